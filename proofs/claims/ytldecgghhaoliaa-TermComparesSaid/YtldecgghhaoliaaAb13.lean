/-
  Ab13: rows of cells; an object that takes another's place.
-/
import Derived.Test.YtldecgghhaoliaaAb12
namespace Go.Ab
open Go.RowKit
set_option linter.unusedVariables false
set_option linter.unusedSimpArgs false

/-- The cells cs hold the elements ys, es cells each. -/
def ERow (F : Bool → Facts) (ys : List AV) (es : Nat) (cs : List Value) : Prop :=
  cs.length = ys.length * es ∧ (∀ y ∈ ys, y.cells.length = es) ∧ (∀ v ∈ cs, one v = true) ∧
  ∀ (i : Nat) (y : AV) (j : Nat) (a : AV), ys[i]? = some y → y.cells[j]? = some a → ∃ v, cs[i * es + j]? = some v ∧ RV (sh F) noloc a v

theorem ERow.nil {F es} : ERow F [] es [] := ⟨by simp, by simp, by simp, fun i y j a h => by simp at h⟩

theorem ERow.one {F es ys cs} (h : ERow F ys es cs) {k : Nat} {v : Value} (hv : cs[k]? = some v) : one v = true := h.2.2.1 v (List.mem_of_getElem? hv)

theorem ERow.append {F es ys zs cs ds} (h : ERow F ys es cs) (k : ERow F zs es ds) : ERow F (ys ++ zs) es (cs ++ ds) := by
  obtain ⟨h1, h2, h3, h4⟩ := h
  obtain ⟨k1, k2, k3, k4⟩ := k
  refine ⟨by simp [h1, k1, Nat.add_mul], fun y hy => ?_, fun v hv => ?_, fun i y j a hy hj => ?_⟩
  · rcases List.mem_append.1 hy with hy | hy
    · exact h2 y hy
    · exact k2 y hy
  · rcases List.mem_append.1 hv with hv | hv
    · exact h3 v hv
    · exact k3 v hv
  · by_cases hi : i < ys.length
    · rw [List.getElem?_append_left hi] at hy
      obtain ⟨v, g1, g2⟩ := h4 i y j a hy hj
      refine ⟨v, ?_, g2⟩
      rw [List.getElem?_append_left (List.getElem?_eq_some_iff.1 g1).1]
      exact g1
    · rw [List.getElem?_append_right (by omega)] at hy
      obtain ⟨v, g1, g2⟩ := k4 _ y j a hy hj
      refine ⟨v, ?_, g2⟩
      have hmul : ys.length * es ≤ i * es := Nat.mul_le_mul_right _ (by omega)
      rw [List.getElem?_append_right (by omega), h1]
      rw [Nat.sub_mul] at g1
      rw [show i * es + j - ys.length * es = i * es - ys.length * es + j by omega]
      exact g1

theorem ERow.take {F es ys cs} (h : ERow F ys es cs) (n : Nat) : ERow F (ys.take n) es (cs.take (n * es)) := by
  obtain ⟨h1, h2, h3, h4⟩ := h
  refine ⟨?_, fun y hy => h2 y (List.mem_of_mem_take hy), fun v hv => h3 v (List.mem_of_mem_take hv), fun i y j a hy hj => ?_⟩
  · rw [List.length_take, List.length_take, h1]
    rcases Nat.le_total n ys.length with hh | hh
    · rw [Nat.min_eq_left hh, Nat.min_eq_left (Nat.mul_le_mul_right _ hh)]
    · rw [Nat.min_eq_right hh, Nat.min_eq_right (Nat.mul_le_mul_right _ hh)]
  · rw [List.getElem?_take] at hy
    split at hy
    · rename_i hi
      obtain ⟨v, g1, g2⟩ := h4 i y j a hy hj
      have hjl : j < es := by
        rw [← h2 y (List.mem_of_getElem? hy)]; exact (List.getElem?_eq_some_iff.1 hj).1
      have : (i + 1) * es ≤ n * es := Nat.mul_le_mul_right _ hi
      rw [Nat.add_mul] at this
      exact ⟨v, by rw [List.getElem?_take, if_pos (by omega)]; exact g1, g2⟩
    · cases hy

theorem ERow.mono {F G es ys cs} (h : ERow F ys es cs) (hF : FLe F G) : ERow G ys es cs :=
  ⟨h.1, h.2.1, h.2.2.1, fun i y j a hy hj => by obtain ⟨v, g1, g2⟩ := h.2.2.2 i y j a hy hj; exact ⟨v, g1, g2.mono hF.sh⟩⟩

/-- A row in memory, loaded. -/
theorem ERow.load {F : Bool → Facts} {ys : List AV} {es b p : Nat} {w : World} (hes : ∀ y ∈ ys, y.cells.length = es)
    (H : ∀ (i : Nat) (y : AV) (j : Nat) (a : AV), ys[i]? = some y → y.cells[j]? = some a → ∃ v, w.cell? ⟨b, p + (i * es + j), none⟩ = some v ∧ Ab.one v = true ∧ RV (sh F) noloc a v) (P : Program) :
    ∃ cs, ERow F ys es cs ∧ (loadCells ⟨b, p, none⟩ (ys.length * es)).run P w = .ok cs.toArray w := by
  have hcell : ∀ k, k < ys.length * es → ∃ v, w.cell? ⟨b, p + k, none⟩ = some v ∧ Ab.one v = true := by
    intro k hk
    have hpos : 0 < es := by
      rcases Nat.eq_zero_or_pos es with e | e
      · subst e; simp at hk
      · exact e
    have hi : k / es < ys.length := Nat.div_lt_of_lt_mul (by rw [Nat.mul_comm]; exact hk)
    have hj : k % es < es := Nat.mod_lt _ hpos
    have hy : ys[k / es]? = some ys[k / es] := by simp [hi]
    have hyl : ys[k / es].cells.length = es := hes _ (List.getElem_mem hi)
    have ha : ys[k / es].cells[k % es]? = some (ys[k / es].cells[k % es]'(by omega)) := by simp [hyl, hj]
    obtain ⟨v, g1, g2, g3⟩ := H _ _ _ _ hy ha
    rw [show k / es * es + k % es = k from by rw [Nat.mul_comm]; exact Nat.div_add_mod k es] at g1
    exact ⟨v, g1, g2⟩
  let f : Nat → Value := fun k => (w.cell? ⟨b, p + k, none⟩).getD .nilIface
  have hf : ∀ k, k < ys.length * es → w.cell? ⟨b, p + k, none⟩ = some (f k) ∧ Ab.one (f k) = true := fun k hk => by
    obtain ⟨v, g1, g2⟩ := hcell k hk
    simp only [f, g1, Option.getD_some]
    exact ⟨trivial, g2⟩
  refine ⟨(List.range (ys.length * es)).map f, ⟨by simp, hes, fun v hv => ?_, fun i y j a hy hj => ?_⟩, ?_⟩
  · obtain ⟨k, hk, rfl⟩ := List.mem_map.1 hv
    exact (hf k (by simpa using hk)).2
  · obtain ⟨v, g1, g2, g3⟩ := H i y j a hy hj
    have hi : i < ys.length := (List.getElem?_eq_some_iff.1 hy).1
    have hjl : j < es := by rw [← hes y (List.mem_of_getElem? hy)]; exact (List.getElem?_eq_some_iff.1 hj).1
    have hlt : i * es + j < ys.length * es := by
      have : (i + 1) * es ≤ ys.length * es := Nat.mul_le_mul_right _ hi
      rw [Nat.add_mul] at this; omega
    refine ⟨v, ?_, g3⟩
    rw [List.getElem?_map, List.getElem?_range hlt]
    simp [f, g1]
  · have := run_loadCells_list (P := P) w ⟨b, p, none⟩ ((List.range (ys.length * es)).map f) (fun j v hv => by
      obtain ⟨hj, rfl⟩ := range_map hv
      rw [add_none]
      exact (hf j hj).1)
    simpa using this

/-- The elements of a slice. -/
def elemsOf (o : Objs) : AV → Option (List AV)
  | .list _ _ ys => some ys
  | .ref L lo n => match lk o L with
    | some x => if x.arr = true then some (seg x.xs lo n) else none
    | none => none
  | _ => none

theorem ref_kd {F : Bool → Facts} {o : Objs} {μ : Pl} {L lo n : Nat} {x : AObj} {v : Value} (h : RV F (locOf o μ) (.ref L lo n) v) (hg : lk o L = some x) : x.kd ≠ 1 := by
  cases h with
  | ref g1 => simp only [locOf, hg, Option.map_some] at g1; exact (locO_std (Option.some.inj g1)).2.2.2
  | refNil g1 => simp only [locOf, hg, Option.map_some] at g1; exact (locO_std (Option.some.inj g1)).2.2.2
theorem ObjAt.erow {F loc w} {x : AObj} {b cap : Nat} (h : ObjAt F loc w x b cap) (hk : x.kd ≠ 1) (ha : x.arr = true) (hs : Sub F) : (∀ y ∈ x.xs, y.cells.length = x.es) ∧
    ∀ (i : Nat) (y : AV) (j : Nat) (a : AV), x.xs[i]? = some y → y.cells[j]? = some a → ∃ v, w.cell? ⟨b, i * x.es + j, none⟩ = some v ∧ one v = true ∧ RV (sh F) noloc a v := by
  refine ⟨by obtain ⟨c, e, q1, q2, q3, q4, q5, q6, q7⟩ := h.std hk; exact q5, fun i y j a hy hj => ?_⟩
  obtain ⟨v, g1, g2, g3⟩ := ObjAt.cell h hk hy hj
  rw [ha] at g3
  exact ⟨v, g1, g2, g3⟩

/-- A byte. -/
def bAV (c : UInt8) : AV := .sc (.int .u8 c.toNat)
/-- What append takes: a slice or a string. -/
def srcOf (o : Objs) : AV → Option (List AV)
  | .sc (.string s) => some (s.data.toList.map bAV)
  | a => elemsOf o a
/-- The first m elements of a slice, loaded. -/
theorem elems_load {P : Program} {C F μ} {o : Objs} {w : World} (hw : SW C F μ o w) {b : AV} {v : Value} {ys : List AV} (he : elemsOf o b = some ys) (hb : RV F (locOf o μ) b v) {es : Nat} (hes : ∀ y ∈ ys, y.cells.length = es) :
    (∃ base c, v = .slice base ys.length c) ∧ ∃ cs, ERow F ys es cs ∧ (Builtin.firstCells es ys.length v).run P w = .ok cs.toArray w := by
  unfold elemsOf at he
  split at he
  · rename_i l1 l2 xs
    obtain rfl := Option.some.inj he
    cases hb with
    | @nil _ _ _ _ base =>
      refine ⟨⟨base, 0, rfl⟩, [], ERow.nil, ?_⟩
      cases base <;> simp [Builtin.firstCells, loadCells, loadCellsFrom]
    | @list _ _ _ _ _ b o o' cap es' f g1 g2 g3 g4 g5 g6 g7 g8 =>
      refine ⟨⟨_, _, rfl⟩, ?_⟩
      cases xs with
      | nil => exact ⟨[], ERow.nil, by simp [Builtin.firstCells, loadCells, loadCellsFrom]⟩
      | cons x xs =>
        have hee : es' = es := (g1 x (by simp)).symm.trans (hes x (by simp))
        subst hee
        obtain rfl := g5 (by simp)
        obtain ⟨cs, k1, k2⟩ := ERow.load (F := F) (ys := x :: xs) (es := es') (b := b) (p := o') (w := w) g1 (fun i y j a hy hj => ⟨f i j, by rw [← Nat.add_assoc]; exact hw.facts _ _ _ _ (g6 i y j a hy hj), g8 i y j a hy hj, g7 i y j a hy hj⟩) P
        exact ⟨cs, k1, by simpa [Builtin.firstCells] using k2⟩
  · rename_i L lo n
    split at he
    · rename_i x hg
      split at he
      · rename_i ha
        obtain rfl := Option.some.inj he
        have hloc : locOf o μ L = some (locO x (μ L)) := by simp [locOf, hg]
        cases hb with
        | @refNil _ _ _ es0 len0 base g =>
          rw [hloc] at g
          obtain ⟨hm, -, -, -⟩ := locO_std (Option.some.inj g)
          have ho := hw.obj L x hg
          rw [hm] at ho
          have hx : x.xs = [] := ho
          rw [hx]
          refine ⟨⟨base, 0, rfl⟩, [], ERow.nil, ?_⟩
          cases base <;> simp [Builtin.firstCells, loadCells, loadCellsFrom, seg]
        | @ref _ _ _ _ _ b cap es' len p c g1 g2 g3 g4 g5 =>
          rw [hloc] at g1
          obtain ⟨hm, rfl, rfl, hk1⟩ := locO_std (Option.some.inj g1)
          have hlen := seg_length (xs := x.xs) g2
          rw [hlen]
          refine ⟨⟨_, _, rfl⟩, ?_⟩
          rcases Nat.eq_zero_or_pos n with h0 | h0
          · subst h0
            have : seg x.xs lo 0 = [] := List.length_eq_zero_iff.1 hlen
            rw [this]
            exact ⟨[], ERow.nil, by simp [Builtin.firstCells, loadCells, loadCellsFrom]⟩
          · have ho := hw.obj L x hg
            rw [hm] at ho
            obtain ⟨q1, q2⟩ := ObjAt.erow ho hk1 ha hw.sub
            have hget : ∀ (i : Nat) (y : AV), (seg x.xs lo n)[i]? = some y → x.xs[lo + i]? = some y := fun i y hy => by
              rw [seg_get g2] at hy
              split at hy
              · exact hy
              · cases hy
            have h0s : 0 < (seg x.xs lo n).length := by omega
            have hee : x.es = es := (q1 _ (seg_mem (List.getElem_mem h0s))).symm.trans (hes _ (List.getElem_mem h0s))
            subst hee
            have hp := g4 (.inl (by omega))
            obtain ⟨cs, k1, k2⟩ := ERow.load (F := F) (ys := seg x.xs lo n) (es := x.es) (b := b) (p := p) (w := w) hes (fun i y j a hy hj => by
              obtain ⟨v, r1, r2, r3⟩ := q2 (lo + i) y j a (hget i y hy) hj
              refine ⟨v, ?_, r2, r3⟩
              rw [hp, ← Nat.add_assoc, ← Nat.add_mul]; exact r1) P
            rw [hlen] at k2
            exact ⟨cs, k1, by simpa [Builtin.firstCells] using k2⟩
      · cases he
    · cases he
  · cases he

/-- The state without the object L. -/
def del (o : Objs) (L : Nat) : Objs := o.filter fun p => !decide (p.1 = L)
theorem get_del : ∀ (o : Objs) (L i : Nat), lk (del o L) i = if L = i then none else lk o i
  | [], L, i => by simp [del, lk]
  | (k, x) :: o, L, i => by
    simp only [del, List.filter_cons]
    by_cases hk : k = L
    · subst hk
      simp only [decide_true, Bool.not_true, Bool.false_eq_true, if_false]
      have := get_del o k i
      simp only [del] at this
      rw [this]
      by_cases hi : k = i
      · simp [hi]
      · simp [hi, lk]
    · simp only [hk, decide_false, Bool.not_false, if_true, lk]
      have := get_del o L i
      simp only [del] at this
      rw [this]
      by_cases hki : k = i
      · subst hki; simp [Ne.symm hk]
      · simp [hki]

theorem kl_has_le {L T : Nat} {a : AV} (h : (kl L a).has T = true) : a.has T = true := by
  unfold kl at h
  split at h
  · simp [AV.has] at h
  · exact h
theorem hasL_map_le {f : AV → AV} {T : Nat} (hf : ∀ a, (f a).has T = true → a.has T = true) : ∀ {cs : List AV}, AV.hasL T (cs.map f) = true → AV.hasL T cs = true
  | [], h => by simp [AV.hasL] at h
  | c :: cs, h => by
    simp only [List.map_cons, AV.hasL, Bool.or_eq_true] at h ⊢
    exact h.imp (hf c) (hasL_map_le hf)
theorem kill1_has_le {L T : Nat} {a : AV} (h : (kill1 L a).has T = true) : a.has T = true := by
  cases ha : a.isAgg with
  | true =>
    cases a with
    | agg cs => simp only [kill1, AV.has] at h ⊢; exact hasL_map_le (fun _ => kl_has_le) h
    | _ => simp [AV.isAgg] at ha
  | false =>
    have : kill1 L a = kl L a := by cases a <;> first | rfl | (simp [AV.isAgg] at ha)
    rw [this] at h
    exact kl_has_le h
theorem killX_has {L T : Nat} {x : AObj} (h : AV.hasL T (killX L x).xs = true) : AV.hasL T x.xs = true := by
  unfold killX at h
  split at h
  · exact h
  · exact hasL_map_le (fun _ => kill1_has_le) h

/-- The object L gives way to the object T, at the place p; slot d holds r. -/
def ASt.renew (s : ASt) (L T d : Nat) (x : AObj) (r : AV) : ASt := { n := s.n, t := (d, r) :: killT L (killT T s.t), o := (T, x) :: killO L (killO T (del s.o L)) }

def ASt.renew0 (s : ASt) (L T : Nat) (x : AObj) : ASt := { n := s.n, t := killT L (killT T s.t), o := (T, x) :: killO L (killO T (del s.o L)) }

/-- A block that is the walk's own and no object's. -/
structure Nb (C : Cx) (F : Bool → Facts) (μ : Pl) (o : Objs) (b : Nat) : Prop where
  mine : C.w0.heap.size ≤ b
  excl : ∀ l k, F l b k = none
  free : ∀ i y c, lk o i = some y → μ i = some (b, c) → False

theorem SW.nb {C F μ} {o : Objs} {w : World} (h : SW C F μ o w) {b : Nat} (hb : w.heap.size ≤ b) : Nb C F μ o b := by
  refine ⟨Nat.le_trans h.fr.size hb, fun l k => ?_, fun i y c hy hm => ?_⟩
  · cases hF : F l b k with
    | none => rfl
    | some u => have := cell_lt (h.facts l b k u hF); omega
  · have := h.obj i y hy
    rw [hm] at this
    obtain ⟨_, g⟩ := ObjAt.lt this
    have := get_block_lt g; omega

theorem SR.renew0x {C F μ} {s : ASt} {a : Act} {w w' : World} (h : SR C F μ s a w) {L T : Nat} {x : AObj} {p : Option (Nat × Nat)} (hz : x.fz = false) (hpin : x.pin = false)
    (hw : Fr (fun k => ∃ y c, lk s.o L = some y ∧ y.fz = false ∧ μ L = some (k, c)) w w')
    (ho : ObjR F noloc w' x p) (hp : ∀ b c, p = some (b, c) → Nb C F μ s.o b ∨ ∃ y c', lk s.o L = some y ∧ y.fz = false ∧ μ L = some (b, c')) :
    SR C F (upd μ T p) (s.renew0 L T x) a w' := by
  have hsw := h.sw
  have hlt : ∀ l b k u, F l b k = some u → b < w.heap.size := fun l b k u hu => cell_lt (hsw.facts l b k u hu)
  have hget : ∀ i, lk (s.renew0 L T x).o i = if T = i then some x else if L = i then none else (lk s.o i).map (fun y => killX L (killX T y)) := fun i => by
    simp only [ASt.renew0, lk, get_killO, get_del]
    by_cases h1 : T = i
    · simp [h1]
    · by_cases h2 : L = i
      · simp [h1, h2]
      · simp [h1, h2, Option.map_map]; rfl
  have hkx : ∀ y : AObj, (killX L (killX T y)).es = y.es ∧ (killX L (killX T y)).xs.length = y.xs.length ∧ (killX L (killX T y)).pin = y.pin ∧ (killX L (killX T y)).fz = y.fz ∧ (killX L (killX T y)).arr = y.arr := fun y => by
    obtain ⟨a1, a2, a3, a4, a5⟩ := killX_es L (killX T y)
    obtain ⟨b1, b2, b3, b4, b5⟩ := killX_es T y
    exact ⟨a1.trans b1, a2.trans b2, a3.trans b3, a4.trans b4, a5.trans b5⟩
  have hloc : ∀ i, i ≠ T → i ≠ L → locOf (s.renew0 L T x).o (upd μ T p) i = locOf s.o μ i := fun i h1 h2 => by
    simp only [locOf, hget, if_neg (Ne.symm h1), if_neg (Ne.symm h2), upd, if_neg h1, Option.map_map]
    congr 1
    funext y
    exact (killX_loc L (killX T y) _).trans (killX_loc T y _)
  have hlocT : locOf (s.renew0 L T x).o (upd μ T p) T = some (locO x (p)) := by simp [locOf, hget, upd]
  have hblk : ∀ i y b cc, lk s.o i = some y → μ i = some (b, cc) → b < w.heap.size := fun i y b cc hy hm => by
    have := hsw.obj i y hy
    rw [hm] at this
    obtain ⟨_, g⟩ := ObjAt.lt this
    exact get_block_lt g
  have hnb : ∀ i y b cc, lk s.o i = some y → μ i = some (b, cc) → i ≠ L → ¬ ∃ y c, lk s.o L = some y ∧ y.fz = false ∧ μ L = some (b, c) := fun i y b cc hy hm hne ⟨z, c, hz1, _, hz2⟩ => hne (hsw.dist i y L z b cc c hy hz1 hm hz2)
  refine ⟨⟨?_, hsw.sub, hsw.lentc, hsw.grow, hsw.newf, ?_, ?_, ?_, ?_, ?_, ?_⟩, h.defers, h.n, ?_⟩
  · intro l b k u hu
    rw [cell_of_block (hw.block b (hlt l b k u hu) ?_)]
    · exact hsw.facts l b k u hu
    · rintro ⟨y, c, hy, hyz, hm⟩
      rw [hsw.excl L y b c hy hm hyz l k] at hu; cases hu
  · refine hsw.fr.trans hw fun k hk ⟨y, c, hy, _, hm⟩ => ?_
    rcases hsw.mine L y k c hy hm with hh | hh
    · omega
    · exact hh
  · intro i y hy
    rw [hget] at hy
    by_cases h1 : T = i
    · rw [if_pos h1] at hy
      obtain rfl := Option.some.inj hy
      subst h1
      simp only [upd, if_true]
      cases p with
      | none => exact ho
      | some q =>
        obtain ⟨b, cap⟩ := q
        rcases ho with ⟨c, e, q1, q2, q3, q4, q5, q6, q7⟩ | ho
        rotate_left
        · exact .inr ho
        refine .inl ⟨c, e, q1, q2, q3, q4, q5, fun i y j a hy hj => ?_, q7⟩
        obtain ⟨u, g1, g2, g3, g4⟩ := q6 i y j a hy hj
        refine ⟨u, g1, g2, ?_, g4⟩
        cases harr : x.arr with
        | true => rw [harr] at g3; exact g3
        | false =>
          rw [harr] at g3
          have g3' : RV F noloc a u := g3
          exact g3'.congr (FLe.refl _) fun L hL => (g3'.noloc_has (fun _ => rfl) L hL).elim
    · rw [if_neg h1] at hy
      by_cases h2 : L = i
      · rw [if_pos h2] at hy; cases hy
      · rw [if_neg h2] at hy
        simp only [Option.map_eq_some_iff] at hy
        obtain ⟨y', hy', rfl⟩ := hy
        have hoy := hsw.obj i y' hy'
        simp only [upd, if_neg (Ne.symm h1)]
        cases hm : μ i with
        | none =>
          rw [hm] at hoy
          have : (killX L (killX T y')).xs.length = y'.xs.length := (hkx y').2.1
          simp only [ObjR] at hoy ⊢
          rw [hoy] at this
          exact List.length_eq_zero_iff.1 this
        | some q =>
          obtain ⟨b, cc⟩ := q
          rw [hm] at hoy
          obtain ⟨g1, g2⟩ := ObjAt.kill hoy T
          obtain ⟨g3, g4⟩ := ObjAt.kill g1 L
          refine g3.congr (hw.block b (hblk i y' b cc hy' hm) (hnb i y' b cc hy' hm (Ne.symm h2))) (FLe.refl _) fun L' hL' => hloc L' ?_ ?_
          · rintro rfl
            rw [killX_has hL'] at g2; cases g2
          · rintro rfl
            rw [g4] at hL'; cases hL'
  · intro i y i' y' b cc cc' hy hy' hm hm'
    rw [hget] at hy hy'
    simp only [upd] at hm hm'
    by_cases h1 : T = i
    · by_cases h1' : T = i'
      · rw [← h1, ← h1']
      · rw [if_neg h1'] at hy'
        rw [if_neg (Ne.symm h1')] at hm'
        rw [if_pos h1.symm] at hm
        by_cases h2' : L = i'
        · rw [if_pos h2'] at hy'; cases hy'
        · rw [if_neg h2'] at hy'
          simp only [Option.map_eq_some_iff] at hy'
          obtain ⟨z, hz', _⟩ := hy'
          rcases hp b cc hm with hh | hh
          · exact (hh.free i' z cc' hz' hm').elim
          · exact (hnb i' z b cc' hz' hm' (Ne.symm h2') hh).elim
    · rw [if_neg h1] at hy
      rw [if_neg (Ne.symm h1)] at hm
      by_cases h2 : L = i
      · rw [if_pos h2] at hy; cases hy
      · rw [if_neg h2] at hy
        simp only [Option.map_eq_some_iff] at hy
        obtain ⟨z1, hz1, _⟩ := hy
        by_cases h1' : T = i'
        · rw [if_pos h1'.symm] at hm'
          rcases hp b cc' hm' with hh | hh
          · exact (hh.free i z1 cc hz1 hm).elim
          · exact (hnb i z1 b cc hz1 hm (Ne.symm h2) hh).elim
        · rw [if_neg h1'] at hy'
          rw [if_neg (Ne.symm h1')] at hm'
          by_cases h2' : L = i'
          · rw [if_pos h2'] at hy'; cases hy'
          · rw [if_neg h2'] at hy'
            simp only [Option.map_eq_some_iff] at hy'
            obtain ⟨z2, hz2, _⟩ := hy'
            exact hsw.dist i z1 i' z2 b cc cc' hz1 hz2 hm hm'
  · intro i y b cc hy hm hyz l k
    rw [hget] at hy
    simp only [upd] at hm
    by_cases h1 : T = i
    · rw [if_pos h1.symm] at hm
      rcases hp b cc hm with hh | ⟨z, c', hz1, hzf, hz2⟩
      · exact hh.excl l k
      · exact hsw.excl L z b c' hz1 hz2 hzf l k
    · rw [if_neg h1] at hy
      rw [if_neg (Ne.symm h1)] at hm
      by_cases h2 : L = i
      · rw [if_pos h2] at hy; cases hy
      · rw [if_neg h2] at hy
        simp only [Option.map_eq_some_iff] at hy
        obtain ⟨z1, hz1, rfl⟩ := hy
        exact hsw.excl i z1 b cc hz1 hm (by rw [← (hkx z1).2.2.2.1]; exact hyz) l k
  · intro i y b cc hy hm
    rw [hget] at hy
    simp only [upd] at hm
    by_cases h1 : T = i
    · rw [if_pos h1.symm] at hm
      rcases hp b cc hm with hh | ⟨z, c', hz1, _, hz2⟩
      · exact .inl hh.mine
      · exact hsw.mine L z b c' hz1 hz2
    · rw [if_neg h1] at hy
      rw [if_neg (Ne.symm h1)] at hm
      by_cases h2 : L = i
      · rw [if_pos h2] at hy; cases hy
      · rw [if_neg h2] at hy
        simp only [Option.map_eq_some_iff] at hy
        obtain ⟨z1, hz1, rfl⟩ := hy
        exact hsw.mine i z1 b cc hz1 hm
  · intro i y x0 h0 hy hpp
    rw [hget] at hy
    by_cases h1 : T = i
    · rw [if_pos h1] at hy
      obtain rfl := Option.some.inj hy
      rw [hpin] at hpp; cases hpp
    · rw [if_neg h1] at hy
      by_cases h2 : L = i
      · rw [if_pos h2] at hy; cases hy
      · rw [if_neg h2] at hy
        simp only [Option.map_eq_some_iff] at hy
        obtain ⟨z1, hz1, rfl⟩ := hy
        obtain ⟨g1, g2, g3, g4, g5⟩ := hkx z1
        have := hsw.keep i z1 x0 h0 hz1 (by rw [← g3]; exact hpp)
        simp only [upd, if_neg (Ne.symm h1), killX_loc, g5]
        exact this
  · intro i y hy
    simp only [ASt.renew0] at hy
    rw [get_killT, get_killT] at hy
    simp only [Option.map_map, Option.map_eq_some_iff] at hy
    obtain ⟨y', hy', rfl⟩ := hy
    refine ((h.slot i y' hy').kill1 (L := T)).kill1.congr (FLe.refl _) fun L' hL' => hloc L' ?_ ?_
    · rintro rfl
      have := kill1_has_le hL'
      rw [kill1_has] at this; cases this
    · rintro rfl
      simp [kill1_has] at hL'

theorem SR.renew0 {C F μ} {s : ASt} {a : Act} {w w' : World} (h : SR C F μ s a w) {L T : Nat} {x : AObj} {p : Option (Nat × Nat)} (hz : x.fz = false) (hpin : x.pin = false) (harr : x.arr = true)
    (hw : Fr (fun k => ∃ y c, lk s.o L = some y ∧ y.fz = false ∧ μ L = some (k, c)) w w')
    (ho : ObjR F noloc w' x p) (hp : ∀ b c, p = some (b, c) → Nb C F μ s.o b ∨ ∃ y c', lk s.o L = some y ∧ y.fz = false ∧ μ L = some (b, c')) :
    SR C F (upd μ T p) (s.renew0 L T x) a w' := h.renew0x hz hpin hw ho hp

theorem SR.renew {C F μ} {s : ASt} {a : Act} {w w' : World} (h : SR C F μ s a w) {L T d : Nat} (hd : d < s.n) {x : AObj} {p : Option (Nat × Nat)} (hz : x.fz = false) (hpin : x.pin = false) (harr : x.arr = true)
    (hw : Fr (fun k => ∃ y c, lk s.o L = some y ∧ y.fz = false ∧ μ L = some (k, c)) w w')
    (ho : ObjR F noloc w' x p) (hp : ∀ b c, p = some (b, c) → Nb C F μ s.o b ∨ ∃ y c', lk s.o L = some y ∧ y.fz = false ∧ μ L = some (b, c')) {r : AV} {v : Value} (hr : ∀ loc : Nat → Option LI, loc T = some (locO x (p)) → RV F loc r v) :
    SR C F (upd μ T p) (s.renew L T d x r) (a.put (some d) v) w' :=
  (h.renew0 hz hpin harr hw ho hp).put (s := s.renew0 L T x) hd (hr _ (by simp [locOf, ASt.renew0, lk, upd]))

end Go.Ab
