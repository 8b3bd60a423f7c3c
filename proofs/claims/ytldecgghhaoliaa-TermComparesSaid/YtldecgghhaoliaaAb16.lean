/-
  Ab16: what a function is said to compute; a call by it.
-/
import Derived.Test.YtldecgghhaoliaaAb15
namespace Go.Ab
open Go.RowKit
set_option linter.unusedVariables false
set_option linter.unusedSimpArgs false

/-- A row that the caller takes over: its place. -/
def OwnR (F : Bool → Facts) (w : World) (base es : Nat) (xs : List AV) (v : Value) : Option (Nat × Nat) → Prop
  | none => xs = [] ∧ ∃ q, v = .slice q 0 0
  | some (b, cap) => v = .slice (some ⟨b, 0, none⟩) xs.length cap ∧ ObjAt F noloc w (arrO es xs) b cap ∧ base ≤ b ∧ ∀ l k, F l b k = none

/-- One result. -/
def ResV1 (F : Bool → Facts) (w : World) (base : Nat) (p : Option (Nat × Nat)) (v : Value) : AV → Prop
  | .own es xs => OwnR F w base es xs v p
  | r => r.pure = true ∧ RV F noloc r v

/-- The result of a call. -/
def ResV (F : Bool → Facts) (w : World) (base : Nat) (v : Value) : AV → Prop
  | .tup rs => ∃ (vs : Array Value) (ps : Nat → Option (Nat × Nat)), v = .tuple vs ∧ rs.length = vs.size ∧ (∀ (i : Nat) (r : AV) (u : Value), rs[i]? = some r → vs[i]? = some u → ResV1 F w base (ps i) u r) ∧
      ∀ i j b c c', ps i = some (b, c) → ps j = some (b, c') → i = j
  | r => ∃ p, ResV1 F w base p v r

structure Fok (F : Bool → Facts) (w : World) : Prop where
  facts : ∀ l b k v, F l b k = some v → w.cell? ⟨b, k, none⟩ = some v
  sub : Sub F

structure APost (F : Bool → Facts) (w : World) (F' : Bool → Facts) (w' : World) : Prop where
  ok : Fok F' w'
  le : FLe F F'
  lentc : ∀ b k v, F' true b k = some v → F true b k = some v ∨ F' false b k = some v
  newf : ∀ b k v, F' false b k = some v → F false b k = some v ∨ w.heap.size ≤ b
  fr : Fr (fun _ => False) w w'

/-- Called with values that are args, function f returns one of which R holds; nothing that was there has turned. -/
def ACall (P : Program) (f : FuncId) (args : List AV) (R : AV → Prop) : Prop :=
  (∀ cargs w, (callFunc f cargs).run P w = .ok (.enter f cargs) w) ∧
  ∀ (w : World) (F : Bool → Facts) (cargs : Array Value), Fok F w → args.length = cargs.size → (∀ (i : Nat) (a : AV) (v : Value), args[i]? = some a → cargs[i]? = some v → RV F noloc a v) →
    Calls P f cargs w fun e w' => ∃ v r F', e = .returned v ∧ R r ∧ APost F w F' w' ∧ ResV F' w' w.heap.size v r

theorem ACall.mono {P f args} {R R' : AV → Prop} (h : ACall P f args R) (hR : ∀ r, R r → R' r) : ACall P f args R' :=
  ⟨h.1, fun w F cargs h1 h2 h3 => (h.2 w F cargs h1 h2 h3).mono fun e w' ⟨v, r, F', g1, g2, g3, g4⟩ => ⟨v, r, F', g1, hR r g2, g3, g4⟩⟩

/-- The cells off .. of a box, cut into n elements. -/
def chunk (cs : List AV) (off es : Nat) : AV := if es = 1 then cs.getD off .dead else .agg ((cs.drop off).take es)

/-- A value as a callee sees it that keeps nothing of it. -/
def lend1 (o : Objs) : AV → Option AV
  | .ref L lo n => match lk o L with
    | some x => if x.arr = true then some (.list (!x.fz) false (seg x.xs lo n)) else none
    | none => none
  | .ptr L i k => match lk o L with
    | some x => if x.arr = true ∨ AV.pureL x.xs = true then some (.iptr true x.xs i k) else none
    | none => none
  | .aref L i k es n => match lk o L with
    | some x => match x.xs[i]? with
      | some y => if y.pure = true ∧ k + n * es ≤ y.cells.length ∧ n ≤ 1048576 ∧ y.isAgg = true then some (.list true false ((List.range n).map fun j => chunk y.cells (k + j * es) es)) else none
      | none => none
    | none => none
  | .sc v => some (.sc v)
  | .list l f xs => some (.list l f xs)
  | .iptr l xs i k => some (.iptr l xs i k)
  | .dead => some .dead
  | _ => none
def lendL (o : Objs) : List AV → Option (List AV)
  | [] => some []
  | a :: r => match lend1 o a with
    | some b => match lendL o r with
      | some bs => some (b :: bs)
      | none => none
    | none => none
def lend (o : Objs) : AV → Option AV
  | .agg cs => (lendL o cs).map .agg
  | .clo g cs => (lendL o cs).map (.clo g)
  | a => lend1 o a
def lendAll (o : Objs) : List AV → Option (List AV)
  | [] => some []
  | a :: r => match lend o a with
    | some b => match lendAll o r with
      | some bs => some (b :: bs)
      | none => none
    | none => none

/-- During such a call every cell that is there is lent. -/
def callF (F : Bool → Facts) (w : World) : Bool → Facts := fun l b k => if l = true then w.cell? ⟨b, k, none⟩ else F false b k

theorem callF_ok {C F μ o w} (h : SW C F μ o w) : Fok (callF F w) w :=
  ⟨fun l b k v hv => by
    cases l
    · exact h.facts false b k v hv
    · exact hv, fun b k v hv => h.facts false b k v hv⟩
theorem callF_le {C F μ o w} (h : SW C F μ o w) : FLe F (callF F w) := fun l b k v hv => by
  cases l
  · exact hv
  · exact h.facts true b k v hv

theorem pureL_mem : ∀ {cs : List AV} {y : AV}, AV.pureL cs = true → y ∈ cs → y.pure = true
  | [], _, _, h => by simp at h
  | c :: cs, y, h, hy => by
    simp [AV.pureL] at h
    rcases List.mem_cons.1 hy with rfl | hy
    · exact h.1
    · exact pureL_mem h.2 hy

theorem chunk_cells {cs : List AV} {off es : Nat} (h : off + es ≤ cs.length) (hc : ∀ a ∈ cs, a.isAgg = false) : (chunk cs off es).cells = (cs.drop off).take es := by
  unfold chunk
  split
  · rename_i h1
    subst h1
    have hlt : off < cs.length := by omega
    rw [List.getD_eq_getElem?_getD, List.getElem?_eq_getElem hlt, Option.getD_some, cells_not_agg (hc _ (List.getElem_mem hlt))]
    rw [List.drop_eq_getElem_cons hlt]; rfl
  · rfl

theorem lend1_sound {C F μ} {o : Objs} {w : World} (h : SW C F μ o w) {a b : AV} (he : lend1 o a = some b) {v : Value} (hv : RV F (locOf o μ) a v) : RV (callF F w) noloc b v := by
  unfold lend1 at he
  split at he
  · rename_i L lo n
    split at he
    · rename_i x hg
      split at he
      · rename_i ha
        obtain rfl := Option.some.inj he
        refine RV.row (G := callF F w) hg (h.obj L x hg) ha hv (fun l b k u hu => hu) (fun b cap hm i y j a u hy hj hu => ?_) noloc
        cases hz : x.fz with
        | false => exact hu
        | true =>
          have ho := h.obj L x hg
          rw [hm] at ho
          obtain ⟨c, e, q1, q2, q3, q4, q5, q6, q7⟩ := ho.std (ref_kd hv hg)
          obtain ⟨u', g1, g2, g3, g4⟩ := q6 i y j a hy hj
          have : u' = u := by simp [World.cell?, q1, g1] at hu; exact hu
          subst this
          exact g4 hz
      · cases he
    · cases he
  · rename_i L i k
    split at he
    · rename_i x hg
      split at he
      · rename_i hc
        obtain rfl := Option.some.inj he
        have hloc : locOf o μ L = some (locO x (μ L)) := by simp [locOf, hg]
        cases hv with
        | @ptr _ _ _ _ _ b cap es len g1 g2 =>
          rw [hloc] at g1
          obtain ⟨hm, rfl, rfl, hk1⟩ := locO_std (Option.some.inj g1)
          have ho := h.obj L x hg
          rw [hm] at ho
          have hcell : ∀ (i : Nat) (y : AV) (j : Nat) (a : AV), x.xs[i]? = some y → y.cells[j]? = some a → ∃ u, w.cell? ⟨b, i * x.es + j, none⟩ = some u ∧ one u = true ∧ RV (sh F) noloc a u := by
            intro i y j a hy hj
            obtain ⟨u, r1, r2, r3⟩ := ObjAt.cell ho hk1 hy hj
            refine ⟨u, r1, r2, ?_⟩
            cases harr : x.arr with
            | true => rw [harr] at r3; exact r3
            | false =>
              rw [harr] at r3
              have hp : AV.pureL x.xs = true := by rcases hc with hc | hc; · rw [harr] at hc; cases hc
                                                   · exact hc
              exact RV.shared r3 (cells_pure (pureL_mem hp (List.mem_of_getElem? hy)) hj)
          obtain ⟨c, e, q1, q2, q3, q4, q5, q6, q7⟩ := ho.std hk1
          have key := @RV.iptr (callF F w) noloc true x.xs b 0 x.es i k (fun i j => (w.cell? ⟨b, i * x.es + j, none⟩).getD .nilIface) q5 g2
            (fun i y j a hy hj => by
              obtain ⟨u, r1, r2, r3⟩ := hcell i y j a hy hj
              rw [Nat.zero_add]
              show w.cell? _ = _
              rw [r1]; rfl)
            (fun i y j a hy hj => by
              obtain ⟨u, r1, r2, r3⟩ := hcell i y j a hy hj
              simp only [r1, Option.getD_some]; exact r3)
            (fun i y j a hy hj => by
              obtain ⟨u, r1, r2, r3⟩ := hcell i y j a hy hj
              simp only [r1, Option.getD_some]; exact r2)
          rw [Nat.zero_add] at key
          exact key
      · cases he
    · cases he
  · rename_i L i k es n
    split at he
    · rename_i x hg
      split at he
      · rename_i y hy
        split at he
        · rename_i hc
          obtain ⟨hp, hle, hn, hag⟩ := hc
          obtain rfl := Option.some.inj he
          have hloc : locOf o μ L = some (locO x (μ L)) := by simp [locOf, hg]
          cases hv with
          | @aref _ _ _ _ _ b cap es' len e _ off c g1 g2 g3 g4 =>
            rw [hloc] at g1
            obtain ⟨hm, rfl, rfl, hk1⟩ := locO_std (Option.some.inj g1)
            have ho := h.obj L x hg
            rw [hm] at ho
            have hcell : ∀ (j : Nat) (a : AV), y.cells[j]? = some a → ∃ u, w.cell? ⟨b, i * x.es + j, none⟩ = some u ∧ one u = true ∧ RV (sh F) noloc a u := by
              intro j a hj
              obtain ⟨u, r1, r2, r3⟩ := ObjAt.cell ho hk1 hy hj
              refine ⟨u, r1, r2, ?_⟩
              cases harr : x.arr with
              | true => rw [harr] at r3; exact r3
              | false => rw [harr] at r3; exact RV.shared r3 (cells_pure hp hj)
            have hna : ∀ a ∈ y.cells, a.isAgg = false := by
              intro a ha
              obtain ⟨j, hj⟩ := List.getElem?_of_mem ha
              obtain ⟨u, r1, r2, r3⟩ := hcell j a hj
              cases a with
              | agg cs => cases r3; simp [Value.oneCell'] at r2
              | _ => rfl
            have hch : ∀ j, j < n → (chunk y.cells (k + j * es) es).cells = (y.cells.drop (k + j * es)).take es := fun j hj => by
              refine chunk_cells ?_ hna
              have : (j + 1) * es ≤ n * es := Nat.mul_le_mul_right _ hj
              rw [Nat.add_mul] at this; omega
            have hel : ∀ (q : Nat) (z : AV) (j : Nat) (a : AV), ((List.range n).map fun j => chunk y.cells (k + j * es) es)[q]? = some z → z.cells[j]? = some a → y.cells[k + (q * es + j)]? = some a ∧ q < n := by
              intro q z j a hz hj
              obtain ⟨hq, rfl⟩ := range_map hz
              rw [hch q hq, List.getElem?_take] at hj
              split at hj
              · rw [List.getElem?_drop] at hj
                exact ⟨by rw [← Nat.add_assoc]; exact hj, hq⟩
              · cases hj
            have hlen : ((List.range n).map fun j => chunk y.cells (k + j * es) es).length = n := by simp
            have key := @RV.list (callF F w) noloc true false ((List.range n).map fun j => chunk y.cells (k + j * es) es) b (i * x.es + k) off c es (fun q j => (w.cell? ⟨b, i * x.es + k + q * es + j, none⟩).getD .nilIface)
              (fun z hz => by
                obtain ⟨q, hq, rfl⟩ := List.mem_map.1 hz
                have hq' : q < n := by simpa using hq
                rw [hch q hq', List.length_take, List.length_drop]
                have : (q + 1) * es ≤ n * es := Nat.mul_le_mul_right _ hq'
                rw [Nat.add_mul] at this; omega)
              (by rw [hlen]; exact g3) (by rw [hlen]; unfold maxRow; omega) (fun hf => by cases hf) (fun hne => g4 (by rintro rfl; simp at hne))
              (fun q z j a hz hj => by
                obtain ⟨hj', hq⟩ := hel q z j a hz hj
                obtain ⟨u, r1, r2, r3⟩ := hcell _ a hj'
                show w.cell? _ = _
                rw [show i * x.es + k + q * es + j = i * x.es + (k + (q * es + j)) by omega, r1]; rfl)
              (fun q z j a hz hj => by
                obtain ⟨hj', hq⟩ := hel q z j a hz hj
                obtain ⟨u, r1, r2, r3⟩ := hcell _ a hj'
                show RV (sh (callF F w)) noloc a ((w.cell? ⟨b, i * x.es + k + q * es + j, none⟩).getD .nilIface)
                rw [show i * x.es + k + q * es + j = i * x.es + (k + (q * es + j)) by omega, r1]; exact r3)
              (fun q z j a hz hj => by
                obtain ⟨hj', hq⟩ := hel q z j a hz hj
                obtain ⟨u, r1, r2, r3⟩ := hcell _ a hj'
                show one ((w.cell? ⟨b, i * x.es + k + q * es + j, none⟩).getD .nilIface) = true
                rw [show i * x.es + k + q * es + j = i * x.es + (k + (q * es + j)) by omega, r1]; exact r2)
            rw [hlen] at key
            exact key
        · cases he
      · cases he
    · cases he
  · obtain rfl := Option.some.inj he; cases hv; constructor; assumption
  · obtain rfl := Option.some.inj he; exact hv.congr (callF_le h) (fun L hL => by simp [AV.has] at hL)
  · obtain rfl := Option.some.inj he; exact hv.congr (callF_le h) (fun L hL => by simp [AV.has] at hL)
  · obtain rfl := Option.some.inj he; exact .dead
  · cases he

theorem lendL_sound {C F μ} {o : Objs} {w : World} (h : SW C F μ o w) : ∀ {cs ds : List AV}, lendL o cs = some ds → ds.length = cs.length ∧ ∀ (i : Nat) (a b : AV), cs[i]? = some a → ds[i]? = some b → ∀ v, RV F (locOf o μ) a v → RV (callF F w) noloc b v
  | [], ds, he => by simp [lendL] at he; subst he; exact ⟨rfl, fun i a b ha => by simp at ha⟩
  | c :: cs, ds, he => by
    simp only [lendL] at he
    split at he
    · rename_i b h1
      split at he
      · rename_i bs h2
        obtain rfl := Option.some.inj he
        obtain ⟨g1, g2⟩ := lendL_sound h h2
        refine ⟨by simp [g1], fun i x y hx hy v hv => ?_⟩
        cases i with
        | zero => simp at hx hy; subst hx; subst hy; exact lend1_sound h h1 hv
        | succ i => simp at hx hy; exact g2 i x y hx hy v hv
      · cases he
    · cases he

theorem lend_sound {C F μ} {o : Objs} {w : World} (h : SW C F μ o w) {a b : AV} (he : lend o a = some b) {v : Value} (hv : RV F (locOf o μ) a v) : RV (callF F w) noloc b v := by
  unfold lend at he
  split at he
  · rename_i cs
    cases hl : lendL o cs with
    | none => simp [hl] at he
    | some ds =>
      simp [hl] at he
      subst he
      obtain ⟨g1, g2⟩ := lendL_sound h hl
      cases hv with
      | agg h1 h2 h3 =>
        refine .agg (by omega) (fun i b u hb hu => ?_) h3
        have hi : i < cs.length := by rw [← g1]; exact (List.getElem?_eq_some_iff.1 hb).1
        exact g2 i cs[i] b (by simp [hi]) hb u (h2 i cs[i] u (by simp [hi]) hu)
  · rename_i g cs
    cases hl : lendL o cs with
    | none => simp [hl] at he
    | some ds =>
      simp [hl] at he
      subst he
      obtain ⟨g1, g2⟩ := lendL_sound h hl
      cases hv with
      | clo h1 h2 =>
        refine .clo (by omega) (fun i b u hb hu => ?_)
        have hi : i < cs.length := by rw [← g1]; exact (List.getElem?_eq_some_iff.1 hb).1
        exact g2 i cs[i] b (by simp [hi]) hb u (h2 i cs[i] u (by simp [hi]) hu)
  · exact lend1_sound h he hv

theorem lendAll_sound {C F μ} {o : Objs} {w : World} (h : SW C F μ o w) : ∀ {cs ds : List AV}, lendAll o cs = some ds → ds.length = cs.length ∧ ∀ (i : Nat) (a b : AV), cs[i]? = some a → ds[i]? = some b → ∀ v, RV F (locOf o μ) a v → RV (callF F w) noloc b v
  | [], ds, he => by simp [lendAll] at he; subst he; exact ⟨rfl, fun i a b ha => by simp at ha⟩
  | c :: cs, ds, he => by
    simp only [lendAll] at he
    split at he
    · rename_i b h1
      split at he
      · rename_i bs h2
        obtain rfl := Option.some.inj he
        obtain ⟨g1, g2⟩ := lendAll_sound h h2
        refine ⟨by simp [g1], fun i x y hx hy v hv => ?_⟩
        cases i with
        | zero => simp at hx hy; subst hx; subst hy; exact lend_sound h h1 hv
        | succ i => simp at hx hy; exact g2 i x y hx hy v hv
      · cases he
    · cases he

end Go.Ab
