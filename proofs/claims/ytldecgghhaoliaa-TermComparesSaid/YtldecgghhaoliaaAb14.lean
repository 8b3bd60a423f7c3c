/-
  Ab14: append, literals of slices, make.
-/
import Derived.Test.YtldecgghhaoliaaAb13
namespace Go.Ab
open Go.RowKit
set_option linter.unusedVariables false
set_option linter.unusedSimpArgs false

theorem growBy_le {need B : Nat} (hB : ∀ c, c < need → c + (c + 768) / 4 ≤ B) : ∀ (n c : Nat), c ≤ B → Builtin.growBy need n c ≤ B
  | 0, c, h => h
  | n + 1, c, h => by
    unfold Builtin.growBy
    split
    · exact h
    · exact growBy_le hB n _ (hB c (by omega))
theorem nextslicecap_le {need c : Nat} (h : c < need) : Builtin.nextslicecap need c ≤ 2 * need + 200 := by
  unfold Builtin.nextslicecap
  split
  · omega
  · split
    · omega
    · exact growBy_le (fun c hc => by omega) 4 c (by omega)

/-- An array's object. -/
def arrO (es : Nat) (xs : List AV) : AObj := { arr := true, fz := false, pin := false, es := es, xs := xs }

def arrK (es : Nat) (xs : List AV) (k : Nat) : AObj := { arr := true, fz := false, pin := false, es := es, xs := xs, kd := k }
/-- The kind of an array of bytes; of no other array anything is kept. -/
def kdE (P : Program) (e : TypeId) : Nat := match P.underlying e with
  | some (.int .u8) => e + 2
  | _ => 0
theorem kdE_or (P : Program) (e : TypeId) : kdE P e = 0 ∨ kdE P e = e + 2 := by
  unfold kdE; split
  · exact .inr rfl
  · exact .inl rfl
/-- A type whose values append takes. -/
def tySrc (P : Program) (t : TypeId) : Bool := match P.underlying t with
  | some (.slice _) => true
  | some .string => true
  | _ => false
theorem tySrc_run {P : Program} {t : TypeId} (h : tySrc P t = true) : (∃ e, ∀ w, (underlying t).run P w = .ok (.slice e) w) ∨ ∀ w, (underlying t).run P w = .ok .string w := by
  unfold tySrc at h
  split at h
  · rename_i e hu; exact .inl ⟨e, run_underlying hu⟩
  · rename_i hu; exact .inr (run_underlying hu)
  · cases h
/-- What a source is as a value. -/
def IsSrc (v : Value) (m : Nat) : Prop := (∃ base c, v = .slice base m c) ∨ ∃ s : ByteArray, v = .string s ∧ s.size = m
theorem IsSrc.len {P : Program} {v : Value} {m : Nat} (h : IsSrc v m) (w : World) : (Builtin.lenOf v).run P w = .ok m w := by
  rcases h with ⟨b, c, rfl⟩ | ⟨s, rfl, rfl⟩ <;> rfl
theorem src_load {P : Program} {C F μ} {o : Objs} {w : World} (hw : SW C F μ o w) {b : AV} {v : Value} {ys : List AV} (he : srcOf o b = some ys) (hb : RV F (locOf o μ) b v) {es : Nat} (hes : ∀ y ∈ ys, y.cells.length = es) :
    IsSrc v ys.length ∧ ∃ cs, ERow F ys es cs ∧ (Builtin.firstCells es ys.length v).run P w = .ok cs.toArray w := by
  unfold srcOf at he
  split at he
  · rename_i s
    obtain rfl := Option.some.inj he
    cases hb
    refine ⟨.inr ⟨s, rfl, by simp⟩, s.data.toList.map fun c => .int .u8 c.toNat, ?_, ?_⟩
    · cases hl : s.data.toList with
      | nil => 
        refine ⟨by simp, by simp, by simp, ?_⟩
        intro i y j a hy; simp at hy
      | cons c r =>
        have he1 : es = 1 := by
          have := hes (bAV c) (by rw [hl]; simp)
          simpa [bAV, AV.cells] using this.symm
        subst he1
        refine ⟨by simp, fun y hy => ?_, fun v hv => ?_, fun i y j a hy hj => ?_⟩
        · obtain ⟨q, _, rfl⟩ := List.mem_map.1 hy; rfl
        · obtain ⟨q, _, rfl⟩ := List.mem_map.1 hv; rfl
        · simp only [List.getElem?_map, Option.map_eq_some_iff] at hy
          obtain ⟨q, hq, rfl⟩ := hy
          cases j with
          | zero =>
            simp [bAV, AV.cells] at hj
            subst hj
            refine ⟨.int .u8 q.toNat, ?_, .sc rfl⟩
            simp only [Nat.mul_one, Nat.add_zero, List.getElem?_map, hq, Option.map_some]
          | succ j => simp [bAV, AV.cells] at hj
    · have hx : (s.extract 0 s.data.toList.length) = s := by
        have : s.data.toList.length = s.size := by simp
        rw [this]
        exact ByteArray.extract_zero_size
      simp only [List.length_map, Builtin.firstCells, hx]
      have : Array.map (fun b : UInt8 => Value.int IntKind.u8 ↑b.toNat) s.data = (List.map (fun b : UInt8 => Value.int IntKind.u8 ↑b.toNat) s.data.toList).toArray := by
        rw [← List.map_toArray]
      rw [this]
      rfl
  · obtain ⟨h1, h2⟩ := elems_load (P := P) hw he hb hes
    exact ⟨.inl h1, h2⟩

/-- An array in memory. -/
theorem ERow.at {F : Bool → Facts} {xs : List AV} {es : Nat} {cs : List Value} (h : ERow F xs es cs) {w : World} {b cap : Nat} {c : Array Value} {e : TypeId} (hb : w.heap[b]? = some (.cells c e (0, 0))) (hsz : c.size = cap * es) (hle : xs.length ≤ cap) (hrow : xs.length ≤ maxRow)
    (hc : ∀ k, k < cs.length → c[k]? = cs[k]?) {kk : Nat} (hkk : kk = 0 ∨ kk = e + 2) : ObjAt F noloc w (arrK es xs kk) b cap := by
  refine .inl ⟨c, e, hb, hsz, hle, hrow, h.2.1, fun i y j a hy hj => ?_, hkk.imp_right fun h => ⟨h, fun h => by simp [arrK] at h⟩⟩
  obtain ⟨v, g1, g2⟩ := h.2.2.2 i y j a hy hj
  have hk : i * es + j < cs.length := (List.getElem?_eq_some_iff.1 g1).1
  refine ⟨v, ?_, h.one g1, g2, fun hz => by simp [arrK] at hz⟩
  show c[i * es + j]? = some v
  rw [hc _ hk]; exact g1

/-- What the appended elements are: 'append(a, b...)'. The result is the object T. -/
def appendA (P : Program) (st xt : TypeId) (a b : AV) (d : Nat) (s : ASt) : Option St :=
  match tyEl P st, tySrc P xt, srcOf s.o b with
  | some (e, es, bytes), true, some ys => match tyZero P e with
    | some _ => match a with
      | .list _ true xs => some ⟨decide (d < s.n ∧ (∀ zv, tyZero P e = some zv → zv.cells.size = es) ∧ (∀ y ∈ ys, y.cells.length = es) ∧ (∀ y ∈ xs, y.cells.length = es) ∧ bytes ≠ 0 ∧ (2 * (xs.length + ys.length) + 200) * bytes ≤ 2 ^ 48 ∧ (xs = [] ∨ ys ≠ [])),
          s.renew d d d (arrK es (xs ++ ys) (kdE P e)) (.ref d 0 (xs ++ ys).length)⟩
      | .ref L lo n => match lk s.o L with
        | some x => if x.arr = true ∧ x.fz = false ∧ lo = 0 then
            some ⟨decide (d < s.n ∧ (∀ zv, tyZero P e = some zv → zv.cells.size = es) ∧ (∀ y ∈ ys, y.cells.length = es) ∧ x.es = es ∧ bytes ≠ 0 ∧ (2 * (n + ys.length) + 200) * bytes ≤ 2 ^ 48 ∧ n ≤ x.xs.length),
              s.renew L (if x.pin = true then d else L) d (arrK es (seg x.xs 0 n ++ ys) (if x.kd = kdE P e then kdE P e else 0)) (.ref (if x.pin = true then d else L) 0 (n + ys.length))⟩ else none
        | none => none
      | _ => none
    | none => none
  | _, _, _ => none

/-- append's run, where it must grow. -/
theorem append_grow {P : Program} {st xt e ty : TypeId} {es bytes : Nat} (h1 : tyEl P st = some (e, es, bytes)) (h2 : tySrc P xt = true) {zv : Value} (hz : tyZero P e = some zv) {w : World} {base : Option Addr} {n m c : Nat} {vx : Value} (hvx : IsSrc vx m) {old new : List Value}
    (ho : (Builtin.firstCells es n (.slice base n c)).run P w.drew = .ok old.toArray w.drew)
    (hn : (Builtin.firstCells es m vx).run P w.drew = .ok new.toArray w.drew)
    (hc : c < n + m) (hb : bytes ≠ 0) (hbd : (2 * (n + m) + 200) * bytes ≤ 2 ^ 48) :
    ∃ nc, n + m ≤ nc ∧ (Builtin.append_ #[st, xt] ty #[.slice base n c, vx]).run P w =
      .ok (.slice (some ⟨w.heap.size, 0, none⟩) (n + m) nc) (w.drew.alloc (.cells (old.toArray ++ new.toArray ++ Builtin.zeroCells zv.cells (nc - (n + m))) e (0, 0))) := by
  obtain ⟨hu, hs, i, hi, _, hib⟩ := tyEl_run h1 w
  obtain ⟨_, hs', _⟩ := tyEl_run h1 { w with drawn := w.drawn + 1 }
  have hcap := nextslicecap_le hc
  have hle : Builtin.nextslicecap (n + m) c * bytes ≤ 2 ^ 48 := Nat.le_trans (Nat.mul_le_mul_right _ hcap) hbd
  have hpos : 1 ≤ bytes := Nat.pos_of_ne_zero hb
  have hnm : n + m ≤ 2 ^ 48 := by
    have : (2 * (n + m) + 200) * 1 ≤ (2 * (n + m) + 200) * bytes := Nat.mul_le_mul_left _ hpos
    omega
  have hti : ∀ w' : World, (typeInfo e).run P w' = .ok i w' := fun w' => by simp [typeInfo, hi]
  have hmax : IntKind.i64.max = 9223372036854775807 := by decide
  have c1 : ¬ (((n + m : Nat) : Int) > IntKind.i64.max ∧ bytes = 0) := fun h => hb h.2
  have hzr := run_zeroValue_ok hz
  refine ⟨(Question.appendCap (n + m) c e).cut (w.tape w.drawn (.appendCap (n + m) c e)), by simp [Question.cut], ?_⟩
  have hlen := hvx.len (P := P) w
  simp only [Builtin.append_, Sem.run_bind, hu, hs, Result.andThen_ok, List.getElem?_toArray, List.getElem?_cons_zero, List.getElem?_cons_succ]
  have hnlt : ¬ n + m ≤ c := by omega
  have hle' : ¬ 281474976710656 < Builtin.nextslicecap (n + m) c * bytes := by omega
  rcases tySrc_run h2 with ⟨e2, hu2⟩ | hu2
  · simp [hu, hu2, hs, hlen, hnlt, hti, hib, hb, hle', hzr, newRow, Question.forced, ho, hn]
    rw [show (old ++ new).toArray = old.toArray ++ new.toArray from by simp, Array.append_assoc]
  · simp [hu, hu2, hs, hlen, hnlt, hti, hib, hb, hle', hzr, newRow, Question.forced, ho, hn]
    rw [show (old ++ new).toArray = old.toArray ++ new.toArray from by simp, Array.append_assoc]

/-- append's run, where there is room. -/
theorem append_room {P : Program} {st xt e ty : TypeId} {es bytes : Nat} (h1 : tyEl P st = some (e, es, bytes)) (h2 : tySrc P xt = true) {w w' : World} {base : Option Addr} {n m c : Nat} {vx : Value} (hvx : IsSrc vx m) {new : List Value}
    (hn : (Builtin.firstCells es m vx).run P w = .ok new.toArray w) (hc : n + m ≤ c)
    (hs' : ∀ a, base = some a → (storeCells (a.add (n * es)) new).run P w = .ok () w') (hw : base = none → w' = w) :
    (Builtin.append_ #[st, xt] ty #[.slice base n c, vx]).run P w = .ok (.slice base (n + m) c) w' := by
  obtain ⟨hu, hs, i, hi, _, hib⟩ := tyEl_run h1 w
  have hlen := hvx.len (P := P) w
  simp only [Builtin.append_, Sem.run_bind, hu, hs, Result.andThen_ok, List.getElem?_toArray, List.getElem?_cons_zero, List.getElem?_cons_succ]
  rcases tySrc_run h2 with ⟨e2, hu2⟩ | hu2
  all_goals
    cases base with
    | none =>
      have := hw rfl
      subst this
      simp [hu, hu2, hs, hlen, hc, hn]
    | some a =>
      have := hs' a rfl
      simp [hu, hu2, hs, hlen, hc, hn, this]

theorem zeroCells_size (z : Array Value) (n : Nat) : (Builtin.zeroCells z n).size = n * z.size := by simp [Builtin.zeroCells]

theorem tyZ_size {P : Program} {st e : TypeId} {es bytes : Nat} (h1 : tyEl P st = some (e, es, bytes)) {zv : Value} (hz : tyZero P e = some zv) (hc : zv.cells.size = es) : True := trivial

/-- The grown array. -/
theorem append_new {C F μ} {s : ASt} {a : Act} {w : World} (h : SR C F μ s a w) {L T d : Nat} (hd : d < s.n) {xs ys : List AV} {es : Nat} {old new : List Value} (ho : ERow F xs es old) (hn : ERow F ys es new) {zs : Array Value} {nc : Nat} (hnc : xs.length + ys.length ≤ nc)
    (hzs : zs.size = (nc - (xs.length + ys.length)) * es) (hrow : xs.length + ys.length ≤ maxRow) {e : TypeId} {kk : Nat} (hkk : kk = 0 ∨ kk = e + 2) :
    SR C F (upd μ T (some (w.heap.size, nc))) (s.renew L T d (arrK es (xs ++ ys) kk) (.ref T 0 (xs.length + ys.length))) (a.put (some d) (.slice (some ⟨w.heap.size, 0, none⟩) (xs.length + ys.length) nc))
      (w.drew.alloc (.cells (old.toArray ++ new.toArray ++ zs) e (0, 0))) := by
  have hrow2 := ho.append hn
  have hb : (w.drew.alloc (.cells (old.toArray ++ new.toArray ++ zs) e (0, 0))).heap[w.heap.size]? = some (.cells (old.toArray ++ new.toArray ++ zs) e (0, 0)) := alloc_heap_new (w := w.drew)
  have hsz : (old.toArray ++ new.toArray ++ zs).size = nc * es := by
    simp only [Array.size_append, List.size_toArray, ho.1, hn.1, hzs, ← Nat.add_mul]
    congr 1; omega
  refine SR.renew (x := arrK es (xs ++ ys) kk) (w' := w.drew.alloc (.cells (old.toArray ++ new.toArray ++ zs) e (0, 0))) (p := some (w.heap.size, nc)) h hd rfl rfl rfl ⟨rfl, rfl, rfl, (by simp : w.heap.size ≤ (w.drew.alloc _).heap.size), fun k hk _ => alloc_heap_old (w := w.drew) hk⟩ ?_ (fun b c hbc => .inl (h.sw.nb (by simp at hbc; omega))) (fun loc hl => ?_)
  · refine hrow2.at hb hsz (by simp; exact hnc) (by simp; exact hrow) (fun k hk => ?_) hkk
    simp only [List.length_append] at hk
    rw [Array.getElem?_append_left (by simp; exact hk)]
    simp
  · have := @RV.ref F loc T 0 (xs.length + ys.length) w.heap.size nc es (xs ++ ys).length 0 nc (by rw [hl, locO_mk (by show kk ≠ 1; omega)]; rfl) (by simp) hnc (fun _ => by simp) (fun _ => rfl)
    exact this

theorem first_zero {P : Program} {es : Nat} {v : Value} {w : World} (h : IsSrc v 0) : (Builtin.firstCells es 0 v).run P w = .ok ([] : List Value).toArray w := by
  rcases h with ⟨b, c, rfl⟩ | ⟨s, rfl, hs⟩
  · cases b <;> simp [Builtin.firstCells, loadCells, loadCellsFrom]
  · simp [Builtin.firstCells]

theorem appendA_sound {P : Program} {C F μ} {s : ASt} {a : Act} {w : World} (h : SR C F μ s a w) {st xt ty : TypeId} {x b : AV} {vx vb : Value} (hx : RV F (locOf s.o μ) x vx) (hb : RV F (locOf s.o μ) b vb) {d : Nat} {r : St}
    (he : appendA P st xt x b d s = some r) (hn : r.need) :
    ∃ v w' μ', (Builtin.append_ #[st, xt] ty #[vx, vb]).run P w = .ok v w' ∧ SR C F μ' r.st (a.put (some d) v) w' := by
  unfold appendA at he
  split at he
  · rename_i e es bytes ys h1 h2 hys
    split at he
    · rename_i zv hzv
      split at he
      · rename_i l xs
        obtain rfl := Option.some.inj he
        obtain ⟨hd, hzs, hye, hxe, hb0, hbd, hne⟩ := of_decide_eq_true hn
        have hrow : xs.length + ys.length ≤ maxRow := by
          unfold maxRow
          have : (2 * (xs.length + ys.length) + 200) * 1 ≤ (2 * (xs.length + ys.length) + 200) * bytes := Nat.mul_le_mul_left _ (Nat.pos_of_ne_zero hb0)
          omega
        obtain ⟨hvx, new, hnew, hnr⟩ := src_load (P := P) h.drew.sw hys hb hye
        obtain ⟨⟨base, c, rfl⟩, old, hold, hor⟩ := elems_load (P := P) (b := .list l true xs) h.drew.sw rfl hx hxe
        have hc : c = xs.length := by
          cases hx with
          | nil => rfl
          | list g1 g2 g3 g4 => exact g4 rfl
        subst hc
        by_cases hy0 : ys = []
        · subst hy0
          have hx0 : xs = [] := by rcases hne with hh | hh <;> simp_all
          subst hx0
          have hnr0 : (Builtin.firstCells es 0 vb).run P w = .ok ([] : List Value).toArray w := first_zero hvx
          refine ⟨.slice base 0 0, w, upd μ d none, append_room (P := P) (ty := ty) (w' := w) (new := []) (n := 0) (m := 0) (c := 0) h1 h2 hvx hnr0 (by omega) (fun q hq => by simp [storeCells]) (fun _ => rfl), ?_⟩
          refine SR.renew (p := none) h hd rfl rfl rfl (Fr.refl _ _) (by rfl) (fun b c hbc => by cases hbc) (fun loc hl => ?_)
          exact .refNil (hl.trans (by rw [locO_mk (by show kdE P e ≠ 1; have := kdE_or P e; omega)]))
        · have hlen : 0 < ys.length := List.length_pos_iff.2 hy0
          obtain ⟨nc, g1, g2⟩ := append_grow (P := P) (ty := ty) h1 h2 hzv hvx hor hnr (by omega) hb0 hbd
          refine ⟨_, _, upd μ d (some (w.heap.size, nc)), g2, ?_⟩
          show SR C F _ (s.renew d d d (arrK es (xs ++ ys) (kdE P e)) (.ref d 0 (xs ++ ys).length)) _ _
          rw [List.length_append]
          exact append_new h hd hold hnew g1 (by rw [zeroCells_size, hzs zv hzv]) hrow (kdE_or P e)
      · rename_i L lo n
        split at he
        · rename_i x' hg
          split at he
          · rename_i hcnd
            obtain ⟨harr, hfz, rfl⟩ := hcnd
            obtain rfl := Option.some.inj he
            obtain ⟨hd, hzs, hye, hxe, hb0, hbd, hnle⟩ := of_decide_eq_true hn
            have hrow : n + ys.length ≤ maxRow := by
              unfold maxRow
              have : (2 * (n + ys.length) + 200) * 1 ≤ (2 * (n + ys.length) + 200) * bytes := Nat.mul_le_mul_left _ (Nat.pos_of_ne_zero hb0)
              omega
            obtain ⟨hvx, new, hnew, hnr⟩ := src_load (P := P) h.sw hys hb hye
            have hnr' := (src_load (P := P) h.drew.sw hys hb hye).2
            have hseg : (seg x'.xs 0 n).length = n := seg_length (by omega)
            have hloc : locOf s.o μ L = some (locO x' (μ L)) := by simp [locOf, hg]
            have hee : ∀ y ∈ seg x'.xs 0 n, y.cells.length = es := by
              intro y hy
              have ho := h.sw.obj L x' hg
              cases hm : μ L with
              | none =>
                rw [hm] at ho
                have h0 : x'.xs = [] := ho
                have := seg_mem hy
                rw [h0] at this; simp at this
              | some p =>
                obtain ⟨b, cap⟩ := p
                rw [hm] at ho
                rw [← hxe]
                obtain ⟨c, e, q1, q2, q3, q4, q5, q6, q7⟩ := ObjAt.std ho (ref_kd hx hg)
                exact q5 y (seg_mem hy)
            have hel : elemsOf s.o (.ref L 0 n) = some (seg x'.xs 0 n) := by simp [elemsOf, hg, harr]
            obtain ⟨⟨base, c, hvx⟩, old, hold, hor⟩ := elems_load (P := P) h.drew.sw hel hx hee
            rw [hseg] at hvx hor
            subst hvx
            by_cases hroom : n + ys.length ≤ c
            · cases hx with
              | refNil g =>
                have hy0 : ys = [] := List.length_eq_zero_iff.1 (by omega)
                subst hy0
                have hnr0 : (Builtin.firstCells es 0 vb).run P w = .ok ([] : List Value).toArray w := first_zero hvx
                refine ⟨.slice base 0 0, w, upd μ (if x'.pin = true then d else L) none, append_room (P := P) (ty := ty) (w' := w) (new := []) (n := 0) (m := 0) (c := 0) h1 h2 hvx hnr0 (by omega) (fun q hq => by simp [storeCells]) (fun _ => rfl), ?_⟩
                have hs0 : seg x'.xs 0 0 = [] := List.length_eq_zero_iff.1 hseg
                rw [hs0]
                refine SR.renew (p := none) h hd rfl rfl rfl (Fr.refl _ _) (by rfl) (fun b c hbc => by cases hbc) (fun loc hl => ?_)
                exact .refNil (hl.trans (by rw [locO_mk (by show (if x'.kd = kdE P e then kdE P e else 0) ≠ 1; have := kdE_or P e; split <;> omega)]))
              | @ref _ _ _ _ _ blk cap es0 len p c g1 g2 g3 g4 g5 =>
                rw [hloc] at g1
                obtain ⟨hm, hes, rfl, hk1⟩ := locO_std (Option.some.inj g1)
                have hp0 := g4 (.inr rfl)
                simp at hp0
                subst hp0
                obtain rfl := g5 rfl
                have ho := h.sw.obj L x' hg
                rw [hm] at ho
                obtain ⟨cc, ty', q1, q2, q3, q4, q5, q6, q7⟩ := ho.std hk1
                have hfit : n * es + 0 + new.length ≤ cc.size := by
                  rw [hnew.1, q2, hxe, Nat.add_zero, ← Nat.add_mul]; exact Nat.mul_le_mul_right _ hroom
                have hst := run_storeCells_at (P := P) blk (n * es) ty' new 0 cc w q1 hfit (fun v hv => hnew.2.2.1 v hv)
                let cc' := (cc.toList.take (n * es + 0) ++ new ++ cc.toList.drop (n * es + 0 + new.length)).toArray
                have hcc' : (w.setRow blk cc').heap[blk]? = some (.cells cc' ty' (0, 0)) := setRow_heap w blk cc cc' ty' (0, 0) q1
                have hsize : cc'.size = cc.size := by
                  simp only [cc', List.size_toArray, List.length_append, List.length_take, List.length_drop, Array.length_toList]
                  omega
                refine ⟨.slice (some ⟨blk, 0, none⟩) (n + ys.length) c, w.setRow blk cc', upd μ (if x'.pin = true then d else L) (some (blk, c)), append_room (P := P) (ty := ty) h1 h2 hvx hnr hroom (fun q hq => ?_) (fun hh => by cases hh), ?_⟩
                · obtain rfl := Option.some.inj hq
                  rw [add_none, Nat.zero_add]
                  exact hst
                · refine SR.renew (x := arrK es (seg x'.xs 0 n ++ ys) (if x'.kd = kdE P e then kdE P e else 0)) (w' := w.setRow blk cc') (p := some (blk, c)) h hd rfl rfl rfl ⟨rfl, rfl, rfl, by simp, fun k hk hkk => setRow_other w blk k cc' (fun e => hkk ⟨x', c, hg, hfz, by rw [hm, e]⟩)⟩ ?_ (fun b c' hbc => by simp at hbc; obtain ⟨rfl, rfl⟩ := hbc; exact .inr ⟨x', c, hg, hfz, hm⟩) (fun loc hl => ?_)
                  · -- the row in its block
                    have hkk : (if x'.kd = kdE P e then kdE P e else 0) = 0 ∨ (if x'.kd = kdE P e then kdE P e else 0) = ty' + 2 := by
                      split
                      · rename_i hh; rw [← hh]; exact q7.imp_right And.left
                      · exact .inl rfl
                    have hrowx : ERow F (seg x'.xs 0 n) es ((cc.toList.take (n * es))) := by
                      have hlen : (cc.toList.take (n * es)).length = n * es := by
                        rw [List.length_take, Array.length_toList]; omega
                      have hload := run_loadCells_list (P := P) w.drew ⟨blk, 0, none⟩ (cc.toList.take (n * es)) (fun j v hv => by
                        rw [List.getElem?_take] at hv
                        split at hv
                        · rw [add_none, Nat.zero_add]
                          have hq : w.drew.heap[blk]? = some (.cells cc ty' (0, 0)) := q1
                          simp only [Array.getElem?_toList] at hv
                          simp only [World.cell?, hq]
                          simpa using hv
                        · cases hv)
                      rw [hlen] at hload
                      have hor' : (loadCells ⟨blk, 0, none⟩ (n * es)).run P w.drew = .ok old.toArray w.drew := by simpa [Builtin.firstCells] using hor
                      rw [hload] at hor'
                      have : cc.toList.take (n * es) = old := by simpa using hor'
                      rw [this]; exact hold
                    have hall := hrowx.append hnew
                    refine hall.at hcc' (by rw [hsize, q2, hxe]) (by rw [List.length_append, hseg]; exact hroom) (by rw [List.length_append, hseg]; exact hrow) (fun k hk => ?_) hkk
                    simp only [cc', Nat.add_zero, List.getElem?_toArray]
                    rw [List.getElem?_append_left hk]
                  · have := @RV.ref F loc (if x'.pin = true then d else L) 0 (n + ys.length) blk c es ((seg x'.xs 0 n) ++ ys).length 0 c (by rw [hl, locO_mk (by show (if x'.kd = kdE P e then kdE P e else 0) ≠ 1; have := kdE_or P e; split <;> omega)]; rfl) (by rw [List.length_append, hseg]; omega) hroom (fun _ => by simp) (fun _ => rfl)
                    exact this
            · obtain ⟨new', hnew', hnr''⟩ := hnr'
              obtain ⟨nc, g1, g2⟩ := append_grow (P := P) (ty := ty) h1 h2 hzv hvx hor hnr'' (by omega) hb0 hbd
              refine ⟨_, _, upd μ (if x'.pin = true then d else L) (some (w.heap.size, nc)), g2, ?_⟩
              have key := append_new (L := L) (T := if x'.pin = true then d else L) (nc := nc) (e := e) (zs := Builtin.zeroCells zv.cells (nc - (n + ys.length))) h hd hold hnew' (by rw [hseg]; exact g1) (by rw [zeroCells_size, hzs zv hzv, hseg]) (by rw [hseg]; exact hrow) (kk := if x'.kd = kdE P e then kdE P e else 0) (by have := kdE_or P e; split <;> omega)
              rw [hseg] at key
              exact key
          · cases he
        · cases he
      · cases he
    · cases he
  · cases he

/-- append, at a nil slice that is known to be nil. -/
def appendN (P : Program) (st xt : TypeId) (a b : AV) (d : Nat) (s : ASt) : Option St := match a with
  | .sc (.slice none 0 0) => match srcOf s.o b with
    | some [] => match tyEl P st, tySrc P xt with
      | some _, true => some ⟨decide (d < s.n), s.put d (.sc (.slice none 0 0))⟩
      | _, _ => none
    | _ => appendA P st xt (.list false true []) b d s
  | _ => appendA P st xt a b d s
theorem appendN_sound {P : Program} {C F μ} {s : ASt} {a : Act} {w : World} (h : SR C F μ s a w) {st xt ty : TypeId} {x b : AV} {vx vb : Value} (hx : RV F (locOf s.o μ) x vx) (hb : RV F (locOf s.o μ) b vb) {d : Nat} {r : St}
    (he : appendN P st xt x b d s = some r) (hn : r.need) :
    ∃ v w' μ', (Builtin.append_ #[st, xt] ty #[vx, vb]).run P w = .ok v w' ∧ SR C F μ' r.st (a.put (some d) v) w' := by
  unfold appendN at he
  split at he
  · cases hx
    split at he
    · rename_i hs
      split at he
      · rename_i q h1 h2
        obtain ⟨e, es, bytes⟩ := q
        obtain rfl := Option.some.inj he
        obtain ⟨hvx, new, hnew, hnr⟩ := src_load (P := P) (es := es) h.sw hs hb (fun y hy => by simp at hy)
        exact ⟨.slice none 0 0, w, μ, append_room (P := P) (ty := ty) (w' := w) (new := []) (n := 0) (m := 0) (c := 0) h1 h2 hvx (first_zero hvx) (by omega) (fun q hq => by cases hq) (fun _ => rfl), h.put (of_decide_eq_true hn) (.sc rfl)⟩
      · cases he
    · exact appendA_sound h .nil hb he hn
  · exact appendA_sound h hx hb he hn

end Go.Ab
