/-
  Ab26: arguments that came in, as values of the walk: strings, numbers, structs, slices of them, all of it shared and never written.
-/
import Derived.Test.YtldecgghhaoliaaAb25
import Derived.SizedLaws
import Derived.ChangeReads
namespace Go.Ab
open Go.RowKit
set_option linter.unusedVariables false
set_option linter.unusedSimpArgs false

/-- Every cell that is there when the call begins. -/
def wF (w : World) : Bool → Facts := fun _ b k => w.cell? ⟨b, k, none⟩
theorem wF_ok (w : World) : Fok (wF w) w := ⟨fun _ _ _ _ h => h, fun _ _ _ h => h⟩
theorem sh_wF (w : World) : sh (wF w) = wF w := rfl

/-- Cells, read. -/
def CellsR (w : World) (cs : List AV) (vs : List Value) : Prop := cs.length = vs.length ∧ ∀ (j : Nat) (a : AV) (v : Value), cs[j]? = some a → vs[j]? = some v → RV (wF w) noloc a v ∧ one v = true
theorem CellsR.nil {w : World} : CellsR w [] [] := ⟨rfl, fun j a v h => by simp at h⟩
theorem CellsR.one1 {w : World} {a : AV} {v : Value} (h : RV (wF w) noloc a v) (ho : one v = true) : CellsR w [a] [v] := ⟨rfl, fun j b u hb hu => by
  cases j with
  | zero => simp at hb hu; subst hb; subst hu; exact ⟨h, ho⟩
  | succ j => simp at hb⟩
theorem CellsR.append {w : World} {cs cs' : List AV} {vs vs' : List Value} (h : CellsR w cs vs) (h' : CellsR w cs' vs') : CellsR w (cs ++ cs') (vs ++ vs') := by
  refine ⟨by simp [h.1, h'.1], fun j a v ha hv => ?_⟩
  by_cases hj : j < cs.length
  · rw [List.getElem?_append_left hj] at ha
    rw [List.getElem?_append_left (by rw [← h.1]; exact hj)] at hv
    exact h.2 j a v ha hv
  · rw [List.getElem?_append_right (by omega)] at ha
    rw [List.getElem?_append_right (by rw [← h.1]; omega), ← h.1] at hv
    exact h'.2 _ a v ha hv

section
variable {H : Type} {enc : TypeId × Value → H} {P : Program} {w : World}

/-- What was read as data of type t with n steps is one of the values en x. -/
def Came (enc : TypeId × Value → H) (P : Program) (w : World) {α : Type} (n : Nat) (t : TypeId) (en : α → AV) (ok : α → Prop) : Prop :=
  ∀ cs d ps, DataW.trod enc P w 0 (fun _ => true) true n t cs = some (d, ps) → (∀ m ∈ d.weights P t, m ≤ reachBytes) → ∃ x, ok x ∧ CellsR w (en x).cells cs

theorem Came.zero {α : Type} {t : TypeId} {en : α → AV} {ok : α → Prop} : Came enc P w 0 t en ok := fun cs d ps h => by simp [DataW.trod] at h

theorem Came.bool {n : Nat} {t : TypeId} (hu : P.underlying t = some .bool) : Came enc P w n t (fun b : Bool => .sc (.bool b)) (fun _ => True) := by
  intro cs d ps h hw
  cases n with
  | zero => simp [DataW.trod] at h
  | succ n =>
    rw [DataW.trod_step] at h
    unfold DataW.trodStep at h
    rw [hu] at h
    split at h <;> first | (rename_i b _ _ ; exact ⟨_, trivial, CellsR.one1 (.sc rfl) rfl⟩) | simp_all
theorem Came.int {n : Nat} {t : TypeId} {k : IntKind} (hu : P.underlying t = some (.int k)) : Came enc P w n t (fun i : Int => .sc (.int k i)) (fun i => k.min ≤ i ∧ i ≤ k.max) := by
  intro cs d ps h hw
  cases n with
  | zero => simp [DataW.trod] at h
  | succ n =>
    rw [DataW.trod_step] at h
    unfold DataW.trodStep at h
    rw [hu] at h
    split at h
    case h_2 k0 k' m hk =>
      obtain rfl : k = k0 := by simpa using hk
      split at h
      · rename_i hc
        obtain ⟨rfl, hc⟩ := hc
        exact ⟨m, by simpa [Lit.wf] using hc, CellsR.one1 (.sc rfl) rfl⟩
      · cases h
    all_goals simp_all
/-- The numbers of 64 bits. -/
def I64 (i : Int) : Prop := -9223372036854775808 ≤ i ∧ i ≤ 9223372036854775807
theorem I64.of {i : Int} (h : IntKind.i64.min ≤ i ∧ i ≤ IntKind.i64.max) : I64 i := by
  have e1 : IntKind.i64.min = -9223372036854775808 := by decide +kernel
  have e2 : IntKind.i64.max = 9223372036854775807 := by decide +kernel
  rw [e1, e2] at h; exact h
theorem Came.i64 {n : Nat} {t : TypeId} (hu : P.underlying t = some (.int .i64)) : Came enc P w n t (fun i : Int => nt .i64 i) I64 := by
  intro cs d ps h hw
  obtain ⟨x, a, b⟩ := Came.int hu cs d ps h hw
  exact ⟨x, I64.of a, b⟩
theorem Came.string {n : Nat} {t : TypeId} (hu : P.underlying t = some .string) : Came enc P w n t (fun s : ByteArray => .sc (.string s)) (fun s => s.size ≤ reachBytes) := by
  intro cs d ps h hw
  cases n with
  | zero => simp [DataW.trod] at h
  | succ n =>
    rw [DataW.trod_step] at h
    unfold DataW.trodStep at h
    rw [hu] at h
    split at h
    case h_4 s hk =>
      split at h
      · obtain ⟨rfl, rfl⟩ := Prod.mk.inj (Option.some.inj h)
        exact ⟨s, by have := hw s.data.toList.length (by simp only [DataW.weights, List.mem_singleton]); rw [Array.length_toList] at this; exact this, CellsR.one1 (.sc rfl) rfl⟩
      · cases h
    all_goals simp_all

theorem weightsAll_mem {e : TypeId} : ∀ {ds : List (DataW H)} {d : DataW H}, d ∈ ds → ∀ m ∈ d.weights P e, m ∈ DataW.weightsAll P e ds
  | [], _, h, _, _ => by simp at h
  | d0 :: ds, d, h, m, hm => by
    simp only [DataW.weightsAll, List.mem_append]
    rcases List.mem_cons.1 h with rfl | h
    · exact .inl hm
    · exact .inr (weightsAll_mem h m hm)

theorem Came.slice {n : Nat} {t e : TypeId} {α : Type} {en : α → AV} {ok : α → Prop} (hu : P.underlying t = some (.slice e)) (hes : 0 < P.cellsOf e) (hb : 0 < P.bytesOf e) (h1 : Came enc P w n e en ok) :
    Came enc P w (n + 1) t (fun l : List α => .list false false (l.map en)) (fun l => (∀ x ∈ l, ok x) ∧ l.length * P.bytesOf e ≤ reachBytes) := by
  intro cs d ps h hw
  rw [DataW.trod_step] at h
  unfold DataW.trodStep at h
  rw [hu] at h
  split at h
  case h_7 =>
    exact ⟨[], ⟨by simp, by simp⟩, CellsR.one1 .nil rfl⟩
  case h_8 e' a len cap hk =>
    obtain rfl : e = e' := by simpa using hk
    simp only at h
    split at h
    · rename_i hc
      obtain ⟨hc1, hc2, hc3⟩ := hc
      simp only [if_true, Option.map_eq_some_iff, Option.bind_eq_some_iff] at h
      obtain ⟨elems, he, rest, hrest, hd⟩ := h
      obtain ⟨rfl, rfl⟩ := Prod.mk.inj hd
      have hlen : elems.length = len := by simpa using mapM_some_length he
      have hrl : rest.length = cap - len := by simpa using mapM_some_length hrest
      have hel : ∀ i, i < len → ∃ x : α, ok x ∧ ∃ vs : List Value, CellsR w (en x).cells vs ∧ vs.length = P.cellsOf e ∧ ∀ j, j < P.cellsOf e → w.cell? ((a.add (i * P.cellsOf e)).add j) = vs[j]? := by
        intro i hi
        have hy := mapM_some_get he i i (by simp [hi])
        have hlt : i < elems.length := by omega
        rw [List.getElem?_eq_getElem hlt] at hy
        simp only [Option.bind_eq_some_iff] at hy
        obtain ⟨vs, hv1, hv2⟩ := hy
        obtain ⟨_, c2, c3⟩ := World.cells?_some hv1
        obtain ⟨x, hx1, hx2⟩ := h1 vs elems[i].1 elems[i].2 hv2 (fun m hm => hw m (by
          simp only [DataW.weights, hu, List.mem_cons, List.mem_append]
          exact .inr (.inl (weightsAll_mem (List.mem_map.2 ⟨_, List.getElem_mem hlt, rfl⟩) m hm))))
        exact ⟨x, hx1, vs, hx2, c2, c3⟩
      have hwt : (len + (cap - len)) * P.bytesOf e ≤ reachBytes := by
        have := hw ((elems.length + rest.length) * P.bytesOf e) (by simp [DataW.weights, hu])
        rw [hlen, hrl] at this; exact this
      have hwl : len * P.bytesOf e ≤ reachBytes := Nat.le_trans (Nat.mul_le_mul_right _ (by omega)) hwt
      have hch : ∃ l : List α, l.length = len ∧ ∀ (i : Nat) (x : α), l[i]? = some x → ok x ∧ ∃ vs : List Value, CellsR w (en x).cells vs ∧ vs.length = P.cellsOf e ∧ ∀ j, j < P.cellsOf e → w.cell? ((a.add (i * P.cellsOf e)).add j) = vs[j]? := by
        clear he hrest hw hd hwt hwl hc2 hlen hrl
        induction len with
        | zero => exact ⟨[], rfl, fun i x hx => by simp at hx⟩
        | succ m ih =>
          obtain ⟨l, g1, g2⟩ := ih (fun i hi => hel i (by omega))
          obtain ⟨x, hx⟩ := hel m (by omega)
          refine ⟨l ++ [x], by simp [g1], fun i y hy => ?_⟩
          by_cases hi : i < l.length
          · rw [List.getElem?_append_left hi] at hy; exact g2 i y hy
          · rw [List.getElem?_append_right (by omega)] at hy
            cases hq : i - l.length with
            | zero =>
              rw [hq] at hy; simp at hy; subst hy
              obtain rfl : i = m := by omega
              exact hx
            | succ q => rw [hq] at hy; simp at hy
      obtain ⟨l, g1, g2⟩ := hch
      refine ⟨l, ⟨fun x hx => ?_, by rw [g1]; exact hwl⟩, CellsR.one1 ?_ rfl⟩
      · obtain ⟨i, hi⟩ := List.getElem?_of_mem hx
        exact (g2 i x hi).1
      · by_cases hcap : cap = 0
        · subst hcap
          have hl0 : len = 0 := by omega
          subst hl0
          obtain rfl : l = [] := List.eq_nil_of_length_eq_zero g1
          exact .nil
        · have hsp : a.spot = none := by
            by_cases hl0 : len = 0
            · have hr0 : 0 < rest.length := by omega
              have hy := mapM_some_get hrest 0 0 (by rw [List.getElem?_range (by omega)])
              rw [List.getElem?_eq_getElem hr0] at hy
              simp only [Option.bind_eq_some_iff] at hy
              obtain ⟨vs, hv1, hv2⟩ := hy
              obtain ⟨_, c2, c3⟩ := World.cells?_some hv1
              have c0 := c3 0 hes
              rw [List.getElem?_eq_getElem (by omega)] at c0
              simpa [Addr.add, hl0] using World.cell?_spot c0
            · have h0 : 0 < l.length := by omega
              obtain ⟨_, vs, c1, c2, c3⟩ := g2 0 l[0] (by simp [h0])
              have c0 := c3 0 hes
              rw [List.getElem?_eq_getElem (by omega)] at c0
              simpa [Addr.add] using World.cell?_spot c0
          obtain ⟨b, off, spot⟩ := a
          simp only at hsp
          subst hsp
          have hadd : ∀ k, (Addr.mk b off none).add k = ⟨b, off + k, none⟩ := fun k => by
            unfold Addr.add; split
            · rename_i hk; subst hk; rfl
            · rfl
          have hadd2 : ∀ k j, ((Addr.mk b off none).add k).add j = ⟨b, off + k + j, none⟩ := fun k j => by
            rw [hadd]; unfold Addr.add; split
            · rename_i hk; subst hk; rfl
            · rfl
          simp only [hadd2] at g2
          have key := @RV.list (wF w) noloc false false (l.map en) b off off cap (P.cellsOf e) (fun i j => (w.cell? ⟨b, off + i * P.cellsOf e + j, none⟩).getD .nilIface)
            (fun y hy => by
              obtain ⟨x, hx, rfl⟩ := List.mem_map.1 hy
              obtain ⟨i, hi⟩ := List.getElem?_of_mem hx
              obtain ⟨_, vs, c1, c2, c3⟩ := g2 i x hi
              rw [c1.1, c2])
            (by rw [List.length_map, g1]; exact hc2)
            (by
              rw [List.length_map, g1]
              have : len ≤ len * P.bytesOf e := Nat.le_mul_of_pos_right _ hb
              have h47 := reachBytes_lt
              unfold maxRow; omega)
            (fun hf => by cases hf) (fun _ => rfl)
            (fun i y j c hy hj => by
              simp only [List.getElem?_map, Option.map_eq_some_iff] at hy
              obtain ⟨x, hx, rfl⟩ := hy
              obtain ⟨_, vs, c1, c2, c3⟩ := g2 i x hx
              have hjl : j < P.cellsOf e := by rw [← c2, ← c1.1]; exact (List.getElem?_eq_some_iff.1 hj).1
              show w.cell? _ = _
              rw [c3 j hjl, List.getElem?_eq_getElem (by omega)]; rfl)
            (fun i y j c hy hj => by
              simp only [List.getElem?_map, Option.map_eq_some_iff] at hy
              obtain ⟨x, hx, rfl⟩ := hy
              obtain ⟨_, vs, c1, c2, c3⟩ := g2 i x hx
              have hjl : j < P.cellsOf e := by rw [← c2, ← c1.1]; exact (List.getElem?_eq_some_iff.1 hj).1
              have hv : vs[j]? = some vs[j] := List.getElem?_eq_getElem (by omega)
              rw [c3 j hjl, hv]
              exact (c1.2 j c vs[j] hj hv).1)
            (fun i y j c hy hj => by
              simp only [List.getElem?_map, Option.map_eq_some_iff] at hy
              obtain ⟨x, hx, rfl⟩ := hy
              obtain ⟨_, vs, c1, c2, c3⟩ := g2 i x hx
              have hjl : j < P.cellsOf e := by rw [← c2, ← c1.1]; exact (List.getElem?_eq_some_iff.1 hj).1
              have hv : vs[j]? = some vs[j] := List.getElem?_eq_getElem (by omega)
              rw [c3 j hjl, hv]
              exact (c1.2 j c vs[j] hj hv).2)
          rw [List.length_map, g1] at key
          exact key
    · cases h
  all_goals simp_all

/-- Fields, one behind the other, from cell off to cell N. -/
def CameF (enc : TypeId × Value → H) (P : Program) (w : World) {α : Type} (n N : Nat) (fs : List Field) (off : Nat) (en : α → List AV) (ok : α → Prop) : Prop :=
  ∀ (cs : List Value) (xs : List (DataW H × List MemPlace)), cs.length = N → fs.mapM (fun f => DataW.trod enc P w 0 (fun _ => true) true n f.type ((cs.drop f.offset).take (P.cellsOf f.type))) = some xs → (∀ m ∈ DataW.weightsEach P (fs.map (·.type)) (xs.map (·.1)), m ≤ reachBytes) →
    ∃ x, ok x ∧ CellsR w (en x) (cs.drop off)
theorem CameF.nil {n N : Nat} : CameF enc P w n N [] N (fun _ : Unit => []) (fun _ => True) := by
  intro cs xs hN h hw
  refine ⟨(), trivial, ?_⟩
  rw [List.drop_of_length_le (by omega)]
  exact CellsR.nil
theorem CameF.cons {n N off : Nat} (k : Nat) {f : Field} {fs : List Field} {α β : Type} {en : α → AV} {ok : α → Prop} {enr : β → List AV} {okr : β → Prop} (ho : f.offset = off) (hk : P.cellsOf f.type = k)
    (h1 : Came enc P w n f.type en ok) (h2 : CameF enc P w n N fs (off + k) enr okr) : CameF enc P w n N (f :: fs) off (fun x : α × β => (en x.1).cells ++ enr x.2) (fun x => ok x.1 ∧ okr x.2) := by
  intro cs xs hN h hw
  subst ho; subst hk
  simp only [List.mapM_cons] at h
  cases hy : DataW.trod enc P w 0 (fun _ => true) true n f.type ((cs.drop f.offset).take (P.cellsOf f.type)) with
  | none => simp [hy] at h
  | some y =>
    cases hz : fs.mapM (fun f => DataW.trod enc P w 0 (fun _ => true) true n f.type ((cs.drop f.offset).take (P.cellsOf f.type))) with
    | none => simp [hy, hz] at h
    | some ys =>
      simp [hy, hz] at h
      subst h
      simp only [List.map_cons, DataW.weightsEach, List.mem_append] at hw
      obtain ⟨x, a1, a2⟩ := h1 _ y.1 y.2 hy (fun m hm => hw m (.inl hm))
      obtain ⟨z, b1, b2⟩ := h2 cs ys hN hz (fun m hm => hw m (.inr hm))
      refine ⟨(x, z), ⟨a1, b1⟩, ?_⟩
      have e : cs.drop f.offset = (cs.drop f.offset).take (P.cellsOf f.type) ++ cs.drop (f.offset + P.cellsOf f.type) := by
        rw [← List.drop_drop, List.take_append_drop]
      rw [e]
      exact a2.append b2
theorem Came.struct {n N : Nat} {t : TypeId} {fs : Array Field} {l : List Field} {α : Type} {en : α → List AV} {ok : α → Prop} (hu : P.underlying t = some (.struct fs)) (hl : fs.toList = l) (hN : P.cellsOf t = N)
    (h1 : CameF enc P w n N l 0 en ok) : Came enc P w (n + 1) t (fun x : α => .agg (en x)) ok := by
  intro cs d ps h hw
  rw [DataW.trod_step] at h
  unfold DataW.trodStep at h
  rw [hu] at h
  split at h
  case h_9 cs0 fs' hk =>
    obtain rfl : fs = fs' := by simpa using hk
    split at h
    · rename_i hc
      simp only [Option.map_eq_some_iff] at h
      obtain ⟨xs, hx, hd⟩ := h
      obtain ⟨rfl, rfl⟩ := Prod.mk.inj hd
      rw [hl] at hx
      obtain ⟨x, a1, a2⟩ := h1 _ xs (by omega) hx (fun m hm => hw m (by simpa [DataW.weights, hu, hl] using hm))
      exact ⟨x, a1, by rw [List.drop_zero] at a2; exact a2⟩
    · cases h
  all_goals simp_all
theorem Came.map {n : Nat} {t : TypeId} {α β : Type} {en : α → AV} {ok : α → Prop} {en' : β → AV} {ok' : β → Prop} (h : Came enc P w n t en ok) (g : α → β) (hg : ∀ x, ok x → ok' (g x) ∧ en' (g x) = en x) : Came enc P w n t en' ok' := by
  intro cs d ps h1 h2
  obtain ⟨x, a1, a2⟩ := h cs d ps h1 h2
  obtain ⟨b1, b2⟩ := hg x a1
  exact ⟨g x, b1, by rw [b2]; exact a2⟩

/-- An argument: it is one of the values, under the facts of the world in which the call begins. -/
theorem Came.arg {t : TypeId} {α : Type} {en : α → AV} {ok : α → Prop} {base : Nat} {v : Value} {d : DataW H} {ps : List MemPlace} (h : ∀ n, Came enc P w n t en ok) (ht : DataW.Trod enc P w 0 (fun _ => true) true t v d ps)
    (hv : Value.okWide P w .any base t v) (hw : ∀ m ∈ d.weights P t, m ≤ reachBytes) (hag : ∀ x cs, en x = .agg cs → tyAgg P t = true) (hna : tyAgg P t = true → ∀ x, ∃ cs, en x = .agg cs) : ∃ x, ok x ∧ RV (wF w) noloc (en x) v := by
  obtain ⟨n, ht⟩ := ht
  obtain ⟨x, a1, a2, a3⟩ := h n _ d ps ht hw
  refine ⟨x, a1, ?_⟩
  unfold Value.okWide at hv
  by_cases hA : tyAgg P t = true
  · obtain ⟨cs, hcs⟩ := hna hA x
    rw [hcs] at a2 a3 ⊢
    have : ∃ vs : Array Value, v = .agg vs := by
      unfold tyAgg at hA
      split at hA <;> split at hv <;> simp_all <;> (obtain ⟨vs, rfl, _⟩ := hv; exact ⟨vs, rfl⟩)
    obtain ⟨vs, rfl⟩ := this
    refine .agg (by simpa [AV.cells, Value.cells] using a2) (fun i a v ha hv => (a3 i a v (by simpa [AV.cells] using ha) (by simpa [Value.cells] using hv)).1) (fun i v hv => ?_)
    have hl : cs.length = vs.size := by simpa [AV.cells, Value.cells] using a2
    have hi : i < cs.length := by rw [hl]; exact (Array.getElem?_eq_some_iff.1 hv).1
    exact (a3 i cs[i] v (by simp [AV.cells, hi]) (by simpa [Value.cells] using hv)).2
  · have hc : (en x).cells = [en x] := by
      cases he : en x with
      | agg cs => exact absurd (hag x cs he) hA
      | _ => rfl
    rw [hc] at a2 a3
    have hvc : v.cells.toList = [v] := by
      unfold Value.cells at a2 ⊢
      split
      · exfalso
        unfold tyAgg at hA
        split at hv
        · simp_all
        · simp_all
        · unfold Cell.okWide Cell.ok at hv
          split at hv <;> simp_all
      · rfl
    rw [hvc] at a3
    exact (a3 0 (en x) v rfl rfl).1
end
end Go.Ab
