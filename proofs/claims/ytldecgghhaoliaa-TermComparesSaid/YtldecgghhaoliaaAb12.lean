/-
  Ab12: stores, arrays that are made, arrays that grow.
-/
import Derived.Test.YtldecgghhaoliaaAb11
namespace Go.Ab
open Go.RowKit
set_option linter.unusedVariables false
set_option linter.unusedSimpArgs false

/-- The element y with the cells of a laid at cell o. -/
def layE (y a : AV) (o : Nat) : AV := if o = 0 ∧ a.cells.length = y.cells.length ∧ a.isAgg = y.isAgg then a else .agg (splice y.cells a.cells o)

theorem layE_cells {y a : AV} {o : Nat} (h : o + a.cells.length ≤ y.cells.length) : (layE y a o).cells = splice y.cells a.cells o := by
  unfold layE
  split
  · rename_i hc
    obtain ⟨rfl, h1, _⟩ := hc
    simp [splice, h1]
  · rfl

def storeA (P : Program) (t : TypeId) (p a : AV) (s : ASt) : Option St :=
  match p with
  | .ptr L i o => match lk s.o L, tyI P t with
    | some x, some (_, size) => match x.xs[i]? with
      | some y => if x.fz = false ∧ a.plain = true ∧ a.cells.length = size ∧ o + size ≤ y.cells.length then
          if x.arr = true then match share s a with
            | some (s1, b) => match lk s1.o L with
              | some x1 => if x1.fz = false ∧ b.pure = true ∧ b.cells.length = size ∧ b.plain = true then some ⟨true, { s1 with o := setO s1.o L { x1 with xs := x1.xs.set i (layE y b o) } }⟩ else none
              | none => none
            | none => none
          else some ⟨true, { s with o := setO s.o L { x with xs := x.xs.set i (layE y a o) } }⟩
        else none
      | none => none
    | _, _ => none
  | _ => none

/-- Cells laid into an object. -/
theorem SR.lay {C F μ} {s : ASt} {a : Act} {w : World} (h : SR C F μ s a w) {L : Nat} {x : AObj} (hg : lk s.o L = some x) {b cap : Nat} (hm : μ L = some (b, cap)) (hk : x.kd ≠ 1) (hz : x.fz = false) {i : Nat} {y : AV} (hy : x.xs[i]? = some y)
    {e : AV} {u : Value} (he : CV (oF x.arr F) (oL x.arr (locOf s.o μ)) e.cells u.cells) {o : Nat} (ho : o + e.cells.length ≤ y.cells.length) {P : Program} {t : TypeId} {ag : Bool} (ht : tyI P t = some (ag, e.cells.length)) :
    ∃ w', (Instr.storeAt t (.pointer (some ⟨b, i * x.es + o, none⟩)) u).run P w = .ok () w' ∧ SR C F μ { s with o := setO s.o L { x with xs := x.xs.set i (layE y e o) } } a w' := by
  have hob := h.sw.obj L x hg
  rw [hm] at hob
  obtain ⟨c, ty, q1, q2, q3, q4, q5, q6, q7⟩ := hob.std hk
  have hi : i < x.xs.length := (List.getElem?_eq_some_iff.1 hy).1
  have hyl : y.cells.length = x.es := q5 y (List.mem_of_getElem? hy)
  have hmul : (i + 1) * x.es ≤ cap * x.es := Nat.mul_le_mul_right _ (by omega)
  rw [Nat.add_mul] at hmul
  have hul : u.cells.toList.length = e.cells.length := by simp [he.len]
  have hfit : i * x.es + o + 0 + u.cells.toList.length ≤ c.size := by omega
  have hrun := run_storeCells_at (P := P) b (i * x.es + o) ty u.cells.toList 0 c w q1 hfit (fun v hv => by
    obtain ⟨j, hj⟩ := List.getElem?_of_mem hv
    exact he.one j v (by simpa using hj))
  let c' := (c.toList.take (i * x.es + o + 0) ++ u.cells.toList ++ c.toList.drop (i * x.es + o + 0 + u.cells.toList.length)).toArray
  have hc'size : c'.size = c.size := by
    simp only [c', List.size_toArray, List.length_append, List.length_take, List.length_drop, Array.length_toList]
    simp only [Array.length_toList] at hfit
    omega
  have hc'lk : ∀ k, c'[k]? = if i * x.es + o ≤ k ∧ k < i * x.es + o + e.cells.length then u.cells[k - (i * x.es + o)]? else c[k]? := by
    intro k
    have := splice_get (cs := c.toList) (ds := u.cells.toList) (off := i * x.es + o) (by simp; simp at hfit; omega) k
    simp only [splice] at this
    simp only [c', Nat.add_zero, List.getElem?_toArray]
    rw [this, hul]
    simp
  have hheap : (w.setRow b c').heap[b]? = some (.cells c' ty (0, 0)) := setRow_heap w b c c' ty (0, 0) q1
  have hloc := locOf_setO (μ := μ) (x' := { x with xs := x.xs.set i (layE y e o) }) hg (fun p => locO_congr (x := { x with xs := x.xs.set i (layE y e o) }) (y := x) rfl (by simp) rfl p)
  obtain ⟨r1, r2⟩ := tyI_run ht w
  refine ⟨w.setRow b c', ?_, ?_⟩
  · simp only [Instr.storeAt, Instr.sureAddr, Sem.run_bind, Sem.run_pure, Result.andThen_ok, storeVar, r2]
    rw [if_neg (by simp [← he.len])]
    exact hrun
  · refine ⟨?_, h.defers, h.n, fun k z hk => by rw [hloc]; exact h.slot k z hk⟩
    refine h.sw.turn hg (fun p => locO_congr (x := { x with xs := x.xs.set i (layE y e o) }) (y := x) rfl (by simp) rfl p) rfl rfl hm hz (by exact hz) ⟨rfl, rfl, rfl, by simp, fun k hk hkb => setRow_other w b k c' hkb⟩ (by simp) ?_
    refine .inl ⟨c', ty, hheap, by rw [hc'size]; exact q2, by simpa using q3, by simpa using q4, ?_, ?_, q7⟩
    · intro y' hy'
      rcases List.mem_or_eq_of_mem_set hy' with hh | rfl
      · exact q5 y' hh
      · rw [layE_cells ho, splice_length ho, hyl]
    · intro i' y' j a' hy' hj
      change ∃ v, c'[i' * x.es + j]? = some v ∧ one v = true ∧ RV (oF x.arr F) (oL x.arr (locOf s.o μ)) a' v ∧ (x.fz = true → F false b (i' * x.es + j) = some v)
      simp only [List.getElem?_set] at hy'
      by_cases hii : i = i'
      · subst hii
        rw [if_pos rfl, if_pos hi] at hy'
        obtain rfl := Option.some.inj hy'
        rw [layE_cells ho, splice_get ho] at hj
        have hjl : j < x.es := by
          split at hj
          · omega
          · rw [← hyl]; exact (List.getElem?_eq_some_iff.1 hj).1
        rw [hc'lk]
        split at hj
        · rename_i hc
          have hlt : j - o < u.cells.size := by rw [← he.len]; exact (List.getElem?_eq_some_iff.1 hj).1
          have hgu : u.cells[j - o]? = some u.cells[j - o] := by simp [hlt]
          refine ⟨u.cells[j - o], ?_, he.one (j - o) _ hgu, he.rv (j - o) _ _ hj hgu, fun hf => by rw [hz] at hf; cases hf⟩
          rw [if_pos ⟨by omega, by omega⟩]
          rw [show i * x.es + j - (i * x.es + o) = j - o by omega]
          simp [hlt]
        · rename_i hc
          obtain ⟨v, g1, g2, g3, g4⟩ := q6 i y j a' hy hj
          refine ⟨v, ?_, g2, g3, g4⟩
          rw [if_neg (by omega)]
          exact g1
      · rw [if_neg hii] at hy'
        obtain ⟨v, g1, g2, g3, g4⟩ := q6 i' y' j a' hy' hj
        refine ⟨v, ?_, g2, g3, g4⟩
        have hjl : j < x.es := by
          have := q5 y' (List.mem_of_getElem? hy')
          rw [← this]; exact (List.getElem?_eq_some_iff.1 hj).1
        rw [hc'lk, if_neg ?_]
        · exact g1
        · rcases Nat.lt_or_gt_of_ne hii with hl | hl
          · have : (i + 1) * x.es ≤ i' * x.es := Nat.mul_le_mul_right _ hl
            rw [Nat.add_mul] at this; omega
          · have : (i' + 1) * x.es ≤ i * x.es := Nat.mul_le_mul_right _ hl
            rw [Nat.add_mul] at this; omega

theorem CV.mono {F G loc} {cs : List AV} {vs : Array Value} (h : CV F loc cs vs) (hf : ∀ (a : AV) (v : Value), a ∈ cs → RV F loc a v → RV G loc a v) : CV G loc cs vs :=
  ⟨h.len, fun i a v ha hv => hf a v (List.mem_of_getElem? ha) (h.rv i a v ha hv), h.one⟩

theorem storeA_sound {P : Program} {C F μ} {s : ASt} {a : Act} {w : World} (h : SR C F μ s a w) {t : TypeId} {p e : AV} {vp ve : Value} (hp : RV F (locOf s.o μ) p vp) (hv : RV F (locOf s.o μ) e ve) {r : St} (he : storeA P t p e s = some r) :
    ∃ w' F' μ', (Instr.storeAt t vp ve).run P w = .ok () w' ∧ SR C F' μ' r.st a w' := by
  unfold storeA at he
  split at he
  · rename_i L i o
    split at he
    · rename_i x ag size hg ht
      split at he
      · rename_i y hy
        split at he
        · rename_i hc
          obtain ⟨hz, hpl, hsz, hle⟩ := hc
          have hloc : locOf s.o μ L = some (locO x (μ L)) := by simp [locOf, hg]
          cases hp with
          | @ptr _ _ _ _ _ b cap es len g1 g2 =>
            rw [hloc] at g1
            obtain ⟨hm, rfl, rfl, hk1⟩ := locO_std (Option.some.inj g1)
            split at he
            · rename_i harr
              split at he
              · rename_i s1 e1 hs1
                split at he
                · rename_i x1 hg1
                  split at he
                  · rename_i hc1
                    obtain ⟨hz1, hpu, hsz1, hpl1⟩ := hc1
                    obtain rfl := Option.some.inj he
                    obtain ⟨F', f1, f2, f3, f4, f5⟩ := share_sound h hs1
                    have hloc1 : locOf s1.o μ L = some (locO x1 (μ L)) := by simp [locOf, hg1]
                    rw [f4, hloc] at hloc1
                    have hl1 := Option.some.inj hloc1
                    rw [locO_mk hk1] at hl1
                    obtain ⟨-, hes', hlen, hk2⟩ := locO_std hl1.symm
                    have hes := hes'.symm
                    have hx1 : x1.arr = x.arr ∧ x1.xs = x.xs := by
                      obtain ⟨x0, k0, k1, k2, _⟩ := share_keeps hs1 L x1 hg1
                      rw [hg] at k0
                      obtain rfl := Option.some.inj k0
                      exact ⟨k1, k2⟩
                    obtain ⟨w', k1, k2⟩ := f2.lay hg1 hm hk2 hz1 (i := i) (y := y) (by rw [hx1.2]; exact hy) (e := e1) (u := ve) (o := o) (by
                      rw [hx1.1, harr]
                      exact ((f5 ve hv).shared hpu).cv hpl1) (by omega) (ht.trans (by rw [hsz1]))
                    exact ⟨w', F', μ, by rw [hes]; exact k1, k2⟩
                  · cases he
                · cases he
              · cases he
            · rename_i harr
              obtain rfl := Option.some.inj he
              have harr' : x.arr = false := by simpa using harr
              obtain ⟨w', k1, k2⟩ := h.lay hg hm hk1 hz (i := i) (y := y) hy (e := e) (u := ve) (o := o) (by rw [harr']; exact hv.cv hpl) (by omega) (ht.trans (by rw [hsz]))
              exact ⟨w', F, μ, k1, k2⟩
        · cases he
      · cases he
    · cases he
  · cases he

end Go.Ab
