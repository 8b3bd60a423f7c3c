/-
  Ab17d: copy into an array that the walk made itself.
-/
import Derived.Test.YtldecgghhaoliaaAb17c
namespace Go.Ab
open Go.RowKit
set_option linter.unusedVariables false
set_option linter.unusedSimpArgs false

/-- A row of cells laid into an array. -/
theorem SR.layRow {C F μ} {s : ASt} {a : Act} {w : World} (h : SR C F μ s a w) {L : Nat} {x : AObj} (hg : lk s.o L = some x) {b cap : Nat} (hm : μ L = some (b, cap)) (hk : x.kd ≠ 1) (hz : x.fz = false) (har : x.arr = true)
    {ys : List AV} {cs : List Value} (he : ERow F ys x.es cs) {lo : Nat} (ho : lo + ys.length ≤ x.xs.length) {P : Program} :
    ∃ w', (storeCells ⟨b, lo * x.es, none⟩ cs).run P w = .ok () w' ∧ SR C F μ { s with o := setO s.o L { x with xs := splice x.xs ys lo } } a w' := by
  have hob := h.sw.obj L x hg
  rw [hm] at hob
  obtain ⟨c, ty, q1, q2, q3, q4, q5, q6, q7⟩ := hob.std hk
  obtain ⟨r1, r2, r3, r4⟩ := he
  have hmul : (lo + ys.length) * x.es ≤ cap * x.es := Nat.mul_le_mul_right _ (by omega)
  rw [Nat.add_mul] at hmul
  have hfit : lo * x.es + 0 + cs.length ≤ c.size := by omega
  have hrun := run_storeCells_at (P := P) b (lo * x.es) ty cs 0 c w q1 hfit r3
  let c' := (c.toList.take (lo * x.es + 0) ++ cs ++ c.toList.drop (lo * x.es + 0 + cs.length)).toArray
  have hc'size : c'.size = c.size := by
    simp only [c', List.size_toArray, List.length_append, List.length_take, List.length_drop, Array.length_toList]
    omega
  have hc'lk : ∀ k, c'[k]? = if lo * x.es ≤ k ∧ k < lo * x.es + cs.length then cs[k - lo * x.es]? else c[k]? := by
    intro k
    have := splice_get (cs := c.toList) (ds := cs) (off := lo * x.es) (by simp; omega) k
    simp only [splice] at this
    simp only [c', Nat.add_zero, List.getElem?_toArray]
    rw [this]
    simp
  have hheap : (w.setRow b c').heap[b]? = some (.cells c' ty (0, 0)) := setRow_heap w b c c' ty (0, 0) q1
  have hlen : (splice x.xs ys lo).length = x.xs.length := splice_length ho
  have hloc := locOf_setO (μ := μ) (x' := { x with xs := splice x.xs ys lo }) hg (fun p => locO_congr (x := { x with xs := splice x.xs ys lo }) (y := x) rfl hlen rfl p)
  refine ⟨w.setRow b c', hrun, ?_⟩
  refine ⟨?_, h.defers, h.n, fun k z hk => by rw [hloc]; exact h.slot k z hk⟩
  refine h.sw.turn hg (fun p => locO_congr (x := { x with xs := splice x.xs ys lo }) (y := x) rfl hlen rfl p) rfl rfl hm hz (by exact hz) ⟨rfl, rfl, rfl, by simp, fun k hk hkb => setRow_other w b k c' hkb⟩ (by simp) ?_
  have hel : ∀ (i : Nat) (y : AV), (splice x.xs ys lo)[i]? = some y → (lo ≤ i ∧ i < lo + ys.length ∧ ys[i - lo]? = some y) ∨ (¬ (lo ≤ i ∧ i < lo + ys.length) ∧ x.xs[i]? = some y) := by
    intro i y hy
    rw [splice_get ho] at hy
    split at hy
    · rename_i hc; exact .inl ⟨hc.1, hc.2, hy⟩
    · rename_i hc; exact .inr ⟨hc, hy⟩
  refine .inl ⟨c', ty, hheap, by rw [hc'size]; exact q2, by show (splice x.xs ys lo).length ≤ cap; omega, by show (splice x.xs ys lo).length ≤ maxRow; omega, ?_, ?_, q7⟩
  · intro y hy
    obtain ⟨i, hi⟩ := List.getElem?_of_mem hy
    rcases hel i y hi with ⟨_, _, g⟩ | ⟨_, g⟩
    · exact r2 y (List.mem_of_getElem? g)
    · exact q5 y (List.mem_of_getElem? g)
  · intro i y j a' hy hj
    change ∃ v, c'[i * x.es + j]? = some v ∧ one v = true ∧ RV (oF x.arr F) (oL x.arr (locOf s.o μ)) a' v ∧ (x.fz = true → F false b (i * x.es + j) = some v)
    rcases hel i y hy with ⟨g1, g2, g⟩ | ⟨g1, g⟩
    · have hjl : j < x.es := by rw [← r2 y (List.mem_of_getElem? g)]; exact (List.getElem?_eq_some_iff.1 hj).1
      obtain ⟨v, e1, e2⟩ := r4 (i - lo) y j a' g hj
      have m1 : lo * x.es ≤ i * x.es := Nat.mul_le_mul_right _ g1
      have m2 : i * x.es - lo * x.es = (i - lo) * x.es := (Nat.sub_mul _ _ _).symm
      have hlt : (i - lo) * x.es + j < cs.length := (List.getElem?_eq_some_iff.1 e1).1
      refine ⟨v, ?_, r3 v (List.mem_of_getElem? e1), by simpa [oF, oL, har] using e2, fun hf => by rw [hz] at hf; cases hf⟩
      rw [hc'lk, if_pos ⟨by omega, by omega⟩, show i * x.es + j - lo * x.es = (i - lo) * x.es + j by omega]
      exact e1
    · obtain ⟨v, e1, e2, e3, e4⟩ := q6 i y j a' g hj
      refine ⟨v, ?_, e2, e3, e4⟩
      have hjl : j < x.es := by rw [← q5 y (List.mem_of_getElem? g)]; exact (List.getElem?_eq_some_iff.1 hj).1
      rw [hc'lk, if_neg ?_]
      · exact e1
      · rw [r1]
        rcases Nat.lt_or_ge i lo with hl | hl
        · have : (i + 1) * x.es ≤ lo * x.es := Nat.mul_le_mul_right _ hl
          rw [Nat.add_mul] at this; omega
        · have : (lo + ys.length) * x.es ≤ i * x.es := Nat.mul_le_mul_right _ (by omega)
          rw [Nat.add_mul] at this; omega

theorem SW.same {C F μ} {o o' : Objs} {w : World} (h : SW C F μ o w) (e : ∀ L, lk o' L = lk o L) : SW C F μ o' w := by
  have hl : locOf o' μ = locOf o μ := funext fun L => by simp [locOf, e]
  refine ⟨h.facts, h.sub, h.lentc, h.grow, h.newf, h.fr, fun L x hx => ?_, fun L x L' x' b c c' h1 h2 => ?_, fun L x b c h1 => ?_, fun L x b c h1 => ?_, fun L x x0 h0 h1 => ?_⟩
  · rw [hl]; exact h.obj L x (by rw [← e]; exact hx)
  · exact h.dist L x L' x' b c c' (by rw [← e]; exact h1) (by rw [← e]; exact h2)
  · exact h.excl L x b c (by rw [← e]; exact h1)
  · exact h.mine L x b c (by rw [← e]; exact h1)
  · exact h.keep L x x0 h0 (by rw [← e]; exact h1)

def copyA (P : Program) (st : TypeId) (a b : AV) (d : Nat) (s : ASt) : Option St :=
  match tyEl P st, srcOf s.o b, a with
  | some (e, es, _), some ys, .ref L lo n => match lk s.o L with
    | some x => if x.arr = true ∧ x.fz = false ∧ x.kd ≠ 1 then
        some ⟨decide (d < s.n ∧ (∀ y ∈ ys, y.cells.length = es) ∧ x.es = es ∧ ys.length ≤ n ∧ (ys ≠ [] ∨ lo = 0) ∧ lo + n ≤ x.xs.length), { s with o := setO s.o L { x with xs := splice x.xs ys lo } }.put d (nt .i64 ys.length)⟩
      else none
    | none => none
  | _, _, _ => none

theorem copyA_sound {P : Program} {C F μ} {s : ASt} {a : Act} {w : World} (h : SR C F μ s a w) {st xt ty : TypeId} {d : Nat} {x y : AV} {vx vy : Value} (hx : RV F (locOf s.o μ) x vx) (hy : RV F (locOf s.o μ) y vy) {r : St}
    (he : copyA P st x y d s = some r) (hn : r.need) : ∃ v w', (Builtin.copy_ #[st, xt] ty #[vx, vy]).run P w = .ok v w' ∧ SR C F μ r.st (a.put (some d) v) w' := by
  unfold copyA at he
  split at he
  · rename_i e es by_ ys L lo n ht hs
    split at he
    · rename_i xo hg
      split at he
      · rename_i hc
        obtain ⟨c1, c2, c3⟩ := hc
        obtain rfl := Option.some.inj he
        obtain ⟨n1, n2, rfl, n4, n5, n6⟩ := of_decide_eq_true hn
        obtain ⟨hsrc, cs, hrow, hload⟩ := src_load (P := P) h.sw hs hy n2
        obtain ⟨hu, hsz, _⟩ := tyEl_run ht w
        have hl := hsrc.len (P := P) w
        have hmin : Nat.min ys.length n = ys.length := Nat.min_eq_left n4
        generalize hloc : locOf s.o μ = loc at hx
        cases hx with
        | @refNil _ _ _ es' len' base g =>
          rw [← hloc] at g
          simp only [locOf, hg, Option.map_some] at g
          obtain ⟨hm, rfl, rfl, hk1⟩ := locO_std (Option.some.inj g)
          have ho := h.sw.obj L xo hg
          rw [hm] at ho
          have hx0 : xo.xs = [] := ho
          obtain rfl : ys = [] := List.length_eq_zero_iff.1 (by omega)
          obtain rfl : cs = [] := List.length_eq_zero_iff.1 (by rw [hrow.1]; simp)
          have hxx : { xo with xs := splice xo.xs [] 0 } = xo := by obtain ⟨ar, fz, pin, es, xs, kd⟩ := xo; simp at hx0; subst hx0; simp [splice]
          have hsr : SR C F μ { s with o := setO s.o L { xo with xs := splice xo.xs [] 0 } } a w := by
            rw [hxx]
            have e : ∀ L', lk (setO s.o L xo) L' = lk s.o L' := fun L' => by
              rw [get_setO]
              split
              · rename_i q; subst q; exact hg.symm
              · rfl
            have hl' : locOf (setO s.o L xo) μ = locOf s.o μ := funext fun L => by simp [locOf, e]
            exact ⟨h.sw.same e, h.defers, h.n, fun k z hk => by rw [hl']; exact h.slot k z hk⟩
          refine ⟨_, w, ?_, hsr.put n1 (.sc rfl)⟩
          have hl0 : (Builtin.lenOf vy).run P w = .ok 0 w := hl
          have hload0 : (Builtin.firstCells xo.es 0 vy).run P w = .ok #[] w := hload
          cases base <;> simp [Builtin.copy_, hu, hsz, hl0, hload0, goInt, storeCells]
        | @ref _ _ _ _ _ b cap es' len' o c g g1 g2 g3 g4 =>
          rw [← hloc] at g
          simp only [locOf, hg, Option.map_some] at g
          obtain ⟨hm, rfl, rfl, hk1⟩ := locO_std (Option.some.inj g)
          have ho : o = lo * xo.es := g3 (by rcases n5 with q | q; · exact .inl (by have := List.length_pos_iff.2 q; omega)
                                             · exact .inr q)
          subst ho
          obtain ⟨w', k1, k2⟩ := h.layRow hg hm c3 c2 c1 hrow (lo := lo) (by omega) (P := P)
          refine ⟨_, w', ?_, k2.put n1 (.sc rfl)⟩
          simp [Builtin.copy_, hu, hsz, hl, hmin, hload, k1, goInt]
      · cases he
    · cases he
  · cases he
end Go.Ab
