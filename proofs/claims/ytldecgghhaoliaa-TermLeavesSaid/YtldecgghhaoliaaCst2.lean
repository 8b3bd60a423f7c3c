/-
  Cst2: the library's sort at strings, by the kit's contract.
-/
import Derived.Test.YtldecgghhaoliaaPdq0
import Derived.Test.YtldecgghhaoliaaCst1
import Derived.Shelf.SlSortCmp.Whole1
namespace Go.Proofs.Ytldecgghhaoliaa
open Go.Ab
set_option linter.unusedSimpArgs false
set_option maxRecDepth 100000
set_option maxHeartbeats 8000000
theorem cmpS_neg (x y : ByteArray) : cmpS y x = -cmpS x y := cmp_neg _ _
theorem cmpS_self (x : ByteArray) : cmpS x x = 0 := cmp_self _
theorem cmpS_le {x y z : ByteArray} (h : cmpS x y ≤ 0) (k : cmpS y z ≤ 0) : cmpS x z ≤ 0 := cmp_pre.tr _ _ _ h k
theorem cmpS_lt {x y z : ByteArray} (h : cmpS x y < 0) (k : cmpS y z < 0) : cmpS x z < 0 := cmp_lt_le h (Int.le_of_lt k)
theorem cmpS_swo : Go.Sort.SWO (ltOf cmpS) where
  irrefl x := by unfold ltOf; rw [cmpS_self]; rfl
  trans x y z h1 h2 := by
    unfold ltOf at *
    simp only [decide_eq_true_eq] at *
    exact cmpS_lt h1 h2
  ntrans x y z h1 h2 := by
    unfold ltOf at *
    simp only [decide_eq_false_iff_not, Int.not_lt] at *
    have a := cmpS_neg x y
    have b := cmpS_neg y z
    have c := cmpS_neg x z
    have := cmpS_le (x := z) (y := y) (z := x) (by omega) (by omega)
    omega
theorem SortFunc_ok (l : List ByteArray) (hb : l.length ≤ 140737488355328) : MCall Try.prog 70 [.ref 1000 0 l.length, .clo 71 []] [(1000, rowO eStr 1 0 l)]
    (fun r o' => ∃ m : List ByteArray, (m.Perm l ∧ m.Pairwise (fun x y => cmpS x y ≤ 0)) ∧ r = .tup [] ∧ o' = [(1000, rowO eStr 1 0 m)]) := by
  by_cases hl : l = []
  · subst hl
    exact (SortFunc_zero _).mono fun r o' ⟨h1, h2⟩ => ⟨[], ⟨.refl _, .nil⟩, h1, h2⟩
  · have h := sort_bridge (P := Try.prog) (f := 70) (g := 71) Value.string (fun _ => rfl) (fun _ => rfl) (ltOf cmpS) 0 (by decide) l hl Try.call70
      (fun blk cap w hH hblk => by
        have h := Any.slices_SortFunc Try.pdqS Value.string (fun _ => rfl) cmpS cmpS_swo 71 #[] blk 0 cap l.toArray w Try.call71
          (fun m os dk hs x y => cmp_lays Value.string (fun _ => rfl) cmpS less_ok x y _) hH hblk (by simp; omega)
        exact h)
    refine h.mono fun r o' ⟨m, ⟨h1, h2⟩, h3, h4⟩ => ⟨m, ⟨h1, ?_⟩, h3, h4⟩
    refine h2.imp fun {x y} hxy => ?_
    unfold ltOf at hxy
    simp only [decide_eq_false_iff_not, Int.not_lt] at hxy
    have := cmpS_neg x y
    omega
end Go.Proofs.Ytldecgghhaoliaa
