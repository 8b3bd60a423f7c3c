/-
  For every list of terms: the law TermLeaves of layer 1 (the variables and the constants of terms are listed as defined) returns true, and the argument reads as it did. No condition.
-/
import Derived.Test.YtldecgghhaoliaaS7
import Derived.Test.YtldecgghhaoliaaS6
set_option linter.unusedSimpArgs false
set_option linter.unusedVariables false
namespace Go.Proofs.Ytldecgghhaoliaa
open Go.Ab Go.ChangeShapes Go.WideShapes Go.ChangeAt Go.RowKit
set_option maxRecDepth 100000
namespace termLeaves
theorem contract (H : Type) (enc : TypeId × Value → H) (W : World) (base : Nat) (args : Array Value) (ds gs : List (DataW H)) (before : List MemPlace)
    (hval : ∀ (j : Nat) t v, Try.f9.params[j]? = some t → args[j]? = some v → Value.okWide Try.prog W .any base t v)
    (hW : DataW.Whole enc Try.prog Try.f9.params.toList Rows.termLeavesSpec.vars false W args.toList ds gs before)
    (hz : (DataW.weightsEach Try.prog (Try.f9.params.toList ++ Rows.termLeavesSpec.plain.varTypes Try.prog) (ds ++ gs)).all (· ≤ reachBytes) = true) :
    Calls Try.prog 9 args W fun e W' => ∃ v, e = .returned v ∧ Rows.termLeavesSpec.post enc Try.prog Try.f9 false true false false W args v W' := by
  have hW' := hW
  obtain ⟨p, q, hA0, hV, rfl, hfz, hnd⟩ := hW
  have hA : DataW.TrodAll enc Try.prog W 0 (fun _ => true) true Try.f9.params.toList args.toList ds p := hA0
  rw [Try.params9] at hA hval hz
  obtain ⟨v0, vs0, d0, ds0, p0, q0, hargs, rfl, rfl, h0, r0⟩ := trodAll_cons hA
  obtain ⟨rfl, rfl, rfl⟩ := trodAll_nil r0
  obtain rfl : args = #[v0] := by cases args; simp_all
  obtain ⟨x0, o0, rv0⟩ := Came.arg came_terms h0 (hval 0 _ v0 rfl rfl) (fun m hm => of_decide_eq_true (List.all_eq_true.1 hz m (DataW.weights_mem_each (j := 0) rfl rfl m hm))) (fun x cs h => by cases h) (fun h => absurd h (by decide +kernel))
  refine (law_calls (TermLeaves_ok x0 o0) (wF_ok W) rfl (fun i a v ha hv => ?_)).mono fun e W' ⟨he, hfr⟩ => ?_
  · rcases i with _ | i
    · simp at ha hv; subst ha; subst hv; exact rv0
    · simp at ha
  · refine ⟨_, he, post_true kids full (fun t ht => ?_) (bt := 4) (by kernel_rfl) Try.underlying4 rfl hW' rfl hfr⟩
    rw [Try.params9] at ht
    simp at ht
    rcases ht with rfl <;> exact of_decide_eq_true (by kernel_rfl)
theorem lifted (os : Os) (started : os.Started) (H : Type) (enc : TypeId × Value → H) :
    ReturnsInHanded {} Try.checked os 9 .any (Rows.termLeavesSpec.pre6 enc Try.prog Try.f9 Rows.termLeavesRow.domain false) (Rows.termLeavesSpec.post enc Try.prog Try.f9 false true false false) := by
  refine returnsInHanded_of_change_sized (C := Try.checked) own started (by kernel_rfl) Try.func9
    (ChangeSpec.witness6 (enc := enc) (C := Try.checked) false ⟨#[], #[.slice none 0 0], []⟩ 8 (by kernel_rfl) (by kernel_rfl) (by kernel_rfl) (by kernel_rfl)) ?_
  intro W base args ds gs before hval hW _ hz _
  exact contract H enc W base args ds gs before hval hW hz
theorem proved : Rows.TermLeavesSaid :=
  OpenClaim.holds_of_wide 9 Try.f9 rfl rfl rfl rfl rfl rfl rfl ⟨rfl, rfl, rfl, rfl, rfl⟩ rfl rfl rfl rfl rfl (by kernel_rfl) Try.func9 (by kernel_rfl)
    (of_decide_eq_true (by kernel_rfl)) (by unfold Func.isWrapper; first | (rw [if_pos (by decide +kernel)]; kernel_rfl) | (rw [if_neg (by decide +kernel)]; exact ⟨rfl, rfl⟩))
    (fun os started H enc _ => lifted os started H enc)
end termLeaves
end Go.Proofs.Ytldecgghhaoliaa
