/-
  For every list of permutations, state and roles: the law OrbitFixes of layer 30 returns true, and the arguments read as they did. No condition.
-/
import Derived.Test.YtmadpbpmcbdboaaGreatS11
import Derived.Test.YtmadpbpmcbdboaaGreatEOrbitFixes2
import Derived.Test.YtmadpbpmcbdboaaGreatS7
import Derived.Test.YtmadpbpmcbdboaaGreatEOrbitFixes1
set_option linter.unusedSimpArgs false
set_option linter.unusedVariables false
namespace Go.Proofs.YtmadpbpmcbdboaaGreat
open Go.Ab Go.ChangeShapes Go.WideShapes Go.ChangeAt Go.RowKit
set_option maxRecDepth 100000
namespace orbitFixes
theorem contract (H : Type) (enc : TypeId × Value → H) (W : World) (base : Nat) (args : Array Value) (ds gs : List (DataW H)) (before : List MemPlace)
    (hval : ∀ (j : Nat) t v, Tryz.f7.params[j]? = some t → args[j]? = some v → Value.okWide Tryz.prog W .any base t v)
    (hW : DataW.Whole enc Tryz.prog Tryz.f7.params.toList Rows.orbitFixesSpec.vars false W args.toList ds gs before)
    (hz : (DataW.weightsEach Tryz.prog (Tryz.f7.params.toList ++ Rows.orbitFixesSpec.plain.varTypes Tryz.prog) (ds ++ gs)).all (· ≤ reachBytes) = true) :
    Calls Tryz.prog 7 args W fun e W' => ∃ v, e = .returned v ∧ Rows.orbitFixesSpec.post enc Tryz.prog Tryz.f7 false true false false W args v W' := by
  have hW' := hW
  obtain ⟨p, q, hA0, hV, rfl, hfz, hnd⟩ := hW
  have hA : DataW.TrodAll enc Tryz.prog W 0 (fun _ => true) true Tryz.f7.params.toList args.toList ds p := hA0
  rw [Tryz.params7] at hA hval hz
  obtain ⟨v0, vs0, d0, ds0, p0, q0, hargs, rfl, rfl, h0, r0⟩ := trodAll_cons hA
  obtain ⟨v1, vs1, d1, ds1, p1, q1, rfl, rfl, rfl, h1, r1⟩ := trodAll_cons r0
  obtain ⟨v2, vs2, d2, ds2, p2, q2, rfl, rfl, rfl, h2, r2⟩ := trodAll_cons r1
  obtain ⟨rfl, rfl, rfl⟩ := trodAll_nil r2
  obtain rfl : args = #[v0, v1, v2] := by cases args; simp_all
  obtain ⟨x0, o0, rv0⟩ := Came.arg came_perms h0 (hval 0 _ v0 rfl rfl) (fun m hm => of_decide_eq_true (List.all_eq_true.1 hz m (DataW.weights_mem_each (j := 0) rfl rfl m hm))) (fun x cs h => by cases h) (fun h => absurd h (by decide +kernel))
  obtain ⟨x1, o1, rv1⟩ := Came.arg came_terms h1 (hval 1 _ v1 rfl rfl) (fun m hm => of_decide_eq_true (List.all_eq_true.1 hz m (DataW.weights_mem_each (j := 1) rfl rfl m hm))) (fun x cs h => by cases h) (fun h => absurd h (by decide +kernel))
  obtain ⟨x2, o2, rv2⟩ := Came.arg came_terms h2 (hval 2 _ v2 rfl rfl) (fun m hm => of_decide_eq_true (List.all_eq_true.1 hz m (DataW.weights_mem_each (j := 2) rfl rfl m hm))) (fun x cs h => by cases h) (fun h => absurd h (by decide +kernel))
  refine (law_calls (OrbitFixes_ok x0 x1 x2 o0 o1 o2) (wF_ok W) rfl (fun i a v ha hv => ?_)).mono fun e W' ⟨he, hfr⟩ => ?_
  · rcases i with _ | _ | _ | i
    · simp at ha hv; subst ha; subst hv; exact rv0
    · simp at ha hv; subst ha; subst hv; exact rv1
    · simp at ha hv; subst ha; subst hv; exact rv2
    · simp at ha
  · refine ⟨_, he, post_true kids full (fun t ht => ?_) (bt := 4) (by kernel_rfl) Tryz.underlying4 rfl hW' rfl hfr⟩
    rw [Tryz.params7] at ht
    simp at ht
    rcases ht with rfl | rfl | rfl <;> exact of_decide_eq_true (by kernel_rfl)
theorem lifted (os : Os) (started : os.Started) (H : Type) (enc : TypeId × Value → H) :
    ReturnsInHanded {} Tryz.checked os 7 .any (Rows.orbitFixesSpec.pre6 enc Tryz.prog Tryz.f7 Rows.orbitFixesRow.domain false) (Rows.orbitFixesSpec.post enc Tryz.prog Tryz.f7 false true false false) := by
  refine returnsInHanded_of_change_sized (C := Tryz.checked) own started (by kernel_rfl) Tryz.func7
    (ChangeSpec.witness6 (enc := enc) (C := Tryz.checked) false ⟨#[], #[.slice none 0 0, .slice none 0 0, .slice none 0 0], []⟩ 8 (by kernel_rfl) (by kernel_rfl) (by kernel_rfl) (by kernel_rfl)) ?_
  intro W base args ds gs before hval hW _ hz _
  exact contract H enc W base args ds gs before hval hW hz
theorem proved : Rows.OrbitFixesSaid :=
  OpenClaim.holds_of_wide 7 Tryz.f7 rfl rfl rfl rfl rfl rfl rfl ⟨rfl, rfl, rfl, rfl, rfl⟩ rfl rfl rfl rfl rfl (by kernel_rfl) Tryz.func7 (by kernel_rfl)
    (of_decide_eq_true (by kernel_rfl)) (by unfold Func.isWrapper; first | (rw [if_pos (by decide +kernel)]; kernel_rfl) | (rw [if_neg (by decide +kernel)]; exact ⟨rfl, rfl⟩))
    (fun os started H enc _ => lifted os started H enc)
end orbitFixes
end Go.Proofs.YtmadpbpmcbdboaaGreat
