/-
  For every term of bulk at most 1048576: the law TermKinds of layer 1 (validity, depth, size and text of terms are as defined) returns true, and the argument reads as it did.
-/
import Derived.Test.YtldecgghhaoliaaCameU
namespace Go.Proofs.Ytldecgghhaoliaa
open Go.Ab Go.ChangeShapes Go.WideShapes Go.ChangeAt Go.RowKit
set_option linter.unusedSimpArgs false
set_option linter.unusedVariables false
set_option maxRecDepth 100000
namespace termKinds
theorem contract (H : Type) (enc : TypeId × Value → H) (F : Stop.Interp) (W : World) (base : Nat) (args : Array Value) (ds gs : List (DataW H)) (before : List MemPlace)
    (hval : ∀ (j : Nat) t v, Try.f4.params[j]? = some t → args[j]? = some v → Value.okWide Try.prog W .any base t v)
    (hW : DataW.Whole enc Try.prog Try.f4.params.toList (Rows.OpenSpec.upto Rows.termKindsSpec).vars false W args.toList ds gs before) (hkk : Rows.uptoSmall H (ds ++ gs) = true)
    (hz : (DataW.weightsEach Try.prog (Try.f4.params.toList ++ (Rows.OpenSpec.upto Rows.termKindsSpec).bare.plain.varTypes Try.prog) (ds ++ gs)).all (· ≤ reachBytes) = true) :
    Calls Try.prog 4 args W fun e W' => ∃ v, e = .returned v ∧ ((Rows.OpenSpec.upto Rows.termKindsSpec).at F).post enc Try.prog Try.f4 false true false false W args v W' := by
  have hW' := hW
  obtain ⟨p, q, hA0, hV, rfl, hfz, hnd⟩ := hW
  have hA : DataW.TrodAll enc Try.prog W 0 (fun _ => true) true Try.f4.params.toList args.toList ds p := hA0
  rw [Try.params4] at hA hval hz
  obtain ⟨v0, vs0, d0, ds0, p0, q0, hargs, rfl, rfl, h0, r0⟩ := trodAll_cons hA
  obtain ⟨rfl, rfl, rfl⟩ := trodAll_nil r0
  obtain rfl : args = #[v0] := by cases args; simp_all
  have hb := of_decide_eq_true hkk
  rw [upto_all] at hb
  simp only [List.cons_append, bulkL] at hb
  obtain ⟨x0, ⟨o0, z0⟩, rv0⟩ := CameB.arg cameB_term h0 (hval 0 _ v0 rfl rfl) (fun m hm => of_decide_eq_true (List.all_eq_true.1 hz m (DataW.weights_mem_each (j := 0) rfl rfl m hm))) (fun _ _ _ => by decide +kernel) (fun _ x => ⟨_, rfl⟩)
  refine (law_calls (TermKinds_ok x0 o0 (by omega)) (wF_ok W) rfl (fun i a v ha hv => ?_)).mono fun e W' ⟨he, hfr⟩ => ?_
  · rcases i with _ | i
    · simp at ha hv; subst ha; subst hv; exact rv0
    · simp at ha
  · refine ⟨_, he, post_true kids full (fun t ht => ?_) (bt := 4) (by kernel_rfl) Try.underlying4 rfl hW' rfl hfr⟩
    rw [Try.params4] at ht
    simp at ht
    rcases ht with rfl <;> exact of_decide_eq_true (by kernel_rfl)
theorem lifted (os : Os) (started : os.Started) (H : Type) (enc : TypeId × Value → H) (F : Stop.Interp) :
    ReturnsInHanded {} Try.checked os 4 .any ((Rows.OpenSpec.upto Rows.termKindsSpec).pre6 enc Try.prog Try.f4 Rows.termKindsUptoRow.domain false) (((Rows.OpenSpec.upto Rows.termKindsSpec).at F).post enc Try.prog Try.f4 false true false false) := by
  refine returnsInHanded_of_cond_sized (C := Try.checked) rfl own started (by kernel_rfl) Try.func4
    (OpenSpec.witness (enc := enc) (C := Try.checked) rfl false ⟨#[], #[.agg #[.string (ByteArray.mk #[]), .slice none 0 0]], []⟩ 8 (by kernel_rfl) (by kernel_rfl) (by kernel_rfl) (x := ([.agg [.lit (.string []), .nil]], [], [])) (by kernel_rfl) (by kernel_rfl) (by kernel_rfl)) ?_
  intro W base args ds gs before hval hW _ hkk hz _
  exact contract H enc F W base args ds gs before hval hW hkk hz
theorem proved : Rows.TermKindsUptoSaid :=
  OpenClaim.holds_of_cond 4 Try.f4 rfl rfl rfl rfl rfl rfl rfl ⟨rfl, rfl, rfl, rfl, rfl⟩ rfl rfl rfl rfl rfl (by kernel_rfl) Try.func4 (by kernel_rfl)
    (of_decide_eq_true (by kernel_rfl)) (by unfold Func.isWrapper; first | (rw [if_pos (by decide +kernel)]; kernel_rfl) | (rw [if_neg (by decide +kernel)]; exact ⟨rfl, rfl⟩))
    (fun os started H enc _ F => lifted os started H enc F)
end termKinds
end Go.Proofs.Ytldecgghhaoliaa
