/-
  For every string: the law TermNames of layer 1 (names, numbers and variable names are recognized as defined) returns true, and the string reads as it did. No condition.
-/
import Derived.Test.YtldecgghhaoliaaNum1
import Derived.Test.YtldecgghhaoliaaAwake
import Derived.Test.YtldecgghhaoliaaAb25
import Derived.ChangeMaps5
namespace Go.Proofs.Ytldecgghhaoliaa
open Go.Ab Go.ChangeShapes Go.WideShapes Go.ChangeAt Go.RowKit
set_option linter.unusedSimpArgs false
set_option linter.unusedVariables false
set_option maxRecDepth 100000
theorem TermNames_ok (s : ByteArray) : ACall Try.prog 3 [.sc (.string s)] (fun r => r = bl true) := by
  have h1 := Name_ok s
  have h2 := refName_ok s
  have h3 := Variable_ok s
  have h4 := refVariable_ok s
  have h5 := Number_ok s
  have h6 := refNumber_ok s
  have h7 := awake_ok
  generalize nameS s = a at *
  generalize varS s = b at *
  generalize numS s = c at *
  refine acall_of_awp Try.func3 Try.call3 rfl (by simp [Try.ntmps3]) ?_; simp only [Try.ntmps3, Try.results3]
  repeat' (first
    | (refine awp_seqK (fun K hK => ?_))
    | (refine Hide.go (by assumption) ?_)
    | (refine condQ_dec (fun h => ?_) (fun h => ?_) <;> (first | (exfalso; omega) | (simp only [h, decide_true, decide_false, not_false_eq_true]) | skip))
    | (refine condQ_ndec (fun h => ?_) (fun h => ?_) <;> (first | (exfalso; omega) | (simp only [h, decide_true, decide_false, not_false_eq_true]) | skip))
    | (refine gK_dec (fun h => ?_) (fun h => ?_) <;> (first | (exfalso; omega) | (simp only [h, decide_true, decide_false, not_false_eq_true]) | skip))
    | (refine gK_ndec (fun h => ?_) (fun h => ?_) <;> (first | (exfalso; omega) | (simp only [h, decide_true, decide_false, not_false_eq_true]) | skip))
    | (refine dgK_dec (fun h => ?_) (fun h => ?_) <;> (first | (exfalso; omega) | (simp only [h, decide_true, decide_false, not_false_eq_true]) | skip))
    | (refine dgK_ndec (fun h => ?_) (fun h => ?_) <;> (first | (exfalso; omega) | (simp only [h, decide_true, decide_false, not_false_eq_true]) | skip))
    | (refine end_ret [] ?_; simp [go_sem])
    | (refine stepK_is rfl (h1) (by simp) ?_)
    | (refine dstepK_is rfl (h1) rfl (by simp) ?_)
    | (refine stepK_is rfl (h2) (by simp) ?_)
    | (refine dstepK_is rfl (h2) rfl (by simp) ?_)
    | (refine stepK_is rfl (h3) (by simp) ?_)
    | (refine dstepK_is rfl (h3) rfl (by simp) ?_)
    | (refine stepK_is rfl (h4) (by simp) ?_)
    | (refine dstepK_is rfl (h4) rfl (by simp) ?_)
    | (refine stepK_is rfl (h5) (by simp) ?_)
    | (refine dstepK_is rfl (h5) rfl (by simp) ?_)
    | (refine stepK_is rfl (h6) (by simp) ?_)
    | (refine dstepK_is rfl (h6) rfl (by simp) ?_)
    | (refine stepK_is rfl (h7) (by simp) ?_)
    | (refine dstepK_is rfl (h7) rfl (by simp) ?_)
    | (simp (disch := omega) [go_sem])
    | (refine And.intro (by omega) ?_)
    | (refine condQ_nsplit (fun h => ?_) (fun h => ?_) <;> simp only [h, Bool.not_true, Bool.not_false])
    | (refine gK_nsplit (fun h => ?_) (fun h => ?_) <;> simp only [h, Bool.not_true, Bool.not_false])
    | (refine dgK_nsplit (fun h => ?_) (fun h => ?_) <;> simp only [h, Bool.not_true, Bool.not_false])
    | (refine condQ_split (fun h => ?_) (fun h => ?_) <;> (first | (exfalso; simp at h; omega) | ((try simp only [h]); (try simp at h))))
    | (refine gK_split (fun h => ?_) (fun h => ?_) <;> (first | (exfalso; simp at h; omega) | ((try simp only [h]); (try simp at h))))
    | (refine dgK_split (fun h => ?_) (fun h => ?_) <;> (first | (exfalso; simp at h; omega) | ((try simp only [h]); (try simp at h))))
    | fail)
namespace names
theorem own : ownKnob Try.prog.godebug = none := by kernel_rfl
theorem kids : Kids Try.prog (· < Try.prog.types.size) := kids_rows (by kernel_rfl) (by kernel_rfl)
theorem full : ∀ t e, t < Try.prog.types.size → Try.prog.underlying t = some (.slice e) → 0 < Try.prog.cellsOf e := slices_full_of Try.prog (by kernel_rfl)
theorem contract (H : Type) (enc : TypeId × Value → H) (W : World) (base : Nat) (args : Array Value) (ds gs : List (DataW H)) (before : List MemPlace)
    (hval : ∀ (j : Nat) t v, Try.f3.params[j]? = some t → args[j]? = some v → Value.okWide Try.prog W .any base t v)
    (hW : DataW.Whole enc Try.prog Try.f3.params.toList Rows.termNamesSpec.vars false W args.toList ds gs before) :
    Calls Try.prog 3 args W fun e W' => ∃ v, e = .returned v ∧ Rows.termNamesSpec.post enc Try.prog Try.f3 false true false false W args v W' := by
  have hW' := hW
  obtain ⟨p, q, hA0, hV, rfl, hfz, hnd⟩ := hW
  have hA : DataW.TrodAll enc Try.prog W 0 (fun _ => true) true Try.f3.params.toList args.toList ds p := hA0
  rw [Try.params3] at hA hval
  obtain ⟨v0, vs0, d0, ds0, p0, q0, hargs, rfl, rfl, h0, r0⟩ := trodAll_cons hA
  obtain ⟨rfl, rfl, rfl⟩ := trodAll_nil r0
  obtain rfl : args = #[v0] := by cases args; simp_all
  obtain ⟨s, rfl, hd, hp, hsz⟩ := Go.ChangeMaps.open_string Try.underlying9 (hval 0 9 v0 rfl rfl) h0
  refine (law_calls (TermNames_ok s) (noF_ok W) rfl (fun i a v ha hv => ?_)).mono fun e W' ⟨he, hfr⟩ => ?_
  · cases i with
    | zero => simp at ha hv; subst ha; subst hv; exact .sc rfl
    | succ i => simp at ha
  · refine ⟨_, he, post_true kids full (fun t ht => ?_) (bt := 4) (by kernel_rfl) Try.underlying4 rfl hW' rfl hfr⟩
    rw [Try.params3] at ht
    simp at ht
    subst ht
    exact of_decide_eq_true (by kernel_rfl)
theorem lifted (os : Os) (started : os.Started) (H : Type) (enc : TypeId × Value → H) :
    ReturnsInHanded {} Try.checked os 3 .any (Rows.termNamesSpec.pre6 enc Try.prog Try.f3 Rows.termNamesRow.domain false) (Rows.termNamesSpec.post enc Try.prog Try.f3 false true false false) := by
  refine returnsInHanded_of_change (C := Try.checked) own started (by kernel_rfl) Try.func3
    (ChangeSpec.witness6 (enc := enc) (C := Try.checked) false ⟨#[], #[.string (ByteArray.mk #[])], []⟩ 8 (by kernel_rfl) (by kernel_rfl) (by kernel_rfl) (by kernel_rfl)) ?_
  intro W base args ds gs before hval hW _ _
  exact contract H enc W base args ds gs before hval hW
theorem proved : Rows.TermNamesSaid :=
  OpenClaim.holds_of_wide 3 Try.f3 rfl rfl rfl rfl rfl rfl rfl ⟨rfl, rfl, rfl, rfl, rfl⟩ rfl rfl rfl rfl rfl (by kernel_rfl) Try.func3 (by kernel_rfl)
    (of_decide_eq_true (by kernel_rfl)) (by unfold Func.isWrapper; first | (rw [if_pos (by decide +kernel)]; kernel_rfl) | (rw [if_neg (by decide +kernel)]; exact ⟨rfl, rfl⟩))
    (fun os started H enc _ => lifted os started H enc)
end names
end Go.Proofs.Ytldecgghhaoliaa
