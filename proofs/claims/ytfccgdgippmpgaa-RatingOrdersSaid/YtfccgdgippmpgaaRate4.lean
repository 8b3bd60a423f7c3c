/-
  Rate4: fraction.Add.
-/
import Derived.Test.YtfccgdgippmpgaaRate3
namespace Go.Proofs.Ytfccgdgippmpgaa
open Go.Ab
set_option linter.unusedSimpArgs false
theorem mul_bd {a b : Int} (ha : -1073741824 ≤ a ∧ a ≤ 1073741824) (hb : -1073741824 ≤ b ∧ b ≤ 1073741824) : -1152921504606846976 ≤ a * b ∧ a * b ≤ 1152921504606846976 := by
  have h1 : a.natAbs ≤ 1073741824 := by omega
  have h2 : b.natAbs ≤ 1073741824 := by omega
  have h3 := Nat.mul_le_mul h1 h2
  rw [← Int.natAbs_mul] at h3
  omega
theorem both_ok (a b c d : Int) (ha : (-9223372036854775808 ≤ a ∧ a ≤ 9223372036854775807)) (hb : (-9223372036854775808 ≤ b ∧ b ≤ 9223372036854775807)) (hc : (-9223372036854775808 ≤ c ∧ c ≤ 9223372036854775807)) (hd : (-9223372036854775808 ≤ d ∧ d ≤ 9223372036854775807)) :
    ACall Try.prog 43 [.agg [nt .i64 a, nt .i64 b], .agg [nt .i64 c, nt .i64 d]] (fun r => r = nt .i64 (if okF a b = true ∧ okF c d = true then 0 else 13)) := by
  have h1 := Valid_ok a b ha hb
  have h2 := Valid_ok c d hc hd
  generalize okF a b = u at *
  generalize okF c d = v at *
  cases u <;> cases v <;> simp only [Bool.false_eq_true, and_true, true_and, and_false, false_and, and_self, if_true, if_false]
  · refine acall_of_awp Try.func43 Try.call43 rfl (by simp [Try.ntmps43]) ?_; simp only [Try.ntmps43, Try.results43]
    repeat' (first
    | (refine awp_seqK (fun K hK => ?_))
    | (refine Hide.go (by assumption) ?_)
    | ((first | refine zqd ?_ ?_ | refine zqn ?_ ?_ | refine zgd ?_ ?_ | refine zgn ?_ ?_ | refine zdd ?_ ?_ | refine zdn ?_ ?_) <;> (intro h; first | (exfalso; omega) | (simp only [h, decide_true, decide_false, not_false_eq_true]) | skip))
    | (refine end_ret [] ?_; simp [go_sem])
    | (refine stepK_is rfl (h1) (by simp) ?_)
    | (refine dstepK_is rfl (h1) rfl (by simp) ?_)
    | (refine stepK_is rfl (h2) (by simp) ?_)
    | (refine dstepK_is rfl (h2) rfl (by simp) ?_)
    | ((fail_if_success with_reducible (refine Owe.mk ?_)); (simp (disch := omega) [go_sem]))
    | (refine And.intro (by omega) ?_)
    | (refine nbI fun bq => ?_)
    | ((first | refine zqm ?_ ?_ | refine zgm ?_ ?_ | refine zdm ?_ ?_) <;> (intro h; simp only [h, Bool.not_true, Bool.not_false]))
    | ((first | refine zqs ?_ ?_ | refine zgs ?_ ?_ | refine zds ?_ ?_) <;> (intro h; first | (exfalso; simp at h; omega) | ((try simp only [h]); (try simp at h))))
    | fail)
  · refine acall_of_awp Try.func43 Try.call43 rfl (by simp [Try.ntmps43]) ?_; simp only [Try.ntmps43, Try.results43]
    repeat' (first
    | (refine awp_seqK (fun K hK => ?_))
    | (refine Hide.go (by assumption) ?_)
    | ((first | refine zqd ?_ ?_ | refine zqn ?_ ?_ | refine zgd ?_ ?_ | refine zgn ?_ ?_ | refine zdd ?_ ?_ | refine zdn ?_ ?_) <;> (intro h; first | (exfalso; omega) | (simp only [h, decide_true, decide_false, not_false_eq_true]) | skip))
    | (refine end_ret [] ?_; simp [go_sem])
    | (refine stepK_is rfl (h1) (by simp) ?_)
    | (refine dstepK_is rfl (h1) rfl (by simp) ?_)
    | (refine stepK_is rfl (h2) (by simp) ?_)
    | (refine dstepK_is rfl (h2) rfl (by simp) ?_)
    | ((fail_if_success with_reducible (refine Owe.mk ?_)); (simp (disch := omega) [go_sem]))
    | (refine And.intro (by omega) ?_)
    | (refine nbI fun bq => ?_)
    | ((first | refine zqm ?_ ?_ | refine zgm ?_ ?_ | refine zdm ?_ ?_) <;> (intro h; simp only [h, Bool.not_true, Bool.not_false]))
    | ((first | refine zqs ?_ ?_ | refine zgs ?_ ?_ | refine zds ?_ ?_) <;> (intro h; first | (exfalso; simp at h; omega) | ((try simp only [h]); (try simp at h))))
    | fail)
  · refine acall_of_awp Try.func43 Try.call43 rfl (by simp [Try.ntmps43]) ?_; simp only [Try.ntmps43, Try.results43]
    repeat' (first
    | (refine awp_seqK (fun K hK => ?_))
    | (refine Hide.go (by assumption) ?_)
    | ((first | refine zqd ?_ ?_ | refine zqn ?_ ?_ | refine zgd ?_ ?_ | refine zgn ?_ ?_ | refine zdd ?_ ?_ | refine zdn ?_ ?_) <;> (intro h; first | (exfalso; omega) | (simp only [h, decide_true, decide_false, not_false_eq_true]) | skip))
    | (refine end_ret [] ?_; simp [go_sem])
    | (refine stepK_is rfl (h1) (by simp) ?_)
    | (refine dstepK_is rfl (h1) rfl (by simp) ?_)
    | (refine stepK_is rfl (h2) (by simp) ?_)
    | (refine dstepK_is rfl (h2) rfl (by simp) ?_)
    | ((fail_if_success with_reducible (refine Owe.mk ?_)); (simp (disch := omega) [go_sem]))
    | (refine And.intro (by omega) ?_)
    | (refine nbI fun bq => ?_)
    | ((first | refine zqm ?_ ?_ | refine zgm ?_ ?_ | refine zdm ?_ ?_) <;> (intro h; simp only [h, Bool.not_true, Bool.not_false]))
    | ((first | refine zqs ?_ ?_ | refine zgs ?_ ?_ | refine zds ?_ ?_) <;> (intro h; first | (exfalso; simp at h; omega) | ((try simp only [h]); (try simp at h))))
    | fail)
  · refine acall_of_awp Try.func43 Try.call43 rfl (by simp [Try.ntmps43]) ?_; simp only [Try.ntmps43, Try.results43]
    repeat' (first
    | (refine awp_seqK (fun K hK => ?_))
    | (refine Hide.go (by assumption) ?_)
    | ((first | refine zqd ?_ ?_ | refine zqn ?_ ?_ | refine zgd ?_ ?_ | refine zgn ?_ ?_ | refine zdd ?_ ?_ | refine zdn ?_ ?_) <;> (intro h; first | (exfalso; omega) | (simp only [h, decide_true, decide_false, not_false_eq_true]) | skip))
    | (refine end_ret [] ?_; simp [go_sem])
    | (refine stepK_is rfl (h1) (by simp) ?_)
    | (refine dstepK_is rfl (h1) rfl (by simp) ?_)
    | (refine stepK_is rfl (h2) (by simp) ?_)
    | (refine dstepK_is rfl (h2) rfl (by simp) ?_)
    | ((fail_if_success with_reducible (refine Owe.mk ?_)); (simp (disch := omega) [go_sem]))
    | (refine And.intro (by omega) ?_)
    | (refine nbI fun bq => ?_)
    | ((first | refine zqm ?_ ?_ | refine zgm ?_ ?_ | refine zdm ?_ ?_) <;> (intro h; simp only [h, Bool.not_true, Bool.not_false]))
    | ((first | refine zqs ?_ ?_ | refine zgs ?_ ?_ | refine zds ?_ ?_) <;> (intro h; first | (exfalso; simp at h; omega) | ((try simp only [h]); (try simp at h))))
    | fail)
/-- The sum of two fractions. -/
def addQ (f g : Int × Int) : Int × Int × Int := if okF f.1 f.2 = true ∧ okF g.1 g.2 = true then mkQ (f.1 * g.2 + g.1 * f.2) (f.2 * g.2) else (0, 0, 13)
def sm (a : Int) : Prop := -1073741824 ≤ a ∧ a ≤ 1073741824
theorem Add_ok (a b c d : Int) (ha : sm a) (hb : sm b) (hc : sm c) (hd : sm d) :
    ACall Try.prog 15 [.agg [nt .i64 a, nt .i64 b], .agg [nt .i64 c, nt .i64 d]] (fun r => r = eF (addQ (a, b) (c, d))) := by
  unfold sm at *
  have h1 := both_ok a b c d (by omega) (by omega) (by omega) (by omega)
  have m1 := mul_bd ha hd
  have m2 := mul_bd hc hb
  have m3 := mul_bd hb hd
  have hM := Make_ok (a * d + c * b) (b * d) (by omega) (by omega) (by omega) (by omega)
  unfold addQ
  unfold mkF eF at hM
  unfold eF
  by_cases h : okF a b = true ∧ okF c d = true
  · rw [if_pos h] at h1
    simp only [h, and_self, if_true]
    generalize mkQ (a * d + c * b) (b * d) = q at *
    refine acall_of_awp Try.func15 Try.call15 rfl (by simp [Try.ntmps15]) ?_; simp only [Try.ntmps15, Try.results15]
    repeat' (first
    | (refine awp_seqK (fun K hK => ?_))
    | (refine Hide.go (by assumption) ?_)
    | ((first | refine zqd ?_ ?_ | refine zqn ?_ ?_ | refine zgd ?_ ?_ | refine zgn ?_ ?_ | refine zdd ?_ ?_ | refine zdn ?_ ?_) <;> (intro h; first | (exfalso; omega) | (simp only [h, decide_true, decide_false, not_false_eq_true]) | skip))
    | (refine end_ret [] ?_; simp [go_sem])
    | (refine stepK_is rfl (h1) (by simp) ?_)
    | (refine dstepK_is rfl (h1) rfl (by simp) ?_)
    | (refine stepK_is rfl (hM) (by simp) ?_)
    | (refine dstepK_is rfl (hM) rfl (by simp) ?_)
    | ((fail_if_success with_reducible (refine Owe.mk ?_)); (simp (disch := omega) [go_sem]))
    | (refine And.intro (by omega) ?_)
    | (refine nbI fun bq => ?_)
    | ((first | refine zqm ?_ ?_ | refine zgm ?_ ?_ | refine zdm ?_ ?_) <;> (intro h; simp only [h, Bool.not_true, Bool.not_false]))
    | ((first | refine zqs ?_ ?_ | refine zgs ?_ ?_ | refine zds ?_ ?_) <;> (intro h; first | (exfalso; simp at h; omega) | ((try simp only [h]); (try simp at h))))
    | fail)
  · rw [if_neg h] at h1
    simp only [h, if_false]
    refine acall_of_awp Try.func15 Try.call15 rfl (by simp [Try.ntmps15]) ?_; simp only [Try.ntmps15, Try.results15]
    repeat' (first
    | (refine awp_seqK (fun K hK => ?_))
    | (refine Hide.go (by assumption) ?_)
    | ((first | refine zqd ?_ ?_ | refine zqn ?_ ?_ | refine zgd ?_ ?_ | refine zgn ?_ ?_ | refine zdd ?_ ?_ | refine zdn ?_ ?_) <;> (intro h; first | (exfalso; omega) | (simp only [h, decide_true, decide_false, not_false_eq_true]) | skip))
    | (refine end_ret [] ?_; simp [go_sem])
    | (refine stepK_is rfl (h1) (by simp) ?_)
    | (refine dstepK_is rfl (h1) rfl (by simp) ?_)
    | ((fail_if_success with_reducible (refine Owe.mk ?_)); (simp (disch := omega) [go_sem]))
    | (refine And.intro (by omega) ?_)
    | (refine nbI fun bq => ?_)
    | ((first | refine zqm ?_ ?_ | refine zgm ?_ ?_ | refine zdm ?_ ?_) <;> (intro h; simp only [h, Bool.not_true, Bool.not_false]))
    | ((first | refine zqs ?_ ?_ | refine zgs ?_ ?_ | refine zds ?_ ?_) <;> (intro h; first | (exfalso; simp at h; omega) | ((try simp only [h]); (try simp at h))))
    | fail)
end Go.Proofs.Ytfccgdgippmpgaa
