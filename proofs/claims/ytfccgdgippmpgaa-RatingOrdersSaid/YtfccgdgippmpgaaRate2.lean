import Derived.Test.YtfccgdgippmpgaaRate1
namespace Go.Proofs.Ytfccgdgippmpgaa
open Go.Ab
set_option linter.unusedSimpArgs false
theorem rgt_cts {r : Rt} (h : rgt r = true) : (cts r.n r.d).2 = true ∧ 0 ≤ r.p ∧ 0 ≤ r.g ∧ r.g ≤ 1000000 ∧ -10000000 ≤ (cts r.n r.d).1 ∧ (cts r.n r.d).1 ≤ 10000000 := by
  simpa [rgt, and_assoc] using h
def xpd (a b : Int) : Int := min (max (40000 + a - b) 0) 80000
theorem xpd_range (a b : Int) : 0 ≤ xpd a b ∧ xpd a b ≤ 80000 := by unfold xpd; omega
theorem expected_ok (a b : Int) (ha : -10000000 ≤ a ∧ a ≤ 10000000) (hb : -10000000 ≤ b ∧ b ≤ 10000000) : ACall Try.prog 38 [nt .i64 a, nt .i64 b] (fun x => x = nt .i64 (xpd a b)) := by
  simp only [xpd]
  refine acall_of_awp Try.func38 Try.call38 rfl (by simp [Try.ntmps38]) ?_; simp only [Try.ntmps38, Try.results38]
  repeat' (first
    | (refine awp_seqK (fun K hK => ?_))
    | (refine Hide.go (by assumption) ?_)
    | ((first | refine zqd ?_ ?_ | refine zqn ?_ ?_ | refine zgd ?_ ?_ | refine zgn ?_ ?_ | refine zdd ?_ ?_ | refine zdn ?_ ?_) <;> (intro h; first | (exfalso; omega) | (simp only [h, decide_true, decide_false, not_false_eq_true]) | skip))
    | (refine end_ret [] ?_; simp [go_sem])
    | ((fail_if_success with_reducible (refine Owe.mk ?_)); (simp (disch := omega) [go_sem]))
    | (refine And.intro (by omega) ?_)
    | (refine nbI fun bq => ?_)
    | ((first | refine zqm ?_ ?_ | refine zgm ?_ ?_ | refine zdm ?_ ?_) <;> (intro h; simp only [h, Bool.not_true, Bool.not_false]))
    | ((first | refine zqs ?_ ?_ | refine zgs ?_ ?_ | refine zds ?_ ?_) <;> (intro h; first | (exfalso; simp at h; omega) | ((try simp only [h]); (try simp at h))))
    | fail)
theorem refexpected_ok (a b : Int) (ha : -10000000 ≤ a ∧ a ≤ 10000000) (hb : -10000000 ≤ b ∧ b ≤ 10000000) : ACall Try.prog 42 [nt .i64 a, nt .i64 b] (fun x => x = nt .i64 (xpd a b)) := by
  simp only [xpd]
  refine acall_of_awp Try.func42 Try.call42 rfl (by simp [Try.ntmps42]) ?_; simp only [Try.ntmps42, Try.results42]
  repeat' (first
    | (refine awp_seqK (fun K hK => ?_))
    | (refine Hide.go (by assumption) ?_)
    | ((first | refine zqd ?_ ?_ | refine zqn ?_ ?_ | refine zgd ?_ ?_ | refine zgn ?_ ?_ | refine zdd ?_ ?_ | refine zdn ?_ ?_) <;> (intro h; first | (exfalso; omega) | (simp only [h, decide_true, decide_false, not_false_eq_true]) | skip))
    | (refine end_ret [] ?_; simp [go_sem])
    | ((fail_if_success with_reducible (refine Owe.mk ?_)); (simp (disch := omega) [go_sem]))
    | (refine And.intro (by omega) ?_)
    | (refine nbI fun bq => ?_)
    | ((first | refine zqm ?_ ?_ | refine zgm ?_ ?_ | refine zdm ?_ ?_) <;> (intro h; simp only [h, Bool.not_true, Bool.not_false]))
    | ((first | refine zqs ?_ ?_ | refine zgs ?_ ?_ | refine zds ?_ ?_) <;> (intro h; first | (exfalso; simp at h; omega) | ((try simp only [h]); (try simp at h))))
    | fail)
/-- Expected points: numerator, denominator, error. -/
def expQ (a b : Rt) : Int × Int × Int := if rgt a = true ∧ rgt b = true then mkQ (xpd (cts a.n a.d).1 (cts b.n b.d).1) 80000 else (0, 0, 13)
theorem Expected_ok (a b : Rt) (ha : a.ok) (hb : b.ok) : ACall Try.prog 13 [eRt a, eRt b] (fun x => x = eF (expQ a b)) := by
  have hra := right_ok a ha
  have hrb := right_ok b hb
  have ca := cents_ok a.n a.d ha.n ha.d
  have cb := cents_ok b.n b.d hb.n hb.d
  by_cases h1 : rgt a = true
  · by_cases h2 : rgt b = true
    · have f1 := rgt_cts h1
      have f2 := rgt_cts h2
      have hx := xpd_range (cts a.n a.d).1 (cts b.n b.d).1
      have hM := Make_ok (xpd (cts a.n a.d).1 (cts b.n b.d).1) 80000 (by omega) (by omega) (by omega) (by omega)
      have hX := expected_ok (cts a.n a.d).1 (cts b.n b.d).1 (by omega) (by omega)
      simp only [expQ, h1, h2, and_self, if_true]
      rw [h1] at hra; rw [h2] at hrb
      unfold eRt at *
      unfold mkF at hM
      unfold eF at *
      generalize mkQ (xpd (cts a.n a.d).1 (cts b.n b.d).1) 80000 = q at *
      generalize xpd (cts a.n a.d).1 (cts b.n b.d).1 = z at *
      generalize cts a.n a.d = u at *
      generalize cts b.n b.d = v at *
      refine acall_of_awp Try.func13 Try.call13 rfl (by simp [Try.ntmps13]) ?_; simp only [Try.ntmps13, Try.results13]
      repeat' (first
    | (refine awp_seqK (fun K hK => ?_))
    | (refine Hide.go (by assumption) ?_)
    | ((first | refine zqd ?_ ?_ | refine zqn ?_ ?_ | refine zgd ?_ ?_ | refine zgn ?_ ?_ | refine zdd ?_ ?_ | refine zdn ?_ ?_) <;> (intro h; first | (exfalso; omega) | (simp only [h, decide_true, decide_false, not_false_eq_true]) | skip))
    | (refine end_ret [] ?_; simp [go_sem])
    | (refine stepK_is rfl (hra) (by simp) ?_)
    | (refine dstepK_is rfl (hra) rfl (by simp) ?_)
    | (refine stepK_is rfl (hrb) (by simp) ?_)
    | (refine dstepK_is rfl (hrb) rfl (by simp) ?_)
    | (refine stepK_is rfl (ca) (by simp) ?_)
    | (refine dstepK_is rfl (ca) rfl (by simp) ?_)
    | (refine stepK_is rfl (cb) (by simp) ?_)
    | (refine dstepK_is rfl (cb) rfl (by simp) ?_)
    | (refine stepK_is rfl (hX) (by simp) ?_)
    | (refine dstepK_is rfl (hX) rfl (by simp) ?_)
    | (refine stepK_is rfl (hM) (by simp) ?_)
    | (refine dstepK_is rfl (hM) rfl (by simp) ?_)
    | ((fail_if_success with_reducible (refine Owe.mk ?_)); (simp (disch := omega) [go_sem]))
    | (refine And.intro (by omega) ?_)
    | (refine nbI fun bq => ?_)
    | ((first | refine zqm ?_ ?_ | refine zgm ?_ ?_ | refine zdm ?_ ?_) <;> (intro h; simp only [h, Bool.not_true, Bool.not_false]))
    | ((first | refine zqs ?_ ?_ | refine zgs ?_ ?_ | refine zds ?_ ?_) <;> (intro h; first | (exfalso; simp at h; omega) | ((try simp only [h]); (try simp at h))))
    | fail)
    · simp only [Bool.not_eq_true] at h2
      simp only [expQ, h1, h2, Bool.false_eq_true, and_false, if_false]
      rw [h1] at hra; rw [h2] at hrb
      unfold eRt at *
      unfold eF
      refine acall_of_awp Try.func13 Try.call13 rfl (by simp [Try.ntmps13]) ?_; simp only [Try.ntmps13, Try.results13]
      repeat' (first
    | (refine awp_seqK (fun K hK => ?_))
    | (refine Hide.go (by assumption) ?_)
    | ((first | refine zqd ?_ ?_ | refine zqn ?_ ?_ | refine zgd ?_ ?_ | refine zgn ?_ ?_ | refine zdd ?_ ?_ | refine zdn ?_ ?_) <;> (intro h; first | (exfalso; omega) | (simp only [h, decide_true, decide_false, not_false_eq_true]) | skip))
    | (refine end_ret [] ?_; simp [go_sem])
    | (refine stepK_is rfl (hra) (by simp) ?_)
    | (refine dstepK_is rfl (hra) rfl (by simp) ?_)
    | (refine stepK_is rfl (hrb) (by simp) ?_)
    | (refine dstepK_is rfl (hrb) rfl (by simp) ?_)
    | ((fail_if_success with_reducible (refine Owe.mk ?_)); (simp (disch := omega) [go_sem]))
    | (refine And.intro (by omega) ?_)
    | (refine nbI fun bq => ?_)
    | ((first | refine zqm ?_ ?_ | refine zgm ?_ ?_ | refine zdm ?_ ?_) <;> (intro h; simp only [h, Bool.not_true, Bool.not_false]))
    | ((first | refine zqs ?_ ?_ | refine zgs ?_ ?_ | refine zds ?_ ?_) <;> (intro h; first | (exfalso; simp at h; omega) | ((try simp only [h]); (try simp at h))))
    | fail)
  · simp only [Bool.not_eq_true] at h1
    simp only [expQ, h1, Bool.false_eq_true, false_and, if_false]
    rw [h1] at hra
    unfold eRt at *
    unfold eF
    refine acall_of_awp Try.func13 Try.call13 rfl (by simp [Try.ntmps13]) ?_; simp only [Try.ntmps13, Try.results13]
    repeat' (first
    | (refine awp_seqK (fun K hK => ?_))
    | (refine Hide.go (by assumption) ?_)
    | ((first | refine zqd ?_ ?_ | refine zqn ?_ ?_ | refine zgd ?_ ?_ | refine zgn ?_ ?_ | refine zdd ?_ ?_ | refine zdn ?_ ?_) <;> (intro h; first | (exfalso; omega) | (simp only [h, decide_true, decide_false, not_false_eq_true]) | skip))
    | (refine end_ret [] ?_; simp [go_sem])
    | (refine stepK_is rfl (hra) (by simp) ?_)
    | (refine dstepK_is rfl (hra) rfl (by simp) ?_)
    | ((fail_if_success with_reducible (refine Owe.mk ?_)); (simp (disch := omega) [go_sem]))
    | (refine And.intro (by omega) ?_)
    | (refine nbI fun bq => ?_)
    | ((first | refine zqm ?_ ?_ | refine zgm ?_ ?_ | refine zdm ?_ ?_) <;> (intro h; simp only [h, Bool.not_true, Bool.not_false]))
    | ((first | refine zqs ?_ ?_ | refine zgs ?_ ?_ | refine zds ?_ ?_) <;> (intro h; first | (exfalso; simp at h; omega) | ((try simp only [h]); (try simp at h))))
    | fail)
end Go.Proofs.Ytfccgdgippmpgaa
