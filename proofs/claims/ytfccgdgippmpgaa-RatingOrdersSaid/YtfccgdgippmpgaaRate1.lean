import Derived.Test.YtfccgdgippmpgaaRate0
namespace Go.Proofs.Ytfccgdgippmpgaa
open Go.Ab
set_option linter.unusedSimpArgs false
theorem refValid_ok (n d : Int) (hn : (-9223372036854775808 ≤ n ∧ n ≤ 9223372036854775807)) (hd : (-9223372036854775808 ≤ d ∧ d ≤ 9223372036854775807)) :
    ACall Try.prog 57 [.agg [nt .i64 n, nt .i64 d]] (fun r => r = bl (okF n d)) := by
  have e : okF n d = decide (1 ≤ d ∧ d ≤ 1073741824 ∧ -1073741824 ≤ n ∧ n ≤ 1073741824 ∧ Nat.gcd n.natAbs d.natAbs = 1) := by
    rw [Bool.eq_iff_iff, decide_eq_true_eq]; exact okF_iff
  rw [e]
  clear e
  refine acall_of_awp Try.func57 Try.call57 rfl (by simp [Try.ntmps57]) ?_; simp only [Try.ntmps57, Try.results57]
  repeat' (first
    | (refine awp_seqK (fun K hK => ?_))
    | (refine Hide.go (by assumption) ?_)
    | ((first | refine zqd ?_ ?_ | refine zqn ?_ ?_ | refine zgd ?_ ?_ | refine zgn ?_ ?_ | refine zdd ?_ ?_ | refine zdn ?_ ?_) <;> (intro h; first | (exfalso; omega) | (simp only [h, decide_true, decide_false, not_false_eq_true]) | skip))
    | (refine end_ret [] ?_; simp [go_sem])
    | (refine stepK_is rfl (size_ok _ (by omega) (by omega)) (by simp) ?_)
    | (refine dstepK_is rfl (size_ok _ (by omega) (by omega)) rfl (by simp) ?_)
    | (refine stepK_is rfl (gcd_ok _ _ (by omega) (by omega)) (by simp) ?_)
    | (refine dstepK_is rfl (gcd_ok _ _ (by omega) (by omega)) rfl (by simp) ?_)
    | ((fail_if_success with_reducible (refine Owe.mk ?_)); (simp (disch := omega) [go_sem]))
    | (refine And.intro (by omega) ?_)
    | (refine awp_draw 29 mix (by decide +kernel) ?_)
    | (refine nbI fun bq => ?_)
    | ((first | refine zqm ?_ ?_ | refine zgm ?_ ?_ | refine zdm ?_ ?_) <;> (intro h; simp only [h, Bool.not_true, Bool.not_false]))
    | ((first | refine zqs ?_ ?_ | refine zgs ?_ ?_ | refine zds ?_ ?_) <;> (intro h; first | (exfalso; simp at h; omega) | ((try simp only [h]); (try simp at h))))
    | fail)
  · rw [Bool.eq_iff_iff]; simp; omega
  all_goals (intros; omega)
def cts (n d : Int) : Int × Bool := if okF n d = true ∧ 100 % d = 0 then (n * (100 / d), true) else (0, false)
theorem cts_facts {n d : Int} (hv : okF n d = true) : 0 ≤ 100 / d ∧ 100 / d ≤ 100 ∧ -107374182400 ≤ n * (100 / d) ∧ n * (100 / d) ≤ 107374182400 := by
  have hp := okF_pos hv
  have h1 : 0 ≤ 100 / d := Int.ediv_nonneg (by omega) (by omega)
  have h2 : 100 / d ≤ 100 := Int.ediv_le_self _ (by omega)
  generalize 100 / d = k at *
  refine ⟨h1, h2, ?_, ?_⟩
  · have : -1073741824 * k ≤ n * k := Int.mul_le_mul_of_nonneg_right (by omega) h1
    omega
  · have : n * k ≤ 1073741824 * k := Int.mul_le_mul_of_nonneg_right (by omega) h1
    omega
theorem cents_ok (n d : Int) (hn : (-9223372036854775808 ≤ n ∧ n ≤ 9223372036854775807)) (hd : (-9223372036854775808 ≤ d ∧ d ≤ 9223372036854775807)) :
    ACall Try.prog 32 [.agg [nt .i64 n, nt .i64 d]] (fun r => r = .tup [nt .i64 (cts n d).1, bl (cts n d).2]) := by
  have hV := Valid_ok n d hn hd
  by_cases hv : okF n d = true
  · have hp := okF_pos hv
    have hc := cts_facts hv
    simp only [cts, hv, true_and]
    rw [hv] at hV
    refine acall_of_awp Try.func32 Try.call32 rfl (by simp [Try.ntmps32]) ?_; simp only [Try.ntmps32, Try.results32]
    repeat' (first
    | (refine awp_seqK (fun K hK => ?_))
    | (refine Hide.go (by assumption) ?_)
    | ((first | refine zqd ?_ ?_ | refine zqn ?_ ?_ | refine zgd ?_ ?_ | refine zgn ?_ ?_ | refine zdd ?_ ?_ | refine zdn ?_ ?_) <;> (intro h; first | (exfalso; omega) | (simp only [h, decide_true, decide_false, not_false_eq_true]) | skip))
    | (refine end_ret [] ?_; simp [go_sem])
    | (refine stepK_is rfl (hV) (by simp) ?_)
    | (refine dstepK_is rfl (hV) rfl (by simp) ?_)
    | ((fail_if_success with_reducible (refine Owe.mk ?_)); (simp (disch := omega) [go_sem]))
    | (refine And.intro (by omega) ?_)
    | (refine awp_draw 8 mix (by decide +kernel) ?_)
    | (refine nbI fun bq => ?_)
    | ((first | refine zqm ?_ ?_ | refine zgm ?_ ?_ | refine zdm ?_ ?_) <;> (intro h; simp only [h, Bool.not_true, Bool.not_false]))
    | ((first | refine zqs ?_ ?_ | refine zgs ?_ ?_ | refine zds ?_ ?_) <;> (intro h; first | (exfalso; simp at h; omega) | ((try simp only [h]); (try simp at h))))
    | fail)
    all_goals simp [*]
  · simp only [Bool.not_eq_true] at hv
    simp only [cts, hv, Bool.false_eq_true, false_and, if_false]
    rw [hv] at hV
    refine acall_of_awp Try.func32 Try.call32 rfl (by simp [Try.ntmps32]) ?_; simp only [Try.ntmps32, Try.results32]
    repeat' (first
    | (refine awp_seqK (fun K hK => ?_))
    | (refine Hide.go (by assumption) ?_)
    | ((first | refine zqd ?_ ?_ | refine zqn ?_ ?_ | refine zgd ?_ ?_ | refine zgn ?_ ?_ | refine zdd ?_ ?_ | refine zdn ?_ ?_) <;> (intro h; first | (exfalso; omega) | (simp only [h, decide_true, decide_false, not_false_eq_true]) | skip))
    | (refine end_ret [] ?_; simp [go_sem])
    | (refine stepK_is rfl (hV) (by simp) ?_)
    | (refine dstepK_is rfl (hV) rfl (by simp) ?_)
    | ((fail_if_success with_reducible (refine Owe.mk ?_)); (simp (disch := omega) [go_sem]))
    | (refine And.intro (by omega) ?_)
    | (refine awp_draw 8 mix (by decide +kernel) ?_)
    | (refine nbI fun bq => ?_)
    | ((first | refine zqm ?_ ?_ | refine zgm ?_ ?_ | refine zdm ?_ ?_) <;> (intro h; simp only [h, Bool.not_true, Bool.not_false]))
    | ((first | refine zqs ?_ ?_ | refine zgs ?_ ?_ | refine zds ?_ ?_) <;> (intro h; first | (exfalso; simp at h; omega) | ((try simp only [h]); (try simp at h))))
    | fail)
theorem refcents_ok (n d : Int) (hn : (-9223372036854775808 ≤ n ∧ n ≤ 9223372036854775807)) (hd : (-9223372036854775808 ≤ d ∧ d ≤ 9223372036854775807)) :
    ACall Try.prog 40 [.agg [nt .i64 n, nt .i64 d]] (fun r => r = .tup [nt .i64 (cts n d).1, bl (cts n d).2]) := by
  have hV := refValid_ok n d hn hd
  by_cases hv : okF n d = true
  · have hp := okF_pos hv
    have hc := cts_facts hv
    simp only [cts, hv, true_and]
    rw [hv] at hV
    refine acall_of_awp Try.func40 Try.call40 rfl (by simp [Try.ntmps40]) ?_; simp only [Try.ntmps40, Try.results40]
    repeat' (first
    | (refine awp_seqK (fun K hK => ?_))
    | (refine Hide.go (by assumption) ?_)
    | ((first | refine zqd ?_ ?_ | refine zqn ?_ ?_ | refine zgd ?_ ?_ | refine zgn ?_ ?_ | refine zdd ?_ ?_ | refine zdn ?_ ?_) <;> (intro h; first | (exfalso; omega) | (simp only [h, decide_true, decide_false, not_false_eq_true]) | skip))
    | (refine end_ret [] ?_; simp [go_sem])
    | (refine stepK_is rfl (hV) (by simp) ?_)
    | (refine dstepK_is rfl (hV) rfl (by simp) ?_)
    | ((fail_if_success with_reducible (refine Owe.mk ?_)); (simp (disch := omega) [go_sem]))
    | (refine And.intro (by omega) ?_)
    | (refine awp_draw 8 mix (by decide +kernel) ?_)
    | (refine nbI fun bq => ?_)
    | ((first | refine zqm ?_ ?_ | refine zgm ?_ ?_ | refine zdm ?_ ?_) <;> (intro h; simp only [h, Bool.not_true, Bool.not_false]))
    | ((first | refine zqs ?_ ?_ | refine zgs ?_ ?_ | refine zds ?_ ?_) <;> (intro h; first | (exfalso; simp at h; omega) | ((try simp only [h]); (try simp at h))))
    | fail)
    all_goals simp [*]
  · simp only [Bool.not_eq_true] at hv
    simp only [cts, hv, Bool.false_eq_true, false_and, if_false]
    rw [hv] at hV
    refine acall_of_awp Try.func40 Try.call40 rfl (by simp [Try.ntmps40]) ?_; simp only [Try.ntmps40, Try.results40]
    repeat' (first
    | (refine awp_seqK (fun K hK => ?_))
    | (refine Hide.go (by assumption) ?_)
    | ((first | refine zqd ?_ ?_ | refine zqn ?_ ?_ | refine zgd ?_ ?_ | refine zgn ?_ ?_ | refine zdd ?_ ?_ | refine zdn ?_ ?_) <;> (intro h; first | (exfalso; omega) | (simp only [h, decide_true, decide_false, not_false_eq_true]) | skip))
    | (refine end_ret [] ?_; simp [go_sem])
    | (refine stepK_is rfl (hV) (by simp) ?_)
    | (refine dstepK_is rfl (hV) rfl (by simp) ?_)
    | ((fail_if_success with_reducible (refine Owe.mk ?_)); (simp (disch := omega) [go_sem]))
    | (refine And.intro (by omega) ?_)
    | (refine awp_draw 8 mix (by decide +kernel) ?_)
    | (refine nbI fun bq => ?_)
    | ((first | refine zqm ?_ ?_ | refine zgm ?_ ?_ | refine zdm ?_ ?_) <;> (intro h; simp only [h, Bool.not_true, Bool.not_false]))
    | ((first | refine zqs ?_ ?_ | refine zgs ?_ ?_ | refine zds ?_ ?_) <;> (intro h; first | (exfalso; simp at h; omega) | ((try simp only [h]); (try simp at h))))
    | fail)
structure Rt where
  p : Int
  n : Int
  d : Int
  g : Int
def eRt (r : Rt) : AV := .agg [nt .i64 r.p, nt .i64 r.n, nt .i64 r.d, nt .i64 r.g]
structure Rt.ok (r : Rt) : Prop where
  p : (-9223372036854775808 ≤ r.p ∧ r.p ≤ 9223372036854775807)
  n : (-9223372036854775808 ≤ r.n ∧ r.n ≤ 9223372036854775807)
  d : (-9223372036854775808 ≤ r.d ∧ r.d ≤ 9223372036854775807)
  g : (-9223372036854775808 ≤ r.g ∧ r.g ≤ 9223372036854775807)
def rgt (r : Rt) : Bool := (cts r.n r.d).2 && decide (0 ≤ r.p) && decide (0 ≤ r.g) && decide (r.g ≤ 1000000) && decide (-10000000 ≤ (cts r.n r.d).1) && decide ((cts r.n r.d).1 ≤ 10000000)
theorem right_ok (r : Rt) (hr : r.ok) : ACall Try.prog 36 [eRt r] (fun x => x = bl (rgt r)) := by
  obtain ⟨p, n, d, g⟩ := r
  obtain ⟨hp, hn, hd, hg⟩ := hr
  dsimp only at hp hn hd hg
  have hc := cents_ok n d hn hd
  simp only [rgt, eRt]
  generalize cts n d = c at *
  obtain ⟨c, b⟩ := c
  dsimp only at *
  refine acall_of_awp Try.func36 Try.call36 rfl (by simp [Try.ntmps36]) ?_; simp only [Try.ntmps36, Try.results36]
  cases b
  · repeat' (first
    | (refine awp_seqK (fun K hK => ?_))
    | (refine Hide.go (by assumption) ?_)
    | ((first | refine zqd ?_ ?_ | refine zqn ?_ ?_ | refine zgd ?_ ?_ | refine zgn ?_ ?_ | refine zdd ?_ ?_ | refine zdn ?_ ?_) <;> (intro h; first | (exfalso; omega) | (simp only [h, decide_true, decide_false, not_false_eq_true]) | skip))
    | (refine end_ret [] ?_; simp [go_sem])
    | (refine stepK_is rfl (hc) (by simp) ?_)
    | (refine dstepK_is rfl (hc) rfl (by simp) ?_)
    | ((fail_if_success with_reducible (refine Owe.mk ?_)); (simp (disch := omega) [go_sem]))
    | (refine And.intro (by omega) ?_)
    | (refine nbI fun bq => ?_)
    | ((first | refine zqm ?_ ?_ | refine zgm ?_ ?_ | refine zdm ?_ ?_) <;> (intro h; simp only [h, Bool.not_true, Bool.not_false]))
    | ((first | refine zqs ?_ ?_ | refine zgs ?_ ?_ | refine zds ?_ ?_) <;> (intro h; first | (exfalso; simp at h; omega) | ((try simp only [h]); (try simp at h))))
    | fail)
  · repeat' (first
    | (refine awp_seqK (fun K hK => ?_))
    | (refine Hide.go (by assumption) ?_)
    | ((first | refine zqd ?_ ?_ | refine zqn ?_ ?_ | refine zgd ?_ ?_ | refine zgn ?_ ?_ | refine zdd ?_ ?_ | refine zdn ?_ ?_) <;> (intro h; first | (exfalso; omega) | (simp only [h, decide_true, decide_false, not_false_eq_true]) | skip))
    | (refine end_ret [] ?_; simp [go_sem])
    | (refine stepK_is rfl (hc) (by simp) ?_)
    | (refine dstepK_is rfl (hc) rfl (by simp) ?_)
    | ((fail_if_success with_reducible (refine Owe.mk ?_)); (simp (disch := omega) [go_sem]))
    | (refine And.intro (by omega) ?_)
    | (refine nbI fun bq => ?_)
    | ((first | refine zqm ?_ ?_ | refine zgm ?_ ?_ | refine zdm ?_ ?_) <;> (intro h; simp only [h, Bool.not_true, Bool.not_false]))
    | ((first | refine zqs ?_ ?_ | refine zgs ?_ ?_ | refine zds ?_ ?_) <;> (intro h; first | (exfalso; simp at h; omega) | ((try simp only [h]); (try simp at h))))
    | fail)
    all_goals (try (rw [Bool.eq_iff_iff]; simp))
    all_goals omega
theorem refRight_ok (r : Rt) (hr : r.ok) : ACall Try.prog 39 [eRt r] (fun x => x = bl (rgt r)) := by
  obtain ⟨p, n, d, g⟩ := r
  obtain ⟨hp, hn, hd, hg⟩ := hr
  dsimp only at hp hn hd hg
  have hc := refcents_ok n d hn hd
  simp only [rgt, eRt]
  generalize cts n d = c at *
  obtain ⟨c, b⟩ := c
  dsimp only at *
  refine acall_of_awp Try.func39 Try.call39 rfl (by simp [Try.ntmps39]) ?_; simp only [Try.ntmps39, Try.results39]
  cases b
  · repeat' (first
    | (refine awp_seqK (fun K hK => ?_))
    | (refine Hide.go (by assumption) ?_)
    | ((first | refine zqd ?_ ?_ | refine zqn ?_ ?_ | refine zgd ?_ ?_ | refine zgn ?_ ?_ | refine zdd ?_ ?_ | refine zdn ?_ ?_) <;> (intro h; first | (exfalso; omega) | (simp only [h, decide_true, decide_false, not_false_eq_true]) | skip))
    | (refine end_ret [] ?_; simp [go_sem])
    | (refine stepK_is rfl (hc) (by simp) ?_)
    | (refine dstepK_is rfl (hc) rfl (by simp) ?_)
    | ((fail_if_success with_reducible (refine Owe.mk ?_)); (simp (disch := omega) [go_sem]))
    | (refine And.intro (by omega) ?_)
    | (refine nbI fun bq => ?_)
    | ((first | refine zqm ?_ ?_ | refine zgm ?_ ?_ | refine zdm ?_ ?_) <;> (intro h; simp only [h, Bool.not_true, Bool.not_false]))
    | ((first | refine zqs ?_ ?_ | refine zgs ?_ ?_ | refine zds ?_ ?_) <;> (intro h; first | (exfalso; simp at h; omega) | ((try simp only [h]); (try simp at h))))
    | fail)
  · repeat' (first
    | (refine awp_seqK (fun K hK => ?_))
    | (refine Hide.go (by assumption) ?_)
    | ((first | refine zqd ?_ ?_ | refine zqn ?_ ?_ | refine zgd ?_ ?_ | refine zgn ?_ ?_ | refine zdd ?_ ?_ | refine zdn ?_ ?_) <;> (intro h; first | (exfalso; omega) | (simp only [h, decide_true, decide_false, not_false_eq_true]) | skip))
    | (refine end_ret [] ?_; simp [go_sem])
    | (refine stepK_is rfl (hc) (by simp) ?_)
    | (refine dstepK_is rfl (hc) rfl (by simp) ?_)
    | ((fail_if_success with_reducible (refine Owe.mk ?_)); (simp (disch := omega) [go_sem]))
    | (refine And.intro (by omega) ?_)
    | (refine nbI fun bq => ?_)
    | ((first | refine zqm ?_ ?_ | refine zgm ?_ ?_ | refine zdm ?_ ?_) <;> (intro h; simp only [h, Bool.not_true, Bool.not_false]))
    | ((first | refine zqs ?_ ?_ | refine zgs ?_ ?_ | refine zds ?_ ?_) <;> (intro h; first | (exfalso; simp at h; omega) | ((try simp only [h]); (try simp at h))))
    | fail)
    all_goals (try (rw [Bool.eq_iff_iff]; simp))
    all_goals omega
end Go.Proofs.Ytfccgdgippmpgaa
