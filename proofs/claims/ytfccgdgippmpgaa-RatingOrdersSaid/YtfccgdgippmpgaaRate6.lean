/-
  Rate6: transfers.
-/
import Derived.Test.YtfccgdgippmpgaaRate2
import Derived.Test.YtfccgdgippmpgaaA5
namespace Go.Proofs.Ytfccgdgippmpgaa
open Go.Ab
set_option linter.unusedSimpArgs false
set_option maxRecDepth 100000
/-- The nearest whole number to x / d, for x not negative; halves up. -/
def half (x d : Int) : Int := (2 * x + d) / (2 * d)
def rnd (x d : Int) : Int := if x < 0 then -half (-x) d else half x d
theorem half_range {x d : Int} (hx : 0 ≤ x) (hd : 1 ≤ d) : 0 ≤ half x d ∧ half x d ≤ 2 * x + d :=
  ⟨Int.ediv_nonneg (by omega) (by omega), Int.ediv_le_self _ (by omega)⟩
theorem nearestP_ok (x d : Int) (hx : 0 ≤ x ∧ x ≤ 1000000000000) (hd : 1 ≤ d ∧ d ≤ 1000000) : ACall Try.prog 54 [nt .i64 x, nt .i64 d] (fun r => r = nt .i64 (half x d)) := by
  have hr := half_range hx.1 hd.1
  unfold half at *
  refine acall_of_awp Try.func54 Try.call54 rfl (by simp [Try.ntmps54]) ?_; simp only [Try.ntmps54, Try.results54]
  repeat' (first
    | (refine awp_seqK (fun K hK => ?_))
    | (refine Hide.go (by assumption) ?_)
    | ((first | refine zqd ?_ ?_ | refine zqn ?_ ?_ | refine zgd ?_ ?_ | refine zgn ?_ ?_ | refine zdd ?_ ?_ | refine zdn ?_ ?_) <;> (intro h; first | (exfalso; omega) | (simp only [h, decide_true, decide_false, not_false_eq_true]) | skip))
    | (refine end_ret [] ?_; simp [go_sem])
    | ((fail_if_success with_reducible (refine Owe.mk ?_)); (simp (disch := omega) [go_sem]))
    | (refine And.intro (by omega) ?_)
    | (refine nbI fun bq => ?_)
    | ((first | refine zqm ?_ ?_ | refine zgm ?_ ?_ | refine zdm ?_ ?_) <;> (intro h; simp only [h, Bool.not_true, Bool.not_false]))
    | ((first | refine zqs ?_ ?_ | refine zgs ?_ ?_ | refine zds ?_ ?_) <;> (intro h; first | (exfalso; simp at h; omega) | ((try simp only [h]); (try simp at h))))
    | fail)
  all_goals omega
theorem nearest_ok (x d : Int) (hx : -1000000000000 ≤ x ∧ x ≤ 1000000000000) (hd : 1 ≤ d ∧ d ≤ 1000000) : ACall Try.prog 54 [nt .i64 x, nt .i64 d] (fun r => r = nt .i64 (rnd x d)) := by
  by_cases h : x < 0
  · have h1 := nearestP_ok (-x) d (by omega) hd
    have hr := half_range (x := -x) (d := d) (by omega) hd.1
    simp only [rnd, if_pos h]
    generalize half (-x) d = q at *
    refine acall_of_awp Try.func54 Try.call54 rfl (by simp [Try.ntmps54]) ?_; simp only [Try.ntmps54, Try.results54]
    repeat' (first
    | (refine awp_seqK (fun K hK => ?_))
    | (refine Hide.go (by assumption) ?_)
    | ((first | refine zqd ?_ ?_ | refine zqn ?_ ?_ | refine zgd ?_ ?_ | refine zgn ?_ ?_ | refine zdd ?_ ?_ | refine zdn ?_ ?_) <;> (intro h; first | (exfalso; omega) | (simp only [h, decide_true, decide_false, not_false_eq_true]) | skip))
    | (refine end_ret [] ?_; simp [go_sem])
    | (refine stepK_is rfl (h1) (by simp) ?_)
    | (refine dstepK_is rfl (h1) rfl (by simp) ?_)
    | ((fail_if_success with_reducible (refine Owe.mk ?_)); (simp (disch := omega) [go_sem]))
    | (refine And.intro (by omega) ?_)
    | (refine nbI fun bq => ?_)
    | ((first | refine zqm ?_ ?_ | refine zgm ?_ ?_ | refine zdm ?_ ?_) <;> (intro h; simp only [h, Bool.not_true, Bool.not_false]))
    | ((first | refine zqs ?_ ?_ | refine zgs ?_ ?_ | refine zds ?_ ?_) <;> (intro h; first | (exfalso; simp at h; omega) | ((try simp only [h]); (try simp at h))))
    | fail)
  · simp only [rnd, if_neg h]
    exact nearestP_ok x d (by omega) hd
/-- The transfer in hundredths, of points and values in hundredths in a match of n. -/
def tr (p q a b n : Int) : Int := rnd (40000 + 400 * (p - q) - xpd a b) (25 * (n - 1))
theorem rnd_scale {x d : Int} (hd : 1 ≤ d) : rnd (3200 * x) (80000 * d) = rnd x (25 * d) := by
  have key : ∀ y : Int, half (3200 * y) (80000 * d) = half y (25 * d) := by
    intro y
    unfold half
    rw [show 2 * (3200 * y) + 80000 * d = 3200 * (2 * y + 25 * d) by omega, show 2 * (80000 * d) = 3200 * (2 * (25 * d)) by omega]
    exact Int.mul_ediv_mul_of_pos _ _ (by decide)
  unfold rnd
  by_cases h : x < 0
  · rw [if_pos h, if_pos (by omega), show -(3200 * x) = 3200 * -x by omega, key]
  · rw [if_neg h, if_neg (by omega), key]
theorem tr_range {p q a b n : Int} (hp : 0 ≤ p ∧ p ≤ 100) (hq : 0 ≤ q ∧ q ≤ 100) (hn : 2 ≤ n ∧ n ≤ 4) : -4000 ≤ tr p q a b n ∧ tr p q a b n ≤ 4000 := by
  have hx := xpd_range a b
  unfold tr rnd half
  generalize xpd a b = e at *
  have : n = 2 ∨ n = 3 ∨ n = 4 := by omega
  rcases this with rfl | rfl | rfl <;> (simp only [Int.reduceSub, Int.reduceMul]; split <;> omega)
theorem transfer_ok (p q a b n : Int) (hp : 0 ≤ p ∧ p ≤ 100) (hq : 0 ≤ q ∧ q ≤ 100) (ha : -10000000 ≤ a ∧ a ≤ 10000000) (hb : -10000000 ≤ b ∧ b ≤ 10000000) (hn : 2 ≤ n ∧ n ≤ 4) :
    ACall Try.prog 34 [nt .i64 p, nt .i64 q, nt .i64 a, nt .i64 b, nt .i64 n] (fun r => r = nt .i64 (tr p q a b n)) := by
  have hx := xpd_range a b
  have h1 := expected_ok a b ha hb
  have h2 := nearest_ok (3200 * (40000 + 400 * (p - q) - xpd a b)) (80000 * (n - 1)) (by omega) (by omega)
  unfold tr
  rw [rnd_scale (by omega)] at h2
  generalize xpd a b = e at *
  generalize rnd (40000 + 400 * (p - q) - e) (25 * (n - 1)) = z at *
  refine acall_of_awp Try.func34 Try.call34 rfl (by simp [Try.ntmps34]) ?_; simp only [Try.ntmps34, Try.results34]
  repeat' (first
    | (refine awp_seqK (fun K hK => ?_))
    | (refine Hide.go (by assumption) ?_)
    | ((first | refine zqd ?_ ?_ | refine zqn ?_ ?_ | refine zgd ?_ ?_ | refine zgn ?_ ?_ | refine zdd ?_ ?_ | refine zdn ?_ ?_) <;> (intro h; first | (exfalso; omega) | (simp only [h, decide_true, decide_false, not_false_eq_true]) | skip))
    | (refine end_ret [] ?_; simp [go_sem])
    | (refine stepK_is rfl (h1) (by simp) ?_)
    | (refine dstepK_is rfl (h1) rfl (by simp) ?_)
    | (refine stepK_is rfl (h2) (by simp) ?_)
    | (refine dstepK_is rfl (h2) rfl (by simp) ?_)
    | ((fail_if_success with_reducible (refine Owe.mk ?_)); (simp (disch := omega) [go_sem]))
    | (refine And.intro (by omega) ?_)
    | (refine nbI fun bq => ?_)
    | ((first | refine zqm ?_ ?_ | refine zgm ?_ ?_ | refine zdm ?_ ?_) <;> (intro h; simp only [h, Bool.not_true, Bool.not_false]))
    | ((first | refine zqs ?_ ?_ | refine zgs ?_ ?_ | refine zds ?_ ?_) <;> (intro h; first | (exfalso; simp at h; omega) | ((try simp only [h]); (try simp at h))))
    | fail)
theorem refTransfer_ok (p q a b n : Int) (hp : 0 ≤ p ∧ p ≤ 100) (hq : 0 ≤ q ∧ q ≤ 100) (ha : -10000000 ≤ a ∧ a ≤ 10000000) (hb : -10000000 ≤ b ∧ b ≤ 10000000) (hn : 2 ≤ n ∧ n ≤ 4) :
    ACall Try.prog 49 [nt .i64 p, nt .i64 q, nt .i64 a, nt .i64 b, nt .i64 n] (fun r => r = nt .i64 (tr p q a b n)) := by
  have hx := xpd_range a b
  have h1 := refexpected_ok a b ha hb
  unfold tr rnd half
  generalize xpd a b = e at *
  have : n = 2 ∨ n = 3 ∨ n = 4 := by omega
  rcases this with rfl | rfl | rfl
  all_goals
    simp only [Int.reduceSub, Int.reduceMul]
    refine acall_of_awp Try.func49 Try.call49 rfl (by simp [Try.ntmps49]) ?_; simp only [Try.ntmps49, Try.results49]
    repeat' (first
    | (refine awp_seqK (fun K hK => ?_))
    | (refine Hide.go (by assumption) ?_)
    | ((first | refine zqd ?_ ?_ | refine zqn ?_ ?_ | refine zgd ?_ ?_ | refine zgn ?_ ?_ | refine zdd ?_ ?_ | refine zdn ?_ ?_) <;> (intro h; first | (exfalso; omega) | (simp only [h, decide_true, decide_false, not_false_eq_true]) | skip))
    | (refine end_ret [] ?_; simp [go_sem])
    | (refine stepK_is rfl (h1) (by simp) ?_)
    | (refine dstepK_is rfl (h1) rfl (by simp) ?_)
    | ((fail_if_success with_reducible (refine Owe.mk ?_)); (simp (disch := omega) [go_sem]))
    | (refine And.intro (by omega) ?_)
    | (refine nbI fun bq => ?_)
    | ((first | refine zqm ?_ ?_ | refine zgm ?_ ?_ | refine zdm ?_ ?_) <;> (intro h; simp only [h, Bool.not_true, Bool.not_false]))
    | ((first | refine zqs ?_ ?_ | refine zgs ?_ ?_ | refine zds ?_ ?_) <;> (intro h; first | (exfalso; simp at h; omega) | ((try simp only [h]); (try simp at h))))
    | fail)
  all_goals (try omega)
end Go.Proofs.Ytfccgdgippmpgaa
