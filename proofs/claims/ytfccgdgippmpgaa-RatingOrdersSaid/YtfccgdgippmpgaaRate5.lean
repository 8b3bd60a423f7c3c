/-
  Rate5: the two expectations of a game add up to one point.
-/
import Derived.Test.YtfccgdgippmpgaaRate4
import Derived.Test.YtfccgdgippmpgaaAwake
namespace Go.Proofs.Ytfccgdgippmpgaa
open Go.Ab
set_option linter.unusedSimpArgs false
theorem xpd_swap (a b : Int) : xpd b a = 80000 - xpd a b := by unfold xpd; omega
theorem mkQ_pos {x m : Nat} (hm : 0 < m) (hm2 : m ≤ 1073741824) (hx : x ≤ 1073741824) : mkQ x m = (((x / Nat.gcd x m : Nat) : Int), ((m / Nat.gcd x m : Nat) : Int), 0) := by
  unfold mkQ
  have h0 : ¬ (m : Int) = 0 := by omega
  have e1 : (x : Int).natAbs = x := rfl
  have e2 : (m : Int).natAbs = m := rfl
  rw [if_neg h0, e1, e2]
  have b1 : x / Nat.gcd x m ≤ x := Nat.div_le_self _ _
  have b2 : m / Nat.gcd x m ≤ m := Nat.div_le_self _ _
  rw [if_neg (by omega)]
  have d1 : decide ((x : Int) < 0) = false := by simp
  have d2 : decide ((m : Int) < 0) = false := by simp
  rw [d1, d2]
  rfl
theorem mkQ_one {m : Nat} (hm : 0 < m) : mkQ m m = (1, 1, 0) := by
  unfold mkQ
  have h0 : ¬ (m : Int) = 0 := by omega
  have e2 : (m : Int).natAbs = m := rfl
  rw [if_neg h0, e2, Nat.gcd_self, Nat.div_self hm]
  simp
theorem okF_low {x m : Nat} (hm : 0 < m) (hm2 : m ≤ 1073741824) (hx : x ≤ 1073741824) : okF ((x / Nat.gcd x m : Nat) : Int) ((m / Nat.gcd x m : Nat) : Int) = true := by
  have hg : 0 < Nat.gcd x m := Nat.gcd_pos_of_pos_right _ hm
  have b1 : x / Nat.gcd x m ≤ x := Nat.div_le_self _ _
  have b2 : m / Nat.gcd x m ≤ m := Nat.div_le_self _ _
  have b3 : 0 < m / Nat.gcd x m := Nat.div_pos (Nat.le_of_dvd hm (Nat.gcd_dvd_right _ _)) hg
  have hc : Nat.gcd (x / Nat.gcd x m) (m / Nat.gcd x m) = 1 := by
    rw [Nat.gcd_div (Nat.gcd_dvd_left _ _) (Nat.gcd_dvd_right _ _), Nat.div_self hg]
  rw [okF_iff]
  generalize x / Nat.gcd x m = u at *
  generalize m / Nat.gcd x m = d at *
  exact ⟨by omega, by omega, by omega, by omega, hc⟩
theorem add_one {x m : Nat} (hm : 0 < m) (hm2 : m ≤ 1073741824) (hx : x ≤ m) :
    addQ ((mkQ x m).1, (mkQ x m).2.1) ((mkQ (m - x : Nat) m).1, (mkQ (m - x : Nat) m).2.1) = (1, 1, 0) := by
  rw [mkQ_pos hm hm2 (by omega), mkQ_pos hm hm2 (by omega)]
  unfold addQ
  simp only [okF_low hm hm2 (show x ≤ 1073741824 by omega), okF_low hm hm2 (show m - x ≤ 1073741824 by omega), and_self, if_true]
  have hg : 0 < Nat.gcd x m := Nat.gcd_pos_of_pos_right _ hm
  have e : Nat.gcd (m - x) m = Nat.gcd x m := by
    rw [Nat.gcd_comm (m - x), Nat.gcd_comm x]
    exact Nat.gcd_self_sub_right hx
  rw [e]
  have k1 := Nat.div_mul_cancel (Nat.gcd_dvd_left x m)
  have k2 := Nat.div_mul_cancel (Nat.gcd_dvd_right x m)
  have k3 : (m - x) / Nat.gcd x m = m / Nat.gcd x m - x / Nat.gcd x m := by
    have : m - x = (m / Nat.gcd x m - x / Nat.gcd x m) * Nat.gcd x m := by rw [Nat.sub_mul, k1, k2]
    rw [this, Nat.mul_div_cancel _ hg]
  have b3 : 0 < m / Nat.gcd x m := Nat.div_pos (Nat.le_of_dvd hm (Nat.gcd_dvd_right _ _)) hg
  have b4 : x / Nat.gcd x m ≤ m / Nat.gcd x m := Nat.div_le_div_right hx
  rw [k3]
  generalize x / Nat.gcd x m = u at *
  generalize m / Nat.gcd x m = d at *
  have hs : (u : Int) * (d : Int) + ((d - u : Nat) : Int) * (d : Int) = ((d * d : Nat) : Int) := by
    rw [← Int.add_mul, Int.natCast_mul]
    congr 1
    omega
  rw [hs, ← Int.natCast_mul]
  exact mkQ_one (Nat.mul_pos b3 b3)
/-- What the law asks of the two expectations. -/
theorem exp_facts {a b : Rt} (h : (expQ a b).2.2 = 0) :
    addQ ((expQ a b).1, (expQ a b).2.1) ((expQ b a).1, (expQ b a).2.1) = (1, 1, 0) ∧ 0 ≤ (expQ a b).1 ∧ 0 ≤ (expQ b a).1 ∧ sm (expQ a b).1 ∧ sm (expQ a b).2.1 ∧ sm (expQ b a).1 ∧ sm (expQ b a).2.1 := by
  have r1 : ∀ a b : Rt, sm (expQ a b).1 ∧ sm (expQ a b).2.1 := by
    intro a b
    unfold expQ sm
    split
    · have := mkQ_range (xpd (cts a.n a.d).1 (cts b.n b.d).1) 80000; omega
    · simp
  refine ⟨?_, ?_, ?_, (r1 a b).1, (r1 a b).2, (r1 b a).1, (r1 b a).2⟩
  all_goals
    unfold expQ at *
    split at h
    · rename_i hc
      have hr := xpd_range (cts a.n a.d).1 (cts b.n b.d).1
      try rw [if_pos hc]
      try rw [if_pos ⟨hc.2, hc.1⟩]
      try rw [xpd_swap (cts a.n a.d).1 (cts b.n b.d).1]
      obtain ⟨x, hx⟩ : ∃ x : Nat, xpd (cts a.n a.d).1 (cts b.n b.d).1 = x := ⟨_, (Int.toNat_of_nonneg hr.1).symm⟩
      rw [hx] at hr
      rw [hx]
      have hle : x ≤ 80000 := by omega
      try rw [show (80000 : Int) - (x : Int) = ((80000 - x : Nat) : Int) by omega]
      first
      | exact add_one (m := 80000) (by omega) (by omega) hle
      | (have := mkQ_pos (x := x) (m := 80000) (by omega) (by omega) (by omega); rw [show ((80000 : Nat) : Int) = 80000 from rfl] at this; rw [this]; exact Int.natCast_nonneg _)
      | (have := mkQ_pos (x := 80000 - x) (m := 80000) (by omega) (by omega) (by omega); rw [show ((80000 : Nat) : Int) = 80000 from rfl] at this; rw [this]; exact Int.natCast_nonneg _)
    · simp at h
theorem RatingExpects_ok (a b : Rt) (ha : a.ok) (hb : b.ok) : ACall Try.prog 4 [eRt a, eRt b] (fun r => r = bl true) := by
  have hE := Expected_ok a b ha hb
  have hR := refExpected_ok a b ha hb
  have hS := Expected_ok b a hb ha
  have hA := awake_ok
  by_cases h : (expQ a b).2.2 = 0
  · obtain ⟨f1, f2, f3, f4, f5, f6, f7⟩ := exp_facts h
    have hAdd := Add_ok (expQ a b).1 (expQ a b).2.1 (expQ b a).1 (expQ b a).2.1 f4 f5 f6 f7
    rw [f1] at hAdd
    have q : (expQ a b) = ((expQ a b).1, (expQ a b).2.1, 0) := by rw [← h]
    unfold eRt at *
    unfold eF at *
    rw [h] at hE hR
    generalize expQ a b = u at *
    generalize expQ b a = v at *
    refine acall_of_awp Try.func4 Try.call4 rfl (by simp [Try.ntmps4]) ?_; simp only [Try.ntmps4, Try.results4]
    repeat' (first
    | (refine awp_seqK (fun K hK => ?_))
    | (refine Hide.go (by assumption) ?_)
    | ((first | refine zqd ?_ ?_ | refine zqn ?_ ?_ | refine zgd ?_ ?_ | refine zgn ?_ ?_ | refine zdd ?_ ?_ | refine zdn ?_ ?_) <;> (intro h; first | (exfalso; omega) | (simp only [h, decide_true, decide_false, not_false_eq_true]) | skip))
    | (refine end_ret [] ?_; simp [go_sem])
    | (refine stepK_is rfl (hE) (by simp) ?_)
    | (refine dstepK_is rfl (hE) rfl (by simp) ?_)
    | (refine stepK_is rfl (hR) (by simp) ?_)
    | (refine dstepK_is rfl (hR) rfl (by simp) ?_)
    | (refine stepK_is rfl (hS) (by simp) ?_)
    | (refine dstepK_is rfl (hS) rfl (by simp) ?_)
    | (refine stepK_is rfl (hAdd) (by simp) ?_)
    | (refine dstepK_is rfl (hAdd) rfl (by simp) ?_)
    | (refine stepK_is rfl (hA) (by simp) ?_)
    | (refine dstepK_is rfl (hA) rfl (by simp) ?_)
    | ((fail_if_success with_reducible (refine Owe.mk ?_)); (simp (disch := omega) [go_sem]))
    | (refine And.intro (by omega) ?_)
    | (refine nbI fun bq => ?_)
    | ((first | refine zqm ?_ ?_ | refine zgm ?_ ?_ | refine zdm ?_ ?_) <;> (intro h; simp only [h, Bool.not_true, Bool.not_false]))
    | ((first | refine zqs ?_ ?_ | refine zgs ?_ ?_ | refine zds ?_ ?_) <;> (intro h; first | (exfalso; simp at h; omega) | ((try simp only [h]); (try simp at h))))
    | fail)
  · unfold eRt at *
    unfold eF at *
    generalize expQ a b = u at *
    generalize expQ b a = v at *
    refine acall_of_awp Try.func4 Try.call4 rfl (by simp [Try.ntmps4]) ?_; simp only [Try.ntmps4, Try.results4]
    repeat' (first
    | (refine awp_seqK (fun K hK => ?_))
    | (refine Hide.go (by assumption) ?_)
    | ((first | refine zqd ?_ ?_ | refine zqn ?_ ?_ | refine zgd ?_ ?_ | refine zgn ?_ ?_ | refine zdd ?_ ?_ | refine zdn ?_ ?_) <;> (intro h; first | (exfalso; omega) | (simp only [h, decide_true, decide_false, not_false_eq_true]) | skip))
    | (refine end_ret [] ?_; simp [go_sem])
    | (refine stepK_is rfl (hE) (by simp) ?_)
    | (refine dstepK_is rfl (hE) rfl (by simp) ?_)
    | (refine stepK_is rfl (hR) (by simp) ?_)
    | (refine dstepK_is rfl (hR) rfl (by simp) ?_)
    | (refine stepK_is rfl (hA) (by simp) ?_)
    | (refine dstepK_is rfl (hA) rfl (by simp) ?_)
    | ((fail_if_success with_reducible (refine Owe.mk ?_)); (simp (disch := omega) [go_sem]))
    | (refine And.intro (by omega) ?_)
    | (refine nbI fun bq => ?_)
    | ((first | refine zqm ?_ ?_ | refine zgm ?_ ?_ | refine zdm ?_ ?_) <;> (intro h; simp only [h, Bool.not_true, Bool.not_false]))
    | ((first | refine zqs ?_ ?_ | refine zgs ?_ ?_ | refine zds ?_ ?_) <;> (intro h; first | (exfalso; simp at h; omega) | ((try simp only [h]); (try simp at h))))
    | fail)
end Go.Proofs.Ytfccgdgippmpgaa
