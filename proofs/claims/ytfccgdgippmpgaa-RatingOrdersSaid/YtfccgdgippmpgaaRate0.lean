import Derived.Test.YtfccgdgippmpgaaFraction
namespace Go.Proofs.Ytfccgdgippmpgaa
open Go.Ab
set_option linter.unusedSimpArgs false
def okF (n d : Int) : Bool := decide (mkQ n d = (n, d, 0))
theorem mkQ_range (n d : Int) : -1073741824 ≤ (mkQ n d).1 ∧ (mkQ n d).1 ≤ 1073741824 ∧ 0 ≤ (mkQ n d).2.1 ∧ (mkQ n d).2.1 ≤ 1073741824 := by
  unfold mkQ
  split
  · simp
  · split
    · simp
    · rename_i h; simp only [not_or, Nat.not_lt] at h
      generalize n.natAbs / n.natAbs.gcd d.natAbs = x at *
      generalize d.natAbs / n.natAbs.gcd d.natAbs = y at *
      refine ⟨?_, ?_, ?_, ?_⟩
      · dsimp only; split <;> omega
      · dsimp only; split <;> omega
      · dsimp only; omega
      · dsimp only; omega
theorem okF_pos {n d : Int} (h : okF n d = true) : -1073741824 ≤ n ∧ n ≤ 1073741824 ∧ 1 ≤ d ∧ d ≤ 1073741824 := by
  have h := of_decide_eq_true h
  have hr := mkQ_range n d
  rw [h] at hr
  refine ⟨hr.1, hr.2.1, ?_, hr.2.2.2⟩
  rcases Int.lt_or_eq_of_le hr.2.2.1 with h0 | h0
  · exact h0
  · simp only at h0; subst h0; simp [mkQ] at h
theorem Valid_ok (n d : Int) (hn : (-9223372036854775808 ≤ n ∧ n ≤ 9223372036854775807)) (hd : (-9223372036854775808 ≤ d ∧ d ≤ 9223372036854775807)) :
    ACall Try.prog 53 [.agg [nt .i64 n, nt .i64 d]] (fun r => r = bl (okF n d)) := by
  have hM := Make_ok n d hn.1 hn.2 hd.1 hd.2
  unfold okF
  unfold mkF eF at hM
  generalize mkQ n d = q at *
  refine acall_of_awp Try.func53 Try.call53 rfl (by simp [Try.ntmps53]) ?_; simp only [Try.ntmps53, Try.results53]
  repeat' (first
    | (refine awp_seqK (fun K hK => ?_))
    | (refine Hide.go (by assumption) ?_)
    | ((first | refine zqd ?_ ?_ | refine zqn ?_ ?_ | refine zgd ?_ ?_ | refine zgn ?_ ?_ | refine zdd ?_ ?_ | refine zdn ?_ ?_) <;> (intro h; first | (exfalso; omega) | (simp only [h, decide_true, decide_false, not_false_eq_true]) | skip))
    | (refine end_ret [] ?_; simp [go_sem])
    | (refine stepK_is rfl (hM) (by simp) ?_)
    | (refine dstepK_is rfl (hM) rfl (by simp) ?_)
    | ((fail_if_success with_reducible (refine Owe.mk ?_)); (simp (disch := omega) [go_sem]))
    | (refine And.intro (by omega) ?_)
    | (refine nbI fun bq => ?_)
    | ((first | refine zqm ?_ ?_ | refine zgm ?_ ?_ | refine zdm ?_ ?_) <;> (intro h; simp only [h, Bool.not_true, Bool.not_false]))
    | ((first | refine zqs ?_ ?_ | refine zgs ?_ ?_ | refine zds ?_ ?_) <;> (intro h; first | (exfalso; simp at h; omega) | ((try simp only [h]); (try simp at h))))
    | fail)
  · obtain ⟨x, y, z⟩ := q
    simp_all
    rw [Bool.eq_iff_iff]; simp; omega
  · rintro rfl; exact h rfl
theorem okF_iff {n d : Int} : okF n d = true ↔ 1 ≤ d ∧ d ≤ 1073741824 ∧ -1073741824 ≤ n ∧ n ≤ 1073741824 ∧ Nat.gcd n.natAbs d.natAbs = 1 := by
  constructor
  · intro h
    obtain ⟨a, b, c, e⟩ := okF_pos h
    refine ⟨c, e, a, b, ?_⟩
    have h := of_decide_eq_true h
    unfold mkQ at h
    rw [if_neg (by omega)] at h
    split at h
    · simp at h
    · have h2 : ((d.natAbs / Nat.gcd n.natAbs d.natAbs : Nat) : Int) = d := by have := congrArg (fun p : Int × Int × Int => p.2.1) h; exact this
      have hd : d.natAbs / Nat.gcd n.natAbs d.natAbs = d.natAbs := by omega
      have hg : 0 < Nat.gcd n.natAbs d.natAbs := Nat.gcd_pos_of_pos_right _ (by omega)
      have := Nat.div_mul_cancel (Nat.gcd_dvd_right n.natAbs d.natAbs)
      rw [hd] at this
      exact Nat.eq_of_mul_eq_mul_left (show 0 < d.natAbs by omega) (by omega)
  · rintro ⟨c, e, a, b, g⟩
    refine decide_eq_true ?_
    unfold mkQ
    rw [if_neg (by omega), g, Nat.div_one, Nat.div_one, if_neg (by omega)]
    by_cases hn : n < 0
    · have : ¬ d < 0 := by omega
      simp [hn, this]; omega
    · have : ¬ d < 0 := by omega
      simp [hn, this]; omega
end Go.Proofs.Ytfccgdgippmpgaa
