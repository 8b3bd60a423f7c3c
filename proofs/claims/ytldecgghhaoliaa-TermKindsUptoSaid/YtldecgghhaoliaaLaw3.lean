/-
  Law3: the body of the law TermKinds.
-/
import Derived.Test.YtldecgghhaoliaaText3
import Derived.Test.YtldecgghhaoliaaLaw2
import Derived.Test.YtldecgghhaoliaaA6
namespace Go.Proofs.Ytldecgghhaoliaa
open Go.Ab
set_option linter.unusedSimpArgs false
set_option maxRecDepth 100000
set_option maxHeartbeats 4000000
mutual
/-- How much a term holds. -/
def mzT : Tm → Nat
  | .mk s ts => (s.size + 1) + ((mzL ts + 1) + 0) + 1
def mzL : List Tm → Nat
  | [] => 0
  | t :: r => mzT t + mzL r
end
theorem mzL_sum : ∀ l : List Tm, mzL l = sumN mzT l
  | [] => rfl
  | t :: r => by rw [mzL, sumN, mzL_sum r]
mutual
theorem txt_le : ∀ t : Tm, (txt t).length + 1 ≤ mzT t
  | .mk s ts => by
    have h := txtS_le ts
    have hs := bytesS_len s
    rw [txt_mk, mzT]
    split
    · omega
    · simp only [List.length_append, List.length_cons, List.length_nil, List.length_tail]
      omega
theorem txtS_le : ∀ l : List Tm, (txtS l).length ≤ mzL l
  | [] => Nat.le_refl _
  | t :: r => by
    have h1 := txt_le t
    have h2 := txtS_le r
    simp only [txtS, mzL, List.length_cons, List.length_append]
    omega
end
mutual
theorem size_mz : ∀ t : Tm, t.size ≤ mzT t
  | .mk s ts => by
    have h := sizeL_mz ts
    rw [Tm.size, mzT]; omega
theorem sizeL_mz : ∀ l : List Tm, sizeL l ≤ mzL l
  | [] => Nat.le_refl _
  | t :: r => by
    have h1 := size_mz t
    have h2 := sizeL_mz r
    simp only [sizeL, mzL]; omega
end
theorem TermKinds_ok (t : Tm) (_ : True) (hb : mzT t ≤ 1048576) : ACall Try.prog 4 [eT t] (fun r => r = bl true) := by
  have hl := txt_le t
  have hs := size_mz t
  have s1 := Small_ok t 40 (by decide)
  have hA := awake_ok
  by_cases h : smallT 40 t = true
  · have hsz : t.size ≤ 1000000 := by
      have := smallT_size (by decide) h
      omega
    have v1 := Valid_ok t
    have v2 := refValid_ok t
    have g1 := Ground_ok t
    have g2 := refGround_ok t
    have d1 := Depth_ok t hsz
    have d2 := refDepth_ok t hsz
    have z1 := Size_ok t hsz
    have z2 := refSize_ok t hsz
    have t1 := Text_ok t (by omega)
    have t2 := refText_ok t (by omega)
    have e : txtB t = mkS (txt t) := rfl
    rw [e] at t1
    rw [h] at s1
    generalize mkS (txt t) = X at *
    generalize withT 4 true t = b1 at *
    generalize withT 4 false t = b2 at *
    generalize t.depth = n1 at *
    generalize t.size = n2 at *
    refine acall_of_awp Try.func4 Try.call4 rfl (by simp [Try.ntmps4]) ?_; simp only [Try.ntmps4, Try.results4]
    repeat' (first
    | (refine awp_seqK (fun K hK => ?_))
    | (refine Hide.go (by assumption) ?_)
    | ((first | refine zqd ?_ ?_ | refine zqn ?_ ?_ | refine zgd ?_ ?_ | refine zgn ?_ ?_ | refine zdd ?_ ?_ | refine zdn ?_ ?_) <;> (intro h; first | (exfalso; omega) | (simp only [h, decide_true, decide_false, not_false_eq_true]) | skip))
    | (refine end_ret [] ?_; simp [go_sem])
    | (refine stepK_is rfl (s1) (by simp) ?_)
    | (refine dstepK_is rfl (s1) rfl (by simp) ?_)
    | (refine stepK_is rfl (v1) (by simp) ?_)
    | (refine dstepK_is rfl (v1) rfl (by simp) ?_)
    | (refine stepK_is rfl (v2) (by simp) ?_)
    | (refine dstepK_is rfl (v2) rfl (by simp) ?_)
    | (refine stepK_is rfl (g1) (by simp) ?_)
    | (refine dstepK_is rfl (g1) rfl (by simp) ?_)
    | (refine stepK_is rfl (g2) (by simp) ?_)
    | (refine dstepK_is rfl (g2) rfl (by simp) ?_)
    | (refine stepK_is rfl (d1) (by simp) ?_)
    | (refine dstepK_is rfl (d1) rfl (by simp) ?_)
    | (refine stepK_is rfl (d2) (by simp) ?_)
    | (refine dstepK_is rfl (d2) rfl (by simp) ?_)
    | (refine stepK_is rfl (z1) (by simp) ?_)
    | (refine dstepK_is rfl (z1) rfl (by simp) ?_)
    | (refine stepK_is rfl (z2) (by simp) ?_)
    | (refine dstepK_is rfl (z2) rfl (by simp) ?_)
    | (refine stepK_is rfl (t1) (by simp) ?_)
    | (refine dstepK_is rfl (t1) rfl (by simp) ?_)
    | (refine stepK_is rfl (t2) (by simp) ?_)
    | (refine dstepK_is rfl (t2) rfl (by simp) ?_)
    | (refine stepK_is rfl (hA) (by simp) ?_)
    | (refine dstepK_is rfl (hA) rfl (by simp) ?_)
    | ((fail_if_success with_reducible (refine Owe.mk ?_)); (simp (disch := omega) [go_sem]))
    | (refine And.intro (by omega) ?_)
    | (refine awp_draw 37 mix (by decide +kernel) ?_)
    | (refine nbI fun bq => ?_)
    | ((first | refine zqm ?_ ?_ | refine zgm ?_ ?_ | refine zdm ?_ ?_) <;> (intro h; simp only [h, Bool.not_true, Bool.not_false]))
    | ((first | refine zqs ?_ ?_ | refine zgs ?_ ?_ | refine zds ?_ ?_) <;> (intro h; first | (exfalso; simp at h; omega) | ((try simp only [h]); (try simp at h))))
    | fail)
  · simp only [Bool.not_eq_true] at h
    rw [h] at s1
    refine acall_of_awp Try.func4 Try.call4 rfl (by simp [Try.ntmps4]) ?_; simp only [Try.ntmps4, Try.results4]
    repeat' (first
    | (refine awp_seqK (fun K hK => ?_))
    | (refine Hide.go (by assumption) ?_)
    | ((first | refine zqd ?_ ?_ | refine zqn ?_ ?_ | refine zgd ?_ ?_ | refine zgn ?_ ?_ | refine zdd ?_ ?_ | refine zdn ?_ ?_) <;> (intro h; first | (exfalso; omega) | (simp only [h, decide_true, decide_false, not_false_eq_true]) | skip))
    | (refine end_ret [] ?_; simp [go_sem])
    | (refine stepK_is rfl (s1) (by simp) ?_)
    | (refine dstepK_is rfl (s1) rfl (by simp) ?_)
    | (refine stepK_is rfl (hA) (by simp) ?_)
    | (refine dstepK_is rfl (hA) rfl (by simp) ?_)
    | ((fail_if_success with_reducible (refine Owe.mk ?_)); (simp (disch := omega) [go_sem]))
    | (refine And.intro (by omega) ?_)
    | (refine awp_draw 37 mix (by decide +kernel) ?_)
    | (refine nbI fun bq => ?_)
    | ((first | refine zqm ?_ ?_ | refine zgm ?_ ?_ | refine zdm ?_ ?_) <;> (intro h; simp only [h, Bool.not_true, Bool.not_false]))
    | ((first | refine zqs ?_ ?_ | refine zgs ?_ ?_ | refine zds ?_ ?_) <;> (intro h; first | (exfalso; simp at h; omega) | ((try simp only [h]); (try simp at h))))
    | fail)
end Go.Proofs.Ytldecgghhaoliaa
