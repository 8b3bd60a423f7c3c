/-
  Law2: the bodies of the laws TermCompares and TermOrder.
-/
import Derived.Test.YtldecgghhaoliaaTerm6
import Derived.Test.YtldecgghhaoliaaAwake
namespace Go.Proofs.Ytldecgghhaoliaa
open Go.Ab
set_option linter.unusedSimpArgs false
set_option maxRecDepth 100000
set_option maxHeartbeats 4000000
theorem small_ok (l : List Tm) (lent full : Bool) : ACall Try.prog 28 [.list lent full (l.map eTm)] (fun r => r = bl (smallL 40 l)) := by
  have h := SmallTerms_ok l lent full 40 (by decide)
  generalize smallL 40 l = b at *
  refine acall_of_awp Try.func28 Try.call28 rfl (by simp [Try.ntmps28]) ?_; simp only [Try.ntmps28, Try.results28]
  repeat' (first
    | (refine awp_seqK (fun K hK => ?_))
    | (refine Hide.go (by assumption) ?_)
    | ((first | refine zqd ?_ ?_ | refine zqn ?_ ?_ | refine zgd ?_ ?_ | refine zgn ?_ ?_ | refine zdd ?_ ?_ | refine zdn ?_ ?_) <;> (intro h; first | (exfalso; omega) | (simp only [h, decide_true, decide_false, not_false_eq_true]) | skip))
    | (refine end_ret [] ?_; simp [go_sem])
    | (refine stepK_is rfl (h) (by simp) ?_)
    | (refine dstepK_is rfl (h) rfl (by simp) ?_)
    | ((fail_if_success with_reducible (refine Owe.mk ?_)); (simp (disch := omega) [go_sem]))
    | (refine And.intro (by omega) ?_)
    | (refine nbI fun bq => ?_)
    | ((first | refine zqm ?_ ?_ | refine zgm ?_ ?_ | refine zdm ?_ ?_) <;> (intro h; simp only [h, Bool.not_true, Bool.not_false]))
    | ((first | refine zqs ?_ ?_ | refine zgs ?_ ?_ | refine zds ?_ ?_) <;> (intro h; first | (exfalso; simp at h; omega) | ((try simp only [h]); (try simp at h))))
    | fail)
theorem TermOrder_ok (a b c : Tm) (_ : True) (_ : True) (_ : True) : ACall Try.prog 6 [eT a, eT b, eT c] (fun r => r = bl true) := by
  have s1 := Small_ok a 40 (by decide)
  have s2 := Small_ok b 40 (by decide)
  have s3 := Small_ok c 40 (by decide)
  have c1 := Compare_ok a b
  have c2 := Compare_ok b c
  have c3 := Compare_ok a c
  have c4 := Compare_ok b a
  have c5 := Compare_ok a a
  have p1 := plainTerm_ok a b
  have hA := awake_ok
  have f1 := cmp_range a b
  have f2 := cmp_TR a b c
  have f3 := cmp_TR c b a
  rw [cmp_self] at c5
  rw [cmp_neg a b] at c4
  rw [cmp_neg a c, cmp_neg b c, cmp_neg a b] at f3
  have e1 : eqT a b = decide (cmpT a b = 0) := by
    rw [Bool.eq_iff_iff, decide_eq_true_eq, eqT_iff, cmp_zero]
  rw [e1] at p1
  unfold TR at f2 f3
  generalize cmpT a b = x at *
  generalize cmpT b c = y at *
  generalize cmpT a c = z at *
  generalize smallT 40 a = u at *
  generalize smallT 40 b = v at *
  generalize smallT 40 c = w at *
  clear e1
  refine acall_of_awp Try.func6 Try.call6 rfl (by simp [Try.ntmps6]) ?_; simp only [Try.ntmps6, Try.results6]
  cases u
  · repeat' (first
    | (refine awp_seqK (fun K hK => ?_))
    | (refine Hide.go (by assumption) ?_)
    | ((first | refine zqd ?_ ?_ | refine zqn ?_ ?_ | refine zgd ?_ ?_ | refine zgn ?_ ?_ | refine zdd ?_ ?_ | refine zdn ?_ ?_) <;> (intro h; first | (exfalso; omega) | (simp only [h, decide_true, decide_false, not_false_eq_true]) | skip))
    | (refine end_ret [] ?_; simp [go_sem])
    | (refine stepK_is rfl (s1) (by simp) ?_)
    | (refine dstepK_is rfl (s1) rfl (by simp) ?_)
    | (refine stepK_is rfl (hA) (by simp) ?_)
    | (refine dstepK_is rfl (hA) rfl (by simp) ?_)
    | ((fail_if_success with_reducible (refine Owe.mk ?_)); (simp (disch := omega) [go_sem]))
    | (refine And.intro (by omega) ?_)
    | (refine awp_draw 12 mix (by decide +kernel) ?_)
    | (refine nbI fun bq => ?_)
    | ((first | refine zqm ?_ ?_ | refine zgm ?_ ?_ | refine zdm ?_ ?_) <;> (intro h; simp only [h, Bool.not_true, Bool.not_false]))
    | ((first | refine zqs ?_ ?_ | refine zgs ?_ ?_ | refine zds ?_ ?_) <;> (intro h; first | (exfalso; simp at h; omega) | ((try simp only [h]); (try simp at h))))
    | fail)
  · cases v
    · repeat' (first
    | (refine awp_seqK (fun K hK => ?_))
    | (refine Hide.go (by assumption) ?_)
    | ((first | refine zqd ?_ ?_ | refine zqn ?_ ?_ | refine zgd ?_ ?_ | refine zgn ?_ ?_ | refine zdd ?_ ?_ | refine zdn ?_ ?_) <;> (intro h; first | (exfalso; omega) | (simp only [h, decide_true, decide_false, not_false_eq_true]) | skip))
    | (refine end_ret [] ?_; simp [go_sem])
    | (refine stepK_is rfl (s1) (by simp) ?_)
    | (refine dstepK_is rfl (s1) rfl (by simp) ?_)
    | (refine stepK_is rfl (s2) (by simp) ?_)
    | (refine dstepK_is rfl (s2) rfl (by simp) ?_)
    | (refine stepK_is rfl (hA) (by simp) ?_)
    | (refine dstepK_is rfl (hA) rfl (by simp) ?_)
    | ((fail_if_success with_reducible (refine Owe.mk ?_)); (simp (disch := omega) [go_sem]))
    | (refine And.intro (by omega) ?_)
    | (refine awp_draw 12 mix (by decide +kernel) ?_)
    | (refine nbI fun bq => ?_)
    | ((first | refine zqm ?_ ?_ | refine zgm ?_ ?_ | refine zdm ?_ ?_) <;> (intro h; simp only [h, Bool.not_true, Bool.not_false]))
    | ((first | refine zqs ?_ ?_ | refine zgs ?_ ?_ | refine zds ?_ ?_) <;> (intro h; first | (exfalso; simp at h; omega) | ((try simp only [h]); (try simp at h))))
    | fail)
    · cases w
      · repeat' (first
    | (refine awp_seqK (fun K hK => ?_))
    | (refine Hide.go (by assumption) ?_)
    | ((first | refine zqd ?_ ?_ | refine zqn ?_ ?_ | refine zgd ?_ ?_ | refine zgn ?_ ?_ | refine zdd ?_ ?_ | refine zdn ?_ ?_) <;> (intro h; first | (exfalso; omega) | (simp only [h, decide_true, decide_false, not_false_eq_true]) | skip))
    | (refine end_ret [] ?_; simp [go_sem])
    | (refine stepK_is rfl (s1) (by simp) ?_)
    | (refine dstepK_is rfl (s1) rfl (by simp) ?_)
    | (refine stepK_is rfl (s2) (by simp) ?_)
    | (refine dstepK_is rfl (s2) rfl (by simp) ?_)
    | (refine stepK_is rfl (s3) (by simp) ?_)
    | (refine dstepK_is rfl (s3) rfl (by simp) ?_)
    | (refine stepK_is rfl (hA) (by simp) ?_)
    | (refine dstepK_is rfl (hA) rfl (by simp) ?_)
    | ((fail_if_success with_reducible (refine Owe.mk ?_)); (simp (disch := omega) [go_sem]))
    | (refine And.intro (by omega) ?_)
    | (refine awp_draw 12 mix (by decide +kernel) ?_)
    | (refine nbI fun bq => ?_)
    | ((first | refine zqm ?_ ?_ | refine zgm ?_ ?_ | refine zdm ?_ ?_) <;> (intro h; simp only [h, Bool.not_true, Bool.not_false]))
    | ((first | refine zqs ?_ ?_ | refine zgs ?_ ?_ | refine zds ?_ ?_) <;> (intro h; first | (exfalso; simp at h; omega) | ((try simp only [h]); (try simp at h))))
    | fail)
      · repeat' (first
    | (refine awp_seqK (fun K hK => ?_))
    | (refine Hide.go (by assumption) ?_)
    | ((first | refine zqd ?_ ?_ | refine zqn ?_ ?_ | refine zgd ?_ ?_ | refine zgn ?_ ?_ | refine zdd ?_ ?_ | refine zdn ?_ ?_) <;> (intro h; first | (exfalso; omega) | (simp only [h, decide_true, decide_false, not_false_eq_true]) | skip))
    | (refine end_ret [] ?_; simp [go_sem])
    | (refine stepK_is rfl (s1) (by simp) ?_)
    | (refine dstepK_is rfl (s1) rfl (by simp) ?_)
    | (refine stepK_is rfl (s2) (by simp) ?_)
    | (refine dstepK_is rfl (s2) rfl (by simp) ?_)
    | (refine stepK_is rfl (s3) (by simp) ?_)
    | (refine dstepK_is rfl (s3) rfl (by simp) ?_)
    | (refine stepK_is rfl (c1) (by simp) ?_)
    | (refine dstepK_is rfl (c1) rfl (by simp) ?_)
    | (refine stepK_is rfl (c2) (by simp) ?_)
    | (refine dstepK_is rfl (c2) rfl (by simp) ?_)
    | (refine stepK_is rfl (c3) (by simp) ?_)
    | (refine dstepK_is rfl (c3) rfl (by simp) ?_)
    | (refine stepK_is rfl (c4) (by simp) ?_)
    | (refine dstepK_is rfl (c4) rfl (by simp) ?_)
    | (refine stepK_is rfl (c5) (by simp) ?_)
    | (refine dstepK_is rfl (c5) rfl (by simp) ?_)
    | (refine stepK_is rfl (p1) (by simp) ?_)
    | (refine dstepK_is rfl (p1) rfl (by simp) ?_)
    | (refine stepK_is rfl (hA) (by simp) ?_)
    | (refine dstepK_is rfl (hA) rfl (by simp) ?_)
    | ((fail_if_success with_reducible (refine Owe.mk ?_)); (simp (disch := omega) [go_sem]))
    | (refine And.intro (by omega) ?_)
    | (refine awp_draw 12 mix (by decide +kernel) ?_)
    | (refine nbI fun bq => ?_)
    | ((first | refine zqm ?_ ?_ | refine zgm ?_ ?_ | refine zdm ?_ ?_) <;> (intro h; simp only [h, Bool.not_true, Bool.not_false]))
    | ((first | refine zqs ?_ ?_ | refine zgs ?_ ?_ | refine zds ?_ ?_) <;> (intro h; first | (exfalso; simp at h; omega) | ((try simp only [h]); (try simp at h))))
    | fail)
        all_goals omega
theorem TermCompares_ok (a b : List Tm) (_ : True) (_ : True) : ACall Try.prog 5 [.list false false (a.map eTm), .list false false (b.map eTm)] (fun r => r = bl true) := by
  refine ACall.bound (i := 0) rfl Try.call5 fun hb => ?_
  rw [List.length_map] at hb
  have hb : a.length ≤ 140737488355328 := hb
  have s1 := small_ok a false false
  have s2 := small_ok b false false
  have c1 := CompareList_ok a b false false false false
  have c2 := refCompareList_ok a b false false false false
  have hA := awake_ok
  generalize cmpL a b = x at *
  generalize smallL 40 a = u at *
  generalize smallL 40 b = v at *
  refine acall_of_awp Try.func5 Try.call5 rfl (by simp [Try.ntmps5]) ?_; simp only [Try.ntmps5, Try.results5]
  cases u
  · repeat' (first
    | (refine awp_seqK (fun K hK => ?_))
    | (refine Hide.go (by assumption) ?_)
    | ((first | refine zqd ?_ ?_ | refine zqn ?_ ?_ | refine zgd ?_ ?_ | refine zgn ?_ ?_ | refine zdd ?_ ?_ | refine zdn ?_ ?_) <;> (intro h; first | (exfalso; omega) | (simp only [h, decide_true, decide_false, not_false_eq_true]) | skip))
    | (refine end_ret [] ?_; simp [go_sem])
    | (refine stepK_is rfl (s1) (by simp) ?_)
    | (refine dstepK_is rfl (s1) rfl (by simp) ?_)
    | (refine stepK_is rfl (hA) (by simp) ?_)
    | (refine dstepK_is rfl (hA) rfl (by simp) ?_)
    | ((fail_if_success with_reducible (refine Owe.mk ?_)); (simp (disch := omega) [go_sem]))
    | (refine And.intro (by omega) ?_)
    | (refine awp_draw 19 mix (by decide +kernel) ?_)
    | (refine nbI fun bq => ?_)
    | ((first | refine zqm ?_ ?_ | refine zgm ?_ ?_ | refine zdm ?_ ?_) <;> (intro h; simp only [h, Bool.not_true, Bool.not_false]))
    | ((first | refine zqs ?_ ?_ | refine zgs ?_ ?_ | refine zds ?_ ?_) <;> (intro h; first | (exfalso; simp at h; omega) | ((try simp only [h]); (try simp at h))))
    | fail)
  · cases v
    · repeat' (first
    | (refine awp_seqK (fun K hK => ?_))
    | (refine Hide.go (by assumption) ?_)
    | ((first | refine zqd ?_ ?_ | refine zqn ?_ ?_ | refine zgd ?_ ?_ | refine zgn ?_ ?_ | refine zdd ?_ ?_ | refine zdn ?_ ?_) <;> (intro h; first | (exfalso; omega) | (simp only [h, decide_true, decide_false, not_false_eq_true]) | skip))
    | (refine end_ret [] ?_; simp [go_sem])
    | (refine stepK_is rfl (s1) (by simp) ?_)
    | (refine dstepK_is rfl (s1) rfl (by simp) ?_)
    | (refine stepK_is rfl (s2) (by simp) ?_)
    | (refine dstepK_is rfl (s2) rfl (by simp) ?_)
    | (refine stepK_is rfl (hA) (by simp) ?_)
    | (refine dstepK_is rfl (hA) rfl (by simp) ?_)
    | ((fail_if_success with_reducible (refine Owe.mk ?_)); (simp (disch := omega) [go_sem]))
    | (refine And.intro (by omega) ?_)
    | (refine awp_draw 19 mix (by decide +kernel) ?_)
    | (refine nbI fun bq => ?_)
    | ((first | refine zqm ?_ ?_ | refine zgm ?_ ?_ | refine zdm ?_ ?_) <;> (intro h; simp only [h, Bool.not_true, Bool.not_false]))
    | ((first | refine zqs ?_ ?_ | refine zgs ?_ ?_ | refine zds ?_ ?_) <;> (intro h; first | (exfalso; simp at h; omega) | ((try simp only [h]); (try simp at h))))
    | fail)
    · repeat' (first
    | (refine awp_seqK (fun K hK => ?_))
    | (refine Hide.go (by assumption) ?_)
    | ((first | refine zqd ?_ ?_ | refine zqn ?_ ?_ | refine zgd ?_ ?_ | refine zgn ?_ ?_ | refine zdd ?_ ?_ | refine zdn ?_ ?_) <;> (intro h; first | (exfalso; omega) | (simp only [h, decide_true, decide_false, not_false_eq_true]) | skip))
    | (refine end_ret [] ?_; simp [go_sem])
    | (refine stepK_is rfl (s1) (by simp) ?_)
    | (refine dstepK_is rfl (s1) rfl (by simp) ?_)
    | (refine stepK_is rfl (s2) (by simp) ?_)
    | (refine dstepK_is rfl (s2) rfl (by simp) ?_)
    | (refine stepK_is rfl (c1) (by simp) ?_)
    | (refine dstepK_is rfl (c1) rfl (by simp) ?_)
    | (refine stepK_is rfl (c2) (by simp) ?_)
    | (refine dstepK_is rfl (c2) rfl (by simp) ?_)
    | ((fail_if_success with_reducible (refine Owe.mk ?_)); (simp (disch := omega) [go_sem]))
    | (refine And.intro (by omega) ?_)
    | (refine awp_draw 19 mix (by decide +kernel) ?_)
    | (refine nbI fun bq => ?_)
    | ((first | refine zqm ?_ ?_ | refine zgm ?_ ?_ | refine zdm ?_ ?_) <;> (intro h; simp only [h, Bool.not_true, Bool.not_false]))
    | ((first | refine zqs ?_ ?_ | refine zgs ?_ ?_ | refine zds ?_ ?_) <;> (intro h; first | (exfalso; simp at h; omega) | ((try simp only [h]); (try simp at h))))
    | fail)
      refine awp_for [0, 1] [] (fun i : Nat => [(5, nt .i64 i)]) (fun i : Nat => []) (fun i : Nat => a.length - i) (fun i : Nat => i ≤ a.length ∧ i ≤ b.length) (0) (Le.sub4 rfl (by simp [go_sem])) ⟨?_⟩ ?_
      · exact ⟨Nat.zero_le _, Nat.zero_le _⟩
      intro i ⟨hi, hi2⟩ AA hAA; simp only [Go.Ab.keepT_nil, Go.Ab.keepT_cons, Go.Ab.dropO_nil, Go.Ab.dropO_cons, List.contains_cons, List.contains_nil, List.elem_cons, List.elem_nil, Nat.reduceBEq, beq_self_eq_true, Nat.reduceEqDiff, Bool.or_false, Bool.false_or, Bool.or_true, Bool.true_or, Bool.false_eq_true, if_true, if_false, List.cons_append, List.nil_append, List.append_nil]
      by_cases h1 : i < a.length
      · by_cases h2 : i < b.length
        · have d1 := Compare_ok a[i] b[i]
          have d2 := refCompare_ok a[i] b[i]
          generalize cmpT a[i] b[i] = y at *
          repeat' (first
    | (refine awp_seqK (fun K hK => ?_))
    | (refine Hide.go (by assumption) ?_)
    | ((first | refine zqd ?_ ?_ | refine zqn ?_ ?_ | refine zgd ?_ ?_ | refine zgn ?_ ?_ | refine zdd ?_ ?_ | refine zdn ?_ ?_) <;> (intro h; first | (exfalso; omega) | (simp only [h, decide_true, decide_false, not_false_eq_true]) | skip))
    | (refine end_ret [] ?_; simp [go_sem, h1, h2])
    | (refine stepK_is rfl (d1) (by simp) ?_)
    | (refine dstepK_is rfl (d1) rfl (by simp) ?_)
    | (refine stepK_is rfl (d2) (by simp) ?_)
    | (refine dstepK_is rfl (d2) rfl (by simp) ?_)
    | (refine (hAA.next (i + 1) (Le.sub4 rfl (by simp [go_sem])) (by (try dsimp only); omega) ?_))
    | ((fail_if_success with_reducible (refine Owe.mk ?_)); (simp (disch := omega) [go_sem, h1, h2]))
    | (refine And.intro (by omega) ?_)
    | (refine awp_draw 19 mix (by decide +kernel) ?_)
    | (refine nbI fun bq => ?_)
    | ((first | refine zqm ?_ ?_ | refine zgm ?_ ?_ | refine zdm ?_ ?_) <;> (intro h; simp only [h, Bool.not_true, Bool.not_false]))
    | ((first | refine zqs ?_ ?_ | refine zgs ?_ ?_ | refine zds ?_ ?_) <;> (intro h; first | (exfalso; simp at h; omega) | ((try simp only [h]); (try simp at h))))
    | fail)
          exact ⟨⟨h1, h2⟩⟩
        · repeat' (first
    | (refine awp_seqK (fun K hK => ?_))
    | (refine Hide.go (by assumption) ?_)
    | ((first | refine zqd ?_ ?_ | refine zqn ?_ ?_ | refine zgd ?_ ?_ | refine zgn ?_ ?_ | refine zdd ?_ ?_ | refine zdn ?_ ?_) <;> (intro h; first | (exfalso; omega) | (simp only [h, decide_true, decide_false, not_false_eq_true]) | skip))
    | (refine end_ret [] ?_; simp [go_sem, h1, h2])
    | (refine stepK_is rfl (hA) (by simp) ?_)
    | (refine dstepK_is rfl (hA) rfl (by simp) ?_)
    | ((fail_if_success with_reducible (refine Owe.mk ?_)); (simp (disch := omega) [go_sem, h1, h2]))
    | (refine And.intro (by omega) ?_)
    | (refine awp_draw 19 mix (by decide +kernel) ?_)
    | (refine nbI fun bq => ?_)
    | ((first | refine zqm ?_ ?_ | refine zgm ?_ ?_ | refine zdm ?_ ?_) <;> (intro h; simp only [h, Bool.not_true, Bool.not_false]))
    | ((first | refine zqs ?_ ?_ | refine zgs ?_ ?_ | refine zds ?_ ?_) <;> (intro h; first | (exfalso; simp at h; omega) | ((try simp only [h]); (try simp at h))))
    | fail)
      · by_cases h2 : i < b.length
        · repeat' (first
    | (refine awp_seqK (fun K hK => ?_))
    | (refine Hide.go (by assumption) ?_)
    | ((first | refine zqd ?_ ?_ | refine zqn ?_ ?_ | refine zgd ?_ ?_ | refine zgn ?_ ?_ | refine zdd ?_ ?_ | refine zdn ?_ ?_) <;> (intro h; first | (exfalso; omega) | (simp only [h, decide_true, decide_false, not_false_eq_true]) | skip))
    | (refine end_ret [] ?_; simp [go_sem, h1, h2])
    | (refine stepK_is rfl (hA) (by simp) ?_)
    | (refine dstepK_is rfl (hA) rfl (by simp) ?_)
    | ((fail_if_success with_reducible (refine Owe.mk ?_)); (simp (disch := omega) [go_sem, h1, h2]))
    | (refine And.intro (by omega) ?_)
    | (refine awp_draw 19 mix (by decide +kernel) ?_)
    | (refine nbI fun bq => ?_)
    | ((first | refine zqm ?_ ?_ | refine zgm ?_ ?_ | refine zdm ?_ ?_) <;> (intro h; simp only [h, Bool.not_true, Bool.not_false]))
    | ((first | refine zqs ?_ ?_ | refine zgs ?_ ?_ | refine zds ?_ ?_) <;> (intro h; first | (exfalso; simp at h; omega) | ((try simp only [h]); (try simp at h))))
    | fail)
        · repeat' (first
    | (refine awp_seqK (fun K hK => ?_))
    | (refine Hide.go (by assumption) ?_)
    | ((first | refine zqd ?_ ?_ | refine zqn ?_ ?_ | refine zgd ?_ ?_ | refine zgn ?_ ?_ | refine zdd ?_ ?_ | refine zdn ?_ ?_) <;> (intro h; first | (exfalso; omega) | (simp only [h, decide_true, decide_false, not_false_eq_true]) | skip))
    | (refine end_ret [] ?_; simp [go_sem, h1, h2])
    | (refine stepK_is rfl (hA) (by simp) ?_)
    | (refine dstepK_is rfl (hA) rfl (by simp) ?_)
    | ((fail_if_success with_reducible (refine Owe.mk ?_)); (simp (disch := omega) [go_sem, h1, h2]))
    | (refine And.intro (by omega) ?_)
    | (refine awp_draw 19 mix (by decide +kernel) ?_)
    | (refine nbI fun bq => ?_)
    | ((first | refine zqm ?_ ?_ | refine zgm ?_ ?_ | refine zdm ?_ ?_) <;> (intro h; simp only [h, Bool.not_true, Bool.not_false]))
    | ((first | refine zqs ?_ ?_ | refine zgs ?_ ?_ | refine zds ?_ ?_) <;> (intro h; first | (exfalso; simp at h; omega) | ((try simp only [h]); (try simp at h))))
    | fail)
end Go.Proofs.Ytldecgghhaoliaa
