/-
  Law5: the body of the law TermTexts.
-/
import Derived.Test.YtldecgghhaoliaaText4
import Derived.Test.YtldecgghhaoliaaLaw2
namespace Go.Proofs.Ytldecgghhaoliaa
open Go.Ab
set_option linter.unusedSimpArgs false
set_option maxRecDepth 100000
set_option maxHeartbeats 8000000
theorem txtB_eq {t u : Tm} (h1 : withT 4 true t = true) (h2 : withT 4 true u = true) : decide (txtB t = txtB u) = decide (cmpT t u = 0) := by
  rw [decide_eq_decide, cmp_zero, ← txt_inj h1 h2]
  constructor
  · intro h
    have := congrArg (fun b => b.data.toList) h
    simpa [txtB] using this
  · intro h
    unfold txtB; rw [h]
theorem TermTexts_ok (t u : Tm) (_ : True) (_ : True) : ACall Try.prog 8 [eT t, eT u] (fun r => r = bl true) := by
  have hA := awake_ok
  have s1 := Small_ok t 40 (by decide)
  have s2 := Small_ok u 40 (by decide)
  cases h1 : smallT 40 t with
  | false =>
    rw [h1] at s1
    refine acall_of_awp Try.func8 Try.call8 rfl (by simp [Try.ntmps8]) ?_; simp only [Try.ntmps8, Try.results8]
    repeat' (first
    | (refine awp_seqK (fun K hK => ?_))
    | (refine Hide.go (by assumption) ?_)
    | ((first | refine zqd ?_ ?_ | refine zqn ?_ ?_ | refine zgd ?_ ?_ | refine zgn ?_ ?_ | refine zdd ?_ ?_ | refine zdn ?_ ?_) <;> (intro h; first | (exfalso; omega) | (simp only [h, decide_true, decide_false, not_false_eq_true]) | skip))
    | (refine end_ret [] ?_; simp [go_sem])
    | (refine stepK_is rfl (s1) (by simp) ?_)
    | (refine dstepK_is rfl (s1) rfl (by simp) ?_)
    | (refine stepK_is rfl (hA) (by simp) ?_)
    | (refine dstepK_is rfl (hA) rfl (by simp) ?_)
    | ((fail_if_success with_reducible (refine Owe.mk ?_)); (simp (disch := omega) [go_sem]))
    | (refine And.intro (by omega) ?_)
    | (refine awp_draw 6 mix (by decide +kernel) ?_)
    | (refine awp_draw 18 mix (by decide +kernel) ?_)
    | (refine nbI fun bq => ?_)
    | ((first | refine zqm ?_ ?_ | refine zgm ?_ ?_ | refine zdm ?_ ?_) <;> (intro h; simp only [h, Bool.not_true, Bool.not_false]))
    | ((first | refine zqs ?_ ?_ | refine zgs ?_ ?_ | refine zds ?_ ?_) <;> (intro h; first | (exfalso; simp at h; omega) | ((try simp only [h]); (try simp at h))))
    | fail)
  | true =>
    rw [h1] at s1
    cases h2 : smallT 40 u with
    | false =>
      rw [h2] at s2
      refine acall_of_awp Try.func8 Try.call8 rfl (by simp [Try.ntmps8]) ?_; simp only [Try.ntmps8, Try.results8]
      repeat' (first
    | (refine awp_seqK (fun K hK => ?_))
    | (refine Hide.go (by assumption) ?_)
    | ((first | refine zqd ?_ ?_ | refine zqn ?_ ?_ | refine zgd ?_ ?_ | refine zgn ?_ ?_ | refine zdd ?_ ?_ | refine zdn ?_ ?_) <;> (intro h; first | (exfalso; omega) | (simp only [h, decide_true, decide_false, not_false_eq_true]) | skip))
    | (refine end_ret [] ?_; simp [go_sem])
    | (refine stepK_is rfl (s1) (by simp) ?_)
    | (refine dstepK_is rfl (s1) rfl (by simp) ?_)
    | (refine stepK_is rfl (s2) (by simp) ?_)
    | (refine dstepK_is rfl (s2) rfl (by simp) ?_)
    | (refine stepK_is rfl (hA) (by simp) ?_)
    | (refine dstepK_is rfl (hA) rfl (by simp) ?_)
    | ((fail_if_success with_reducible (refine Owe.mk ?_)); (simp (disch := omega) [go_sem]))
    | (refine And.intro (by omega) ?_)
    | (refine awp_draw 6 mix (by decide +kernel) ?_)
    | (refine awp_draw 18 mix (by decide +kernel) ?_)
    | (refine nbI fun bq => ?_)
    | ((first | refine zqm ?_ ?_ | refine zgm ?_ ?_ | refine zdm ?_ ?_) <;> (intro h; simp only [h, Bool.not_true, Bool.not_false]))
    | ((first | refine zqs ?_ ?_ | refine zgs ?_ ?_ | refine zds ?_ ?_) <;> (intro h; first | (exfalso; simp at h; omega) | ((try simp only [h]); (try simp at h))))
    | fail)
    | true =>
      rw [h2] at s2
      have z1 := smallT_size (by decide) h1
      have z2 := smallT_size (by decide) h2
      have hg := Ground_ok t
      have hv := Valid_ok t
      have hu := Valid_ok u
      have hl := lvs_size t
      have hvs := Vars_ok [t] true false (by simp only [lvsS, List.append_nil]; omega)
      have hgv := ground_vars t
      have hcm := Compare_ok t u
      simp only [List.map_cons, List.map_nil, eTm_eq] at hvs
      have hvl := varsT_le [t]
      simp only [lvsS, List.append_nil] at hvl
      cases v1 : withT 4 true t with
      | false =>
        rw [v1, Bool.false_and] at hgv
        rw [hgv] at hg
        rw [v1] at hv
        refine acall_of_awp Try.func8 Try.call8 rfl (by simp [Try.ntmps8]) ?_; simp only [Try.ntmps8, Try.results8]
        repeat' (first
    | (refine awp_seqK (fun K hK => ?_))
    | (refine Hide.go (by assumption) ?_)
    | ((first | refine zqd ?_ ?_ | refine zqn ?_ ?_ | refine zgd ?_ ?_ | refine zgn ?_ ?_ | refine zdd ?_ ?_ | refine zdn ?_ ?_) <;> (intro h; first | (exfalso; omega) | (simp only [h, decide_true, decide_false, not_false_eq_true]) | skip))
    | (refine end_ret [] ?_; simp [go_sem])
    | (refine stepK_is rfl (s1) (by simp) ?_)
    | (refine dstepK_is rfl (s1) rfl (by simp) ?_)
    | (refine stepK_is rfl (s2) (by simp) ?_)
    | (refine dstepK_is rfl (s2) rfl (by simp) ?_)
    | (refine stepK_is rfl (hg) (by simp) ?_)
    | (refine dstepK_is rfl (hg) rfl (by simp) ?_)
    | (refine stepK_is rfl (hv) (by simp) ?_)
    | (refine dstepK_is rfl (hv) rfl (by simp) ?_)
    | (refine stepK_is rfl (hA) (by simp) ?_)
    | (refine dstepK_is rfl (hA) rfl (by simp) ?_)
    | ((fail_if_success with_reducible (refine Owe.mk ?_)); (simp (disch := omega) [go_sem]))
    | (refine And.intro (by omega) ?_)
    | (refine awp_draw 6 mix (by decide +kernel) ?_)
    | (refine awp_draw 18 mix (by decide +kernel) ?_)
    | (refine nbI fun bq => ?_)
    | ((first | refine zqm ?_ ?_ | refine zgm ?_ ?_ | refine zdm ?_ ?_) <;> (intro h; simp only [h, Bool.not_true, Bool.not_false]))
    | ((first | refine zqs ?_ ?_ | refine zgs ?_ ?_ | refine zds ?_ ?_) <;> (intro h; first | (exfalso; simp at h; omega) | ((try simp only [h]); (try simp at h))))
    | fail)
      | true =>
        rw [v1, Bool.true_and] at hgv
        rw [hgv] at hg
        rw [v1] at hv
        have x1 := txt_size t 4 v1
        have ht := Text_ok t (by omega)
        cases v2 : withT 4 true u with
        | false =>
          rw [v2] at hu
          generalize varsT [t] = V at *
          refine acall_of_awp Try.func8 Try.call8 rfl (by simp [Try.ntmps8]) ?_; simp only [Try.ntmps8, Try.results8]
          repeat' (first
    | (refine awp_seqK (fun K hK => ?_))
    | (refine Hide.go (by assumption) ?_)
    | ((first | refine zqd ?_ ?_ | refine zqn ?_ ?_ | refine zgd ?_ ?_ | refine zgn ?_ ?_ | refine zdd ?_ ?_ | refine zdn ?_ ?_) <;> (intro h; first | (exfalso; omega) | (simp only [h, decide_true, decide_false, not_false_eq_true]) | skip))
    | (refine end_ret [] ?_; simp [go_sem])
    | (refine stepK_is rfl (s1) (by simp) ?_)
    | (refine dstepK_is rfl (s1) rfl (by simp) ?_)
    | (refine stepK_is rfl (s2) (by simp) ?_)
    | (refine dstepK_is rfl (s2) rfl (by simp) ?_)
    | (refine stepK_is rfl (hg) (by simp) ?_)
    | (refine dstepK_is rfl (hg) rfl (by simp) ?_)
    | (refine stepK_is rfl (hv) (by simp) ?_)
    | (refine dstepK_is rfl (hv) rfl (by simp) ?_)
    | (refine stepK_is rfl (hu) (by simp) ?_)
    | (refine dstepK_is rfl (hu) rfl (by simp) ?_)
    | (refine stepK_is rfl (hvs) (by simp) ?_)
    | (refine dstepK_is rfl (hvs) rfl (by simp) ?_)
    | (refine stepK_is rfl (hA) (by simp) ?_)
    | (refine dstepK_is rfl (hA) rfl (by simp) ?_)
    | ((fail_if_success with_reducible (refine Owe.mk ?_)); (simp (disch := omega) [go_sem]))
    | (refine And.intro (by omega) ?_)
    | (refine awp_draw 6 mix (by decide +kernel) ?_)
    | (refine awp_draw 18 mix (by decide +kernel) ?_)
    | (refine nbI fun bq => ?_)
    | ((first | refine zqm ?_ ?_ | refine zgm ?_ ?_ | refine zdm ?_ ?_) <;> (intro h; simp only [h, Bool.not_true, Bool.not_false]))
    | ((first | refine zqs ?_ ?_ | refine zgs ?_ ?_ | refine zds ?_ ?_) <;> (intro h; first | (exfalso; simp at h; omega) | ((try simp only [h]); (try simp at h))))
    | fail)
        | true =>
          rw [v2] at hu
          have x2 := txt_size u 4 v2
          have ht2 := Text_ok u (by omega)
          have he := txtB_eq v1 v2
          generalize varsT [t] = V at *
          generalize txtB t = T1 at *
          generalize txtB u = T2 at *
          generalize cmpT t u = c at *
          by_cases hc : c = 0
          · have hT : T1 = T2 := by simpa [hc] using he
            subst hc
            subst hT
            refine acall_of_awp Try.func8 Try.call8 rfl (by simp [Try.ntmps8]) ?_; simp only [Try.ntmps8, Try.results8]
            repeat' (first
    | (refine awp_seqK (fun K hK => ?_))
    | (refine Hide.go (by assumption) ?_)
    | ((first | refine zqd ?_ ?_ | refine zqn ?_ ?_ | refine zgd ?_ ?_ | refine zgn ?_ ?_ | refine zdd ?_ ?_ | refine zdn ?_ ?_) <;> (intro h; first | (exfalso; omega) | (simp only [h, decide_true, decide_false, not_false_eq_true]) | skip))
    | (refine end_ret [] ?_; simp [go_sem])
    | (refine stepK_is rfl (s1) (by simp) ?_)
    | (refine dstepK_is rfl (s1) rfl (by simp) ?_)
    | (refine stepK_is rfl (s2) (by simp) ?_)
    | (refine dstepK_is rfl (s2) rfl (by simp) ?_)
    | (refine stepK_is rfl (hg) (by simp) ?_)
    | (refine dstepK_is rfl (hg) rfl (by simp) ?_)
    | (refine stepK_is rfl (hv) (by simp) ?_)
    | (refine dstepK_is rfl (hv) rfl (by simp) ?_)
    | (refine stepK_is rfl (hu) (by simp) ?_)
    | (refine dstepK_is rfl (hu) rfl (by simp) ?_)
    | (refine stepK_is rfl (hvs) (by simp) ?_)
    | (refine dstepK_is rfl (hvs) rfl (by simp) ?_)
    | (refine stepK_is rfl (ht) (by simp) ?_)
    | (refine dstepK_is rfl (ht) rfl (by simp) ?_)
    | (refine stepK_is rfl (ht2) (by simp) ?_)
    | (refine dstepK_is rfl (ht2) rfl (by simp) ?_)
    | (refine stepK_is rfl (hcm) (by simp) ?_)
    | (refine dstepK_is rfl (hcm) rfl (by simp) ?_)
    | (refine stepK_is rfl (hA) (by simp) ?_)
    | (refine dstepK_is rfl (hA) rfl (by simp) ?_)
    | ((fail_if_success with_reducible (refine Owe.mk ?_)); (simp (disch := omega) [go_sem]))
    | (refine And.intro (by omega) ?_)
    | (refine awp_draw 6 mix (by decide +kernel) ?_)
    | (refine awp_draw 18 mix (by decide +kernel) ?_)
    | (refine nbI fun bq => ?_)
    | ((first | refine zqm ?_ ?_ | refine zgm ?_ ?_ | refine zdm ?_ ?_) <;> (intro h; simp only [h, Bool.not_true, Bool.not_false]))
    | ((first | refine zqs ?_ ?_ | refine zgs ?_ ?_ | refine zds ?_ ?_) <;> (intro h; first | (exfalso; simp at h; omega) | ((try simp only [h]); (try simp at h))))
    | fail)
          · have hT : ¬ T1 = T2 := by simpa [hc] using he
            refine acall_of_awp Try.func8 Try.call8 rfl (by simp [Try.ntmps8]) ?_; simp only [Try.ntmps8, Try.results8]
            repeat' (first
    | (refine awp_seqK (fun K hK => ?_))
    | (refine Hide.go (by assumption) ?_)
    | ((first | refine zqd ?_ ?_ | refine zqn ?_ ?_ | refine zgd ?_ ?_ | refine zgn ?_ ?_ | refine zdd ?_ ?_ | refine zdn ?_ ?_) <;> (intro h; first | (exfalso; omega) | (simp only [h, decide_true, decide_false, not_false_eq_true]) | skip))
    | (refine end_ret [] ?_; simp [go_sem, hc, hT])
    | (refine stepK_is rfl (s1) (by simp) ?_)
    | (refine dstepK_is rfl (s1) rfl (by simp) ?_)
    | (refine stepK_is rfl (s2) (by simp) ?_)
    | (refine dstepK_is rfl (s2) rfl (by simp) ?_)
    | (refine stepK_is rfl (hg) (by simp) ?_)
    | (refine dstepK_is rfl (hg) rfl (by simp) ?_)
    | (refine stepK_is rfl (hv) (by simp) ?_)
    | (refine dstepK_is rfl (hv) rfl (by simp) ?_)
    | (refine stepK_is rfl (hu) (by simp) ?_)
    | (refine dstepK_is rfl (hu) rfl (by simp) ?_)
    | (refine stepK_is rfl (hvs) (by simp) ?_)
    | (refine dstepK_is rfl (hvs) rfl (by simp) ?_)
    | (refine stepK_is rfl (ht) (by simp) ?_)
    | (refine dstepK_is rfl (ht) rfl (by simp) ?_)
    | (refine stepK_is rfl (ht2) (by simp) ?_)
    | (refine dstepK_is rfl (ht2) rfl (by simp) ?_)
    | (refine stepK_is rfl (hcm) (by simp) ?_)
    | (refine dstepK_is rfl (hcm) rfl (by simp) ?_)
    | (refine stepK_is rfl (hA) (by simp) ?_)
    | (refine dstepK_is rfl (hA) rfl (by simp) ?_)
    | ((fail_if_success with_reducible (refine Owe.mk ?_)); (simp (disch := omega) [go_sem, hc, hT]))
    | (refine And.intro (by omega) ?_)
    | (refine awp_draw 6 mix (by decide +kernel) ?_)
    | (refine awp_draw 18 mix (by decide +kernel) ?_)
    | (refine nbI fun bq => ?_)
    | ((first | refine zqm ?_ ?_ | refine zgm ?_ ?_ | refine zdm ?_ ?_) <;> (intro h; simp only [h, Bool.not_true, Bool.not_false]))
    | ((first | refine zqs ?_ ?_ | refine zgs ?_ ?_ | refine zds ?_ ?_) <;> (intro h; first | (exfalso; simp at h; omega) | ((try simp only [h]); (try simp at h))))
    | fail)
end Go.Proofs.Ytldecgghhaoliaa
