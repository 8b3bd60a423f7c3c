/-
  Law4: the body of the law TermSorts.
-/
import Derived.Test.YtldecgghhaoliaaTerm11
import Derived.Test.YtldecgghhaoliaaLaw2
namespace Go.Proofs.Ytldecgghhaoliaa
open Go.Ab
set_option linter.unusedSimpArgs false
set_option maxRecDepth 100000
set_option maxHeartbeats 8000000
theorem smallL_facts {l : List Tm} (h : smallL 40 l = true) : l.length ≤ 40 ∧ ∀ t ∈ l, t.size ≤ 40 := by
  unfold smallL at h
  simp only [Bool.and_eq_true, decide_eq_true_eq, List.all_eq_true] at h
  refine ⟨by omega, fun t ht => ?_⟩
  have := smallT_size (by decide) (h.2 t ht)
  omega
theorem fnd_self {s : List Tm} (ha : Sasc s) {i : Nat} (h : i < s.length) : fndT s s[i] = i := by
  have e : s.findIdx (fun u => decide (u = s[i])) = i := by
    rw [List.findIdx_eq h]
    refine ⟨by simp, fun j hj => ?_⟩
    have := List.pairwise_iff_getElem.1 ha j i (by omega) h hj
    simp only [decide_eq_false_iff_not]
    intro e2
    rw [e2, cmp_self] at this
    omega
  unfold fndT
  rw [e, if_pos h]
theorem fnd_mem {s : List Tm} {t : Tm} (h : t ∈ s) : ¬ fndT s t < 0 := by
  have : s.findIdx (fun u => decide (u = t)) < s.length := by
    rw [List.findIdx_lt_length]; exact ⟨t, h, by simp⟩
  unfold fndT
  rw [if_pos this]; omega
theorem sort_len (l : List Tm) : (sortT l).length ≤ l.length := by
  have h1 : (sortT l).Nodup := by
    have := sort_asc l
    refine List.Pairwise.imp (fun {a b} h => ?_) this
    rintro rfl
    rw [cmp_self] at h; omega
  exact List.Nodup.length_le_of_subset h1 fun x hx => (sort_mem l x).1 hx
theorem TermSorts_ok (l : List Tm) (t : Tm) (_ : True) (_ : True) : ACall Try.prog 7 [.list false false (l.map eTm), eT t] (fun r => r = bl true) := by
  have hA := awake_ok
  have s1 := small_ok l false false
  have s2 := Small_ok t 40 (by decide)
  cases h1 : smallL 40 l with
  | false =>
    rw [h1] at s1
    refine acall_of_awp Try.func7 Try.call7 rfl (by simp [Try.ntmps7]) ?_; simp only [Try.ntmps7, Try.results7]
    repeat' (first
    | (refine awp_seqK (fun K hK => ?_))
    | (refine Hide.go (by assumption) ?_)
    | ((first | refine zqd ?_ ?_ | refine zqn ?_ ?_ | refine zgd ?_ ?_ | refine zgn ?_ ?_ | refine zdd ?_ ?_ | refine zdn ?_ ?_) <;> (intro h; first | (exfalso; omega) | (simp only [h, decide_true, decide_false, not_false_eq_true]) | skip))
    | (refine end_ret [] ?_; simp [go_sem])
    | (refine stepK_is rfl (s1) (by simp) ?_)
    | (refine dstepK_is rfl (s1) rfl (by simp) ?_)
    | (refine stepK_is rfl (hA) (by simp) ?_)
    | (refine dstepK_is rfl (hA) rfl (by simp) ?_)
    | ((fail_if_success with_reducible (refine Owe.mk ?_)); (simp (disch := omega) [go_sem]))
    | (refine And.intro (by omega) ?_)
    | (refine awp_draw 14 mix (by decide +kernel) ?_)
    | (refine awp_draw 25 mix (by decide +kernel) ?_)
    | (refine nbI fun bq => ?_)
    | ((first | refine zqm ?_ ?_ | refine zgm ?_ ?_ | refine zdm ?_ ?_) <;> (intro h; simp only [h, Bool.not_true, Bool.not_false]))
    | ((first | refine zqs ?_ ?_ | refine zgs ?_ ?_ | refine zds ?_ ?_) <;> (intro h; first | (exfalso; simp at h; omega) | ((try simp only [h]); (try simp at h))))
    | fail)
  | true =>
    rw [h1] at s1
    cases h2 : smallT 40 t with
    | false =>
      rw [h2] at s2
      refine acall_of_awp Try.func7 Try.call7 rfl (by simp [Try.ntmps7]) ?_; simp only [Try.ntmps7, Try.results7]
      repeat' (first
    | (refine awp_seqK (fun K hK => ?_))
    | (refine Hide.go (by assumption) ?_)
    | ((first | refine zqd ?_ ?_ | refine zqn ?_ ?_ | refine zgd ?_ ?_ | refine zgn ?_ ?_ | refine zdd ?_ ?_ | refine zdn ?_ ?_) <;> (intro h; first | (exfalso; omega) | (simp only [h, decide_true, decide_false, not_false_eq_true]) | skip))
    | (refine end_ret [] ?_; simp [go_sem])
    | (refine stepK_is rfl (s1) (by simp) ?_)
    | (refine dstepK_is rfl (s1) rfl (by simp) ?_)
    | (refine stepK_is rfl (s2) (by simp) ?_)
    | (refine dstepK_is rfl (s2) rfl (by simp) ?_)
    | (refine stepK_is rfl (hA) (by simp) ?_)
    | (refine dstepK_is rfl (hA) rfl (by simp) ?_)
    | ((fail_if_success with_reducible (refine Owe.mk ?_)); (simp (disch := omega) [go_sem]))
    | (refine And.intro (by omega) ?_)
    | (refine awp_draw 14 mix (by decide +kernel) ?_)
    | (refine awp_draw 25 mix (by decide +kernel) ?_)
    | (refine nbI fun bq => ?_)
    | ((first | refine zqm ?_ ?_ | refine zgm ?_ ?_ | refine zdm ?_ ?_) <;> (intro h; simp only [h, Bool.not_true, Bool.not_false]))
    | ((first | refine zqs ?_ ?_ | refine zgs ?_ ?_ | refine zds ?_ ?_) <;> (intro h; first | (exfalso; simp at h; omega) | ((try simp only [h]); (try simp at h))))
    | fail)
    | true =>
      rw [h2] at s2
      obtain ⟨hl, hz⟩ := smallL_facts h1
      have hc := Sort_ok l false false (by omega) (fun t ht => by have := hz t ht; omega)
      have hr := refSortF_ok l false false (by omega)
      have ha := sort_asc l
      have hm := sort_mem l
      have hsl := sort_len l
      generalize sortT l = S at *
      have he := plainTerms_ok S S true false false false
      have he2 := plainTerms_ok S S true false true false
      rw [(eqL_iff S S).2 rfl] at he he2
      have hf := Find_ok S t ha true false
      have hg := refFind_ok S t true false
      have hcs := Sort_ok S true false (by omega) (fun t ht => by have := hz t ((hm t).1 ht); omega)
      rw [sort_self ha] at hcs
      have hlenT : True := trivial
      generalize fndT S t = ft at *
      refine acall_of_awp Try.func7 Try.call7 rfl (by simp [Try.ntmps7]) ?_; simp only [Try.ntmps7, Try.results7]
      repeat' (first
    | (refine awp_seqK (fun K hK => ?_))
    | (refine Hide.go (by assumption) ?_)
    | ((first | refine zqd ?_ ?_ | refine zqn ?_ ?_ | refine zgd ?_ ?_ | refine zgn ?_ ?_ | refine zdd ?_ ?_ | refine zdn ?_ ?_) <;> (intro h; first | (exfalso; omega) | (simp only [h, decide_true, decide_false, not_false_eq_true]) | skip))
    | (refine end_ret [] ?_; simp [go_sem, hlenT])
    | (refine stepK_is rfl (s1) (by simp) ?_)
    | (refine dstepK_is rfl (s1) rfl (by simp) ?_)
    | (refine stepK_is rfl (s2) (by simp) ?_)
    | (refine dstepK_is rfl (s2) rfl (by simp) ?_)
    | (refine stepK_is rfl (hc) (by simp) ?_)
    | (refine dstepK_is rfl (hc) rfl (by simp) ?_)
    | (refine stepK_is rfl (hr) (by simp) ?_)
    | (refine dstepK_is rfl (hr) rfl (by simp) ?_)
    | (refine stepK_is rfl (he) (by simp) ?_)
    | (refine dstepK_is rfl (he) rfl (by simp) ?_)
    | (refine stepK_is rfl (hf) (by simp) ?_)
    | (refine dstepK_is rfl (hf) rfl (by simp) ?_)
    | (refine stepK_is rfl (hg) (by simp) ?_)
    | (refine dstepK_is rfl (hg) rfl (by simp) ?_)
    | (refine stepK_is rfl (hA) (by simp) ?_)
    | (refine dstepK_is rfl (hA) rfl (by simp) ?_)
    | (refine stepK_is ?hl (s1) (by simp) ?_; (case hl => (simp [go_sem, hlenT]; done)))
    | (refine stepK_is ?hl (s2) (by simp) ?_; (case hl => (simp [go_sem, hlenT]; done)))
    | (refine stepK_is ?hl (hc) (by simp) ?_; (case hl => (simp [go_sem, hlenT]; done)))
    | (refine stepK_is ?hl (hr) (by simp) ?_; (case hl => (simp [go_sem, hlenT]; done)))
    | (refine stepK_is ?hl (he) (by simp) ?_; (case hl => (simp [go_sem, hlenT]; done)))
    | (refine stepK_is ?hl (hf) (by simp) ?_; (case hl => (simp [go_sem, hlenT]; done)))
    | (refine stepK_is ?hl (hg) (by simp) ?_; (case hl => (simp [go_sem, hlenT]; done)))
    | (refine stepK_is ?hl (hA) (by simp) ?_; (case hl => (simp [go_sem, hlenT]; done)))
    | (refine dstepK_is ?hl (s1) rfl (by simp) ?_; (case hl => (simp [go_sem, hlenT]; done)))
    | (refine dstepK_is ?hl (s2) rfl (by simp) ?_; (case hl => (simp [go_sem, hlenT]; done)))
    | (refine dstepK_is ?hl (hc) rfl (by simp) ?_; (case hl => (simp [go_sem, hlenT]; done)))
    | (refine dstepK_is ?hl (hr) rfl (by simp) ?_; (case hl => (simp [go_sem, hlenT]; done)))
    | (refine dstepK_is ?hl (he) rfl (by simp) ?_; (case hl => (simp [go_sem, hlenT]; done)))
    | (refine dstepK_is ?hl (hf) rfl (by simp) ?_; (case hl => (simp [go_sem, hlenT]; done)))
    | (refine dstepK_is ?hl (hg) rfl (by simp) ?_; (case hl => (simp [go_sem, hlenT]; done)))
    | (refine dstepK_is ?hl (hA) rfl (by simp) ?_; (case hl => (simp [go_sem, hlenT]; done)))
    | ((fail_if_success with_reducible (refine Owe.mk ?_)); (simp (disch := omega) [go_sem, hlenT]))
    | (refine And.intro (by omega) ?_)
    | (refine awp_draw 14 mix (by decide +kernel) ?_)
    | (refine awp_draw 25 mix (by decide +kernel) ?_)
    | (refine nbI fun bq => ?_)
    | ((first | refine zqm ?_ ?_ | refine zgm ?_ ?_ | refine zdm ?_ ?_) <;> (intro h; simp only [h, Bool.not_true, Bool.not_false]))
    | ((first | refine zqs ?_ ?_ | refine zgs ?_ ?_ | refine zds ?_ ?_) <;> (intro h; first | (exfalso; simp at h; omega) | ((try simp only [h]); (try simp at h))))
    | fail)
      refine awp_for [0, 5, 34] [] (fun i : Nat => [(35, nt .i64 i)]) (fun i : Nat => []) (fun i : Nat => S.length - i) (fun i : Nat => i ≤ S.length) (0) (Le.sub4 rfl (by simp [go_sem])) ⟨?_⟩ ?_
      · exact Nat.zero_le _
      intro i hi AA hAA; simp only [Go.Ab.keepT_nil, Go.Ab.keepT_cons, Go.Ab.dropO_nil, Go.Ab.dropO_cons, List.contains_cons, List.contains_nil, List.elem_cons, List.elem_nil, Nat.reduceBEq, beq_self_eq_true, Nat.reduceEqDiff, Bool.or_false, Bool.false_or, Bool.or_true, Bool.true_or, Bool.false_eq_true, if_true, if_false, List.cons_append, List.nil_append, List.append_nil]
      by_cases hlt : i < S.length
      · have hu := Find_ok S S[i] ha true false
        rw [fnd_self ha hlt] at hu
        by_cases h0 : i = 0
        · subst h0
          repeat' (first
    | (refine awp_seqK (fun K hK => ?_))
    | (refine Hide.go (by assumption) ?_)
    | ((first | refine zqd ?_ ?_ | refine zqn ?_ ?_ | refine zgd ?_ ?_ | refine zgn ?_ ?_ | refine zdd ?_ ?_ | refine zdn ?_ ?_) <;> (intro h; first | (exfalso; omega) | (simp only [h, decide_true, decide_false, not_false_eq_true]) | skip))
    | (refine end_ret [] ?_; simp [go_sem, hlt, hlenT])
    | (refine stepK_is rfl (hu) (by simp) ?_)
    | (refine dstepK_is rfl (hu) rfl (by simp) ?_)
    | (refine stepK_is ?hl (hu) (by simp) ?_; (case hl => (simp [go_sem, hlt, hlenT]; done)))
    | (refine dstepK_is ?hl (hu) rfl (by simp) ?_; (case hl => (simp [go_sem, hlt, hlenT]; done)))
    | (refine (hAA.next (0 + 1) (Le.sub4 rfl (by simp [go_sem])) (by (try dsimp only); omega) ?_))
    | ((fail_if_success with_reducible (refine Owe.mk ?_)); (simp (disch := omega) [go_sem, hlt, hlenT]))
    | (refine And.intro (by omega) ?_)
    | (refine awp_draw 14 mix (by decide +kernel) ?_)
    | (refine awp_draw 25 mix (by decide +kernel) ?_)
    | (refine nbI fun bq => ?_)
    | ((first | refine zqm ?_ ?_ | refine zgm ?_ ?_ | refine zdm ?_ ?_) <;> (intro h; simp only [h, Bool.not_true, Bool.not_false]))
    | ((first | refine zqs ?_ ?_ | refine zgs ?_ ?_ | refine zds ?_ ?_) <;> (intro h; first | (exfalso; simp at h; omega) | ((try simp only [h]); (try simp at h))))
    | fail)
          all_goals (first | omega | skip)
          exact ⟨hlt⟩
        · have h1 : i - 1 < S.length := by omega
          have e1 : ((i : Int) - 1).toNat = i - 1 := by omega
          have h0' : (0 : Int) < i := by omega
          have hcp := Compare_ok S[i - 1] S[i]
          have hneg : cmpT S[i - 1] S[i] = -1 := by
            have h2 := List.pairwise_iff_getElem.1 ha _ _ h1 hlt (by omega)
            have h3 := cmp_range S[i - 1] S[i]
            omega
          rw [hneg] at hcp
          repeat' (first
    | (refine awp_seqK (fun K hK => ?_))
    | (refine Hide.go (by assumption) ?_)
    | ((first | refine zqd ?_ ?_ | refine zqn ?_ ?_ | refine zgd ?_ ?_ | refine zgn ?_ ?_ | refine zdd ?_ ?_ | refine zdn ?_ ?_) <;> (intro h; first | (exfalso; omega) | (simp only [h, decide_true, decide_false, not_false_eq_true]) | skip))
    | (refine end_ret [] ?_; simp [go_sem, hlt, h1, e1, h0', hlenT])
    | (refine stepK_is rfl (hu) (by simp) ?_)
    | (refine dstepK_is rfl (hu) rfl (by simp) ?_)
    | (refine stepK_is rfl (hcp) (by simp) ?_)
    | (refine dstepK_is rfl (hcp) rfl (by simp) ?_)
    | (refine stepK_is ?hl (hu) (by simp) ?_; (case hl => (simp [go_sem, hlt, h1, e1, h0', hlenT]; done)))
    | (refine stepK_is ?hl (hcp) (by simp) ?_; (case hl => (simp [go_sem, hlt, h1, e1, h0', hlenT]; done)))
    | (refine dstepK_is ?hl (hu) rfl (by simp) ?_; (case hl => (simp [go_sem, hlt, h1, e1, h0', hlenT]; done)))
    | (refine dstepK_is ?hl (hcp) rfl (by simp) ?_; (case hl => (simp [go_sem, hlt, h1, e1, h0', hlenT]; done)))
    | (refine (hAA.next (i + 1) (Le.sub4 rfl (by simp [go_sem])) (by (try dsimp only); omega) ?_))
    | ((fail_if_success with_reducible (refine Owe.mk ?_)); (simp (disch := omega) [go_sem, hlt, h1, e1, h0', hlenT]))
    | (refine And.intro (by omega) ?_)
    | (refine awp_draw 14 mix (by decide +kernel) ?_)
    | (refine awp_draw 25 mix (by decide +kernel) ?_)
    | (refine nbI fun bq => ?_)
    | ((first | refine zqm ?_ ?_ | refine zgm ?_ ?_ | refine zdm ?_ ?_) <;> (intro h; simp only [h, Bool.not_true, Bool.not_false]))
    | ((first | refine zqs ?_ ?_ | refine zgs ?_ ?_ | refine zds ?_ ?_) <;> (intro h; first | (exfalso; simp at h; omega) | ((try simp only [h]); (try simp at h))))
    | fail)
          all_goals (first | omega | skip)
          exact ⟨hlt⟩
      · obtain rfl : i = S.length := by omega
        repeat' (first
    | (refine awp_seqK (fun K hK => ?_))
    | (refine Hide.go (by assumption) ?_)
    | ((first | refine zqd ?_ ?_ | refine zqn ?_ ?_ | refine zgd ?_ ?_ | refine zgn ?_ ?_ | refine zdd ?_ ?_ | refine zdn ?_ ?_) <;> (intro h; first | (exfalso; omega) | (simp only [h, decide_true, decide_false, not_false_eq_true]) | skip))
    | (refine end_ret [] ?_; simp [go_sem])
    | ((fail_if_success with_reducible (refine Owe.mk ?_)); (simp (disch := omega) [go_sem]))
    | (refine And.intro (by omega) ?_)
    | (refine awp_draw 14 mix (by decide +kernel) ?_)
    | (refine awp_draw 25 mix (by decide +kernel) ?_)
    | (refine nbI fun bq => ?_)
    | ((first | refine zqm ?_ ?_ | refine zgm ?_ ?_ | refine zdm ?_ ?_) <;> (intro h; simp only [h, Bool.not_true, Bool.not_false]))
    | ((first | refine zqs ?_ ?_ | refine zgs ?_ ?_ | refine zds ?_ ?_) <;> (intro h; first | (exfalso; simp at h; omega) | ((try simp only [h]); (try simp at h))))
    | fail)
        refine awp_for [0, 5, 65] [] (fun k : Nat => [(66, nt .i64 k)]) (fun k : Nat => []) (fun k : Nat => l.length - k) (fun k : Nat => k ≤ l.length) (0) (Le.sub4 rfl (by simp [go_sem])) ⟨?_⟩ ?_
        · exact Nat.zero_le _
        intro k hk AA hAA; simp only [Go.Ab.keepT_nil, Go.Ab.keepT_cons, Go.Ab.dropO_nil, Go.Ab.dropO_cons, List.contains_cons, List.contains_nil, List.elem_cons, List.elem_nil, Nat.reduceBEq, beq_self_eq_true, Nat.reduceEqDiff, Bool.or_false, Bool.false_or, Bool.or_true, Bool.true_or, Bool.false_eq_true, if_true, if_false, List.cons_append, List.nil_append, List.append_nil]
        by_cases hlk : k < l.length
        · have hu := Find_ok S l[k] ha true false
          have hn := fnd_mem ((hm l[k]).2 (List.getElem_mem hlk))
          generalize fndT S l[k] = f at *
          repeat' (first
    | (refine awp_seqK (fun K hK => ?_))
    | (refine Hide.go (by assumption) ?_)
    | ((first | refine zqd ?_ ?_ | refine zqn ?_ ?_ | refine zgd ?_ ?_ | refine zgn ?_ ?_ | refine zdd ?_ ?_ | refine zdn ?_ ?_) <;> (intro h; first | (exfalso; omega) | (simp only [h, decide_true, decide_false, not_false_eq_true]) | skip))
    | (refine end_ret [] ?_; simp [go_sem, hlk, hlenT, hn])
    | (refine stepK_is rfl (hu) (by simp) ?_)
    | (refine dstepK_is rfl (hu) rfl (by simp) ?_)
    | (refine stepK_is ?hl (hu) (by simp) ?_; (case hl => (simp [go_sem, hlk, hlenT, hn]; done)))
    | (refine dstepK_is ?hl (hu) rfl (by simp) ?_; (case hl => (simp [go_sem, hlk, hlenT, hn]; done)))
    | (refine (hAA.next (k + 1) (Le.sub4 rfl (by simp [go_sem])) (by (try dsimp only); omega) ?_))
    | ((fail_if_success with_reducible (refine Owe.mk ?_)); (simp (disch := omega) [go_sem, hlk, hlenT, hn]))
    | (refine And.intro (by omega) ?_)
    | (refine awp_draw 14 mix (by decide +kernel) ?_)
    | (refine awp_draw 25 mix (by decide +kernel) ?_)
    | (refine nbI fun bq => ?_)
    | ((first | refine zqm ?_ ?_ | refine zgm ?_ ?_ | refine zdm ?_ ?_) <;> (intro h; simp only [h, Bool.not_true, Bool.not_false]))
    | ((first | refine zqs ?_ ?_ | refine zgs ?_ ?_ | refine zds ?_ ?_) <;> (intro h; first | (exfalso; simp at h; omega) | ((try simp only [h]); (try simp at h))))
    | fail)
          all_goals (first | omega | skip)
          exact ⟨hlk⟩
        · obtain rfl : k = l.length := by omega
          repeat' (first
    | (refine awp_seqK (fun K hK => ?_))
    | (refine Hide.go (by assumption) ?_)
    | ((first | refine zqd ?_ ?_ | refine zqn ?_ ?_ | refine zgd ?_ ?_ | refine zgn ?_ ?_ | refine zdd ?_ ?_ | refine zdn ?_ ?_) <;> (intro h; first | (exfalso; omega) | (simp only [h, decide_true, decide_false, not_false_eq_true]) | skip))
    | (refine end_ret [] ?_; simp [go_sem, hlenT])
    | (refine stepK_is rfl (hcs) (by simp) ?_)
    | (refine dstepK_is rfl (hcs) rfl (by simp) ?_)
    | (refine stepK_is rfl (he2) (by simp) ?_)
    | (refine dstepK_is rfl (he2) rfl (by simp) ?_)
    | (refine stepK_is rfl (hA) (by simp) ?_)
    | (refine dstepK_is rfl (hA) rfl (by simp) ?_)
    | (refine stepK_is ?hl (hcs) (by simp) ?_; (case hl => (simp [go_sem, hlenT]; done)))
    | (refine stepK_is ?hl (he2) (by simp) ?_; (case hl => (simp [go_sem, hlenT]; done)))
    | (refine stepK_is ?hl (hA) (by simp) ?_; (case hl => (simp [go_sem, hlenT]; done)))
    | (refine dstepK_is ?hl (hcs) rfl (by simp) ?_; (case hl => (simp [go_sem, hlenT]; done)))
    | (refine dstepK_is ?hl (he2) rfl (by simp) ?_; (case hl => (simp [go_sem, hlenT]; done)))
    | (refine dstepK_is ?hl (hA) rfl (by simp) ?_; (case hl => (simp [go_sem, hlenT]; done)))
    | ((fail_if_success with_reducible (refine Owe.mk ?_)); (simp (disch := omega) [go_sem, hlenT]))
    | (refine And.intro (by omega) ?_)
    | (refine awp_draw 14 mix (by decide +kernel) ?_)
    | (refine awp_draw 25 mix (by decide +kernel) ?_)
    | (refine nbI fun bq => ?_)
    | ((first | refine zqm ?_ ?_ | refine zgm ?_ ?_ | refine zdm ?_ ?_) <;> (intro h; simp only [h, Bool.not_true, Bool.not_false]))
    | ((first | refine zqs ?_ ?_ | refine zgs ?_ ?_ | refine zds ?_ ?_) <;> (intro h; first | (exfalso; simp at h; omega) | ((try simp only [h]); (try simp at h))))
    | fail)
end Go.Proofs.Ytldecgghhaoliaa
