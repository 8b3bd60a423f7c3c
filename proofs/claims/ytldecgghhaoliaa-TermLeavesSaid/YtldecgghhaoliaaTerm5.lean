/-
  Term5: the reference's order of terms; equality of terms.
-/
import Derived.Test.YtldecgghhaoliaaTerm4
namespace Go.Proofs.Ytldecgghhaoliaa
open Go.Ab
set_option linter.unusedSimpArgs false
set_option maxRecDepth 100000
set_option maxHeartbeats 4000000
theorem refCompareList_of (ts us : List Tm) (l f l' f' : Bool) (h : ∀ t ∈ ts, ∀ u, ACall Try.prog 32 [eT t, eT u] (fun r => r = nt .i64 (cmpT t u))) :
    ACall Try.prog 30 [.list l f (ts.map eTm), .list l' f' (us.map eTm)] (fun r => r = nt .i64 (cmpL ts us)) := by
  refine ACall.bound (i := 0) rfl Try.call30 fun hb => ?_
  rw [List.length_map] at hb
  have hb : ts.length ≤ 140737488355328 := hb
  have ho := sign_ok ts.length us.length
  generalize hR : cmpL ts us = R
  refine acall_of_awp Try.func30 Try.call30 rfl (by simp [Try.ntmps30]) ?_; simp only [Try.ntmps30, Try.results30]
  repeat' (first
    | (refine awp_seqK (fun K hK => ?_))
    | (refine Hide.go (by assumption) ?_)
    | ((first | refine zqd ?_ ?_ | refine zqn ?_ ?_ | refine zgd ?_ ?_ | refine zgn ?_ ?_ | refine zdd ?_ ?_ | refine zdn ?_ ?_) <;> (intro h; first | (exfalso; omega) | (simp only [h, decide_true, decide_false, not_false_eq_true]) | skip))
    | (refine end_ret [] ?_; simp [go_sem])
    | ((fail_if_success with_reducible (refine Owe.mk ?_)); (simp (disch := omega) [go_sem]))
    | (refine And.intro (by omega) ?_)
    | (refine awp_draw 10 mix (by decide +kernel) ?_)
    | (refine nbI fun bq => ?_)
    | ((first | refine zqm ?_ ?_ | refine zgm ?_ ?_ | refine zdm ?_ ?_) <;> (intro h; simp only [h, Bool.not_true, Bool.not_false]))
    | ((first | refine zqs ?_ ?_ | refine zgs ?_ ?_ | refine zds ?_ ?_) <;> (intro h; first | (exfalso; simp at h; omega) | ((try simp only [h]); (try simp at h))))
    | fail)
  refine awp_for [0, 1] [] (fun i : Nat => [(5, nt .i64 i)]) (fun i : Nat => []) (fun i : Nat => ts.length - i) (fun i : Nat => i ≤ ts.length ∧ i ≤ us.length ∧ cmpL (ts.drop i) (us.drop i) = R) (0) (Le.sub4 rfl (by simp [go_sem])) ⟨?_⟩ ?_
  · exact ⟨Nat.zero_le _, Nat.zero_le _, by simpa using hR⟩
  intro i ⟨hi, hi2, hc⟩ AA hAA; simp only [Go.Ab.keepT_nil, Go.Ab.keepT_cons, Go.Ab.dropO_nil, Go.Ab.dropO_cons, List.contains_cons, List.contains_nil, List.elem_cons, List.elem_nil, Nat.reduceBEq, beq_self_eq_true, Nat.reduceEqDiff, Bool.or_false, Bool.false_or, Bool.or_true, Bool.true_or, Bool.false_eq_true, if_true, if_false, List.cons_append, List.nil_append, List.append_nil]
  by_cases h1 : i < ts.length
  · by_cases h2 : i < us.length
    · have hu := h ts[i] (List.getElem_mem h1) us[i]
      rw [List.drop_eq_getElem_cons h1, List.drop_eq_getElem_cons h2] at hc
      simp only [cmpL] at hc
      generalize cmpT ts[i] us[i] = c at *
      by_cases hz : c = 0
      · subst hz
        simp at hc
        repeat' (first
    | (refine awp_seqK (fun K hK => ?_))
    | (refine Hide.go (by assumption) ?_)
    | ((first | refine zqd ?_ ?_ | refine zqn ?_ ?_ | refine zgd ?_ ?_ | refine zgn ?_ ?_ | refine zdd ?_ ?_ | refine zdn ?_ ?_) <;> (intro h; first | (exfalso; omega) | (simp only [h, decide_true, decide_false, not_false_eq_true]) | skip))
    | (refine end_ret [] ?_; simp [go_sem, h1, h2])
    | (refine stepK_is rfl (hu) (by simp) ?_)
    | (refine dstepK_is rfl (hu) rfl (by simp) ?_)
    | (refine (hAA.next (i + 1) (Le.sub4 rfl (by simp [go_sem])) (by (try dsimp only); omega) ?_))
    | ((fail_if_success with_reducible (refine Owe.mk ?_)); (simp (disch := omega) [go_sem, h1, h2]))
    | (refine And.intro (by omega) ?_)
    | (refine awp_draw 10 mix (by decide +kernel) ?_)
    | (refine nbI fun bq => ?_)
    | ((first | refine zqm ?_ ?_ | refine zgm ?_ ?_ | refine zdm ?_ ?_) <;> (intro h; simp only [h, Bool.not_true, Bool.not_false]))
    | ((first | refine zqs ?_ ?_ | refine zgs ?_ ?_ | refine zds ?_ ?_) <;> (intro h; first | (exfalso; simp at h; omega) | ((try simp only [h]); (try simp at h))))
    | fail)
        exact ⟨⟨h1, h2, hc⟩⟩
      · simp only [ne_eq, hz, not_false_eq_true, if_true] at hc
        repeat' (first
    | (refine awp_seqK (fun K hK => ?_))
    | (refine Hide.go (by assumption) ?_)
    | ((first | refine zqd ?_ ?_ | refine zqn ?_ ?_ | refine zgd ?_ ?_ | refine zgn ?_ ?_ | refine zdd ?_ ?_ | refine zdn ?_ ?_) <;> (intro h; first | (exfalso; omega) | (simp only [h, decide_true, decide_false, not_false_eq_true]) | skip))
    | (refine end_ret [] ?_; simp [go_sem, h1, h2, hz, hc])
    | (refine stepK_is rfl (hu) (by simp) ?_)
    | (refine dstepK_is rfl (hu) rfl (by simp) ?_)
    | ((fail_if_success with_reducible (refine Owe.mk ?_)); (simp (disch := omega) [go_sem, h1, h2, hz, hc]))
    | (refine And.intro (by omega) ?_)
    | (refine awp_draw 10 mix (by decide +kernel) ?_)
    | (refine nbI fun bq => ?_)
    | ((first | refine zqm ?_ ?_ | refine zgm ?_ ?_ | refine zdm ?_ ?_) <;> (intro h; simp only [h, Bool.not_true, Bool.not_false]))
    | ((first | refine zqs ?_ ?_ | refine zgs ?_ ?_ | refine zds ?_ ?_) <;> (intro h; first | (exfalso; simp at h; omega) | ((try simp only [h]); (try simp at h))))
    | fail)
    · have e1 : us.drop i = [] := List.drop_of_length_le (by omega)
      rw [List.drop_eq_getElem_cons h1, e1] at hc
      simp only [cmpL] at hc
      have e2 : ord ts.length us.length = 1 := by unfold ord; rw [if_neg (by omega), if_pos (by omega)]
      rw [e2] at ho
      repeat' (first
    | (refine awp_seqK (fun K hK => ?_))
    | (refine Hide.go (by assumption) ?_)
    | ((first | refine zqd ?_ ?_ | refine zqn ?_ ?_ | refine zgd ?_ ?_ | refine zgn ?_ ?_ | refine zdd ?_ ?_ | refine zdn ?_ ?_) <;> (intro h; first | (exfalso; omega) | (simp only [h, decide_true, decide_false, not_false_eq_true]) | skip))
    | (refine end_ret [] ?_; simp [go_sem, h1, h2, hc])
    | (refine stepK_is rfl (ho) (by simp) ?_)
    | (refine dstepK_is rfl (ho) rfl (by simp) ?_)
    | ((fail_if_success with_reducible (refine Owe.mk ?_)); (simp (disch := omega) [go_sem, h1, h2, hc]))
    | (refine And.intro (by omega) ?_)
    | (refine awp_draw 10 mix (by decide +kernel) ?_)
    | (refine nbI fun bq => ?_)
    | ((first | refine zqm ?_ ?_ | refine zgm ?_ ?_ | refine zdm ?_ ?_) <;> (intro h; simp only [h, Bool.not_true, Bool.not_false]))
    | ((first | refine zqs ?_ ?_ | refine zgs ?_ ?_ | refine zds ?_ ?_) <;> (intro h; first | (exfalso; simp at h; omega) | ((try simp only [h]); (try simp at h))))
    | fail)
  · have e1 : ts.drop i = [] := List.drop_of_length_le (by omega)
    by_cases h2 : i < us.length
    · rw [List.drop_eq_getElem_cons h2, e1] at hc
      simp only [cmpL] at hc
      have e2 : ord ts.length us.length = -1 := by unfold ord; rw [if_pos (by omega)]
      rw [e2] at ho
      repeat' (first
    | (refine awp_seqK (fun K hK => ?_))
    | (refine Hide.go (by assumption) ?_)
    | ((first | refine zqd ?_ ?_ | refine zqn ?_ ?_ | refine zgd ?_ ?_ | refine zgn ?_ ?_ | refine zdd ?_ ?_ | refine zdn ?_ ?_) <;> (intro h; first | (exfalso; omega) | (simp only [h, decide_true, decide_false, not_false_eq_true]) | skip))
    | (refine end_ret [] ?_; simp [go_sem, h1, h2, hc])
    | (refine stepK_is rfl (ho) (by simp) ?_)
    | (refine dstepK_is rfl (ho) rfl (by simp) ?_)
    | ((fail_if_success with_reducible (refine Owe.mk ?_)); (simp (disch := omega) [go_sem, h1, h2, hc]))
    | (refine And.intro (by omega) ?_)
    | (refine awp_draw 10 mix (by decide +kernel) ?_)
    | (refine nbI fun bq => ?_)
    | ((first | refine zqm ?_ ?_ | refine zgm ?_ ?_ | refine zdm ?_ ?_) <;> (intro h; simp only [h, Bool.not_true, Bool.not_false]))
    | ((first | refine zqs ?_ ?_ | refine zgs ?_ ?_ | refine zds ?_ ?_) <;> (intro h; first | (exfalso; simp at h; omega) | ((try simp only [h]); (try simp at h))))
    | fail)
    · have e3 : us.drop i = [] := List.drop_of_length_le (by omega)
      rw [e1, e3] at hc
      simp only [cmpL] at hc
      have e2 : ord ts.length us.length = 0 := by unfold ord; rw [if_neg (by omega), if_neg (by omega)]
      rw [e2] at ho
      repeat' (first
    | (refine awp_seqK (fun K hK => ?_))
    | (refine Hide.go (by assumption) ?_)
    | ((first | refine zqd ?_ ?_ | refine zqn ?_ ?_ | refine zgd ?_ ?_ | refine zgn ?_ ?_ | refine zdd ?_ ?_ | refine zdn ?_ ?_) <;> (intro h; first | (exfalso; omega) | (simp only [h, decide_true, decide_false, not_false_eq_true]) | skip))
    | (refine end_ret [] ?_; simp [go_sem, h1, h2, hc])
    | (refine stepK_is rfl (ho) (by simp) ?_)
    | (refine dstepK_is rfl (ho) rfl (by simp) ?_)
    | ((fail_if_success with_reducible (refine Owe.mk ?_)); (simp (disch := omega) [go_sem, h1, h2, hc]))
    | (refine And.intro (by omega) ?_)
    | (refine awp_draw 10 mix (by decide +kernel) ?_)
    | (refine nbI fun bq => ?_)
    | ((first | refine zqm ?_ ?_ | refine zgm ?_ ?_ | refine zdm ?_ ?_) <;> (intro h; simp only [h, Bool.not_true, Bool.not_false]))
    | ((first | refine zqs ?_ ?_ | refine zgs ?_ ?_ | refine zds ?_ ?_) <;> (intro h; first | (exfalso; simp at h; omega) | ((try simp only [h]); (try simp at h))))
    | fail)
theorem class_ok (t : Tm) : ACall Try.prog 58 [eT t] (fun r => r = nt .i64 (kd t).1) := by
  have h1 := refIsNumber_ok t.name
  have h2 := refVariable_ok t.name
  unfold kd
  generalize (numS t.name).2 = b at *
  generalize varS t.name = c at *
  by_cases h0 : 0 < t.args.length
  · rw [if_pos h0]
    have h0' : (0 : Int) < t.args.length := by omega
    refine acall_of_awp Try.func58 Try.call58 rfl (by simp [Try.ntmps58]) ?_; simp only [Try.ntmps58, Try.results58]
    repeat' (first
    | (refine awp_seqK (fun K hK => ?_))
    | (refine Hide.go (by assumption) ?_)
    | ((first | refine zqd ?_ ?_ | refine zqn ?_ ?_ | refine zgd ?_ ?_ | refine zgn ?_ ?_ | refine zdd ?_ ?_ | refine zdn ?_ ?_) <;> (intro h; first | (exfalso; omega) | (simp only [h, decide_true, decide_false, not_false_eq_true]) | skip))
    | (refine end_ret [] ?_; simp [go_sem, h0])
    | ((fail_if_success with_reducible (refine Owe.mk ?_)); (simp (disch := omega) [go_sem, h0]))
    | (refine And.intro (by omega) ?_)
    | (refine nbI fun bq => ?_)
    | ((first | refine zqm ?_ ?_ | refine zgm ?_ ?_ | refine zdm ?_ ?_) <;> (intro h; simp only [h, Bool.not_true, Bool.not_false]))
    | ((first | refine zqs ?_ ?_ | refine zgs ?_ ?_ | refine zds ?_ ?_) <;> (intro h; first | (exfalso; simp at h; omega) | ((try simp only [h]); (try simp at h))))
    | fail)
  · rw [if_neg h0]
    cases b
    · cases c
      · refine acall_of_awp Try.func58 Try.call58 rfl (by simp [Try.ntmps58]) ?_; simp only [Try.ntmps58, Try.results58]
        repeat' (first
    | (refine awp_seqK (fun K hK => ?_))
    | (refine Hide.go (by assumption) ?_)
    | ((first | refine zqd ?_ ?_ | refine zqn ?_ ?_ | refine zgd ?_ ?_ | refine zgn ?_ ?_ | refine zdd ?_ ?_ | refine zdn ?_ ?_) <;> (intro h; first | (exfalso; omega) | (simp only [h, decide_true, decide_false, not_false_eq_true]) | skip))
    | (refine end_ret [] ?_; simp [go_sem, h0])
    | (refine stepK_is rfl (h1) (by simp) ?_)
    | (refine dstepK_is rfl (h1) rfl (by simp) ?_)
    | (refine stepK_is rfl (h2) (by simp) ?_)
    | (refine dstepK_is rfl (h2) rfl (by simp) ?_)
    | ((fail_if_success with_reducible (refine Owe.mk ?_)); (simp (disch := omega) [go_sem, h0]))
    | (refine And.intro (by omega) ?_)
    | (refine nbI fun bq => ?_)
    | ((first | refine zqm ?_ ?_ | refine zgm ?_ ?_ | refine zdm ?_ ?_) <;> (intro h; simp only [h, Bool.not_true, Bool.not_false]))
    | ((first | refine zqs ?_ ?_ | refine zgs ?_ ?_ | refine zds ?_ ?_) <;> (intro h; first | (exfalso; simp at h; omega) | ((try simp only [h]); (try simp at h))))
    | fail)
      · refine acall_of_awp Try.func58 Try.call58 rfl (by simp [Try.ntmps58]) ?_; simp only [Try.ntmps58, Try.results58]
        repeat' (first
    | (refine awp_seqK (fun K hK => ?_))
    | (refine Hide.go (by assumption) ?_)
    | ((first | refine zqd ?_ ?_ | refine zqn ?_ ?_ | refine zgd ?_ ?_ | refine zgn ?_ ?_ | refine zdd ?_ ?_ | refine zdn ?_ ?_) <;> (intro h; first | (exfalso; omega) | (simp only [h, decide_true, decide_false, not_false_eq_true]) | skip))
    | (refine end_ret [] ?_; simp [go_sem, h0])
    | (refine stepK_is rfl (h1) (by simp) ?_)
    | (refine dstepK_is rfl (h1) rfl (by simp) ?_)
    | (refine stepK_is rfl (h2) (by simp) ?_)
    | (refine dstepK_is rfl (h2) rfl (by simp) ?_)
    | ((fail_if_success with_reducible (refine Owe.mk ?_)); (simp (disch := omega) [go_sem, h0]))
    | (refine And.intro (by omega) ?_)
    | (refine nbI fun bq => ?_)
    | ((first | refine zqm ?_ ?_ | refine zgm ?_ ?_ | refine zdm ?_ ?_) <;> (intro h; simp only [h, Bool.not_true, Bool.not_false]))
    | ((first | refine zqs ?_ ?_ | refine zgs ?_ ?_ | refine zds ?_ ?_) <;> (intro h; first | (exfalso; simp at h; omega) | ((try simp only [h]); (try simp at h))))
    | fail)
    · refine acall_of_awp Try.func58 Try.call58 rfl (by simp [Try.ntmps58]) ?_; simp only [Try.ntmps58, Try.results58]
      repeat' (first
    | (refine awp_seqK (fun K hK => ?_))
    | (refine Hide.go (by assumption) ?_)
    | ((first | refine zqd ?_ ?_ | refine zqn ?_ ?_ | refine zgd ?_ ?_ | refine zgn ?_ ?_ | refine zdd ?_ ?_ | refine zdn ?_ ?_) <;> (intro h; first | (exfalso; omega) | (simp only [h, decide_true, decide_false, not_false_eq_true]) | skip))
    | (refine end_ret [] ?_; simp [go_sem, h0])
    | (refine stepK_is rfl (h1) (by simp) ?_)
    | (refine dstepK_is rfl (h1) rfl (by simp) ?_)
    | (refine stepK_is rfl (h2) (by simp) ?_)
    | (refine dstepK_is rfl (h2) rfl (by simp) ?_)
    | ((fail_if_success with_reducible (refine Owe.mk ?_)); (simp (disch := omega) [go_sem, h0]))
    | (refine And.intro (by omega) ?_)
    | (refine nbI fun bq => ?_)
    | ((first | refine zqm ?_ ?_ | refine zgm ?_ ?_ | refine zdm ?_ ?_) <;> (intro h; simp only [h, Bool.not_true, Bool.not_false]))
    | ((first | refine zqs ?_ ?_ | refine zgs ?_ ?_ | refine zds ?_ ?_) <;> (intro h; first | (exfalso; simp at h; omega) | ((try simp only [h]); (try simp at h))))
    | fail)
theorem value_ok (s : ByteArray) : ACall Try.prog 59 [.sc (.string s)] (fun r => r = nt .i64 (numS s).1) := by
  have hc := refNumber_ok s
  generalize numS s = q at *
  obtain ⟨v, b⟩ := q
  dsimp only at *
  refine acall_of_awp Try.func59 Try.call59 rfl (by simp [Try.ntmps59]) ?_; simp only [Try.ntmps59, Try.results59]
  repeat' (first
    | (refine awp_seqK (fun K hK => ?_))
    | (refine Hide.go (by assumption) ?_)
    | ((first | refine zqd ?_ ?_ | refine zqn ?_ ?_ | refine zgd ?_ ?_ | refine zgn ?_ ?_ | refine zdd ?_ ?_ | refine zdn ?_ ?_) <;> (intro h; first | (exfalso; omega) | (simp only [h, decide_true, decide_false, not_false_eq_true]) | skip))
    | (refine end_ret [] ?_; simp [go_sem])
    | (refine stepK_is rfl (hc) (by simp) ?_)
    | (refine dstepK_is rfl (hc) rfl (by simp) ?_)
    | ((fail_if_success with_reducible (refine Owe.mk ?_)); (simp (disch := omega) [go_sem]))
    | (refine And.intro (by omega) ?_)
    | (refine nbI fun bq => ?_)
    | ((first | refine zqm ?_ ?_ | refine zgm ?_ ?_ | refine zdm ?_ ?_) <;> (intro h; simp only [h, Bool.not_true, Bool.not_false]))
    | ((first | refine zqs ?_ ?_ | refine zgs ?_ ?_ | refine zds ?_ ?_) <;> (intro h; first | (exfalso; simp at h; omega) | ((try simp only [h]); (try simp at h))))
    | fail)
theorem kd_cases (t : Tm) : (t.args = [] ∧ (numS t.name).2 = true ∧ kd t = (0, (numS t.name).1, 0, ByteArray.mk #[])) ∨ ((kd t).1 ≠ 0 ∧ kd t = ((kd t).1, 0, (t.args.length : Int), t.name)) := by
  unfold kd
  by_cases h0 : 0 < t.args.length
  · rw [if_pos h0]; right; simp
  · rw [if_neg h0]
    have e : t.args = [] := List.eq_nil_of_length_eq_zero (by omega)
    by_cases h1 : (numS t.name).2 = true
    · rw [if_pos h1]; left; exact ⟨e, h1, rfl⟩
    · rw [if_neg h1]
      split <;> (right; simp [e])
theorem refCompare_ok : ∀ a b : Tm, ACall Try.prog 32 [eT a, eT b] (fun r => r = nt .i64 (cmpT a b)) := by
  refine tm_ind fun a ih b => ?_
  have h1 := class_ok a
  have h2 := class_ok b
  have ho1 := sign_ok (kd a).1 (kd b).1
  rw [cmpT_eq]
  by_cases q1 : (kd a).1 = (kd b).1
  · have e1 : ord (kd a).1 (kd b).1 = 0 := by unfold ord; rw [if_neg (by omega), if_neg (by omega)]
    rw [e1] at ho1
    rcases kd_cases a with ⟨a1, a2, a3⟩ | ⟨a1, a2⟩
    · rcases kd_cases b with ⟨b1, b2, b3⟩ | ⟨b1, b2⟩
      · have hv1 := value_ok a.name
        have hv2 := value_ok b.name
        have ho2 := sign_ok (numS a.name).1 (numS b.name).1
        rw [a3] at h1 ho1 ⊢
        rw [b3] at h2 ho1 ⊢
        rw [a1, b1]
        dsimp only at *
        generalize (numS a.name).1 = u at *
        generalize (numS b.name).1 = v at *
        have e : (if ((0 : Int), u, (0 : Int), ByteArray.mk #[]) = (0, v, 0, ByteArray.mk #[]) then cmpL [] [] else if (0 : Int) ≠ 0 then ord 0 0 else if u ≠ v then ord u v else if (0 : Int) ≠ 0 then ord 0 0 else strC (ByteArray.mk #[]) (ByteArray.mk #[])) = ord u v := by
          by_cases h : u = v
          · subst h; simp [cmpL, ord]
          · simp [h]
        rw [e]
        generalize ord u v = o at *
        clear a1 b1 a2 b2 a3 b3 ih
        refine acall_of_awp Try.func32 Try.call32 rfl (by simp [Try.ntmps32]) ?_; simp only [Try.ntmps32, Try.results32]
        repeat' (first
    | (refine awp_seqK (fun K hK => ?_))
    | (refine Hide.go (by assumption) ?_)
    | ((first | refine zqd ?_ ?_ | refine zqn ?_ ?_ | refine zgd ?_ ?_ | refine zgn ?_ ?_ | refine zdd ?_ ?_ | refine zdn ?_ ?_) <;> (intro h; first | (exfalso; omega) | (simp only [h, decide_true, decide_false, not_false_eq_true]) | skip))
    | (refine end_ret [] ?_; simp [go_sem])
    | (refine stepK_is rfl (h1) (by simp) ?_)
    | (refine dstepK_is rfl (h1) rfl (by simp) ?_)
    | (refine stepK_is rfl (h2) (by simp) ?_)
    | (refine dstepK_is rfl (h2) rfl (by simp) ?_)
    | (refine stepK_is rfl (ho1) (by simp) ?_)
    | (refine dstepK_is rfl (ho1) rfl (by simp) ?_)
    | (refine stepK_is rfl (hv1) (by simp) ?_)
    | (refine dstepK_is rfl (hv1) rfl (by simp) ?_)
    | (refine stepK_is rfl (hv2) (by simp) ?_)
    | (refine dstepK_is rfl (hv2) rfl (by simp) ?_)
    | (refine stepK_is rfl (ho2) (by simp) ?_)
    | (refine dstepK_is rfl (ho2) rfl (by simp) ?_)
    | ((fail_if_success with_reducible (refine Owe.mk ?_)); (simp (disch := omega) [go_sem]))
    | (refine And.intro (by omega) ?_)
    | (refine awp_draw 6 mix (by decide +kernel) ?_)
    | (refine awp_draw 8 mix (by decide +kernel) ?_)
    | (refine nbI fun bq => ?_)
    | ((first | refine zqm ?_ ?_ | refine zgm ?_ ?_ | refine zdm ?_ ?_) <;> (intro h; simp only [h, Bool.not_true, Bool.not_false]))
    | ((first | refine zqs ?_ ?_ | refine zgs ?_ ?_ | refine zds ?_ ?_) <;> (intro h; first | (exfalso; simp at h; omega) | ((try simp only [h]); (try simp at h))))
    | fail)
      · exact absurd (by rw [← q1, a3]) b1
    · rcases kd_cases b with ⟨b1, b2, b3⟩ | ⟨b1, b2⟩
      · exact absurd (by rw [q1, b3]) a1
      · have h3 := refCompareList_of a.args b.args false false false false ih
        have ho2 := sign_ok a.args.length b.args.length
        have ho3 := refStrings_ok a.name b.name
        have hz := strC_zero (a := a.name) (b := b.name)
        generalize cmpL a.args b.args = w at *
        rw [a2, b2]
        dsimp only
        rw [← q1] at h2 ho1 ⊢
        generalize (kd a).1 = k at *
        clear a2 b2 ih
        by_cases q2 : (a.args.length : Int) = b.args.length
        · by_cases q3 : a.name = b.name
          · have q4 : strC a.name b.name = 0 := hz.2 q3
            rw [q4] at ho3
            simp only [q2, q3, if_true]
            refine acall_of_awp Try.func32 Try.call32 rfl (by simp [Try.ntmps32]) ?_; simp only [Try.ntmps32, Try.results32]
            repeat' (first
    | (refine awp_seqK (fun K hK => ?_))
    | (refine Hide.go (by assumption) ?_)
    | ((first | refine zqd ?_ ?_ | refine zqn ?_ ?_ | refine zgd ?_ ?_ | refine zgn ?_ ?_ | refine zdd ?_ ?_ | refine zdn ?_ ?_) <;> (intro h; first | (exfalso; omega) | (simp only [h, decide_true, decide_false, not_false_eq_true]) | skip))
    | (refine end_ret [] ?_; simp [go_sem, a1, q2])
    | (refine stepK_is rfl (h1) (by simp) ?_)
    | (refine dstepK_is rfl (h1) rfl (by simp) ?_)
    | (refine stepK_is rfl (h2) (by simp) ?_)
    | (refine dstepK_is rfl (h2) rfl (by simp) ?_)
    | (refine stepK_is rfl (ho1) (by simp) ?_)
    | (refine dstepK_is rfl (ho1) rfl (by simp) ?_)
    | (refine stepK_is rfl (ho3) (by simp) ?_)
    | (refine dstepK_is rfl (ho3) rfl (by simp) ?_)
    | (refine stepK_is rfl (h3) (by simp) ?_)
    | (refine dstepK_is rfl (h3) rfl (by simp) ?_)
    | ((fail_if_success with_reducible (refine Owe.mk ?_)); (simp (disch := omega) [go_sem, a1, q2]))
    | (refine And.intro (by omega) ?_)
    | (refine awp_draw 6 mix (by decide +kernel) ?_)
    | (refine awp_draw 8 mix (by decide +kernel) ?_)
    | (refine nbI fun bq => ?_)
    | ((first | refine zqm ?_ ?_ | refine zgm ?_ ?_ | refine zdm ?_ ?_) <;> (intro h; simp only [h, Bool.not_true, Bool.not_false]))
    | ((first | refine zqs ?_ ?_ | refine zgs ?_ ?_ | refine zds ?_ ?_) <;> (intro h; first | (exfalso; simp at h; omega) | ((try simp only [h]); (try simp at h))))
    | fail)
          · have q4 : strC a.name b.name ≠ 0 := fun h => q3 (hz.1 h)
            have e : (if (k, (0 : Int), (a.args.length : Int), a.name) = (k, 0, (b.args.length : Int), b.name) then w else if k ≠ k then ord k k else if (0 : Int) ≠ 0 then ord 0 0 else if (a.args.length : Int) ≠ b.args.length then ord a.args.length b.args.length else strC a.name b.name) = strC a.name b.name := by
              simp [q2, q3]
            rw [e]
            generalize strC a.name b.name = o at *
            refine acall_of_awp Try.func32 Try.call32 rfl (by simp [Try.ntmps32]) ?_; simp only [Try.ntmps32, Try.results32]
            repeat' (first
    | (refine awp_seqK (fun K hK => ?_))
    | (refine Hide.go (by assumption) ?_)
    | ((first | refine zqd ?_ ?_ | refine zqn ?_ ?_ | refine zgd ?_ ?_ | refine zgn ?_ ?_ | refine zdd ?_ ?_ | refine zdn ?_ ?_) <;> (intro h; first | (exfalso; omega) | (simp only [h, decide_true, decide_false, not_false_eq_true]) | skip))
    | (refine end_ret [] ?_; simp [go_sem, a1, q2, q4])
    | (refine stepK_is rfl (h1) (by simp) ?_)
    | (refine dstepK_is rfl (h1) rfl (by simp) ?_)
    | (refine stepK_is rfl (h2) (by simp) ?_)
    | (refine dstepK_is rfl (h2) rfl (by simp) ?_)
    | (refine stepK_is rfl (ho1) (by simp) ?_)
    | (refine dstepK_is rfl (ho1) rfl (by simp) ?_)
    | (refine stepK_is rfl (ho3) (by simp) ?_)
    | (refine dstepK_is rfl (ho3) rfl (by simp) ?_)
    | (refine stepK_is rfl (h3) (by simp) ?_)
    | (refine dstepK_is rfl (h3) rfl (by simp) ?_)
    | ((fail_if_success with_reducible (refine Owe.mk ?_)); (simp (disch := omega) [go_sem, a1, q2, q4]))
    | (refine And.intro (by omega) ?_)
    | (refine awp_draw 6 mix (by decide +kernel) ?_)
    | (refine awp_draw 8 mix (by decide +kernel) ?_)
    | (refine nbI fun bq => ?_)
    | ((first | refine zqm ?_ ?_ | refine zgm ?_ ?_ | refine zdm ?_ ?_) <;> (intro h; simp only [h, Bool.not_true, Bool.not_false]))
    | ((first | refine zqs ?_ ?_ | refine zgs ?_ ?_ | refine zds ?_ ?_) <;> (intro h; first | (exfalso; simp at h; omega) | ((try simp only [h]); (try simp at h))))
    | fail)
        · have e : (if (k, (0 : Int), (a.args.length : Int), a.name) = (k, 0, (b.args.length : Int), b.name) then w else if k ≠ k then ord k k else if (0 : Int) ≠ 0 then ord 0 0 else if (a.args.length : Int) ≠ b.args.length then ord a.args.length b.args.length else strC a.name b.name) = ord a.args.length b.args.length := by
            simp [q2]
          rw [e]
          generalize ord a.args.length b.args.length = o at *
          refine acall_of_awp Try.func32 Try.call32 rfl (by simp [Try.ntmps32]) ?_; simp only [Try.ntmps32, Try.results32]
          repeat' (first
    | (refine awp_seqK (fun K hK => ?_))
    | (refine Hide.go (by assumption) ?_)
    | ((first | refine zqd ?_ ?_ | refine zqn ?_ ?_ | refine zgd ?_ ?_ | refine zgn ?_ ?_ | refine zdd ?_ ?_ | refine zdn ?_ ?_) <;> (intro h; first | (exfalso; omega) | (simp only [h, decide_true, decide_false, not_false_eq_true]) | skip))
    | (refine end_ret [] ?_; simp [go_sem, a1, q2])
    | (refine stepK_is rfl (h1) (by simp) ?_)
    | (refine dstepK_is rfl (h1) rfl (by simp) ?_)
    | (refine stepK_is rfl (h2) (by simp) ?_)
    | (refine dstepK_is rfl (h2) rfl (by simp) ?_)
    | (refine stepK_is rfl (ho1) (by simp) ?_)
    | (refine dstepK_is rfl (ho1) rfl (by simp) ?_)
    | (refine stepK_is rfl (ho2) (by simp) ?_)
    | (refine dstepK_is rfl (ho2) rfl (by simp) ?_)
    | ((fail_if_success with_reducible (refine Owe.mk ?_)); (simp (disch := omega) [go_sem, a1, q2]))
    | (refine And.intro (by omega) ?_)
    | (refine awp_draw 6 mix (by decide +kernel) ?_)
    | (refine awp_draw 8 mix (by decide +kernel) ?_)
    | (refine nbI fun bq => ?_)
    | ((first | refine zqm ?_ ?_ | refine zgm ?_ ?_ | refine zdm ?_ ?_) <;> (intro h; simp only [h, Bool.not_true, Bool.not_false]))
    | ((first | refine zqs ?_ ?_ | refine zgs ?_ ?_ | refine zds ?_ ?_) <;> (intro h; first | (exfalso; simp at h; omega) | ((try simp only [h]); (try simp at h))))
    | fail)
  · have e1 : ord (kd a).1 (kd b).1 ≠ 0 := by unfold ord; split <;> (try split) <;> omega
    have e : (if kd a = kd b then cmpL a.args b.args else if (kd a).1 ≠ (kd b).1 then ord (kd a).1 (kd b).1 else if (kd a).2.1 ≠ (kd b).2.1 then ord (kd a).2.1 (kd b).2.1 else if (kd a).2.2.1 ≠ (kd b).2.2.1 then ord (kd a).2.2.1 (kd b).2.2.1 else strC (kd a).2.2.2 (kd b).2.2.2) = ord (kd a).1 (kd b).1 := by
      rw [if_neg (fun h => q1 (by rw [h])), if_pos q1]
    rw [e]
    generalize ord (kd a).1 (kd b).1 = o at *
    generalize (kd a).1 = x at *
    generalize (kd b).1 = y at *
    refine acall_of_awp Try.func32 Try.call32 rfl (by simp [Try.ntmps32]) ?_; simp only [Try.ntmps32, Try.results32]
    repeat' (first
    | (refine awp_seqK (fun K hK => ?_))
    | (refine Hide.go (by assumption) ?_)
    | ((first | refine zqd ?_ ?_ | refine zqn ?_ ?_ | refine zgd ?_ ?_ | refine zgn ?_ ?_ | refine zdd ?_ ?_ | refine zdn ?_ ?_) <;> (intro h; first | (exfalso; omega) | (simp only [h, decide_true, decide_false, not_false_eq_true]) | skip))
    | (refine end_ret [] ?_; simp [go_sem, e1])
    | (refine stepK_is rfl (h1) (by simp) ?_)
    | (refine dstepK_is rfl (h1) rfl (by simp) ?_)
    | (refine stepK_is rfl (h2) (by simp) ?_)
    | (refine dstepK_is rfl (h2) rfl (by simp) ?_)
    | (refine stepK_is rfl (ho1) (by simp) ?_)
    | (refine dstepK_is rfl (ho1) rfl (by simp) ?_)
    | ((fail_if_success with_reducible (refine Owe.mk ?_)); (simp (disch := omega) [go_sem, e1]))
    | (refine And.intro (by omega) ?_)
    | (refine awp_draw 6 mix (by decide +kernel) ?_)
    | (refine awp_draw 8 mix (by decide +kernel) ?_)
    | (refine nbI fun bq => ?_)
    | ((first | refine zqm ?_ ?_ | refine zgm ?_ ?_ | refine zdm ?_ ?_) <;> (intro h; simp only [h, Bool.not_true, Bool.not_false]))
    | ((first | refine zqs ?_ ?_ | refine zgs ?_ ?_ | refine zds ?_ ?_) <;> (intro h; first | (exfalso; simp at h; omega) | ((try simp only [h]); (try simp at h))))
    | fail)
theorem refCompareList_ok (ts us : List Tm) (l f l' f' : Bool) : ACall Try.prog 30 [.list l f (ts.map eTm), .list l' f' (us.map eTm)] (fun r => r = nt .i64 (cmpL ts us)) :=
  refCompareList_of ts us l f l' f' fun t _ u => refCompare_ok t u
end Go.Proofs.Ytldecgghhaoliaa
