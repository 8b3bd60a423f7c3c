/-
  Term4: the order of terms.
-/
import Derived.Test.YtldecgghhaoliaaTerm3
import Derived.Test.YtldecgghhaoliaaStr
namespace Go.Proofs.Ytldecgghhaoliaa
open Go.Ab
set_option linter.unusedSimpArgs false
set_option maxRecDepth 100000
set_option maxHeartbeats 4000000
def ord (a b : Int) : Int := if a < b then -1 else if b < a then 1 else 0
theorem order_ok (a b : Int) : ACall Try.prog 54 [nt .i64 a, nt .i64 b] (fun r => r = nt .i64 (ord a b)) := by
  unfold ord
  refine acall_of_awp Try.func54 Try.call54 rfl (by simp [Try.ntmps54]) ?_; simp only [Try.ntmps54, Try.results54]
  repeat' (first
    | (refine awp_seqK (fun K hK => ?_))
    | (refine Hide.go (by assumption) ?_)
    | ((first | refine zqd ?_ ?_ | refine zqn ?_ ?_ | refine zgd ?_ ?_ | refine zgn ?_ ?_ | refine zdd ?_ ?_ | refine zdn ?_ ?_) <;> (intro h; first | (exfalso; omega) | (simp only [h, decide_true, decide_false, not_false_eq_true]) | skip))
    | (refine end_ret [] ?_; simp [go_sem])
    | ((fail_if_success with_reducible (refine Owe.mk ?_)); (simp (disch := omega) [go_sem]))
    | (refine And.intro (by omega) ?_)
    | (refine nbI fun bq => ?_)
    | ((first | refine zqm ?_ ?_ | refine zgm ?_ ?_ | refine zdm ?_ ?_) <;> (intro h; simp only [h, Bool.not_true, Bool.not_false]))
    | ((first | refine zqs ?_ ?_ | refine zgs ?_ ?_ | refine zds ?_ ?_) <;> (intro h; first | (exfalso; simp at h; omega) | ((try simp only [h]); (try simp at h))))
    | fail)
  all_goals (first | omega | simp [*])
theorem sign_ok (a b : Int) : ACall Try.prog 55 [nt .i64 a, nt .i64 b] (fun r => r = nt .i64 (ord a b)) := by
  unfold ord
  refine acall_of_awp Try.func55 Try.call55 rfl (by simp [Try.ntmps55]) ?_; simp only [Try.ntmps55, Try.results55]
  repeat' (first
    | (refine awp_seqK (fun K hK => ?_))
    | (refine Hide.go (by assumption) ?_)
    | ((first | refine zqd ?_ ?_ | refine zqn ?_ ?_ | refine zgd ?_ ?_ | refine zgn ?_ ?_ | refine zdd ?_ ?_ | refine zdn ?_ ?_) <;> (intro h; first | (exfalso; omega) | (simp only [h, decide_true, decide_false, not_false_eq_true]) | skip))
    | (refine end_ret [] ?_; simp [go_sem])
    | ((fail_if_success with_reducible (refine Owe.mk ?_)); (simp (disch := omega) [go_sem]))
    | (refine And.intro (by omega) ?_)
    | (refine nbI fun bq => ?_)
    | ((first | refine zqm ?_ ?_ | refine zgm ?_ ?_ | refine zdm ?_ ?_) <;> (intro h; simp only [h, Bool.not_true, Bool.not_false]))
    | ((first | refine zqs ?_ ?_ | refine zgs ?_ ?_ | refine zds ?_ ?_) <;> (intro h; first | (exfalso; simp at h; omega) | ((try simp only [h]); (try simp at h))))
    | fail)
  all_goals (first | omega | simp [*])
theorem refStrings_ok (a b : ByteArray) : ACall Try.prog 60 [.sc (.string a), .sc (.string b)] (fun r => r = nt .i64 (strC a b)) := by
  have hr := strC_range a b
  have hz := strC_zero (a := a) (b := b)
  have hs := less_strC a b
  generalize strC a b = c at *
  by_cases he : a = b
  · subst he
    have : c = 0 := hz.2 rfl
    subst this
    simp at hs
    refine acall_of_awp Try.func60 Try.call60 rfl (by simp [Try.ntmps60]) ?_; simp only [Try.ntmps60, Try.results60]
    repeat' (first
    | (refine awp_seqK (fun K hK => ?_))
    | (refine Hide.go (by assumption) ?_)
    | ((first | refine zqd ?_ ?_ | refine zqn ?_ ?_ | refine zgd ?_ ?_ | refine zgn ?_ ?_ | refine zdd ?_ ?_ | refine zdn ?_ ?_) <;> (intro h; first | (exfalso; omega) | (simp only [h, decide_true, decide_false, not_false_eq_true]) | skip))
    | (refine end_ret [] ?_; simp [go_sem, hs])
    | ((fail_if_success with_reducible (refine Owe.mk ?_)); (simp (disch := omega) [go_sem, hs]))
    | (refine And.intro (by omega) ?_)
    | (refine nbI fun bq => ?_)
    | ((first | refine zqm ?_ ?_ | refine zgm ?_ ?_ | refine zdm ?_ ?_) <;> (intro h; simp only [h, Bool.not_true, Bool.not_false]))
    | ((first | refine zqs ?_ ?_ | refine zgs ?_ ?_ | refine zds ?_ ?_) <;> (intro h; first | (exfalso; simp at h; omega) | ((try simp only [h]); (try simp at h))))
    | fail)
  · have hc : c ≠ 0 := fun h => he (hz.1 h)
    refine acall_of_awp Try.func60 Try.call60 rfl (by simp [Try.ntmps60]) ?_; simp only [Try.ntmps60, Try.results60]
    repeat' (first
    | (refine awp_seqK (fun K hK => ?_))
    | (refine Hide.go (by assumption) ?_)
    | ((first | refine zqd ?_ ?_ | refine zqn ?_ ?_ | refine zgd ?_ ?_ | refine zgn ?_ ?_ | refine zdd ?_ ?_ | refine zdn ?_ ?_) <;> (intro h; first | (exfalso; omega) | (simp only [h, decide_true, decide_false, not_false_eq_true]) | skip))
    | (refine end_ret [] ?_; simp [go_sem, hs, he])
    | ((fail_if_success with_reducible (refine Owe.mk ?_)); (simp (disch := omega) [go_sem, hs, he]))
    | (refine And.intro (by omega) ?_)
    | (refine nbI fun bq => ?_)
    | ((first | refine zqm ?_ ?_ | refine zgm ?_ ?_ | refine zdm ?_ ?_) <;> (intro h; simp only [h, Bool.not_true, Bool.not_false]))
    | ((first | refine zqs ?_ ?_ | refine zgs ?_ ?_ | refine zds ?_ ?_) <;> (intro h; first | (exfalso; simp at h; omega) | ((try simp only [h]); (try simp at h))))
    | fail)
    all_goals omega
/-- What decides first: the class, the number, how many arguments, the name. -/
def kd (t : Tm) : Int × Int × Int × ByteArray :=
  if 0 < t.args.length then (3, 0, t.args.length, t.name)
  else if (numS t.name).2 = true then (0, (numS t.name).1, 0, ByteArray.mk #[])
  else if varS t.name = true then (2, 0, 0, t.name)
  else (1, 0, 0, t.name)
abbrev eK (k : Int × Int × Int × ByteArray) : AV := .agg [nt .i64 k.1, nt .i64 k.2.1, nt .i64 k.2.2.1, .sc (.string k.2.2.2)]
theorem kindOf_ok (t : Tm) : ACall Try.prog 56 [eT t] (fun r => r = eK (kd t)) := by
  have h1 := Number_ok t.name
  have h2 := Variable_ok t.name
  unfold kd
  by_cases h0 : 0 < t.args.length
  · rw [if_pos h0]
    have h0' : (0 : Int) < t.args.length := by omega
    refine acall_of_awp Try.func56 Try.call56 rfl (by simp [Try.ntmps56]) ?_; simp only [Try.ntmps56, Try.results56]
    repeat' (first
    | (refine awp_seqK (fun K hK => ?_))
    | (refine Hide.go (by assumption) ?_)
    | ((first | refine zqd ?_ ?_ | refine zqn ?_ ?_ | refine zgd ?_ ?_ | refine zgn ?_ ?_ | refine zdd ?_ ?_ | refine zdn ?_ ?_) <;> (intro h; first | (exfalso; omega) | (simp only [h, decide_true, decide_false, not_false_eq_true]) | skip))
    | (refine end_ret [] ?_; simp [go_sem, h0])
    | ((fail_if_success with_reducible (refine Owe.mk ?_)); (simp (disch := omega) [go_sem, h0]))
    | (refine And.intro (by omega) ?_)
    | (refine nbI fun bq => ?_)
    | ((first | refine zqm ?_ ?_ | refine zgm ?_ ?_ | refine zdm ?_ ?_) <;> (intro h; simp only [h, Bool.not_true, Bool.not_false]))
    | ((first | refine zqs ?_ ?_ | refine zgs ?_ ?_ | refine zds ?_ ?_) <;> (intro h; first | (exfalso; simp at h; omega) | ((try simp only [h]); (try simp at h))))
    | fail)
  · rw [if_neg h0]
    generalize numS t.name = q at *
    obtain ⟨v, b⟩ := q
    dsimp only at *
    cases b
    · generalize varS t.name = c at *
      cases c
      · refine acall_of_awp Try.func56 Try.call56 rfl (by simp [Try.ntmps56]) ?_; simp only [Try.ntmps56, Try.results56]
        repeat' (first
    | (refine awp_seqK (fun K hK => ?_))
    | (refine Hide.go (by assumption) ?_)
    | ((first | refine zqd ?_ ?_ | refine zqn ?_ ?_ | refine zgd ?_ ?_ | refine zgn ?_ ?_ | refine zdd ?_ ?_ | refine zdn ?_ ?_) <;> (intro h; first | (exfalso; omega) | (simp only [h, decide_true, decide_false, not_false_eq_true]) | skip))
    | (refine end_ret [] ?_; simp [go_sem, h0])
    | (refine stepK_is rfl (h1) (by simp) ?_)
    | (refine dstepK_is rfl (h1) rfl (by simp) ?_)
    | (refine stepK_is rfl (h2) (by simp) ?_)
    | (refine dstepK_is rfl (h2) rfl (by simp) ?_)
    | ((fail_if_success with_reducible (refine Owe.mk ?_)); (simp (disch := omega) [go_sem, h0]))
    | (refine And.intro (by omega) ?_)
    | (refine nbI fun bq => ?_)
    | ((first | refine zqm ?_ ?_ | refine zgm ?_ ?_ | refine zdm ?_ ?_) <;> (intro h; simp only [h, Bool.not_true, Bool.not_false]))
    | ((first | refine zqs ?_ ?_ | refine zgs ?_ ?_ | refine zds ?_ ?_) <;> (intro h; first | (exfalso; simp at h; omega) | ((try simp only [h]); (try simp at h))))
    | fail)
      · refine acall_of_awp Try.func56 Try.call56 rfl (by simp [Try.ntmps56]) ?_; simp only [Try.ntmps56, Try.results56]
        repeat' (first
    | (refine awp_seqK (fun K hK => ?_))
    | (refine Hide.go (by assumption) ?_)
    | ((first | refine zqd ?_ ?_ | refine zqn ?_ ?_ | refine zgd ?_ ?_ | refine zgn ?_ ?_ | refine zdd ?_ ?_ | refine zdn ?_ ?_) <;> (intro h; first | (exfalso; omega) | (simp only [h, decide_true, decide_false, not_false_eq_true]) | skip))
    | (refine end_ret [] ?_; simp [go_sem, h0])
    | (refine stepK_is rfl (h1) (by simp) ?_)
    | (refine dstepK_is rfl (h1) rfl (by simp) ?_)
    | (refine stepK_is rfl (h2) (by simp) ?_)
    | (refine dstepK_is rfl (h2) rfl (by simp) ?_)
    | ((fail_if_success with_reducible (refine Owe.mk ?_)); (simp (disch := omega) [go_sem, h0]))
    | (refine And.intro (by omega) ?_)
    | (refine nbI fun bq => ?_)
    | ((first | refine zqm ?_ ?_ | refine zgm ?_ ?_ | refine zdm ?_ ?_) <;> (intro h; simp only [h, Bool.not_true, Bool.not_false]))
    | ((first | refine zqs ?_ ?_ | refine zgs ?_ ?_ | refine zds ?_ ?_) <;> (intro h; first | (exfalso; simp at h; omega) | ((try simp only [h]); (try simp at h))))
    | fail)
    · refine acall_of_awp Try.func56 Try.call56 rfl (by simp [Try.ntmps56]) ?_; simp only [Try.ntmps56, Try.results56]
      repeat' (first
    | (refine awp_seqK (fun K hK => ?_))
    | (refine Hide.go (by assumption) ?_)
    | ((first | refine zqd ?_ ?_ | refine zqn ?_ ?_ | refine zgd ?_ ?_ | refine zgn ?_ ?_ | refine zdd ?_ ?_ | refine zdn ?_ ?_) <;> (intro h; first | (exfalso; omega) | (simp only [h, decide_true, decide_false, not_false_eq_true]) | skip))
    | (refine end_ret [] ?_; simp [go_sem, h0])
    | (refine stepK_is rfl (h1) (by simp) ?_)
    | (refine dstepK_is rfl (h1) rfl (by simp) ?_)
    | (refine stepK_is rfl (h2) (by simp) ?_)
    | (refine dstepK_is rfl (h2) rfl (by simp) ?_)
    | ((fail_if_success with_reducible (refine Owe.mk ?_)); (simp (disch := omega) [go_sem, h0]))
    | (refine And.intro (by omega) ?_)
    | (refine nbI fun bq => ?_)
    | ((first | refine zqm ?_ ?_ | refine zgm ?_ ?_ | refine zdm ?_ ?_) <;> (intro h; simp only [h, Bool.not_true, Bool.not_false]))
    | ((first | refine zqs ?_ ?_ | refine zgs ?_ ?_ | refine zds ?_ ?_) <;> (intro h; first | (exfalso; simp at h; omega) | ((try simp only [h]); (try simp at h))))
    | fail)
mutual
def cmpT : Tm → Tm → Int
  | .mk s ts, b =>
    let x := kd (.mk s ts)
    let y := kd b
    if x = y then cmpL ts b.args
    else if x.1 ≠ y.1 then ord x.1 y.1
    else if x.2.1 ≠ y.2.1 then ord x.2.1 y.2.1
    else if x.2.2.1 ≠ y.2.2.1 then ord x.2.2.1 y.2.2.1
    else strC x.2.2.2 y.2.2.2
def cmpL : List Tm → List Tm → Int
  | [], [] => 0
  | [], _ :: _ => -1
  | _ :: _, [] => 1
  | t :: r, u :: q => if cmpT t u ≠ 0 then cmpT t u else cmpL r q
end
theorem cmpT_mk {s : ByteArray} {ts : List Tm} {b : Tm} : cmpT (.mk s ts) b = if kd (.mk s ts) = kd b then cmpL ts b.args
    else if (kd (.mk s ts)).1 ≠ (kd b).1 then ord (kd (.mk s ts)).1 (kd b).1
    else if (kd (.mk s ts)).2.1 ≠ (kd b).2.1 then ord (kd (.mk s ts)).2.1 (kd b).2.1
    else if (kd (.mk s ts)).2.2.1 ≠ (kd b).2.2.1 then ord (kd (.mk s ts)).2.2.1 (kd b).2.2.1
    else strC (kd (.mk s ts)).2.2.2 (kd b).2.2.2 := rfl
theorem cmpT_eq {a b : Tm} : cmpT a b = if kd a = kd b then cmpL a.args b.args
    else if (kd a).1 ≠ (kd b).1 then ord (kd a).1 (kd b).1
    else if (kd a).2.1 ≠ (kd b).2.1 then ord (kd a).2.1 (kd b).2.1
    else if (kd a).2.2.1 ≠ (kd b).2.2.1 then ord (kd a).2.2.1 (kd b).2.2.1
    else strC (kd a).2.2.2 (kd b).2.2.2 := by cases a; rfl
theorem compareList_of (ts us : List Tm) (l f l' f' : Bool) (h : ∀ t ∈ ts, ∀ u, ACall Try.prog 31 [eT t, eT u] (fun r => r = nt .i64 (cmpT t u))) :
    ACall Try.prog 29 [.list l f (ts.map eTm), .list l' f' (us.map eTm)] (fun r => r = nt .i64 (cmpL ts us)) := by
  refine ACall.bound (i := 0) rfl Try.call29 fun hb => ?_
  rw [List.length_map] at hb
  have hb : ts.length ≤ 140737488355328 := hb
  have ho := order_ok ts.length us.length
  generalize hR : cmpL ts us = R
  refine acall_of_awp Try.func29 Try.call29 rfl (by simp [Try.ntmps29]) ?_; simp only [Try.ntmps29, Try.results29]
  repeat' (first
    | (refine awp_seqK (fun K hK => ?_))
    | (refine Hide.go (by assumption) ?_)
    | ((first | refine zqd ?_ ?_ | refine zqn ?_ ?_ | refine zgd ?_ ?_ | refine zgn ?_ ?_ | refine zdd ?_ ?_ | refine zdn ?_ ?_) <;> (intro h; first | (exfalso; omega) | (simp only [h, decide_true, decide_false, not_false_eq_true]) | skip))
    | (refine end_ret [] ?_; simp [go_sem])
    | ((fail_if_success with_reducible (refine Owe.mk ?_)); (simp (disch := omega) [go_sem]))
    | (refine And.intro (by omega) ?_)
    | (refine awp_draw 10 mix (by decide +kernel) ?_)
    | (refine nbI fun bq => ?_)
    | ((first | refine zqm ?_ ?_ | refine zgm ?_ ?_ | refine zdm ?_ ?_) <;> (intro h; simp only [h, Bool.not_true, Bool.not_false]))
    | ((first | refine zqs ?_ ?_ | refine zgs ?_ ?_ | refine zds ?_ ?_) <;> (intro h; first | (exfalso; simp at h; omega) | ((try simp only [h]); (try simp at h))))
    | fail)
  refine awp_for [0, 1] [] (fun i : Nat => [(5, nt .i64 i)]) (fun i : Nat => []) (fun i : Nat => ts.length - i) (fun i : Nat => i ≤ ts.length ∧ i ≤ us.length ∧ cmpL (ts.drop i) (us.drop i) = R) (0) (Le.sub4 rfl (by simp [go_sem])) ⟨?_⟩ ?_
  · exact ⟨Nat.zero_le _, Nat.zero_le _, by simpa using hR⟩
  intro i ⟨hi, hi2, hc⟩ AA hAA; simp only [Go.Ab.keepT_nil, Go.Ab.keepT_cons, Go.Ab.dropO_nil, Go.Ab.dropO_cons, List.contains_cons, List.contains_nil, List.elem_cons, List.elem_nil, Nat.reduceBEq, beq_self_eq_true, Nat.reduceEqDiff, Bool.or_false, Bool.false_or, Bool.or_true, Bool.true_or, Bool.false_eq_true, if_true, if_false, List.cons_append, List.nil_append, List.append_nil]
  by_cases h1 : i < ts.length
  · by_cases h2 : i < us.length
    · have hu := h ts[i] (List.getElem_mem h1) us[i]
      rw [List.drop_eq_getElem_cons h1, List.drop_eq_getElem_cons h2] at hc
      simp only [cmpL] at hc
      generalize cmpT ts[i] us[i] = c at *
      by_cases hz : c = 0
      · subst hz
        simp at hc
        repeat' (first
    | (refine awp_seqK (fun K hK => ?_))
    | (refine Hide.go (by assumption) ?_)
    | ((first | refine zqd ?_ ?_ | refine zqn ?_ ?_ | refine zgd ?_ ?_ | refine zgn ?_ ?_ | refine zdd ?_ ?_ | refine zdn ?_ ?_) <;> (intro h; first | (exfalso; omega) | (simp only [h, decide_true, decide_false, not_false_eq_true]) | skip))
    | (refine end_ret [] ?_; simp [go_sem, h1, h2])
    | (refine stepK_is rfl (hu) (by simp) ?_)
    | (refine dstepK_is rfl (hu) rfl (by simp) ?_)
    | (refine (hAA.next (i + 1) (Le.sub4 rfl (by simp [go_sem])) (by (try dsimp only); omega) ?_))
    | ((fail_if_success with_reducible (refine Owe.mk ?_)); (simp (disch := omega) [go_sem, h1, h2]))
    | (refine And.intro (by omega) ?_)
    | (refine awp_draw 10 mix (by decide +kernel) ?_)
    | (refine nbI fun bq => ?_)
    | ((first | refine zqm ?_ ?_ | refine zgm ?_ ?_ | refine zdm ?_ ?_) <;> (intro h; simp only [h, Bool.not_true, Bool.not_false]))
    | ((first | refine zqs ?_ ?_ | refine zgs ?_ ?_ | refine zds ?_ ?_) <;> (intro h; first | (exfalso; simp at h; omega) | ((try simp only [h]); (try simp at h))))
    | fail)
        exact ⟨⟨h1, h2, hc⟩⟩
      · simp only [ne_eq, hz, not_false_eq_true, if_true] at hc
        repeat' (first
    | (refine awp_seqK (fun K hK => ?_))
    | (refine Hide.go (by assumption) ?_)
    | ((first | refine zqd ?_ ?_ | refine zqn ?_ ?_ | refine zgd ?_ ?_ | refine zgn ?_ ?_ | refine zdd ?_ ?_ | refine zdn ?_ ?_) <;> (intro h; first | (exfalso; omega) | (simp only [h, decide_true, decide_false, not_false_eq_true]) | skip))
    | (refine end_ret [] ?_; simp [go_sem, h1, h2, hz, hc])
    | (refine stepK_is rfl (hu) (by simp) ?_)
    | (refine dstepK_is rfl (hu) rfl (by simp) ?_)
    | ((fail_if_success with_reducible (refine Owe.mk ?_)); (simp (disch := omega) [go_sem, h1, h2, hz, hc]))
    | (refine And.intro (by omega) ?_)
    | (refine awp_draw 10 mix (by decide +kernel) ?_)
    | (refine nbI fun bq => ?_)
    | ((first | refine zqm ?_ ?_ | refine zgm ?_ ?_ | refine zdm ?_ ?_) <;> (intro h; simp only [h, Bool.not_true, Bool.not_false]))
    | ((first | refine zqs ?_ ?_ | refine zgs ?_ ?_ | refine zds ?_ ?_) <;> (intro h; first | (exfalso; simp at h; omega) | ((try simp only [h]); (try simp at h))))
    | fail)
    · have e1 : us.drop i = [] := List.drop_of_length_le (by omega)
      rw [List.drop_eq_getElem_cons h1, e1] at hc
      simp only [cmpL] at hc
      have e2 : ord ts.length us.length = 1 := by unfold ord; rw [if_neg (by omega), if_pos (by omega)]
      rw [e2] at ho
      repeat' (first
    | (refine awp_seqK (fun K hK => ?_))
    | (refine Hide.go (by assumption) ?_)
    | ((first | refine zqd ?_ ?_ | refine zqn ?_ ?_ | refine zgd ?_ ?_ | refine zgn ?_ ?_ | refine zdd ?_ ?_ | refine zdn ?_ ?_) <;> (intro h; first | (exfalso; omega) | (simp only [h, decide_true, decide_false, not_false_eq_true]) | skip))
    | (refine end_ret [] ?_; simp [go_sem, h1, h2, hc])
    | (refine stepK_is rfl (ho) (by simp) ?_)
    | (refine dstepK_is rfl (ho) rfl (by simp) ?_)
    | ((fail_if_success with_reducible (refine Owe.mk ?_)); (simp (disch := omega) [go_sem, h1, h2, hc]))
    | (refine And.intro (by omega) ?_)
    | (refine awp_draw 10 mix (by decide +kernel) ?_)
    | (refine nbI fun bq => ?_)
    | ((first | refine zqm ?_ ?_ | refine zgm ?_ ?_ | refine zdm ?_ ?_) <;> (intro h; simp only [h, Bool.not_true, Bool.not_false]))
    | ((first | refine zqs ?_ ?_ | refine zgs ?_ ?_ | refine zds ?_ ?_) <;> (intro h; first | (exfalso; simp at h; omega) | ((try simp only [h]); (try simp at h))))
    | fail)
  · have e1 : ts.drop i = [] := List.drop_of_length_le (by omega)
    by_cases h2 : i < us.length
    · rw [List.drop_eq_getElem_cons h2, e1] at hc
      simp only [cmpL] at hc
      have e2 : ord ts.length us.length = -1 := by unfold ord; rw [if_pos (by omega)]
      rw [e2] at ho
      repeat' (first
    | (refine awp_seqK (fun K hK => ?_))
    | (refine Hide.go (by assumption) ?_)
    | ((first | refine zqd ?_ ?_ | refine zqn ?_ ?_ | refine zgd ?_ ?_ | refine zgn ?_ ?_ | refine zdd ?_ ?_ | refine zdn ?_ ?_) <;> (intro h; first | (exfalso; omega) | (simp only [h, decide_true, decide_false, not_false_eq_true]) | skip))
    | (refine end_ret [] ?_; simp [go_sem, h1, h2, hc])
    | (refine stepK_is rfl (ho) (by simp) ?_)
    | (refine dstepK_is rfl (ho) rfl (by simp) ?_)
    | ((fail_if_success with_reducible (refine Owe.mk ?_)); (simp (disch := omega) [go_sem, h1, h2, hc]))
    | (refine And.intro (by omega) ?_)
    | (refine awp_draw 10 mix (by decide +kernel) ?_)
    | (refine nbI fun bq => ?_)
    | ((first | refine zqm ?_ ?_ | refine zgm ?_ ?_ | refine zdm ?_ ?_) <;> (intro h; simp only [h, Bool.not_true, Bool.not_false]))
    | ((first | refine zqs ?_ ?_ | refine zgs ?_ ?_ | refine zds ?_ ?_) <;> (intro h; first | (exfalso; simp at h; omega) | ((try simp only [h]); (try simp at h))))
    | fail)
    · have e3 : us.drop i = [] := List.drop_of_length_le (by omega)
      rw [e1, e3] at hc
      simp only [cmpL] at hc
      have e2 : ord ts.length us.length = 0 := by unfold ord; rw [if_neg (by omega), if_neg (by omega)]
      rw [e2] at ho
      repeat' (first
    | (refine awp_seqK (fun K hK => ?_))
    | (refine Hide.go (by assumption) ?_)
    | ((first | refine zqd ?_ ?_ | refine zqn ?_ ?_ | refine zgd ?_ ?_ | refine zgn ?_ ?_ | refine zdd ?_ ?_ | refine zdn ?_ ?_) <;> (intro h; first | (exfalso; omega) | (simp only [h, decide_true, decide_false, not_false_eq_true]) | skip))
    | (refine end_ret [] ?_; simp [go_sem, h1, h2, hc])
    | (refine stepK_is rfl (ho) (by simp) ?_)
    | (refine dstepK_is rfl (ho) rfl (by simp) ?_)
    | ((fail_if_success with_reducible (refine Owe.mk ?_)); (simp (disch := omega) [go_sem, h1, h2, hc]))
    | (refine And.intro (by omega) ?_)
    | (refine awp_draw 10 mix (by decide +kernel) ?_)
    | (refine nbI fun bq => ?_)
    | ((first | refine zqm ?_ ?_ | refine zgm ?_ ?_ | refine zdm ?_ ?_) <;> (intro h; simp only [h, Bool.not_true, Bool.not_false]))
    | ((first | refine zqs ?_ ?_ | refine zgs ?_ ?_ | refine zds ?_ ?_) <;> (intro h; first | (exfalso; simp at h; omega) | ((try simp only [h]); (try simp at h))))
    | fail)
theorem Compare_ok : ∀ a b : Tm, ACall Try.prog 31 [eT a, eT b] (fun r => r = nt .i64 (cmpT a b)) := by
  refine tm_ind fun a ih b => ?_
  have h1 := kindOf_ok a
  have h2 := kindOf_ok b
  have h3 := compareList_of a.args b.args false false false false ih
  rw [cmpT_eq]
  have ho1 := order_ok (kd a).1 (kd b).1
  have ho2 := order_ok (kd a).2.1 (kd b).2.1
  have ho3 := order_ok (kd a).2.2.1 (kd b).2.2.1
  have ho4 := strCompare_ok (kd a).2.2.2 (kd b).2.2.2
  generalize cmpL a.args b.args = c at *
  generalize kd a = x at *
  generalize kd b = y at *
  obtain ⟨x1, x2, x3, x4⟩ := x
  obtain ⟨y1, y2, y3, y4⟩ := y
  dsimp only at *
  generalize ord x1 y1 = o1 at *
  generalize ord x2 y2 = o2 at *
  generalize ord x3 y3 = o3 at *
  generalize strC x4 y4 = o4 at *
  refine acall_of_awp Try.func31 Try.call31 rfl (by simp [Try.ntmps31]) ?_; simp only [Try.ntmps31, Try.results31]
  by_cases q1 : x1 = y1
  · by_cases q2 : x2 = y2
    · by_cases q3 : x3 = y3
      · by_cases q4 : x4 = y4
        · subst q1; subst q2; subst q3; subst q4
          repeat' (first
    | (refine awp_seqK (fun K hK => ?_))
    | (refine Hide.go (by assumption) ?_)
    | ((first | refine zqd ?_ ?_ | refine zqn ?_ ?_ | refine zgd ?_ ?_ | refine zgn ?_ ?_ | refine zdd ?_ ?_ | refine zdn ?_ ?_) <;> (intro h; first | (exfalso; omega) | (simp only [h, decide_true, decide_false, not_false_eq_true]) | skip))
    | (refine end_ret [] ?_; simp [go_sem])
    | (refine stepK_is rfl (h1) (by simp) ?_)
    | (refine dstepK_is rfl (h1) rfl (by simp) ?_)
    | (refine stepK_is rfl (h2) (by simp) ?_)
    | (refine dstepK_is rfl (h2) rfl (by simp) ?_)
    | (refine stepK_is rfl (h3) (by simp) ?_)
    | (refine dstepK_is rfl (h3) rfl (by simp) ?_)
    | ((fail_if_success with_reducible (refine Owe.mk ?_)); (simp (disch := omega) [go_sem]))
    | (refine And.intro (by omega) ?_)
    | (refine awp_draw 6 mix (by decide +kernel) ?_)
    | (refine nbI fun bq => ?_)
    | ((first | refine zqm ?_ ?_ | refine zgm ?_ ?_ | refine zdm ?_ ?_) <;> (intro h; simp only [h, Bool.not_true, Bool.not_false]))
    | ((first | refine zqs ?_ ?_ | refine zgs ?_ ?_ | refine zds ?_ ?_) <;> (intro h; first | (exfalso; simp at h; omega) | ((try simp only [h]); (try simp at h))))
    | fail)
        · subst q1; subst q2; subst q3
          repeat' (first
    | (refine awp_seqK (fun K hK => ?_))
    | (refine Hide.go (by assumption) ?_)
    | ((first | refine zqd ?_ ?_ | refine zqn ?_ ?_ | refine zgd ?_ ?_ | refine zgn ?_ ?_ | refine zdd ?_ ?_ | refine zdn ?_ ?_) <;> (intro h; first | (exfalso; omega) | (simp only [h, decide_true, decide_false, not_false_eq_true]) | skip))
    | (refine end_ret [] ?_; simp [go_sem, q4])
    | (refine stepK_is rfl (h1) (by simp) ?_)
    | (refine dstepK_is rfl (h1) rfl (by simp) ?_)
    | (refine stepK_is rfl (h2) (by simp) ?_)
    | (refine dstepK_is rfl (h2) rfl (by simp) ?_)
    | (refine stepK_is rfl (ho4) (by simp) ?_)
    | (refine dstepK_is rfl (ho4) rfl (by simp) ?_)
    | ((fail_if_success with_reducible (refine Owe.mk ?_)); (simp (disch := omega) [go_sem, q4]))
    | (refine And.intro (by omega) ?_)
    | (refine awp_draw 6 mix (by decide +kernel) ?_)
    | (refine nbI fun bq => ?_)
    | ((first | refine zqm ?_ ?_ | refine zgm ?_ ?_ | refine zdm ?_ ?_) <;> (intro h; simp only [h, Bool.not_true, Bool.not_false]))
    | ((first | refine zqs ?_ ?_ | refine zgs ?_ ?_ | refine zds ?_ ?_) <;> (intro h; first | (exfalso; simp at h; omega) | ((try simp only [h]); (try simp at h))))
    | fail)
      · subst q1; subst q2
        repeat' (first
    | (refine awp_seqK (fun K hK => ?_))
    | (refine Hide.go (by assumption) ?_)
    | ((first | refine zqd ?_ ?_ | refine zqn ?_ ?_ | refine zgd ?_ ?_ | refine zgn ?_ ?_ | refine zdd ?_ ?_ | refine zdn ?_ ?_) <;> (intro h; first | (exfalso; omega) | (simp only [h, decide_true, decide_false, not_false_eq_true]) | skip))
    | (refine end_ret [] ?_; simp [go_sem, q3])
    | (refine stepK_is rfl (h1) (by simp) ?_)
    | (refine dstepK_is rfl (h1) rfl (by simp) ?_)
    | (refine stepK_is rfl (h2) (by simp) ?_)
    | (refine dstepK_is rfl (h2) rfl (by simp) ?_)
    | (refine stepK_is rfl (ho3) (by simp) ?_)
    | (refine dstepK_is rfl (ho3) rfl (by simp) ?_)
    | ((fail_if_success with_reducible (refine Owe.mk ?_)); (simp (disch := omega) [go_sem, q3]))
    | (refine And.intro (by omega) ?_)
    | (refine awp_draw 6 mix (by decide +kernel) ?_)
    | (refine nbI fun bq => ?_)
    | ((first | refine zqm ?_ ?_ | refine zgm ?_ ?_ | refine zdm ?_ ?_) <;> (intro h; simp only [h, Bool.not_true, Bool.not_false]))
    | ((first | refine zqs ?_ ?_ | refine zgs ?_ ?_ | refine zds ?_ ?_) <;> (intro h; first | (exfalso; simp at h; omega) | ((try simp only [h]); (try simp at h))))
    | fail)
    · subst q1
      repeat' (first
    | (refine awp_seqK (fun K hK => ?_))
    | (refine Hide.go (by assumption) ?_)
    | ((first | refine zqd ?_ ?_ | refine zqn ?_ ?_ | refine zgd ?_ ?_ | refine zgn ?_ ?_ | refine zdd ?_ ?_ | refine zdn ?_ ?_) <;> (intro h; first | (exfalso; omega) | (simp only [h, decide_true, decide_false, not_false_eq_true]) | skip))
    | (refine end_ret [] ?_; simp [go_sem, q2])
    | (refine stepK_is rfl (h1) (by simp) ?_)
    | (refine dstepK_is rfl (h1) rfl (by simp) ?_)
    | (refine stepK_is rfl (h2) (by simp) ?_)
    | (refine dstepK_is rfl (h2) rfl (by simp) ?_)
    | (refine stepK_is rfl (ho2) (by simp) ?_)
    | (refine dstepK_is rfl (ho2) rfl (by simp) ?_)
    | ((fail_if_success with_reducible (refine Owe.mk ?_)); (simp (disch := omega) [go_sem, q2]))
    | (refine And.intro (by omega) ?_)
    | (refine awp_draw 6 mix (by decide +kernel) ?_)
    | (refine nbI fun bq => ?_)
    | ((first | refine zqm ?_ ?_ | refine zgm ?_ ?_ | refine zdm ?_ ?_) <;> (intro h; simp only [h, Bool.not_true, Bool.not_false]))
    | ((first | refine zqs ?_ ?_ | refine zgs ?_ ?_ | refine zds ?_ ?_) <;> (intro h; first | (exfalso; simp at h; omega) | ((try simp only [h]); (try simp at h))))
    | fail)
  · repeat' (first
    | (refine awp_seqK (fun K hK => ?_))
    | (refine Hide.go (by assumption) ?_)
    | ((first | refine zqd ?_ ?_ | refine zqn ?_ ?_ | refine zgd ?_ ?_ | refine zgn ?_ ?_ | refine zdd ?_ ?_ | refine zdn ?_ ?_) <;> (intro h; first | (exfalso; omega) | (simp only [h, decide_true, decide_false, not_false_eq_true]) | skip))
    | (refine end_ret [] ?_; simp [go_sem, q1])
    | (refine stepK_is rfl (h1) (by simp) ?_)
    | (refine dstepK_is rfl (h1) rfl (by simp) ?_)
    | (refine stepK_is rfl (h2) (by simp) ?_)
    | (refine dstepK_is rfl (h2) rfl (by simp) ?_)
    | (refine stepK_is rfl (ho1) (by simp) ?_)
    | (refine dstepK_is rfl (ho1) rfl (by simp) ?_)
    | ((fail_if_success with_reducible (refine Owe.mk ?_)); (simp (disch := omega) [go_sem, q1]))
    | (refine And.intro (by omega) ?_)
    | (refine awp_draw 6 mix (by decide +kernel) ?_)
    | (refine nbI fun bq => ?_)
    | ((first | refine zqm ?_ ?_ | refine zgm ?_ ?_ | refine zdm ?_ ?_) <;> (intro h; simp only [h, Bool.not_true, Bool.not_false]))
    | ((first | refine zqs ?_ ?_ | refine zgs ?_ ?_ | refine zds ?_ ?_) <;> (intro h; first | (exfalso; simp at h; omega) | ((try simp only [h]); (try simp at h))))
    | fail)
theorem CompareList_ok (ts us : List Tm) (l f l' f' : Bool) : ACall Try.prog 29 [.list l f (ts.map eTm), .list l' f' (us.map eTm)] (fun r => r = nt .i64 (cmpL ts us)) :=
  compareList_of ts us l f l' f' fun t _ u => Compare_ok t u
end Go.Proofs.Ytldecgghhaoliaa
