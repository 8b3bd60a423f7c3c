/-
  Term3: whether a term is valid.
-/
import Derived.Test.YtldecgghhaoliaaTerm2
import Derived.Test.YtldecgghhaoliaaNum1
namespace Go.Proofs.Ytldecgghhaoliaa
open Go.Ab
set_option linter.unusedSimpArgs false
set_option maxRecDepth 100000
set_option maxHeartbeats 4000000
theorem refIsNumber_ok (s : ByteArray) : ACall Try.prog 79 [.sc (.string s)] (fun r => r = bl (numS s).2) := by
  have hc := refNumber_ok s
  generalize numS s = q at *
  obtain ⟨v, b⟩ := q
  dsimp only at *
  refine acall_of_awp Try.func79 Try.call79 rfl (by simp [Try.ntmps79]) ?_; simp only [Try.ntmps79, Try.results79]
  repeat' (first
    | (refine awp_seqK (fun K hK => ?_))
    | (refine Hide.go (by assumption) ?_)
    | ((first | refine zqd ?_ ?_ | refine zqn ?_ ?_ | refine zgd ?_ ?_ | refine zgn ?_ ?_ | refine zdd ?_ ?_ | refine zdn ?_ ?_) <;> (intro h; first | (exfalso; omega) | (simp only [h, decide_true, decide_false, not_false_eq_true]) | skip))
    | (refine end_ret [] ?_; simp [go_sem])
    | (refine stepK_is rfl (hc) (by simp) ?_)
    | (refine dstepK_is rfl (hc) rfl (by simp) ?_)
    | ((fail_if_success with_reducible (refine Owe.mk ?_)); (simp (disch := omega) [go_sem]))
    | (refine And.intro (by omega) ?_)
    | (refine nbI fun bq => ?_)
    | ((first | refine zqm ?_ ?_ | refine zgm ?_ ?_ | refine zdm ?_ ?_) <;> (intro h; simp only [h, Bool.not_true, Bool.not_false]))
    | ((first | refine zqs ?_ ?_ | refine zgs ?_ ?_ | refine zds ?_ ?_) <;> (intro h; first | (exfalso; simp at h; omega) | ((try simp only [h]); (try simp at h))))
    | fail)
def constS (s : ByteArray) : Bool := nameS s || (numS s).2
def isC (t : Tm) : Bool := t.args.isEmpty && constS t.name
def isV (t : Tm) : Bool := t.args.isEmpty && varS t.name
theorem isEmpty_len {α : Type} (l : List α) : l.isEmpty = decide (l.length = 0) := by cases l <;> simp
theorem refConstant_ok (t : Tm) : ACall Try.prog 73 [eT t] (fun r => r = bl (isC t)) := by
  have h1 := refName_ok t.name
  have h2 := refIsNumber_ok t.name
  unfold isC constS
  rw [isEmpty_len]
  generalize nameS t.name = a at *
  generalize (numS t.name).2 = b at *
  refine acall_of_awp Try.func73 Try.call73 rfl (by simp [Try.ntmps73]) ?_; simp only [Try.ntmps73, Try.results73]
  by_cases h : t.args.length = 0
  · cases a
    · repeat' (first
    | (refine awp_seqK (fun K hK => ?_))
    | (refine Hide.go (by assumption) ?_)
    | ((first | refine zqd ?_ ?_ | refine zqn ?_ ?_ | refine zgd ?_ ?_ | refine zgn ?_ ?_ | refine zdd ?_ ?_ | refine zdn ?_ ?_) <;> (intro h; first | (exfalso; omega) | (simp only [h, decide_true, decide_false, not_false_eq_true]) | skip))
    | (refine end_ret [] ?_; simp [go_sem, h])
    | (refine stepK_is rfl (h1) (by simp) ?_)
    | (refine dstepK_is rfl (h1) rfl (by simp) ?_)
    | (refine stepK_is rfl (h2) (by simp) ?_)
    | (refine dstepK_is rfl (h2) rfl (by simp) ?_)
    | ((fail_if_success with_reducible (refine Owe.mk ?_)); (simp (disch := omega) [go_sem, h]))
    | (refine And.intro (by omega) ?_)
    | (refine nbI fun bq => ?_)
    | ((first | refine zqm ?_ ?_ | refine zgm ?_ ?_ | refine zdm ?_ ?_) <;> (intro h; simp only [h, Bool.not_true, Bool.not_false]))
    | ((first | refine zqs ?_ ?_ | refine zgs ?_ ?_ | refine zds ?_ ?_) <;> (intro h; first | (exfalso; simp at h; omega) | ((try simp only [h]); (try simp at h))))
    | fail)
    · repeat' (first
    | (refine awp_seqK (fun K hK => ?_))
    | (refine Hide.go (by assumption) ?_)
    | ((first | refine zqd ?_ ?_ | refine zqn ?_ ?_ | refine zgd ?_ ?_ | refine zgn ?_ ?_ | refine zdd ?_ ?_ | refine zdn ?_ ?_) <;> (intro h; first | (exfalso; omega) | (simp only [h, decide_true, decide_false, not_false_eq_true]) | skip))
    | (refine end_ret [] ?_; simp [go_sem, h])
    | (refine stepK_is rfl (h1) (by simp) ?_)
    | (refine dstepK_is rfl (h1) rfl (by simp) ?_)
    | (refine stepK_is rfl (h2) (by simp) ?_)
    | (refine dstepK_is rfl (h2) rfl (by simp) ?_)
    | ((fail_if_success with_reducible (refine Owe.mk ?_)); (simp (disch := omega) [go_sem, h]))
    | (refine And.intro (by omega) ?_)
    | (refine nbI fun bq => ?_)
    | ((first | refine zqm ?_ ?_ | refine zgm ?_ ?_ | refine zdm ?_ ?_) <;> (intro h; simp only [h, Bool.not_true, Bool.not_false]))
    | ((first | refine zqs ?_ ?_ | refine zgs ?_ ?_ | refine zds ?_ ?_) <;> (intro h; first | (exfalso; simp at h; omega) | ((try simp only [h]); (try simp at h))))
    | fail)
  · repeat' (first
    | (refine awp_seqK (fun K hK => ?_))
    | (refine Hide.go (by assumption) ?_)
    | ((first | refine zqd ?_ ?_ | refine zqn ?_ ?_ | refine zgd ?_ ?_ | refine zgn ?_ ?_ | refine zdd ?_ ?_ | refine zdn ?_ ?_) <;> (intro h; first | (exfalso; omega) | (simp only [h, decide_true, decide_false, not_false_eq_true]) | skip))
    | (refine end_ret [] ?_; simp [go_sem, h])
    | (refine stepK_is rfl (h1) (by simp) ?_)
    | (refine dstepK_is rfl (h1) rfl (by simp) ?_)
    | (refine stepK_is rfl (h2) (by simp) ?_)
    | (refine dstepK_is rfl (h2) rfl (by simp) ?_)
    | ((fail_if_success with_reducible (refine Owe.mk ?_)); (simp (disch := omega) [go_sem, h]))
    | (refine And.intro (by omega) ?_)
    | (refine nbI fun bq => ?_)
    | ((first | refine zqm ?_ ?_ | refine zgm ?_ ?_ | refine zdm ?_ ?_) <;> (intro h; simp only [h, Bool.not_true, Bool.not_false]))
    | ((first | refine zqs ?_ ?_ | refine zgs ?_ ?_ | refine zds ?_ ?_) <;> (intro h; first | (exfalso; simp at h; omega) | ((try simp only [h]); (try simp at h))))
    | fail)
theorem refIsVariable_ok (t : Tm) : ACall Try.prog 75 [eT t] (fun r => r = bl (isV t)) := by
  have h1 := refVariable_ok t.name
  unfold isV
  rw [isEmpty_len]
  generalize varS t.name = a at *
  refine acall_of_awp Try.func75 Try.call75 rfl (by simp [Try.ntmps75]) ?_; simp only [Try.ntmps75, Try.results75]
  by_cases h : t.args.length = 0
  · repeat' (first
    | (refine awp_seqK (fun K hK => ?_))
    | (refine Hide.go (by assumption) ?_)
    | ((first | refine zqd ?_ ?_ | refine zqn ?_ ?_ | refine zgd ?_ ?_ | refine zgn ?_ ?_ | refine zdd ?_ ?_ | refine zdn ?_ ?_) <;> (intro h; first | (exfalso; omega) | (simp only [h, decide_true, decide_false, not_false_eq_true]) | skip))
    | (refine end_ret [] ?_; simp [go_sem, h])
    | (refine stepK_is rfl (h1) (by simp) ?_)
    | (refine dstepK_is rfl (h1) rfl (by simp) ?_)
    | ((fail_if_success with_reducible (refine Owe.mk ?_)); (simp (disch := omega) [go_sem, h]))
    | (refine And.intro (by omega) ?_)
    | (refine nbI fun bq => ?_)
    | ((first | refine zqm ?_ ?_ | refine zgm ?_ ?_ | refine zdm ?_ ?_) <;> (intro h; simp only [h, Bool.not_true, Bool.not_false]))
    | ((first | refine zqs ?_ ?_ | refine zgs ?_ ?_ | refine zds ?_ ?_) <;> (intro h; first | (exfalso; simp at h; omega) | ((try simp only [h]); (try simp at h))))
    | fail)
  · repeat' (first
    | (refine awp_seqK (fun K hK => ?_))
    | (refine Hide.go (by assumption) ?_)
    | ((first | refine zqd ?_ ?_ | refine zqn ?_ ?_ | refine zgd ?_ ?_ | refine zgn ?_ ?_ | refine zdd ?_ ?_ | refine zdn ?_ ?_) <;> (intro h; first | (exfalso; omega) | (simp only [h, decide_true, decide_false, not_false_eq_true]) | skip))
    | (refine end_ret [] ?_; simp [go_sem, h])
    | (refine stepK_is rfl (h1) (by simp) ?_)
    | (refine dstepK_is rfl (h1) rfl (by simp) ?_)
    | ((fail_if_success with_reducible (refine Owe.mk ?_)); (simp (disch := omega) [go_sem, h]))
    | (refine And.intro (by omega) ?_)
    | (refine nbI fun bq => ?_)
    | ((first | refine zqm ?_ ?_ | refine zgm ?_ ?_ | refine zdm ?_ ?_) <;> (intro h; simp only [h, Bool.not_true, Bool.not_false]))
    | ((first | refine zqs ?_ ?_ | refine zgs ?_ ?_ | refine zds ?_ ?_) <;> (intro h; first | (exfalso; simp at h; omega) | ((try simp only [h]); (try simp at h))))
    | fail)
mutual
/-- Valid with at most so many levels; v: variables may occur. -/
def withT : Int → Bool → Tm → Bool
  | lv, v, .mk s ts => if lv < 1 ∨ 4 < ts.length then false else if ts.length = 0 then constS s || (v && varS s) else nameS s && withL (lv - 1) v ts
def withL : Int → Bool → List Tm → Bool
  | _, _, [] => true
  | lv, v, t :: r => withT lv v t && withL lv v r
end
theorem withT_eq {lv : Int} {v : Bool} {t : Tm} : withT lv v t = if lv < 1 ∨ 4 < t.args.length then false else if t.args.length = 0 then constS t.name || (v && varS t.name) else nameS t.name && withL (lv - 1) v t.args := by cases t; rfl
theorem withT_mk {lv : Int} {v : Bool} {s : ByteArray} {ts : List Tm} : withT lv v (.mk s ts) = if lv < 1 ∨ 4 < ts.length then false else if ts.length = 0 then constS s || (v && varS s) else nameS s && withL (lv - 1) v ts := rfl
theorem withL_append {lv : Int} {v : Bool} : ∀ a b : List Tm, withL lv v (a ++ b) = (withL lv v a && withL lv v b)
  | [], b => by simp [withL]
  | t :: r, b => by simp [withL, withL_append r b, Bool.and_assoc]
theorem withL_next {lv : Int} {v : Bool} {l : List Tm} {i : Nat} (h : i < l.length) : withL lv v (l.take (i + 1)) = (withL lv v (l.take i) && withT lv v l[i]) := by
  rw [take_next h, withL_append]; simp [withL]
theorem withL_false {lv : Int} {v : Bool} : ∀ {l : List Tm} {t : Tm}, t ∈ l → withT lv v t = false → withL lv v l = false
  | u :: r, t, h, hf => by
    rcases List.mem_cons.1 h with rfl | h
    · simp [withL, hf]
    · simp [withL, withL_false h hf]
theorem within_ok (v : Bool) : ∀ (t : Tm) (lv : Int), -1000 ≤ lv → lv ≤ 1000 → ACall Try.prog 49 [eT t, nt .i64 lv, bl v] (fun r => r = bl (withT lv v t)) := by
  refine tm_ind fun t ih lv hl1 hl2 => ?_
  obtain ⟨s, ts⟩ := t
  rw [withT_mk]
  simp only [args_mk, name_mk] at *
  have h1 := Name_ok s
  have h2 := number_ok s
  have h3 := Variable_ok s
  unfold constS
  by_cases hc : lv < 1 ∨ 4 < ts.length
  · rw [if_pos hc]
    refine acall_of_awp Try.func49 Try.call49 rfl (by simp [Try.ntmps49]) ?_; simp only [Try.ntmps49, Try.results49]
    repeat' (first
    | (refine awp_seqK (fun K hK => ?_))
    | (refine Hide.go (by assumption) ?_)
    | ((first | refine zqd ?_ ?_ | refine zqn ?_ ?_ | refine zgd ?_ ?_ | refine zgn ?_ ?_ | refine zdd ?_ ?_ | refine zdn ?_ ?_) <;> (intro h; first | (exfalso; omega) | (simp only [h, decide_true, decide_false, not_false_eq_true]) | skip))
    | (refine end_ret [] ?_; simp [go_sem])
    | ((fail_if_success with_reducible (refine Owe.mk ?_)); (simp (disch := omega) [go_sem]))
    | (refine And.intro (by omega) ?_)
    | (refine nbI fun bq => ?_)
    | ((first | refine zqm ?_ ?_ | refine zgm ?_ ?_ | refine zdm ?_ ?_) <;> (intro h; simp only [h, Bool.not_true, Bool.not_false]))
    | ((first | refine zqs ?_ ?_ | refine zgs ?_ ?_ | refine zds ?_ ?_) <;> (intro h; first | (exfalso; simp at h; omega) | ((try simp only [h]); (try simp at h))))
    | fail)
    all_goals omega
  · rw [if_neg hc]
    simp only [not_or] at hc
    obtain ⟨hc1, hc2⟩ := hc
    by_cases h0 : ts.length = 0
    · rw [if_pos h0]
      generalize nameS s = a at *
      generalize (numS s).2 = b at *
      generalize varS s = c at *
      refine acall_of_awp Try.func49 Try.call49 rfl (by simp [Try.ntmps49]) ?_; simp only [Try.ntmps49, Try.results49]
      cases a <;> cases b <;> cases v
      all_goals
        repeat' (first
    | (refine awp_seqK (fun K hK => ?_))
    | (refine Hide.go (by assumption) ?_)
    | ((first | refine zqd ?_ ?_ | refine zqn ?_ ?_ | refine zgd ?_ ?_ | refine zgn ?_ ?_ | refine zdd ?_ ?_ | refine zdn ?_ ?_) <;> (intro h; first | (exfalso; omega) | (simp only [h, decide_true, decide_false, not_false_eq_true]) | skip))
    | (refine end_ret [] ?_; simp [go_sem, h0])
    | (refine stepK_is rfl (h1) (by simp) ?_)
    | (refine dstepK_is rfl (h1) rfl (by simp) ?_)
    | (refine stepK_is rfl (h2) (by simp) ?_)
    | (refine dstepK_is rfl (h2) rfl (by simp) ?_)
    | (refine stepK_is rfl (h3) (by simp) ?_)
    | (refine dstepK_is rfl (h3) rfl (by simp) ?_)
    | ((fail_if_success with_reducible (refine Owe.mk ?_)); (simp (disch := omega) [go_sem, h0]))
    | (refine And.intro (by omega) ?_)
    | (refine nbI fun bq => ?_)
    | ((first | refine zqm ?_ ?_ | refine zgm ?_ ?_ | refine zdm ?_ ?_) <;> (intro h; simp only [h, Bool.not_true, Bool.not_false]))
    | ((first | refine zqs ?_ ?_ | refine zgs ?_ ?_ | refine zds ?_ ?_) <;> (intro h; first | (exfalso; simp at h; omega) | ((try simp only [h]); (try simp at h))))
    | fail)
    · rw [if_neg h0]
      generalize hR : (nameS s && withL (lv - 1) v ts) = R
      refine acall_of_awp Try.func49 Try.call49 rfl (by simp [Try.ntmps49]) ?_; simp only [Try.ntmps49, Try.results49]
      repeat' (first
    | (refine awp_seqK (fun K hK => ?_))
    | (refine Hide.go (by assumption) ?_)
    | ((first | refine zqd ?_ ?_ | refine zqn ?_ ?_ | refine zgd ?_ ?_ | refine zgn ?_ ?_ | refine zdd ?_ ?_ | refine zdn ?_ ?_) <;> (intro h; first | (exfalso; omega) | (simp only [h, decide_true, decide_false, not_false_eq_true]) | skip))
    | (refine end_ret [] ?_; simp [go_sem, h0])
    | ((fail_if_success with_reducible (refine Owe.mk ?_)); (simp (disch := omega) [go_sem, h0]))
    | (refine And.intro (by omega) ?_)
    | (refine nbI fun bq => ?_)
    | ((first | refine zqm ?_ ?_ | refine zgm ?_ ?_ | refine zdm ?_ ?_) <;> (intro h; simp only [h, Bool.not_true, Bool.not_false]))
    | ((first | refine zqs ?_ ?_ | refine zgs ?_ ?_ | refine zds ?_ ?_) <;> (intro h; first | (exfalso; simp at h; omega) | ((try simp only [h]); (try simp at h))))
    | fail)
      refine awp_for [1, 2, 3, 38, 39] [] (fun i : Nat => [(40, nt .i64 i)]) (fun i : Nat => []) (fun i : Nat => ts.length - i) (fun i : Nat => i ≤ ts.length ∧ withL (lv - 1) v (ts.take i) = true) (0) (Le.sub4 rfl (by simp [go_sem])) ⟨?_⟩ ?_
      · exact ⟨Nat.zero_le _, rfl⟩
      intro i ⟨hi, hw⟩ AA hAA; simp only [Go.Ab.keepT_nil, Go.Ab.keepT_cons, Go.Ab.dropO_nil, Go.Ab.dropO_cons, List.contains_cons, List.contains_nil, List.elem_cons, List.elem_nil, Nat.reduceBEq, beq_self_eq_true, Nat.reduceEqDiff, Bool.or_false, Bool.false_or, Bool.or_true, Bool.true_or, Bool.false_eq_true, if_true, if_false, List.cons_append, List.nil_append, List.append_nil]
      by_cases hlt : i < ts.length
      · have hu := ih ts[i] (List.getElem_mem hlt) (lv - 1) (by omega) (by omega)
        have hn := withL_next (lv := lv - 1) (v := v) hlt
        rw [hw, Bool.true_and] at hn
        cases hq : withT (lv - 1) v ts[i] with
        | true =>
          rw [hq] at hu hn
          repeat' (first
    | (refine awp_seqK (fun K hK => ?_))
    | (refine Hide.go (by assumption) ?_)
    | ((first | refine zqd ?_ ?_ | refine zqn ?_ ?_ | refine zgd ?_ ?_ | refine zgn ?_ ?_ | refine zdd ?_ ?_ | refine zdn ?_ ?_) <;> (intro h; first | (exfalso; omega) | (simp only [h, decide_true, decide_false, not_false_eq_true]) | skip))
    | (refine end_ret [] ?_; simp [go_sem, hlt])
    | (refine stepK_is rfl (hu) (by simp) ?_)
    | (refine dstepK_is rfl (hu) rfl (by simp) ?_)
    | (refine (hAA.next (i + 1) (Le.sub4 rfl (by simp [go_sem])) (by (try dsimp only); omega) ?_))
    | ((fail_if_success with_reducible (refine Owe.mk ?_)); (simp (disch := omega) [go_sem, hlt]))
    | (refine And.intro (by omega) ?_)
    | (refine nbI fun bq => ?_)
    | ((first | refine zqm ?_ ?_ | refine zgm ?_ ?_ | refine zdm ?_ ?_) <;> (intro h; simp only [h, Bool.not_true, Bool.not_false]))
    | ((first | refine zqs ?_ ?_ | refine zgs ?_ ?_ | refine zds ?_ ?_) <;> (intro h; first | (exfalso; simp at h; omega) | ((try simp only [h]); (try simp at h))))
    | fail)
          exact ⟨⟨hlt, hn⟩⟩
        | false =>
          rw [hq] at hu
          have := withL_false (List.getElem_mem hlt) hq
          rw [this, Bool.and_false] at hR
          subst hR
          repeat' (first
    | (refine awp_seqK (fun K hK => ?_))
    | (refine Hide.go (by assumption) ?_)
    | ((first | refine zqd ?_ ?_ | refine zqn ?_ ?_ | refine zgd ?_ ?_ | refine zgn ?_ ?_ | refine zdd ?_ ?_ | refine zdn ?_ ?_) <;> (intro h; first | (exfalso; omega) | (simp only [h, decide_true, decide_false, not_false_eq_true]) | skip))
    | (refine end_ret [] ?_; simp [go_sem, hlt])
    | (refine stepK_is rfl (hu) (by simp) ?_)
    | (refine dstepK_is rfl (hu) rfl (by simp) ?_)
    | ((fail_if_success with_reducible (refine Owe.mk ?_)); (simp (disch := omega) [go_sem, hlt]))
    | (refine And.intro (by omega) ?_)
    | (refine nbI fun bq => ?_)
    | ((first | refine zqm ?_ ?_ | refine zgm ?_ ?_ | refine zdm ?_ ?_) <;> (intro h; simp only [h, Bool.not_true, Bool.not_false]))
    | ((first | refine zqs ?_ ?_ | refine zgs ?_ ?_ | refine zds ?_ ?_) <;> (intro h; first | (exfalso; simp at h; omega) | ((try simp only [h]); (try simp at h))))
    | fail)
      · obtain rfl : i = ts.length := by omega
        rw [List.take_length] at hw
        rw [hw, Bool.and_true] at hR
        subst hR
        repeat' (first
    | (refine awp_seqK (fun K hK => ?_))
    | (refine Hide.go (by assumption) ?_)
    | ((first | refine zqd ?_ ?_ | refine zqn ?_ ?_ | refine zgd ?_ ?_ | refine zgn ?_ ?_ | refine zdd ?_ ?_ | refine zdn ?_ ?_) <;> (intro h; first | (exfalso; omega) | (simp only [h, decide_true, decide_false, not_false_eq_true]) | skip))
    | (refine end_ret [] ?_; simp [go_sem])
    | (refine stepK_is rfl (h1) (by simp) ?_)
    | (refine dstepK_is rfl (h1) rfl (by simp) ?_)
    | ((fail_if_success with_reducible (refine Owe.mk ?_)); (simp (disch := omega) [go_sem]))
    | (refine And.intro (by omega) ?_)
    | (refine nbI fun bq => ?_)
    | ((first | refine zqm ?_ ?_ | refine zgm ?_ ?_ | refine zdm ?_ ?_) <;> (intro h; simp only [h, Bool.not_true, Bool.not_false]))
    | ((first | refine zqs ?_ ?_ | refine zgs ?_ ?_ | refine zds ?_ ?_) <;> (intro h; first | (exfalso; simp at h; omega) | ((try simp only [h]); (try simp at h))))
    | fail)
theorem refWithin_ok (v : Bool) : ∀ (t : Tm) (lv : Int), -1000 ≤ lv → lv ≤ 1000 → ACall Try.prog 50 [eT t, nt .i64 lv, bl (!v)] (fun r => r = bl (withT lv v t)) := by
  refine tm_ind fun t ih lv hl1 hl2 => ?_
  obtain ⟨s, ts⟩ := t
  rw [withT_mk]
  simp only [args_mk, name_mk] at *
  have h1 := refName_ok s
  have h2 := refConstant_ok (.mk s ts)
  have h3 := refIsVariable_ok (.mk s ts)
  simp only [isC, isV, args_mk, name_mk, isEmpty_len] at h2 h3
  by_cases hc : lv < 1 ∨ 4 < ts.length
  · rw [if_pos hc]
    generalize nameS s = a at *
    by_cases h0 : ts.length = 0
    · refine acall_of_awp Try.func50 Try.call50 rfl (by simp [Try.ntmps50]) ?_; simp only [Try.ntmps50, Try.results50]
      cases a
      all_goals
        repeat' (first
    | (refine awp_seqK (fun K hK => ?_))
    | (refine Hide.go (by assumption) ?_)
    | ((first | refine zqd ?_ ?_ | refine zqn ?_ ?_ | refine zgd ?_ ?_ | refine zgn ?_ ?_ | refine zdd ?_ ?_ | refine zdn ?_ ?_) <;> (intro h; first | (exfalso; omega) | (simp only [h, decide_true, decide_false, not_false_eq_true]) | skip))
    | (refine end_ret [] ?_; simp [go_sem, h0])
    | (refine stepK_is rfl (h1) (by simp) ?_)
    | (refine dstepK_is rfl (h1) rfl (by simp) ?_)
    | ((fail_if_success with_reducible (refine Owe.mk ?_)); (simp (disch := omega) [go_sem, h0]))
    | (refine And.intro (by omega) ?_)
    | (refine nbI fun bq => ?_)
    | ((first | refine zqm ?_ ?_ | refine zgm ?_ ?_ | refine zdm ?_ ?_) <;> (intro h; simp only [h, Bool.not_true, Bool.not_false]))
    | ((first | refine zqs ?_ ?_ | refine zgs ?_ ?_ | refine zds ?_ ?_) <;> (intro h; first | (exfalso; simp at h; omega) | ((try simp only [h]); (try simp at h))))
    | fail)
      all_goals omega
    · refine acall_of_awp Try.func50 Try.call50 rfl (by simp [Try.ntmps50]) ?_; simp only [Try.ntmps50, Try.results50]
      cases a
      all_goals
        repeat' (first
    | (refine awp_seqK (fun K hK => ?_))
    | (refine Hide.go (by assumption) ?_)
    | ((first | refine zqd ?_ ?_ | refine zqn ?_ ?_ | refine zgd ?_ ?_ | refine zgn ?_ ?_ | refine zdd ?_ ?_ | refine zdn ?_ ?_) <;> (intro h; first | (exfalso; omega) | (simp only [h, decide_true, decide_false, not_false_eq_true]) | skip))
    | (refine end_ret [] ?_; simp [go_sem, h0])
    | (refine stepK_is rfl (h1) (by simp) ?_)
    | (refine dstepK_is rfl (h1) rfl (by simp) ?_)
    | ((fail_if_success with_reducible (refine Owe.mk ?_)); (simp (disch := omega) [go_sem, h0]))
    | (refine And.intro (by omega) ?_)
    | (refine nbI fun bq => ?_)
    | ((first | refine zqm ?_ ?_ | refine zgm ?_ ?_ | refine zdm ?_ ?_) <;> (intro h; simp only [h, Bool.not_true, Bool.not_false]))
    | ((first | refine zqs ?_ ?_ | refine zgs ?_ ?_ | refine zds ?_ ?_) <;> (intro h; first | (exfalso; simp at h; omega) | ((try simp only [h]); (try simp at h))))
    | fail)
      all_goals omega
  · rw [if_neg hc]
    simp only [not_or] at hc
    obtain ⟨hc1, hc2⟩ := hc
    by_cases h0 : ts.length = 0
    · rw [if_pos h0]
      simp only [h0, decide_true, Bool.true_and] at h2 h3
      generalize constS s = a at *
      generalize varS s = c at *
      refine acall_of_awp Try.func50 Try.call50 rfl (by simp [Try.ntmps50]) ?_; simp only [Try.ntmps50, Try.results50]
      cases a <;> cases v
      all_goals
        repeat' (first
    | (refine awp_seqK (fun K hK => ?_))
    | (refine Hide.go (by assumption) ?_)
    | ((first | refine zqd ?_ ?_ | refine zqn ?_ ?_ | refine zgd ?_ ?_ | refine zgn ?_ ?_ | refine zdd ?_ ?_ | refine zdn ?_ ?_) <;> (intro h; first | (exfalso; omega) | (simp only [h, decide_true, decide_false, not_false_eq_true]) | skip))
    | (refine end_ret [] ?_; simp [go_sem, h0])
    | (refine stepK_is rfl (h1) (by simp) ?_)
    | (refine dstepK_is rfl (h1) rfl (by simp) ?_)
    | (refine stepK_is rfl (h2) (by simp) ?_)
    | (refine dstepK_is rfl (h2) rfl (by simp) ?_)
    | (refine stepK_is rfl (h3) (by simp) ?_)
    | (refine dstepK_is rfl (h3) rfl (by simp) ?_)
    | ((fail_if_success with_reducible (refine Owe.mk ?_)); (simp (disch := omega) [go_sem, h0]))
    | (refine And.intro (by omega) ?_)
    | (refine nbI fun bq => ?_)
    | ((first | refine zqm ?_ ?_ | refine zgm ?_ ?_ | refine zdm ?_ ?_) <;> (intro h; simp only [h, Bool.not_true, Bool.not_false]))
    | ((first | refine zqs ?_ ?_ | refine zgs ?_ ?_ | refine zds ?_ ?_) <;> (intro h; first | (exfalso; simp at h; omega) | ((try simp only [h]); (try simp at h))))
    | fail)
    · rw [if_neg h0]
      clear h2 h3
      cases ha : nameS s with
      | false =>
        rw [ha] at h1
        refine acall_of_awp Try.func50 Try.call50 rfl (by simp [Try.ntmps50]) ?_; simp only [Try.ntmps50, Try.results50]
        repeat' (first
    | (refine awp_seqK (fun K hK => ?_))
    | (refine Hide.go (by assumption) ?_)
    | ((first | refine zqd ?_ ?_ | refine zqn ?_ ?_ | refine zgd ?_ ?_ | refine zgn ?_ ?_ | refine zdd ?_ ?_ | refine zdn ?_ ?_) <;> (intro h; first | (exfalso; omega) | (simp only [h, decide_true, decide_false, not_false_eq_true]) | skip))
    | (refine end_ret [] ?_; simp [go_sem, h0])
    | (refine stepK_is rfl (h1) (by simp) ?_)
    | (refine dstepK_is rfl (h1) rfl (by simp) ?_)
    | ((fail_if_success with_reducible (refine Owe.mk ?_)); (simp (disch := omega) [go_sem, h0]))
    | (refine And.intro (by omega) ?_)
    | (refine nbI fun bq => ?_)
    | ((first | refine zqm ?_ ?_ | refine zgm ?_ ?_ | refine zdm ?_ ?_) <;> (intro h; simp only [h, Bool.not_true, Bool.not_false]))
    | ((first | refine zqs ?_ ?_ | refine zgs ?_ ?_ | refine zds ?_ ?_) <;> (intro h; first | (exfalso; simp at h; omega) | ((try simp only [h]); (try simp at h))))
    | fail)
      | true =>
        rw [ha] at h1
        simp only [Bool.true_and]
        generalize hR : withL (lv - 1) v ts = R
        refine acall_of_awp Try.func50 Try.call50 rfl (by simp [Try.ntmps50]) ?_; simp only [Try.ntmps50, Try.results50]
        repeat' (first
    | (refine awp_seqK (fun K hK => ?_))
    | (refine Hide.go (by assumption) ?_)
    | ((first | refine zqd ?_ ?_ | refine zqn ?_ ?_ | refine zgd ?_ ?_ | refine zgn ?_ ?_ | refine zdd ?_ ?_ | refine zdn ?_ ?_) <;> (intro h; first | (exfalso; omega) | (simp only [h, decide_true, decide_false, not_false_eq_true]) | skip))
    | (refine end_ret [] ?_; simp [go_sem, h0])
    | (refine stepK_is rfl (h1) (by simp) ?_)
    | (refine dstepK_is rfl (h1) rfl (by simp) ?_)
    | ((fail_if_success with_reducible (refine Owe.mk ?_)); (simp (disch := omega) [go_sem, h0]))
    | (refine And.intro (by omega) ?_)
    | (refine nbI fun bq => ?_)
    | ((first | refine zqm ?_ ?_ | refine zgm ?_ ?_ | refine zdm ?_ ?_) <;> (intro h; simp only [h, Bool.not_true, Bool.not_false]))
    | ((first | refine zqs ?_ ?_ | refine zgs ?_ ?_ | refine zds ?_ ?_) <;> (intro h; first | (exfalso; simp at h; omega) | ((try simp only [h]); (try simp at h))))
    | fail)
        refine awp_for [1, 2, 3, 36] [] (fun i : Nat => [(37, nt .i64 i)]) (fun i : Nat => []) (fun i : Nat => ts.length - i) (fun i : Nat => i ≤ ts.length ∧ withL (lv - 1) v (ts.take i) = true) (0) (Le.sub4 rfl (by simp [go_sem])) ⟨?_⟩ ?_
        · exact ⟨Nat.zero_le _, rfl⟩
        intro i ⟨hi, hw⟩ AA hAA; simp only [Go.Ab.keepT_nil, Go.Ab.keepT_cons, Go.Ab.dropO_nil, Go.Ab.dropO_cons, List.contains_cons, List.contains_nil, List.elem_cons, List.elem_nil, Nat.reduceBEq, beq_self_eq_true, Nat.reduceEqDiff, Bool.or_false, Bool.false_or, Bool.or_true, Bool.true_or, Bool.false_eq_true, if_true, if_false, List.cons_append, List.nil_append, List.append_nil]
        by_cases hlt : i < ts.length
        · have hu := ih ts[i] (List.getElem_mem hlt) (lv - 1) (by omega) (by omega)
          have hn := withL_next (lv := lv - 1) (v := v) hlt
          rw [hw, Bool.true_and] at hn
          cases hq : withT (lv - 1) v ts[i] with
          | true =>
            rw [hq] at hu hn
            repeat' (first
    | (refine awp_seqK (fun K hK => ?_))
    | (refine Hide.go (by assumption) ?_)
    | ((first | refine zqd ?_ ?_ | refine zqn ?_ ?_ | refine zgd ?_ ?_ | refine zgn ?_ ?_ | refine zdd ?_ ?_ | refine zdn ?_ ?_) <;> (intro h; first | (exfalso; omega) | (simp only [h, decide_true, decide_false, not_false_eq_true]) | skip))
    | (refine end_ret [] ?_; simp [go_sem, hlt])
    | (refine stepK_is rfl (hu) (by simp) ?_)
    | (refine dstepK_is rfl (hu) rfl (by simp) ?_)
    | (refine (hAA.next (i + 1) (Le.sub4 rfl (by simp [go_sem])) (by (try dsimp only); omega) ?_))
    | ((fail_if_success with_reducible (refine Owe.mk ?_)); (simp (disch := omega) [go_sem, hlt]))
    | (refine And.intro (by omega) ?_)
    | (refine nbI fun bq => ?_)
    | ((first | refine zqm ?_ ?_ | refine zgm ?_ ?_ | refine zdm ?_ ?_) <;> (intro h; simp only [h, Bool.not_true, Bool.not_false]))
    | ((first | refine zqs ?_ ?_ | refine zgs ?_ ?_ | refine zds ?_ ?_) <;> (intro h; first | (exfalso; simp at h; omega) | ((try simp only [h]); (try simp at h))))
    | fail)
            exact ⟨⟨hlt, hn⟩⟩
          | false =>
            rw [hq] at hu
            have := withL_false (List.getElem_mem hlt) hq
            rw [this] at hR
            subst hR
            repeat' (first
    | (refine awp_seqK (fun K hK => ?_))
    | (refine Hide.go (by assumption) ?_)
    | ((first | refine zqd ?_ ?_ | refine zqn ?_ ?_ | refine zgd ?_ ?_ | refine zgn ?_ ?_ | refine zdd ?_ ?_ | refine zdn ?_ ?_) <;> (intro h; first | (exfalso; omega) | (simp only [h, decide_true, decide_false, not_false_eq_true]) | skip))
    | (refine end_ret [] ?_; simp [go_sem, hlt])
    | (refine stepK_is rfl (hu) (by simp) ?_)
    | (refine dstepK_is rfl (hu) rfl (by simp) ?_)
    | ((fail_if_success with_reducible (refine Owe.mk ?_)); (simp (disch := omega) [go_sem, hlt]))
    | (refine And.intro (by omega) ?_)
    | (refine nbI fun bq => ?_)
    | ((first | refine zqm ?_ ?_ | refine zgm ?_ ?_ | refine zdm ?_ ?_) <;> (intro h; simp only [h, Bool.not_true, Bool.not_false]))
    | ((first | refine zqs ?_ ?_ | refine zgs ?_ ?_ | refine zds ?_ ?_) <;> (intro h; first | (exfalso; simp at h; omega) | ((try simp only [h]); (try simp at h))))
    | fail)
        · obtain rfl : i = ts.length := by omega
          rw [List.take_length] at hw
          rw [hw] at hR
          subst hR
          repeat' (first
    | (refine awp_seqK (fun K hK => ?_))
    | (refine Hide.go (by assumption) ?_)
    | ((first | refine zqd ?_ ?_ | refine zqn ?_ ?_ | refine zgd ?_ ?_ | refine zgn ?_ ?_ | refine zdd ?_ ?_ | refine zdn ?_ ?_) <;> (intro h; first | (exfalso; omega) | (simp only [h, decide_true, decide_false, not_false_eq_true]) | skip))
    | (refine end_ret [] ?_; simp [go_sem])
    | ((fail_if_success with_reducible (refine Owe.mk ?_)); (simp (disch := omega) [go_sem]))
    | (refine And.intro (by omega) ?_)
    | (refine nbI fun bq => ?_)
    | ((first | refine zqm ?_ ?_ | refine zgm ?_ ?_ | refine zdm ?_ ?_) <;> (intro h; simp only [h, Bool.not_true, Bool.not_false]))
    | ((first | refine zqs ?_ ?_ | refine zgs ?_ ?_ | refine zds ?_ ?_) <;> (intro h; first | (exfalso; simp at h; omega) | ((try simp only [h]); (try simp at h))))
    | fail)
theorem Valid_ok (t : Tm) : ACall Try.prog 18 [eT t] (fun r => r = bl (withT 4 true t)) := by
  have h := within_ok true t 4 (by decide) (by decide)
  generalize withT 4 true t = b at *
  refine acall_of_awp Try.func18 Try.call18 rfl (by simp [Try.ntmps18]) ?_; simp only [Try.ntmps18, Try.results18]
  repeat' (first
    | (refine awp_seqK (fun K hK => ?_))
    | (refine Hide.go (by assumption) ?_)
    | ((first | refine zqd ?_ ?_ | refine zqn ?_ ?_ | refine zgd ?_ ?_ | refine zgn ?_ ?_ | refine zdd ?_ ?_ | refine zdn ?_ ?_) <;> (intro h; first | (exfalso; omega) | (simp only [h, decide_true, decide_false, not_false_eq_true]) | skip))
    | (refine end_ret [] ?_; simp [go_sem])
    | (refine stepK_is rfl (h) (by simp) ?_)
    | (refine dstepK_is rfl (h) rfl (by simp) ?_)
    | ((fail_if_success with_reducible (refine Owe.mk ?_)); (simp (disch := omega) [go_sem]))
    | (refine And.intro (by omega) ?_)
    | (refine nbI fun bq => ?_)
    | ((first | refine zqm ?_ ?_ | refine zgm ?_ ?_ | refine zdm ?_ ?_) <;> (intro h; simp only [h, Bool.not_true, Bool.not_false]))
    | ((first | refine zqs ?_ ?_ | refine zgs ?_ ?_ | refine zds ?_ ?_) <;> (intro h; first | (exfalso; simp at h; omega) | ((try simp only [h]); (try simp at h))))
    | fail)
theorem Ground_ok (t : Tm) : ACall Try.prog 20 [eT t] (fun r => r = bl (withT 4 false t)) := by
  have h := within_ok false t 4 (by decide) (by decide)
  generalize withT 4 false t = b at *
  refine acall_of_awp Try.func20 Try.call20 rfl (by simp [Try.ntmps20]) ?_; simp only [Try.ntmps20, Try.results20]
  repeat' (first
    | (refine awp_seqK (fun K hK => ?_))
    | (refine Hide.go (by assumption) ?_)
    | ((first | refine zqd ?_ ?_ | refine zqn ?_ ?_ | refine zgd ?_ ?_ | refine zgn ?_ ?_ | refine zdd ?_ ?_ | refine zdn ?_ ?_) <;> (intro h; first | (exfalso; omega) | (simp only [h, decide_true, decide_false, not_false_eq_true]) | skip))
    | (refine end_ret [] ?_; simp [go_sem])
    | (refine stepK_is rfl (h) (by simp) ?_)
    | (refine dstepK_is rfl (h) rfl (by simp) ?_)
    | ((fail_if_success with_reducible (refine Owe.mk ?_)); (simp (disch := omega) [go_sem]))
    | (refine And.intro (by omega) ?_)
    | (refine nbI fun bq => ?_)
    | ((first | refine zqm ?_ ?_ | refine zgm ?_ ?_ | refine zdm ?_ ?_) <;> (intro h; simp only [h, Bool.not_true, Bool.not_false]))
    | ((first | refine zqs ?_ ?_ | refine zgs ?_ ?_ | refine zds ?_ ?_) <;> (intro h; first | (exfalso; simp at h; omega) | ((try simp only [h]); (try simp at h))))
    | fail)
theorem refValid_ok (t : Tm) : ACall Try.prog 19 [eT t] (fun r => r = bl (withT 4 true t)) := by
  have h := refWithin_ok true t 4 (by decide) (by decide)
  generalize withT 4 true t = b at *
  refine acall_of_awp Try.func19 Try.call19 rfl (by simp [Try.ntmps19]) ?_; simp only [Try.ntmps19, Try.results19]
  repeat' (first
    | (refine awp_seqK (fun K hK => ?_))
    | (refine Hide.go (by assumption) ?_)
    | ((first | refine zqd ?_ ?_ | refine zqn ?_ ?_ | refine zgd ?_ ?_ | refine zgn ?_ ?_ | refine zdd ?_ ?_ | refine zdn ?_ ?_) <;> (intro h; first | (exfalso; omega) | (simp only [h, decide_true, decide_false, not_false_eq_true]) | skip))
    | (refine end_ret [] ?_; simp [go_sem])
    | (refine stepK_is rfl (h) (by simp) ?_)
    | (refine dstepK_is rfl (h) rfl (by simp) ?_)
    | ((fail_if_success with_reducible (refine Owe.mk ?_)); (simp (disch := omega) [go_sem]))
    | (refine And.intro (by omega) ?_)
    | (refine nbI fun bq => ?_)
    | ((first | refine zqm ?_ ?_ | refine zgm ?_ ?_ | refine zdm ?_ ?_) <;> (intro h; simp only [h, Bool.not_true, Bool.not_false]))
    | ((first | refine zqs ?_ ?_ | refine zgs ?_ ?_ | refine zds ?_ ?_) <;> (intro h; first | (exfalso; simp at h; omega) | ((try simp only [h]); (try simp at h))))
    | fail)
theorem refGround_ok (t : Tm) : ACall Try.prog 21 [eT t] (fun r => r = bl (withT 4 false t)) := by
  have h := refWithin_ok false t 4 (by decide) (by decide)
  generalize withT 4 false t = b at *
  refine acall_of_awp Try.func21 Try.call21 rfl (by simp [Try.ntmps21]) ?_; simp only [Try.ntmps21, Try.results21]
  repeat' (first
    | (refine awp_seqK (fun K hK => ?_))
    | (refine Hide.go (by assumption) ?_)
    | ((first | refine zqd ?_ ?_ | refine zqn ?_ ?_ | refine zgd ?_ ?_ | refine zgn ?_ ?_ | refine zdd ?_ ?_ | refine zdn ?_ ?_) <;> (intro h; first | (exfalso; omega) | (simp only [h, decide_true, decide_false, not_false_eq_true]) | skip))
    | (refine end_ret [] ?_; simp [go_sem])
    | (refine stepK_is rfl (h) (by simp) ?_)
    | (refine dstepK_is rfl (h) rfl (by simp) ?_)
    | ((fail_if_success with_reducible (refine Owe.mk ?_)); (simp (disch := omega) [go_sem]))
    | (refine And.intro (by omega) ?_)
    | (refine nbI fun bq => ?_)
    | ((first | refine zqm ?_ ?_ | refine zgm ?_ ?_ | refine zdm ?_ ?_) <;> (intro h; simp only [h, Bool.not_true, Bool.not_false]))
    | ((first | refine zqs ?_ ?_ | refine zgs ?_ ?_ | refine zds ?_ ?_) <;> (intro h; first | (exfalso; simp at h; omega) | ((try simp only [h]); (try simp at h))))
    | fail)
end Go.Proofs.Ytldecgghhaoliaa
