/-
  Leaf1: the leaves of a term.
-/
import Derived.Test.YtldecgghhaoliaaTerm1
import Derived.Test.YtldecgghhaoliaaTy2
namespace Go.Proofs.Ytldecgghhaoliaa
open Go.Ab
set_option linter.unusedSimpArgs false
set_option maxRecDepth 100000
set_option maxHeartbeats 8000000
def eStr (s : ByteArray) : AV := .sc (.string s)
mutual
def lvs : Tm → List ByteArray
  | .mk s ts => if ts.length = 0 then [s] else lvsS ts
def lvsS : List Tm → List ByteArray
  | [] => []
  | t :: r => lvs t ++ lvsS r
end
theorem lvs_mk {s : ByteArray} {ts : List Tm} : lvs (.mk s ts) = if ts.length = 0 then [s] else lvsS ts := rfl
theorem lvsS_append : ∀ a b : List Tm, lvsS (a ++ b) = lvsS a ++ lvsS b
  | [], b => by simp [lvsS]
  | t :: r, b => by simp [lvsS, lvsS_append r b]
theorem lvsS_next {ts : List Tm} {i : Nat} (h : i < ts.length) : lvsS (ts.take (i + 1)) = lvsS (ts.take i) ++ lvs ts[i] := by
  rw [take_next h, lvsS_append]; simp [lvsS]
theorem lvsS_take_le (ts : List Tm) (i : Nat) : (lvsS (ts.take i)).length ≤ (lvsS ts).length := by
  have := lvsS_append (ts.take i) (ts.drop i)
  rw [List.take_append_drop] at this
  simp only [this, List.length_append]; omega
theorem lvs_pos : ∀ t : Tm, 0 < (lvs t).length := by
  refine tm_ind fun t ih => ?_
  obtain ⟨s, ts⟩ := t
  simp only [args_mk] at ih
  rw [lvs_mk]
  split
  · simp
  · cases ts with
    | nil => simp at *
    | cons u r =>
      have := ih u (by simp)
      simp only [lvsS, List.length_append]; omega
theorem lvsS_ge : ∀ ts : List Tm, ts.length ≤ (lvsS ts).length
  | [] => Nat.le_refl _
  | t :: r => by
    have := lvsS_ge r
    have := lvs_pos t
    simp only [lvsS, List.length_append, List.length_cons]; omega
theorem leaves_row : ∀ t : Tm, ∀ xs : List ByteArray, xs.length + (lvs t).length ≤ 1000000 → MCall Try.prog 65 [.ref 1000 0 xs.length, eT t] [(1000, ⟨true, false, true, 1, xs.map eStr, 0⟩)] (fun r o' => r = .ref 1001 0 (xs ++ lvs t).length ∧ o' = [(1001, ⟨true, false, false, 1, (xs ++ lvs t).map eStr, 0⟩)]) := by
  refine tm_ind fun t ih xs hb => ?_
  obtain ⟨s, ts⟩ := t
  simp only [args_mk, name_mk] at *
  rw [lvs_mk] at *
  by_cases h0 : ts.length = 0
  · rw [if_pos h0] at hb ⊢
    simp only [List.length_cons, List.length_nil] at hb
    refine mcall_of_awpL Try.func65 Try.call65 rfl (by simp [Try.ntmps65]) ?_; simp only [Try.ntmps65, Try.results65]
    repeat' (first
    | (refine awp_seqK (fun K hK => ?_))
    | (refine Hide.go (by assumption) ?_)
    | ((first | refine zqd ?_ ?_ | refine zqn ?_ ?_ | refine zgd ?_ ?_ | refine zgn ?_ ?_ | refine zdd ?_ ?_ | refine zdn ?_ ?_) <;> (intro h; first | (exfalso; omega) | (simp only [h, decide_true, decide_false, not_false_eq_true]) | skip))
    | (refine end_ret [] ?_; simp [go_sem, h0])
    | ((fail_if_success with_reducible (refine Owe.mk ?_)); (simp (disch := omega) [go_sem, h0]))
    | (refine And.intro (by omega) ?_)
    | (refine nbI fun bq => ?_)
    | ((first | refine zqm ?_ ?_ | refine zgm ?_ ?_ | refine zdm ?_ ?_) <;> (intro h; simp only [h, Bool.not_true, Bool.not_false]))
    | ((first | refine zqs ?_ ?_ | refine zgs ?_ ?_ | refine zds ?_ ?_) <;> (intro h; first | (exfalso; simp at h; omega) | ((try simp only [h]); (try simp at h))))
    | fail)
    refine endL_ret ⟨28, [(4, .ref 1001 0 (xs ++ [s]).length)], [(1001, ⟨true, false, false, 1, (xs ++ [s]).map eStr, 0⟩)]⟩ [.ref 1001 0 (xs ++ [s]).length] (Le.renSub [(15, 1001)] [(1001, 15)] (by simp [go_sem, eStr]) (by simp [go_sem, eStr]) (Le.sub4 rfl (by simp [go_sem, eStr]))) (by simp [go_sem, eStr]) ⟨by simp [pack], by simp⟩
  · rw [if_neg h0] at hb ⊢
    have hle := lvsS_take_le ts
    have hge := lvsS_ge ts
    refine mcall_of_awpL Try.func65 Try.call65 rfl (by simp [Try.ntmps65]) ?_; simp only [Try.ntmps65, Try.results65]
    repeat' (first
    | (refine awp_seqK (fun K hK => ?_))
    | (refine Hide.go (by assumption) ?_)
    | ((first | refine zqd ?_ ?_ | refine zqn ?_ ?_ | refine zgd ?_ ?_ | refine zgn ?_ ?_ | refine zdd ?_ ?_ | refine zdn ?_ ?_) <;> (intro h; first | (exfalso; omega) | (simp only [h, decide_true, decide_false, not_false_eq_true]) | skip))
    | (refine end_ret [] ?_; simp [go_sem, h0])
    | ((fail_if_success with_reducible (refine Owe.mk ?_)); (simp (disch := omega) [go_sem, h0]))
    | (refine And.intro (by omega) ?_)
    | (refine nbI fun bq => ?_)
    | ((first | refine zqm ?_ ?_ | refine zgm ?_ ?_ | refine zdm ?_ ?_) <;> (intro h; simp only [h, Bool.not_true, Bool.not_false]))
    | ((first | refine zqs ?_ ?_ | refine zgs ?_ ?_ | refine zds ?_ ?_) <;> (intro h; first | (exfalso; simp at h; omega) | ((try simp only [h]); (try simp at h))))
    | fail)
    refine awp_for [17, 18] [900, 1000] (fun i : Nat => [(19, nt .i64 i), (0, .ref 900 0 (xs ++ lvsS (ts.take i)).length)]) (fun i : Nat => [(900, ⟨true, false, false, 1, (xs ++ lvsS (ts.take i)).map eStr, 0⟩)]) (fun i : Nat => ts.length - i) (fun i : Nat => i ≤ ts.length) (0) (by refine Le.trans ?_ (Le.move (i := 0) (T := 1000) (T' := 900) rfl (by show (0 : Nat) ≠ 1; decide) rfl rfl rfl); exact (Le.sub4 rfl (by simp [go_sem, List.take_zero, lvsS]))) ⟨?_⟩ ?_
    · exact Nat.zero_le _
    intro i hi AA hAA; simp only [Go.Ab.keepT_nil, Go.Ab.keepT_cons, Go.Ab.dropO_nil, Go.Ab.dropO_cons, List.contains_cons, List.contains_nil, List.elem_cons, List.elem_nil, Nat.reduceBEq, beq_self_eq_true, Nat.reduceEqDiff, Bool.or_false, Bool.false_or, Bool.or_true, Bool.true_or, Bool.false_eq_true, if_true, if_false, List.cons_append, List.nil_append, List.append_nil]
    by_cases hlt : i < ts.length
    · have hn := lvsS_next hlt
      have hl1 := hle (i + 1)
      rw [hn] at hl1
      rw [List.length_append] at hl1
      have hu := ih ts[i] (List.getElem_mem hlt) (xs ++ lvsS (ts.take i)) (by rw [List.length_append]; omega)
      rw [List.append_assoc, ← hn] at hu
      generalize xs ++ lvsS (ts.take i) = A at *
      repeat' (first
    | (refine awp_seqK (fun K hK => ?_))
    | (refine Hide.go (by assumption) ?_)
    | ((first | refine zqd ?_ ?_ | refine zqn ?_ ?_ | refine zgd ?_ ?_ | refine zgn ?_ ?_ | refine zdd ?_ ?_ | refine zdn ?_ ?_) <;> (intro h; first | (exfalso; omega) | (simp only [h, decide_true, decide_false, not_false_eq_true]) | skip))
    | (refine end_ret [] ?_; simp [go_sem, hlt])
    | ((fail_if_success with_reducible (refine Owe.mk ?_)); (simp (disch := omega) [go_sem, hlt]))
    | (refine And.intro (by omega) ?_)
    | (refine nbI fun bq => ?_)
    | ((first | refine zqm ?_ ?_ | refine zgm ?_ ?_ | refine zdm ?_ ?_) <;> (intro h; simp only [h, Bool.not_true, Bool.not_false]))
    | ((first | refine zqs ?_ ?_ | refine zgs ?_ ?_ | refine zds ?_ ?_) <;> (intro h; first | (exfalso; simp at h; omega) | ((try simp only [h]); (try simp at h))))
    | fail)
      refine stepK_fis [(1000, 900)] [(900, 1000)] 10000 _ _ (Fits.mk' (by simp [go_sem]) (by simp [go_sem])) (by simp [go_sem]) (by simp [go_sem]) (hu) (by simp [go_sem]) (by simp [go_sem]) ?_
      repeat' (first
    | (refine awp_seqK (fun K hK => ?_))
    | (refine Hide.go (by assumption) ?_)
    | ((first | refine zqd ?_ ?_ | refine zqn ?_ ?_ | refine zgd ?_ ?_ | refine zgn ?_ ?_ | refine zdd ?_ ?_ | refine zdn ?_ ?_) <;> (intro h; first | (exfalso; omega) | (simp only [h, decide_true, decide_false, not_false_eq_true]) | skip))
    | (refine end_ret [] ?_; simp [go_sem, hlt])
    | (refine (hAA.next (i + 1) (Le.renSub [(11001, 900)] [(900, 11001)] (by simp [go_sem]) (by simp [go_sem]) (Le.sub4 rfl (by simp [go_sem]))) (by (try dsimp only); omega) ?_))
    | ((fail_if_success with_reducible (refine Owe.mk ?_)); (simp (disch := omega) [go_sem, hlt]))
    | (refine And.intro (by omega) ?_)
    | (refine nbI fun bq => ?_)
    | ((first | refine zqm ?_ ?_ | refine zgm ?_ ?_ | refine zdm ?_ ?_) <;> (intro h; simp only [h, Bool.not_true, Bool.not_false]))
    | ((first | refine zqs ?_ ?_ | refine zgs ?_ ?_ | refine zds ?_ ?_) <;> (intro h; first | (exfalso; simp at h; omega) | ((try simp only [h]); (try simp at h))))
    | fail)
      all_goals (first | omega | skip)
      exact ⟨hlt⟩
    · obtain rfl : i = ts.length := by omega
      rw [List.take_length]
      repeat' (first
    | (refine awp_seqK (fun K hK => ?_))
    | (refine Hide.go (by assumption) ?_)
    | ((first | refine zqd ?_ ?_ | refine zqn ?_ ?_ | refine zgd ?_ ?_ | refine zgn ?_ ?_ | refine zdd ?_ ?_ | refine zdn ?_ ?_) <;> (intro h; first | (exfalso; omega) | (simp only [h, decide_true, decide_false, not_false_eq_true]) | skip))
    | (refine end_ret [] ?_; simp [go_sem])
    | ((fail_if_success with_reducible (refine Owe.mk ?_)); (simp (disch := omega) [go_sem]))
    | (refine And.intro (by omega) ?_)
    | (refine nbI fun bq => ?_)
    | ((first | refine zqm ?_ ?_ | refine zgm ?_ ?_ | refine zdm ?_ ?_) <;> (intro h; simp only [h, Bool.not_true, Bool.not_false]))
    | ((first | refine zqs ?_ ?_ | refine zgs ?_ ?_ | refine zds ?_ ?_) <;> (intro h; first | (exfalso; simp at h; omega) | ((try simp only [h]); (try simp at h))))
    | fail)
      refine endL_ret ⟨28, [(4, .ref 1001 0 (xs ++ lvsS ts).length)], [(1001, ⟨true, false, false, 1, (xs ++ lvsS ts).map eStr, 0⟩)]⟩ [.ref 1001 0 (xs ++ lvsS ts).length] (Le.renSub [(900, 1001)] [(1001, 900)] (by simp [go_sem]) (by simp [go_sem]) (Le.sub4 rfl (by simp [go_sem]))) (by simp [go_sem]) ⟨by simp [pack], by simp⟩
theorem leaves_ok (t : Tm) (hb : (lvs t).length ≤ 1000000) : ACall Try.prog 65 [.list false true [], eT t] (fun r => r = .own 1 ((lvs t).map eStr)) := by
  obtain ⟨s, ts⟩ := t
  rw [lvs_mk] at *
  by_cases h0 : ts.length = 0
  · rw [if_pos h0] at hb ⊢
    refine acall_of_awp Try.func65 Try.call65 rfl (by simp [Try.ntmps65]) ?_; simp only [Try.ntmps65, Try.results65]
    repeat' (first
    | (refine awp_seqK (fun K hK => ?_))
    | (refine Hide.go (by assumption) ?_)
    | ((first | refine zqd ?_ ?_ | refine zqn ?_ ?_ | refine zgd ?_ ?_ | refine zgn ?_ ?_ | refine zdd ?_ ?_ | refine zdn ?_ ?_) <;> (intro h; first | (exfalso; omega) | (simp only [h, decide_true, decide_false, not_false_eq_true]) | skip))
    | (refine end_ret [] ?_; simp [go_sem, h0, eStr])
    | ((fail_if_success with_reducible (refine Owe.mk ?_)); (simp (disch := omega) [go_sem, h0, eStr]))
    | (refine And.intro (by omega) ?_)
    | (refine nbI fun bq => ?_)
    | ((first | refine zqm ?_ ?_ | refine zgm ?_ ?_ | refine zdm ?_ ?_) <;> (intro h; simp only [h, Bool.not_true, Bool.not_false]))
    | ((first | refine zqs ?_ ?_ | refine zgs ?_ ?_ | refine zds ?_ ?_) <;> (intro h; first | (exfalso; simp at h; omega) | ((try simp only [h]); (try simp at h))))
    | fail)
  · rw [if_neg h0] at hb ⊢
    have hle := lvsS_take_le ts
    have hge := lvsS_ge ts
    refine acall_of_awp Try.func65 Try.call65 rfl (by simp [Try.ntmps65]) ?_; simp only [Try.ntmps65, Try.results65]
    repeat' (first
    | (refine awp_seqK (fun K hK => ?_))
    | (refine Hide.go (by assumption) ?_)
    | ((first | refine zqd ?_ ?_ | refine zqn ?_ ?_ | refine zgd ?_ ?_ | refine zgn ?_ ?_ | refine zdd ?_ ?_ | refine zdn ?_ ?_) <;> (intro h; first | (exfalso; omega) | (simp only [h, decide_true, decide_false, not_false_eq_true]) | skip))
    | (refine end_ret [] ?_; simp [go_sem, h0])
    | ((fail_if_success with_reducible (refine Owe.mk ?_)); (simp (disch := omega) [go_sem, h0]))
    | (refine And.intro (by omega) ?_)
    | (refine nbI fun bq => ?_)
    | ((first | refine zqm ?_ ?_ | refine zgm ?_ ?_ | refine zdm ?_ ?_) <;> (intro h; simp only [h, Bool.not_true, Bool.not_false]))
    | ((first | refine zqs ?_ ?_ | refine zgs ?_ ?_ | refine zds ?_ ?_) <;> (intro h; first | (exfalso; simp at h; omega) | ((try simp only [h]); (try simp at h))))
    | fail)
    refine awp_for [17, 18] [900] (fun i : Nat => [(19, nt .i64 i), (0, .ref 900 0 (lvsS (ts.take i)).length)]) (fun i : Nat => [(900, ⟨true, false, false, 1, (lvsS (ts.take i)).map eStr, 0⟩)]) (fun i : Nat => ts.length - i) (fun i : Nat => i ≤ ts.length) (0) (by refine Le.trans ?_ (Le.nil (i := 0) (T := 900) (es := 1) rfl); exact (Le.sub4 rfl (by simp [go_sem, List.take_zero, lvsS]))) ⟨?_⟩ ?_
    · exact Nat.zero_le _
    intro i hi AA hAA; simp only [Go.Ab.keepT_nil, Go.Ab.keepT_cons, Go.Ab.dropO_nil, Go.Ab.dropO_cons, List.contains_cons, List.contains_nil, List.elem_cons, List.elem_nil, Nat.reduceBEq, beq_self_eq_true, Nat.reduceEqDiff, Bool.or_false, Bool.false_or, Bool.or_true, Bool.true_or, Bool.false_eq_true, if_true, if_false, List.cons_append, List.nil_append, List.append_nil]
    by_cases hlt : i < ts.length
    · have hn := lvsS_next hlt
      have hl1 := hle (i + 1)
      rw [hn] at hl1
      rw [List.length_append] at hl1
      have hu := leaves_row ts[i] (lvsS (ts.take i)) (by omega)
      rw [← hn] at hu
      generalize lvsS (ts.take i) = A at *
      repeat' (first
    | (refine awp_seqK (fun K hK => ?_))
    | (refine Hide.go (by assumption) ?_)
    | ((first | refine zqd ?_ ?_ | refine zqn ?_ ?_ | refine zgd ?_ ?_ | refine zgn ?_ ?_ | refine zdd ?_ ?_ | refine zdn ?_ ?_) <;> (intro h; first | (exfalso; omega) | (simp only [h, decide_true, decide_false, not_false_eq_true]) | skip))
    | (refine end_ret [] ?_; simp [go_sem, hlt])
    | ((fail_if_success with_reducible (refine Owe.mk ?_)); (simp (disch := omega) [go_sem, hlt]))
    | (refine And.intro (by omega) ?_)
    | (refine nbI fun bq => ?_)
    | ((first | refine zqm ?_ ?_ | refine zgm ?_ ?_ | refine zdm ?_ ?_) <;> (intro h; simp only [h, Bool.not_true, Bool.not_false]))
    | ((first | refine zqs ?_ ?_ | refine zgs ?_ ?_ | refine zds ?_ ?_) <;> (intro h; first | (exfalso; simp at h; omega) | ((try simp only [h]); (try simp at h))))
    | fail)
      refine stepK_fis [(1000, 900)] [(900, 1000)] 10000 _ _ (Fits.mk' (by simp [go_sem]) (by simp [go_sem])) (by simp [go_sem]) (by simp [go_sem]) (hu) (by simp [go_sem]) (by simp [go_sem]) ?_
      repeat' (first
    | (refine awp_seqK (fun K hK => ?_))
    | (refine Hide.go (by assumption) ?_)
    | ((first | refine zqd ?_ ?_ | refine zqn ?_ ?_ | refine zgd ?_ ?_ | refine zgn ?_ ?_ | refine zdd ?_ ?_ | refine zdn ?_ ?_) <;> (intro h; first | (exfalso; omega) | (simp only [h, decide_true, decide_false, not_false_eq_true]) | skip))
    | (refine end_ret [] ?_; simp [go_sem, hlt])
    | (refine (hAA.next (i + 1) (Le.renSub [(11001, 900)] [(900, 11001)] (by simp [go_sem]) (by simp [go_sem]) (Le.sub4 rfl (by simp [go_sem]))) (by (try dsimp only); omega) ?_))
    | ((fail_if_success with_reducible (refine Owe.mk ?_)); (simp (disch := omega) [go_sem, hlt]))
    | (refine And.intro (by omega) ?_)
    | (refine nbI fun bq => ?_)
    | ((first | refine zqm ?_ ?_ | refine zgm ?_ ?_ | refine zdm ?_ ?_) <;> (intro h; simp only [h, Bool.not_true, Bool.not_false]))
    | ((first | refine zqs ?_ ?_ | refine zgs ?_ ?_ | refine zds ?_ ?_) <;> (intro h; first | (exfalso; simp at h; omega) | ((try simp only [h]); (try simp at h))))
    | fail)
      all_goals (first | omega | skip)
      exact ⟨hlt⟩
    · obtain rfl : i = ts.length := by omega
      rw [List.take_length]
      repeat' (first
    | (refine awp_seqK (fun K hK => ?_))
    | (refine Hide.go (by assumption) ?_)
    | ((first | refine zqd ?_ ?_ | refine zqn ?_ ?_ | refine zgd ?_ ?_ | refine zgn ?_ ?_ | refine zdd ?_ ?_ | refine zdn ?_ ?_) <;> (intro h; first | (exfalso; omega) | (simp only [h, decide_true, decide_false, not_false_eq_true]) | skip))
    | (refine end_ret [] ?_; simp [go_sem])
    | ((fail_if_success with_reducible (refine Owe.mk ?_)); (simp (disch := omega) [go_sem]))
    | (refine And.intro (by omega) ?_)
    | (refine nbI fun bq => ?_)
    | ((first | refine zqm ?_ ?_ | refine zgm ?_ ?_ | refine zdm ?_ ?_) <;> (intro h; simp only [h, Bool.not_true, Bool.not_false]))
    | ((first | refine zqs ?_ ?_ | refine zgs ?_ ?_ | refine zds ?_ ?_) <;> (intro h; first | (exfalso; simp at h; omega) | ((try simp only [h]); (try simp at h))))
    | fail)
end Go.Proofs.Ytldecgghhaoliaa
