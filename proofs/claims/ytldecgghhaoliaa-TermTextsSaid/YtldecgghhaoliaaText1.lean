/-
  Text1: the text of a term, written into a builder.
-/
import Derived.Test.YtldecgghhaoliaaText0
namespace Go.Proofs.Ytldecgghhaoliaa
open Go.Ab
set_option linter.unusedSimpArgs false
set_option maxRecDepth 100000
set_option maxHeartbeats 4000000
theorem txtS_get {ts : List Tm} {i : Nat} (h : i < ts.length) : (txt ts[i]).length ≤ (txtS ts).tail.length := by
  have h1 := txtS_append (ts.take i) (ts.drop i)
  rw [List.take_append_drop, List.drop_eq_getElem_cons h] at h1
  simp only [txtS] at h1
  simp only [List.length_tail, h1, List.length_append, List.length_cons]; omega
/-- What is written of the first i arguments. -/
def tlS (ts : List Tm) (i : Nat) : List UInt8 := (txtS (ts.take i)).tail
theorem tlS_zero (ts : List Tm) : tlS ts 0 = [] := rfl
theorem tlS_one {ts : List Tm} (h : 0 < ts.length) : tlS ts 1 = txt ts[0] := txtS_first h
theorem tlS_next {ts : List Tm} {i : Nat} (h : i < ts.length) (h0 : 0 < i) : tlS ts (i + 1) = tlS ts i ++ 44 :: txt ts[i] := txtS_next h h0
theorem tlS_all (ts : List Tm) : tlS ts ts.length = (txtS ts).tail := by unfold tlS; rw [List.take_length]
theorem tlS_le (ts : List Tm) (i : Nat) : (tlS ts i).length ≤ (txtS ts).tail.length := txtS_take_le ts i
theorem txtS_len : ∀ ts : List Tm, ts.length ≤ (txtS ts).length
  | [] => by simp [txtS]
  | t :: r => by have := txtS_len r; simp only [txtS, List.length_cons, List.length_append]; omega
theorem txtS_len1 (ts : List Tm) : ts.length ≤ (txtS ts).tail.length + 1 := by have := txtS_len ts; rw [List.length_tail]; omega
theorem write_buf : ∀ (t : Tm) (l : List UInt8), l.length + (txt t).length ≤ 3000000 → MCall Try.prog 51 [.ptr 1000 0 0, eT t] (bBuf l) (fun r o' => r = .tup [] ∧ o' = bOut (l ++ txt t)) := by
  refine tm_ind fun t ih l hb => ?_
  obtain ⟨s, ts⟩ := t
  rw [txt_mk] at *
  simp only [args_mk, name_mk] at *
  have hsl := bytesS_len s
  by_cases h0 : ts.length = 0
  · rw [if_pos h0] at *
    refine mcall_of_awpL Try.func51 Try.call51 rfl (by simp [Try.ntmps51]) ?_; simp only [Try.ntmps51, Try.results51]
    repeat' (first
    | (refine awp_seqK (fun K hK => ?_))
    | (refine Hide.go (by assumption) ?_)
    | ((first | refine zqd ?_ ?_ | refine zqn ?_ ?_ | refine zgd ?_ ?_ | refine zgn ?_ ?_ | refine zdd ?_ ?_ | refine zdn ?_ ?_) <;> (intro h; first | (exfalso; omega) | (simp only [h, decide_true, decide_false, not_false_eq_true]) | skip))
    | (refine end_ret [] ?_; simp [go_sem])
    | ((fail_if_success with_reducible (refine Owe.mk ?_)); (simp (disch := omega) [go_sem]))
    | (refine And.intro (by omega) ?_)
    | (refine nbI fun bq => ?_)
    | ((first | refine zqm ?_ ?_ | refine zgm ?_ ?_ | refine zdm ?_ ?_) <;> (intro h; simp only [h, Bool.not_true, Bool.not_false]))
    | ((first | refine zqs ?_ ?_ | refine zgs ?_ ?_ | refine zds ?_ ?_) <;> (intro h; first | (exfalso; simp at h; omega) | ((try simp only [h]); (try simp at h))))
    | fail)
    refine stepK_fis [] [] 10000 _ _ (Fits.mk' (by simp [go_sem]) (by simp [go_sem])) (by simp [go_sem]) (by simp [go_sem]) (WriteString_buf l s (by omega)) (by simp [go_sem]) (by simp [go_sem]) ?_
    repeat' (first
    | (refine awp_seqK (fun K hK => ?_))
    | (refine Hide.go (by assumption) ?_)
    | ((first | refine zqd ?_ ?_ | refine zqn ?_ ?_ | refine zgd ?_ ?_ | refine zgn ?_ ?_ | refine zdd ?_ ?_ | refine zdn ?_ ?_) <;> (intro h; first | (exfalso; omega) | (simp only [h, decide_true, decide_false, not_false_eq_true]) | skip))
    | (refine end_ret [] ?_; simp [go_sem, h0])
    | ((fail_if_success with_reducible (refine Owe.mk ?_)); (simp (disch := omega) [go_sem, h0]))
    | (refine And.intro (by omega) ?_)
    | (refine nbI fun bq => ?_)
    | ((first | refine zqm ?_ ?_ | refine zgm ?_ ?_ | refine zdm ?_ ?_) <;> (intro h; simp only [h, Bool.not_true, Bool.not_false]))
    | ((first | refine zqs ?_ ?_ | refine zgs ?_ ?_ | refine zds ?_ ?_) <;> (intro h; first | (exfalso; simp at h; omega) | ((try simp only [h]); (try simp at h))))
    | fail)
    refine endL_ret ⟨34, [], bOut (l ++ bytesS s)⟩ [] (Le.renSub [(11001, 1001), (1001, 11001)] [(1001, 11001), (11001, 1001)] (by simp [go_sem]) (by simp [go_sem]) (Le.sub4 rfl (by simp [go_sem]))) (by simp [go_sem]) ⟨rfl, rfl⟩
  · rw [if_neg h0] at *
    simp only [List.length_append, List.length_cons, List.length_nil] at hb
    have hq := txtS_len1 ts
    have hall := tlS_all ts
    rw [← hall] at hb hq ⊢
    have hle : ∀ i, (tlS ts i).length ≤ (tlS ts ts.length).length := fun i => by rw [hall]; exact tlS_le ts i
    have hge : ∀ (i : Nat) (h : i < ts.length), (txt ts[i]).length ≤ (tlS ts ts.length).length := fun i h => by rw [hall]; exact txtS_get h
    clear hall
    refine mcall_of_awpL Try.func51 Try.call51 rfl (by simp [Try.ntmps51]) ?_; simp only [Try.ntmps51, Try.results51]
    repeat' (first
    | (refine awp_seqK (fun K hK => ?_))
    | (refine Hide.go (by assumption) ?_)
    | ((first | refine zqd ?_ ?_ | refine zqn ?_ ?_ | refine zgd ?_ ?_ | refine zgn ?_ ?_ | refine zdd ?_ ?_ | refine zdn ?_ ?_) <;> (intro h; first | (exfalso; omega) | (simp only [h, decide_true, decide_false, not_false_eq_true]) | skip))
    | (refine end_ret [] ?_; simp [go_sem])
    | ((fail_if_success with_reducible (refine Owe.mk ?_)); (simp (disch := omega) [go_sem]))
    | (refine And.intro (by omega) ?_)
    | (refine nbI fun bq => ?_)
    | ((first | refine zqm ?_ ?_ | refine zgm ?_ ?_ | refine zdm ?_ ?_) <;> (intro h; simp only [h, Bool.not_true, Bool.not_false]))
    | ((first | refine zqs ?_ ?_ | refine zgs ?_ ?_ | refine zds ?_ ?_) <;> (intro h; first | (exfalso; simp at h; omega) | ((try simp only [h]); (try simp at h))))
    | fail)
    refine stepK_fis [] [] 10000 _ _ (Fits.mk' (by simp [go_sem]) (by simp [go_sem])) (by simp [go_sem]) (by simp [go_sem]) (WriteString_buf l s (by omega)) (by simp [go_sem]) (by simp [go_sem]) ?_
    repeat' (first
    | (refine awp_seqK (fun K hK => ?_))
    | (refine Hide.go (by assumption) ?_)
    | ((first | refine zqd ?_ ?_ | refine zqn ?_ ?_ | refine zgd ?_ ?_ | refine zgn ?_ ?_ | refine zdd ?_ ?_ | refine zdn ?_ ?_) <;> (intro h; first | (exfalso; omega) | (simp only [h, decide_true, decide_false, not_false_eq_true]) | skip))
    | (refine end_ret [] ?_; simp [go_sem, h0])
    | ((fail_if_success with_reducible (refine Owe.mk ?_)); (simp (disch := omega) [go_sem, h0]))
    | (refine And.intro (by omega) ?_)
    | (refine nbI fun bq => ?_)
    | ((first | refine zqm ?_ ?_ | refine zgm ?_ ?_ | refine zdm ?_ ?_) <;> (intro h; simp only [h, Bool.not_true, Bool.not_false]))
    | ((first | refine zqs ?_ ?_ | refine zgs ?_ ?_ | refine zds ?_ ?_) <;> (intro h; first | (exfalso; simp at h; omega) | ((try simp only [h]); (try simp at h))))
    | fail)
    refine stepK_fis [(1001, 11001)] [(11001, 1001), (1001, 11001)] 20000 _ _ (Fits.mk' (by simp [go_sem]) (by simp [go_sem])) (by simp [go_sem]) (by simp [go_sem]) (WriteByte_buf (l ++ bytesS s) 40 (by simp only [List.length_append]; omega)) (by simp [go_sem]) (by simp [go_sem]) ?_
    repeat' (first
    | (refine awp_seqK (fun K hK => ?_))
    | (refine Hide.go (by assumption) ?_)
    | ((first | refine zqd ?_ ?_ | refine zqn ?_ ?_ | refine zgd ?_ ?_ | refine zgn ?_ ?_ | refine zdd ?_ ?_ | refine zdn ?_ ?_) <;> (intro h; first | (exfalso; omega) | (simp only [h, decide_true, decide_false, not_false_eq_true]) | skip))
    | (refine end_ret [] ?_; simp [go_sem, h0])
    | ((fail_if_success with_reducible (refine Owe.mk ?_)); (simp (disch := omega) [go_sem, h0]))
    | (refine And.intro (by omega) ?_)
    | (refine nbI fun bq => ?_)
    | ((first | refine zqm ?_ ?_ | refine zgm ?_ ?_ | refine zdm ?_ ?_) <;> (intro h; simp only [h, Bool.not_true, Bool.not_false]))
    | ((first | refine zqs ?_ ?_ | refine zgs ?_ ?_ | refine zds ?_ ?_) <;> (intro h; first | (exfalso; simp at h; omega) | ((try simp only [h]); (try simp at h))))
    | fail)
    refine awp_for [0, 17, 18] [1000, 1001, 11001, 21001] (fun i : Nat => [(19, nt .i64 i)]) (fun i : Nat => [(1000, bBox (.ptr 1000 0 0) (.ref 1001 0 (l ++ bytesS s ++ 40 :: tlS ts i).length)), (1001, ⟨true, false, false, 1, (l ++ bytesS s ++ 40 :: tlS ts i).map bAV, 7⟩)]) (fun i : Nat => ts.length - i) (fun i : Nat => i ≤ ts.length) (0) (Le.renSub [(21001, 1001), (1001, 21001)] [(1001, 21001), (21001, 1001)] (by simp [go_sem, tlS_zero]) (by simp [go_sem, tlS_zero]) (Le.sub4 rfl (by simp [go_sem, tlS_zero]))) ⟨?_⟩ ?_
    · exact Nat.zero_le _
    intro i hi AA hAA; simp only [Go.Ab.keepT_nil, Go.Ab.keepT_cons, Go.Ab.dropO_nil, Go.Ab.dropO_cons, List.contains_cons, List.contains_nil, List.elem_cons, List.elem_nil, Nat.reduceBEq, beq_self_eq_true, Nat.reduceEqDiff, Bool.or_false, Bool.false_or, Bool.or_true, Bool.true_or, Bool.false_eq_true, if_true, if_false, List.cons_append, List.nil_append, List.append_nil]
    by_cases hlt : i < ts.length
    · have hu := ih ts[i] (List.getElem_mem hlt)
      have hl1 := hle i
      have hl2 := hge i hlt
      have hl3 := hle (i + 1)
      by_cases hi0 : i = 0
      · subst hi0
        have hn := tlS_one hlt
        have hl4 := congrArg List.length hn
        rw [show 0 + 1 = 1 from rfl] at hl3
        have hu := hu (l ++ bytesS s ++ 40 :: tlS ts 0) (by simp only [List.length_append, List.length_cons, tlS_zero, List.length_nil]; omega)
        repeat' (first
    | (refine awp_seqK (fun K hK => ?_))
    | (refine Hide.go (by assumption) ?_)
    | ((first | refine zqd ?_ ?_ | refine zqn ?_ ?_ | refine zgd ?_ ?_ | refine zgn ?_ ?_ | refine zdd ?_ ?_ | refine zdn ?_ ?_) <;> (intro h; first | (exfalso; omega) | (simp only [h, decide_true, decide_false, not_false_eq_true]) | skip))
    | (refine end_ret [] ?_; simp [go_sem, hlt])
    | ((fail_if_success with_reducible (refine Owe.mk ?_)); (simp (disch := omega) [go_sem, hlt]))
    | (refine And.intro (by omega) ?_)
    | (refine nbI fun bq => ?_)
    | ((first | refine zqm ?_ ?_ | refine zgm ?_ ?_ | refine zdm ?_ ?_) <;> (intro h; simp only [h, Bool.not_true, Bool.not_false]))
    | ((first | refine zqs ?_ ?_ | refine zgs ?_ ?_ | refine zds ?_ ?_) <;> (intro h; first | (exfalso; simp at h; omega) | ((try simp only [h]); (try simp at h))))
    | fail)
        refine stepK_fis [] [] 30000 _ _ (Fits.mk' (by simp [go_sem]) (by simp [go_sem])) (by simp [go_sem]) (by simp [go_sem]) (hu) (by simp [go_sem]) (by simp [go_sem]) ?_
        repeat' (first
    | (refine awp_seqK (fun K hK => ?_))
    | (refine Hide.go (by assumption) ?_)
    | ((first | refine zqd ?_ ?_ | refine zqn ?_ ?_ | refine zgd ?_ ?_ | refine zgn ?_ ?_ | refine zdd ?_ ?_ | refine zdn ?_ ?_) <;> (intro h; first | (exfalso; omega) | (simp only [h, decide_true, decide_false, not_false_eq_true]) | skip))
    | (refine end_ret [] ?_; simp [go_sem, hlt])
    | (refine (hAA.next (0 + 1) (Le.renSub [(31001, 1001), (1001, 31001)] [(1001, 31001), (31001, 1001)] (by simp [go_sem, tlS_zero, hn]) (by simp [go_sem, tlS_zero, hn]) (Le.sub4 rfl (by simp [go_sem, tlS_zero, hn]))) (by (try dsimp only); omega) ?_))
    | ((fail_if_success with_reducible (refine Owe.mk ?_)); (simp (disch := omega) [go_sem, hlt]))
    | (refine And.intro (by omega) ?_)
    | (refine nbI fun bq => ?_)
    | ((first | refine zqm ?_ ?_ | refine zgm ?_ ?_ | refine zdm ?_ ?_) <;> (intro h; simp only [h, Bool.not_true, Bool.not_false]))
    | ((first | refine zqs ?_ ?_ | refine zgs ?_ ?_ | refine zds ?_ ?_) <;> (intro h; first | (exfalso; simp at h; omega) | ((try simp only [h]); (try simp at h))))
    | fail)
        exact ⟨by omega⟩
      · have hn := tlS_next hlt (by omega)
        have hl4 := congrArg List.length hn
        simp only [List.length_append, List.length_cons] at hl4
        have hu := hu (l ++ bytesS s ++ 40 :: tlS ts i ++ [44]) (by simp only [List.length_append, List.length_cons, List.length_nil]; omega)
        have hi1 : (0 : Int) < i := by omega
        repeat' (first
    | (refine awp_seqK (fun K hK => ?_))
    | (refine Hide.go (by assumption) ?_)
    | ((first | refine zqd ?_ ?_ | refine zqn ?_ ?_ | refine zgd ?_ ?_ | refine zgn ?_ ?_ | refine zdd ?_ ?_ | refine zdn ?_ ?_) <;> (intro h; first | (exfalso; omega) | (simp only [h, decide_true, decide_false, not_false_eq_true]) | skip))
    | (refine end_ret [] ?_; simp [go_sem, hlt, hi1])
    | ((fail_if_success with_reducible (refine Owe.mk ?_)); (simp (disch := omega) [go_sem, hlt, hi1]))
    | (refine And.intro (by omega) ?_)
    | (refine nbI fun bq => ?_)
    | ((first | refine zqm ?_ ?_ | refine zgm ?_ ?_ | refine zdm ?_ ?_) <;> (intro h; simp only [h, Bool.not_true, Bool.not_false]))
    | ((first | refine zqs ?_ ?_ | refine zgs ?_ ?_ | refine zds ?_ ?_) <;> (intro h; first | (exfalso; simp at h; omega) | ((try simp only [h]); (try simp at h))))
    | fail)
        refine stepK_fis [] [] 30000 _ _ (Fits.mk' (by simp [go_sem]) (by simp [go_sem])) (by simp [go_sem]) (by simp [go_sem]) (WriteByte_buf (l ++ bytesS s ++ 40 :: tlS ts i) 44 (by simp only [List.length_append, List.length_cons]; omega)) (by simp [go_sem]) (by simp [go_sem]) ?_
        repeat' (first
    | (refine awp_seqK (fun K hK => ?_))
    | (refine Hide.go (by assumption) ?_)
    | ((first | refine zqd ?_ ?_ | refine zqn ?_ ?_ | refine zgd ?_ ?_ | refine zgn ?_ ?_ | refine zdd ?_ ?_ | refine zdn ?_ ?_) <;> (intro h; first | (exfalso; omega) | (simp only [h, decide_true, decide_false, not_false_eq_true]) | skip))
    | (refine end_ret [] ?_; simp [go_sem, hlt])
    | ((fail_if_success with_reducible (refine Owe.mk ?_)); (simp (disch := omega) [go_sem, hlt]))
    | (refine And.intro (by omega) ?_)
    | (refine nbI fun bq => ?_)
    | ((first | refine zqm ?_ ?_ | refine zgm ?_ ?_ | refine zdm ?_ ?_) <;> (intro h; simp only [h, Bool.not_true, Bool.not_false]))
    | ((first | refine zqs ?_ ?_ | refine zgs ?_ ?_ | refine zds ?_ ?_) <;> (intro h; first | (exfalso; simp at h; omega) | ((try simp only [h]); (try simp at h))))
    | fail)
        refine stepK_fis [(1001, 31001)] [(31001, 1001), (1001, 31001)] 40000 _ _ (Fits.mk' (by simp [go_sem]) (by simp [go_sem])) (by simp [go_sem]) (by simp [go_sem]) (hu) (by simp [go_sem]) (by simp [go_sem]) ?_
        repeat' (first
    | (refine awp_seqK (fun K hK => ?_))
    | (refine Hide.go (by assumption) ?_)
    | ((first | refine zqd ?_ ?_ | refine zqn ?_ ?_ | refine zgd ?_ ?_ | refine zgn ?_ ?_ | refine zdd ?_ ?_ | refine zdn ?_ ?_) <;> (intro h; first | (exfalso; omega) | (simp only [h, decide_true, decide_false, not_false_eq_true]) | skip))
    | (refine end_ret [] ?_; simp [go_sem, hlt])
    | (refine (hAA.next (i + 1) (Le.renSub [(41001, 1001), (1001, 41001)] [(1001, 41001), (41001, 1001)] (by simp [go_sem, hn]) (by simp [go_sem, hn]) (Le.sub4 rfl (by simp [go_sem, hn]))) (by (try dsimp only); omega) ?_))
    | ((fail_if_success with_reducible (refine Owe.mk ?_)); (simp (disch := omega) [go_sem, hlt]))
    | (refine And.intro (by omega) ?_)
    | (refine nbI fun bq => ?_)
    | ((first | refine zqm ?_ ?_ | refine zgm ?_ ?_ | refine zdm ?_ ?_) <;> (intro h; simp only [h, Bool.not_true, Bool.not_false]))
    | ((first | refine zqs ?_ ?_ | refine zgs ?_ ?_ | refine zds ?_ ?_) <;> (intro h; first | (exfalso; simp at h; omega) | ((try simp only [h]); (try simp at h))))
    | fail)
        exact ⟨by omega⟩
    · obtain rfl : i = ts.length := by omega
      repeat' (first
    | (refine awp_seqK (fun K hK => ?_))
    | (refine Hide.go (by assumption) ?_)
    | ((first | refine zqd ?_ ?_ | refine zqn ?_ ?_ | refine zgd ?_ ?_ | refine zgn ?_ ?_ | refine zdd ?_ ?_ | refine zdn ?_ ?_) <;> (intro h; first | (exfalso; omega) | (simp only [h, decide_true, decide_false, not_false_eq_true]) | skip))
    | (refine end_ret [] ?_; simp [go_sem])
    | ((fail_if_success with_reducible (refine Owe.mk ?_)); (simp (disch := omega) [go_sem]))
    | (refine And.intro (by omega) ?_)
    | (refine nbI fun bq => ?_)
    | ((first | refine zqm ?_ ?_ | refine zgm ?_ ?_ | refine zdm ?_ ?_) <;> (intro h; simp only [h, Bool.not_true, Bool.not_false]))
    | ((first | refine zqs ?_ ?_ | refine zgs ?_ ?_ | refine zds ?_ ?_) <;> (intro h; first | (exfalso; simp at h; omega) | ((try simp only [h]); (try simp at h))))
    | fail)
      refine stepK_fis [] [] 30000 _ _ (Fits.mk' (by simp [go_sem]) (by simp [go_sem])) (by simp [go_sem]) (by simp [go_sem]) (WriteByte_buf (l ++ bytesS s ++ 40 :: tlS ts ts.length) 41 (by simp only [List.length_append, List.length_cons]; omega)) (by simp [go_sem]) (by simp [go_sem]) ?_
      repeat' (first
    | (refine awp_seqK (fun K hK => ?_))
    | (refine Hide.go (by assumption) ?_)
    | ((first | refine zqd ?_ ?_ | refine zqn ?_ ?_ | refine zgd ?_ ?_ | refine zgn ?_ ?_ | refine zdd ?_ ?_ | refine zdn ?_ ?_) <;> (intro h; first | (exfalso; omega) | (simp only [h, decide_true, decide_false, not_false_eq_true]) | skip))
    | (refine end_ret [] ?_; simp [go_sem])
    | ((fail_if_success with_reducible (refine Owe.mk ?_)); (simp (disch := omega) [go_sem]))
    | (refine And.intro (by omega) ?_)
    | (refine nbI fun bq => ?_)
    | ((first | refine zqm ?_ ?_ | refine zgm ?_ ?_ | refine zdm ?_ ?_) <;> (intro h; simp only [h, Bool.not_true, Bool.not_false]))
    | ((first | refine zqs ?_ ?_ | refine zgs ?_ ?_ | refine zds ?_ ?_) <;> (intro h; first | (exfalso; simp at h; omega) | ((try simp only [h]); (try simp at h))))
    | fail)
      refine endL_normal ⟨34, [], bOut (l ++ (bytesS s ++ 40 :: (tlS ts ts.length ++ [41])))⟩ [] (Le.renSub [(31001, 1001), (1001, 31001)] [(1001, 31001), (31001, 1001)] (by simp [go_sem]) (by simp [go_sem]) (Le.sub4 rfl (by simp [go_sem]))) (by simp [go_sem]) ⟨rfl, rfl⟩
end Go.Proofs.Ytldecgghhaoliaa
