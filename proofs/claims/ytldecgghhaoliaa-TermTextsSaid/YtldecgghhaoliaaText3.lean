/-
  Text3: the reference's text.
-/
import Derived.Test.YtldecgghhaoliaaText2
namespace Go.Proofs.Ytldecgghhaoliaa
open Go.Ab
set_option linter.unusedSimpArgs false
set_option maxRecDepth 100000
set_option maxHeartbeats 8000000
def mkS (l : List UInt8) : ByteArray := ⟨l.toArray⟩
theorem mkS_append (a b : List UInt8) : mkS a ++ mkS b = mkS (a ++ b) := by
  unfold mkS
  apply ByteArray.ext
  simp
theorem mkS_size (l : List UInt8) : (mkS l).size = l.length := rfl
theorem mkS_bytes (s : ByteArray) : mkS (bytesS s) = s := by unfold mkS bytesS; rfl
theorem refText_ok : ∀ t : Tm, (txt t).length ≤ 1000000000000 → ACall Try.prog 27 [eT t] (fun r => r = .sc (.string (mkS (txt t)))) := by
  refine tm_ind fun t ih hb => ?_
  obtain ⟨s, ts⟩ := t
  rw [txt_mk] at *
  simp only [args_mk, name_mk] at *
  have hsl := bytesS_len s
  by_cases h0 : ts.length = 0
  · rw [if_pos h0, mkS_bytes]
    refine acall_of_awp Try.func27 Try.call27 rfl (by simp [Try.ntmps27]) ?_; simp only [Try.ntmps27, Try.results27]
    repeat' (first
    | (refine awp_seqK (fun K hK => ?_))
    | (refine Hide.go (by assumption) ?_)
    | ((first | refine zqd ?_ ?_ | refine zqn ?_ ?_ | refine zgd ?_ ?_ | refine zgn ?_ ?_ | refine zdd ?_ ?_ | refine zdn ?_ ?_) <;> (intro h; first | (exfalso; omega) | (simp only [h, decide_true, decide_false, not_false_eq_true]) | skip))
    | (refine end_ret [] ?_; simp [go_sem, h0])
    | ((fail_if_success with_reducible (refine Owe.mk ?_)); (simp (disch := omega) [go_sem, h0]))
    | (refine And.intro (by omega) ?_)
    | (refine nbI fun bq => ?_)
    | ((first | refine zqm ?_ ?_ | refine zgm ?_ ?_ | refine zdm ?_ ?_) <;> (intro h; simp only [h, Bool.not_true, Bool.not_false]))
    | ((first | refine zqs ?_ ?_ | refine zgs ?_ ?_ | refine zds ?_ ?_) <;> (intro h; first | (exfalso; simp at h; omega) | ((try simp only [h]); (try simp at h))))
    | fail)
  · rw [if_neg h0] at hb ⊢
    simp only [List.length_append, List.length_cons, List.length_nil] at hb
    have hq := txtS_len1 ts
    have hall := tlS_all ts
    rw [← hall] at hb hq ⊢
    have hle : ∀ i, (tlS ts i).length ≤ (tlS ts ts.length).length := fun i => by rw [hall]; exact tlS_le ts i
    have hge : ∀ (i : Nat) (h : i < ts.length), (txt ts[i]).length ≤ (tlS ts ts.length).length := fun i h => by rw [hall]; exact txtS_get h
    clear hall
    have hA : s ++ ByteArray.mk #[40] = mkS (bytesS s ++ 40 :: tlS ts 0) := by
      rw [← mkS_bytes s, show ByteArray.mk #[40] = mkS [40] from rfl, mkS_append, tlS_zero, mkS_bytes]
    refine acall_of_awp Try.func27 Try.call27 rfl (by simp [Try.ntmps27]) ?_; simp only [Try.ntmps27, Try.results27]
    repeat' (first
    | (refine awp_seqK (fun K hK => ?_))
    | (refine Hide.go (by assumption) ?_)
    | ((first | refine zqd ?_ ?_ | refine zqn ?_ ?_ | refine zgd ?_ ?_ | refine zgn ?_ ?_ | refine zdd ?_ ?_ | refine zdn ?_ ?_) <;> (intro h; first | (exfalso; omega) | (simp only [h, decide_true, decide_false, not_false_eq_true]) | skip))
    | (refine end_ret [] ?_; simp [go_sem, h0, hA])
    | ((fail_if_success with_reducible (refine Owe.mk ?_)); (simp (disch := omega) [go_sem, h0, hA]))
    | (refine And.intro (by omega) ?_)
    | (refine nbI fun bq => ?_)
    | ((first | refine zqm ?_ ?_ | refine zgm ?_ ?_ | refine zdm ?_ ?_) <;> (intro h; simp only [h, Bool.not_true, Bool.not_false]))
    | ((first | refine zqs ?_ ?_ | refine zgs ?_ ?_ | refine zds ?_ ?_) <;> (intro h; first | (exfalso; simp at h; omega) | ((try simp only [h]); (try simp at h))))
    | fail)
    refine awp_for [1, 16] [] (fun i : Nat => [(17, nt .i64 i), (3, .sc (.string (mkS (bytesS s ++ 40 :: tlS ts i))))]) (fun i : Nat => []) (fun i : Nat => ts.length - i) (fun i : Nat => i ≤ ts.length) (0) (Le.sub4 rfl (by simp [go_sem])) ⟨?_⟩ ?_
    · exact Nat.zero_le _
    intro i hi AA hAA; simp only [Go.Ab.keepT_nil, Go.Ab.keepT_cons, Go.Ab.dropO_nil, Go.Ab.dropO_cons, List.contains_cons, List.contains_nil, List.elem_cons, List.elem_nil, Nat.reduceBEq, beq_self_eq_true, Nat.reduceEqDiff, Bool.or_false, Bool.false_or, Bool.or_true, Bool.true_or, Bool.false_eq_true, if_true, if_false, List.cons_append, List.nil_append, List.append_nil]
    by_cases hlt : i < ts.length
    · have hl1 := hle i
      have hl2 := hge i hlt
      have hl3 := hle (i + 1)
      have hu := ih ts[i] (List.getElem_mem hlt) (by omega)
      by_cases hi0 : i = 0
      · subst hi0
        have hn := tlS_one hlt
        have hB : mkS (bytesS s ++ 40 :: tlS ts 0) ++ mkS (txt ts[0]) = mkS (bytesS s ++ 40 :: tlS ts (0 + 1)) := by
          rw [mkS_append, show 0 + 1 = 1 from rfl, hn, tlS_zero]; simp
        have hz : (mkS (bytesS s ++ 40 :: tlS ts 0)).size = s.size + 1 := by rw [mkS_size, tlS_zero]; simp [hsl]
        have hz2 := mkS_size (txt ts[0])
        generalize mkS (bytesS s ++ 40 :: tlS ts 0) = X at *
        generalize mkS (txt ts[0]) = Y at *
        repeat' (first
    | (refine awp_seqK (fun K hK => ?_))
    | (refine Hide.go (by assumption) ?_)
    | ((first | refine zqd ?_ ?_ | refine zqn ?_ ?_ | refine zgd ?_ ?_ | refine zgn ?_ ?_ | refine zdd ?_ ?_ | refine zdn ?_ ?_) <;> (intro h; first | (exfalso; omega) | (simp only [h, decide_true, decide_false, not_false_eq_true]) | skip))
    | (refine end_ret [] ?_; simp [go_sem, hlt, hB])
    | (refine stepK_is rfl (hu) (by simp) ?_)
    | (refine dstepK_is rfl (hu) rfl (by simp) ?_)
    | (refine (hAA.next (0 + 1) (Le.sub4 rfl (by simp [go_sem, hB])) (by (try dsimp only); omega) ?_))
    | ((fail_if_success with_reducible (refine Owe.mk ?_)); (simp (disch := omega) [go_sem, hlt, hB]))
    | (refine And.intro (by omega) ?_)
    | (refine nbI fun bq => ?_)
    | ((first | refine zqm ?_ ?_ | refine zgm ?_ ?_ | refine zdm ?_ ?_) <;> (intro h; simp only [h, Bool.not_true, Bool.not_false]))
    | ((first | refine zqs ?_ ?_ | refine zgs ?_ ?_ | refine zds ?_ ?_) <;> (intro h; first | (exfalso; simp at h; omega) | ((try simp only [h]); (try simp at h))))
    | fail)
        all_goals (first | omega | skip)
        exact ⟨by omega⟩
      · have hn := tlS_next hlt (by omega)
        have hi1 : (0 : Int) < i := by omega
        have hC : mkS (bytesS s ++ 40 :: tlS ts i) ++ ByteArray.mk #[44] = mkS (bytesS s ++ 40 :: tlS ts i ++ [44]) := by
          rw [show ByteArray.mk #[44] = mkS [44] from rfl, mkS_append]
        have hB : mkS (bytesS s ++ 40 :: tlS ts i ++ [44]) ++ mkS (txt ts[i]) = mkS (bytesS s ++ 40 :: tlS ts (i + 1)) := by
          rw [mkS_append, hn]; simp
        have hz : (mkS (bytesS s ++ 40 :: tlS ts i)).size = s.size + 1 + (tlS ts i).length := by rw [mkS_size]; simp [hsl]; omega
        have hz1 : (mkS (bytesS s ++ 40 :: tlS ts i ++ [44])).size = s.size + 1 + (tlS ts i).length + 1 := by rw [mkS_size]; simp [hsl]; omega
        have hz2 := mkS_size (txt ts[i])
        generalize mkS (bytesS s ++ 40 :: tlS ts i ++ [44]) = Z at *
        generalize mkS (bytesS s ++ 40 :: tlS ts i) = X at *
        generalize mkS (txt ts[i]) = Y at *
        repeat' (first
    | (refine awp_seqK (fun K hK => ?_))
    | (refine Hide.go (by assumption) ?_)
    | ((first | refine zqd ?_ ?_ | refine zqn ?_ ?_ | refine zgd ?_ ?_ | refine zgn ?_ ?_ | refine zdd ?_ ?_ | refine zdn ?_ ?_) <;> (intro h; first | (exfalso; omega) | (simp only [h, decide_true, decide_false, not_false_eq_true]) | skip))
    | (refine end_ret [] ?_; simp [go_sem, hlt, hi1, hC, hB])
    | (refine stepK_is rfl (hu) (by simp) ?_)
    | (refine dstepK_is rfl (hu) rfl (by simp) ?_)
    | (refine (hAA.next (i + 1) (Le.sub4 rfl (by simp [go_sem, hB])) (by (try dsimp only); omega) ?_))
    | ((fail_if_success with_reducible (refine Owe.mk ?_)); (simp (disch := omega) [go_sem, hlt, hi1, hC, hB]))
    | (refine And.intro (by omega) ?_)
    | (refine nbI fun bq => ?_)
    | ((first | refine zqm ?_ ?_ | refine zgm ?_ ?_ | refine zdm ?_ ?_) <;> (intro h; simp only [h, Bool.not_true, Bool.not_false]))
    | ((first | refine zqs ?_ ?_ | refine zgs ?_ ?_ | refine zds ?_ ?_) <;> (intro h; first | (exfalso; simp at h; omega) | ((try simp only [h]); (try simp at h))))
    | fail)
        all_goals (first | omega | skip)
        exact ⟨by omega⟩
    · obtain rfl : i = ts.length := by omega
      have hD : mkS (bytesS s ++ 40 :: tlS ts ts.length) ++ ByteArray.mk #[41] = mkS (bytesS s ++ 40 :: (tlS ts ts.length ++ [41])) := by
        rw [show ByteArray.mk #[41] = mkS [41] from rfl, mkS_append]; simp
      have hz : (mkS (bytesS s ++ 40 :: tlS ts ts.length)).size = s.size + 1 + (tlS ts ts.length).length := by rw [mkS_size]; simp [hsl]; omega
      generalize mkS (bytesS s ++ 40 :: tlS ts ts.length) = X at *
      repeat' (first
    | (refine awp_seqK (fun K hK => ?_))
    | (refine Hide.go (by assumption) ?_)
    | ((first | refine zqd ?_ ?_ | refine zqn ?_ ?_ | refine zgd ?_ ?_ | refine zgn ?_ ?_ | refine zdd ?_ ?_ | refine zdn ?_ ?_) <;> (intro h; first | (exfalso; omega) | (simp only [h, decide_true, decide_false, not_false_eq_true]) | skip))
    | (refine end_ret [] ?_; simp [go_sem, hD])
    | ((fail_if_success with_reducible (refine Owe.mk ?_)); (simp (disch := omega) [go_sem, hD]))
    | (refine And.intro (by omega) ?_)
    | (refine nbI fun bq => ?_)
    | ((first | refine zqm ?_ ?_ | refine zgm ?_ ?_ | refine zdm ?_ ?_) <;> (intro h; simp only [h, Bool.not_true, Bool.not_false]))
    | ((first | refine zqs ?_ ?_ | refine zgs ?_ ?_ | refine zds ?_ ?_) <;> (intro h; first | (exfalso; simp at h; omega) | ((try simp only [h]); (try simp at h))))
    | fail)
      all_goals (first | omega | skip)
end Go.Proofs.Ytldecgghhaoliaa
