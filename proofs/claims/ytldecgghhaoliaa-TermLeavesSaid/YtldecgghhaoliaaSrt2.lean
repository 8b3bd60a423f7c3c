/-
  Srt2: runs exchanged.
-/
import Derived.Test.YtldecgghhaoliaaSrt1
namespace Go.Proofs.Ytldecgghhaoliaa
open Go.Ab
set_option linter.unusedSimpArgs false
set_option maxRecDepth 100000
set_option maxHeartbeats 4000000
theorem swr_ok (f : FuncId) (kd : Nat) (l : List Tm) (hl : l.length ≤ 140737488355328) (a b n : Nat) (h1 : a + n ≤ b) (h2 : b + n ≤ l.length) :
    MCall Try.prog 105 [.ref 1000 0 l.length, nt .i64 a, nt .i64 b, nt .i64 n, .clo f []] [(1000, rowO eTm 2 kd l)] (fun r o' => r = .tup [] ∧ o' = [(1000, rowO eTm 2 kd (swr l a b n))]) := by
  refine mcall_of_awpL Try.func105 Try.call105 rfl (by simp [Try.ntmps105]) ?_; simp only [Try.ntmps105, Try.results105]
  repeat' (first
    | (refine awp_seqK (fun K hK => ?_))
    | (refine Hide.go (by assumption) ?_)
    | ((first | refine zqd ?_ ?_ | refine zqn ?_ ?_ | refine zgd ?_ ?_ | refine zgn ?_ ?_ | refine zdd ?_ ?_ | refine zdn ?_ ?_) <;> (intro h; first | (exfalso; omega) | (simp only [h, decide_true, decide_false, not_false_eq_true]) | skip))
    | (refine end_ret [] ?_; simp [go_sem])
    | ((fail_if_success with_reducible (refine Owe.mk ?_)); (simp (disch := omega) [go_sem]))
    | (refine And.intro (by omega) ?_)
    | (refine awp_draw 21 mix (by decide +kernel) ?_)
    | (refine nbI fun bq => ?_)
    | ((first | refine zqm ?_ ?_ | refine zgm ?_ ?_ | refine zdm ?_ ?_) <;> (intro h; simp only [h, Bool.not_true, Bool.not_false]))
    | ((first | refine zqs ?_ ?_ | refine zgs ?_ ?_ | refine zds ?_ ?_) <;> (intro h; first | (exfalso; simp at h; omega) | ((try simp only [h]); (try simp at h))))
    | fail)
  refine awp_for [0, 1, 2, 3] [1000] (fun i : Nat => [(10, nt .i64 i)]) (fun i : Nat => [(1000, rowO eTm 2 kd (swr l a b i))]) (fun i : Nat => n - i) (fun i : Nat => i ≤ n) (0) (Le.sub4 rfl (by simp [go_sem, swr, List.range_zero, List.foldl_nil])) ⟨?_⟩ ?_
  · exact Nat.zero_le _
  intro i hi AA hAA; simp only [Go.Ab.keepT_nil, Go.Ab.keepT_cons, Go.Ab.dropO_nil, Go.Ab.dropO_cons, List.contains_cons, List.contains_nil, List.elem_cons, List.elem_nil, Nat.reduceBEq, beq_self_eq_true, Nat.reduceEqDiff, Bool.or_false, Bool.false_or, Bool.or_true, Bool.true_or, Bool.false_eq_true, if_true, if_false, List.cons_append, List.nil_append, List.append_nil]
  have hlen := swr_len l a b i
  have hs := swr_succ l a b i
  generalize hg : swr l a b i = l1 at *
  by_cases hlt : i < n
  · have ha : a + i < l1.length := by omega
    have hb : b + i < l1.length := by omega
    have e1 : ((a : Int) + i).toNat = a + i := by omega
    have e2 : ((b : Int) + i).toNat = b + i := by omega
    have hsw := (swp_eq ha hb).symm
    rw [← hsw] at hs
    repeat' (first
    | (refine awp_seqK (fun K hK => ?_))
    | (refine Hide.go (by assumption) ?_)
    | ((first | refine zqd ?_ ?_ | refine zqn ?_ ?_ | refine zgd ?_ ?_ | refine zgn ?_ ?_ | refine zdd ?_ ?_ | refine zdn ?_ ?_) <;> (intro h; first | (exfalso; omega) | (simp only [h, decide_true, decide_false, not_false_eq_true]) | skip))
    | (refine end_ret [] ?_; simp [go_sem, ha, hb, e1, e2])
    | (refine (hAA.next (i + 1) (Le.sub4 rfl (by simp [go_sem, set_eTm, hs, -List.map_set])) (by (try dsimp only); omega) ?_))
    | ((fail_if_success with_reducible (refine Owe.mk ?_)); (simp (disch := omega) [go_sem, ha, hb, e1, e2]))
    | (refine And.intro (by omega) ?_)
    | (refine awp_draw 21 mix (by decide +kernel) ?_)
    | (refine nbI fun bq => ?_)
    | ((first | refine zqm ?_ ?_ | refine zgm ?_ ?_ | refine zdm ?_ ?_) <;> (intro h; simp only [h, Bool.not_true, Bool.not_false]))
    | ((first | refine zqs ?_ ?_ | refine zgs ?_ ?_ | refine zds ?_ ?_) <;> (intro h; first | (exfalso; simp at h; omega) | ((try simp only [h]); (try simp at h))))
    | fail)
    exact ⟨hlt⟩
  · obtain rfl : i = n := by omega
    subst hg
    repeat' (first
    | (refine awp_seqK (fun K hK => ?_))
    | (refine Hide.go (by assumption) ?_)
    | ((first | refine zqd ?_ ?_ | refine zqn ?_ ?_ | refine zgd ?_ ?_ | refine zgn ?_ ?_ | refine zdd ?_ ?_ | refine zdn ?_ ?_) <;> (intro h; first | (exfalso; omega) | (simp only [h, decide_true, decide_false, not_false_eq_true]) | skip))
    | (refine end_ret [] ?_; simp [go_sem])
    | ((fail_if_success with_reducible (refine Owe.mk ?_)); (simp (disch := omega) [go_sem]))
    | (refine And.intro (by omega) ?_)
    | (refine awp_draw 21 mix (by decide +kernel) ?_)
    | (refine nbI fun bq => ?_)
    | ((first | refine zqm ?_ ?_ | refine zgm ?_ ?_ | refine zdm ?_ ?_) <;> (intro h; simp only [h, Bool.not_true, Bool.not_false]))
    | ((first | refine zqs ?_ ?_ | refine zgs ?_ ?_ | refine zds ?_ ?_) <;> (intro h; first | (exfalso; simp at h; omega) | ((try simp only [h]); (try simp at h))))
    | fail)
    refine endL_normal ⟨38, [], [(1000, rowO eTm 2 kd (swr l a b i))]⟩ [] (Le.renSub [] [] (by simp [go_sem]) (by simp [go_sem]) (Le.sub4 rfl (by simp [go_sem]))) (by simp [go_sem]) ⟨rfl, rfl⟩
theorem rot_ok (f : FuncId) (kd : Nat) (l : List Tm) (hl : l.length ≤ 140737488355328) (a m b : Nat) (h1 : a < m) (h2 : m < b) (hb : b ≤ l.length) :
    MCall Try.prog 99 [.ref 1000 0 l.length, nt .i64 a, nt .i64 m, nt .i64 b, .clo f []] [(1000, rowO eTm 2 kd l)] (fun r o' => ∃ l', Rot l l' a m b ∧ r = .tup [] ∧ o' = [(1000, rowO eTm 2 kd l')]) := by
  have g1 : ((m : Int) - a) = ((m - a : Nat) : Int) := by omega
  have g2 : ((b : Int) - m) = ((b - m : Nat) : Int) := by omega
  refine mcall_of_awpL Try.func99 Try.call99 rfl (by simp [Try.ntmps99]) ?_; simp only [Try.ntmps99, Try.results99]
  repeat' (first
    | (refine awp_seqK (fun K hK => ?_))
    | (refine Hide.go (by assumption) ?_)
    | ((first | refine zqd ?_ ?_ | refine zqn ?_ ?_ | refine zgd ?_ ?_ | refine zgn ?_ ?_ | refine zdd ?_ ?_ | refine zdn ?_ ?_) <;> (intro h; first | (exfalso; omega) | (simp only [h, decide_true, decide_false, not_false_eq_true]) | skip))
    | (refine end_ret [] ?_; simp [go_sem])
    | ((fail_if_success with_reducible (refine Owe.mk ?_)); (simp (disch := omega) [go_sem]))
    | (refine And.intro (by omega) ?_)
    | (refine nbI fun bq => ?_)
    | ((first | refine zqm ?_ ?_ | refine zgm ?_ ?_ | refine zdm ?_ ?_) <;> (intro h; simp only [h, Bool.not_true, Bool.not_false]))
    | ((first | refine zqs ?_ ?_ | refine zgs ?_ ?_ | refine zds ?_ ?_) <;> (intro h; first | (exfalso; simp at h; omega) | ((try simp only [h]); (try simp at h))))
    | fail)
  refine awp_for [0, 2, 4] [1000] (fun x : Nat × Nat × List Tm => [(10, nt .i64 x.1), (11, nt .i64 x.2.1)]) (fun x : Nat × Nat × List Tm => [(1000, rowO eTm 2 kd x.2.2)]) (fun x : Nat × Nat × List Tm => x.1 + x.2.1) (fun x : Nat × Nat × List Tm => 1 ≤ x.1 ∧ 1 ≤ x.2.1 ∧ RotS l x.2.2 a m b x.1 x.2.1) ((m - a, b - m, l)) (Le.sub4 rfl (by simp [go_sem, g1, g2])) ⟨?_⟩ ?_
  · exact ⟨by dsimp only; omega, by dsimp only; omega, RotS.start (by omega) (by omega) hb⟩
  intro ⟨i, j, l1⟩ ⟨hi, hj, hs⟩ AA hAA; simp only [Go.Ab.keepT_nil, Go.Ab.keepT_cons, Go.Ab.dropO_nil, Go.Ab.dropO_cons, List.contains_cons, List.contains_nil, List.elem_cons, List.elem_nil, Nat.reduceBEq, beq_self_eq_true, Nat.reduceEqDiff, Bool.or_false, Bool.false_or, Bool.or_true, Bool.true_or, Bool.false_eq_true, if_true, if_false, List.cons_append, List.nil_append, List.append_nil]
  dsimp only at *
  have q1 := hs.hi
  have q2 := hs.hi2
  have q3 := hs.hj
  have hlen := hs.len
  have hbl := hs.hb
  have e1 : ((m : Int) - i) = ((m - i : Nat) : Int) := by omega
  by_cases hij : i = j
  · subst hij
    have hc := swr_ok f kd l1 (by omega) (m - i) m i (by omega) (by omega)
    rw [hlen] at hc
    repeat' (first
    | (refine awp_seqK (fun K hK => ?_))
    | (refine Hide.go (by assumption) ?_)
    | ((first | refine zqd ?_ ?_ | refine zqn ?_ ?_ | refine zgd ?_ ?_ | refine zgn ?_ ?_ | refine zdd ?_ ?_ | refine zdn ?_ ?_) <;> (intro h; first | (exfalso; omega) | (simp only [h, decide_true, decide_false, not_false_eq_true]) | skip))
    | (refine end_ret [] ?_; simp [go_sem])
    | ((fail_if_success with_reducible (refine Owe.mk ?_)); (simp (disch := omega) [go_sem]))
    | (refine And.intro (by omega) ?_)
    | (refine nbI fun bq => ?_)
    | ((first | refine zqm ?_ ?_ | refine zgm ?_ ?_ | refine zdm ?_ ?_) <;> (intro h; simp only [h, Bool.not_true, Bool.not_false]))
    | ((first | refine zqs ?_ ?_ | refine zgs ?_ ?_ | refine zds ?_ ?_) <;> (intro h; first | (exfalso; simp at h; omega) | ((try simp only [h]); (try simp at h))))
    | fail)
    refine stepK_fis [] [] 10000 _ _ (Fits.mk' (by simp [go_sem, e1]) (by simp [go_sem, e1])) (by simp [go_sem, e1]) (by simp [go_sem, e1]) (hc) (by simp [go_sem, e1]) (by simp [go_sem, e1]) ?_
    repeat' (first
    | (refine awp_seqK (fun K hK => ?_))
    | (refine Hide.go (by assumption) ?_)
    | ((first | refine zqd ?_ ?_ | refine zqn ?_ ?_ | refine zgd ?_ ?_ | refine zgn ?_ ?_ | refine zdd ?_ ?_ | refine zdn ?_ ?_) <;> (intro h; first | (exfalso; omega) | (simp only [h, decide_true, decide_false, not_false_eq_true]) | skip))
    | (refine end_ret [] ?_; simp [go_sem])
    | ((fail_if_success with_reducible (refine Owe.mk ?_)); (simp (disch := omega) [go_sem]))
    | (refine And.intro (by omega) ?_)
    | (refine nbI fun bq => ?_)
    | ((first | refine zqm ?_ ?_ | refine zgm ?_ ?_ | refine zdm ?_ ?_) <;> (intro h; simp only [h, Bool.not_true, Bool.not_false]))
    | ((first | refine zqs ?_ ?_ | refine zgs ?_ ?_ | refine zds ?_ ?_) <;> (intro h; first | (exfalso; simp at h; omega) | ((try simp only [h]); (try simp at h))))
    | fail)
    refine endL_normal ⟨58, [], [(1000, rowO eTm 2 kd (swr l1 (m - i) m i))]⟩ [] (Le.renSub [] [] (by simp [go_sem]) (by simp [go_sem]) (Le.sub4 rfl (by simp [go_sem]))) (by simp [go_sem]) ⟨_, hs.done, rfl, rfl⟩
  · by_cases hgt : j < i
    · have hc := swr_ok f kd l1 (by omega) (m - i) m j (by omega) (by omega)
      rw [hlen] at hc
      have e2 : ((i : Int) - j) = ((i - j : Nat) : Int) := by omega
      repeat' (first
    | (refine awp_seqK (fun K hK => ?_))
    | (refine Hide.go (by assumption) ?_)
    | ((first | refine zqd ?_ ?_ | refine zqn ?_ ?_ | refine zgd ?_ ?_ | refine zgn ?_ ?_ | refine zdd ?_ ?_ | refine zdn ?_ ?_) <;> (intro h; first | (exfalso; omega) | (simp only [h, decide_true, decide_false, not_false_eq_true]) | skip))
    | (refine end_ret [] ?_; simp [go_sem])
    | ((fail_if_success with_reducible (refine Owe.mk ?_)); (simp (disch := omega) [go_sem]))
    | (refine And.intro (by omega) ?_)
    | (refine nbI fun bq => ?_)
    | ((first | refine zqm ?_ ?_ | refine zgm ?_ ?_ | refine zdm ?_ ?_) <;> (intro h; simp only [h, Bool.not_true, Bool.not_false]))
    | ((first | refine zqs ?_ ?_ | refine zgs ?_ ?_ | refine zds ?_ ?_) <;> (intro h; first | (exfalso; simp at h; omega) | ((try simp only [h]); (try simp at h))))
    | fail)
      all_goals (first | omega | skip)
      refine stepK_fis [] [] 10000 _ _ (Fits.mk' (by simp [go_sem, e1]) (by simp [go_sem, e1])) (by simp [go_sem, e1]) (by simp [go_sem, e1]) (hc) (by simp [go_sem, e1]) (by simp [go_sem, e1]) ?_
      repeat' (first
    | (refine awp_seqK (fun K hK => ?_))
    | (refine Hide.go (by assumption) ?_)
    | ((first | refine zqd ?_ ?_ | refine zqn ?_ ?_ | refine zgd ?_ ?_ | refine zgn ?_ ?_ | refine zdd ?_ ?_ | refine zdn ?_ ?_) <;> (intro h; first | (exfalso; omega) | (simp only [h, decide_true, decide_false, not_false_eq_true]) | skip))
    | (refine end_ret [] ?_; simp [go_sem])
    | (refine (hAA.next ((i - j, j, swr l1 (m - i) m j)) (Le.sub4 rfl (by simp [go_sem, e2])) (by (try dsimp only); omega) ?_))
    | ((fail_if_success with_reducible (refine Owe.mk ?_)); (simp (disch := omega) [go_sem]))
    | (refine And.intro (by omega) ?_)
    | (refine nbI fun bq => ?_)
    | ((first | refine zqm ?_ ?_ | refine zgm ?_ ?_ | refine zdm ?_ ?_) <;> (intro h; simp only [h, Bool.not_true, Bool.not_false]))
    | ((first | refine zqs ?_ ?_ | refine zgs ?_ ?_ | refine zds ?_ ?_) <;> (intro h; first | (exfalso; simp at h; omega) | ((try simp only [h]); (try simp at h))))
    | fail)
      exact ⟨⟨by omega, by omega, hs.gt hgt⟩⟩
    · have hc := swr_ok f kd l1 (by omega) (m - i) (m + j - i) i (by omega) (by omega)
      rw [hlen] at hc
      have e2 : ((j : Int) - i) = ((j - i : Nat) : Int) := by omega
      have e3 : ((m : Int) + j - i) = ((m + j - i : Nat) : Int) := by omega
      repeat' (first
    | (refine awp_seqK (fun K hK => ?_))
    | (refine Hide.go (by assumption) ?_)
    | ((first | refine zqd ?_ ?_ | refine zqn ?_ ?_ | refine zgd ?_ ?_ | refine zgn ?_ ?_ | refine zdd ?_ ?_ | refine zdn ?_ ?_) <;> (intro h; first | (exfalso; omega) | (simp only [h, decide_true, decide_false, not_false_eq_true]) | skip))
    | (refine end_ret [] ?_; simp [go_sem])
    | ((fail_if_success with_reducible (refine Owe.mk ?_)); (simp (disch := omega) [go_sem]))
    | (refine And.intro (by omega) ?_)
    | (refine nbI fun bq => ?_)
    | ((first | refine zqm ?_ ?_ | refine zgm ?_ ?_ | refine zdm ?_ ?_) <;> (intro h; simp only [h, Bool.not_true, Bool.not_false]))
    | ((first | refine zqs ?_ ?_ | refine zgs ?_ ?_ | refine zds ?_ ?_) <;> (intro h; first | (exfalso; simp at h; omega) | ((try simp only [h]); (try simp at h))))
    | fail)
      all_goals (first | omega | skip)
      refine stepK_fis [] [] 10000 _ _ (Fits.mk' (by simp [go_sem, e1, e3]) (by simp [go_sem, e1, e3])) (by simp [go_sem, e1, e3]) (by simp [go_sem, e1, e3]) (hc) (by simp [go_sem, e1, e3]) (by simp [go_sem, e1, e3]) ?_
      repeat' (first
    | (refine awp_seqK (fun K hK => ?_))
    | (refine Hide.go (by assumption) ?_)
    | ((first | refine zqd ?_ ?_ | refine zqn ?_ ?_ | refine zgd ?_ ?_ | refine zgn ?_ ?_ | refine zdd ?_ ?_ | refine zdn ?_ ?_) <;> (intro h; first | (exfalso; omega) | (simp only [h, decide_true, decide_false, not_false_eq_true]) | skip))
    | (refine end_ret [] ?_; simp [go_sem])
    | (refine (hAA.next ((i, j - i, swr l1 (m - i) (m + j - i) i)) (Le.sub4 rfl (by simp [go_sem, e2])) (by (try dsimp only); omega) ?_))
    | ((fail_if_success with_reducible (refine Owe.mk ?_)); (simp (disch := omega) [go_sem]))
    | (refine And.intro (by omega) ?_)
    | (refine nbI fun bq => ?_)
    | ((first | refine zqm ?_ ?_ | refine zgm ?_ ?_ | refine zdm ?_ ?_) <;> (intro h; simp only [h, Bool.not_true, Bool.not_false]))
    | ((first | refine zqs ?_ ?_ | refine zgs ?_ ?_ | refine zds ?_ ?_) <;> (intro h; first | (exfalso; simp at h; omega) | ((try simp only [h]); (try simp at h))))
    | fail)
      exact ⟨⟨hi, show 1 ≤ j - i by omega, hs.lt (by omega)⟩⟩
end Go.Proofs.Ytldecgghhaoliaa
