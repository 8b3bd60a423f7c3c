/-
  Rate14: the average; the law RatingSum.
-/
import Derived.Test.YtfccgdgippmpgaaRate13
namespace Go.Proofs.Ytfccgdgippmpgaa
open Go.Ab
set_option linter.unusedSimpArgs false
set_option maxRecDepth 100000
set_option maxHeartbeats 8000000
def avgQ (l : List Rt) : Int × Int × Int := if l.length = 0 then (0, 0, 13) else if chk l ≠ 0 then (0, 0, chk l) else mkQ (sumZ (l.map Rt.c)) (100 * l.length)
/-- The sum of the first values. -/
def csum (l : List Rt) (i : Nat) : Int := sumZ ((l.take i).map Rt.c)
theorem csum_zero (l : List Rt) : csum l 0 = 0 := rfl
theorem csum_all (l : List Rt) : csum l l.length = sumZ (l.map Rt.c) := by unfold csum; rw [List.take_length]
theorem csum_next {l : List Rt} {i : Nat} (h : i < l.length) : csum l (i + 1) = csum l i + l[i].c := by
  unfold csum
  rw [take_next h, List.map_append, sumZ_append]; simp [sumZ]
theorem csum_bd {l : List Rt} (hr : l.all rgt = true) : ∀ i : Nat, -10000000 * (i : Int) ≤ csum l i ∧ csum l i ≤ 10000000 * (i : Int) := by
  intro i
  induction i with
  | zero => simp [csum_zero]
  | succ i ih =>
    by_cases h : i < l.length
    · rw [csum_next h]
      have := vals_bd hr _ (List.mem_map.2 ⟨l[i], List.getElem_mem h, rfl⟩)
      omega
    · have : csum l (i + 1) = csum l i := by
        unfold csum
        rw [List.take_of_length_le (by omega), List.take_of_length_le (by omega)]
      rw [this]
      omega
theorem Average_ok (l : List Rt) (le fu : Bool) (hl : ∀ r ∈ l, r.ok) : ACall Try.prog 16 [.list le fu (l.map eRt)] (fun x => x = eF (avgQ l)) := by
  have h1 := Check_ok l le fu hl
  unfold avgQ
  by_cases h0 : l.length = 0
  · rw [if_pos h0]
    unfold eF
    refine acall_of_awp Try.func16 Try.call16 rfl (by simp [Try.ntmps16]) ?_; simp only [Try.ntmps16, Try.results16]
    repeat' (first
    | (refine awp_seqK (fun K hK => ?_))
    | (refine Hide.go (by assumption) ?_)
    | ((first | refine zqd ?_ ?_ | refine zqn ?_ ?_ | refine zgd ?_ ?_ | refine zgn ?_ ?_ | refine zdd ?_ ?_ | refine zdn ?_ ?_) <;> (intro h; first | (exfalso; omega) | (simp only [h, decide_true, decide_false, not_false_eq_true]) | skip))
    | (refine end_ret [] ?_; simp [go_sem, h0])
    | ((fail_if_success with_reducible (refine Owe.mk ?_)); (simp (disch := omega) [go_sem, h0]))
    | (refine And.intro (by omega) ?_)
    | (refine nbI fun bq => ?_)
    | ((first | refine zqm ?_ ?_ | refine zgm ?_ ?_ | refine zdm ?_ ?_) <;> (intro h; simp only [h, Bool.not_true, Bool.not_false]))
    | ((first | refine zqs ?_ ?_ | refine zgs ?_ ?_ | refine zds ?_ ?_) <;> (intro h; first | (exfalso; simp at h; omega) | ((try simp only [h]); (try simp at h))))
    | fail)
  · rw [if_neg h0]
    by_cases hc : chk l = 0
    · rw [hc] at h1
      obtain ⟨hl16, hrg, hasc⟩ := chk_facts hc
      have hbd := csum_bd hrg
      have hbl := hbd l.length
      have hM := Make_ok (csum l l.length) (100 * l.length) (by omega) (by omega) (by omega) (by omega)
      rw [← csum_all]
      simp only [hc, ne_eq, not_true_eq_false, if_false]
      unfold mkF eF at hM
      unfold eF
      generalize hQ : mkQ (csum l l.length) (100 * l.length) = Q at *
      refine acall_of_awp Try.func16 Try.call16 rfl (by simp [Try.ntmps16]) ?_; simp only [Try.ntmps16, Try.results16]
      repeat' (first
    | (refine awp_seqK (fun K hK => ?_))
    | (refine Hide.go (by assumption) ?_)
    | ((first | refine zqd ?_ ?_ | refine zqn ?_ ?_ | refine zgd ?_ ?_ | refine zgn ?_ ?_ | refine zdd ?_ ?_ | refine zdn ?_ ?_) <;> (intro h; first | (exfalso; omega) | (simp only [h, decide_true, decide_false, not_false_eq_true]) | skip))
    | (refine end_ret [] ?_; simp [go_sem, h0])
    | (refine stepK_is rfl (h1) (by simp) ?_)
    | (refine dstepK_is rfl (h1) rfl (by simp) ?_)
    | ((fail_if_success with_reducible (refine Owe.mk ?_)); (simp (disch := omega) [go_sem, h0]))
    | (refine And.intro (by omega) ?_)
    | (refine nbI fun bq => ?_)
    | ((first | refine zqm ?_ ?_ | refine zgm ?_ ?_ | refine zdm ?_ ?_) <;> (intro h; simp only [h, Bool.not_true, Bool.not_false]))
    | ((first | refine zqs ?_ ?_ | refine zgs ?_ ?_ | refine zds ?_ ?_) <;> (intro h; first | (exfalso; simp at h; omega) | ((try simp only [h]); (try simp at h))))
    | fail)
      refine awp_for [0, 2, 20, 21] [] (fun i : Nat => [(22, nt .i64 i), (5, nt .i64 (csum l i))]) (fun i : Nat => []) (fun i : Nat => l.length - i) (fun i : Nat => i ≤ l.length) (0) (Le.sub4 rfl (by simp [go_sem, csum_zero])) ⟨?_⟩ ?_
      · exact Nat.zero_le _
      intro i hi AA hAA; simp only [Go.Ab.keepT_nil, Go.Ab.keepT_cons, Go.Ab.dropO_nil, Go.Ab.dropO_cons, List.contains_cons, List.contains_nil, List.elem_cons, List.elem_nil, Nat.reduceBEq, beq_self_eq_true, Nat.reduceEqDiff, Bool.or_false, Bool.false_or, Bool.or_true, Bool.true_or, Bool.false_eq_true, if_true, if_false, List.cons_append, List.nil_append, List.append_nil]
      have hbi := hbd i
      by_cases hlt : i < l.length
      · have hbn := hbd (i + 1)
        have hn := csum_next hlt
        have hok := hl l[i] (List.getElem_mem hlt)
        have hu : ACall Try.prog 32 [.agg [nt .i64 l[i].n, nt .i64 l[i].d]] (fun r => r = .tup [nt .i64 l[i].c, bl (cts l[i].n l[i].d).2]) := cents_ok l[i].n l[i].d hok.n hok.d
        generalize l[i].c = v at *
        repeat' (first
    | (refine awp_seqK (fun K hK => ?_))
    | (refine Hide.go (by assumption) ?_)
    | ((first | refine zqd ?_ ?_ | refine zqn ?_ ?_ | refine zgd ?_ ?_ | refine zgn ?_ ?_ | refine zdd ?_ ?_ | refine zdn ?_ ?_) <;> (intro h; first | (exfalso; omega) | (simp only [h, decide_true, decide_false, not_false_eq_true]) | skip))
    | (refine end_ret [] ?_; simp [go_sem, hlt, eRt])
    | (refine stepK_is rfl (hu) (by simp) ?_)
    | (refine dstepK_is rfl (hu) rfl (by simp) ?_)
    | (refine (hAA.next (i + 1) (Le.sub4 rfl (by simp [go_sem, hn])) (by (try dsimp only); omega) ?_))
    | ((fail_if_success with_reducible (refine Owe.mk ?_)); (simp (disch := omega) [go_sem, hlt, eRt]))
    | (refine And.intro (by omega) ?_)
    | (refine nbI fun bq => ?_)
    | ((first | refine zqm ?_ ?_ | refine zgm ?_ ?_ | refine zdm ?_ ?_) <;> (intro h; simp only [h, Bool.not_true, Bool.not_false]))
    | ((first | refine zqs ?_ ?_ | refine zgs ?_ ?_ | refine zds ?_ ?_) <;> (intro h; first | (exfalso; simp at h; omega) | ((try simp only [h]); (try simp at h))))
    | fail)
        all_goals (first | omega | skip)
        exact ⟨hlt⟩
      · obtain rfl : i = l.length := by omega
        repeat' (first
    | (refine awp_seqK (fun K hK => ?_))
    | (refine Hide.go (by assumption) ?_)
    | ((first | refine zqd ?_ ?_ | refine zqn ?_ ?_ | refine zgd ?_ ?_ | refine zgn ?_ ?_ | refine zdd ?_ ?_ | refine zdn ?_ ?_) <;> (intro h; first | (exfalso; omega) | (simp only [h, decide_true, decide_false, not_false_eq_true]) | skip))
    | (refine end_ret [] ?_; simp [go_sem])
    | (refine stepK_is rfl (hM) (by simp) ?_)
    | (refine dstepK_is rfl (hM) rfl (by simp) ?_)
    | ((fail_if_success with_reducible (refine Owe.mk ?_)); (simp (disch := omega) [go_sem]))
    | (refine And.intro (by omega) ?_)
    | (refine nbI fun bq => ?_)
    | ((first | refine zqm ?_ ?_ | refine zgm ?_ ?_ | refine zdm ?_ ?_) <;> (intro h; simp only [h, Bool.not_true, Bool.not_false]))
    | ((first | refine zqs ?_ ?_ | refine zgs ?_ ?_ | refine zds ?_ ?_) <;> (intro h; first | (exfalso; simp at h; omega) | ((try simp only [h]); (try simp at h))))
    | fail)
        all_goals (first | omega | skip)
    · simp only [ne_eq, hc, not_false_eq_true, if_true]
      unfold eF
      refine acall_of_awp Try.func16 Try.call16 rfl (by simp [Try.ntmps16]) ?_; simp only [Try.ntmps16, Try.results16]
      repeat' (first
    | (refine awp_seqK (fun K hK => ?_))
    | (refine Hide.go (by assumption) ?_)
    | ((first | refine zqd ?_ ?_ | refine zqn ?_ ?_ | refine zgd ?_ ?_ | refine zgn ?_ ?_ | refine zdd ?_ ?_ | refine zdn ?_ ?_) <;> (intro h; first | (exfalso; omega) | (simp only [h, decide_true, decide_false, not_false_eq_true]) | skip))
    | (refine end_ret [] ?_; simp [go_sem, h0, hc])
    | (refine stepK_is rfl (h1) (by simp) ?_)
    | (refine dstepK_is rfl (h1) rfl (by simp) ?_)
    | ((fail_if_success with_reducible (refine Owe.mk ?_)); (simp (disch := omega) [go_sem, h0, hc]))
    | (refine And.intro (by omega) ?_)
    | (refine nbI fun bq => ?_)
    | ((first | refine zqm ?_ ?_ | refine zgm ?_ ?_ | refine zdm ?_ ?_) <;> (intro h; simp only [h, Bool.not_true, Bool.not_false]))
    | ((first | refine zqs ?_ ?_ | refine zgs ?_ ?_ | refine zds ?_ ?_) <;> (intro h; first | (exfalso; simp at h; omega) | ((try simp only [h]); (try simp at h))))
    | fail)
theorem refAverage_ok (l : List Rt) (le fu : Bool) (hl : ∀ r ∈ l, r.ok) : ACall Try.prog 20 [.list le fu (l.map eRt)] (fun x => x = eF (avgQ l)) := by
  have h1 := refCheck_ok l le fu hl
  unfold avgQ
  by_cases h0 : l.length = 0
  · rw [if_pos h0]
    unfold eF
    refine acall_of_awp Try.func20 Try.call20 rfl (by simp [Try.ntmps20]) ?_; simp only [Try.ntmps20, Try.results20]
    repeat' (first
    | (refine awp_seqK (fun K hK => ?_))
    | (refine Hide.go (by assumption) ?_)
    | ((first | refine zqd ?_ ?_ | refine zqn ?_ ?_ | refine zgd ?_ ?_ | refine zgn ?_ ?_ | refine zdd ?_ ?_ | refine zdn ?_ ?_) <;> (intro h; first | (exfalso; omega) | (simp only [h, decide_true, decide_false, not_false_eq_true]) | skip))
    | (refine end_ret [] ?_; simp [go_sem, h0])
    | ((fail_if_success with_reducible (refine Owe.mk ?_)); (simp (disch := omega) [go_sem, h0]))
    | (refine And.intro (by omega) ?_)
    | (refine nbI fun bq => ?_)
    | ((first | refine zqm ?_ ?_ | refine zgm ?_ ?_ | refine zdm ?_ ?_) <;> (intro h; simp only [h, Bool.not_true, Bool.not_false]))
    | ((first | refine zqs ?_ ?_ | refine zgs ?_ ?_ | refine zds ?_ ?_) <;> (intro h; first | (exfalso; simp at h; omega) | ((try simp only [h]); (try simp at h))))
    | fail)
  · rw [if_neg h0]
    by_cases hc : chk l = 0
    · rw [hc] at h1
      obtain ⟨hl16, hrg, hasc⟩ := chk_facts hc
      have hbd := csum_bd hrg
      have hbl := hbd l.length
      have hM := refMake_ok (csum l l.length) (100 * l.length) (by omega) (by omega) (by omega) (by omega)
      rw [← csum_all]
      simp only [hc, ne_eq, not_true_eq_false, if_false]
      unfold mkF eF at hM
      unfold eF
      generalize hQ : mkQ (csum l l.length) (100 * l.length) = Q at *
      refine acall_of_awp Try.func20 Try.call20 rfl (by simp [Try.ntmps20]) ?_; simp only [Try.ntmps20, Try.results20]
      repeat' (first
    | (refine awp_seqK (fun K hK => ?_))
    | (refine Hide.go (by assumption) ?_)
    | ((first | refine zqd ?_ ?_ | refine zqn ?_ ?_ | refine zgd ?_ ?_ | refine zgn ?_ ?_ | refine zdd ?_ ?_ | refine zdn ?_ ?_) <;> (intro h; first | (exfalso; omega) | (simp only [h, decide_true, decide_false, not_false_eq_true]) | skip))
    | (refine end_ret [] ?_; simp [go_sem, h0])
    | (refine stepK_is rfl (h1) (by simp) ?_)
    | (refine dstepK_is rfl (h1) rfl (by simp) ?_)
    | ((fail_if_success with_reducible (refine Owe.mk ?_)); (simp (disch := omega) [go_sem, h0]))
    | (refine And.intro (by omega) ?_)
    | (refine nbI fun bq => ?_)
    | ((first | refine zqm ?_ ?_ | refine zgm ?_ ?_ | refine zdm ?_ ?_) <;> (intro h; simp only [h, Bool.not_true, Bool.not_false]))
    | ((first | refine zqs ?_ ?_ | refine zgs ?_ ?_ | refine zds ?_ ?_) <;> (intro h; first | (exfalso; simp at h; omega) | ((try simp only [h]); (try simp at h))))
    | fail)
      refine awp_for [0, 2, 20] [] (fun i : Nat => [(21, nt .i64 i), (5, nt .i64 (csum l i))]) (fun i : Nat => []) (fun i : Nat => l.length - i) (fun i : Nat => i ≤ l.length) (0) (Le.sub4 rfl (by simp [go_sem, csum_zero])) ⟨?_⟩ ?_
      · exact Nat.zero_le _
      intro i hi AA hAA; simp only [Go.Ab.keepT_nil, Go.Ab.keepT_cons, Go.Ab.dropO_nil, Go.Ab.dropO_cons, List.contains_cons, List.contains_nil, List.elem_cons, List.elem_nil, Nat.reduceBEq, beq_self_eq_true, Nat.reduceEqDiff, Bool.or_false, Bool.false_or, Bool.or_true, Bool.true_or, Bool.false_eq_true, if_true, if_false, List.cons_append, List.nil_append, List.append_nil]
      have hbi := hbd i
      by_cases hlt : i < l.length
      · have hbn := hbd (i + 1)
        have hn := csum_next hlt
        have hok := hl l[i] (List.getElem_mem hlt)
        have hu : ACall Try.prog 40 [.agg [nt .i64 l[i].n, nt .i64 l[i].d]] (fun r => r = .tup [nt .i64 l[i].c, bl (cts l[i].n l[i].d).2]) := refcents_ok l[i].n l[i].d hok.n hok.d
        generalize l[i].c = v at *
        repeat' (first
    | (refine awp_seqK (fun K hK => ?_))
    | (refine Hide.go (by assumption) ?_)
    | ((first | refine zqd ?_ ?_ | refine zqn ?_ ?_ | refine zgd ?_ ?_ | refine zgn ?_ ?_ | refine zdd ?_ ?_ | refine zdn ?_ ?_) <;> (intro h; first | (exfalso; omega) | (simp only [h, decide_true, decide_false, not_false_eq_true]) | skip))
    | (refine end_ret [] ?_; simp [go_sem, hlt, eRt])
    | (refine stepK_is rfl (hu) (by simp) ?_)
    | (refine dstepK_is rfl (hu) rfl (by simp) ?_)
    | (refine (hAA.next (i + 1) (Le.sub4 rfl (by simp [go_sem, hn])) (by (try dsimp only); omega) ?_))
    | ((fail_if_success with_reducible (refine Owe.mk ?_)); (simp (disch := omega) [go_sem, hlt, eRt]))
    | (refine And.intro (by omega) ?_)
    | (refine nbI fun bq => ?_)
    | ((first | refine zqm ?_ ?_ | refine zgm ?_ ?_ | refine zdm ?_ ?_) <;> (intro h; simp only [h, Bool.not_true, Bool.not_false]))
    | ((first | refine zqs ?_ ?_ | refine zgs ?_ ?_ | refine zds ?_ ?_) <;> (intro h; first | (exfalso; simp at h; omega) | ((try simp only [h]); (try simp at h))))
    | fail)
        all_goals (first | omega | skip)
        exact ⟨hlt⟩
      · obtain rfl : i = l.length := by omega
        repeat' (first
    | (refine awp_seqK (fun K hK => ?_))
    | (refine Hide.go (by assumption) ?_)
    | ((first | refine zqd ?_ ?_ | refine zqn ?_ ?_ | refine zgd ?_ ?_ | refine zgn ?_ ?_ | refine zdd ?_ ?_ | refine zdn ?_ ?_) <;> (intro h; first | (exfalso; omega) | (simp only [h, decide_true, decide_false, not_false_eq_true]) | skip))
    | (refine end_ret [] ?_; simp [go_sem])
    | (refine stepK_is rfl (hM) (by simp) ?_)
    | (refine dstepK_is rfl (hM) rfl (by simp) ?_)
    | ((fail_if_success with_reducible (refine Owe.mk ?_)); (simp (disch := omega) [go_sem]))
    | (refine And.intro (by omega) ?_)
    | (refine nbI fun bq => ?_)
    | ((first | refine zqm ?_ ?_ | refine zgm ?_ ?_ | refine zdm ?_ ?_) <;> (intro h; simp only [h, Bool.not_true, Bool.not_false]))
    | ((first | refine zqs ?_ ?_ | refine zgs ?_ ?_ | refine zds ?_ ?_) <;> (intro h; first | (exfalso; simp at h; omega) | ((try simp only [h]); (try simp at h))))
    | fail)
        all_goals (first | omega | skip)
    · simp only [ne_eq, hc, not_false_eq_true, if_true]
      unfold eF
      refine acall_of_awp Try.func20 Try.call20 rfl (by simp [Try.ntmps20]) ?_; simp only [Try.ntmps20, Try.results20]
      repeat' (first
    | (refine awp_seqK (fun K hK => ?_))
    | (refine Hide.go (by assumption) ?_)
    | ((first | refine zqd ?_ ?_ | refine zqn ?_ ?_ | refine zgd ?_ ?_ | refine zgn ?_ ?_ | refine zdd ?_ ?_ | refine zdn ?_ ?_) <;> (intro h; first | (exfalso; omega) | (simp only [h, decide_true, decide_false, not_false_eq_true]) | skip))
    | (refine end_ret [] ?_; simp [go_sem, h0, hc])
    | (refine stepK_is rfl (h1) (by simp) ?_)
    | (refine dstepK_is rfl (h1) rfl (by simp) ?_)
    | ((fail_if_success with_reducible (refine Owe.mk ?_)); (simp (disch := omega) [go_sem, h0, hc]))
    | (refine And.intro (by omega) ?_)
    | (refine nbI fun bq => ?_)
    | ((first | refine zqm ?_ ?_ | refine zgm ?_ ?_ | refine zdm ?_ ?_) <;> (intro h; simp only [h, Bool.not_true, Bool.not_false]))
    | ((first | refine zqs ?_ ?_ | refine zgs ?_ ?_ | refine zds ?_ ?_) <;> (intro h; first | (exfalso; simp at h; omega) | ((try simp only [h]); (try simp at h))))
    | fail)
end Go.Proofs.Ytfccgdgippmpgaa
