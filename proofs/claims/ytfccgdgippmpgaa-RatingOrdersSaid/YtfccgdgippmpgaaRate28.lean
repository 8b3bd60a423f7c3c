/-
  Rate28: the body of the law RatingOrders.
-/
import Derived.Test.YtfccgdgippmpgaaRate27
namespace Go.Proofs.Ytfccgdgippmpgaa
open Go.Ab
set_option linter.unusedSimpArgs false
set_option maxRecDepth 100000
set_option maxHeartbeats 8000000
theorem Ints_ok (l : List Int) (le fu le' fu' : Bool) : ACall Try.prog 22 [.list le fu (l.map (nt .i64)), .list le' fu' (l.map (nt .i64))] (fun r => r = bl true) := by
  refine ACall.bound (i := 0) rfl Try.call22 fun hb => ?_
  rw [List.length_map] at hb
  have hb : l.length ≤ 140737488355328 := hb
  refine acall_of_awp Try.func22 Try.call22 rfl (by simp [Try.ntmps22]) ?_; simp only [Try.ntmps22, Try.results22]
  repeat' (first
    | (refine awp_seqK (fun K hK => ?_))
    | (refine Hide.go (by assumption) ?_)
    | ((first | refine zqd ?_ ?_ | refine zqn ?_ ?_ | refine zgd ?_ ?_ | refine zgn ?_ ?_ | refine zdd ?_ ?_ | refine zdn ?_ ?_) <;> (intro h; first | (exfalso; omega) | (simp only [h, decide_true, decide_false, not_false_eq_true]) | skip))
    | (refine end_ret [] ?_; simp [go_sem])
    | ((fail_if_success with_reducible (refine Owe.mk ?_)); (simp (disch := omega) [go_sem]))
    | (refine And.intro (by omega) ?_)
    | (refine awp_draw 9 mix (by decide +kernel) ?_)
    | (refine nbI fun bq => ?_)
    | ((first | refine zqm ?_ ?_ | refine zgm ?_ ?_ | refine zdm ?_ ?_) <;> (intro h; simp only [h, Bool.not_true, Bool.not_false]))
    | ((first | refine zqs ?_ ?_ | refine zgs ?_ ?_ | refine zds ?_ ?_) <;> (intro h; first | (exfalso; simp at h; omega) | ((try simp only [h]); (try simp at h))))
    | fail)
  refine awp_for [0, 1, 12] [] (fun i : Nat => [(13, nt .i64 i)]) (fun i : Nat => []) (fun i : Nat => l.length - i) (fun i : Nat => i ≤ l.length) (0) (Le.sub4 rfl (by simp [go_sem])) ⟨?_⟩ ?_
  · exact Nat.zero_le _
  intro i hi AA hAA; simp only [Go.Ab.keepT_nil, Go.Ab.keepT_cons, Go.Ab.dropO_nil, Go.Ab.dropO_cons, List.contains_cons, List.contains_nil, List.elem_cons, List.elem_nil, Nat.reduceBEq, beq_self_eq_true, Nat.reduceEqDiff, Bool.or_false, Bool.false_or, Bool.or_true, Bool.true_or, Bool.false_eq_true, if_true, if_false, List.cons_append, List.nil_append, List.append_nil]
  by_cases hlt : i < l.length
  · repeat' (first
    | (refine awp_seqK (fun K hK => ?_))
    | (refine Hide.go (by assumption) ?_)
    | ((first | refine zqd ?_ ?_ | refine zqn ?_ ?_ | refine zgd ?_ ?_ | refine zgn ?_ ?_ | refine zdd ?_ ?_ | refine zdn ?_ ?_) <;> (intro h; first | (exfalso; omega) | (simp only [h, decide_true, decide_false, not_false_eq_true]) | skip))
    | (refine end_ret [] ?_; simp [go_sem, hlt])
    | (refine (hAA.next (i + 1) (Le.sub4 rfl (by simp [go_sem])) (by (try dsimp only); omega) ?_))
    | ((fail_if_success with_reducible (refine Owe.mk ?_)); (simp (disch := omega) [go_sem, hlt]))
    | (refine And.intro (by omega) ?_)
    | (refine awp_draw 9 mix (by decide +kernel) ?_)
    | (refine nbI fun bq => ?_)
    | ((first | refine zqm ?_ ?_ | refine zgm ?_ ?_ | refine zdm ?_ ?_) <;> (intro h; simp only [h, Bool.not_true, Bool.not_false]))
    | ((first | refine zqs ?_ ?_ | refine zgs ?_ ?_ | refine zds ?_ ?_) <;> (intro h; first | (exfalso; simp at h; omega) | ((try simp only [h]); (try simp at h))))
    | fail)
    exact ⟨hlt⟩
  · obtain rfl : i = l.length := by omega
    repeat' (first
    | (refine awp_seqK (fun K hK => ?_))
    | (refine Hide.go (by assumption) ?_)
    | ((first | refine zqd ?_ ?_ | refine zqn ?_ ?_ | refine zgd ?_ ?_ | refine zgn ?_ ?_ | refine zdd ?_ ?_ | refine zdn ?_ ?_) <;> (intro h; first | (exfalso; omega) | (simp only [h, decide_true, decide_false, not_false_eq_true]) | skip))
    | (refine end_ret [] ?_; simp [go_sem])
    | ((fail_if_success with_reducible (refine Owe.mk ?_)); (simp (disch := omega) [go_sem]))
    | (refine And.intro (by omega) ?_)
    | (refine awp_draw 9 mix (by decide +kernel) ?_)
    | (refine nbI fun bq => ?_)
    | ((first | refine zqm ?_ ?_ | refine zgm ?_ ?_ | refine zdm ?_ ?_) <;> (intro h; simp only [h, Bool.not_true, Bool.not_false]))
    | ((first | refine zqs ?_ ?_ | refine zgs ?_ ?_ | refine zds ?_ ?_) <;> (intro h; first | (exfalso; simp at h; omega) | ((try simp only [h]); (try simp at h))))
    | fail)
theorem RatingOrders_ok (l : List Rt) (hl : (∀ r ∈ l, r.ok) ∧ l.length * Try.prog.bytesOf 35 ≤ reachBytes) : ACall Try.prog 7 [.list false false (l.map eRt)] (fun r => r = bl true) := by
  have hA := awake_ok
  have a1 := Average_ok l false false hl.1
  have a2 := refAverage_ok l false false hl.1
  have k1 := refCheck_ok l false false hl.1
  refine ACall.bound (i := 0) rfl Try.call7 fun hb => ?_
  rw [List.length_map] at hb
  have hb : l.length ≤ 140737488355328 := hb
  by_cases b1 : 20 < l.length
  · have b1' : (20 : Int) < l.length := by omega
    refine acall_of_awp Try.func7 Try.call7 rfl (by simp [Try.ntmps7]) ?_; simp only [Try.ntmps7, Try.results7]
    repeat' (first
    | (refine awp_seqK (fun K hK => ?_))
    | (refine Hide.go (by assumption) ?_)
    | ((first | refine zqd ?_ ?_ | refine zqn ?_ ?_ | refine zgd ?_ ?_ | refine zgn ?_ ?_ | refine zdd ?_ ?_ | refine zdn ?_ ?_) <;> (intro h; first | (exfalso; omega) | (simp only [h, decide_true, decide_false, not_false_eq_true]) | skip))
    | (refine end_ret [] ?_; simp [go_sem, b1'])
    | (refine stepK_is rfl (hA) (by simp) ?_)
    | (refine dstepK_is rfl (hA) rfl (by simp) ?_)
    | ((fail_if_success with_reducible (refine Owe.mk ?_)); (simp (disch := omega) [go_sem, b1']))
    | (refine And.intro (by omega) ?_)
    | (refine nbI fun bq => ?_)
    | ((first | refine zqm ?_ ?_ | refine zgm ?_ ?_ | refine zdm ?_ ?_) <;> (intro h; simp only [h, Bool.not_true, Bool.not_false]))
    | ((first | refine zqs ?_ ?_ | refine zgs ?_ ?_ | refine zds ?_ ?_) <;> (intro h; first | (exfalso; simp at h; omega) | ((try simp only [h]); (try simp at h))))
    | fail)
  · unfold eF at a1 a2
    generalize avgQ l = q at *
    obtain ⟨n, d, e⟩ := q
    dsimp only at a1 a2
    by_cases hc : chk l = 0
    · have o1 := Order_ok l false false hc
      have o2 := fun O hp hs => refOrder_ok l O false false hl.1 hc hp hs
      rw [hc] at k1
      refine acall_of_awp Try.func7 Try.call7 rfl (by simp [Try.ntmps7]) ?_; simp only [Try.ntmps7, Try.results7]
      repeat' (first
    | (refine awp_seqK (fun K hK => ?_))
    | (refine Hide.go (by assumption) ?_)
    | ((first | refine zqd ?_ ?_ | refine zqn ?_ ?_ | refine zgd ?_ ?_ | refine zgn ?_ ?_ | refine zdd ?_ ?_ | refine zdn ?_ ?_) <;> (intro h; first | (exfalso; omega) | (simp only [h, decide_true, decide_false, not_false_eq_true]) | skip))
    | (refine end_ret [] ?_; simp [go_sem])
    | (refine stepK_is rfl (a1) (by simp) ?_)
    | (refine dstepK_is rfl (a1) rfl (by simp) ?_)
    | (refine stepK_is rfl (a2) (by simp) ?_)
    | (refine dstepK_is rfl (a2) rfl (by simp) ?_)
    | (refine stepK_is rfl (k1) (by simp) ?_)
    | (refine dstepK_is rfl (k1) rfl (by simp) ?_)
    | (refine stepK_is rfl (hA) (by simp) ?_)
    | (refine dstepK_is rfl (hA) rfl (by simp) ?_)
    | ((fail_if_success with_reducible (refine Owe.mk ?_)); (simp (disch := omega) [go_sem]))
    | (refine And.intro (by omega) ?_)
    | (refine nbI fun bq => ?_)
    | ((first | refine zqm ?_ ?_ | refine zgm ?_ ?_ | refine zdm ?_ ?_) <;> (intro h; simp only [h, Bool.not_true, Bool.not_false]))
    | ((first | refine zqs ?_ ?_ | refine zgs ?_ ?_ | refine zds ?_ ?_) <;> (intro h; first | (exfalso; simp at h; omega) | ((try simp only [h]); (try simp at h))))
    | fail)
      refine stepK_call [] _ rfl rfl (o1) (by simp) ?_; rintro _ ⟨O, ⟨hp, hs⟩, rfl⟩
      have o2 := o2 O hp hs
      clear o1
      generalize O.map (·.p) = A at *
      have i1 := Ints_ok A true false true false
      have hlenT : True := trivial
      repeat' (first
    | (refine awp_seqK (fun K hK => ?_))
    | (refine Hide.go (by assumption) ?_)
    | ((first | refine zqd ?_ ?_ | refine zqn ?_ ?_ | refine zgd ?_ ?_ | refine zgn ?_ ?_ | refine zdd ?_ ?_ | refine zdn ?_ ?_) <;> (intro h; first | (exfalso; omega) | (simp only [h, decide_true, decide_false, not_false_eq_true]) | skip))
    | (refine end_ret [] ?_; simp [go_sem, hlenT])
    | (refine stepK_is rfl (o2) (by simp) ?_)
    | (refine dstepK_is rfl (o2) rfl (by simp) ?_)
    | (refine stepK_is rfl (i1) (by simp) ?_)
    | (refine dstepK_is rfl (i1) rfl (by simp) ?_)
    | (refine stepK_is rfl (hA) (by simp) ?_)
    | (refine dstepK_is rfl (hA) rfl (by simp) ?_)
    | (refine stepK_is ?hl (o2) (by simp) ?_; (case hl => (simp [go_sem, hlenT]; done)))
    | (refine stepK_is ?hl (i1) (by simp) ?_; (case hl => (simp [go_sem, hlenT]; done)))
    | (refine stepK_is ?hl (hA) (by simp) ?_; (case hl => (simp [go_sem, hlenT]; done)))
    | ((fail_if_success with_reducible (refine Owe.mk ?_)); (simp (disch := omega) [go_sem, hlenT]))
    | (refine And.intro (by omega) ?_)
    | (refine nbI fun bq => ?_)
    | ((first | refine zqm ?_ ?_ | refine zgm ?_ ?_ | refine zdm ?_ ?_) <;> (intro h; simp only [h, Bool.not_true, Bool.not_false]))
    | ((first | refine zqs ?_ ?_ | refine zgs ?_ ?_ | refine zds ?_ ?_) <;> (intro h; first | (exfalso; simp at h; omega) | ((try simp only [h]); (try simp at h))))
    | fail)
    · generalize chk l = c at *
      refine acall_of_awp Try.func7 Try.call7 rfl (by simp [Try.ntmps7]) ?_; simp only [Try.ntmps7, Try.results7]
      repeat' (first
    | (refine awp_seqK (fun K hK => ?_))
    | (refine Hide.go (by assumption) ?_)
    | ((first | refine zqd ?_ ?_ | refine zqn ?_ ?_ | refine zgd ?_ ?_ | refine zgn ?_ ?_ | refine zdd ?_ ?_ | refine zdn ?_ ?_) <;> (intro h; first | (exfalso; omega) | (simp only [h, decide_true, decide_false, not_false_eq_true]) | skip))
    | (refine end_ret [] ?_; simp [go_sem, hc])
    | (refine stepK_is rfl (a1) (by simp) ?_)
    | (refine dstepK_is rfl (a1) rfl (by simp) ?_)
    | (refine stepK_is rfl (a2) (by simp) ?_)
    | (refine dstepK_is rfl (a2) rfl (by simp) ?_)
    | (refine stepK_is rfl (k1) (by simp) ?_)
    | (refine dstepK_is rfl (k1) rfl (by simp) ?_)
    | (refine stepK_is rfl (hA) (by simp) ?_)
    | (refine dstepK_is rfl (hA) rfl (by simp) ?_)
    | ((fail_if_success with_reducible (refine Owe.mk ?_)); (simp (disch := omega) [go_sem, hc]))
    | (refine And.intro (by omega) ?_)
    | (refine nbI fun bq => ?_)
    | ((first | refine zqm ?_ ?_ | refine zgm ?_ ?_ | refine zdm ?_ ?_) <;> (intro h; simp only [h, Bool.not_true, Bool.not_false]))
    | ((first | refine zqs ?_ ?_ | refine zgs ?_ ?_ | refine zds ?_ ?_) <;> (intro h; first | (exfalso; simp at h; omega) | ((try simp only [h]); (try simp at h))))
    | fail)
end Go.Proofs.Ytfccgdgippmpgaa
