/-
  Rate24: the body of the law RatingAlls.
-/
import Derived.Test.YtfccgdgippmpgaaRate23
import Derived.Test.YtfccgdgippmpgaaAwake
namespace Go.Proofs.Ytfccgdgippmpgaa
open Go.Ab
set_option linter.unusedSimpArgs false
set_option maxRecDepth 100000
set_option maxHeartbeats 8000000
theorem same_ok (l : List Rt) (le fu le' fu' : Bool) : ACall Try.prog 11 [.list le fu (l.map eRt), .list le' fu' (l.map eRt)] (fun r => r = bl true) := by
  refine ACall.bound (i := 0) rfl Try.call11 fun hb => ?_
  rw [List.length_map] at hb
  have hb : l.length ≤ 140737488355328 := hb
  refine acall_of_awp Try.func11 Try.call11 rfl (by simp [Try.ntmps11]) ?_; simp only [Try.ntmps11, Try.results11]
  repeat' (first
    | (refine awp_seqK (fun K hK => ?_))
    | (refine Hide.go (by assumption) ?_)
    | ((first | refine zqd ?_ ?_ | refine zqn ?_ ?_ | refine zgd ?_ ?_ | refine zgn ?_ ?_ | refine zdd ?_ ?_ | refine zdn ?_ ?_) <;> (intro h; first | (exfalso; omega) | (simp only [h, decide_true, decide_false, not_false_eq_true]) | skip))
    | (refine end_ret [] ?_; simp [go_sem])
    | ((fail_if_success with_reducible (refine Owe.mk ?_)); (simp (disch := omega) [go_sem]))
    | (refine And.intro (by omega) ?_)
    | (refine awp_draw 9 mix (by decide +kernel) ?_)
    | ((first | refine zqm ?_ ?_ | refine zgm ?_ ?_ | refine zdm ?_ ?_) <;> (intro h; simp only [h, Bool.not_true, Bool.not_false]))
    | ((first | refine zqs ?_ ?_ | refine zgs ?_ ?_ | refine zds ?_ ?_) <;> (intro h; first | (exfalso; simp at h; omega) | ((try simp only [h]); (try simp at h))))
    | fail)
  refine awp_for [0, 1, 12] [] (fun i : Nat => [(13, nt .i64 i)]) (fun i : Nat => []) (fun i : Nat => l.length - i) (fun i : Nat => i ≤ l.length) (0) (Le.sub4 rfl (by simp [go_sem])) ⟨?_⟩ ?_
  · exact Nat.zero_le _
  intro i hi AA hAA; simp only [Go.Ab.keepT_nil, Go.Ab.keepT_cons, Go.Ab.dropO_nil, Go.Ab.dropO_cons, List.contains_cons, List.contains_nil, List.elem_cons, List.elem_nil, Nat.reduceBEq, beq_self_eq_true, Nat.reduceEqDiff, Bool.or_false, Bool.false_or, Bool.or_true, Bool.true_or, Bool.false_eq_true, if_true, if_false, List.cons_append, List.nil_append, List.append_nil]
  by_cases hlt : i < l.length
  · repeat' (first
    | (refine awp_seqK (fun K hK => ?_))
    | (refine Hide.go (by assumption) ?_)
    | ((first | refine zqd ?_ ?_ | refine zqn ?_ ?_ | refine zgd ?_ ?_ | refine zgn ?_ ?_ | refine zdd ?_ ?_ | refine zdn ?_ ?_) <;> (intro h; first | (exfalso; omega) | (simp only [h, decide_true, decide_false, not_false_eq_true]) | skip))
    | (refine end_ret [] ?_; simp [go_sem, hlt, eRt])
    | (refine (hAA.next (i + 1) (Le.sub4 rfl (by simp [go_sem])) (by (try dsimp only); omega) ?_))
    | ((fail_if_success with_reducible (refine Owe.mk ?_)); (simp (disch := omega) [go_sem, hlt, eRt]))
    | (refine And.intro (by omega) ?_)
    | (refine awp_draw 9 mix (by decide +kernel) ?_)
    | ((first | refine zqm ?_ ?_ | refine zgm ?_ ?_ | refine zdm ?_ ?_) <;> (intro h; simp only [h, Bool.not_true, Bool.not_false]))
    | ((first | refine zqs ?_ ?_ | refine zgs ?_ ?_ | refine zds ?_ ?_) <;> (intro h; first | (exfalso; simp at h; omega) | ((try simp only [h]); (try simp at h))))
    | fail)
    exact ⟨hlt⟩
  · obtain rfl : i = l.length := by omega
    repeat' (first
    | (refine awp_seqK (fun K hK => ?_))
    | (refine Hide.go (by assumption) ?_)
    | ((first | refine zqd ?_ ?_ | refine zqn ?_ ?_ | refine zgd ?_ ?_ | refine zgn ?_ ?_ | refine zdd ?_ ?_ | refine zdn ?_ ?_) <;> (intro h; first | (exfalso; omega) | (simp only [h, decide_true, decide_false, not_false_eq_true]) | skip))
    | (refine end_ret [] ?_; simp [go_sem])
    | ((fail_if_success with_reducible (refine Owe.mk ?_)); (simp (disch := omega) [go_sem]))
    | (refine And.intro (by omega) ?_)
    | (refine awp_draw 9 mix (by decide +kernel) ?_)
    | ((first | refine zqm ?_ ?_ | refine zgm ?_ ?_ | refine zdm ?_ ?_) <;> (intro h; simp only [h, Bool.not_true, Bool.not_false]))
    | ((first | refine zqs ?_ ?_ | refine zgs ?_ ?_ | refine zds ?_ ?_) <;> (intro h; first | (exfalso; simp at h; omega) | ((try simp only [h]); (try simp at h))))
    | fail)
theorem allQ_snoc (p : Int) (ms : List (List Sc)) (m : List Sc) : allQ p (ms ++ [m]) = if (allQ p ms).1 = 0 then (if (upd (allQ p ms).2 m).1 = 0 then (0, (upd (allQ p ms).2 m).2) else ((upd (allQ p ms).2 m).1, [])) else ((allQ p ms).1, []) := by
  unfold allQ
  by_cases h : p < 1 ∨ 16 < p
  · rw [if_pos h, if_pos h]; rfl
  · rw [if_neg h, if_neg h]; exact run_snoc ms _ m
theorem allQ_okR {p : Int} {ms : List (List Sc)} (h : (allQ p ms).1 = 0) : ∀ r ∈ (allQ p ms).2, r.ok := by
  unfold allQ at *
  by_cases h1 : p < 1 ∨ 16 < p
  · rw [if_pos h1] at h; cases h
  · rw [if_neg h1] at h ⊢
    exact (run_len (ini_ok p.toNat (by omega)) h).2
theorem RatingAlls_ok (p : Int) (ms : List (List Sc)) (hp : Ab.I64 p) (hms : (∀ m ∈ ms, (∀ x ∈ m, x.ok) ∧ m.length * Try.prog.bytesOf 43 ≤ reachBytes) ∧ ms.length * Try.prog.bytesOf 24 ≤ reachBytes) :
    ACall Try.prog 3 [nt .i64 p, .list false false (ms.map eM)] (fun r => r = bl true) := by
  have hA := awake_ok
  have hm1 : ∀ m ∈ ms, ∀ x ∈ m, x.ok := fun m hm => (hms.1 m hm).1
  clear hms
  refine ACall.bound (i := 1) rfl Try.call3 fun hb => ?_
  rw [List.length_map] at hb
  have hb : ms.length ≤ 140737488355328 := hb
  by_cases b1 : 20 < ms.length
  · have b1' : (20 : Int) < ms.length := by omega
    refine acall_of_awp Try.func3 Try.call3 rfl (by simp [Try.ntmps3]) ?_; simp only [Try.ntmps3, Try.results3]
    repeat' (first
    | (refine awp_seqK (fun K hK => ?_))
    | (refine Hide.go (by assumption) ?_)
    | ((first | refine zqd ?_ ?_ | refine zqn ?_ ?_ | refine zgd ?_ ?_ | refine zgn ?_ ?_ | refine zdd ?_ ?_ | refine zdn ?_ ?_) <;> (intro h; first | (exfalso; omega) | (simp only [h, decide_true, decide_false, not_false_eq_true]) | skip))
    | (refine end_ret [] ?_; simp [go_sem, b1'])
    | (refine stepK_is rfl (hA) (by simp) ?_)
    | (refine dstepK_is rfl (hA) rfl (by simp) ?_)
    | ((fail_if_success with_reducible (refine Owe.mk ?_)); (simp (disch := omega) [go_sem, b1']))
    | (refine And.intro (by omega) ?_)
    | ((first | refine zqm ?_ ?_ | refine zgm ?_ ?_ | refine zdm ?_ ?_) <;> (intro h; simp only [h, Bool.not_true, Bool.not_false]))
    | ((first | refine zqs ?_ ?_ | refine zgs ?_ ?_ | refine zds ?_ ?_) <;> (intro h; first | (exfalso; simp at h; omega) | ((try simp only [h]); (try simp at h))))
    | fail)
  · have hx := All_ok p ms false false hp hm1 (by omega)
    have hy := refAll_ok p ms false false hp hm1 (by omega)
    have hS := same_ok (allQ p ms).2
    have hS0 := same_ok []
    refine acall_of_awp Try.func3 Try.call3 rfl (by simp [Try.ntmps3]) ?_; simp only [Try.ntmps3, Try.results3]
    repeat' (first
    | (refine awp_seqK (fun K hK => ?_))
    | (refine Hide.go (by assumption) ?_)
    | ((first | refine zqd ?_ ?_ | refine zqn ?_ ?_ | refine zgd ?_ ?_ | refine zgn ?_ ?_ | refine zdd ?_ ?_ | refine zdn ?_ ?_) <;> (intro h; first | (exfalso; omega) | (simp only [h, decide_true, decide_false, not_false_eq_true]) | skip))
    | (refine end_ret [] ?_; simp [go_sem])
    | (refine stepK_is rfl (hA) (by simp) ?_)
    | (refine dstepK_is rfl (hA) rfl (by simp) ?_)
    | ((fail_if_success with_reducible (refine Owe.mk ?_)); (simp (disch := omega) [go_sem]))
    | (refine And.intro (by omega) ?_)
    | ((first | refine zqm ?_ ?_ | refine zgm ?_ ?_ | refine zdm ?_ ?_) <;> (intro h; simp only [h, Bool.not_true, Bool.not_false]))
    | ((first | refine zqs ?_ ?_ | refine zgs ?_ ?_ | refine zds ?_ ?_) <;> (intro h; first | (exfalso; simp at h; omega) | ((try simp only [h]); (try simp at h))))
    | fail)
    refine awp_for [0, 1, 17] [] (fun i : Nat => [(18, nt .i64 i)]) (fun i : Nat => []) (fun i : Nat => ms.length - i) (fun i : Nat => i ≤ ms.length) (0) (Le.sub4 rfl (by simp [go_sem])) ⟨?_⟩ ?_
    · exact Nat.zero_le _
    intro i hi AA hAA; simp only [Go.Ab.keepT_nil, Go.Ab.keepT_cons, Go.Ab.dropO_nil, Go.Ab.dropO_cons, List.contains_cons, List.contains_nil, List.elem_cons, List.elem_nil, Nat.reduceBEq, beq_self_eq_true, Nat.reduceEqDiff, Bool.or_false, Bool.false_or, Bool.or_true, Bool.true_or, Bool.false_eq_true, if_true, if_false, List.cons_append, List.nil_append, List.append_nil]
    by_cases hlt : i < ms.length
    · by_cases b2 : 20 < ms[i].length
      · have b2' : (20 : Int) < ms[i].length := by omega
        repeat' (first
    | (refine awp_seqK (fun K hK => ?_))
    | (refine Hide.go (by assumption) ?_)
    | ((first | refine zqd ?_ ?_ | refine zqn ?_ ?_ | refine zgd ?_ ?_ | refine zgn ?_ ?_ | refine zdd ?_ ?_ | refine zdn ?_ ?_) <;> (intro h; first | (exfalso; omega) | (simp only [h, decide_true, decide_false, not_false_eq_true]) | skip))
    | (refine end_ret [] ?_; simp [go_sem, hlt, eM, b2'])
    | (refine stepK_is rfl (hA) (by simp) ?_)
    | (refine dstepK_is rfl (hA) rfl (by simp) ?_)
    | ((fail_if_success with_reducible (refine Owe.mk ?_)); (simp (disch := omega) [go_sem, hlt, eM, b2']))
    | (refine And.intro (by omega) ?_)
    | ((first | refine zqm ?_ ?_ | refine zgm ?_ ?_ | refine zdm ?_ ?_) <;> (intro h; simp only [h, Bool.not_true, Bool.not_false]))
    | ((first | refine zqs ?_ ?_ | refine zgs ?_ ?_ | refine zds ?_ ?_) <;> (intro h; first | (exfalso; simp at h; omega) | ((try simp only [h]); (try simp at h))))
    | fail)
      · repeat' (first
    | (refine awp_seqK (fun K hK => ?_))
    | (refine Hide.go (by assumption) ?_)
    | ((first | refine zqd ?_ ?_ | refine zqn ?_ ?_ | refine zgd ?_ ?_ | refine zgn ?_ ?_ | refine zdd ?_ ?_ | refine zdn ?_ ?_) <;> (intro h; first | (exfalso; omega) | (simp only [h, decide_true, decide_false, not_false_eq_true]) | skip))
    | (refine end_ret [] ?_; simp [go_sem, hlt, eM])
    | (refine stepK_is rfl (hA) (by simp) ?_)
    | (refine dstepK_is rfl (hA) rfl (by simp) ?_)
    | (refine (hAA.next (i + 1) (Le.sub4 rfl (by simp [go_sem])) (by (try dsimp only); omega) ?_))
    | ((fail_if_success with_reducible (refine Owe.mk ?_)); (simp (disch := omega) [go_sem, hlt, eM]))
    | (refine And.intro (by omega) ?_)
    | ((first | refine zqm ?_ ?_ | refine zgm ?_ ?_ | refine zdm ?_ ?_) <;> (intro h; simp only [h, Bool.not_true, Bool.not_false]))
    | ((first | refine zqs ?_ ?_ | refine zgs ?_ ?_ | refine zds ?_ ?_) <;> (intro h; first | (exfalso; simp at h; omega) | ((try simp only [h]); (try simp at h))))
    | fail)
        exact ⟨hlt⟩
    · obtain rfl : i = ms.length := by omega
      have hlenT : True := trivial
      by_cases h0 : (allQ p ms).1 = 0
      · unfold updV at hx hy
        rw [if_pos h0] at hx hy
        by_cases hn : ms.length = 0
        · generalize (allQ p ms).2 = X at *
          repeat' (first
    | (refine awp_seqK (fun K hK => ?_))
    | (refine Hide.go (by assumption) ?_)
    | ((first | refine zqd ?_ ?_ | refine zqn ?_ ?_ | refine zgd ?_ ?_ | refine zgn ?_ ?_ | refine zdd ?_ ?_ | refine zdn ?_ ?_) <;> (intro h; first | (exfalso; omega) | (simp only [h, decide_true, decide_false, not_false_eq_true]) | skip))
    | (refine end_ret [] ?_; simp [go_sem, hlenT, hn])
    | (refine stepK_is rfl (hx) (by simp) ?_)
    | (refine dstepK_is rfl (hx) rfl (by simp) ?_)
    | (refine stepK_is rfl (hy) (by simp) ?_)
    | (refine dstepK_is rfl (hy) rfl (by simp) ?_)
    | (refine stepK_is rfl (hS true false true false) (by simp) ?_)
    | (refine dstepK_is rfl (hS true false true false) rfl (by simp) ?_)
    | (refine stepK_is rfl (hA) (by simp) ?_)
    | (refine dstepK_is rfl (hA) rfl (by simp) ?_)
    | (refine stepK_is ?hl (hx) (by simp) ?_; (case hl => (simp [go_sem, hlenT, hn]; done)))
    | (refine stepK_is ?hl (hy) (by simp) ?_; (case hl => (simp [go_sem, hlenT, hn]; done)))
    | (refine stepK_is ?hl (hS true false true false) (by simp) ?_; (case hl => (simp [go_sem, hlenT, hn]; done)))
    | (refine stepK_is ?hl (hA) (by simp) ?_; (case hl => (simp [go_sem, hlenT, hn]; done)))
    | ((fail_if_success with_reducible (refine Owe.mk ?_)); (simp (disch := omega) [go_sem, hlenT, hn]))
    | (refine And.intro (by omega) ?_)
    | ((first | refine zqm ?_ ?_ | refine zgm ?_ ?_ | refine zdm ?_ ?_) <;> (intro h; simp only [h, Bool.not_true, Bool.not_false]))
    | ((first | refine zqs ?_ ?_ | refine zgs ?_ ?_ | refine zds ?_ ?_) <;> (intro h; first | (exfalso; simp at h; omega) | ((try simp only [h]); (try simp at h))))
    | fail)
        · obtain ⟨k, hk⟩ : ∃ k, ms.length = k + 1 := ⟨ms.length - 1, by omega⟩
          have hkl : k < ms.length := by omega
          have ht := take_next hkl
          rw [← hk, List.take_length] at ht
          have hq := allQ_snoc p (ms.take k) ms[k]
          rw [← ht] at hq
          have hr := allQ_okR (p := p) (ms := ms.take k)
          have hd := fun f => All_ok p (ms.take k) false f hp (fun m hm => hm1 m (List.mem_of_mem_take hm)) (by rw [List.length_take]; omega)
          have hmem := List.getElem_mem hkl
          by_cases h1 : (allQ p (ms.take k)).1 = 0
          · have hU := Update_ok (allQ p (ms.take k)).2 ms[k] true false false false (hr h1) (hm1 _ hmem)
            rw [if_pos h1] at hq
            by_cases h2 : (upd (allQ p (ms.take k)).2 ms[k]).1 = 0
            · rw [if_pos h2] at hq
              unfold updV at hU
              simp only [updV] at hd
              rw [if_pos h2] at hU
              simp only [if_pos h1] at hd
              rw [hq] at hS hx hy
              dsimp only at hS hx hy
              generalize (upd (allQ p (ms.take k)).2 ms[k]).2 = Z at *
              generalize (allQ p (ms.take k)).2 = Y at *
              have e1 : ((ms.length : Int) - 1).toNat = k := by omega
              have e2 : (ms.length : Int) - 1 = (k : Int) := by omega
              clear ht hq hr
              repeat' (first
    | (refine awp_seqK (fun K hK => ?_))
    | (refine Hide.go (by assumption) ?_)
    | ((first | refine zqd ?_ ?_ | refine zqn ?_ ?_ | refine zgd ?_ ?_ | refine zgn ?_ ?_ | refine zdd ?_ ?_ | refine zdn ?_ ?_) <;> (intro h; first | (exfalso; omega) | (simp only [h, decide_true, decide_false, not_false_eq_true]) | skip))
    | (refine end_ret [] ?_; simp [go_sem, hlenT, e1, e2, eM, hkl])
    | (refine stepK_is rfl (hx) (by simp) ?_)
    | (refine dstepK_is rfl (hx) rfl (by simp) ?_)
    | (refine stepK_is rfl (hy) (by simp) ?_)
    | (refine dstepK_is rfl (hy) rfl (by simp) ?_)
    | (refine stepK_is rfl (hS true false true false) (by simp) ?_)
    | (refine dstepK_is rfl (hS true false true false) rfl (by simp) ?_)
    | (refine stepK_is rfl (hd false) (by simp) ?_)
    | (refine dstepK_is rfl (hd false) rfl (by simp) ?_)
    | (refine stepK_is rfl (hd true) (by simp) ?_)
    | (refine dstepK_is rfl (hd true) rfl (by simp) ?_)
    | (refine stepK_is rfl (hU) (by simp) ?_)
    | (refine dstepK_is rfl (hU) rfl (by simp) ?_)
    | (refine stepK_is rfl (hA) (by simp) ?_)
    | (refine dstepK_is rfl (hA) rfl (by simp) ?_)
    | (refine stepK_is ?hl (hx) (by simp) ?_; (case hl => (simp [go_sem, hlenT, e1, e2, eM, hkl]; done)))
    | (refine stepK_is ?hl (hy) (by simp) ?_; (case hl => (simp [go_sem, hlenT, e1, e2, eM, hkl]; done)))
    | (refine stepK_is ?hl (hS true false true false) (by simp) ?_; (case hl => (simp [go_sem, hlenT, e1, e2, eM, hkl]; done)))
    | (refine stepK_is ?hl (hd false) (by simp) ?_; (case hl => (simp [go_sem, hlenT, e1, e2, eM, hkl]; done)))
    | (refine stepK_is ?hl (hd true) (by simp) ?_; (case hl => (simp [go_sem, hlenT, e1, e2, eM, hkl]; done)))
    | (refine stepK_is ?hl (hU) (by simp) ?_; (case hl => (simp [go_sem, hlenT, e1, e2, eM, hkl]; done)))
    | (refine stepK_is ?hl (hA) (by simp) ?_; (case hl => (simp [go_sem, hlenT, e1, e2, eM, hkl]; done)))
    | ((fail_if_success with_reducible (refine Owe.mk ?_)); (simp (disch := omega) [go_sem, hlenT, e1, e2, eM, hkl]))
    | (refine And.intro (by omega) ?_)
    | ((first | refine zqm ?_ ?_ | refine zgm ?_ ?_ | refine zdm ?_ ?_) <;> (intro h; simp only [h, Bool.not_true, Bool.not_false]))
    | ((first | refine zqs ?_ ?_ | refine zgs ?_ ?_ | refine zds ?_ ?_) <;> (intro h; first | (exfalso; simp at h; omega) | ((try simp only [h]); (try simp at h))))
    | fail)
            · rw [if_neg h2] at hq
              rw [hq] at h0
              exact absurd h0 h2
          · rw [if_neg h1] at hq
            rw [hq] at h0
            exact absurd h0 h1
      · unfold updV at hx hy
        rw [if_neg h0] at hx hy
        generalize (allQ p ms).1 = e at *
        repeat' (first
    | (refine awp_seqK (fun K hK => ?_))
    | (refine Hide.go (by assumption) ?_)
    | ((first | refine zqd ?_ ?_ | refine zqn ?_ ?_ | refine zgd ?_ ?_ | refine zgn ?_ ?_ | refine zdd ?_ ?_ | refine zdn ?_ ?_) <;> (intro h; first | (exfalso; omega) | (simp only [h, decide_true, decide_false, not_false_eq_true]) | skip))
    | (refine end_ret [] ?_; simp [go_sem, h0])
    | (refine stepK_is rfl (hx) (by simp) ?_)
    | (refine dstepK_is rfl (hx) rfl (by simp) ?_)
    | (refine stepK_is rfl (hy) (by simp) ?_)
    | (refine dstepK_is rfl (hy) rfl (by simp) ?_)
    | (refine stepK_is rfl (hS0 false true false true) (by simp) ?_)
    | (refine dstepK_is rfl (hS0 false true false true) rfl (by simp) ?_)
    | (refine stepK_is rfl (hA) (by simp) ?_)
    | (refine dstepK_is rfl (hA) rfl (by simp) ?_)
    | ((fail_if_success with_reducible (refine Owe.mk ?_)); (simp (disch := omega) [go_sem, h0]))
    | (refine And.intro (by omega) ?_)
    | ((first | refine zqm ?_ ?_ | refine zgm ?_ ?_ | refine zdm ?_ ?_) <;> (intro h; simp only [h, Bool.not_true, Bool.not_false]))
    | ((first | refine zqs ?_ ?_ | refine zgs ?_ ?_ | refine zds ?_ ?_) <;> (intro h; first | (exfalso; simp at h; omega) | ((try simp only [h]); (try simp at h))))
    | fail)
end Go.Proofs.Ytfccgdgippmpgaa
