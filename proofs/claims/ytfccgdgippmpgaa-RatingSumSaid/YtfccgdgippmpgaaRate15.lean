/-
  Rate15: the bodies of the laws RatingSum; what a match leaves.
-/
import Derived.Test.YtfccgdgippmpgaaRate14
import Derived.Test.YtfccgdgippmpgaaAwake
namespace Go.Proofs.Ytfccgdgippmpgaa
open Go.Ab
set_option linter.unusedSimpArgs false
set_option maxRecDepth 100000
set_option maxHeartbeats 8000000
theorem avg_sum {l O : List Rt} (h : chk l = 0) (h' : chk O = 0) (hl : O.length = l.length) (hs : sumZ (O.map Rt.c) = sumZ (l.map Rt.c)) : avgQ O = avgQ l := by
  unfold avgQ
  rw [h, h', hl, hs]
theorem upd_ne {l : List Rt} {s : List Sc} {O : List Rt} (h : Upd l s O) : l.length ≠ 0 := by
  obtain ⟨h2, _⟩ := scB_facts h.sc
  have := h.fnd.lt _ (List.getElem_mem (show 0 < s.length by omega))
  omega
theorem avg_fine {l : List Rt} (h : chk l = 0) (h0 : l.length ≠ 0) : (avgQ l).2.2 = 0 := by
  obtain ⟨hl16, hrg, hasc⟩ := chk_facts h
  have hbd := csum_bd hrg l.length
  rw [csum_all] at hbd
  unfold avgQ
  rw [if_neg h0, if_neg (by simp [h])]
  obtain ⟨g, u, v, _, _, _, _, _, h4⟩ := mk_parts (n := sumZ (l.map Rt.c)) (m := 100 * l.length) (by omega) (by omega) (by omega)
  have e : ((100 * l.length : Nat) : Int) = 100 * (l.length : Int) := by simp
  rw [e] at h4
  rw [h4]
theorem RatingSum_ok (l : List Rt) (s : List Sc) (hl : (∀ r ∈ l, r.ok) ∧ l.length * Try.prog.bytesOf 35 ≤ reachBytes) (hs : (∀ x ∈ s, x.ok) ∧ s.length * Try.prog.bytesOf 43 ≤ reachBytes) : ACall Try.prog 5 [.list false false (l.map eRt), .list false false (s.map eSc)] (fun r => r = bl true) := by
  have hA := awake_ok
  have hU := Update_ok l s false false false false hl.1 hs.1
  have a1 := Average_ok l false false hl.1
  by_cases b1 : 20 < l.length
  · have b1' : (20 : Int) < l.length := by omega
    refine acall_of_awp Try.func5 Try.call5 rfl (by simp [Try.ntmps5]) ?_; simp only [Try.ntmps5, Try.results5]
    repeat' (first
    | (refine awp_seqK (fun K hK => ?_))
    | (refine Hide.go (by assumption) ?_)
    | ((first | refine zqd ?_ ?_ | refine zqn ?_ ?_ | refine zgd ?_ ?_ | refine zgn ?_ ?_ | refine zdd ?_ ?_ | refine zdn ?_ ?_) <;> (intro h; first | (exfalso; omega) | (simp only [h, decide_true, decide_false, not_false_eq_true]) | skip))
    | (refine end_ret [] ?_; simp [go_sem, b1'])
    | (refine stepK_is rfl (hA) (by simp) ?_)
    | (refine dstepK_is rfl (hA) rfl (by simp) ?_)
    | ((fail_if_success with_reducible (refine Owe.mk ?_)); (simp (disch := omega) [go_sem, b1']))
    | (refine And.intro (by omega) ?_)
    | ((first | refine zqm ?_ ?_ | refine zgm ?_ ?_ | refine zdm ?_ ?_) <;> (intro h; simp only [h, Bool.not_true, Bool.not_false]))
    | ((first | refine zqs ?_ ?_ | refine zgs ?_ ?_ | refine zds ?_ ?_) <;> (intro h; first | (exfalso; simp at h; omega) | ((try simp only [h]); (try simp at h))))
    | fail)
  · by_cases b2 : 20 < s.length
    · have b2' : (20 : Int) < s.length := by omega
      refine acall_of_awp Try.func5 Try.call5 rfl (by simp [Try.ntmps5]) ?_; simp only [Try.ntmps5, Try.results5]
      repeat' (first
    | (refine awp_seqK (fun K hK => ?_))
    | (refine Hide.go (by assumption) ?_)
    | ((first | refine zqd ?_ ?_ | refine zqn ?_ ?_ | refine zgd ?_ ?_ | refine zgn ?_ ?_ | refine zdd ?_ ?_ | refine zdn ?_ ?_) <;> (intro h; first | (exfalso; omega) | (simp only [h, decide_true, decide_false, not_false_eq_true]) | skip))
    | (refine end_ret [] ?_; simp [go_sem, b2'])
    | (refine stepK_is rfl (hA) (by simp) ?_)
    | (refine dstepK_is rfl (hA) rfl (by simp) ?_)
    | ((fail_if_success with_reducible (refine Owe.mk ?_)); (simp (disch := omega) [go_sem, b2']))
    | (refine And.intro (by omega) ?_)
    | ((first | refine zqm ?_ ?_ | refine zgm ?_ ?_ | refine zdm ?_ ?_) <;> (intro h; simp only [h, Bool.not_true, Bool.not_false]))
    | ((first | refine zqs ?_ ?_ | refine zgs ?_ ?_ | refine zds ?_ ?_) <;> (intro h; first | (exfalso; simp at h; omega) | ((try simp only [h]); (try simp at h))))
    | fail)
    · by_cases hu : (upd l s).1 = 0
      · obtain ⟨O, hO⟩ : ∃ O, upd l s = (0, O) := ⟨(upd l s).2, by rw [← hu]⟩
        have F := upd_facts hO hl.1
        have a2 := Average_ok O true false fun r hr => by
          obtain ⟨k, hk⟩ := List.getElem?_of_mem hr
          exact (F.vals k r hk).2
        have e1 := avg_fine F.chk (upd_ne F)
        rw [avg_sum F.chk F.chkO F.len (by rw [F.cs, outr_sum F.fnd])] at a2
        have e2 : avgQ l = ((avgQ l).1, (avgQ l).2.1, 0) := by rw [← e1]
        rw [e2] at a1 a2
        generalize (avgQ l).1 = n at *
        generalize (avgQ l).2.1 = d at *
        rw [hO] at hU
        simp only [updV, if_true] at hU
        unfold eF at a1 a2
        have hlen := F.len
        have hlenT : True := trivial
        refine acall_of_awp Try.func5 Try.call5 rfl (by simp [Try.ntmps5]) ?_; simp only [Try.ntmps5, Try.results5]
        repeat' (first
    | (refine awp_seqK (fun K hK => ?_))
    | (refine Hide.go (by assumption) ?_)
    | ((first | refine zqd ?_ ?_ | refine zqn ?_ ?_ | refine zgd ?_ ?_ | refine zgn ?_ ?_ | refine zdd ?_ ?_ | refine zdn ?_ ?_) <;> (intro h; first | (exfalso; omega) | (simp only [h, decide_true, decide_false, not_false_eq_true]) | skip))
    | (refine end_ret [] ?_; simp [go_sem, hlenT])
    | (refine stepK_is rfl (hU) (by simp) ?_)
    | (refine dstepK_is rfl (hU) rfl (by simp) ?_)
    | (refine stepK_is rfl (a1) (by simp) ?_)
    | (refine dstepK_is rfl (a1) rfl (by simp) ?_)
    | (refine stepK_is rfl (a2) (by simp) ?_)
    | (refine dstepK_is rfl (a2) rfl (by simp) ?_)
    | (refine stepK_is rfl (hA) (by simp) ?_)
    | (refine dstepK_is rfl (hA) rfl (by simp) ?_)
    | (refine stepK_is ?hl (hU) (by simp) ?_; (case hl => (simp [go_sem, hlenT]; done)))
    | (refine stepK_is ?hl (a1) (by simp) ?_; (case hl => (simp [go_sem, hlenT]; done)))
    | (refine stepK_is ?hl (a2) (by simp) ?_; (case hl => (simp [go_sem, hlenT]; done)))
    | (refine stepK_is ?hl (hA) (by simp) ?_; (case hl => (simp [go_sem, hlenT]; done)))
    | ((fail_if_success with_reducible (refine Owe.mk ?_)); (simp (disch := omega) [go_sem, hlenT]))
    | (refine And.intro (by omega) ?_)
    | ((first | refine zqm ?_ ?_ | refine zgm ?_ ?_ | refine zdm ?_ ?_) <;> (intro h; simp only [h, Bool.not_true, Bool.not_false]))
    | ((first | refine zqs ?_ ?_ | refine zgs ?_ ?_ | refine zds ?_ ?_) <;> (intro h; first | (exfalso; simp at h; omega) | ((try simp only [h]); (try simp at h))))
    | fail)
      · unfold updV at hU
        rw [if_neg hu] at hU
        generalize (upd l s).1 = e at *
        refine acall_of_awp Try.func5 Try.call5 rfl (by simp [Try.ntmps5]) ?_; simp only [Try.ntmps5, Try.results5]
        repeat' (first
    | (refine awp_seqK (fun K hK => ?_))
    | (refine Hide.go (by assumption) ?_)
    | ((first | refine zqd ?_ ?_ | refine zqn ?_ ?_ | refine zgd ?_ ?_ | refine zgn ?_ ?_ | refine zdd ?_ ?_ | refine zdn ?_ ?_) <;> (intro h; first | (exfalso; omega) | (simp only [h, decide_true, decide_false, not_false_eq_true]) | skip))
    | (refine end_ret [] ?_; simp [go_sem, hu])
    | (refine stepK_is rfl (hU) (by simp) ?_)
    | (refine dstepK_is rfl (hU) rfl (by simp) ?_)
    | (refine stepK_is rfl (hA) (by simp) ?_)
    | (refine dstepK_is rfl (hA) rfl (by simp) ?_)
    | ((fail_if_success with_reducible (refine Owe.mk ?_)); (simp (disch := omega) [go_sem, hu]))
    | (refine And.intro (by omega) ?_)
    | ((first | refine zqm ?_ ?_ | refine zgm ?_ ?_ | refine zdm ?_ ?_) <;> (intro h; simp only [h, Bool.not_true, Bool.not_false]))
    | ((first | refine zqs ?_ ?_ | refine zgs ?_ ?_ | refine zds ?_ ?_) <;> (intro h; first | (exfalso; simp at h; omega) | ((try simp only [h]); (try simp at h))))
    | fail)
end Go.Proofs.Ytfccgdgippmpgaa
