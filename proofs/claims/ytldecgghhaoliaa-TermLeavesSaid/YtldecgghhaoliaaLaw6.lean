/-
  Law6: the body of the law TermLeaves.
-/
import Derived.Test.YtldecgghhaoliaaCst4
import Derived.Test.YtldecgghhaoliaaLaw2
namespace Go.Proofs.Ytldecgghhaoliaa
open Go.Ab
set_option linter.unusedSimpArgs false
set_option maxRecDepth 100000
set_option maxHeartbeats 8000000
theorem lvs_size' : ∀ t : Tm, (lvs t).length ≤ t.size := by
  refine tm_ind fun t ih => ?_
  obtain ⟨s, ts⟩ := t
  simp only [args_mk] at ih
  rw [lvs_mk, Tm.size]
  split
  · simp
  · rename_i h0; clear h0
    induction ts with
    | nil => simp [lvsS]
    | cons u r ih2 =>
      have h1 := ih u (by simp)
      have h2 := ih2 fun v hv => ih v (List.mem_cons_of_mem _ hv)
      simp only [lvsS, sizeL, List.length_append]; omega
theorem lvsS_size {k : Nat} : ∀ {l : List Tm}, (∀ t ∈ l, t.size ≤ k) → (lvsS l).length ≤ k * l.length
  | [], _ => by simp [lvsS]
  | t :: r, h => by
    have h1 := lvs_size' t
    have h2 := h t (by simp)
    have h3 := lvsS_size fun u hu => h u (List.mem_cons_of_mem _ hu)
    simp only [lvsS, List.length_append, List.length_cons, Nat.mul_add, Nat.mul_one]; omega
theorem smallL_leaves {l : List Tm} (h : smallL 40 l = true) : (lvsS l).length ≤ 1600 := by
  unfold smallL at h
  simp only [Bool.and_eq_true, decide_eq_true_eq, List.all_eq_true] at h
  have h1 : ∀ t ∈ l, t.size ≤ 40 := fun t ht => by
    have := smallT_size (by decide) (h.2 t ht)
    omega
  have h2 := lvsS_size h1
  omega
theorem TermLeaves_ok (l : List Tm) (_ : True) : ACall Try.prog 9 [.list false false (l.map eTm)] (fun r => r = bl true) := by
  have hA := awake_ok
  have s1 := small_ok l false false
  cases h1 : smallL 40 l with
  | false =>
    rw [h1] at s1
    refine acall_of_awp Try.func9 Try.call9 rfl (by simp [Try.ntmps9]) ?_; simp only [Try.ntmps9, Try.results9]
    repeat' (first
    | (refine awp_seqK (fun K hK => ?_))
    | (refine Hide.go (by assumption) ?_)
    | ((first | refine zqd ?_ ?_ | refine zqn ?_ ?_ | refine zgd ?_ ?_ | refine zgn ?_ ?_ | refine zdd ?_ ?_ | refine zdn ?_ ?_) <;> (intro h; first | (exfalso; omega) | (simp only [h, decide_true, decide_false, not_false_eq_true]) | skip))
    | (refine end_ret [] ?_; simp [go_sem])
    | (refine stepK_is rfl (s1) (by simp) ?_)
    | (refine dstepK_is rfl (s1) rfl (by simp) ?_)
    | (refine stepK_is rfl (hA) (by simp) ?_)
    | (refine dstepK_is rfl (hA) rfl (by simp) ?_)
    | ((fail_if_success with_reducible (refine Owe.mk ?_)); (simp (disch := omega) [go_sem]))
    | (refine And.intro (by omega) ?_)
    | (refine nbI fun bq => ?_)
    | ((first | refine zqm ?_ ?_ | refine zgm ?_ ?_ | refine zdm ?_ ?_) <;> (intro h; simp only [h, Bool.not_true, Bool.not_false]))
    | ((first | refine zqs ?_ ?_ | refine zgs ?_ ?_ | refine zds ?_ ?_) <;> (intro h; first | (exfalso; simp at h; omega) | ((try simp only [h]); (try simp at h))))
    | fail)
  | true =>
    rw [h1] at s1
    have hb := smallL_leaves h1
    have hv := Vars_ok l false false (by omega)
    have hw := refVars_ok l false false (by omega)
    have hc := Constants_ok l false false (by omega)
    have hd := refConstants_ok l false false (by omega)
    have hs := Strings_ok (varsT l) (varsT l) true false true false
    have ht := Strings_ok (cstT l) (cstT l) true false true false
    rw [decide_eq_true rfl] at hs ht
    have hlenT : True := trivial
    generalize varsT l = V at *
    generalize cstT l = C at *
    refine acall_of_awp Try.func9 Try.call9 rfl (by simp [Try.ntmps9]) ?_; simp only [Try.ntmps9, Try.results9]
    repeat' (first
    | (refine awp_seqK (fun K hK => ?_))
    | (refine Hide.go (by assumption) ?_)
    | ((first | refine zqd ?_ ?_ | refine zqn ?_ ?_ | refine zgd ?_ ?_ | refine zgn ?_ ?_ | refine zdd ?_ ?_ | refine zdn ?_ ?_) <;> (intro h; first | (exfalso; omega) | (simp only [h, decide_true, decide_false, not_false_eq_true]) | skip))
    | (refine end_ret [] ?_; simp [go_sem, hlenT])
    | (refine stepK_is rfl (s1) (by simp) ?_)
    | (refine dstepK_is rfl (s1) rfl (by simp) ?_)
    | (refine stepK_is rfl (hv) (by simp) ?_)
    | (refine dstepK_is rfl (hv) rfl (by simp) ?_)
    | (refine stepK_is rfl (hw) (by simp) ?_)
    | (refine dstepK_is rfl (hw) rfl (by simp) ?_)
    | (refine stepK_is rfl (hc) (by simp) ?_)
    | (refine dstepK_is rfl (hc) rfl (by simp) ?_)
    | (refine stepK_is rfl (hd) (by simp) ?_)
    | (refine dstepK_is rfl (hd) rfl (by simp) ?_)
    | (refine stepK_is rfl (hs) (by simp) ?_)
    | (refine dstepK_is rfl (hs) rfl (by simp) ?_)
    | (refine stepK_is rfl (ht) (by simp) ?_)
    | (refine dstepK_is rfl (ht) rfl (by simp) ?_)
    | (refine stepK_is rfl (hA) (by simp) ?_)
    | (refine dstepK_is rfl (hA) rfl (by simp) ?_)
    | (refine stepK_is ?hl (s1) (by simp) ?_; (case hl => (simp [go_sem, hlenT]; done)))
    | (refine stepK_is ?hl (hv) (by simp) ?_; (case hl => (simp [go_sem, hlenT]; done)))
    | (refine stepK_is ?hl (hw) (by simp) ?_; (case hl => (simp [go_sem, hlenT]; done)))
    | (refine stepK_is ?hl (hc) (by simp) ?_; (case hl => (simp [go_sem, hlenT]; done)))
    | (refine stepK_is ?hl (hd) (by simp) ?_; (case hl => (simp [go_sem, hlenT]; done)))
    | (refine stepK_is ?hl (hs) (by simp) ?_; (case hl => (simp [go_sem, hlenT]; done)))
    | (refine stepK_is ?hl (ht) (by simp) ?_; (case hl => (simp [go_sem, hlenT]; done)))
    | (refine stepK_is ?hl (hA) (by simp) ?_; (case hl => (simp [go_sem, hlenT]; done)))
    | (refine dstepK_is ?hl (s1) rfl (by simp) ?_; (case hl => (simp [go_sem, hlenT]; done)))
    | (refine dstepK_is ?hl (hv) rfl (by simp) ?_; (case hl => (simp [go_sem, hlenT]; done)))
    | (refine dstepK_is ?hl (hw) rfl (by simp) ?_; (case hl => (simp [go_sem, hlenT]; done)))
    | (refine dstepK_is ?hl (hc) rfl (by simp) ?_; (case hl => (simp [go_sem, hlenT]; done)))
    | (refine dstepK_is ?hl (hd) rfl (by simp) ?_; (case hl => (simp [go_sem, hlenT]; done)))
    | (refine dstepK_is ?hl (hs) rfl (by simp) ?_; (case hl => (simp [go_sem, hlenT]; done)))
    | (refine dstepK_is ?hl (ht) rfl (by simp) ?_; (case hl => (simp [go_sem, hlenT]; done)))
    | (refine dstepK_is ?hl (hA) rfl (by simp) ?_; (case hl => (simp [go_sem, hlenT]; done)))
    | ((fail_if_success with_reducible (refine Owe.mk ?_)); (simp (disch := omega) [go_sem, hlenT]))
    | (refine And.intro (by omega) ?_)
    | (refine nbI fun bq => ?_)
    | ((first | refine zqm ?_ ?_ | refine zgm ?_ ?_ | refine zdm ?_ ?_) <;> (intro h; simp only [h, Bool.not_true, Bool.not_false]))
    | ((first | refine zqs ?_ ?_ | refine zgs ?_ ?_ | refine zds ?_ ?_) <;> (intro h; first | (exfalso; simp at h; omega) | ((try simp only [h]); (try simp at h))))
    | fail)
end Go.Proofs.Ytldecgghhaoliaa
