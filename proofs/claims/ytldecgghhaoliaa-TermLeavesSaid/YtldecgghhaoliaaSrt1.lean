/-
  Srt1: lists of terms, sorted in place by insertion.
-/
import Derived.Test.YtldecgghhaoliaaTerm6
import Derived.Test.YtldecgghhaoliaaTy2
import Derived.Test.YtldecgghhaoliaaA5
namespace Go.Proofs.Ytldecgghhaoliaa
open Go.Ab
set_option linter.unusedSimpArgs false
set_option maxRecDepth 100000
set_option maxHeartbeats 4000000
theorem set_eTm {l : List Tm} {i : Nat} {x : Tm} : (l.map eTm).set i (.agg [.sc (.string x.name), .list false false (x.args.map eTm)]) = (l.set i x).map eTm := by
  rw [List.map_set, eTm_eq]
theorem ins_ok (f : FuncId) (cf : Tm → Tm → Int) (hp : Pre cf) (kd : Nat) (l : List Tm) (hl : l.length ≤ 140737488355328) (hc : ∀ x ∈ l, ∀ y ∈ l, ACall Try.prog f [eT x, eT y] (fun r => r = nt .i64 (cf x y))) (a b : Nat) (hab : a ≤ b) (hb : b ≤ l.length) :
    MCall Try.prog 86 [.ref 1000 0 l.length, nt .i64 a, nt .i64 b, .clo f []] [(1000, rowO eTm 2 kd l)] (fun r o' => ∃ l', (Keep l l' a b ∧ SrtOn cf l' a b) ∧ r = .tup [] ∧ o' = [(1000, rowO eTm 2 kd l')]) := by
  refine mcall_of_awpL Try.func86 Try.call86 rfl (by simp [Try.ntmps86]) ?_; simp only [Try.ntmps86, Try.results86]
  repeat' (first
    | (refine awp_seqK (fun K hK => ?_))
    | (refine Hide.go (by assumption) ?_)
    | ((first | refine zqd ?_ ?_ | refine zqn ?_ ?_ | refine zgd ?_ ?_ | refine zgn ?_ ?_ | refine zdd ?_ ?_ | refine zdn ?_ ?_) <;> (intro h; first | (exfalso; omega) | (simp only [h, decide_true, decide_false, not_false_eq_true]) | skip))
    | (refine end_ret [] ?_; simp [go_sem])
    | ((fail_if_success with_reducible (refine Owe.mk ?_)); (simp (disch := omega) [go_sem]))
    | (refine And.intro (by omega) ?_)
    | (refine awp_draw 15 mix (by decide +kernel) ?_)
    | (refine awp_draw 17 mix (by decide +kernel) ?_)
    | (refine nbI fun bq => ?_)
    | ((first | refine zqm ?_ ?_ | refine zgm ?_ ?_ | refine zdm ?_ ?_) <;> (intro h; simp only [h, Bool.not_true, Bool.not_false]))
    | ((first | refine zqs ?_ ?_ | refine zgs ?_ ?_ | refine zds ?_ ?_) <;> (intro h; first | (exfalso; simp at h; omega) | ((try simp only [h]); (try simp at h))))
    | fail)
  refine awp_for [0, 1, 2, 3] [1000] (fun x : Nat × List Tm => [(8, nt .i64 x.1)]) (fun x : Nat × List Tm => [(1000, rowO eTm 2 kd x.2)]) (fun x : Nat × List Tm => b - x.1) (fun x : Nat × List Tm => a + 1 ≤ x.1 ∧ (x.1 ≤ b ∨ x.1 = a + 1) ∧ Keep l x.2 a b ∧ SrtOn cf x.2 a x.1) ((a + 1, l)) (Le.sub4 rfl (by simp [go_sem])) ⟨?_⟩ ?_
  · exact ⟨Nat.le_refl _, .inr rfl, Keep.refl _ _ _, SrtOn.short (by omega)⟩
  intro ⟨i, l1⟩ ⟨hi, hi2, hk, hs⟩ AA hAA; simp only [Go.Ab.keepT_nil, Go.Ab.keepT_cons, Go.Ab.dropO_nil, Go.Ab.dropO_cons, List.contains_cons, List.contains_nil, List.elem_cons, List.elem_nil, Nat.reduceBEq, beq_self_eq_true, Nat.reduceEqDiff, Bool.or_false, Bool.false_or, Bool.or_true, Bool.true_or, Bool.false_eq_true, if_true, if_false, List.cons_append, List.nil_append, List.append_nil]
  dsimp only at *
  have hlen := hk.len
  by_cases hib : i < b
  · have hAB := hAA
    repeat' (first
    | (refine awp_seqK (fun K hK => ?_))
    | (refine Hide.go (by assumption) ?_)
    | ((first | refine zqd ?_ ?_ | refine zqn ?_ ?_ | refine zgd ?_ ?_ | refine zgn ?_ ?_ | refine zdd ?_ ?_ | refine zdn ?_ ?_) <;> (intro h; first | (exfalso; omega) | (simp only [h, decide_true, decide_false, not_false_eq_true]) | skip))
    | (refine end_ret [] ?_; simp [go_sem])
    | ((fail_if_success with_reducible (refine Owe.mk ?_)); (simp (disch := omega) [go_sem]))
    | (refine And.intro (by omega) ?_)
    | (refine awp_draw 15 mix (by decide +kernel) ?_)
    | (refine awp_draw 17 mix (by decide +kernel) ?_)
    | (refine nbI fun bq => ?_)
    | ((first | refine zqm ?_ ?_ | refine zgm ?_ ?_ | refine zdm ?_ ?_) <;> (intro h; simp only [h, Bool.not_true, Bool.not_false]))
    | ((first | refine zqs ?_ ?_ | refine zgs ?_ ?_ | refine zds ?_ ?_) <;> (intro h; first | (exfalso; simp at h; omega) | ((try simp only [h]); (try simp at h))))
    | fail)
    refine awp_for [0, 1, 2, 3, 8] [1000] (fun x : Nat × List Tm => [(9, nt .i64 x.1)]) (fun x : Nat × List Tm => [(1000, rowO eTm 2 kd x.2)]) (fun x : Nat × List Tm => x.1) (fun x : Nat × List Tm => a ≤ x.1 ∧ x.1 ≤ i ∧ Keep l x.2 a b ∧ Sink cf x.2 a i x.1) ((i, l1)) (Le.sub4 rfl (by simp [go_sem])) ⟨?_⟩ ?_
    · exact ⟨by omega, Nat.le_refl _, hk, Sink.start hs⟩
    intro ⟨j, l2⟩ ⟨hj, hj2, hk2, hsk⟩ AA hAA; simp only [Go.Ab.keepT_nil, Go.Ab.keepT_cons, Go.Ab.dropO_nil, Go.Ab.dropO_cons, List.contains_cons, List.contains_nil, List.elem_cons, List.elem_nil, Nat.reduceBEq, beq_self_eq_true, Nat.reduceEqDiff, Bool.or_false, Bool.false_or, Bool.or_true, Bool.true_or, Bool.false_eq_true, if_true, if_false, List.cons_append, List.nil_append, List.append_nil]
    dsimp only at *
    have hlen2 := hk2.len
    by_cases hja : a < j
    · obtain ⟨j, rfl⟩ : ∃ j', j = j' + 1 := ⟨j - 1, by omega⟩
      have h1 : j + 1 < l2.length := by omega
      have h0 : j < l2.length := by omega
      have hu := hc l2[j + 1] (hk2.mem.1 (List.getElem_mem h1)) l2[j] (hk2.mem.1 (List.getElem_mem h0))
      have hsw := (swp_eq h1 h0).symm
      by_cases hq : cf l2[j + 1] l2[j] < 0
      · repeat' (first
    | (refine awp_seqK (fun K hK => ?_))
    | (refine Hide.go (by assumption) ?_)
    | ((first | refine zqd ?_ ?_ | refine zqn ?_ ?_ | refine zgd ?_ ?_ | refine zgn ?_ ?_ | refine zdd ?_ ?_ | refine zdn ?_ ?_) <;> (intro h; first | (exfalso; omega) | (simp only [h, decide_true, decide_false, not_false_eq_true]) | skip))
    | (refine end_ret [] ?_; simp [go_sem, h0, h1])
    | (refine stepK_is rfl (hu) (by simp) ?_)
    | (refine dstepK_is rfl (hu) rfl (by simp) ?_)
    | (refine (hAA.next ((j, swp l2 (j + 1) j)) (Le.sub4 rfl (by simp [go_sem, set_eTm, hsw, -List.map_set])) (by (try dsimp only); omega) ?_))
    | ((fail_if_success with_reducible (refine Owe.mk ?_)); (simp (disch := omega) [go_sem, h0, h1]))
    | (refine And.intro (by omega) ?_)
    | (refine awp_draw 15 mix (by decide +kernel) ?_)
    | (refine awp_draw 17 mix (by decide +kernel) ?_)
    | (refine nbI fun bq => ?_)
    | ((first | refine zqm ?_ ?_ | refine zgm ?_ ?_ | refine zdm ?_ ?_) <;> (intro h; simp only [h, Bool.not_true, Bool.not_false]))
    | ((first | refine zqs ?_ ?_ | refine zgs ?_ ?_ | refine zds ?_ ?_) <;> (intro h; first | (exfalso; simp at h; omega) | ((try simp only [h]); (try simp at h))))
    | fail)
        exact ⟨⟨by omega, by omega, hk2.trans (swp_keep ⟨by omega, by omega⟩ ⟨by omega, by omega⟩), hsk.step (by omega) h1 (by omega) (List.getElem?_eq_getElem h1) (List.getElem?_eq_getElem h0) hq⟩⟩
      · repeat' (first
    | (refine awp_seqK (fun K hK => ?_))
    | (refine Hide.go (by assumption) ?_)
    | ((first | refine zqd ?_ ?_ | refine zqn ?_ ?_ | refine zgd ?_ ?_ | refine zgn ?_ ?_ | refine zdd ?_ ?_ | refine zdn ?_ ?_) <;> (intro h; first | (exfalso; omega) | (simp only [h, decide_true, decide_false, not_false_eq_true]) | skip))
    | (refine end_ret [] ?_; simp [go_sem, h0, h1])
    | (refine stepK_is rfl (hu) (by simp) ?_)
    | (refine dstepK_is rfl (hu) rfl (by simp) ?_)
    | (refine (hAB.next ((i + 1, l2)) (Le.sub4 rfl (by simp [go_sem])) (by (try dsimp only); omega) ?_))
    | ((fail_if_success with_reducible (refine Owe.mk ?_)); (simp (disch := omega) [go_sem, h0, h1]))
    | (refine And.intro (by omega) ?_)
    | (refine awp_draw 15 mix (by decide +kernel) ?_)
    | (refine awp_draw 17 mix (by decide +kernel) ?_)
    | (refine nbI fun bq => ?_)
    | ((first | refine zqm ?_ ?_ | refine zgm ?_ ?_ | refine zdm ?_ ?_) <;> (intro h; simp only [h, Bool.not_true, Bool.not_false]))
    | ((first | refine zqs ?_ ?_ | refine zgs ?_ ?_ | refine zds ?_ ?_) <;> (intro h; first | (exfalso; simp at h; omega) | ((try simp only [h]); (try simp at h))))
    | fail)
        exact ⟨⟨by omega, by omega, hk2, hsk.stop hp (by omega) (.inr fun x y hx hy => by
          rw [List.getElem?_eq_getElem h1] at hx
          rw [Nat.add_sub_cancel, List.getElem?_eq_getElem h0] at hy
          cases hx; cases hy; exact hq)⟩⟩
    · repeat' (first
    | (refine awp_seqK (fun K hK => ?_))
    | (refine Hide.go (by assumption) ?_)
    | ((first | refine zqd ?_ ?_ | refine zqn ?_ ?_ | refine zgd ?_ ?_ | refine zgn ?_ ?_ | refine zdd ?_ ?_ | refine zdn ?_ ?_) <;> (intro h; first | (exfalso; omega) | (simp only [h, decide_true, decide_false, not_false_eq_true]) | skip))
    | (refine end_ret [] ?_; simp [go_sem])
    | (refine (hAB.next ((i + 1, l2)) (Le.sub4 rfl (by simp [go_sem])) (by (try dsimp only); omega) ?_))
    | ((fail_if_success with_reducible (refine Owe.mk ?_)); (simp (disch := omega) [go_sem]))
    | (refine And.intro (by omega) ?_)
    | (refine awp_draw 15 mix (by decide +kernel) ?_)
    | (refine awp_draw 17 mix (by decide +kernel) ?_)
    | (refine nbI fun bq => ?_)
    | ((first | refine zqm ?_ ?_ | refine zgm ?_ ?_ | refine zdm ?_ ?_) <;> (intro h; simp only [h, Bool.not_true, Bool.not_false]))
    | ((first | refine zqs ?_ ?_ | refine zgs ?_ ?_ | refine zds ?_ ?_) <;> (intro h; first | (exfalso; simp at h; omega) | ((try simp only [h]); (try simp at h))))
    | fail)
      exact ⟨⟨by omega, by omega, hk2, hsk.stop hp (by omega) (.inl (by omega))⟩⟩
  · repeat' (first
    | (refine awp_seqK (fun K hK => ?_))
    | (refine Hide.go (by assumption) ?_)
    | ((first | refine zqd ?_ ?_ | refine zqn ?_ ?_ | refine zgd ?_ ?_ | refine zgn ?_ ?_ | refine zdd ?_ ?_ | refine zdn ?_ ?_) <;> (intro h; first | (exfalso; omega) | (simp only [h, decide_true, decide_false, not_false_eq_true]) | skip))
    | (refine end_ret [] ?_; simp [go_sem])
    | ((fail_if_success with_reducible (refine Owe.mk ?_)); (simp (disch := omega) [go_sem]))
    | (refine And.intro (by omega) ?_)
    | (refine awp_draw 15 mix (by decide +kernel) ?_)
    | (refine awp_draw 17 mix (by decide +kernel) ?_)
    | (refine nbI fun bq => ?_)
    | ((first | refine zqm ?_ ?_ | refine zgm ?_ ?_ | refine zdm ?_ ?_) <;> (intro h; simp only [h, Bool.not_true, Bool.not_false]))
    | ((first | refine zqs ?_ ?_ | refine zgs ?_ ?_ | refine zds ?_ ?_) <;> (intro h; first | (exfalso; simp at h; omega) | ((try simp only [h]); (try simp at h))))
    | fail)
    refine endL_normal ⟨53, [], [(1000, rowO eTm 2 kd l1)]⟩ [] (Le.renSub [] [] (by simp [go_sem]) (by simp [go_sem]) (Le.sub4 rfl (by simp [go_sem]))) (by simp [go_sem]) ⟨l1, ⟨hk, hs.sub (Nat.le_refl _) (by omega)⟩, rfl, rfl⟩
end Go.Proofs.Ytldecgghhaoliaa
