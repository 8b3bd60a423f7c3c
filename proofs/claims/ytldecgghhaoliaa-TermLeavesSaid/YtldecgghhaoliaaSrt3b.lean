/-
  Srt3b: the symmetric merge (printed by wip/tools/gen3.py).
-/
import Derived.Test.YtldecgghhaoliaaSrt2
namespace Go.Proofs.Ytldecgghhaoliaa
open Go.Ab
set_option linter.unusedSimpArgs false
set_option maxRecDepth 100000
set_option maxHeartbeats 8000000
theorem merge2_ok (f : FuncId) (cf : Tm → Tm → Int) (hp : Pre cf) (kd : Nat) (S : Tm → Prop) (hc : ∀ x y, S x → S y → ACall Try.prog f [eT x, eT y] (fun r => r = nt .i64 (cf x y))) (l : List Tm) (hS : ∀ x ∈ l, S x) (hl : l.length ≤ 140737488355328) (a m b : Nat) (ham : a < m) (hmb : m < b) (hb : b ≤ l.length) (hs1 : SrtOn cf l a m) (hs2 : SrtOn cf l m b) (hc1 : ¬ m = a + 1) (hc2 : b = m + 1) :
    MCall Try.prog 87 [.ref 1000 0 l.length, nt .i64 a, nt .i64 m, nt .i64 b, .clo f []] [(1000, rowO eTm 2 kd l)] (fun r o' => ∃ l', (Keep l l' a b ∧ SrtOn cf l' a b) ∧ r = .tup [] ∧ o' = [(1000, rowO eTm 2 kd l')]) := by
  have hcm : ∀ (p q : Nat) (h1 : p < l.length) (h2 : q < l.length), ACall Try.prog f [eT l[p], eT l[q]] (fun r => r = nt .i64 (cf l[p] l[q])) := fun p q h1 h2 => hc _ _ (hS _ (List.getElem_mem h1)) (hS _ (List.getElem_mem h2))
  have hal : a < l.length := by omega
  have hml : m < l.length := by omega
  have ga : l[a]? = some l[a] := List.getElem?_eq_getElem hal
  have gm : l[m]? = some l[m] := List.getElem?_eq_getElem hml
  subst hc2
  refine mcall_of_awpL Try.func87 Try.call87 rfl (by simp [Try.ntmps87]) ?_; simp only [Try.ntmps87, Try.results87]
  repeat' (first
    | (refine awp_seqK (fun K hK => ?_))
    | (refine Hide.go (by assumption) ?_)
    | ((first | refine zqd ?_ ?_ | refine zqn ?_ ?_ | refine zgd ?_ ?_ | refine zgn ?_ ?_ | refine zdd ?_ ?_ | refine zdn ?_ ?_) <;> (intro h; first | (exfalso; omega) | (simp only [h, decide_true, decide_false, not_false_eq_true]) | skip))
    | (refine end_ret [] ?_; simp [go_sem])
    | ((fail_if_success with_reducible (refine Owe.mk ?_)); (simp (disch := omega) [go_sem]))
    | (refine And.intro (by omega) ?_)
    | (refine awp_draw 11 mix (by decide +kernel) ?_)
    | (refine awp_draw 12 mix (by decide +kernel) ?_)
    | (refine awp_draw 14 mix (by decide +kernel) ?_)
    | (refine awp_draw 15 mix (by decide +kernel) ?_)
    | (refine nbI fun bq => ?_)
    | ((first | refine zqm ?_ ?_ | refine zgm ?_ ?_ | refine zdm ?_ ?_) <;> (intro h; simp only [h, Bool.not_true, Bool.not_false]))
    | ((first | refine zqs ?_ ?_ | refine zgs ?_ ?_ | refine zds ?_ ?_) <;> (intro h; first | (exfalso; simp at h; omega) | ((try simp only [h]); (try simp at h))))
    | fail)
  all_goals (first | omega | skip)
  refine awp_for [0, 2, 4] [] (fun x : Nat × Nat => [(14, nt .i64 x.1), (15, nt .i64 x.2)]) (fun x : Nat × Nat => []) (fun x : Nat × Nat => x.2 - x.1) (fun x : Nat × Nat => a ≤ x.1 ∧ x.1 ≤ x.2 ∧ x.2 ≤ m ∧ LeOn cf l a x.1 m (m + 1) ∧ LeOn cf l m (m + 1) x.2 m) ((a, m)) (Le.sub4 rfl (by simp [go_sem])) ⟨?_⟩ ?_
  · exact ⟨Nat.le_refl _, Nat.le_of_lt ham, Nat.le_refl _, .empty1 (Nat.le_refl _), .empty2 (Nat.le_refl _)⟩
  intro ⟨i, j⟩ ⟨hi, hij, hj, c1, c2⟩ AA hAA; simp only [Go.Ab.keepT_nil, Go.Ab.keepT_cons, Go.Ab.dropO_nil, Go.Ab.dropO_cons, List.contains_cons, List.contains_nil, List.elem_cons, List.elem_nil, Nat.reduceBEq, beq_self_eq_true, Nat.reduceEqDiff, Bool.or_false, Bool.false_or, Bool.or_true, Bool.true_or, Bool.false_eq_true, if_true, if_false, List.cons_append, List.nil_append, List.append_nil]
  dsimp only at *
  by_cases hlt : i < j
  · obtain ⟨mi, hmi⟩ : ∃ h, h = (i + j) / 2 := ⟨_, rfl⟩
    have hm' : ((i : Int) + j).fdiv 2 = (mi : Int) := by rw [Int.fdiv_eq_ediv_of_nonneg _ (by decide)]; omega
    have hm2 : ((i : Int) + j) / 2 = (mi : Int) := by omega
    have hhl : mi < l.length := by omega
    have gh : l[mi]? = some l[mi] := List.getElem?_eq_getElem hhl
    have hu := hcm m mi hml hhl
    by_cases hq : cf l[m] l[mi] < 0
    · repeat' (first
    | (refine awp_seqK (fun K hK => ?_))
    | (refine Hide.go (by assumption) ?_)
    | ((first | refine zqd ?_ ?_ | refine zqn ?_ ?_ | refine zgd ?_ ?_ | refine zgn ?_ ?_ | refine zdd ?_ ?_ | refine zdn ?_ ?_) <;> (intro h; first | (exfalso; omega) | (simp only [h, decide_true, decide_false, not_false_eq_true]) | skip))
    | (refine end_ret [] ?_; simp [go_sem, hml, hhl, hm', hm2])
    | (refine stepK_is rfl (hu) (by simp) ?_)
    | (refine dstepK_is rfl (hu) rfl (by simp) ?_)
    | (refine (hAA.next ((i, mi)) (Le.sub4 rfl (by simp [go_sem])) (by (try dsimp only); omega) ?_))
    | ((fail_if_success with_reducible (refine Owe.mk ?_)); (simp (disch := omega) [go_sem, hml, hhl, hm', hm2]))
    | (refine And.intro (by omega) ?_)
    | (refine awp_draw 11 mix (by decide +kernel) ?_)
    | (refine awp_draw 12 mix (by decide +kernel) ?_)
    | (refine awp_draw 14 mix (by decide +kernel) ?_)
    | (refine awp_draw 15 mix (by decide +kernel) ?_)
    | (refine nbI fun bq => ?_)
    | ((first | refine zqm ?_ ?_ | refine zgm ?_ ?_ | refine zdm ?_ ?_) <;> (intro h; simp only [h, Bool.not_true, Bool.not_false]))
    | ((first | refine zqs ?_ ?_ | refine zgs ?_ ?_ | refine zds ?_ ?_) <;> (intro h; first | (exfalso; simp at h; omega) | ((try simp only [h]); (try simp at h))))
    | fail)
      exact ⟨⟨hi, by omega, by omega, c1, LeOn.mono hp hs2 hs1 ⟨Nat.le_refl _, Nat.lt_succ_self _⟩ ⟨by omega, by omega⟩ gm gh (by omega)⟩⟩
    · repeat' (first
    | (refine awp_seqK (fun K hK => ?_))
    | (refine Hide.go (by assumption) ?_)
    | ((first | refine zqd ?_ ?_ | refine zqn ?_ ?_ | refine zgd ?_ ?_ | refine zgn ?_ ?_ | refine zdd ?_ ?_ | refine zdn ?_ ?_) <;> (intro h; first | (exfalso; omega) | (simp only [h, decide_true, decide_false, not_false_eq_true]) | skip))
    | (refine end_ret [] ?_; simp [go_sem, hml, hhl, hm', hm2])
    | (refine stepK_is rfl (hu) (by simp) ?_)
    | (refine dstepK_is rfl (hu) rfl (by simp) ?_)
    | (refine (hAA.next ((mi + 1, j)) (Le.sub4 rfl (by simp [go_sem])) (by (try dsimp only); omega) ?_))
    | ((fail_if_success with_reducible (refine Owe.mk ?_)); (simp (disch := omega) [go_sem, hml, hhl, hm', hm2]))
    | (refine And.intro (by omega) ?_)
    | (refine awp_draw 11 mix (by decide +kernel) ?_)
    | (refine awp_draw 12 mix (by decide +kernel) ?_)
    | (refine awp_draw 14 mix (by decide +kernel) ?_)
    | (refine awp_draw 15 mix (by decide +kernel) ?_)
    | (refine nbI fun bq => ?_)
    | ((first | refine zqm ?_ ?_ | refine zgm ?_ ?_ | refine zdm ?_ ?_) <;> (intro h; simp only [h, Bool.not_true, Bool.not_false]))
    | ((first | refine zqs ?_ ?_ | refine zgs ?_ ?_ | refine zds ?_ ?_) <;> (intro h; first | (exfalso; simp at h; omega) | ((try simp only [h]); (try simp at h))))
    | fail)
      exact ⟨⟨by omega, by omega, hj, LeOn.mono hp hs1 hs2 ⟨by omega, by omega⟩ ⟨Nat.le_refl _, Nat.lt_succ_self _⟩ gh gm (hp.sw _ _ hq), c2⟩⟩
  · obtain rfl : i = j := by omega
    repeat' (first
    | (refine awp_seqK (fun K hK => ?_))
    | (refine Hide.go (by assumption) ?_)
    | ((first | refine zqd ?_ ?_ | refine zqn ?_ ?_ | refine zgd ?_ ?_ | refine zgn ?_ ?_ | refine zdd ?_ ?_ | refine zdn ?_ ?_) <;> (intro h; first | (exfalso; omega) | (simp only [h, decide_true, decide_false, not_false_eq_true]) | skip))
    | (refine end_ret [] ?_; simp [go_sem])
    | ((fail_if_success with_reducible (refine Owe.mk ?_)); (simp (disch := omega) [go_sem]))
    | (refine And.intro (by omega) ?_)
    | (refine awp_draw 11 mix (by decide +kernel) ?_)
    | (refine awp_draw 12 mix (by decide +kernel) ?_)
    | (refine awp_draw 14 mix (by decide +kernel) ?_)
    | (refine awp_draw 15 mix (by decide +kernel) ?_)
    | (refine nbI fun bq => ?_)
    | ((first | refine zqm ?_ ?_ | refine zgm ?_ ?_ | refine zdm ?_ ?_) <;> (intro h; simp only [h, Bool.not_true, Bool.not_false]))
    | ((first | refine zqs ?_ ?_ | refine zgs ?_ ?_ | refine zds ?_ ?_) <;> (intro h; first | (exfalso; simp at h; omega) | ((try simp only [h]); (try simp at h))))
    | fail)
    refine awp_for [0, 14] [1000] (fun x : Nat × List Tm => [(17, nt .i64 x.1)]) (fun x : Nat × List Tm => [(1000, rowO eTm 2 kd x.2)]) (fun x : Nat × List Tm => x.1) (fun x : Nat × List Tm => i ≤ x.1 ∧ x.1 ≤ m ∧ Rot l x.2 x.1 m (m + 1)) ((m, l)) (Le.sub4 rfl (by simp [go_sem])) ⟨?_⟩ ?_
    · exact ⟨hj, Nat.le_refl _, Rot.left _ _ _⟩
    intro ⟨k, l1⟩ ⟨hk, hki, hR⟩ AA hAA; simp only [Go.Ab.keepT_nil, Go.Ab.keepT_cons, Go.Ab.dropO_nil, Go.Ab.dropO_cons, List.contains_cons, List.contains_nil, List.elem_cons, List.elem_nil, Nat.reduceBEq, beq_self_eq_true, Nat.reduceEqDiff, Bool.or_false, Bool.false_or, Bool.or_true, Bool.true_or, Bool.false_eq_true, if_true, if_false, List.cons_append, List.nil_append, List.append_nil]
    dsimp only at *
    have hl1 := hR.perm.length_eq
    by_cases hlt2 : i < k
    · obtain ⟨k, rfl⟩ : ∃ k', k = k' + 1 := ⟨k - 1, by omega⟩
      have h1 : k < l1.length := by omega
      have h2 : k + 1 < l1.length := by omega
      have hsw := (swp_eq h2 h1).symm
      repeat' (first
    | (refine awp_seqK (fun K hK => ?_))
    | (refine Hide.go (by assumption) ?_)
    | ((first | refine zqd ?_ ?_ | refine zqn ?_ ?_ | refine zgd ?_ ?_ | refine zgn ?_ ?_ | refine zdd ?_ ?_ | refine zdn ?_ ?_) <;> (intro h; first | (exfalso; omega) | (simp only [h, decide_true, decide_false, not_false_eq_true]) | skip))
    | (refine end_ret [] ?_; simp [go_sem, h1, h2])
    | (refine (hAA.next ((k, swp l1 (k + 1) k)) (Le.sub4 rfl (by simp [go_sem, set_eTm, hsw, -List.map_set])) (by (try dsimp only); omega) ?_))
    | ((fail_if_success with_reducible (refine Owe.mk ?_)); (simp (disch := omega) [go_sem, h1, h2]))
    | (refine And.intro (by omega) ?_)
    | (refine awp_draw 11 mix (by decide +kernel) ?_)
    | (refine awp_draw 12 mix (by decide +kernel) ?_)
    | (refine awp_draw 14 mix (by decide +kernel) ?_)
    | (refine awp_draw 15 mix (by decide +kernel) ?_)
    | (refine nbI fun bq => ?_)
    | ((first | refine zqm ?_ ?_ | refine zgm ?_ ?_ | refine zdm ?_ ?_) <;> (intro h; simp only [h, Bool.not_true, Bool.not_false]))
    | ((first | refine zqs ?_ ?_ | refine zgs ?_ ?_ | refine zds ?_ ?_) <;> (intro h; first | (exfalso; simp at h; omega) | ((try simp only [h]); (try simp at h))))
    | fail)
      exact ⟨⟨by omega, by omega, hR.stepL (by omega) (by omega)⟩⟩
    · obtain rfl : i = k := by omega
      repeat' (first
    | (refine awp_seqK (fun K hK => ?_))
    | (refine Hide.go (by assumption) ?_)
    | ((first | refine zqd ?_ ?_ | refine zqn ?_ ?_ | refine zgd ?_ ?_ | refine zgn ?_ ?_ | refine zdd ?_ ?_ | refine zdn ?_ ?_) <;> (intro h; first | (exfalso; omega) | (simp only [h, decide_true, decide_false, not_false_eq_true]) | skip))
    | (refine end_ret [] ?_; simp [go_sem])
    | ((fail_if_success with_reducible (refine Owe.mk ?_)); (simp (disch := omega) [go_sem]))
    | (refine And.intro (by omega) ?_)
    | (refine awp_draw 11 mix (by decide +kernel) ?_)
    | (refine awp_draw 12 mix (by decide +kernel) ?_)
    | (refine awp_draw 14 mix (by decide +kernel) ?_)
    | (refine awp_draw 15 mix (by decide +kernel) ?_)
    | (refine nbI fun bq => ?_)
    | ((first | refine zqm ?_ ?_ | refine zgm ?_ ?_ | refine zdm ?_ ?_) <;> (intro h; simp only [h, Bool.not_true, Bool.not_false]))
    | ((first | refine zqs ?_ ?_ | refine zgs ?_ ?_ | refine zds ?_ ?_) <;> (intro h; first | (exfalso; simp at h; omega) | ((try simp only [h]); (try simp at h))))
    | fail)
      all_goals (first | omega | skip)
      refine endL_ret ⟨220, [], [(1000, rowO eTm 2 kd l1)]⟩ [] (Le.renSub [] [] (by simp [go_sem]) (by simp [go_sem]) (Le.sub4 rfl (by simp [go_sem]))) (by simp [go_sem]) ⟨l1, hR.into hp hi (by omega) (by omega) (Nat.le_refl _) hs1 hs2 c2 c1 (.empty2 (Nat.le_refl _)), rfl, rfl⟩
end Go.Proofs.Ytldecgghhaoliaa
