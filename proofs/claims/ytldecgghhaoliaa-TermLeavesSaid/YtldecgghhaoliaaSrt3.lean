/-
  Srt3: the symmetric merge (printed by wip/tools/gen3.py).
-/
import Derived.Test.YtldecgghhaoliaaSrt3a
import Derived.Test.YtldecgghhaoliaaSrt3b
import Derived.Test.YtldecgghhaoliaaSrt2
namespace Go.Proofs.Ytldecgghhaoliaa
open Go.Ab
set_option linter.unusedSimpArgs false
set_option maxRecDepth 100000
set_option maxHeartbeats 8000000
theorem merge_ok (f : FuncId) (cf : Tm → Tm → Int) (hp : Pre cf) (kd : Nat) (S : Tm → Prop) (hc : ∀ x y, S x → S y → ACall Try.prog f [eT x, eT y] (fun r => r = nt .i64 (cf x y))) : ∀ (N : Nat) (l : List Tm), (∀ x ∈ l, S x) → l.length ≤ 140737488355328 → ∀ (a m b : Nat), b - a ≤ N → a < m → m < b → b ≤ l.length → SrtOn cf l a m → SrtOn cf l m b →
    MCall Try.prog 87 [.ref 1000 0 l.length, nt .i64 a, nt .i64 m, nt .i64 b, .clo f []] [(1000, rowO eTm 2 kd l)] (fun r o' => ∃ l', (Keep l l' a b ∧ SrtOn cf l' a b) ∧ r = .tup [] ∧ o' = [(1000, rowO eTm 2 kd l')]) := by
  intro N
  induction N with
  | zero => intro l _ _ a m b h1 h2 h3; omega
  | succ N ih =>
  intro l hS hl a m b hN ham hmb hb hs1 hs2
  have hcm : ∀ (p q : Nat) (h1 : p < l.length) (h2 : q < l.length), ACall Try.prog f [eT l[p], eT l[q]] (fun r => r = nt .i64 (cf l[p] l[q])) := fun p q h1 h2 => hc _ _ (hS _ (List.getElem_mem h1)) (hS _ (List.getElem_mem h2))
  have hal : a < l.length := by omega
  have hml : m < l.length := by omega
  have ga : l[a]? = some l[a] := List.getElem?_eq_getElem hal
  have gm : l[m]? = some l[m] := List.getElem?_eq_getElem hml
  by_cases hc1 : m = a + 1
  · exact merge1_ok f cf hp kd S hc l hS hl a m b ham hmb hb hs1 hs2 hc1
  by_cases hc2 : b = m + 1
  · exact merge2_ok f cf hp kd S hc l hS hl a m b ham hmb hb hs1 hs2 hc1 hc2
  obtain ⟨mid, hmid⟩ : ∃ h, h = (a + b) / 2 := ⟨_, rfl⟩
  have hm' : ((a : Int) + b).fdiv 2 = (mid : Int) := by rw [Int.fdiv_eq_ediv_of_nonneg _ (by decide)]; omega
  have hm2 : ((a : Int) + b) / 2 = (mid : Int) := by omega
  have hst := SymS.start (cf := cf) (l := l) ham hmb hmid
  obtain ⟨s0, hs0⟩ : ∃ s, s = if mid < m then mid + m - b else a := ⟨_, rfl⟩
  obtain ⟨r0, hr0⟩ : ∃ s, s = if mid < m then mid else m := ⟨_, rfl⟩
  rw [← hs0, ← hr0] at hst
  refine mcall_of_awpL Try.func87 Try.call87 rfl (by simp [Try.ntmps87]) ?_; simp only [Try.ntmps87, Try.results87]
  by_cases hmm : mid < m
  · rw [if_pos hmm] at hs0 hr0
    have e1 : (mid : Int) + m - b = (s0 : Int) := by omega
    rw [hr0] at hst
    clear hr0
    repeat' (first
    | (refine awp_seqK (fun K hK => ?_))
    | (refine Hide.go (by assumption) ?_)
    | ((first | refine zqd ?_ ?_ | refine zqn ?_ ?_ | refine zgd ?_ ?_ | refine zgn ?_ ?_ | refine zdd ?_ ?_ | refine zdn ?_ ?_) <;> (intro h; first | (exfalso; omega) | (simp only [h, decide_true, decide_false, not_false_eq_true]) | skip))
    | (refine end_ret [] ?_; simp [go_sem, hm', hm2, e1])
    | ((fail_if_success with_reducible (refine Owe.mk ?_)); (simp (disch := omega) [go_sem, hm', hm2, e1]))
    | (refine And.intro (by omega) ?_)
    | (refine awp_draw 11 mix (by decide +kernel) ?_)
    | (refine awp_draw 12 mix (by decide +kernel) ?_)
    | (refine awp_draw 14 mix (by decide +kernel) ?_)
    | (refine awp_draw 15 mix (by decide +kernel) ?_)
    | (refine nbI fun bq => ?_)
    | ((first | refine zqm ?_ ?_ | refine zgm ?_ ?_ | refine zdm ?_ ?_) <;> (intro h; simp only [h, Bool.not_true, Bool.not_false]))
    | ((first | refine zqs ?_ ?_ | refine zgs ?_ ?_ | refine zds ?_ ?_) <;> (intro h; first | (exfalso; simp at h; omega) | ((try simp only [h]); (try simp at h))))
    | fail)
    all_goals (first | omega | skip)
    refine awp_for [0, 1, 2, 3, 4, 18, 19, 22] [] (fun x : Nat × Nat => [(20, nt .i64 x.1), (21, nt .i64 x.2)]) (fun x : Nat × Nat => []) (fun x : Nat × Nat => x.2 - x.1) (fun x : Nat × Nat => SymS cf l a m b mid x.1 x.2) ((s0, mid)) (Le.sub4 rfl (by simp [go_sem, e1])) ⟨?_⟩ ?_
    · exact hst
    intro ⟨i, j⟩ hv AA hAA; simp only [Go.Ab.keepT_nil, Go.Ab.keepT_cons, Go.Ab.dropO_nil, Go.Ab.dropO_cons, List.contains_cons, List.contains_nil, List.elem_cons, List.elem_nil, Nat.reduceBEq, beq_self_eq_true, Nat.reduceEqDiff, Bool.or_false, Bool.false_or, Bool.or_true, Bool.true_or, Bool.false_eq_true, if_true, if_false, List.cons_append, List.nil_append, List.append_nil]
    dsimp only at *
    have v1 := hv.ha
    have v2 := hv.hs
    have v3 := hv.hr
    have v4 := hv.hr2
    have v5 := hv.hb
    by_cases hlt : i < j
    · obtain ⟨mi, hmi⟩ : ∃ h, h = (i + j) / 2 := ⟨_, rfl⟩
      have hm' : ((i : Int) + j).fdiv 2 = (mi : Int) := by rw [Int.fdiv_eq_ediv_of_nonneg _ (by decide)]; omega
      have hm2 : ((i : Int) + j) / 2 = (mi : Int) := by omega
      have hhl : mi < l.length := by omega
      have gh : l[mi]? = some l[mi] := List.getElem?_eq_getElem hhl
      obtain ⟨q, hq⟩ : ∃ q, q = mid + m - 1 - mi := ⟨_, rfl⟩
      have hq1 : (mid : Int) + m - 1 - mi = (q : Int) := by omega
      have hql : q < l.length := by omega
      have gq : l[q]? = some l[q] := List.getElem?_eq_getElem hql
      have hu := hcm q mi hql hhl
      by_cases hz : cf l[q] l[mi] < 0
      · repeat' (first
    | (refine awp_seqK (fun K hK => ?_))
    | (refine Hide.go (by assumption) ?_)
    | ((first | refine zqd ?_ ?_ | refine zqn ?_ ?_ | refine zgd ?_ ?_ | refine zgn ?_ ?_ | refine zdd ?_ ?_ | refine zdn ?_ ?_) <;> (intro h; first | (exfalso; omega) | (simp only [h, decide_true, decide_false, not_false_eq_true]) | skip))
    | (refine end_ret [] ?_; simp [go_sem, hhl, hql, hm', hm2, hq1])
    | (refine stepK_is rfl (hu) (by simp) ?_)
    | (refine dstepK_is rfl (hu) rfl (by simp) ?_)
    | (refine (hAA.next ((i, mi)) (Le.sub4 rfl (by simp [go_sem])) (by (try dsimp only); omega) ?_))
    | ((fail_if_success with_reducible (refine Owe.mk ?_)); (simp (disch := omega) [go_sem, hhl, hql, hm', hm2, hq1]))
    | (refine And.intro (by omega) ?_)
    | (refine awp_draw 11 mix (by decide +kernel) ?_)
    | (refine awp_draw 12 mix (by decide +kernel) ?_)
    | (refine awp_draw 14 mix (by decide +kernel) ?_)
    | (refine awp_draw 15 mix (by decide +kernel) ?_)
    | (refine nbI fun bq => ?_)
    | ((first | refine zqm ?_ ?_ | refine zgm ?_ ?_ | refine zdm ?_ ?_) <;> (intro h; simp only [h, Bool.not_true, Bool.not_false]))
    | ((first | refine zqs ?_ ?_ | refine zgs ?_ ?_ | refine zds ?_ ?_) <;> (intro h; first | (exfalso; simp at h; omega) | ((try simp only [h]); (try simp at h))))
    | fail)
        exact ⟨hv.left ⟨by omega, by omega⟩ (by rw [← hq]; exact gq) gh (by omega)⟩
      · repeat' (first
    | (refine awp_seqK (fun K hK => ?_))
    | (refine Hide.go (by assumption) ?_)
    | ((first | refine zqd ?_ ?_ | refine zqn ?_ ?_ | refine zgd ?_ ?_ | refine zgn ?_ ?_ | refine zdd ?_ ?_ | refine zdn ?_ ?_) <;> (intro h; first | (exfalso; omega) | (simp only [h, decide_true, decide_false, not_false_eq_true]) | skip))
    | (refine end_ret [] ?_; simp [go_sem, hhl, hql, hm', hm2, hq1])
    | (refine stepK_is rfl (hu) (by simp) ?_)
    | (refine dstepK_is rfl (hu) rfl (by simp) ?_)
    | (refine (hAA.next ((mi + 1, j)) (Le.sub4 rfl (by simp [go_sem])) (by (try dsimp only); omega) ?_))
    | ((fail_if_success with_reducible (refine Owe.mk ?_)); (simp (disch := omega) [go_sem, hhl, hql, hm', hm2, hq1]))
    | (refine And.intro (by omega) ?_)
    | (refine awp_draw 11 mix (by decide +kernel) ?_)
    | (refine awp_draw 12 mix (by decide +kernel) ?_)
    | (refine awp_draw 14 mix (by decide +kernel) ?_)
    | (refine awp_draw 15 mix (by decide +kernel) ?_)
    | (refine nbI fun bq => ?_)
    | ((first | refine zqm ?_ ?_ | refine zgm ?_ ?_ | refine zdm ?_ ?_) <;> (intro h; simp only [h, Bool.not_true, Bool.not_false]))
    | ((first | refine zqs ?_ ?_ | refine zgs ?_ ?_ | refine zds ?_ ?_) <;> (intro h; first | (exfalso; simp at h; omega) | ((try simp only [h]); (try simp at h))))
    | fail)
        exact ⟨hv.right ⟨by omega, by omega⟩ gh (by rw [← hq]; exact gq) (hp.sw _ _ hz)⟩
    · obtain rfl : i = j := by omega
      obtain ⟨e, he⟩ : ∃ e, e = mid + m - i := ⟨_, rfl⟩
      have he1 : (mid : Int) + m - i = (e : Int) := by omega
      by_cases g1 : i < m ∧ m < e
      · obtain ⟨g1a, g1b⟩ := g1
        have hcr := rot_ok f kd l hl i m e g1a g1b (by omega)
        repeat' (first
    | (refine awp_seqK (fun K hK => ?_))
    | (refine Hide.go (by assumption) ?_)
    | ((first | refine zqd ?_ ?_ | refine zqn ?_ ?_ | refine zgd ?_ ?_ | refine zgn ?_ ?_ | refine zdd ?_ ?_ | refine zdn ?_ ?_) <;> (intro h; first | (exfalso; omega) | (simp only [h, decide_true, decide_false, not_false_eq_true]) | skip))
    | (refine end_ret [] ?_; simp [go_sem, he1])
    | ((fail_if_success with_reducible (refine Owe.mk ?_)); (simp (disch := omega) [go_sem, he1]))
    | (refine And.intro (by omega) ?_)
    | (refine awp_draw 11 mix (by decide +kernel) ?_)
    | (refine awp_draw 12 mix (by decide +kernel) ?_)
    | (refine awp_draw 14 mix (by decide +kernel) ?_)
    | (refine awp_draw 15 mix (by decide +kernel) ?_)
    | (refine nbI fun bq => ?_)
    | ((first | refine zqm ?_ ?_ | refine zgm ?_ ?_ | refine zdm ?_ ?_) <;> (intro h; simp only [h, Bool.not_true, Bool.not_false]))
    | ((first | refine zqs ?_ ?_ | refine zgs ?_ ?_ | refine zds ?_ ?_) <;> (intro h; first | (exfalso; simp at h; omega) | ((try simp only [h]); (try simp at h))))
    | fail)
        all_goals (first | omega | skip)
        refine stepK_fex [] [] 10000 _ _ (Fits.mk' (by simp [go_sem]) (by simp [go_sem])) (by simp [go_sem]) (by simp [go_sem]) (hcr) (by simp [go_sem]) (by intros; simp [go_sem]) ?_; intro l1 hR
        have hf := hv.done hp he hb hs1 hs2 hR
        have hl1 : l1.length = l.length := hf.keep.len
        by_cases g2 : a < i ∧ i < mid
        · obtain ⟨g2a, g2b⟩ := g2
          have hc2 := ih l1 (fun x hx => hS x (hf.keep.mem.1 hx)) (by omega) a i mid (by omega) (by omega) (by omega) (by omega) hf.r1 hf.r2
          rw [hl1] at hc2
          repeat' (first
    | (refine awp_seqK (fun K hK => ?_))
    | (refine Hide.go (by assumption) ?_)
    | ((first | refine zqd ?_ ?_ | refine zqn ?_ ?_ | refine zgd ?_ ?_ | refine zgn ?_ ?_ | refine zdd ?_ ?_ | refine zdn ?_ ?_) <;> (intro h; first | (exfalso; omega) | (simp only [h, decide_true, decide_false, not_false_eq_true]) | skip))
    | (refine end_ret [] ?_; simp [go_sem])
    | (refine stepK_is rfl () (by simp) ?_)
    | (refine dstepK_is rfl () rfl (by simp) ?_)
    | ((fail_if_success with_reducible (refine Owe.mk ?_)); (simp (disch := omega) [go_sem]))
    | (refine And.intro (by omega) ?_)
    | (refine awp_draw 11 mix (by decide +kernel) ?_)
    | (refine awp_draw 12 mix (by decide +kernel) ?_)
    | (refine awp_draw 14 mix (by decide +kernel) ?_)
    | (refine awp_draw 15 mix (by decide +kernel) ?_)
    | (refine nbI fun bq => ?_)
    | ((first | refine zqm ?_ ?_ | refine zgm ?_ ?_ | refine zdm ?_ ?_) <;> (intro h; simp only [h, Bool.not_true, Bool.not_false]))
    | ((first | refine zqs ?_ ?_ | refine zgs ?_ ?_ | refine zds ?_ ?_) <;> (intro h; first | (exfalso; simp at h; omega) | ((try simp only [h]); (try simp at h))))
    | fail)
          all_goals (first | omega | skip)
          all_goals
            refine stepK_fex [] [] 10000 _ _ (Fits.mk' (by simp [go_sem]) (by simp [go_sem])) (by simp [go_sem]) (by simp [go_sem]) (hc2) (by simp [go_sem]) (by intros; simp [go_sem]) ?_; intro l2 h2
            obtain ⟨k2, s2⟩ := h2
            have r3 := hf.r3.keep k2 (.inr (Nat.le_refl _))
            have r4 := hf.r4.keep k2 (.inr (by omega))
            have hl2 : l2.length = l.length := by rw [k2.len, hf.keep.len]
            by_cases g3 : mid < e ∧ e < b
            · obtain ⟨g3a, g3b⟩ := g3
              have hc3 := ih l2 (fun x hx => hS x (hf.keep.mem.1 (k2.mem.1 hx))) (by omega) mid e b (by omega) (by omega) (by omega) (by omega) r3 r4
              rw [hl2] at hc3
              repeat' (first
    | (refine awp_seqK (fun K hK => ?_))
    | (refine Hide.go (by assumption) ?_)
    | ((first | refine zqd ?_ ?_ | refine zqn ?_ ?_ | refine zgd ?_ ?_ | refine zgn ?_ ?_ | refine zdd ?_ ?_ | refine zdn ?_ ?_) <;> (intro h; first | (exfalso; omega) | (simp only [h, decide_true, decide_false, not_false_eq_true]) | skip))
    | (refine end_ret [] ?_; simp [go_sem])
    | (refine stepK_is rfl () (by simp) ?_)
    | (refine dstepK_is rfl () rfl (by simp) ?_)
    | ((fail_if_success with_reducible (refine Owe.mk ?_)); (simp (disch := omega) [go_sem]))
    | (refine And.intro (by omega) ?_)
    | (refine awp_draw 11 mix (by decide +kernel) ?_)
    | (refine awp_draw 12 mix (by decide +kernel) ?_)
    | (refine awp_draw 14 mix (by decide +kernel) ?_)
    | (refine awp_draw 15 mix (by decide +kernel) ?_)
    | (refine nbI fun bq => ?_)
    | ((first | refine zqm ?_ ?_ | refine zgm ?_ ?_ | refine zdm ?_ ?_) <;> (intro h; simp only [h, Bool.not_true, Bool.not_false]))
    | ((first | refine zqs ?_ ?_ | refine zgs ?_ ?_ | refine zds ?_ ?_) <;> (intro h; first | (exfalso; simp at h; omega) | ((try simp only [h]); (try simp at h))))
    | fail)
              all_goals (first | omega | skip)
              all_goals
                refine stepK_fex [] [] 10000 _ _ (Fits.mk' (by simp [go_sem]) (by simp [go_sem])) (by simp [go_sem]) (by simp [go_sem]) (hc3) (by simp [go_sem]) (by intros; simp [go_sem]) ?_; intro l3 h3
                obtain ⟨k3, s3⟩ := h3
                repeat' (first
    | (refine awp_seqK (fun K hK => ?_))
    | (refine Hide.go (by assumption) ?_)
    | ((first | refine zqd ?_ ?_ | refine zqn ?_ ?_ | refine zgd ?_ ?_ | refine zgn ?_ ?_ | refine zdd ?_ ?_ | refine zdn ?_ ?_) <;> (intro h; first | (exfalso; omega) | (simp only [h, decide_true, decide_false, not_false_eq_true]) | skip))
    | (refine end_ret [] ?_; simp [go_sem])
    | (refine stepK_is rfl () (by simp) ?_)
    | (refine dstepK_is rfl () rfl (by simp) ?_)
    | ((fail_if_success with_reducible (refine Owe.mk ?_)); (simp (disch := omega) [go_sem]))
    | (refine And.intro (by omega) ?_)
    | (refine awp_draw 11 mix (by decide +kernel) ?_)
    | (refine awp_draw 12 mix (by decide +kernel) ?_)
    | (refine awp_draw 14 mix (by decide +kernel) ?_)
    | (refine awp_draw 15 mix (by decide +kernel) ?_)
    | (refine nbI fun bq => ?_)
    | ((first | refine zqm ?_ ?_ | refine zgm ?_ ?_ | refine zdm ?_ ?_) <;> (intro h; simp only [h, Bool.not_true, Bool.not_false]))
    | ((first | refine zqs ?_ ?_ | refine zgs ?_ ?_ | refine zds ?_ ?_) <;> (intro h; first | (exfalso; simp at h; omega) | ((try simp only [h]); (try simp at h))))
    | fail)
                all_goals (first | omega | skip)
                all_goals
                  refine endL_normal ⟨220, [], [(1000, rowO eTm 2 kd l3)]⟩ [] (Le.renSub [] [] (by simp [go_sem]) (by simp [go_sem]) (Le.sub4 rfl (by simp [go_sem]))) (by simp [go_sem]) ⟨_, hf.merge (by omega) (by omega) k2 s2 k3 s3, rfl, rfl⟩
            · have s3 := r3.join_empty r4 (by omega) (by omega)
              repeat' (first
    | (refine awp_seqK (fun K hK => ?_))
    | (refine Hide.go (by assumption) ?_)
    | ((first | refine zqd ?_ ?_ | refine zqn ?_ ?_ | refine zgd ?_ ?_ | refine zgn ?_ ?_ | refine zdd ?_ ?_ | refine zdn ?_ ?_) <;> (intro h; first | (exfalso; omega) | (simp only [h, decide_true, decide_false, not_false_eq_true]) | skip))
    | (refine end_ret [] ?_; simp [go_sem])
    | (refine stepK_is rfl () (by simp) ?_)
    | (refine dstepK_is rfl () rfl (by simp) ?_)
    | ((fail_if_success with_reducible (refine Owe.mk ?_)); (simp (disch := omega) [go_sem]))
    | (refine And.intro (by omega) ?_)
    | (refine awp_draw 11 mix (by decide +kernel) ?_)
    | (refine awp_draw 12 mix (by decide +kernel) ?_)
    | (refine awp_draw 14 mix (by decide +kernel) ?_)
    | (refine awp_draw 15 mix (by decide +kernel) ?_)
    | (refine nbI fun bq => ?_)
    | ((first | refine zqm ?_ ?_ | refine zgm ?_ ?_ | refine zdm ?_ ?_) <;> (intro h; simp only [h, Bool.not_true, Bool.not_false]))
    | ((first | refine zqs ?_ ?_ | refine zgs ?_ ?_ | refine zds ?_ ?_) <;> (intro h; first | (exfalso; simp at h; omega) | ((try simp only [h]); (try simp at h))))
    | fail)
              all_goals (first | omega | skip)
              all_goals
                refine endL_normal ⟨220, [], [(1000, rowO eTm 2 kd l2)]⟩ [] (Le.renSub [] [] (by simp [go_sem]) (by simp [go_sem]) (Le.sub4 rfl (by simp [go_sem]))) (by simp [go_sem]) ⟨_, hf.merge (by omega) (by omega) k2 s2 (Keep.refl _ _ _) s3, rfl, rfl⟩
        · have s2 := hf.r1.join_empty hf.r2 (by omega) (by omega)
          have k2 := Keep.refl l1 a mid
          have r3 := hf.r3.keep k2 (.inr (Nat.le_refl _))
          have r4 := hf.r4.keep k2 (.inr (by omega))
          have hl2 : l1.length = l.length := by rw [k2.len, hf.keep.len]
          by_cases g3 : mid < e ∧ e < b
          · obtain ⟨g3a, g3b⟩ := g3
            have hc3 := ih l1 (fun x hx => hS x (hf.keep.mem.1 (k2.mem.1 hx))) (by omega) mid e b (by omega) (by omega) (by omega) (by omega) r3 r4
            rw [hl2] at hc3
            repeat' (first
    | (refine awp_seqK (fun K hK => ?_))
    | (refine Hide.go (by assumption) ?_)
    | ((first | refine zqd ?_ ?_ | refine zqn ?_ ?_ | refine zgd ?_ ?_ | refine zgn ?_ ?_ | refine zdd ?_ ?_ | refine zdn ?_ ?_) <;> (intro h; first | (exfalso; omega) | (simp only [h, decide_true, decide_false, not_false_eq_true]) | skip))
    | (refine end_ret [] ?_; simp [go_sem])
    | (refine stepK_is rfl () (by simp) ?_)
    | (refine dstepK_is rfl () rfl (by simp) ?_)
    | ((fail_if_success with_reducible (refine Owe.mk ?_)); (simp (disch := omega) [go_sem]))
    | (refine And.intro (by omega) ?_)
    | (refine awp_draw 11 mix (by decide +kernel) ?_)
    | (refine awp_draw 12 mix (by decide +kernel) ?_)
    | (refine awp_draw 14 mix (by decide +kernel) ?_)
    | (refine awp_draw 15 mix (by decide +kernel) ?_)
    | (refine nbI fun bq => ?_)
    | ((first | refine zqm ?_ ?_ | refine zgm ?_ ?_ | refine zdm ?_ ?_) <;> (intro h; simp only [h, Bool.not_true, Bool.not_false]))
    | ((first | refine zqs ?_ ?_ | refine zgs ?_ ?_ | refine zds ?_ ?_) <;> (intro h; first | (exfalso; simp at h; omega) | ((try simp only [h]); (try simp at h))))
    | fail)
            all_goals (first | omega | skip)
            all_goals
              refine stepK_fex [] [] 10000 _ _ (Fits.mk' (by simp [go_sem]) (by simp [go_sem])) (by simp [go_sem]) (by simp [go_sem]) (hc3) (by simp [go_sem]) (by intros; simp [go_sem]) ?_; intro l3 h3
              obtain ⟨k3, s3⟩ := h3
              repeat' (first
    | (refine awp_seqK (fun K hK => ?_))
    | (refine Hide.go (by assumption) ?_)
    | ((first | refine zqd ?_ ?_ | refine zqn ?_ ?_ | refine zgd ?_ ?_ | refine zgn ?_ ?_ | refine zdd ?_ ?_ | refine zdn ?_ ?_) <;> (intro h; first | (exfalso; omega) | (simp only [h, decide_true, decide_false, not_false_eq_true]) | skip))
    | (refine end_ret [] ?_; simp [go_sem])
    | (refine stepK_is rfl () (by simp) ?_)
    | (refine dstepK_is rfl () rfl (by simp) ?_)
    | ((fail_if_success with_reducible (refine Owe.mk ?_)); (simp (disch := omega) [go_sem]))
    | (refine And.intro (by omega) ?_)
    | (refine awp_draw 11 mix (by decide +kernel) ?_)
    | (refine awp_draw 12 mix (by decide +kernel) ?_)
    | (refine awp_draw 14 mix (by decide +kernel) ?_)
    | (refine awp_draw 15 mix (by decide +kernel) ?_)
    | (refine nbI fun bq => ?_)
    | ((first | refine zqm ?_ ?_ | refine zgm ?_ ?_ | refine zdm ?_ ?_) <;> (intro h; simp only [h, Bool.not_true, Bool.not_false]))
    | ((first | refine zqs ?_ ?_ | refine zgs ?_ ?_ | refine zds ?_ ?_) <;> (intro h; first | (exfalso; simp at h; omega) | ((try simp only [h]); (try simp at h))))
    | fail)
              all_goals (first | omega | skip)
              all_goals
                refine endL_normal ⟨220, [], [(1000, rowO eTm 2 kd l3)]⟩ [] (Le.renSub [] [] (by simp [go_sem]) (by simp [go_sem]) (Le.sub4 rfl (by simp [go_sem]))) (by simp [go_sem]) ⟨_, hf.merge (by omega) (by omega) k2 s2 k3 s3, rfl, rfl⟩
          · have s3 := r3.join_empty r4 (by omega) (by omega)
            repeat' (first
    | (refine awp_seqK (fun K hK => ?_))
    | (refine Hide.go (by assumption) ?_)
    | ((first | refine zqd ?_ ?_ | refine zqn ?_ ?_ | refine zgd ?_ ?_ | refine zgn ?_ ?_ | refine zdd ?_ ?_ | refine zdn ?_ ?_) <;> (intro h; first | (exfalso; omega) | (simp only [h, decide_true, decide_false, not_false_eq_true]) | skip))
    | (refine end_ret [] ?_; simp [go_sem])
    | (refine stepK_is rfl () (by simp) ?_)
    | (refine dstepK_is rfl () rfl (by simp) ?_)
    | ((fail_if_success with_reducible (refine Owe.mk ?_)); (simp (disch := omega) [go_sem]))
    | (refine And.intro (by omega) ?_)
    | (refine awp_draw 11 mix (by decide +kernel) ?_)
    | (refine awp_draw 12 mix (by decide +kernel) ?_)
    | (refine awp_draw 14 mix (by decide +kernel) ?_)
    | (refine awp_draw 15 mix (by decide +kernel) ?_)
    | (refine nbI fun bq => ?_)
    | ((first | refine zqm ?_ ?_ | refine zgm ?_ ?_ | refine zdm ?_ ?_) <;> (intro h; simp only [h, Bool.not_true, Bool.not_false]))
    | ((first | refine zqs ?_ ?_ | refine zgs ?_ ?_ | refine zds ?_ ?_) <;> (intro h; first | (exfalso; simp at h; omega) | ((try simp only [h]); (try simp at h))))
    | fail)
            all_goals (first | omega | skip)
            all_goals
              refine endL_normal ⟨220, [], [(1000, rowO eTm 2 kd l1)]⟩ [] (Le.renSub [] [] (by simp [go_sem]) (by simp [go_sem]) (Le.sub4 rfl (by simp [go_sem]))) (by simp [go_sem]) ⟨_, hf.merge (by omega) (by omega) k2 s2 (Keep.refl _ _ _) s3, rfl, rfl⟩
      · have hR : Rot l l i m e := by
          by_cases g : i < m
          · obtain rfl : e = m := by omega
            exact Rot.right _ _ _
          · obtain rfl : i = m := by omega
            exact Rot.left _ _ _
        have hf := hv.done hp he hb hs1 hs2 hR
        repeat' (first
    | (refine awp_seqK (fun K hK => ?_))
    | (refine Hide.go (by assumption) ?_)
    | ((first | refine zqd ?_ ?_ | refine zqn ?_ ?_ | refine zgd ?_ ?_ | refine zgn ?_ ?_ | refine zdd ?_ ?_ | refine zdn ?_ ?_) <;> (intro h; first | (exfalso; omega) | (simp only [h, decide_true, decide_false, not_false_eq_true]) | skip))
    | (refine end_ret [] ?_; simp [go_sem, he1])
    | ((fail_if_success with_reducible (refine Owe.mk ?_)); (simp (disch := omega) [go_sem, he1]))
    | (refine And.intro (by omega) ?_)
    | (refine awp_draw 11 mix (by decide +kernel) ?_)
    | (refine awp_draw 12 mix (by decide +kernel) ?_)
    | (refine awp_draw 14 mix (by decide +kernel) ?_)
    | (refine awp_draw 15 mix (by decide +kernel) ?_)
    | (refine nbI fun bq => ?_)
    | ((first | refine zqm ?_ ?_ | refine zgm ?_ ?_ | refine zdm ?_ ?_) <;> (intro h; simp only [h, Bool.not_true, Bool.not_false]))
    | ((first | refine zqs ?_ ?_ | refine zgs ?_ ?_ | refine zds ?_ ?_) <;> (intro h; first | (exfalso; simp at h; omega) | ((try simp only [h]); (try simp at h))))
    | fail)
        all_goals (first | omega | skip)
        all_goals
          have hl1 : l.length = l.length := hf.keep.len
          by_cases g2 : a < i ∧ i < mid
          · obtain ⟨g2a, g2b⟩ := g2
            have hc2 := ih l (fun x hx => hS x (hf.keep.mem.1 hx)) (by omega) a i mid (by omega) (by omega) (by omega) (by omega) hf.r1 hf.r2
            rw [hl1] at hc2
            repeat' (first
    | (refine awp_seqK (fun K hK => ?_))
    | (refine Hide.go (by assumption) ?_)
    | ((first | refine zqd ?_ ?_ | refine zqn ?_ ?_ | refine zgd ?_ ?_ | refine zgn ?_ ?_ | refine zdd ?_ ?_ | refine zdn ?_ ?_) <;> (intro h; first | (exfalso; omega) | (simp only [h, decide_true, decide_false, not_false_eq_true]) | skip))
    | (refine end_ret [] ?_; simp [go_sem])
    | (refine stepK_is rfl () (by simp) ?_)
    | (refine dstepK_is rfl () rfl (by simp) ?_)
    | ((fail_if_success with_reducible (refine Owe.mk ?_)); (simp (disch := omega) [go_sem]))
    | (refine And.intro (by omega) ?_)
    | (refine awp_draw 11 mix (by decide +kernel) ?_)
    | (refine awp_draw 12 mix (by decide +kernel) ?_)
    | (refine awp_draw 14 mix (by decide +kernel) ?_)
    | (refine awp_draw 15 mix (by decide +kernel) ?_)
    | (refine nbI fun bq => ?_)
    | ((first | refine zqm ?_ ?_ | refine zgm ?_ ?_ | refine zdm ?_ ?_) <;> (intro h; simp only [h, Bool.not_true, Bool.not_false]))
    | ((first | refine zqs ?_ ?_ | refine zgs ?_ ?_ | refine zds ?_ ?_) <;> (intro h; first | (exfalso; simp at h; omega) | ((try simp only [h]); (try simp at h))))
    | fail)
            all_goals (first | omega | skip)
            all_goals
              refine stepK_fex [] [] 10000 _ _ (Fits.mk' (by simp [go_sem]) (by simp [go_sem])) (by simp [go_sem]) (by simp [go_sem]) (hc2) (by simp [go_sem]) (by intros; simp [go_sem]) ?_; intro l2 h2
              obtain ⟨k2, s2⟩ := h2
              have r3 := hf.r3.keep k2 (.inr (Nat.le_refl _))
              have r4 := hf.r4.keep k2 (.inr (by omega))
              have hl2 : l2.length = l.length := by rw [k2.len, hf.keep.len]
              by_cases g3 : mid < e ∧ e < b
              · obtain ⟨g3a, g3b⟩ := g3
                have hc3 := ih l2 (fun x hx => hS x (hf.keep.mem.1 (k2.mem.1 hx))) (by omega) mid e b (by omega) (by omega) (by omega) (by omega) r3 r4
                rw [hl2] at hc3
                repeat' (first
    | (refine awp_seqK (fun K hK => ?_))
    | (refine Hide.go (by assumption) ?_)
    | ((first | refine zqd ?_ ?_ | refine zqn ?_ ?_ | refine zgd ?_ ?_ | refine zgn ?_ ?_ | refine zdd ?_ ?_ | refine zdn ?_ ?_) <;> (intro h; first | (exfalso; omega) | (simp only [h, decide_true, decide_false, not_false_eq_true]) | skip))
    | (refine end_ret [] ?_; simp [go_sem])
    | (refine stepK_is rfl () (by simp) ?_)
    | (refine dstepK_is rfl () rfl (by simp) ?_)
    | ((fail_if_success with_reducible (refine Owe.mk ?_)); (simp (disch := omega) [go_sem]))
    | (refine And.intro (by omega) ?_)
    | (refine awp_draw 11 mix (by decide +kernel) ?_)
    | (refine awp_draw 12 mix (by decide +kernel) ?_)
    | (refine awp_draw 14 mix (by decide +kernel) ?_)
    | (refine awp_draw 15 mix (by decide +kernel) ?_)
    | (refine nbI fun bq => ?_)
    | ((first | refine zqm ?_ ?_ | refine zgm ?_ ?_ | refine zdm ?_ ?_) <;> (intro h; simp only [h, Bool.not_true, Bool.not_false]))
    | ((first | refine zqs ?_ ?_ | refine zgs ?_ ?_ | refine zds ?_ ?_) <;> (intro h; first | (exfalso; simp at h; omega) | ((try simp only [h]); (try simp at h))))
    | fail)
                all_goals (first | omega | skip)
                all_goals
                  refine stepK_fex [] [] 10000 _ _ (Fits.mk' (by simp [go_sem]) (by simp [go_sem])) (by simp [go_sem]) (by simp [go_sem]) (hc3) (by simp [go_sem]) (by intros; simp [go_sem]) ?_; intro l3 h3
                  obtain ⟨k3, s3⟩ := h3
                  repeat' (first
    | (refine awp_seqK (fun K hK => ?_))
    | (refine Hide.go (by assumption) ?_)
    | ((first | refine zqd ?_ ?_ | refine zqn ?_ ?_ | refine zgd ?_ ?_ | refine zgn ?_ ?_ | refine zdd ?_ ?_ | refine zdn ?_ ?_) <;> (intro h; first | (exfalso; omega) | (simp only [h, decide_true, decide_false, not_false_eq_true]) | skip))
    | (refine end_ret [] ?_; simp [go_sem])
    | (refine stepK_is rfl () (by simp) ?_)
    | (refine dstepK_is rfl () rfl (by simp) ?_)
    | ((fail_if_success with_reducible (refine Owe.mk ?_)); (simp (disch := omega) [go_sem]))
    | (refine And.intro (by omega) ?_)
    | (refine awp_draw 11 mix (by decide +kernel) ?_)
    | (refine awp_draw 12 mix (by decide +kernel) ?_)
    | (refine awp_draw 14 mix (by decide +kernel) ?_)
    | (refine awp_draw 15 mix (by decide +kernel) ?_)
    | (refine nbI fun bq => ?_)
    | ((first | refine zqm ?_ ?_ | refine zgm ?_ ?_ | refine zdm ?_ ?_) <;> (intro h; simp only [h, Bool.not_true, Bool.not_false]))
    | ((first | refine zqs ?_ ?_ | refine zgs ?_ ?_ | refine zds ?_ ?_) <;> (intro h; first | (exfalso; simp at h; omega) | ((try simp only [h]); (try simp at h))))
    | fail)
                  all_goals (first | omega | skip)
                  all_goals
                    refine endL_normal ⟨220, [], [(1000, rowO eTm 2 kd l3)]⟩ [] (Le.renSub [] [] (by simp [go_sem]) (by simp [go_sem]) (Le.sub4 rfl (by simp [go_sem]))) (by simp [go_sem]) ⟨_, hf.merge (by omega) (by omega) k2 s2 k3 s3, rfl, rfl⟩
              · have s3 := r3.join_empty r4 (by omega) (by omega)
                repeat' (first
    | (refine awp_seqK (fun K hK => ?_))
    | (refine Hide.go (by assumption) ?_)
    | ((first | refine zqd ?_ ?_ | refine zqn ?_ ?_ | refine zgd ?_ ?_ | refine zgn ?_ ?_ | refine zdd ?_ ?_ | refine zdn ?_ ?_) <;> (intro h; first | (exfalso; omega) | (simp only [h, decide_true, decide_false, not_false_eq_true]) | skip))
    | (refine end_ret [] ?_; simp [go_sem])
    | (refine stepK_is rfl () (by simp) ?_)
    | (refine dstepK_is rfl () rfl (by simp) ?_)
    | ((fail_if_success with_reducible (refine Owe.mk ?_)); (simp (disch := omega) [go_sem]))
    | (refine And.intro (by omega) ?_)
    | (refine awp_draw 11 mix (by decide +kernel) ?_)
    | (refine awp_draw 12 mix (by decide +kernel) ?_)
    | (refine awp_draw 14 mix (by decide +kernel) ?_)
    | (refine awp_draw 15 mix (by decide +kernel) ?_)
    | (refine nbI fun bq => ?_)
    | ((first | refine zqm ?_ ?_ | refine zgm ?_ ?_ | refine zdm ?_ ?_) <;> (intro h; simp only [h, Bool.not_true, Bool.not_false]))
    | ((first | refine zqs ?_ ?_ | refine zgs ?_ ?_ | refine zds ?_ ?_) <;> (intro h; first | (exfalso; simp at h; omega) | ((try simp only [h]); (try simp at h))))
    | fail)
                all_goals (first | omega | skip)
                all_goals
                  refine endL_normal ⟨220, [], [(1000, rowO eTm 2 kd l2)]⟩ [] (Le.renSub [] [] (by simp [go_sem]) (by simp [go_sem]) (Le.sub4 rfl (by simp [go_sem]))) (by simp [go_sem]) ⟨_, hf.merge (by omega) (by omega) k2 s2 (Keep.refl _ _ _) s3, rfl, rfl⟩
          · have s2 := hf.r1.join_empty hf.r2 (by omega) (by omega)
            have k2 := Keep.refl l a mid
            have r3 := hf.r3.keep k2 (.inr (Nat.le_refl _))
            have r4 := hf.r4.keep k2 (.inr (by omega))
            have hl2 : l.length = l.length := by rw [k2.len, hf.keep.len]
            by_cases g3 : mid < e ∧ e < b
            · obtain ⟨g3a, g3b⟩ := g3
              have hc3 := ih l (fun x hx => hS x (hf.keep.mem.1 (k2.mem.1 hx))) (by omega) mid e b (by omega) (by omega) (by omega) (by omega) r3 r4
              rw [hl2] at hc3
              repeat' (first
    | (refine awp_seqK (fun K hK => ?_))
    | (refine Hide.go (by assumption) ?_)
    | ((first | refine zqd ?_ ?_ | refine zqn ?_ ?_ | refine zgd ?_ ?_ | refine zgn ?_ ?_ | refine zdd ?_ ?_ | refine zdn ?_ ?_) <;> (intro h; first | (exfalso; omega) | (simp only [h, decide_true, decide_false, not_false_eq_true]) | skip))
    | (refine end_ret [] ?_; simp [go_sem])
    | (refine stepK_is rfl () (by simp) ?_)
    | (refine dstepK_is rfl () rfl (by simp) ?_)
    | ((fail_if_success with_reducible (refine Owe.mk ?_)); (simp (disch := omega) [go_sem]))
    | (refine And.intro (by omega) ?_)
    | (refine awp_draw 11 mix (by decide +kernel) ?_)
    | (refine awp_draw 12 mix (by decide +kernel) ?_)
    | (refine awp_draw 14 mix (by decide +kernel) ?_)
    | (refine awp_draw 15 mix (by decide +kernel) ?_)
    | (refine nbI fun bq => ?_)
    | ((first | refine zqm ?_ ?_ | refine zgm ?_ ?_ | refine zdm ?_ ?_) <;> (intro h; simp only [h, Bool.not_true, Bool.not_false]))
    | ((first | refine zqs ?_ ?_ | refine zgs ?_ ?_ | refine zds ?_ ?_) <;> (intro h; first | (exfalso; simp at h; omega) | ((try simp only [h]); (try simp at h))))
    | fail)
              all_goals (first | omega | skip)
              all_goals
                refine stepK_fex [] [] 10000 _ _ (Fits.mk' (by simp [go_sem]) (by simp [go_sem])) (by simp [go_sem]) (by simp [go_sem]) (hc3) (by simp [go_sem]) (by intros; simp [go_sem]) ?_; intro l3 h3
                obtain ⟨k3, s3⟩ := h3
                repeat' (first
    | (refine awp_seqK (fun K hK => ?_))
    | (refine Hide.go (by assumption) ?_)
    | ((first | refine zqd ?_ ?_ | refine zqn ?_ ?_ | refine zgd ?_ ?_ | refine zgn ?_ ?_ | refine zdd ?_ ?_ | refine zdn ?_ ?_) <;> (intro h; first | (exfalso; omega) | (simp only [h, decide_true, decide_false, not_false_eq_true]) | skip))
    | (refine end_ret [] ?_; simp [go_sem])
    | (refine stepK_is rfl () (by simp) ?_)
    | (refine dstepK_is rfl () rfl (by simp) ?_)
    | ((fail_if_success with_reducible (refine Owe.mk ?_)); (simp (disch := omega) [go_sem]))
    | (refine And.intro (by omega) ?_)
    | (refine awp_draw 11 mix (by decide +kernel) ?_)
    | (refine awp_draw 12 mix (by decide +kernel) ?_)
    | (refine awp_draw 14 mix (by decide +kernel) ?_)
    | (refine awp_draw 15 mix (by decide +kernel) ?_)
    | (refine nbI fun bq => ?_)
    | ((first | refine zqm ?_ ?_ | refine zgm ?_ ?_ | refine zdm ?_ ?_) <;> (intro h; simp only [h, Bool.not_true, Bool.not_false]))
    | ((first | refine zqs ?_ ?_ | refine zgs ?_ ?_ | refine zds ?_ ?_) <;> (intro h; first | (exfalso; simp at h; omega) | ((try simp only [h]); (try simp at h))))
    | fail)
                all_goals (first | omega | skip)
                all_goals
                  refine endL_normal ⟨220, [], [(1000, rowO eTm 2 kd l3)]⟩ [] (Le.renSub [] [] (by simp [go_sem]) (by simp [go_sem]) (Le.sub4 rfl (by simp [go_sem]))) (by simp [go_sem]) ⟨_, hf.merge (by omega) (by omega) k2 s2 k3 s3, rfl, rfl⟩
            · have s3 := r3.join_empty r4 (by omega) (by omega)
              repeat' (first
    | (refine awp_seqK (fun K hK => ?_))
    | (refine Hide.go (by assumption) ?_)
    | ((first | refine zqd ?_ ?_ | refine zqn ?_ ?_ | refine zgd ?_ ?_ | refine zgn ?_ ?_ | refine zdd ?_ ?_ | refine zdn ?_ ?_) <;> (intro h; first | (exfalso; omega) | (simp only [h, decide_true, decide_false, not_false_eq_true]) | skip))
    | (refine end_ret [] ?_; simp [go_sem])
    | (refine stepK_is rfl () (by simp) ?_)
    | (refine dstepK_is rfl () rfl (by simp) ?_)
    | ((fail_if_success with_reducible (refine Owe.mk ?_)); (simp (disch := omega) [go_sem]))
    | (refine And.intro (by omega) ?_)
    | (refine awp_draw 11 mix (by decide +kernel) ?_)
    | (refine awp_draw 12 mix (by decide +kernel) ?_)
    | (refine awp_draw 14 mix (by decide +kernel) ?_)
    | (refine awp_draw 15 mix (by decide +kernel) ?_)
    | (refine nbI fun bq => ?_)
    | ((first | refine zqm ?_ ?_ | refine zgm ?_ ?_ | refine zdm ?_ ?_) <;> (intro h; simp only [h, Bool.not_true, Bool.not_false]))
    | ((first | refine zqs ?_ ?_ | refine zgs ?_ ?_ | refine zds ?_ ?_) <;> (intro h; first | (exfalso; simp at h; omega) | ((try simp only [h]); (try simp at h))))
    | fail)
              all_goals (first | omega | skip)
              all_goals
                refine endL_normal ⟨220, [], [(1000, rowO eTm 2 kd l)]⟩ [] (Le.renSub [] [] (by simp [go_sem]) (by simp [go_sem]) (Le.sub4 rfl (by simp [go_sem]))) (by simp [go_sem]) ⟨_, hf.merge (by omega) (by omega) k2 s2 (Keep.refl _ _ _) s3, rfl, rfl⟩

  · rw [if_neg hmm] at hs0 hr0
    rw [hs0, hr0] at hst
    clear hs0
    clear hr0
    repeat' (first
    | (refine awp_seqK (fun K hK => ?_))
    | (refine Hide.go (by assumption) ?_)
    | ((first | refine zqd ?_ ?_ | refine zqn ?_ ?_ | refine zgd ?_ ?_ | refine zgn ?_ ?_ | refine zdd ?_ ?_ | refine zdn ?_ ?_) <;> (intro h; first | (exfalso; omega) | (simp only [h, decide_true, decide_false, not_false_eq_true]) | skip))
    | (refine end_ret [] ?_; simp [go_sem, hm', hm2])
    | ((fail_if_success with_reducible (refine Owe.mk ?_)); (simp (disch := omega) [go_sem, hm', hm2]))
    | (refine And.intro (by omega) ?_)
    | (refine awp_draw 11 mix (by decide +kernel) ?_)
    | (refine awp_draw 12 mix (by decide +kernel) ?_)
    | (refine awp_draw 14 mix (by decide +kernel) ?_)
    | (refine awp_draw 15 mix (by decide +kernel) ?_)
    | (refine nbI fun bq => ?_)
    | ((first | refine zqm ?_ ?_ | refine zgm ?_ ?_ | refine zdm ?_ ?_) <;> (intro h; simp only [h, Bool.not_true, Bool.not_false]))
    | ((first | refine zqs ?_ ?_ | refine zgs ?_ ?_ | refine zds ?_ ?_) <;> (intro h; first | (exfalso; simp at h; omega) | ((try simp only [h]); (try simp at h))))
    | fail)
    all_goals (first | omega | skip)
    refine awp_for [0, 1, 2, 3, 4, 18, 19, 22] [] (fun x : Nat × Nat => [(20, nt .i64 x.1), (21, nt .i64 x.2)]) (fun x : Nat × Nat => []) (fun x : Nat × Nat => x.2 - x.1) (fun x : Nat × Nat => SymS cf l a m b mid x.1 x.2) ((a, m)) (Le.sub4 rfl (by simp [go_sem])) ⟨?_⟩ ?_
    · exact hst
    intro ⟨i, j⟩ hv AA hAA; simp only [Go.Ab.keepT_nil, Go.Ab.keepT_cons, Go.Ab.dropO_nil, Go.Ab.dropO_cons, List.contains_cons, List.contains_nil, List.elem_cons, List.elem_nil, Nat.reduceBEq, beq_self_eq_true, Nat.reduceEqDiff, Bool.or_false, Bool.false_or, Bool.or_true, Bool.true_or, Bool.false_eq_true, if_true, if_false, List.cons_append, List.nil_append, List.append_nil]
    dsimp only at *
    have v1 := hv.ha
    have v2 := hv.hs
    have v3 := hv.hr
    have v4 := hv.hr2
    have v5 := hv.hb
    by_cases hlt : i < j
    · obtain ⟨mi, hmi⟩ : ∃ h, h = (i + j) / 2 := ⟨_, rfl⟩
      have hm' : ((i : Int) + j).fdiv 2 = (mi : Int) := by rw [Int.fdiv_eq_ediv_of_nonneg _ (by decide)]; omega
      have hm2 : ((i : Int) + j) / 2 = (mi : Int) := by omega
      have hhl : mi < l.length := by omega
      have gh : l[mi]? = some l[mi] := List.getElem?_eq_getElem hhl
      obtain ⟨q, hq⟩ : ∃ q, q = mid + m - 1 - mi := ⟨_, rfl⟩
      have hq1 : (mid : Int) + m - 1 - mi = (q : Int) := by omega
      have hql : q < l.length := by omega
      have gq : l[q]? = some l[q] := List.getElem?_eq_getElem hql
      have hu := hcm q mi hql hhl
      by_cases hz : cf l[q] l[mi] < 0
      · repeat' (first
    | (refine awp_seqK (fun K hK => ?_))
    | (refine Hide.go (by assumption) ?_)
    | ((first | refine zqd ?_ ?_ | refine zqn ?_ ?_ | refine zgd ?_ ?_ | refine zgn ?_ ?_ | refine zdd ?_ ?_ | refine zdn ?_ ?_) <;> (intro h; first | (exfalso; omega) | (simp only [h, decide_true, decide_false, not_false_eq_true]) | skip))
    | (refine end_ret [] ?_; simp [go_sem, hhl, hql, hm', hm2, hq1])
    | (refine stepK_is rfl (hu) (by simp) ?_)
    | (refine dstepK_is rfl (hu) rfl (by simp) ?_)
    | (refine (hAA.next ((i, mi)) (Le.sub4 rfl (by simp [go_sem])) (by (try dsimp only); omega) ?_))
    | ((fail_if_success with_reducible (refine Owe.mk ?_)); (simp (disch := omega) [go_sem, hhl, hql, hm', hm2, hq1]))
    | (refine And.intro (by omega) ?_)
    | (refine awp_draw 11 mix (by decide +kernel) ?_)
    | (refine awp_draw 12 mix (by decide +kernel) ?_)
    | (refine awp_draw 14 mix (by decide +kernel) ?_)
    | (refine awp_draw 15 mix (by decide +kernel) ?_)
    | (refine nbI fun bq => ?_)
    | ((first | refine zqm ?_ ?_ | refine zgm ?_ ?_ | refine zdm ?_ ?_) <;> (intro h; simp only [h, Bool.not_true, Bool.not_false]))
    | ((first | refine zqs ?_ ?_ | refine zgs ?_ ?_ | refine zds ?_ ?_) <;> (intro h; first | (exfalso; simp at h; omega) | ((try simp only [h]); (try simp at h))))
    | fail)
        exact ⟨hv.left ⟨by omega, by omega⟩ (by rw [← hq]; exact gq) gh (by omega)⟩
      · repeat' (first
    | (refine awp_seqK (fun K hK => ?_))
    | (refine Hide.go (by assumption) ?_)
    | ((first | refine zqd ?_ ?_ | refine zqn ?_ ?_ | refine zgd ?_ ?_ | refine zgn ?_ ?_ | refine zdd ?_ ?_ | refine zdn ?_ ?_) <;> (intro h; first | (exfalso; omega) | (simp only [h, decide_true, decide_false, not_false_eq_true]) | skip))
    | (refine end_ret [] ?_; simp [go_sem, hhl, hql, hm', hm2, hq1])
    | (refine stepK_is rfl (hu) (by simp) ?_)
    | (refine dstepK_is rfl (hu) rfl (by simp) ?_)
    | (refine (hAA.next ((mi + 1, j)) (Le.sub4 rfl (by simp [go_sem])) (by (try dsimp only); omega) ?_))
    | ((fail_if_success with_reducible (refine Owe.mk ?_)); (simp (disch := omega) [go_sem, hhl, hql, hm', hm2, hq1]))
    | (refine And.intro (by omega) ?_)
    | (refine awp_draw 11 mix (by decide +kernel) ?_)
    | (refine awp_draw 12 mix (by decide +kernel) ?_)
    | (refine awp_draw 14 mix (by decide +kernel) ?_)
    | (refine awp_draw 15 mix (by decide +kernel) ?_)
    | (refine nbI fun bq => ?_)
    | ((first | refine zqm ?_ ?_ | refine zgm ?_ ?_ | refine zdm ?_ ?_) <;> (intro h; simp only [h, Bool.not_true, Bool.not_false]))
    | ((first | refine zqs ?_ ?_ | refine zgs ?_ ?_ | refine zds ?_ ?_) <;> (intro h; first | (exfalso; simp at h; omega) | ((try simp only [h]); (try simp at h))))
    | fail)
        exact ⟨hv.right ⟨by omega, by omega⟩ gh (by rw [← hq]; exact gq) (hp.sw _ _ hz)⟩
    · obtain rfl : i = j := by omega
      obtain ⟨e, he⟩ : ∃ e, e = mid + m - i := ⟨_, rfl⟩
      have he1 : (mid : Int) + m - i = (e : Int) := by omega
      by_cases g1 : i < m ∧ m < e
      · obtain ⟨g1a, g1b⟩ := g1
        have hcr := rot_ok f kd l hl i m e g1a g1b (by omega)
        repeat' (first
    | (refine awp_seqK (fun K hK => ?_))
    | (refine Hide.go (by assumption) ?_)
    | ((first | refine zqd ?_ ?_ | refine zqn ?_ ?_ | refine zgd ?_ ?_ | refine zgn ?_ ?_ | refine zdd ?_ ?_ | refine zdn ?_ ?_) <;> (intro h; first | (exfalso; omega) | (simp only [h, decide_true, decide_false, not_false_eq_true]) | skip))
    | (refine end_ret [] ?_; simp [go_sem, he1])
    | ((fail_if_success with_reducible (refine Owe.mk ?_)); (simp (disch := omega) [go_sem, he1]))
    | (refine And.intro (by omega) ?_)
    | (refine awp_draw 11 mix (by decide +kernel) ?_)
    | (refine awp_draw 12 mix (by decide +kernel) ?_)
    | (refine awp_draw 14 mix (by decide +kernel) ?_)
    | (refine awp_draw 15 mix (by decide +kernel) ?_)
    | (refine nbI fun bq => ?_)
    | ((first | refine zqm ?_ ?_ | refine zgm ?_ ?_ | refine zdm ?_ ?_) <;> (intro h; simp only [h, Bool.not_true, Bool.not_false]))
    | ((first | refine zqs ?_ ?_ | refine zgs ?_ ?_ | refine zds ?_ ?_) <;> (intro h; first | (exfalso; simp at h; omega) | ((try simp only [h]); (try simp at h))))
    | fail)
        all_goals (first | omega | skip)
        refine stepK_fex [] [] 10000 _ _ (Fits.mk' (by simp [go_sem]) (by simp [go_sem])) (by simp [go_sem]) (by simp [go_sem]) (hcr) (by simp [go_sem]) (by intros; simp [go_sem]) ?_; intro l1 hR
        have hf := hv.done hp he hb hs1 hs2 hR
        have hl1 : l1.length = l.length := hf.keep.len
        by_cases g2 : a < i ∧ i < mid
        · obtain ⟨g2a, g2b⟩ := g2
          have hc2 := ih l1 (fun x hx => hS x (hf.keep.mem.1 hx)) (by omega) a i mid (by omega) (by omega) (by omega) (by omega) hf.r1 hf.r2
          rw [hl1] at hc2
          repeat' (first
    | (refine awp_seqK (fun K hK => ?_))
    | (refine Hide.go (by assumption) ?_)
    | ((first | refine zqd ?_ ?_ | refine zqn ?_ ?_ | refine zgd ?_ ?_ | refine zgn ?_ ?_ | refine zdd ?_ ?_ | refine zdn ?_ ?_) <;> (intro h; first | (exfalso; omega) | (simp only [h, decide_true, decide_false, not_false_eq_true]) | skip))
    | (refine end_ret [] ?_; simp [go_sem])
    | (refine stepK_is rfl () (by simp) ?_)
    | (refine dstepK_is rfl () rfl (by simp) ?_)
    | ((fail_if_success with_reducible (refine Owe.mk ?_)); (simp (disch := omega) [go_sem]))
    | (refine And.intro (by omega) ?_)
    | (refine awp_draw 11 mix (by decide +kernel) ?_)
    | (refine awp_draw 12 mix (by decide +kernel) ?_)
    | (refine awp_draw 14 mix (by decide +kernel) ?_)
    | (refine awp_draw 15 mix (by decide +kernel) ?_)
    | (refine nbI fun bq => ?_)
    | ((first | refine zqm ?_ ?_ | refine zgm ?_ ?_ | refine zdm ?_ ?_) <;> (intro h; simp only [h, Bool.not_true, Bool.not_false]))
    | ((first | refine zqs ?_ ?_ | refine zgs ?_ ?_ | refine zds ?_ ?_) <;> (intro h; first | (exfalso; simp at h; omega) | ((try simp only [h]); (try simp at h))))
    | fail)
          all_goals (first | omega | skip)
          all_goals
            refine stepK_fex [] [] 10000 _ _ (Fits.mk' (by simp [go_sem]) (by simp [go_sem])) (by simp [go_sem]) (by simp [go_sem]) (hc2) (by simp [go_sem]) (by intros; simp [go_sem]) ?_; intro l2 h2
            obtain ⟨k2, s2⟩ := h2
            have r3 := hf.r3.keep k2 (.inr (Nat.le_refl _))
            have r4 := hf.r4.keep k2 (.inr (by omega))
            have hl2 : l2.length = l.length := by rw [k2.len, hf.keep.len]
            by_cases g3 : mid < e ∧ e < b
            · obtain ⟨g3a, g3b⟩ := g3
              have hc3 := ih l2 (fun x hx => hS x (hf.keep.mem.1 (k2.mem.1 hx))) (by omega) mid e b (by omega) (by omega) (by omega) (by omega) r3 r4
              rw [hl2] at hc3
              repeat' (first
    | (refine awp_seqK (fun K hK => ?_))
    | (refine Hide.go (by assumption) ?_)
    | ((first | refine zqd ?_ ?_ | refine zqn ?_ ?_ | refine zgd ?_ ?_ | refine zgn ?_ ?_ | refine zdd ?_ ?_ | refine zdn ?_ ?_) <;> (intro h; first | (exfalso; omega) | (simp only [h, decide_true, decide_false, not_false_eq_true]) | skip))
    | (refine end_ret [] ?_; simp [go_sem])
    | (refine stepK_is rfl () (by simp) ?_)
    | (refine dstepK_is rfl () rfl (by simp) ?_)
    | ((fail_if_success with_reducible (refine Owe.mk ?_)); (simp (disch := omega) [go_sem]))
    | (refine And.intro (by omega) ?_)
    | (refine awp_draw 11 mix (by decide +kernel) ?_)
    | (refine awp_draw 12 mix (by decide +kernel) ?_)
    | (refine awp_draw 14 mix (by decide +kernel) ?_)
    | (refine awp_draw 15 mix (by decide +kernel) ?_)
    | (refine nbI fun bq => ?_)
    | ((first | refine zqm ?_ ?_ | refine zgm ?_ ?_ | refine zdm ?_ ?_) <;> (intro h; simp only [h, Bool.not_true, Bool.not_false]))
    | ((first | refine zqs ?_ ?_ | refine zgs ?_ ?_ | refine zds ?_ ?_) <;> (intro h; first | (exfalso; simp at h; omega) | ((try simp only [h]); (try simp at h))))
    | fail)
              all_goals (first | omega | skip)
              all_goals
                refine stepK_fex [] [] 10000 _ _ (Fits.mk' (by simp [go_sem]) (by simp [go_sem])) (by simp [go_sem]) (by simp [go_sem]) (hc3) (by simp [go_sem]) (by intros; simp [go_sem]) ?_; intro l3 h3
                obtain ⟨k3, s3⟩ := h3
                repeat' (first
    | (refine awp_seqK (fun K hK => ?_))
    | (refine Hide.go (by assumption) ?_)
    | ((first | refine zqd ?_ ?_ | refine zqn ?_ ?_ | refine zgd ?_ ?_ | refine zgn ?_ ?_ | refine zdd ?_ ?_ | refine zdn ?_ ?_) <;> (intro h; first | (exfalso; omega) | (simp only [h, decide_true, decide_false, not_false_eq_true]) | skip))
    | (refine end_ret [] ?_; simp [go_sem])
    | (refine stepK_is rfl () (by simp) ?_)
    | (refine dstepK_is rfl () rfl (by simp) ?_)
    | ((fail_if_success with_reducible (refine Owe.mk ?_)); (simp (disch := omega) [go_sem]))
    | (refine And.intro (by omega) ?_)
    | (refine awp_draw 11 mix (by decide +kernel) ?_)
    | (refine awp_draw 12 mix (by decide +kernel) ?_)
    | (refine awp_draw 14 mix (by decide +kernel) ?_)
    | (refine awp_draw 15 mix (by decide +kernel) ?_)
    | (refine nbI fun bq => ?_)
    | ((first | refine zqm ?_ ?_ | refine zgm ?_ ?_ | refine zdm ?_ ?_) <;> (intro h; simp only [h, Bool.not_true, Bool.not_false]))
    | ((first | refine zqs ?_ ?_ | refine zgs ?_ ?_ | refine zds ?_ ?_) <;> (intro h; first | (exfalso; simp at h; omega) | ((try simp only [h]); (try simp at h))))
    | fail)
                all_goals (first | omega | skip)
                all_goals
                  refine endL_normal ⟨220, [], [(1000, rowO eTm 2 kd l3)]⟩ [] (Le.renSub [] [] (by simp [go_sem]) (by simp [go_sem]) (Le.sub4 rfl (by simp [go_sem]))) (by simp [go_sem]) ⟨_, hf.merge (by omega) (by omega) k2 s2 k3 s3, rfl, rfl⟩
            · have s3 := r3.join_empty r4 (by omega) (by omega)
              repeat' (first
    | (refine awp_seqK (fun K hK => ?_))
    | (refine Hide.go (by assumption) ?_)
    | ((first | refine zqd ?_ ?_ | refine zqn ?_ ?_ | refine zgd ?_ ?_ | refine zgn ?_ ?_ | refine zdd ?_ ?_ | refine zdn ?_ ?_) <;> (intro h; first | (exfalso; omega) | (simp only [h, decide_true, decide_false, not_false_eq_true]) | skip))
    | (refine end_ret [] ?_; simp [go_sem])
    | (refine stepK_is rfl () (by simp) ?_)
    | (refine dstepK_is rfl () rfl (by simp) ?_)
    | ((fail_if_success with_reducible (refine Owe.mk ?_)); (simp (disch := omega) [go_sem]))
    | (refine And.intro (by omega) ?_)
    | (refine awp_draw 11 mix (by decide +kernel) ?_)
    | (refine awp_draw 12 mix (by decide +kernel) ?_)
    | (refine awp_draw 14 mix (by decide +kernel) ?_)
    | (refine awp_draw 15 mix (by decide +kernel) ?_)
    | (refine nbI fun bq => ?_)
    | ((first | refine zqm ?_ ?_ | refine zgm ?_ ?_ | refine zdm ?_ ?_) <;> (intro h; simp only [h, Bool.not_true, Bool.not_false]))
    | ((first | refine zqs ?_ ?_ | refine zgs ?_ ?_ | refine zds ?_ ?_) <;> (intro h; first | (exfalso; simp at h; omega) | ((try simp only [h]); (try simp at h))))
    | fail)
              all_goals (first | omega | skip)
              all_goals
                refine endL_normal ⟨220, [], [(1000, rowO eTm 2 kd l2)]⟩ [] (Le.renSub [] [] (by simp [go_sem]) (by simp [go_sem]) (Le.sub4 rfl (by simp [go_sem]))) (by simp [go_sem]) ⟨_, hf.merge (by omega) (by omega) k2 s2 (Keep.refl _ _ _) s3, rfl, rfl⟩
        · have s2 := hf.r1.join_empty hf.r2 (by omega) (by omega)
          have k2 := Keep.refl l1 a mid
          have r3 := hf.r3.keep k2 (.inr (Nat.le_refl _))
          have r4 := hf.r4.keep k2 (.inr (by omega))
          have hl2 : l1.length = l.length := by rw [k2.len, hf.keep.len]
          by_cases g3 : mid < e ∧ e < b
          · obtain ⟨g3a, g3b⟩ := g3
            have hc3 := ih l1 (fun x hx => hS x (hf.keep.mem.1 (k2.mem.1 hx))) (by omega) mid e b (by omega) (by omega) (by omega) (by omega) r3 r4
            rw [hl2] at hc3
            repeat' (first
    | (refine awp_seqK (fun K hK => ?_))
    | (refine Hide.go (by assumption) ?_)
    | ((first | refine zqd ?_ ?_ | refine zqn ?_ ?_ | refine zgd ?_ ?_ | refine zgn ?_ ?_ | refine zdd ?_ ?_ | refine zdn ?_ ?_) <;> (intro h; first | (exfalso; omega) | (simp only [h, decide_true, decide_false, not_false_eq_true]) | skip))
    | (refine end_ret [] ?_; simp [go_sem])
    | (refine stepK_is rfl () (by simp) ?_)
    | (refine dstepK_is rfl () rfl (by simp) ?_)
    | ((fail_if_success with_reducible (refine Owe.mk ?_)); (simp (disch := omega) [go_sem]))
    | (refine And.intro (by omega) ?_)
    | (refine awp_draw 11 mix (by decide +kernel) ?_)
    | (refine awp_draw 12 mix (by decide +kernel) ?_)
    | (refine awp_draw 14 mix (by decide +kernel) ?_)
    | (refine awp_draw 15 mix (by decide +kernel) ?_)
    | (refine nbI fun bq => ?_)
    | ((first | refine zqm ?_ ?_ | refine zgm ?_ ?_ | refine zdm ?_ ?_) <;> (intro h; simp only [h, Bool.not_true, Bool.not_false]))
    | ((first | refine zqs ?_ ?_ | refine zgs ?_ ?_ | refine zds ?_ ?_) <;> (intro h; first | (exfalso; simp at h; omega) | ((try simp only [h]); (try simp at h))))
    | fail)
            all_goals (first | omega | skip)
            all_goals
              refine stepK_fex [] [] 10000 _ _ (Fits.mk' (by simp [go_sem]) (by simp [go_sem])) (by simp [go_sem]) (by simp [go_sem]) (hc3) (by simp [go_sem]) (by intros; simp [go_sem]) ?_; intro l3 h3
              obtain ⟨k3, s3⟩ := h3
              repeat' (first
    | (refine awp_seqK (fun K hK => ?_))
    | (refine Hide.go (by assumption) ?_)
    | ((first | refine zqd ?_ ?_ | refine zqn ?_ ?_ | refine zgd ?_ ?_ | refine zgn ?_ ?_ | refine zdd ?_ ?_ | refine zdn ?_ ?_) <;> (intro h; first | (exfalso; omega) | (simp only [h, decide_true, decide_false, not_false_eq_true]) | skip))
    | (refine end_ret [] ?_; simp [go_sem])
    | (refine stepK_is rfl () (by simp) ?_)
    | (refine dstepK_is rfl () rfl (by simp) ?_)
    | ((fail_if_success with_reducible (refine Owe.mk ?_)); (simp (disch := omega) [go_sem]))
    | (refine And.intro (by omega) ?_)
    | (refine awp_draw 11 mix (by decide +kernel) ?_)
    | (refine awp_draw 12 mix (by decide +kernel) ?_)
    | (refine awp_draw 14 mix (by decide +kernel) ?_)
    | (refine awp_draw 15 mix (by decide +kernel) ?_)
    | (refine nbI fun bq => ?_)
    | ((first | refine zqm ?_ ?_ | refine zgm ?_ ?_ | refine zdm ?_ ?_) <;> (intro h; simp only [h, Bool.not_true, Bool.not_false]))
    | ((first | refine zqs ?_ ?_ | refine zgs ?_ ?_ | refine zds ?_ ?_) <;> (intro h; first | (exfalso; simp at h; omega) | ((try simp only [h]); (try simp at h))))
    | fail)
              all_goals (first | omega | skip)
              all_goals
                refine endL_normal ⟨220, [], [(1000, rowO eTm 2 kd l3)]⟩ [] (Le.renSub [] [] (by simp [go_sem]) (by simp [go_sem]) (Le.sub4 rfl (by simp [go_sem]))) (by simp [go_sem]) ⟨_, hf.merge (by omega) (by omega) k2 s2 k3 s3, rfl, rfl⟩
          · have s3 := r3.join_empty r4 (by omega) (by omega)
            repeat' (first
    | (refine awp_seqK (fun K hK => ?_))
    | (refine Hide.go (by assumption) ?_)
    | ((first | refine zqd ?_ ?_ | refine zqn ?_ ?_ | refine zgd ?_ ?_ | refine zgn ?_ ?_ | refine zdd ?_ ?_ | refine zdn ?_ ?_) <;> (intro h; first | (exfalso; omega) | (simp only [h, decide_true, decide_false, not_false_eq_true]) | skip))
    | (refine end_ret [] ?_; simp [go_sem])
    | (refine stepK_is rfl () (by simp) ?_)
    | (refine dstepK_is rfl () rfl (by simp) ?_)
    | ((fail_if_success with_reducible (refine Owe.mk ?_)); (simp (disch := omega) [go_sem]))
    | (refine And.intro (by omega) ?_)
    | (refine awp_draw 11 mix (by decide +kernel) ?_)
    | (refine awp_draw 12 mix (by decide +kernel) ?_)
    | (refine awp_draw 14 mix (by decide +kernel) ?_)
    | (refine awp_draw 15 mix (by decide +kernel) ?_)
    | (refine nbI fun bq => ?_)
    | ((first | refine zqm ?_ ?_ | refine zgm ?_ ?_ | refine zdm ?_ ?_) <;> (intro h; simp only [h, Bool.not_true, Bool.not_false]))
    | ((first | refine zqs ?_ ?_ | refine zgs ?_ ?_ | refine zds ?_ ?_) <;> (intro h; first | (exfalso; simp at h; omega) | ((try simp only [h]); (try simp at h))))
    | fail)
            all_goals (first | omega | skip)
            all_goals
              refine endL_normal ⟨220, [], [(1000, rowO eTm 2 kd l1)]⟩ [] (Le.renSub [] [] (by simp [go_sem]) (by simp [go_sem]) (Le.sub4 rfl (by simp [go_sem]))) (by simp [go_sem]) ⟨_, hf.merge (by omega) (by omega) k2 s2 (Keep.refl _ _ _) s3, rfl, rfl⟩
      · have hR : Rot l l i m e := by
          by_cases g : i < m
          · obtain rfl : e = m := by omega
            exact Rot.right _ _ _
          · obtain rfl : i = m := by omega
            exact Rot.left _ _ _
        have hf := hv.done hp he hb hs1 hs2 hR
        repeat' (first
    | (refine awp_seqK (fun K hK => ?_))
    | (refine Hide.go (by assumption) ?_)
    | ((first | refine zqd ?_ ?_ | refine zqn ?_ ?_ | refine zgd ?_ ?_ | refine zgn ?_ ?_ | refine zdd ?_ ?_ | refine zdn ?_ ?_) <;> (intro h; first | (exfalso; omega) | (simp only [h, decide_true, decide_false, not_false_eq_true]) | skip))
    | (refine end_ret [] ?_; simp [go_sem, he1])
    | ((fail_if_success with_reducible (refine Owe.mk ?_)); (simp (disch := omega) [go_sem, he1]))
    | (refine And.intro (by omega) ?_)
    | (refine awp_draw 11 mix (by decide +kernel) ?_)
    | (refine awp_draw 12 mix (by decide +kernel) ?_)
    | (refine awp_draw 14 mix (by decide +kernel) ?_)
    | (refine awp_draw 15 mix (by decide +kernel) ?_)
    | (refine nbI fun bq => ?_)
    | ((first | refine zqm ?_ ?_ | refine zgm ?_ ?_ | refine zdm ?_ ?_) <;> (intro h; simp only [h, Bool.not_true, Bool.not_false]))
    | ((first | refine zqs ?_ ?_ | refine zgs ?_ ?_ | refine zds ?_ ?_) <;> (intro h; first | (exfalso; simp at h; omega) | ((try simp only [h]); (try simp at h))))
    | fail)
        all_goals (first | omega | skip)
        all_goals
          have hl1 : l.length = l.length := hf.keep.len
          by_cases g2 : a < i ∧ i < mid
          · obtain ⟨g2a, g2b⟩ := g2
            have hc2 := ih l (fun x hx => hS x (hf.keep.mem.1 hx)) (by omega) a i mid (by omega) (by omega) (by omega) (by omega) hf.r1 hf.r2
            rw [hl1] at hc2
            repeat' (first
    | (refine awp_seqK (fun K hK => ?_))
    | (refine Hide.go (by assumption) ?_)
    | ((first | refine zqd ?_ ?_ | refine zqn ?_ ?_ | refine zgd ?_ ?_ | refine zgn ?_ ?_ | refine zdd ?_ ?_ | refine zdn ?_ ?_) <;> (intro h; first | (exfalso; omega) | (simp only [h, decide_true, decide_false, not_false_eq_true]) | skip))
    | (refine end_ret [] ?_; simp [go_sem])
    | (refine stepK_is rfl () (by simp) ?_)
    | (refine dstepK_is rfl () rfl (by simp) ?_)
    | ((fail_if_success with_reducible (refine Owe.mk ?_)); (simp (disch := omega) [go_sem]))
    | (refine And.intro (by omega) ?_)
    | (refine awp_draw 11 mix (by decide +kernel) ?_)
    | (refine awp_draw 12 mix (by decide +kernel) ?_)
    | (refine awp_draw 14 mix (by decide +kernel) ?_)
    | (refine awp_draw 15 mix (by decide +kernel) ?_)
    | (refine nbI fun bq => ?_)
    | ((first | refine zqm ?_ ?_ | refine zgm ?_ ?_ | refine zdm ?_ ?_) <;> (intro h; simp only [h, Bool.not_true, Bool.not_false]))
    | ((first | refine zqs ?_ ?_ | refine zgs ?_ ?_ | refine zds ?_ ?_) <;> (intro h; first | (exfalso; simp at h; omega) | ((try simp only [h]); (try simp at h))))
    | fail)
            all_goals (first | omega | skip)
            all_goals
              refine stepK_fex [] [] 10000 _ _ (Fits.mk' (by simp [go_sem]) (by simp [go_sem])) (by simp [go_sem]) (by simp [go_sem]) (hc2) (by simp [go_sem]) (by intros; simp [go_sem]) ?_; intro l2 h2
              obtain ⟨k2, s2⟩ := h2
              have r3 := hf.r3.keep k2 (.inr (Nat.le_refl _))
              have r4 := hf.r4.keep k2 (.inr (by omega))
              have hl2 : l2.length = l.length := by rw [k2.len, hf.keep.len]
              by_cases g3 : mid < e ∧ e < b
              · obtain ⟨g3a, g3b⟩ := g3
                have hc3 := ih l2 (fun x hx => hS x (hf.keep.mem.1 (k2.mem.1 hx))) (by omega) mid e b (by omega) (by omega) (by omega) (by omega) r3 r4
                rw [hl2] at hc3
                repeat' (first
    | (refine awp_seqK (fun K hK => ?_))
    | (refine Hide.go (by assumption) ?_)
    | ((first | refine zqd ?_ ?_ | refine zqn ?_ ?_ | refine zgd ?_ ?_ | refine zgn ?_ ?_ | refine zdd ?_ ?_ | refine zdn ?_ ?_) <;> (intro h; first | (exfalso; omega) | (simp only [h, decide_true, decide_false, not_false_eq_true]) | skip))
    | (refine end_ret [] ?_; simp [go_sem])
    | (refine stepK_is rfl () (by simp) ?_)
    | (refine dstepK_is rfl () rfl (by simp) ?_)
    | ((fail_if_success with_reducible (refine Owe.mk ?_)); (simp (disch := omega) [go_sem]))
    | (refine And.intro (by omega) ?_)
    | (refine awp_draw 11 mix (by decide +kernel) ?_)
    | (refine awp_draw 12 mix (by decide +kernel) ?_)
    | (refine awp_draw 14 mix (by decide +kernel) ?_)
    | (refine awp_draw 15 mix (by decide +kernel) ?_)
    | (refine nbI fun bq => ?_)
    | ((first | refine zqm ?_ ?_ | refine zgm ?_ ?_ | refine zdm ?_ ?_) <;> (intro h; simp only [h, Bool.not_true, Bool.not_false]))
    | ((first | refine zqs ?_ ?_ | refine zgs ?_ ?_ | refine zds ?_ ?_) <;> (intro h; first | (exfalso; simp at h; omega) | ((try simp only [h]); (try simp at h))))
    | fail)
                all_goals (first | omega | skip)
                all_goals
                  refine stepK_fex [] [] 10000 _ _ (Fits.mk' (by simp [go_sem]) (by simp [go_sem])) (by simp [go_sem]) (by simp [go_sem]) (hc3) (by simp [go_sem]) (by intros; simp [go_sem]) ?_; intro l3 h3
                  obtain ⟨k3, s3⟩ := h3
                  repeat' (first
    | (refine awp_seqK (fun K hK => ?_))
    | (refine Hide.go (by assumption) ?_)
    | ((first | refine zqd ?_ ?_ | refine zqn ?_ ?_ | refine zgd ?_ ?_ | refine zgn ?_ ?_ | refine zdd ?_ ?_ | refine zdn ?_ ?_) <;> (intro h; first | (exfalso; omega) | (simp only [h, decide_true, decide_false, not_false_eq_true]) | skip))
    | (refine end_ret [] ?_; simp [go_sem])
    | (refine stepK_is rfl () (by simp) ?_)
    | (refine dstepK_is rfl () rfl (by simp) ?_)
    | ((fail_if_success with_reducible (refine Owe.mk ?_)); (simp (disch := omega) [go_sem]))
    | (refine And.intro (by omega) ?_)
    | (refine awp_draw 11 mix (by decide +kernel) ?_)
    | (refine awp_draw 12 mix (by decide +kernel) ?_)
    | (refine awp_draw 14 mix (by decide +kernel) ?_)
    | (refine awp_draw 15 mix (by decide +kernel) ?_)
    | (refine nbI fun bq => ?_)
    | ((first | refine zqm ?_ ?_ | refine zgm ?_ ?_ | refine zdm ?_ ?_) <;> (intro h; simp only [h, Bool.not_true, Bool.not_false]))
    | ((first | refine zqs ?_ ?_ | refine zgs ?_ ?_ | refine zds ?_ ?_) <;> (intro h; first | (exfalso; simp at h; omega) | ((try simp only [h]); (try simp at h))))
    | fail)
                  all_goals (first | omega | skip)
                  all_goals
                    refine endL_normal ⟨220, [], [(1000, rowO eTm 2 kd l3)]⟩ [] (Le.renSub [] [] (by simp [go_sem]) (by simp [go_sem]) (Le.sub4 rfl (by simp [go_sem]))) (by simp [go_sem]) ⟨_, hf.merge (by omega) (by omega) k2 s2 k3 s3, rfl, rfl⟩
              · have s3 := r3.join_empty r4 (by omega) (by omega)
                repeat' (first
    | (refine awp_seqK (fun K hK => ?_))
    | (refine Hide.go (by assumption) ?_)
    | ((first | refine zqd ?_ ?_ | refine zqn ?_ ?_ | refine zgd ?_ ?_ | refine zgn ?_ ?_ | refine zdd ?_ ?_ | refine zdn ?_ ?_) <;> (intro h; first | (exfalso; omega) | (simp only [h, decide_true, decide_false, not_false_eq_true]) | skip))
    | (refine end_ret [] ?_; simp [go_sem])
    | (refine stepK_is rfl () (by simp) ?_)
    | (refine dstepK_is rfl () rfl (by simp) ?_)
    | ((fail_if_success with_reducible (refine Owe.mk ?_)); (simp (disch := omega) [go_sem]))
    | (refine And.intro (by omega) ?_)
    | (refine awp_draw 11 mix (by decide +kernel) ?_)
    | (refine awp_draw 12 mix (by decide +kernel) ?_)
    | (refine awp_draw 14 mix (by decide +kernel) ?_)
    | (refine awp_draw 15 mix (by decide +kernel) ?_)
    | (refine nbI fun bq => ?_)
    | ((first | refine zqm ?_ ?_ | refine zgm ?_ ?_ | refine zdm ?_ ?_) <;> (intro h; simp only [h, Bool.not_true, Bool.not_false]))
    | ((first | refine zqs ?_ ?_ | refine zgs ?_ ?_ | refine zds ?_ ?_) <;> (intro h; first | (exfalso; simp at h; omega) | ((try simp only [h]); (try simp at h))))
    | fail)
                all_goals (first | omega | skip)
                all_goals
                  refine endL_normal ⟨220, [], [(1000, rowO eTm 2 kd l2)]⟩ [] (Le.renSub [] [] (by simp [go_sem]) (by simp [go_sem]) (Le.sub4 rfl (by simp [go_sem]))) (by simp [go_sem]) ⟨_, hf.merge (by omega) (by omega) k2 s2 (Keep.refl _ _ _) s3, rfl, rfl⟩
          · have s2 := hf.r1.join_empty hf.r2 (by omega) (by omega)
            have k2 := Keep.refl l a mid
            have r3 := hf.r3.keep k2 (.inr (Nat.le_refl _))
            have r4 := hf.r4.keep k2 (.inr (by omega))
            have hl2 : l.length = l.length := by rw [k2.len, hf.keep.len]
            by_cases g3 : mid < e ∧ e < b
            · obtain ⟨g3a, g3b⟩ := g3
              have hc3 := ih l (fun x hx => hS x (hf.keep.mem.1 (k2.mem.1 hx))) (by omega) mid e b (by omega) (by omega) (by omega) (by omega) r3 r4
              rw [hl2] at hc3
              repeat' (first
    | (refine awp_seqK (fun K hK => ?_))
    | (refine Hide.go (by assumption) ?_)
    | ((first | refine zqd ?_ ?_ | refine zqn ?_ ?_ | refine zgd ?_ ?_ | refine zgn ?_ ?_ | refine zdd ?_ ?_ | refine zdn ?_ ?_) <;> (intro h; first | (exfalso; omega) | (simp only [h, decide_true, decide_false, not_false_eq_true]) | skip))
    | (refine end_ret [] ?_; simp [go_sem])
    | (refine stepK_is rfl () (by simp) ?_)
    | (refine dstepK_is rfl () rfl (by simp) ?_)
    | ((fail_if_success with_reducible (refine Owe.mk ?_)); (simp (disch := omega) [go_sem]))
    | (refine And.intro (by omega) ?_)
    | (refine awp_draw 11 mix (by decide +kernel) ?_)
    | (refine awp_draw 12 mix (by decide +kernel) ?_)
    | (refine awp_draw 14 mix (by decide +kernel) ?_)
    | (refine awp_draw 15 mix (by decide +kernel) ?_)
    | (refine nbI fun bq => ?_)
    | ((first | refine zqm ?_ ?_ | refine zgm ?_ ?_ | refine zdm ?_ ?_) <;> (intro h; simp only [h, Bool.not_true, Bool.not_false]))
    | ((first | refine zqs ?_ ?_ | refine zgs ?_ ?_ | refine zds ?_ ?_) <;> (intro h; first | (exfalso; simp at h; omega) | ((try simp only [h]); (try simp at h))))
    | fail)
              all_goals (first | omega | skip)
              all_goals
                refine stepK_fex [] [] 10000 _ _ (Fits.mk' (by simp [go_sem]) (by simp [go_sem])) (by simp [go_sem]) (by simp [go_sem]) (hc3) (by simp [go_sem]) (by intros; simp [go_sem]) ?_; intro l3 h3
                obtain ⟨k3, s3⟩ := h3
                repeat' (first
    | (refine awp_seqK (fun K hK => ?_))
    | (refine Hide.go (by assumption) ?_)
    | ((first | refine zqd ?_ ?_ | refine zqn ?_ ?_ | refine zgd ?_ ?_ | refine zgn ?_ ?_ | refine zdd ?_ ?_ | refine zdn ?_ ?_) <;> (intro h; first | (exfalso; omega) | (simp only [h, decide_true, decide_false, not_false_eq_true]) | skip))
    | (refine end_ret [] ?_; simp [go_sem])
    | (refine stepK_is rfl () (by simp) ?_)
    | (refine dstepK_is rfl () rfl (by simp) ?_)
    | ((fail_if_success with_reducible (refine Owe.mk ?_)); (simp (disch := omega) [go_sem]))
    | (refine And.intro (by omega) ?_)
    | (refine awp_draw 11 mix (by decide +kernel) ?_)
    | (refine awp_draw 12 mix (by decide +kernel) ?_)
    | (refine awp_draw 14 mix (by decide +kernel) ?_)
    | (refine awp_draw 15 mix (by decide +kernel) ?_)
    | (refine nbI fun bq => ?_)
    | ((first | refine zqm ?_ ?_ | refine zgm ?_ ?_ | refine zdm ?_ ?_) <;> (intro h; simp only [h, Bool.not_true, Bool.not_false]))
    | ((first | refine zqs ?_ ?_ | refine zgs ?_ ?_ | refine zds ?_ ?_) <;> (intro h; first | (exfalso; simp at h; omega) | ((try simp only [h]); (try simp at h))))
    | fail)
                all_goals (first | omega | skip)
                all_goals
                  refine endL_normal ⟨220, [], [(1000, rowO eTm 2 kd l3)]⟩ [] (Le.renSub [] [] (by simp [go_sem]) (by simp [go_sem]) (Le.sub4 rfl (by simp [go_sem]))) (by simp [go_sem]) ⟨_, hf.merge (by omega) (by omega) k2 s2 k3 s3, rfl, rfl⟩
            · have s3 := r3.join_empty r4 (by omega) (by omega)
              repeat' (first
    | (refine awp_seqK (fun K hK => ?_))
    | (refine Hide.go (by assumption) ?_)
    | ((first | refine zqd ?_ ?_ | refine zqn ?_ ?_ | refine zgd ?_ ?_ | refine zgn ?_ ?_ | refine zdd ?_ ?_ | refine zdn ?_ ?_) <;> (intro h; first | (exfalso; omega) | (simp only [h, decide_true, decide_false, not_false_eq_true]) | skip))
    | (refine end_ret [] ?_; simp [go_sem])
    | (refine stepK_is rfl () (by simp) ?_)
    | (refine dstepK_is rfl () rfl (by simp) ?_)
    | ((fail_if_success with_reducible (refine Owe.mk ?_)); (simp (disch := omega) [go_sem]))
    | (refine And.intro (by omega) ?_)
    | (refine awp_draw 11 mix (by decide +kernel) ?_)
    | (refine awp_draw 12 mix (by decide +kernel) ?_)
    | (refine awp_draw 14 mix (by decide +kernel) ?_)
    | (refine awp_draw 15 mix (by decide +kernel) ?_)
    | (refine nbI fun bq => ?_)
    | ((first | refine zqm ?_ ?_ | refine zgm ?_ ?_ | refine zdm ?_ ?_) <;> (intro h; simp only [h, Bool.not_true, Bool.not_false]))
    | ((first | refine zqs ?_ ?_ | refine zgs ?_ ?_ | refine zds ?_ ?_) <;> (intro h; first | (exfalso; simp at h; omega) | ((try simp only [h]); (try simp at h))))
    | fail)
              all_goals (first | omega | skip)
              all_goals
                refine endL_normal ⟨220, [], [(1000, rowO eTm 2 kd l)]⟩ [] (Le.renSub [] [] (by simp [go_sem]) (by simp [go_sem]) (Le.sub4 rfl (by simp [go_sem]))) (by simp [go_sem]) ⟨_, hf.merge (by omega) (by omega) k2 s2 (Keep.refl _ _ _) s3, rfl, rfl⟩

end Go.Proofs.Ytldecgghhaoliaa
