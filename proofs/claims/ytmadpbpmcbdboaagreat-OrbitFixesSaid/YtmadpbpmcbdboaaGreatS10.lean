import Derived.Test.YtmadpbpmcbdboaaGreatS9
import Derived.Test.YtmadpbpmcbdboaaGreatS3
import Derived.Test.YtmadpbpmcbdboaaGreatS2
import Derived.Test.YtmadpbpmcbdboaaGreatS6
import Derived.Test.YtmadpbpmcbdboaaGreatS5
import Derived.Test.YtmadpbpmcbdboaaGreatS8
set_option linter.unusedSimpArgs false
set_option linter.unusedVariables false
namespace Go.Proofs.YtmadpbpmcbdboaaGreat
open Go.Ab
set_option maxRecDepth 100000
set_option maxHeartbeats 8000000
theorem Closed1_ok (x y : List Pr) : ACall Tryz.prog 51 [eG y, .iptr true [eG x] 0 0] (fun r => r = bl (decide (x = y))) := by
  have h := EqualP_ok x y false false false false
  generalize decide (x = y) = b at *
  refine acall_of_awp Tryz.func51 Tryz.call51 rfl (by simp [Tryz.ntmps51]) ?_; simp only [Tryz.ntmps51, Tryz.results51]
  repeat' (first | (refine awK fun _ _ => ?_) | refine Hide.go (by assumption) ?_ | refine end_ret [] ?_; simp [go_sem, eG] | refine stepK_is rfl (h) (by simp) ?_ | (fail_if_success with_reducible (refine Owe.mk ?_)); (simp (disch := omega) [go_sem, eG]))
theorem IdxC_ok (l : List (List Pr)) (le fu : Bool) (z : List Pr) (cf : (List Pr) → Bool) (hcl : ∀ x ∈ l, ACall Tryz.prog 51 [eG x, .iptr true [eG z] 0 0] (fun r => r = bl (cf x))) : ACall Tryz.prog 84 [.list le fu (l.map eG), .clo 51 [.iptr true [eG z] 0 0]] (fun r => r = nt .i64 (idxB cf l)) := by
  refine ACall.bound (i := 0) rfl Tryz.call84 fun hb => ?_
  rw [List.length_map] at hb
  have hb : l.length ≤ 140737488355328 := hb
  generalize hR : idxB cf l = R
  refine acall_of_awp Tryz.func84 Tryz.call84 rfl (by simp [Tryz.ntmps84]) ?_; simp only [Tryz.ntmps84, Tryz.results84]
  repeat' (first | (refine awK fun _ _ => ?_) | refine Hide.go (by assumption) ?_ | (fail_if_success with_reducible (refine Owe.mk ?_)); (simp (disch := omega) [go_sem]))
  refine awp_for [0, 1, 7] [] (fun i : Nat => [(8, nt .i64 i)]) (fun i : Nat => []) (fun i : Nat => l.length - i) (fun i : Nat => i ≤ l.length ∧ ∀ (k : Nat) (hk : k < l.length), k < i → cf l[k] = false) (0) (Le.sub4 rfl (by simp [go_sem])) ⟨?_⟩ ?_
  · exact ⟨Nat.zero_le _, fun k _ hk => absurd hk (Nat.not_lt_zero _)⟩
  intro i ⟨hi, hn⟩ AA hAA; simp only [kL, Nat.reduceBEq, Nat.reduceEqDiff, if_true, if_false, List.cons_append, List.nil_append, List.append_nil]
  by_cases hlt : i < l.length
  · have hu := hcl l[i] (List.getElem_mem hlt)
    try unfold eG at hu
    cases hq : cf l[i]
    · rw [hq] at hu
      repeat' (first | (refine awK fun _ _ => ?_) | refine Hide.go (by assumption) ?_ | refine stepK_is rfl (hu) (by simp) ?_ | refine (hAA.next (i + 1) (Le.sub4 rfl (by simp [go_sem])) (by (try dsimp only); omega) ?_) | (fail_if_success with_reducible (refine Owe.mk ?_)); (simp (disch := omega) [go_sem, hlt, eG]))
      all_goals (first | omega | skip)
      exact ⟨hlt, fun k hk hki => by rcases Nat.lt_or_eq_of_le (Nat.le_of_lt_succ hki) with h | rfl; exact hn k hk h; exact hq⟩
    · have he := idxB_at hlt hq hn
      rw [hR] at he
      subst he
      rw [hq] at hu
      repeat' (first | (refine awK fun _ _ => ?_) | refine Hide.go (by assumption) ?_ | refine end_ret [] ?_; simp [go_sem, hlt, eG] | refine stepK_is rfl (hu) (by simp) ?_ | (fail_if_success with_reducible (refine Owe.mk ?_)); (simp (disch := omega) [go_sem, hlt, eG]))
  · obtain rfl : i = l.length := by omega
    have he := idxB_none hn
    rw [hR] at he
    subst he
    repeat' (first | (refine awK fun _ _ => ?_) | refine Hide.go (by assumption) ?_ | refine end_ret [] ?_; simp [go_sem] | (fail_if_success with_reducible (refine Owe.mk ?_)); (simp (disch := omega) [go_sem]))
theorem ConC_ok (l : List (List Pr)) (le fu : Bool) (z : List Pr) (cf : (List Pr) → Bool) (hcl : ∀ x ∈ l, ACall Tryz.prog 51 [eG x, .iptr true [eG z] 0 0] (fun r => r = bl (cf x))) : ACall Tryz.prog 45 [.list le fu (l.map eG), .clo 51 [.iptr true [eG z] 0 0]] (fun r => r = bl (l.any cf)) := by
  have h := IdxC_ok l le fu z cf hcl
  have e := idxB_any (cf := cf) (l := l)
  generalize idxB cf l = x at *
  generalize l.any cf = b at *
  refine acall_of_awp Tryz.func45 Tryz.call45 rfl (by simp [Tryz.ntmps45]) ?_; simp only [Tryz.ntmps45, Tryz.results45]
  cases b
  · have e : ¬ 0 ≤ x := fun h => by have := e.1 h; cases this
    repeat' (first | (refine awK fun _ _ => ?_) | refine Hide.go (by assumption) ?_ | refine end_ret [] ?_; simp [go_sem, e] | refine stepK_is rfl (h) (by simp) ?_ | (fail_if_success with_reducible (refine Owe.mk ?_)); (simp (disch := omega) [go_sem, e]))
  · have e : 0 ≤ x := e.2 rfl
    repeat' (first | (refine awK fun _ _ => ?_) | refine Hide.go (by assumption) ?_ | refine end_ret [] ?_; simp [go_sem, e] | refine stepK_is rfl (h) (by simp) ?_ | (fail_if_success with_reducible (refine Owe.mk ?_)); (simp (disch := omega) [go_sem, e]))
def cl2 (g : List (List Pr)) (p : List Pr) : Bool := validP p && decide (p.map Pr.fr = (g.getD 0 []).map Pr.fr)
def cl3 (g : List (List Pr)) (p q : List Pr) : Bool := match cmpF p q with
  | some x => g.any fun y => decide (x = y)
  | none => false
def closedF (g : List (List Pr)) : Bool := g.any idB && (g.all (cl2 g) && g.all fun p => g.all (cl3 g p))
theorem all_bad {α : Type} {f : α → Bool} {l : List α} {i : Nat} (h : i < l.length) (hf : f l[i] = false) : l.all f = false := by
  rw [List.all_eq_false]
  exact ⟨l[i], List.getElem_mem h, by simp [hf]⟩
theorem all_good {α : Type} {f : α → Bool} {l : List α} (h : ∀ (i : Nat) (hi : i < l.length), i < l.length → f l[i] = true) : l.all f = true := by
  rw [List.all_eq_true]
  intro x hx
  obtain ⟨i, hi, rfl⟩ := List.mem_iff_getElem.1 hx
  exact h i hi hi
theorem all_step {α : Type} {f : α → Bool} {l : List α} {i : Nat} (h : ∀ (k : Nat) (hk : k < l.length), k < i → f l[k] = true) (hi : i < l.length) (hf : f l[i] = true) : ∀ (k : Nat) (hk : k < l.length), k < i + 1 → f l[k] = true := fun k hk hki => by
  rcases Nat.lt_or_eq_of_le (Nat.le_of_lt_succ hki) with h' | rfl
  · exact h k hk h'
  · exact hf
theorem Closed_ok (g : List (List Pr)) (le fu : Bool) (hb : g.length ≤ 1000000) (hg : ∀ p ∈ g, p.length ≤ 1000000) : ACall Tryz.prog 22 [.list le fu (g.map eG)] (fun r => r = bl (closedF g)) := by
  have hid := ConIdG_ok g le fu idB (fun x _ => identity_ok x)
  generalize hV : closedF g = V
  cases h1 : g.any idB
  · rw [h1] at hid
    have hV0 : V = false := by rw [← hV]; unfold closedF; rw [h1]; rfl
    subst hV0
    refine acall_of_awp Tryz.func22 Tryz.call22 rfl (by simp [Tryz.ntmps22]) ?_; simp only [Tryz.ntmps22, Tryz.results22]
    repeat' (first | (refine awK fun _ _ => ?_) | refine Hide.go (by assumption) ?_ | refine end_ret [] ?_; simp [go_sem, eG] | refine stepK_is rfl (hid) (by simp) ?_ | (fail_if_success with_reducible (refine Owe.mk ?_)); (simp (disch := omega) [go_sem, eG]))
  · rw [h1] at hid
    have hg0 : 0 < g.length := by
      cases g with
      | nil => simp at h1
      | cons => simp
    have hgd : g.getD 0 [] = g[0] := by rw [List.getD_eq_getElem?_getD, List.getElem?_eq_getElem hg0, Option.getD_some]
    have hc0 := (constants_ok g[0] false false (hg _ (List.getElem_mem hg0))).frz
    refine acall_of_awp Tryz.func22 Tryz.call22 rfl (by simp [Tryz.ntmps22]) ?_; simp only [Tryz.ntmps22, Tryz.results22]
    repeat' (first | (refine awK fun _ _ => ?_) | refine Hide.go (by assumption) ?_ | refine stepK_is rfl (hid) (by simp) ?_ | (fail_if_success with_reducible (refine Owe.mk ?_)); (simp (disch := omega) [go_sem, eG]))
    refine awp_for [0, 14, 15] [] (fun i : Nat => [(16, nt .i64 i)]) (fun i : Nat => []) (fun i : Nat => g.length - i) (fun i : Nat => i ≤ g.length ∧ ∀ (k : Nat) (hk : k < g.length), k < i → cl2 g g[k] = true) (0) (Le.sub4 rfl (by simp [go_sem])) ⟨?_⟩ ?_
    · exact ⟨Nat.zero_le _, fun k _ hk => absurd hk (Nat.not_lt_zero _)⟩
    intro i ⟨hi, hok⟩ AA hAA; simp only [kL, Nat.reduceBEq, Nat.reduceEqDiff, if_true, if_false, List.cons_append, List.nil_append, List.append_nil]
    by_cases hlt : i < g.length
    · have hbi := hg _ (List.getElem_mem hlt)
      have hv := Valid29_ok g[i] false false hbi
      have hc := (constants_ok g[i] false false hbi).frz
      have he := EqualS_ok (g[i].map Pr.fr) (g[0].map Pr.fr) false false false false
      have hcl : cl2 g g[i] = (validP g[i] && decide (g[i].map Pr.fr = g[0].map Pr.fr)) := by unfold cl2; rw [hgd]
      have hstep := all_step hok hlt
      have hbad : cl2 g g[i] = false → V = false := fun h => by
        rw [← hV]; unfold closedF; rw [h1, all_bad hlt h]; rfl
      rw [hcl] at hstep hbad
      generalize decide (g[i].map Pr.fr = g[0].map Pr.fr) = e at *
      generalize g[i].map Pr.fr = A at *
      generalize g[0].map Pr.fr = B at *
      cases hvi : validP g[i]
      · rw [hvi] at hv
        have hV0 := hbad (by rw [hvi]; rfl)
        subst hV0
        repeat' (first | (refine awK fun _ _ => ?_) | refine Hide.go (by assumption) ?_ | refine end_ret [] ?_; simp [go_sem, hlt, hg0, eG] | refine dstepK_is rfl (hv) rfl (by simp) ?_ | (fail_if_success with_reducible (refine Owe.mk ?_)); (simp (disch := omega) [go_sem, hlt, hg0, eG]) | refine awp_draw 13 mix (by decide +kernel) ?_)
      · rw [hvi] at hv
        cases e
        · have hV0 := hbad (by rw [hvi]; rfl)
          subst hV0
          repeat' (first | (refine awK fun _ _ => ?_) | refine Hide.go (by assumption) ?_ | refine end_ret [] ?_; simp [go_sem, hlt, hg0, eG] | refine dstepK_is rfl (hv) rfl (by simp) ?_ | refine dstepK_is rfl (hc) rfl (by simp) ?_ | refine dstepK_is rfl (hc0) rfl (by simp) ?_ | refine dstepK_is rfl (he) rfl (by simp) ?_ | (fail_if_success with_reducible (refine Owe.mk ?_)); (simp (disch := omega) [go_sem, hlt, hg0, eG]) | refine awp_draw 13 mix (by decide +kernel) ?_)
        · have hst := hstep (by rw [hvi]; rfl)
          repeat' (first | (refine awK fun _ _ => ?_) | refine Hide.go (by assumption) ?_ | refine dstepK_is rfl (hv) rfl (by simp) ?_ | refine dstepK_is rfl (hc) rfl (by simp) ?_ | refine dstepK_is rfl (hc0) rfl (by simp) ?_ | refine dstepK_is rfl (he) rfl (by simp) ?_ | refine (hAA.next (i + 1) (Le.sub4 rfl (by simp [go_sem])) (by (try dsimp only); omega) ?_) | (fail_if_success with_reducible (refine Owe.mk ?_)); (simp (disch := omega) [go_sem, hlt, hg0, eG]) | refine awp_draw 13 mix (by decide +kernel) ?_)
          all_goals (first | omega | skip)
          all_goals exact ⟨hlt, hst⟩
    · obtain rfl : i = g.length := by omega
      have h2 : g.all (cl2 g) = true := all_good hok
      repeat' (first | (refine awK fun _ _ => ?_) | refine Hide.go (by assumption) ?_ | (fail_if_success with_reducible (refine Owe.mk ?_)); (simp (disch := omega) [go_sem]))
      refine awp_for [0, 34, 35] [] (fun i : Nat => [(36, nt .i64 i)]) (fun i : Nat => []) (fun i : Nat => g.length - i) (fun i : Nat => i ≤ g.length ∧ ∀ (k : Nat) (hk : k < g.length), k < i → (g.all (cl3 g g[k])) = true) (0) (Le.sub4 rfl (by simp [go_sem])) ⟨?_⟩ ?_
      · exact ⟨Nat.zero_le _, fun k _ hk => absurd hk (Nat.not_lt_zero _)⟩
      intro i ⟨hi, hok3⟩ AA hAA; simp only [kL, Nat.reduceBEq, Nat.reduceEqDiff, if_true, if_false, List.cons_append, List.nil_append, List.append_nil]
      by_cases hlt : i < g.length
      · have hAB := hAA
        repeat' (first | (refine awK fun _ _ => ?_) | refine Hide.go (by assumption) ?_ | (fail_if_success with_reducible (refine Owe.mk ?_)); (simp (disch := omega) [go_sem, hlt, eG]))
        refine awp_for [0, 6, 34, 35, 36, 40, 41] [] (fun j : Nat => [(42, nt .i64 j)]) (fun j : Nat => []) (fun j : Nat => g.length - j) (fun j : Nat => j ≤ g.length ∧ ∀ (k : Nat) (hk : k < g.length), k < j → cl3 g g[i] g[k] = true) (0) (Le.sub4 rfl (by simp [go_sem])) ⟨?_⟩ ?_
        · exact ⟨Nat.zero_le _, fun k _ hk => absurd hk (Nat.not_lt_zero _)⟩
        intro j ⟨hj, hok4⟩ AA hAA; simp only [kL, Nat.reduceBEq, Nat.reduceEqDiff, if_true, if_false, List.cons_append, List.nil_append, List.append_nil]
        by_cases hlj : j < g.length
        · have hcm := Compose_ok g[i] g[j] false false false false (hg _ (List.getElem_mem hlt)) (hg _ (List.getElem_mem hlj))
          have hstep := all_step hok4 hlj
          have hbad : cl3 g g[i] g[j] = false → V = false := fun h => by
            rw [← hV]; unfold closedF
            have : (g.all fun p => g.all (cl3 g p)) = false := all_bad hlt (all_bad hlj h)
            rw [h1, h2, this]; rfl
          unfold cl3 at hbad
          cases hcf : cmpF g[i] g[j] with
          | none =>
            rw [hcf] at hcm hbad
            have hV0 := hbad rfl
            subst hV0
            repeat' (first | (refine awK fun _ _ => ?_) | refine Hide.go (by assumption) ?_ | refine end_ret [] ?_; simp [go_sem, hlt, hlj, eG, prmV] | refine stepK_is rfl (hcm) (by simp) ?_ | (fail_if_success with_reducible (refine Owe.mk ?_)); (simp (disch := omega) [go_sem, hlt, hlj, eG, prmV]))
          | some x =>
            have hcl : cl3 g g[i] g[j] = g.any fun y => decide (x = y) := by unfold cl3; rw [hcf]
            rw [hcl] at hstep
            rw [hcf] at hcm hbad
            dsimp only at hbad
            have hcon := ConC_ok g le fu x (fun y => decide (x = y)) (fun y _ => Closed1_ok x y)
            generalize (g.any fun y => decide (x = y)) = b at *
            cases b
            · have hV0 := hbad rfl
              subst hV0
              repeat' (first | (refine awK fun _ _ => ?_) | refine Hide.go (by assumption) ?_ | refine end_ret [] ?_; simp [go_sem, hlt, hlj, eG, prmV] | refine stepK_is rfl (hcm) (by simp) ?_ | refine stepK_is rfl (hcon) (by simp) ?_ | (fail_if_success with_reducible (refine Owe.mk ?_)); (simp (disch := omega) [go_sem, hlt, hlj, eG, prmV]))
            · have hst := hstep rfl
              repeat' (first | (refine awK fun _ _ => ?_) | refine Hide.go (by assumption) ?_ | refine stepK_is rfl (hcm) (by simp) ?_ | refine stepK_is rfl (hcon) (by simp) ?_ | refine (hAA.next (j + 1) (Le.sub4 rfl (by simp [go_sem])) (by (try dsimp only); omega) ?_) | (fail_if_success with_reducible (refine Owe.mk ?_)); (simp (disch := omega) [go_sem, hlt, hlj, eG, prmV]))
              all_goals (first | omega | skip)
              all_goals exact ⟨hlj, hst⟩
        · obtain rfl : j = g.length := by omega
          have hst := all_step (f := fun p => g.all (cl3 g p)) hok3 hlt (all_good hok4)
          repeat' (first | (refine awK fun _ _ => ?_) | refine Hide.go (by assumption) ?_ | refine (hAB.next (i + 1) (Le.sub4 rfl (by simp [go_sem])) (by (try dsimp only); omega) ?_) | (fail_if_success with_reducible (refine Owe.mk ?_)); (simp (disch := omega) [go_sem]))
          all_goals (first | omega | skip)
          all_goals exact ⟨hlt, hst⟩
      · obtain rfl : i = g.length := by omega
        have h3 : (g.all fun p => g.all (cl3 g p)) = true := all_good (f := fun p => g.all (cl3 g p)) hok3
        have hV1 : V = true := by rw [← hV]; unfold closedF; rw [h1, h2, h3]; rfl
        subst hV1
        repeat' (first | (refine awK fun _ _ => ?_) | refine Hide.go (by assumption) ?_ | refine end_ret [] ?_; simp [go_sem] | (fail_if_success with_reducible (refine Owe.mk ?_)); (simp (disch := omega) [go_sem]))
theorem same30_ok (a b : List Pr) (le fu le' fu' : Bool) : ACall Tryz.prog 93 [.list le fu (a.map ePr), .list le' fu' (b.map ePr)] (fun r => r = bl (decide (a = b))) := by
  refine ACall.bound (i := 0) rfl Tryz.call93 fun hb => ?_
  rw [List.length_map] at hb
  have hb : a.length ≤ 140737488355328 := hb
  by_cases h0 : a.length = b.length
  · generalize hR : decide (a = b) = R
    have h0' : ¬ (a.length : Int) ≠ b.length := by omega
    refine acall_of_awp Tryz.func93 Tryz.call93 rfl (by simp [Tryz.ntmps93]) ?_; simp only [Tryz.ntmps93, Tryz.results93]
    repeat' (first | (refine awK fun _ _ => ?_) | refine Hide.go (by assumption) ?_ | (fail_if_success with_reducible (refine Owe.mk ?_)); (simp (disch := omega) [go_sem, h0]))
    all_goals (first | (exfalso; omega) | skip)
    refine awp_for [0, 1] [] (fun i : Nat => [(5, nt .i64 i)]) (fun i : Nat => []) (fun i : Nat => b.length - i) (fun i : Nat => i ≤ b.length ∧ ∀ (k : Nat) (hk : k < a.length) (hk' : k < b.length), k < i → a[k] = b[k]) (0) (Le.sub4 rfl (by simp [go_sem])) ⟨?_⟩ ?_
    · exact ⟨Nat.zero_le _, fun k _ _ hk => absurd hk (Nat.not_lt_zero _)⟩
    intro i ⟨hi, hn⟩ AA hAA; simp only [kL, Nat.reduceBEq, Nat.reduceEqDiff, if_true, if_false, List.cons_append, List.nil_append, List.append_nil]
    by_cases hlt : i < b.length
    · have hla : i < a.length := by omega
      by_cases hq : a[i] = b[i]
      · repeat' (first | (refine awK fun _ _ => ?_) | refine Hide.go (by assumption) ?_ | refine (hAA.next (i + 1) (Le.sub4 rfl (by simp [go_sem])) (by (try dsimp only); omega) ?_) | (fail_if_success with_reducible (refine Owe.mk ?_)); (simp (disch := omega) [go_sem, hlt, hla, ePr, hq]) | refine awp_draw 9 mix (by decide +kernel) ?_)
        all_goals (first | omega | skip)
        all_goals exact ⟨hlt, fun k hk hk' hki => by rcases Nat.lt_or_eq_of_le (Nat.le_of_lt_succ hki) with h | rfl; exact hn k hk hk' h; exact hq⟩
      · have hu : R = false := by
          rw [← hR, decide_eq_false_iff_not]
          intro h
          apply hq
          simp only [h]
        subst hu
        have hqq := pr_ne hq
        repeat' (first | (refine awK fun _ _ => ?_) | refine Hide.go (by assumption) ?_ | refine end_ret [] ?_; simp [go_sem, hlt, hla, ePr, hq, hqq] | (fail_if_success with_reducible (refine Owe.mk ?_)); (simp (disch := omega) [go_sem, hlt, hla, ePr, hq, hqq]) | refine awp_draw 9 mix (by decide +kernel) ?_)
    · obtain rfl : i = b.length := by omega
      have hu : R = true := by
        rw [← hR, decide_eq_true_eq]
        exact List.ext_getElem h0 fun k h1 h2 => hn k h1 h2 h2
      subst hu
      repeat' (first | (refine awK fun _ _ => ?_) | refine Hide.go (by assumption) ?_ | refine zqd ?_ ?_ <;> (intro h; first | (exfalso; omega) | (simp only [h, decide_true, decide_false, not_false_eq_true])) | refine end_ret [] ?_; simp [go_sem] | (fail_if_success with_reducible (refine Owe.mk ?_)); (simp (disch := omega) [go_sem]))
  · rw [decide_eq_false (fun h => h0 (by rw [h]))]
    refine acall_of_awp Tryz.func93 Tryz.call93 rfl (by simp [Tryz.ntmps93]) ?_; simp only [Tryz.ntmps93, Tryz.results93]
    repeat' (first | (refine awK fun _ _ => ?_) | refine Hide.go (by assumption) ?_ | refine zqn ?_ ?_ <;> (intro h; first | (exfalso; omega) | (simp only [h, decide_true, decide_false, not_false_eq_true])) | refine end_ret [] ?_; simp [go_sem, h0] | (fail_if_success with_reducible (refine Owe.mk ?_)); (simp (disch := omega) [go_sem, h0]))
    all_goals (first | (exfalso; omega) | skip)
theorem member_ok (g : List (List Pr)) (p : List Pr) (le fu lp fp : Bool) (hb : g.length ≤ 1000000) : ACall Tryz.prog 54 [.list le fu (g.map eG), .list lp fp (p.map ePr)] (fun r => r = bl (g.any fun y => decide (y = p))) := by
  generalize hV : (g.any fun y => decide (y = p)) = V
  refine acall_of_awp Tryz.func54 Tryz.call54 rfl (by simp [Tryz.ntmps54]) ?_; simp only [Tryz.ntmps54, Tryz.results54]
  repeat' (first | (refine awK fun _ _ => ?_) | refine Hide.go (by assumption) ?_ | (fail_if_success with_reducible (refine Owe.mk ?_)); (simp (disch := omega) [go_sem]))
  refine awp_for [0, 1] [] (fun i : Nat => [(5, nt .i64 i)]) (fun i : Nat => []) (fun i : Nat => g.length - i) (fun i : Nat => i ≤ g.length ∧ ∀ (k : Nat) (hk : k < g.length), k < i → ¬ g[k] = p) (0) (Le.sub4 rfl (by simp [go_sem])) ⟨?_⟩ ?_
  · exact ⟨Nat.zero_le _, fun k _ hk => absurd hk (Nat.not_lt_zero _)⟩
  intro i ⟨hi, hn⟩ AA hAA; simp only [kL, Nat.reduceBEq, Nat.reduceEqDiff, if_true, if_false, List.cons_append, List.nil_append, List.append_nil]
  by_cases hlt : i < g.length
  · have hs := same30_ok g[i] p false false lp fp
    by_cases hq : g[i] = p
    · rw [decide_eq_true hq] at hs
      have hV1 : V = true := by
        rw [← hV, List.any_eq_true]
        exact ⟨g[i], List.getElem_mem hlt, by simp [hq]⟩
      subst hV1
      repeat' (first | (refine awK fun _ _ => ?_) | refine Hide.go (by assumption) ?_ | refine end_ret [] ?_; simp [go_sem, hlt, eG] | refine stepK_is rfl (hs) (by simp) ?_ | (fail_if_success with_reducible (refine Owe.mk ?_)); (simp (disch := omega) [go_sem, hlt, eG]))
    · rw [decide_eq_false hq] at hs
      repeat' (first | (refine awK fun _ _ => ?_) | refine Hide.go (by assumption) ?_ | refine stepK_is rfl (hs) (by simp) ?_ | refine (hAA.next (i + 1) (Le.sub4 rfl (by simp [go_sem])) (by (try dsimp only); omega) ?_) | (fail_if_success with_reducible (refine Owe.mk ?_)); (simp (disch := omega) [go_sem, hlt, eG]))
      all_goals (first | omega | skip)
      exact ⟨hlt, fun k hk hki => by rcases Nat.lt_or_eq_of_le (Nat.le_of_lt_succ hki) with h | rfl; exact hn k hk h; exact hq⟩
  · obtain rfl : i = g.length := by omega
    have hV0 : V = false := by
      rw [← hV, List.any_eq_false]
      intro y hy
      obtain ⟨k, hk, rfl⟩ := List.mem_iff_getElem.1 hy
      simpa using hn k hk hk
    subst hV0
    repeat' (first | (refine awK fun _ _ => ?_) | refine Hide.go (by assumption) ?_ | refine end_ret [] ?_; simp [go_sem] | (fail_if_success with_reducible (refine Owe.mk ?_)); (simp (disch := omega) [go_sem]))
def oneP (x : Pr) : Pr := ⟨x.fr, x.fr⟩
theorem any_comm (g : List (List Pr)) (x : List Pr) : (g.any fun y => decide (y = x)) = g.any fun y => decide (x = y) := by
  congr 1
  funext y
  exact decide_eq_decide.2 eq_comm
theorem cmpF_spec {p q x : List Pr} (h : cmpF p q = some x) : validP p = true ∧ validP q = true ∧ p.map Pr.fr = q.map Pr.fr := by
  unfold cmpF at h
  split at h
  · assumption
  · cases h
theorem idB_iff {p : List Pr} : idB p = true ↔ p = p.map oneP := by
  unfold idB
  rw [Bool.not_eq_true', List.any_eq_false]
  constructor
  · intro h
    refine (List.map_id p).symm.trans (List.map_congr_left fun x hx => ?_)
    have := h x hx
    simp at this
    obtain ⟨a, b⟩ := x
    simp at this
    subst this
    rfl
  · intro h x hx
    obtain ⟨i, hi, rfl⟩ := List.mem_iff_getElem.1 hx
    have e : p[i]? = (p.map oneP)[i]? := by rw [← h]
    rw [List.getElem?_map, List.getElem?_eq_getElem hi] at e
    simp [oneP] at e
    have := congrArg Pr.to e
    simp at this
    simp [this]
theorem oneP_map {p q : List Pr} (h : p.map Pr.fr = q.map Pr.fr) : p.map oneP = q.map oneP := by
  have e : ∀ l : List Pr, l.map oneP = (l.map Pr.fr).map fun s => (⟨s, s⟩ : Pr) := fun l => by rw [List.map_map]; rfl
  rw [e, e, h]
theorem closedF_iff (g : List (List Pr)) (hg : 0 < g.length) : closedF g = (validP g[0] && ((g.all fun p => g.all (cl3 g p)) && g.any fun y => decide (y = g[0].map oneP))) := by
  have hgd : g.getD 0 [] = g[0] := by rw [List.getD_eq_getElem?_getD, List.getElem?_eq_getElem hg, Option.getD_some]
  have m0 : g[0] ∈ g := List.getElem_mem hg
  have key : closedF g = true ↔ (validP g[0] && ((g.all fun p => g.all (cl3 g p)) && g.any fun y => decide (y = g[0].map oneP))) = true := by
    unfold closedF
    simp only [Bool.and_eq_true]
    constructor
    · rintro ⟨h1, h2, h3⟩
      have h2' : ∀ p ∈ g, validP p = true ∧ p.map Pr.fr = g[0].map Pr.fr := fun p hp => by
        have := List.all_eq_true.1 h2 p hp
        unfold cl2 at this
        rw [hgd, Bool.and_eq_true, decide_eq_true_eq] at this
        exact this
      refine ⟨(h2' _ m0).1, h3, ?_⟩
      obtain ⟨y, hy, hid⟩ := List.any_eq_true.1 h1
      refine List.any_eq_true.2 ⟨y, hy, ?_⟩
      rw [decide_eq_true_eq, idB_iff.1 hid]
      exact oneP_map (h2' y hy).2
    · rintro ⟨h1, h3, h4⟩
      have h2' : ∀ p ∈ g, validP p = true ∧ p.map Pr.fr = g[0].map Pr.fr := fun p hp => by
        have := List.all_eq_true.1 (List.all_eq_true.1 h3 p hp) g[0] m0
        unfold cl3 at this
        split at this
        · rename_i x hx
          obtain ⟨e1, e2, e3⟩ := cmpF_spec hx
          exact ⟨e1, e3⟩
        · cases this
      obtain ⟨y, hy, he⟩ := List.any_eq_true.1 h4
      rw [decide_eq_true_eq] at he
      refine ⟨List.any_eq_true.2 ⟨y, hy, idB_iff.2 ?_⟩, List.all_eq_true.2 fun p hp => ?_, h3⟩
      · rw [he, List.map_map]; rfl
      · unfold cl2
        rw [hgd, Bool.and_eq_true, decide_eq_true_eq]
        exact h2' p hp
  cases h1 : closedF g <;> cases h2 : (validP g[0] && ((g.all fun p => g.all (cl3 g p)) && g.any fun y => decide (y = g[0].map oneP)))
  · rfl
  · rw [key.2 h2] at h1; cases h1
  · rw [key.1 h1] at h2; cases h2
  · rfl
theorem one_next {p : List Pr} {i : Nat} (h : i < p.length) : (p.take (i + 1)).map oneP = (p.take i).map oneP ++ [⟨p[i].fr, p[i].fr⟩] := by
  rw [take_next h, List.map_append]; rfl
theorem refClosed_ok (g : List (List Pr)) (le fu : Bool) (hb : g.length ≤ 1000000) (hg : ∀ p ∈ g, p.length ≤ 1000000) : ACall Tryz.prog 23 [.list le fu (g.map eG)] (fun r => r = bl (closedF g)) := by
  by_cases hg0 : 0 < g.length
  · have hcl := closedF_iff g hg0
    have hb0 := hg _ (List.getElem_mem hg0)
    have hv0 := refValid_ok g[0] false false hb0
    have hgz : ¬ (g.length : Int) = 0 := by omega
    have hgz' : ¬ g.length = 0 := by omega
    generalize closedF g = V at *
    cases hv : validP g[0]
    · rw [hv] at hv0 hcl
      simp only [Bool.false_and] at hcl
      subst hcl
      refine acall_of_awp Tryz.func23 Tryz.call23 rfl (by simp [Tryz.ntmps23]) ?_; simp only [Tryz.ntmps23, Tryz.results23]
      repeat' (first | (refine awK fun _ _ => ?_) | refine Hide.go (by assumption) ?_ | refine end_ret [] ?_; simp [go_sem, hg0, hgz, hgz', eG] | refine stepK_is rfl (hv0) (by simp) ?_ | (fail_if_success with_reducible (refine Owe.mk ?_)); (simp (disch := omega) [go_sem, hg0, hgz, hgz', eG]))
    · rw [hv] at hv0 hcl
      simp only [Bool.true_and] at hcl
      have hz : (g[0].take 0).map oneP = [] := by simp
      have hmem := member_ok g (g[0].map oneP) le fu true false hb
      generalize hq0 : g[0] = q at *
      refine acall_of_awp Tryz.func23 Tryz.call23 rfl (by simp [Tryz.ntmps23]) ?_; simp only [Tryz.ntmps23, Tryz.results23]
      repeat' (first | (refine awK fun _ _ => ?_) | refine Hide.go (by assumption) ?_ | refine stepK_is rfl (hv0) (by simp) ?_ | (fail_if_success with_reducible (refine Owe.mk ?_)); (simp (disch := omega) [go_sem, hg0, hgz, hgz', eG, hq0]))
      refine awp_for [0] [900] (fun i : Nat => [(4, nt .i64 i), (3, .ref 900 0 i)]) (fun i : Nat => [(900, ⟨true, false, false, 2, ((q.take i).map oneP).map ePr, 0⟩)]) (fun i : Nat => q.length - i) (fun i : Nat => i ≤ q.length) (0) (by refine Le.trans ?_ (Le.nil (i := 3) (T := 900) (es := 2) rfl); exact (Le.sub4 rfl (by simp [go_sem, hz, List.take_zero, List.map_nil]))) ⟨?_⟩ ?_
      · exact Nat.zero_le _
      intro i hi AA hAA; simp only [kL, Nat.reduceBEq, Nat.reduceEqDiff, if_true, if_false, List.cons_append, List.nil_append, List.append_nil]
      by_cases hlt : i < q.length
      · have hnx := one_next hlt
        have hln : ((q.take i).map oneP).length = i := by simp; omega
        generalize (q.take i).map oneP = A at *
        repeat' (first | (refine awK fun _ _ => ?_) | refine Hide.go (by assumption) ?_ | refine (hAA.next (i + 1) (Le.sub4 rfl (by simp [go_sem, hnx, hln])) (by (try dsimp only); omega) ?_) | (fail_if_success with_reducible (refine Owe.mk ?_)); (simp (disch := omega) [go_sem, hg0, hq0, eG, hlt, hln]) | refine And.intro (by omega) ?_ | refine awp_draw 16 mix (by decide +kernel) ?_)
        all_goals (first | omega | skip)
        all_goals exact ⟨hlt⟩
      · obtain rfl : i = q.length := by omega
        rw [List.take_length]
        have hol : (q.map oneP).length = q.length := by simp
        generalize q.map oneP = O at *
        generalize hmm : (g.any fun y => decide (y = O)) = m at *
        repeat' (first | (refine awK fun _ _ => ?_) | refine Hide.go (by assumption) ?_ | (fail_if_success with_reducible (refine Owe.mk ?_)); (simp (disch := omega) [go_sem, hg0, hq0, eG]))
        refine awp_for [0, 3] [900] (fun i : Nat => [(5, nt .i64 i)]) (fun i : Nat => [(900, ⟨true, false, false, 2, O.map ePr, 0⟩)]) (fun i : Nat => g.length - i) (fun i : Nat => i ≤ g.length ∧ ∀ (k : Nat) (hk : k < g.length), k < i → (g.all (cl3 g g[k])) = true) (0) (Le.sub4 rfl (by simp [go_sem])) ⟨?_⟩ ?_
        · exact ⟨Nat.zero_le _, fun k _ hk => absurd hk (Nat.not_lt_zero _)⟩
        intro i ⟨hi', hok3⟩ AA hAA; simp only [kL, Nat.reduceBEq, Nat.reduceEqDiff, if_true, if_false, List.cons_append, List.nil_append, List.append_nil]
        by_cases hlt' : i < g.length
        · have hAB := hAA
          repeat' (first | (refine awK fun _ _ => ?_) | refine Hide.go (by assumption) ?_ | (fail_if_success with_reducible (refine Owe.mk ?_)); (simp (disch := omega) [go_sem, hlt', eG]))
          refine awp_for [0, 3, 5] [900] (fun j : Nat => [(6, nt .i64 j)]) (fun j : Nat => [(900, ⟨true, false, false, 2, O.map ePr, 0⟩)]) (fun j : Nat => g.length - j) (fun j : Nat => j ≤ g.length ∧ ∀ (k : Nat) (hk : k < g.length), k < j → cl3 g g[i] g[k] = true) (0) (Le.sub4 rfl (by simp [go_sem])) ⟨?_⟩ ?_
          · exact ⟨Nat.zero_le _, fun k _ hk => absurd hk (Nat.not_lt_zero _)⟩
          intro j ⟨hj, hok4⟩ AA hAA; simp only [kL, Nat.reduceBEq, Nat.reduceEqDiff, if_true, if_false, List.cons_append, List.nil_append, List.append_nil]
          by_cases hlj : j < g.length
          · have hcm := refCompose_ok g[i] g[j] false false false false (hg _ (List.getElem_mem hlt')) (hg _ (List.getElem_mem hlj))
            have hstep := all_step hok4 hlj
            have hbad : cl3 g g[i] g[j] = false → V = false := fun h => by
              rw [hcl]
              have : (g.all fun p => g.all (cl3 g p)) = false := all_bad hlt' (all_bad hlj h)
              rw [this]; rfl
            unfold cl3 at hbad
            cases hcf : cmpF g[i] g[j] with
            | none =>
              rw [hcf] at hcm hbad
              have hV0 := hbad rfl
              clear hbad
              clear hcl
              subst hV0
              repeat' (first | (refine awK fun _ _ => ?_) | refine Hide.go (by assumption) ?_ | refine end_ret [] ?_; simp [go_sem, hlt', hlj, eG, prmV] | refine dstepK_is rfl (hcm) rfl (by simp) ?_ | (fail_if_success with_reducible (refine Owe.mk ?_)); (simp (disch := omega) [go_sem, hlt', hlj, eG, prmV]) | refine awp_draw 14 mix (by decide +kernel) ?_)
            | some x =>
              have hc3 : cl3 g g[i] g[j] = g.any fun y => decide (x = y) := by unfold cl3; rw [hcf]
              rw [hc3] at hstep
              rw [hcf] at hcm hbad
              dsimp only at hbad
              have hmx := member_ok g x le fu false false hb
              rw [any_comm] at hmx
              generalize (g.any fun y => decide (x = y)) = b at *
              cases b
              · have hV0 := hbad rfl
                clear hbad
                clear hcl
                subst hV0
                repeat' (first | (refine awK fun _ _ => ?_) | refine Hide.go (by assumption) ?_ | refine end_ret [] ?_; simp [go_sem, hlt', hlj, eG, prmV] | refine dstepK_is rfl (hcm) rfl (by simp) ?_ | refine stepK_is rfl (hmx) (by simp) ?_ | (fail_if_success with_reducible (refine Owe.mk ?_)); (simp (disch := omega) [go_sem, hlt', hlj, eG, prmV]) | refine awp_draw 14 mix (by decide +kernel) ?_)
              · have hst := hstep rfl
                repeat' (first | (refine awK fun _ _ => ?_) | refine Hide.go (by assumption) ?_ | refine dstepK_is rfl (hcm) rfl (by simp) ?_ | refine stepK_is rfl (hmx) (by simp) ?_ | refine (hAA.next (j + 1) (Le.sub4 rfl (by simp [go_sem])) (by (try dsimp only); omega) ?_) | (fail_if_success with_reducible (refine Owe.mk ?_)); (simp (disch := omega) [go_sem, hlt', hlj, eG, prmV]) | refine awp_draw 14 mix (by decide +kernel) ?_)
                all_goals (first | omega | skip)
                all_goals exact ⟨hlj, hst⟩
          · obtain rfl : j = g.length := by omega
            have hst := all_step (f := fun p => g.all (cl3 g p)) hok3 hlt' (all_good hok4)
            repeat' (first | (refine awK fun _ _ => ?_) | refine Hide.go (by assumption) ?_ | refine (hAB.next (i + 1) (Le.sub4 rfl (by simp [go_sem])) (by (try dsimp only); omega) ?_) | (fail_if_success with_reducible (refine Owe.mk ?_)); (simp (disch := omega) [go_sem]))
            all_goals (first | omega | skip)
            all_goals exact ⟨hlt', hst⟩
        · obtain rfl : i = g.length := by omega
          have h3 : (g.all fun p => g.all (cl3 g p)) = true := all_good (f := fun p => g.all (cl3 g p)) hok3
          rw [h3, Bool.true_and] at hcl
          subst hcl
          have hlenT : True := trivial
          repeat' (first | (refine awK fun _ _ => ?_) | refine Hide.go (by assumption) ?_ | refine end_ret [] ?_; simp [go_sem, hlenT, hol] | refine stepK_is ?hl (hmem) (by simp) ?_; (case hl => (simp [go_sem, hlenT, hol]; done)) | (fail_if_success with_reducible (refine Owe.mk ?_)); (simp (disch := omega) [go_sem, hlenT, hol]))
  · obtain rfl : g = [] := List.eq_nil_of_length_eq_zero (by omega)
    have hc : closedF [] = false := rfl
    rw [hc]
    refine acall_of_awp Tryz.func23 Tryz.call23 rfl (by simp [Tryz.ntmps23]) ?_; simp only [Tryz.ntmps23, Tryz.results23]
    repeat' (first | (refine awK fun _ _ => ?_) | refine Hide.go (by assumption) ?_ | refine end_ret [] ?_; simp [go_sem] | (fail_if_success with_reducible (refine Owe.mk ?_)); (simp (disch := omega) [go_sem]))
def fewB (g : List (List Pr)) : Bool := decide (g.length ≤ 24) && g.all fun p => decide (p.length ≤ 8)
theorem few_ok (g : List (List Pr)) (le fu : Bool) : ACall Tryz.prog 21 [.list le fu (g.map eG)] (fun r => r = bl (fewB g)) := by
  refine ACall.bound (i := 0) rfl Tryz.call21 fun hb => ?_
  rw [List.length_map] at hb
  have hb : g.length ≤ 140737488355328 := hb
  by_cases h24 : g.length ≤ 24
  · generalize hV : fewB g = V
    have h24' : ¬ (24 : Int) < g.length := by omega
    refine acall_of_awp Tryz.func21 Tryz.call21 rfl (by simp [Tryz.ntmps21]) ?_; simp only [Tryz.ntmps21, Tryz.results21]
    repeat' (first | (refine awK fun _ _ => ?_) | refine Hide.go (by assumption) ?_ | (fail_if_success with_reducible (refine Owe.mk ?_)); (simp (disch := omega) [go_sem, h24']))
    refine awp_for [0] [] (fun i : Nat => [(3, nt .i64 i)]) (fun i : Nat => []) (fun i : Nat => g.length - i) (fun i : Nat => i ≤ g.length ∧ ∀ (k : Nat) (hk : k < g.length), k < i → g[k].length ≤ 8) (0) (Le.sub4 rfl (by simp [go_sem])) ⟨?_⟩ ?_
    · exact ⟨Nat.zero_le _, fun k _ hk => absurd hk (Nat.not_lt_zero _)⟩
    intro i ⟨hi, hn⟩ AA hAA; simp only [kL, Nat.reduceBEq, Nat.reduceEqDiff, if_true, if_false, List.cons_append, List.nil_append, List.append_nil]
    by_cases hlt : i < g.length
    · by_cases h8 : g[i].length ≤ 8
      · have h8' : ¬ (8 : Int) < g[i].length := by omega
        repeat' (first | (refine awK fun _ _ => ?_) | refine Hide.go (by assumption) ?_ | refine (hAA.next (i + 1) (Le.sub4 rfl (by simp [go_sem])) (by (try dsimp only); omega) ?_) | (fail_if_success with_reducible (refine Owe.mk ?_)); (simp (disch := omega) [go_sem, hlt, eG, h8']))
        all_goals (first | omega | skip)
        all_goals exact ⟨hlt, fun k hk hki => by rcases Nat.lt_or_eq_of_le (Nat.le_of_lt_succ hki) with h | rfl; exact hn k hk h; exact h8⟩
      · have hV0 : V = false := by
          rw [← hV]; unfold fewB
          rw [all_bad hlt (by simpa using h8), Bool.and_false]
        subst hV0
        have h8' : (8 : Int) < g[i].length := by omega
        repeat' (first | (refine awK fun _ _ => ?_) | refine Hide.go (by assumption) ?_ | refine end_ret [] ?_; simp [go_sem, hlt, eG, h8'] | (fail_if_success with_reducible (refine Owe.mk ?_)); (simp (disch := omega) [go_sem, hlt, eG, h8']))
    · obtain rfl : i = g.length := by omega
      have hV1 : V = true := by
        rw [← hV]; unfold fewB
        rw [decide_eq_true h24, Bool.true_and]
        exact all_good fun k hk _ => by simpa using hn k hk hk
      subst hV1
      repeat' (first | (refine awK fun _ _ => ?_) | refine Hide.go (by assumption) ?_ | refine end_ret [] ?_; simp [go_sem] | (fail_if_success with_reducible (refine Owe.mk ?_)); (simp (disch := omega) [go_sem]))
  · have hV0 : fewB g = false := by unfold fewB; rw [decide_eq_false h24, Bool.false_and]
    rw [hV0]
    have h24' : (24 : Int) < g.length := by omega
    refine acall_of_awp Tryz.func21 Tryz.call21 rfl (by simp [Tryz.ntmps21]) ?_; simp only [Tryz.ntmps21, Tryz.results21]
    repeat' (first | (refine awK fun _ _ => ?_) | refine Hide.go (by assumption) ?_ | refine end_ret [] ?_; simp [go_sem, h24'] | (fail_if_success with_reducible (refine Owe.mk ?_)); (simp (disch := omega) [go_sem, h24']))
theorem plainTermsD_ok (a b : List Tm) (l f l' f' : Bool) : ACall Tryz.prog 13 [.list l f (a.map eTm), .list l' f' (b.map eTm)] (fun r => r = bl (decide (a = b))) := by
  have h := plainTerms_ok a b l f l' f'
  have e : eqL a b = decide (a = b) := by
    by_cases hab : a = b
    · rw [decide_eq_true hab]; exact (eqL_iff a b).2 hab
    · rw [decide_eq_false hab]
      cases hq : eqL a b
      · rfl
      · exact absurd ((eqL_iff a b).1 hq) hab
  rw [← e]
  exact h
theorem fewB_len {g : List (List Pr)} (h : fewB g = true) : g.length ≤ 24 ∧ ∀ p ∈ g, p.length ≤ 8 := by
  unfold fewB at h
  rw [Bool.and_eq_true, decide_eq_true_eq, List.all_eq_true] at h
  exact ⟨h.1, fun p hp => of_decide_eq_true (h.2 p hp)⟩
theorem OrbitClosed_of (hal : ACall Tryz.prog 10 [] (fun r => r = bl true)) (g : List (List Pr)) (fu : Bool) : ACall Tryz.prog 5 [.list false fu (g.map eG)] (fun r => r = bl true) := by
  have h1 := few_ok g false fu
  cases hf : fewB g
  · rw [hf] at h1
    refine acall_of_awp Tryz.func5 Tryz.call5 rfl (by simp [Tryz.ntmps5]) ?_; simp only [Tryz.ntmps5, Tryz.results5]
    repeat' (first | (refine awK fun _ _ => ?_) | refine Hide.go (by assumption) ?_ | refine end_ret [] ?_; simp [go_sem] | refine stepK_is rfl (hal) (by simp) ?_ | refine stepK_is rfl (h1) (by simp) ?_ | (fail_if_success with_reducible (refine Owe.mk ?_)); (simp (disch := omega) [go_sem]))
  · rw [hf] at h1
    obtain ⟨hl, hp⟩ := fewB_len hf
    have h2 := Closed_ok g false fu (by omega) (fun p h => by have := hp p h; omega)
    have h3 := refClosed_ok g false fu (by omega) (fun p h => by have := hp p h; omega)
    generalize closedF g = b at *
    refine acall_of_awp Tryz.func5 Tryz.call5 rfl (by simp [Tryz.ntmps5]) ?_; simp only [Tryz.ntmps5, Tryz.results5]
    repeat' (first | (refine awK fun _ _ => ?_) | refine Hide.go (by assumption) ?_ | refine end_ret [] ?_; simp [go_sem] | refine stepK_is rfl (hal) (by simp) ?_ | refine stepK_is rfl (h1) (by simp) ?_ | refine stepK_is rfl (h2) (by simp) ?_ | refine stepK_is rfl (h3) (by simp) ?_ | (fail_if_success with_reducible (refine Owe.mk ?_)); (simp (disch := omega) [go_sem]))
    all_goals (first | rfl | (cases b <;> rfl) | (cases b <;> simp))
abbrev z0T : Tm := .mk ⟨#[]⟩ []
abbrev eB (b : Bool) : AV := bl b
abbrev eN (k : Nat) : AV := nt .i64 (k : Int)
def plcN (p : List Pr) (l : List Tm) (t : Tm) : Nat := (plc p l t).toNat
def jst (Q : List Nat) (I : List Tm) : Nat → Option (List Tm × List Bool)
  | 0 => some (List.replicate Q.length z0T, List.replicate Q.length false)
  | i + 1 => match jst Q I i with
    | some (O, T) => if T.getD (Q.getD i 0) false = true then none else some (O.set (Q.getD i 0) (I.getD i z0T), T.set (Q.getD i 0) true)
    | none => none
theorem jst_len {Q : List Nat} {I : List Tm} : ∀ {i : Nat} {O : List Tm} {T : List Bool}, jst Q I i = some (O, T) → O.length = Q.length ∧ T.length = Q.length
  | 0, O, T, h => by
    simp [jst] at h
    obtain ⟨rfl, rfl⟩ := h
    simp
  | i + 1, O, T, h => by
    rw [jst] at h
    cases hj : jst Q I i with
    | none => rw [hj] at h; cases h
    | some q =>
      obtain ⟨O', T'⟩ := q
      rw [hj] at h
      obtain ⟨h1, h2⟩ := jst_len hj
      dsimp only at h
      split at h
      · cases h
      · obtain ⟨rfl, rfl⟩ := Prod.mk.inj (Option.some.inj h)
        simp [h1, h2]
theorem jst_none {Q : List Nat} {I : List Tm} {i : Nat} (h : jst Q I i = none) : ∀ k, jst Q I (i + k) = none
  | 0 => h
  | k + 1 => by
    show jst Q I (i + k + 1) = none
    rw [jst, jst_none h k]
def jntV (x : Option (List Tm × List Bool)) : AV := match x with
  | some (O, _) => .tup [.list false false (O.map eTm), bl true]
  | none => .tup [.list false true [], bl false]
def jntF (p : List Pr) (l J : List Tm) : Option (List Tm × List Bool) := if (∀ t ∈ l, 0 ≤ plc p l t) ∧ J.length = l.length then jst (l.map (plcN p l)) (J.map (tmP p)) l.length else none
theorem rol_nat {p : List Pr} {l : List Tm} (h : ∀ t ∈ l, 0 ≤ plc p l t) : rolV p l = .tup [.list false false ((l.map (plcN p l)).map eN), bl true] := by
  unfold rolV
  rw [if_pos h]
  have e : (l.map (plc p l)).map eI = (l.map (plcN p l)).map eN := by
    rw [List.map_map, List.map_map]
    refine List.map_congr_left fun t ht => ?_
    have := h t ht
    show nt .i64 (plc p l t) = nt .i64 ((plc p l t).toNat : Int)
    rw [Int.toNat_of_nonneg this]
  rw [e]
theorem plcN_lt {p : List Pr} {l : List Tm} {t : Tm} (h : 0 < l.length) : plcN p l t < l.length := by
  have := (idxB_range (cf := fun x => decide (cmpT x (tmP p t) = 0)) (l := l)).2
  unfold plcN plc
  omega
theorem Joint_ok (p : List Pr) (l J : List Tm) (le fu lm fm lj fj : Bool) (hb : l.length ≤ 1000000) (hbj : J.length ≤ 1000000) (hz : ∀ t ∈ l, t.size ≤ 1000000) (hzj : ∀ t ∈ J, t.size ≤ 1000000) :
    ACall Tryz.prog 11 [.list le fu (p.map ePr), .list lm fm (l.map eTm), .list lj fj (J.map eTm)] (fun r => r = jntV (jntF p l J)) := by
  have hr := Roles_ok p l le fu lm fm hb hz
  unfold jntF
  by_cases hall : ∀ t ∈ l, 0 ≤ plc p l t
  · rw [rol_nat hall] at hr
    have hQl : (l.map (plcN p l)).length = l.length := by simp
    have hQb : ∀ (i : Nat) (h : i < (l.map (plcN p l)).length), (l.map (plcN p l))[i] < l.length := fun i h => by
      simp only [List.length_map] at h
      simp only [List.getElem_map]
      exact plcN_lt (by omega)
    generalize l.map (plcN p l) = Q at *
    by_cases hJ : J.length = l.length
    · rw [if_pos ⟨hall, hJ⟩]
      have hIl : (J.map (tmP p)).length = J.length := by simp
      have hI : ∀ (i : Nat) (h : i < J.length), (J.map (tmP p)).getD i z0T = tmP p J[i] := fun i h => by simp [List.getD_eq_getElem?_getD, h]
      generalize J.map (tmP p) = I at *
      have h0 : jst Q I 0 = some (List.replicate l.length z0T, List.replicate l.length false) := by rw [← hQl]; rfl
      generalize hV : jntV (jst Q I l.length) = V
      refine acall_of_awp Tryz.func11 Tryz.call11 rfl (by simp [Tryz.ntmps11]) ?_; simp only [Tryz.ntmps11, Tryz.results11]
      repeat' (first | (refine awK fun _ _ => ?_) | refine Hide.go (by assumption) ?_ | refine stepK_is rfl (hr) (by simp) ?_ | (fail_if_success with_reducible (refine Owe.mk ?_)); (simp (disch := omega) [go_sem, hJ]) | refine And.intro (by omega) ?_)
      refine awp_for [0, 2, 10, 11, 35, 36] [31, 34] (fun x : Nat × List Tm × List Bool => [(37, nt .i64 x.1)]) (fun x : Nat × List Tm × List Bool => [(31, ⟨true, false, false, 2, x.2.1.map eTm, 0⟩), (34, ⟨true, false, false, 1, x.2.2.map eB, 0⟩)]) (fun x : Nat × List Tm × List Bool => l.length - x.1) (fun x : Nat × List Tm × List Bool => x.1 ≤ l.length ∧ jst Q I x.1 = some x.2) ((0, List.replicate l.length z0T, List.replicate l.length false)) (by refine Le.trans ?_ (Le.looseRow 31 rfl (by show (0 : Nat) ≠ 1; decide)); exact (Le.sub4 rfl (by simp [go_sem, List.map_replicate]))) ⟨?_⟩ ?_
      · exact ⟨Nat.zero_le _, h0⟩
      intro ⟨i, O, T⟩ ⟨hi, hj⟩ AA hAA; simp only [kL, Nat.reduceBEq, Nat.reduceEqDiff, if_true, if_false, List.cons_append, List.nil_append, List.append_nil]
      dsimp only at *
      by_cases hlt : i < l.length
      · have hiQ : i < Q.length := by omega
        have hiJ : i < J.length := by omega
        have ht := Term_ok p le fu J[i] (hzj _ (List.getElem_mem hiJ))
        have hu := hI i hiJ
        have hk := hQb i hiQ
        obtain ⟨hO, hT⟩ := jst_len hj
        have hs : jst Q I (i + 1) = if T.getD Q[i] false = true then none else some (O.set Q[i] (tmP p J[i]), T.set Q[i] true) := by
          rw [jst, hj]
          simp only [List.getD_eq_getElem?_getD, List.getElem?_eq_getElem hiQ, Option.getD_some] at hu ⊢
          rw [hu]
        generalize hkq : Q[i] = k at *
        generalize tmP p J[i] = u at *
        have hkT : k < T.length := by omega
        have hkO : k < O.length := by omega
        rw [List.getD_eq_getElem?_getD, List.getElem?_eq_getElem hkT, Option.getD_some] at hs
        cases hTk : T[k]
        · rw [hTk] at hs
          simp only [Bool.false_eq_true, if_false] at hs
          repeat' (first | (refine awK fun _ _ => ?_) | refine Hide.go (by assumption) ?_ | refine stepK_is rfl (ht) (by simp) ?_ | refine (hAA.next ((i + 1, O.set k u, T.set k true)) (Le.sub4 rfl (by simp [go_sem, List.map_set, hQl])) (by (try dsimp only); omega) ?_) | (fail_if_success with_reducible (refine Owe.mk ?_)); (simp (disch := omega) [go_sem, hlt, hiQ, hiJ, hkq, hTk, hkT, hkO, hk, hO, hT, hQl]))
          all_goals (first | omega | skip)
          exact ⟨⟨hlt, hs⟩⟩
        · rw [hTk] at hs
          simp only [if_true] at hs
          have hn : jst Q I l.length = none := by
            obtain ⟨d, hd⟩ : ∃ d, l.length = i + 1 + d := ⟨l.length - (i + 1), by omega⟩
            rw [hd]; exact jst_none hs d
          rw [hn] at hV
          repeat' (first | (refine awK fun _ _ => ?_) | refine Hide.go (by assumption) ?_ | refine end_ret [] ?_; simp [go_sem, hlt, hiQ, hiJ, hkq, hTk, hkT, hkO, hk, hO, hT, hQl] | (fail_if_success with_reducible (refine Owe.mk ?_)); (simp (disch := omega) [go_sem, hlt, hiQ, hiJ, hkq, hTk, hkT, hkO, hk, hO, hT, hQl]))
          all_goals exact hV
      · obtain rfl : i = l.length := by omega
        rw [hj] at hV
        obtain ⟨hO, hT⟩ := jst_len hj
        repeat' (first | (refine awK fun _ _ => ?_) | refine Hide.go (by assumption) ?_ | refine end_ret [31] ?_; simp [go_sem, hO, hQl] | (fail_if_success with_reducible (refine Owe.mk ?_)); (simp (disch := omega) [go_sem, hO, hQl]))
        all_goals exact hV
    · rw [if_neg fun h => hJ h.2]
      refine acall_of_awp Tryz.func11 Tryz.call11 rfl (by simp [Tryz.ntmps11]) ?_; simp only [Tryz.ntmps11, Tryz.results11]
      repeat' (first | (refine awK fun _ _ => ?_) | refine Hide.go (by assumption) ?_ | refine zqn ?_ ?_ <;> (intro h; first | (exfalso; omega) | (simp only [h, decide_true, decide_false, not_false_eq_true])) | refine end_ret [] ?_; simp [go_sem, hJ] | refine stepK_is rfl (hr) (by simp) ?_ | (fail_if_success with_reducible (refine Owe.mk ?_)); (simp (disch := omega) [go_sem, hJ]))
      all_goals rfl
  · rw [if_neg fun h => hall h.1]
    unfold rolV at hr
    rw [if_neg hall] at hr
    refine acall_of_awp Tryz.func11 Tryz.call11 rfl (by simp [Tryz.ntmps11]) ?_; simp only [Tryz.ntmps11, Tryz.results11]
    repeat' (first | (refine awK fun _ _ => ?_) | refine Hide.go (by assumption) ?_ | refine end_ret [] ?_; simp [go_sem] | refine stepK_is rfl (hr) (by simp) ?_ | (fail_if_success with_reducible (refine Owe.mk ?_)); (simp (disch := omega) [go_sem]))
    all_goals rfl
theorem valid_facts {p : List Pr} (h : validP p = true) : (p.map Pr.fr).Nodup ∧ (p.map Pr.to).Perm (p.map Pr.fr) := by
  rw [← progF_valid] at h
  unfold progF at h
  rw [Bool.and_eq_true, Bool.and_eq_true, decide_eq_true_eq, List.all_eq_true] at h
  obtain ⟨⟨h1, h2⟩, h3⟩ := h
  refine ⟨(asc_get fun j hj => h1 j (List.mem_range.2 hj)).imp fun {a b} hab => ?_, ?_⟩
  · rintro rfl
    rw [cmpS_self] at hab; omega
  · rw [h3]; exact (srtS_perm _).symm
theorem imgS_cons (y : Pr) (r : List Pr) (s : ByteArray) : imgS (y :: r) s = if y.fr = s then y.to else imgS r s := by
  unfold imgS
  rw [List.find?_cons]
  by_cases h : y.fr = s <;> simp [h]
theorem imgS_out {s : ByteArray} : ∀ {p : List Pr}, s ∉ p.map Pr.fr → imgS p s = s
  | [], _ => rfl
  | y :: r, h => by
    simp only [List.map_cons, List.mem_cons, not_or] at h
    rw [imgS_cons, if_neg (fun e => h.1 e.symm), imgS_out h.2]
theorem imgS_mem : ∀ {p : List Pr}, (p.map Pr.fr).Nodup → ∀ {x : Pr}, x ∈ p → imgS p x.fr = x.to
  | [], _, x, h => by simp at h
  | y :: r, hn, x, h => by
    rw [List.map_cons, List.nodup_cons] at hn
    rw [imgS_cons]
    rcases List.mem_cons.1 h with rfl | h
    · rw [if_pos rfl]
    · rw [if_neg (fun e => hn.1 (by rw [e]; exact List.mem_map.2 ⟨x, h, rfl⟩)), imgS_mem hn.2 h]
theorem imgS_cmp (p q : List Pr) (h : p.map Pr.fr = q.map Pr.fr) (s : ByteArray) : imgS (p.map (cmpP q)) s = imgS q (imgS p s) := by
  have key : ∀ p : List Pr, s ∈ p.map Pr.fr → imgS (p.map (cmpP q)) s = imgS q (imgS p s) := by
    intro p
    induction p with
    | nil => intro h; simp at h
    | cons y r ih =>
      intro hs
      rw [List.map_cons, imgS_cons, imgS_cons]
      by_cases hy : y.fr = s
      · rw [if_pos (show (cmpP q y).fr = s from hy), if_pos hy]
        rfl
      · rw [if_neg (show ¬ (cmpP q y).fr = s from hy), if_neg hy]
        refine ih ?_
        rw [List.map_cons] at hs
        exact (List.mem_cons.1 hs).resolve_left fun e => hy e.symm
  by_cases hs : s ∈ p.map Pr.fr
  · exact key p hs
  · have e : (p.map (cmpP q)).map Pr.fr = p.map Pr.fr := by rw [List.map_map]; rfl
    rw [imgS_out (p := p.map (cmpP q)) (by rw [e]; exact hs), imgS_out hs, imgS_out (by rw [← h]; exact hs)]
theorem nodup_inj {α β : Type} {f : α → β} : ∀ {l : List α}, (l.map f).Nodup → ∀ {x y : α}, x ∈ l → y ∈ l → f x = f y → x = y
  | [], _, x, _, h, _, _ => by simp at h
  | z :: r, hn, x, y, hx, hy, he => by
    rw [List.map_cons, List.nodup_cons] at hn
    rcases List.mem_cons.1 hx with ex | mx
    · rcases List.mem_cons.1 hy with ey | my
      · rw [ex, ey]
      · exact (hn.1 (List.mem_map.2 ⟨y, my, by rw [← he, ex]⟩)).elim
    · rcases List.mem_cons.1 hy with ey | my
      · exact (hn.1 (List.mem_map.2 ⟨x, mx, by rw [he, ey]⟩)).elim
      · exact nodup_inj hn.2 mx my he
theorem imgS_inj {p : List Pr} (h : validP p = true) {s t : ByteArray} (he : imgS p s = imgS p t) : s = t := by
  obtain ⟨h1, h2⟩ := valid_facts h
  have h3 : (p.map Pr.to).Nodup := h2.nodup_iff.2 h1
  have ins : ∀ {s : ByteArray}, s ∈ p.map Pr.fr → ∃ x ∈ p, x.fr = s ∧ imgS p s = x.to := fun {s} hs => by
    obtain ⟨x, hx, rfl⟩ := List.mem_map.1 hs
    exact ⟨x, hx, rfl, imgS_mem h1 hx⟩
  have mix : ∀ {s t : ByteArray}, imgS p s = imgS p t → s ∈ p.map Pr.fr → t ∉ p.map Pr.fr → False := fun {s t} he hs ht => by
    obtain ⟨x, hx, _, e⟩ := ins hs
    rw [imgS_out ht, e] at he
    exact ht (h2.mem_iff.1 (he ▸ List.mem_map.2 ⟨x, hx, rfl⟩))
  by_cases hs : s ∈ p.map Pr.fr
  · by_cases ht : t ∈ p.map Pr.fr
    · obtain ⟨x, hx, ex, fx⟩ := ins hs
      obtain ⟨y, hy, ey, fy⟩ := ins ht
      have := nodup_inj h3 hx hy (by rw [← fx, ← fy, he])
      rw [← ex, ← ey, this]
    · exact (mix he hs ht).elim
  · by_cases ht : t ∈ p.map Pr.fr
    · exact (mix he.symm ht hs).elim
    · rw [imgS_out hs, imgS_out ht] at he
      exact he
theorem pr_form {p : List Pr} (h : (p.map Pr.fr).Nodup) : p = (p.map Pr.fr).map fun s => (⟨s, imgS p s⟩ : Pr) := by
  rw [List.map_map]
  refine (List.map_id p).symm.trans (List.map_congr_left fun x hx => ?_)
  show x = ⟨x.fr, imgS p x.fr⟩
  rw [imgS_mem h hx]
theorem pr_ext {p q : List Pr} (hp : (p.map Pr.fr).Nodup) (h : p.map Pr.fr = q.map Pr.fr) (he : ∀ s, imgS p s = imgS q s) : p = q := by
  rw [pr_form hp, pr_form (h ▸ hp : (q.map Pr.fr).Nodup), ← h]
  exact List.map_congr_left fun s _ => by rw [he]
structure Grp (G : List (List Pr)) : Prop where
  nd : G.Nodup
  valid : ∀ p ∈ G, validP p = true
  same : ∀ p ∈ G, ∀ q ∈ G, p.map Pr.fr = q.map Pr.fr
  closed : ∀ p ∈ G, ∀ q ∈ G, p.map (cmpP q) ∈ G
  one : ∃ e ∈ G, ∀ s, imgS e s = s
theorem Grp.turn {G : List (List Pr)} (h : Grp G) {q : List Pr} (hq : q ∈ G) : G.Perm (G.map fun p => p.map (cmpP q)) := by
  refine perm_of_all ?_ (fun x hx => ?_) (by simp)
  · show List.Pairwise _ _
    rw [List.pairwise_map]
    refine List.Pairwise.imp_of_mem (fun {a b} ha hb hab he => hab ?_) h.nd
    refine pr_ext (valid_facts (h.valid a ha)).1 (h.same a ha b hb) fun s => imgS_inj (h.valid q hq) ?_
    rw [← imgS_cmp a q (h.same a ha q hq), ← imgS_cmp b q (h.same b hb q hq), he]
  · obtain ⟨p, hp, rfl⟩ := List.mem_map.1 hx
    exact h.closed p hp q hq
theorem Grp.back {G : List (List Pr)} (h : Grp G) {q : List Pr} (hq : q ∈ G) : ∃ b ∈ G, ∀ s, imgS b (imgS q s) = s := by
  obtain ⟨e, he, h1⟩ := h.one
  obtain ⟨b, hb, hbe⟩ := List.mem_map.1 ((h.turn hq).mem_iff.1 he)
  refine ⟨b, hb, fun s => imgS_inj (h.valid q hq) ?_⟩
  rw [← imgS_cmp b q (h.same b hb q hq), show List.map (cmpP q) b = e from hbe, h1]
end Go.Proofs.YtmadpbpmcbdboaaGreat
