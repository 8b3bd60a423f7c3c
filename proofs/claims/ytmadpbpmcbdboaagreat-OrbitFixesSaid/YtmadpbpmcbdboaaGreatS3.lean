import Derived.Test.YtmadpbpmcbdboaaGreatS2
import Derived.Test.YtmadpbpmcbdboaaGreatA5
import Derived.Test.YtmadpbpmcbdboaaGreatS1
import Derived.Test.YtmadpbpmcbdboaaGreatA6
import Derived.Test.YtmadpbpmcbdboaaGreatA8
set_option linter.unusedSimpArgs false
set_option linter.unusedVariables false
namespace Go.Proofs.YtmadpbpmcbdboaaGreat
open Go.Ab
set_option maxRecDepth 100000
set_option maxHeartbeats 4000000
theorem refCompareList_of (ts us : List Tm) (l f l' f' : Bool) (h : ∀ t ∈ ts, ∀ u, ACall Tryz.prog 62 [eT t, eT u] (fun r => r = nt .i64 (cmpT t u))) :
    ACall Tryz.prog 42 [.list l f (ts.map eTm), .list l' f' (us.map eTm)] (fun r => r = nt .i64 (cmpL ts us)) := by
  refine ACall.bound (i := 0) rfl Tryz.call42 fun hb => ?_
  rw [List.length_map] at hb
  have hb : ts.length ≤ 140737488355328 := hb
  have ho := sign_ok ts.length us.length
  generalize hR : cmpL ts us = R
  refine acall_of_awp Tryz.func42 Tryz.call42 rfl (by simp [Tryz.ntmps42]) ?_; simp only [Tryz.ntmps42, Tryz.results42]
  repeat' (first | (refine awK fun _ _ => ?_) | refine Hide.go (by assumption) ?_ | (fail_if_success with_reducible (refine Owe.mk ?_)); (simp (disch := omega) [go_sem]))
  refine awp_for [0, 1] [] (fun i : Nat => [(5, nt .i64 i)]) (fun i : Nat => []) (fun i : Nat => ts.length - i) (fun i : Nat => i ≤ ts.length ∧ i ≤ us.length ∧ cmpL (ts.drop i) (us.drop i) = R) (0) (Le.sub4 rfl (by simp [go_sem])) ⟨?_⟩ ?_
  · exact ⟨Nat.zero_le _, Nat.zero_le _, by simpa using hR⟩
  intro i ⟨hi, hi2, hc⟩ AA hAA; simp only [kL, Nat.reduceBEq, Nat.reduceEqDiff, if_true, if_false, List.cons_append, List.nil_append, List.append_nil]
  by_cases h1 : i < ts.length
  · by_cases h2 : i < us.length
    · have hu := h ts[i] (List.getElem_mem h1) us[i]
      rw [List.drop_eq_getElem_cons h1, List.drop_eq_getElem_cons h2] at hc
      simp only [cmpL] at hc
      generalize cmpT ts[i] us[i] = c at *
      by_cases hz : c = 0
      · subst hz
        simp at hc
        repeat' (first | (refine awK fun _ _ => ?_) | refine Hide.go (by assumption) ?_ | refine dstepK_is rfl (hu) rfl (by simp) ?_ | refine (hAA.next (i + 1) (Le.sub4 rfl (by simp [go_sem])) (by (try dsimp only); omega) ?_) | (fail_if_success with_reducible (refine Owe.mk ?_)); (simp (disch := omega) [go_sem, h1, h2]) | refine awp_draw 10 mix (by decide +kernel) ?_)
        exact ⟨⟨h1, h2, hc⟩⟩
      · simp only [ne_eq, hz, not_false_eq_true, if_true] at hc
        repeat' (first | (refine awK fun _ _ => ?_) | refine Hide.go (by assumption) ?_ | refine zqn ?_ ?_ <;> (intro h; first | (exfalso; omega) | (simp only [h, decide_true, decide_false, not_false_eq_true])) | refine end_ret [] ?_; simp [go_sem, h1, h2, hz, hc] | refine dstepK_is rfl (hu) rfl (by simp) ?_ | (fail_if_success with_reducible (refine Owe.mk ?_)); (simp (disch := omega) [go_sem, h1, h2, hz, hc]) | refine awp_draw 10 mix (by decide +kernel) ?_)
    · have e1 : us.drop i = [] := List.drop_of_length_le (by omega)
      rw [List.drop_eq_getElem_cons h1, e1] at hc
      simp only [cmpL] at hc
      have e2 : ord ts.length us.length = 1 := by unfold ord; rw [if_neg (by omega), if_pos (by omega)]
      rw [e2] at ho
      repeat' (first | (refine awK fun _ _ => ?_) | refine Hide.go (by assumption) ?_ | refine end_ret [] ?_; simp [go_sem, h1, h2, hc] | refine stepK_is rfl (ho) (by simp) ?_ | (fail_if_success with_reducible (refine Owe.mk ?_)); (simp (disch := omega) [go_sem, h1, h2, hc]))
  · have e1 : ts.drop i = [] := List.drop_of_length_le (by omega)
    by_cases h2 : i < us.length
    · rw [List.drop_eq_getElem_cons h2, e1] at hc
      simp only [cmpL] at hc
      have e2 : ord ts.length us.length = -1 := by unfold ord; rw [if_pos (by omega)]
      rw [e2] at ho
      repeat' (first | (refine awK fun _ _ => ?_) | refine Hide.go (by assumption) ?_ | refine end_ret [] ?_; simp [go_sem, h1, h2, hc] | refine stepK_is rfl (ho) (by simp) ?_ | (fail_if_success with_reducible (refine Owe.mk ?_)); (simp (disch := omega) [go_sem, h1, h2, hc]))
    · have e3 : us.drop i = [] := List.drop_of_length_le (by omega)
      rw [e1, e3] at hc
      simp only [cmpL] at hc
      have e2 : ord ts.length us.length = 0 := by unfold ord; rw [if_neg (by omega), if_neg (by omega)]
      rw [e2] at ho
      repeat' (first | (refine awK fun _ _ => ?_) | refine Hide.go (by assumption) ?_ | refine end_ret [] ?_; simp [go_sem, h1, h2, hc] | refine stepK_is rfl (ho) (by simp) ?_ | (fail_if_success with_reducible (refine Owe.mk ?_)); (simp (disch := omega) [go_sem, h1, h2, hc]))
theorem class_ok (t : Tm) : ACall Tryz.prog 95 [eT t] (fun r => r = nt .i64 (kd t).1) := by
  have h1 := refIsNumber_ok t.name
  have h2 := refVariable_ok t.name
  unfold kd
  generalize (numS t.name).2 = b at *
  generalize varS t.name = c at *
  by_cases h0 : 0 < t.args.length
  · rw [if_pos h0]
    have h0' : (0 : Int) < t.args.length := by omega
    refine acall_of_awp Tryz.func95 Tryz.call95 rfl (by simp [Tryz.ntmps95]) ?_; simp only [Tryz.ntmps95, Tryz.results95]
    repeat' (first | (refine awK fun _ _ => ?_) | refine Hide.go (by assumption) ?_ | refine end_ret [] ?_; simp [go_sem, h0] | (fail_if_success with_reducible (refine Owe.mk ?_)); (simp (disch := omega) [go_sem, h0]))
  · rw [if_neg h0]
    cases b
    · cases c
      · refine acall_of_awp Tryz.func95 Tryz.call95 rfl (by simp [Tryz.ntmps95]) ?_; simp only [Tryz.ntmps95, Tryz.results95]
        repeat' (first | (refine awK fun _ _ => ?_) | refine Hide.go (by assumption) ?_ | refine end_ret [] ?_; simp [go_sem, h0] | refine stepK_is rfl (h1) (by simp) ?_ | refine stepK_is rfl (h2) (by simp) ?_ | (fail_if_success with_reducible (refine Owe.mk ?_)); (simp (disch := omega) [go_sem, h0]))
      · refine acall_of_awp Tryz.func95 Tryz.call95 rfl (by simp [Tryz.ntmps95]) ?_; simp only [Tryz.ntmps95, Tryz.results95]
        repeat' (first | (refine awK fun _ _ => ?_) | refine Hide.go (by assumption) ?_ | refine end_ret [] ?_; simp [go_sem, h0] | refine stepK_is rfl (h1) (by simp) ?_ | refine stepK_is rfl (h2) (by simp) ?_ | (fail_if_success with_reducible (refine Owe.mk ?_)); (simp (disch := omega) [go_sem, h0]))
    · refine acall_of_awp Tryz.func95 Tryz.call95 rfl (by simp [Tryz.ntmps95]) ?_; simp only [Tryz.ntmps95, Tryz.results95]
      repeat' (first | (refine awK fun _ _ => ?_) | refine Hide.go (by assumption) ?_ | refine end_ret [] ?_; simp [go_sem, h0] | refine stepK_is rfl (h1) (by simp) ?_ | (fail_if_success with_reducible (refine Owe.mk ?_)); (simp (disch := omega) [go_sem, h0]))
theorem value_ok (s : ByteArray) : ACall Tryz.prog 96 [.sc (.string s)] (fun r => r = nt .i64 (numS s).1) := by
  have hc := refNumber_ok s
  generalize numS s = q at *
  obtain ⟨v, b⟩ := q
  dsimp only at *
  refine acall_of_awp Tryz.func96 Tryz.call96 rfl (by simp [Tryz.ntmps96]) ?_; simp only [Tryz.ntmps96, Tryz.results96]
  repeat' (first | (refine awK fun _ _ => ?_) | refine Hide.go (by assumption) ?_ | refine end_ret [] ?_; simp [go_sem] | refine stepK_is rfl (hc) (by simp) ?_ | (fail_if_success with_reducible (refine Owe.mk ?_)); (simp (disch := omega) [go_sem]))
theorem kd_cases (t : Tm) : (t.args = [] ∧ (numS t.name).2 = true ∧ kd t = (0, (numS t.name).1, 0, ByteArray.mk #[])) ∨ ((kd t).1 ≠ 0 ∧ kd t = ((kd t).1, 0, (t.args.length : Int), t.name)) := by
  unfold kd
  by_cases h0 : 0 < t.args.length
  · rw [if_pos h0]; right; simp
  · rw [if_neg h0]
    have e : t.args = [] := List.eq_nil_of_length_eq_zero (by omega)
    by_cases h1 : (numS t.name).2 = true
    · rw [if_pos h1]; left; exact ⟨e, h1, rfl⟩
    · rw [if_neg h1]
      split <;> (right; simp [e])
theorem refCompare_ok : ∀ a b : Tm, ACall Tryz.prog 62 [eT a, eT b] (fun r => r = nt .i64 (cmpT a b)) := by
  refine tm_ind fun a ih b => ?_
  have h1 := class_ok a
  have h2 := class_ok b
  have ho1 := sign_ok (kd a).1 (kd b).1
  rw [cmpT_eq]
  by_cases q1 : (kd a).1 = (kd b).1
  · have e1 : ord (kd a).1 (kd b).1 = 0 := by unfold ord; rw [if_neg (by omega), if_neg (by omega)]
    rw [e1] at ho1
    rcases kd_cases a with ⟨a1, a2, a3⟩ | ⟨a1, a2⟩
    · rcases kd_cases b with ⟨b1, b2, b3⟩ | ⟨b1, b2⟩
      · have hv1 := value_ok a.name
        have hv2 := value_ok b.name
        have ho2 := sign_ok (numS a.name).1 (numS b.name).1
        rw [a3] at h1 ho1 ⊢
        rw [b3] at h2 ho1 ⊢
        rw [a1, b1]
        dsimp only at *
        generalize (numS a.name).1 = u at *
        generalize (numS b.name).1 = v at *
        have e : (if ((0 : Int), u, (0 : Int), ByteArray.mk #[]) = (0, v, 0, ByteArray.mk #[]) then cmpL [] [] else if (0 : Int) ≠ 0 then ord 0 0 else if u ≠ v then ord u v else if (0 : Int) ≠ 0 then ord 0 0 else strC (ByteArray.mk #[]) (ByteArray.mk #[])) = ord u v := by
          by_cases h : u = v
          · subst h; simp [cmpL, ord]
          · simp [h]
        rw [e]
        generalize ord u v = o at *
        clear a1 b1 a2 b2 a3 b3 ih
        refine acall_of_awp Tryz.func62 Tryz.call62 rfl (by simp [Tryz.ntmps62]) ?_; simp only [Tryz.ntmps62, Tryz.results62]
        repeat' (first | (refine awK fun _ _ => ?_) | refine Hide.go (by assumption) ?_ | refine end_ret [] ?_; simp [go_sem] | refine stepK_is rfl (h1) (by simp) ?_ | refine dstepK_is rfl (h1) rfl (by simp) ?_ | refine dstepK_is rfl (h2) rfl (by simp) ?_ | refine dstepK_is rfl (ho1) rfl (by simp) ?_ | refine dstepK_is rfl (hv1) rfl (by simp) ?_ | refine dstepK_is rfl (hv2) rfl (by simp) ?_ | refine stepK_is rfl (ho2) (by simp) ?_ | (fail_if_success with_reducible (refine Owe.mk ?_)); (simp (disch := omega) [go_sem]) | refine awp_draw 6 mix (by decide +kernel) ?_)
      · exact absurd (by rw [← q1, a3]) b1
    · rcases kd_cases b with ⟨b1, b2, b3⟩ | ⟨b1, b2⟩
      · exact absurd (by rw [q1, b3]) a1
      · have h3 := refCompareList_of a.args b.args false false false false ih
        have ho2 := sign_ok a.args.length b.args.length
        have ho3 := refStrings_ok a.name b.name
        have hz := strC_zero (a := a.name) (b := b.name)
        generalize cmpL a.args b.args = w at *
        rw [a2, b2]
        dsimp only
        rw [← q1] at h2 ho1 ⊢
        generalize (kd a).1 = k at *
        clear a2 b2 ih
        by_cases q2 : (a.args.length : Int) = b.args.length
        · by_cases q3 : a.name = b.name
          · have q4 : strC a.name b.name = 0 := hz.2 q3
            rw [q4] at ho3
            simp only [q2, q3, if_true]
            refine acall_of_awp Tryz.func62 Tryz.call62 rfl (by simp [Tryz.ntmps62]) ?_; simp only [Tryz.ntmps62, Tryz.results62]
            repeat' (first | (refine awK fun _ _ => ?_) | refine Hide.go (by assumption) ?_ | refine end_ret [] ?_; simp [go_sem, a1, q2] | refine stepK_is rfl (h1) (by simp) ?_ | refine dstepK_is rfl (h1) rfl (by simp) ?_ | refine dstepK_is rfl (h2) rfl (by simp) ?_ | refine dstepK_is rfl (ho1) rfl (by simp) ?_ | refine stepK_is rfl (ho3) (by simp) ?_ | refine stepK_is rfl (h3) (by simp) ?_ | (fail_if_success with_reducible (refine Owe.mk ?_)); (simp (disch := omega) [go_sem, a1, q2]) | refine awp_draw 6 mix (by decide +kernel) ?_)
          · have q4 : strC a.name b.name ≠ 0 := fun h => q3 (hz.1 h)
            have e : (if (k, (0 : Int), (a.args.length : Int), a.name) = (k, 0, (b.args.length : Int), b.name) then w else if k ≠ k then ord k k else if (0 : Int) ≠ 0 then ord 0 0 else if (a.args.length : Int) ≠ b.args.length then ord a.args.length b.args.length else strC a.name b.name) = strC a.name b.name := by
              simp [q2, q3]
            rw [e]
            generalize strC a.name b.name = o at *
            refine acall_of_awp Tryz.func62 Tryz.call62 rfl (by simp [Tryz.ntmps62]) ?_; simp only [Tryz.ntmps62, Tryz.results62]
            repeat' (first | (refine awK fun _ _ => ?_) | refine Hide.go (by assumption) ?_ | refine end_ret [] ?_; simp [go_sem, a1, q2, q4] | refine stepK_is rfl (h1) (by simp) ?_ | refine dstepK_is rfl (h1) rfl (by simp) ?_ | refine dstepK_is rfl (h2) rfl (by simp) ?_ | refine dstepK_is rfl (ho1) rfl (by simp) ?_ | refine stepK_is rfl (ho3) (by simp) ?_ | (fail_if_success with_reducible (refine Owe.mk ?_)); (simp (disch := omega) [go_sem, a1, q2, q4]) | refine awp_draw 6 mix (by decide +kernel) ?_)
        · have e : (if (k, (0 : Int), (a.args.length : Int), a.name) = (k, 0, (b.args.length : Int), b.name) then w else if k ≠ k then ord k k else if (0 : Int) ≠ 0 then ord 0 0 else if (a.args.length : Int) ≠ b.args.length then ord a.args.length b.args.length else strC a.name b.name) = ord a.args.length b.args.length := by
            simp [q2]
          rw [e]
          generalize ord a.args.length b.args.length = o at *
          refine acall_of_awp Tryz.func62 Tryz.call62 rfl (by simp [Tryz.ntmps62]) ?_; simp only [Tryz.ntmps62, Tryz.results62]
          repeat' (first | (refine awK fun _ _ => ?_) | refine Hide.go (by assumption) ?_ | refine end_ret [] ?_; simp [go_sem, a1, q2] | refine stepK_is rfl (h1) (by simp) ?_ | refine dstepK_is rfl (h1) rfl (by simp) ?_ | refine dstepK_is rfl (h2) rfl (by simp) ?_ | refine dstepK_is rfl (ho1) rfl (by simp) ?_ | refine stepK_is rfl (ho2) (by simp) ?_ | (fail_if_success with_reducible (refine Owe.mk ?_)); (simp (disch := omega) [go_sem, a1, q2]) | refine awp_draw 6 mix (by decide +kernel) ?_)
  · have e1 : ord (kd a).1 (kd b).1 ≠ 0 := by unfold ord; split <;> (try split) <;> omega
    have e : (if kd a = kd b then cmpL a.args b.args else if (kd a).1 ≠ (kd b).1 then ord (kd a).1 (kd b).1 else if (kd a).2.1 ≠ (kd b).2.1 then ord (kd a).2.1 (kd b).2.1 else if (kd a).2.2.1 ≠ (kd b).2.2.1 then ord (kd a).2.2.1 (kd b).2.2.1 else strC (kd a).2.2.2 (kd b).2.2.2) = ord (kd a).1 (kd b).1 := by
      rw [if_neg (fun h => q1 (by rw [h])), if_pos q1]
    rw [e]
    generalize ord (kd a).1 (kd b).1 = o at *
    generalize (kd a).1 = x at *
    generalize (kd b).1 = y at *
    refine acall_of_awp Tryz.func62 Tryz.call62 rfl (by simp [Tryz.ntmps62]) ?_; simp only [Tryz.ntmps62, Tryz.results62]
    repeat' (first | (refine awK fun _ _ => ?_) | refine Hide.go (by assumption) ?_ | refine end_ret [] ?_; simp [go_sem, e1] | refine dstepK_is rfl (h1) rfl (by simp) ?_ | refine dstepK_is rfl (h2) rfl (by simp) ?_ | refine dstepK_is rfl (ho1) rfl (by simp) ?_ | (fail_if_success with_reducible (refine Owe.mk ?_)); (simp (disch := omega) [go_sem, e1]) | refine awp_draw 6 mix (by decide +kernel) ?_)
mutual
def eqT : Tm → Tm → Bool
  | .mk s ts, b => decide (s = b.name) && eqL ts b.args
def eqL : List Tm → List Tm → Bool
  | [], [] => true
  | t :: r, u :: q => eqT t u && eqL r q
  | _, _ => false
end
theorem eqT_eq {a b : Tm} : eqT a b = (decide (a.name = b.name) && eqL a.args b.args) := by cases a; rfl
theorem tm_eta (t : Tm) : t = .mk t.name t.args := by cases t; rfl
theorem eqL_of {ts us : List Tm} (h : ∀ t ∈ ts, ∀ u, eqT t u = true ↔ t = u) : eqL ts us = true ↔ ts = us := by
  induction ts generalizing us with
  | nil => cases us <;> simp [eqL]
  | cons t r ih =>
    cases us with
    | nil => simp [eqL]
    | cons u q =>
      simp only [eqL, Bool.and_eq_true, List.cons.injEq]
      rw [h t (by simp), ih (fun v hv => h v (by simp [hv]))]
theorem eqT_iff : ∀ a b : Tm, eqT a b = true ↔ a = b := by
  refine tm_ind fun a ih b => ?_
  rw [eqT_eq, Bool.and_eq_true, decide_eq_true_eq, eqL_of ih]
  constructor
  · rintro ⟨h1, h2⟩; rw [tm_eta a, tm_eta b, h1, h2]
  · rintro rfl; exact ⟨rfl, rfl⟩
theorem eqL_iff (ts us : List Tm) : eqL ts us = true ↔ ts = us := eqL_of fun t _ u => eqT_iff t u
theorem eqL_len {ts us : List Tm} (h : ts.length ≠ us.length) : eqL ts us = false := by
  rw [Bool.eq_false_iff]; intro e; rw [(eqL_iff ts us).1 e] at h; exact h rfl
theorem plainTerms_of (ts us : List Tm) (l f l' f' : Bool) (h : ∀ t ∈ ts, ∀ u, ACall Tryz.prog 37 [eT t, eT u] (fun r => r = bl (eqT t u))) :
    ACall Tryz.prog 13 [.list l f (ts.map eTm), .list l' f' (us.map eTm)] (fun r => r = bl (eqL ts us)) := by
  refine ACall.bound (i := 0) rfl Tryz.call13 fun hb => ?_
  rw [List.length_map] at hb
  have hb : ts.length ≤ 140737488355328 := hb
  by_cases hl : ts.length = us.length
  · have hl' : (ts.length : Int) = us.length := by omega
    generalize hR : eqL ts us = R
    refine acall_of_awp Tryz.func13 Tryz.call13 rfl (by simp [Tryz.ntmps13]) ?_; simp only [Tryz.ntmps13, Tryz.results13]
    repeat' (first | (refine awK fun _ _ => ?_) | refine Hide.go (by assumption) ?_ | (fail_if_success with_reducible (refine Owe.mk ?_)); (simp (disch := omega) [go_sem, hl]))
    refine awp_for [0, 1, 12] [] (fun i : Nat => [(13, nt .i64 i)]) (fun i : Nat => []) (fun i : Nat => ts.length - i) (fun i : Nat => i ≤ ts.length ∧ eqL (ts.drop i) (us.drop i) = R) (0) (Le.sub4 rfl (by simp [go_sem, hl])) ⟨?_⟩ ?_
    · exact ⟨Nat.zero_le _, by simpa using hR⟩
    intro i ⟨hi, hc⟩ AA hAA; simp only [kL, Nat.reduceBEq, Nat.reduceEqDiff, if_true, if_false, List.cons_append, List.nil_append, List.append_nil]
    by_cases h1 : i < us.length
    · have h2 : i < ts.length := by omega
      have hu := h ts[i] (List.getElem_mem h2) us[i]
      rw [List.drop_eq_getElem_cons h2, List.drop_eq_getElem_cons h1] at hc
      simp only [eqL] at hc
      cases hq : eqT ts[i] us[i] with
      | true =>
        rw [hq] at hu hc
        simp only [Bool.true_and] at hc
        repeat' (first | (refine awK fun _ _ => ?_) | refine Hide.go (by assumption) ?_ | refine dstepK_is rfl (hu) rfl (by simp) ?_ | refine (hAA.next (i + 1) (Le.sub4 rfl (by simp [go_sem])) (by (try dsimp only); omega) ?_) | (fail_if_success with_reducible (refine Owe.mk ?_)); (simp (disch := omega) [go_sem, h1, h2]) | refine awp_draw 10 mix (by decide +kernel) ?_)
        exact ⟨⟨by omega, hc⟩⟩
      | false =>
        rw [hq] at hu hc
        simp only [Bool.false_and] at hc
        subst hc
        repeat' (first | (refine awK fun _ _ => ?_) | refine Hide.go (by assumption) ?_ | refine end_ret [] ?_; simp [go_sem, h1, h2] | refine dstepK_is rfl (hu) rfl (by simp) ?_ | (fail_if_success with_reducible (refine Owe.mk ?_)); (simp (disch := omega) [go_sem, h1, h2]) | refine awp_draw 10 mix (by decide +kernel) ?_)
    · have e1 : us.drop i = [] := List.drop_of_length_le (by omega)
      have e2 : ts.drop i = [] := List.drop_of_length_le (by omega)
      rw [e1, e2] at hc
      simp only [eqL] at hc
      subst hc
      repeat' (first | (refine awK fun _ _ => ?_) | refine Hide.go (by assumption) ?_ | refine end_ret [] ?_; simp [go_sem, h1] | (fail_if_success with_reducible (refine Owe.mk ?_)); (simp (disch := omega) [go_sem, h1]))
  · rw [eqL_len hl]
    have hl' : ¬ (ts.length : Int) = us.length := by omega
    refine acall_of_awp Tryz.func13 Tryz.call13 rfl (by simp [Tryz.ntmps13]) ?_; simp only [Tryz.ntmps13, Tryz.results13]
    repeat' (first | (refine awK fun _ _ => ?_) | refine Hide.go (by assumption) ?_ | refine end_ret [] ?_; simp [go_sem, hl'] | (fail_if_success with_reducible (refine Owe.mk ?_)); (simp (disch := omega) [go_sem, hl']))
theorem plainTerm_ok : ∀ a b : Tm, ACall Tryz.prog 37 [eT a, eT b] (fun r => r = bl (eqT a b)) := by
  refine tm_ind fun a ih b => ?_
  have h1 := plainTerms_of a.args b.args false false false false ih
  rw [eqT_eq]
  generalize eqL a.args b.args = c at *
  clear ih
  refine acall_of_awp Tryz.func37 Tryz.call37 rfl (by simp [Tryz.ntmps37]) ?_; simp only [Tryz.ntmps37, Tryz.results37]
  by_cases h : a.name = b.name
  · repeat' (first | (refine awK fun _ _ => ?_) | refine Hide.go (by assumption) ?_ | refine end_ret [] ?_; simp [go_sem, h] | refine stepK_is rfl (h1) (by simp) ?_ | (fail_if_success with_reducible (refine Owe.mk ?_)); (simp (disch := omega) [go_sem, h]))
  · repeat' (first | (refine awK fun _ _ => ?_) | refine Hide.go (by assumption) ?_ | refine end_ret [] ?_; simp [go_sem, h] | (fail_if_success with_reducible (refine Owe.mk ?_)); (simp (disch := omega) [go_sem, h]))
theorem plainTerms_ok (ts us : List Tm) (l f l' f' : Bool) : ACall Tryz.prog 13 [.list l f (ts.map eTm), .list l' f' (us.map eTm)] (fun r => r = bl (eqL ts us)) :=
  plainTerms_of ts us l f l' f' fun t _ u => plainTerm_ok t u
def thn (x y : Int) : Int := if x ≠ 0 then x else y
def TR (ab bc ac : Int) : Prop := ab ≤ 0 → bc ≤ 0 → ac ≤ 0 ∧ (ac = 0 → ab = 0 ∧ bc = 0)
theorem thn_TR {a b c x y z : Int} (h : TR a b c) (k : TR x y z) : TR (thn a x) (thn b y) (thn c z) := by
  unfold TR thn at *
  intro h1 h2
  have ha : a ≤ 0 := by split at h1 <;> omega
  have hb : b ≤ 0 := by split at h2 <;> omega
  have hh := h ha hb
  by_cases hc : c = 0
  · have := hh.2 hc
    simp only [this, hc] at *
    simpa using k (by simpa using h1) (by simpa using h2)
  · rw [if_pos hc]
    exact ⟨hh.1, fun e => absurd e hc⟩
theorem ord_zero {a b : Int} : ord a b = 0 ↔ a = b := by unfold ord; split <;> (try split) <;> simp <;> omega
theorem ord_neg (a b : Int) : ord b a = -ord a b := by unfold ord; split <;> split <;> (try split) <;> omega
theorem ord_TR (a b c : Int) : TR (ord a b) (ord b c) (ord a c) := by
  unfold TR ord
  intro h1 h2
  split <;> (try split) <;> (split at h1 <;> (try split at h1)) <;> (split at h2 <;> (try split at h2)) <;> (try split) <;> (try split) <;> (try split) <;> (try split) <;> simp <;> omega
theorem strC_TR (a b c : ByteArray) : TR (strC a b) (strC b c) (strC a c) := by
  intro h1 h2
  refine ⟨strC_trans h1 h2, fun h => ?_⟩
  have e := strC_zero.1 h
  subst e
  have := strC_neg a b
  have hz : strC a b = 0 := by omega
  exact ⟨hz, by omega⟩
theorem cmpT_thn (a b : Tm) : cmpT a b = thn (ord (kd a).1 (kd b).1) (thn (ord (kd a).2.1 (kd b).2.1) (thn (ord (kd a).2.2.1 (kd b).2.2.1) (thn (strC (kd a).2.2.2 (kd b).2.2.2) (cmpL a.args b.args)))) := by
  rw [cmpT_eq]
  generalize kd a = x
  generalize kd b = y
  obtain ⟨x1, x2, x3, x4⟩ := x
  obtain ⟨y1, y2, y3, y4⟩ := y
  dsimp only
  by_cases q1 : x1 = y1
  · subst q1
    have e1 : ord x1 x1 = 0 := ord_zero.2 rfl
    by_cases q2 : x2 = y2
    · subst q2
      have e2 : ord x2 x2 = 0 := ord_zero.2 rfl
      by_cases q3 : x3 = y3
      · subst q3
        have e3 : ord x3 x3 = 0 := ord_zero.2 rfl
        by_cases q4 : x4 = y4
        · subst q4; simp [thn, e1, e2, e3, strC_self]
        · have : strC x4 y4 ≠ 0 := fun h => q4 (strC_zero.1 h)
          simp [thn, e1, e2, e3, q4, this]
      · have : ord x3 y3 ≠ 0 := fun h => q3 (ord_zero.1 h)
        simp [thn, e1, e2, q3, this]
    · have : ord x2 y2 ≠ 0 := fun h => q2 (ord_zero.1 h)
      simp [thn, e1, q2, this]
  · have : ord x1 y1 ≠ 0 := fun h => q1 (ord_zero.1 h)
    simp [thn, q1, this]
theorem cmpL_cons (t u : Tm) (r q : List Tm) : cmpL (t :: r) (u :: q) = thn (cmpT t u) (cmpL r q) := rfl
theorem thn_neg {x y x' y' : Int} (h : x' = -x) (k : y' = -y) : thn x' y' = -thn x y := by
  unfold thn; subst h; subst k; split <;> split <;> omega
theorem thn_zero {x y : Int} : thn x y = 0 ↔ x = 0 ∧ y = 0 := by unfold thn; split <;> omega
theorem cmpL_neg_of {ts : List Tm} : ∀ {us : List Tm}, (∀ t ∈ ts, ∀ u, cmpT u t = -cmpT t u) → cmpL us ts = -cmpL ts us := by
  induction ts with
  | nil => intro us _; cases us <;> simp [cmpL]
  | cons t r ih =>
    intro us h
    cases us with
    | nil => simp [cmpL]
    | cons u q => rw [cmpL_cons, cmpL_cons]; exact thn_neg (h t (by simp) u) (ih fun v hv => h v (by simp [hv]))
theorem cmp_neg : ∀ a b : Tm, cmpT b a = -cmpT a b := by
  refine tm_ind fun a ih b => ?_
  rw [cmpT_thn, cmpT_thn a b]
  exact thn_neg (ord_neg _ _) (thn_neg (ord_neg _ _) (thn_neg (ord_neg _ _) (thn_neg (strC_neg _ _) (cmpL_neg_of ih))))
theorem cmpL_TR_of {ts : List Tm} : ∀ {us vs : List Tm}, (∀ t ∈ ts, ∀ u v, TR (cmpT t u) (cmpT u v) (cmpT t v)) → TR (cmpL ts us) (cmpL us vs) (cmpL ts vs) := by
  induction ts with
  | nil =>
    intro us vs _
    cases us <;> cases vs <;> simp [cmpL, TR]
  | cons t r ih =>
    intro us vs h
    cases us with
    | nil => intro h1; simp [cmpL] at h1
    | cons u q =>
      cases vs with
      | nil => intro _ h1; simp [cmpL] at h1
      | cons v p =>
        simp only [cmpL_cons]
        exact thn_TR (h t (by simp) u v) (ih fun w hw => h w (by simp [hw]))
theorem cmp_TR : ∀ a b c : Tm, TR (cmpT a b) (cmpT b c) (cmpT a c) := by
  refine tm_ind fun a ih b c => ?_
  rw [cmpT_thn, cmpT_thn b c, cmpT_thn a c]
  exact thn_TR (ord_TR _ _ _) (thn_TR (ord_TR _ _ _) (thn_TR (ord_TR _ _ _) (thn_TR (strC_TR _ _ _) (cmpL_TR_of ih))))
theorem cmpL_neg (ts us : List Tm) : cmpL us ts = -cmpL ts us := cmpL_neg_of fun t _ u => cmp_neg t u
theorem cmpL_TR (ts us vs : List Tm) : TR (cmpL ts us) (cmpL us vs) (cmpL ts vs) := cmpL_TR_of fun t _ u v => cmp_TR t u v
theorem bytes_ext {a b : ByteArray} (h : a.size = b.size) (k : ∀ i, i < a.size → bt a i = bt b i) : a = b := by
  obtain ⟨⟨a⟩⟩ := a
  obtain ⟨⟨b⟩⟩ := b
  have hl : a.length = b.length := h
  congr 2
  refine List.ext_getElem hl fun i h1 h2 => ?_
  have := k i h1
  simp only [bt, List.getD_eq_getElem?_getD, List.getElem?_eq_getElem h1, List.getElem?_eq_getElem h2, Option.getD_some] at this
  exact UInt8.toNat_inj.1 (by omega)
theorem numS_inj {s s' : ByteArray} (h1 : (numS s).2 = true) (h2 : (numS s').2 = true) (h : (numS s).1 = (numS s').1) : s = s' := by
  unfold numS at *
  split at h1
  · rename_i c1
    split at h2
    · rename_i c2
      rw [if_pos c1, if_pos c2] at h
      obtain ⟨⟨a1, a2, a3⟩, a4⟩ := c1
      obtain ⟨⟨b1, b2, b3⟩, b4⟩ := c2
      simp only at h
      have d1 : ∀ i, i < s.size → 48 ≤ bt s i ∧ bt s i ≤ 57 := fun i hi => by
        have := List.all_eq_true.1 a4 i (by simpa using hi); simpa using this
      have d2 : ∀ i, i < s'.size → 48 ≤ bt s' i ∧ bt s' i ≤ 57 := fun i hi => by
        have := List.all_eq_true.1 b4 i (by simpa using hi); simpa using this
      have p0 := d1 0 (by omega)
      have q0 := d2 0 (by omega)
      have n1 : s.size = 1 ∨ s.size = 2 ∨ s.size = 3 ∨ s.size = 4 := by omega
      have n2 : s'.size = 1 ∨ s'.size = 2 ∨ s'.size = 3 ∨ s'.size = 4 := by omega
      have key : s.size = s'.size ∧ ∀ i, i < s.size → bt s i = bt s' i := by
        rcases n1 with e1 | e1 | e1 | e1 <;> rcases n2 with e2 | e2 | e2 | e2 <;> rw [e1, e2] at h <;> simp only [valS] at h
        all_goals
          have p1 := fun hh => d1 1 hh
          have p2 := fun hh => d1 2 hh
          have p3 := fun hh => d1 3 hh
          have q1 := fun hh => d2 1 hh
          have q2 := fun hh => d2 2 hh
          have q3 := fun hh => d2 3 hh
          rw [e1] at p1 p2 p3
          rw [e2] at q1 q2 q3
          simp only [Nat.reduceLT, Nat.lt_irrefl, forall_const, false_implies, implies_true] at p1 p2 p3 q1 q2 q3
          refine ⟨by omega, fun i hi => ?_⟩
          have hi4 : i = 0 ∨ i = 1 ∨ i = 2 ∨ i = 3 := by omega
          rcases hi4 with rfl | rfl | rfl | rfl <;> omega
      exact bytes_ext key.1 key.2
    · simp at h2
  · simp at h1
theorem cmpL_zero_of {ts : List Tm} : ∀ {us : List Tm}, (∀ t ∈ ts, ∀ u, cmpT t u = 0 ↔ t = u) → (cmpL ts us = 0 ↔ ts = us) := by
  induction ts with
  | nil => intro us _; cases us <;> simp [cmpL]
  | cons t r ih =>
    intro us h
    cases us with
    | nil => simp [cmpL]
    | cons u q => rw [cmpL_cons, thn_zero, h t (by simp) u, ih fun v hv => h v (by simp [hv])]; simp
theorem cmp_zero : ∀ a b : Tm, cmpT a b = 0 ↔ a = b := by
  refine tm_ind fun a ih b => ?_
  rw [cmpT_thn]
  simp only [thn_zero, ord_zero, strC_zero, cmpL_zero_of ih]
  constructor
  · rintro ⟨h1, h2, h3, h4, h5⟩
    have hn : a.name = b.name := by
      rcases kd_cases a with ⟨a1, a2, a3⟩ | ⟨a1, a2⟩
      · rcases kd_cases b with ⟨b1, b2, b3⟩ | ⟨b1, b2⟩
        · rw [a3, b3] at h2
          exact numS_inj a2 b2 h2
        · exact absurd (by rw [← h1, a3]) b1
      · rcases kd_cases b with ⟨b1, b2, b3⟩ | ⟨b1, b2⟩
        · exact absurd (by rw [h1, b3]) a1
        · rw [a2, b2] at h4; exact h4
    rw [tm_eta a, tm_eta b, hn, h5]
  · rintro rfl; simp
theorem cmpL_zero (ts us : List Tm) : cmpL ts us = 0 ↔ ts = us := cmpL_zero_of fun t _ u => cmp_zero t u
theorem cmp_self (a : Tm) : cmpT a a = 0 := (cmp_zero a a).2 rfl
open Go.Ab
set_option maxRecDepth 100000
def Sasc (l : List Tm) : Prop := l.Pairwise fun a b => cmpT a b < 0
theorem cmp_lt_le {a b c : Tm} (h : cmpT a b < 0) (k : cmpT b c ≤ 0) : cmpT a c < 0 := by
  have := cmp_TR a b c (by omega) k
  omega
theorem cmp_le_lt {a b c : Tm} (h : cmpT a b ≤ 0) (k : cmpT b c < 0) : cmpT a c < 0 := by
  have := cmp_TR a b c h (by omega)
  omega
theorem cmp_pre : Pre cmpT := ⟨fun x y z h k => (cmp_TR x y z h k).1, fun x y h => by rw [cmp_neg x y]; omega⟩
theorem asc_uniq : ∀ {a b : List Tm}, Sasc a → Sasc b → (∀ t, t ∈ a ↔ t ∈ b) → a = b
  | [], [], _, _, _ => rfl
  | [], u :: r, _, _, h => absurd ((h u).2 List.mem_cons_self) (by simp)
  | t :: q, [], _, _, h => absurd ((h t).1 List.mem_cons_self) (by simp)
  | t :: q, u :: r, ha, hb, h => by
    obtain ⟨a1, a2⟩ := List.pairwise_cons.1 ha
    obtain ⟨b1, b2⟩ := List.pairwise_cons.1 hb
    have htu : t = u := by
      rcases List.mem_cons.1 ((h t).1 List.mem_cons_self) with e | e
      · exact e
      · rcases List.mem_cons.1 ((h u).2 List.mem_cons_self) with e2 | e2
        · exact e2.symm
        · have h1 := a1 _ e2
          have h2 := b1 _ e
          rw [cmp_neg t u] at h2
          omega
    subst htu
    congr 1
    refine asc_uniq a2 b2 fun x => ?_
    constructor
    · intro hx
      rcases List.mem_cons.1 ((h x).1 (List.mem_cons_of_mem _ hx)) with e | e
      · subst e; have := a1 _ hx; rw [cmp_self] at this; omega
      · exact e
    · intro hx
      rcases List.mem_cons.1 ((h x).2 (List.mem_cons_of_mem _ hx)) with e | e
      · subst e; have := b1 _ hx; rw [cmp_self] at this; omega
      · exact e
def insT (t : Tm) : List Tm → List Tm
  | [] => [t]
  | u :: r => if cmpT u t < 0 then u :: insT t r else if cmpT u t = 0 then u :: r else t :: u :: r
def sortT (l : List Tm) : List Tm := l.foldl (fun o t => insT t o) []
theorem mem_insT {t x : Tm} : ∀ {o : List Tm}, x ∈ insT t o ↔ x = t ∨ x ∈ o
  | [] => by simp [insT]
  | u :: r => by
    unfold insT
    split
    · simp only [List.mem_cons, mem_insT (o := r)]
      constructor <;> (intro h; rcases h with h | h | h <;> simp [h])
    · split
      · rename_i h0
        have : u = t := (cmp_zero _ _).1 h0
        subst this
        simp
      · simp only [List.mem_cons]
theorem asc_insT {t : Tm} : ∀ {o : List Tm}, Sasc o → Sasc (insT t o)
  | [], _ => by simp [insT, Sasc]
  | u :: r, h => by
    obtain ⟨h1, h2⟩ := List.pairwise_cons.1 h
    unfold insT
    split
    · rename_i hu
      refine List.pairwise_cons.2 ⟨fun x hx => ?_, asc_insT h2⟩
      rcases mem_insT.1 hx with e | e
      · rw [e]; exact hu
      · exact h1 x e
    · split
      · exact h
      · rename_i n1 n2
        have hut : cmpT t u < 0 := by rw [cmp_neg u t]; omega
        refine List.pairwise_cons.2 ⟨fun x hx => ?_, h⟩
        rcases List.mem_cons.1 hx with e | e
        · rw [e]; exact hut
        · exact cmp_lt_le hut (Int.le_of_lt (h1 x e))
theorem foldl_ins : ∀ (l o : List Tm), Sasc o → Sasc (l.foldl (fun o t => insT t o) o) ∧ ∀ x, x ∈ l.foldl (fun o t => insT t o) o ↔ x ∈ l ∨ x ∈ o
  | [], o, h => ⟨h, fun x => by simp⟩
  | t :: r, o, h => by
    obtain ⟨h1, h2⟩ := foldl_ins r (insT t o) (asc_insT h)
    refine ⟨h1, fun x => ?_⟩
    rw [List.foldl_cons, h2, mem_insT, List.mem_cons]
    constructor
    · rintro (a | a | a) <;> simp [a]
    · rintro ((a | a) | a) <;> simp [a]
theorem sort_asc (l : List Tm) : Sasc (sortT l) := (foldl_ins l [] List.Pairwise.nil).1
theorem sort_mem (l : List Tm) (x : Tm) : x ∈ sortT l ↔ x ∈ l := by
  have := (foldl_ins l [] List.Pairwise.nil).2 x
  simpa [sortT] using this
def ddP (l : List Tm) : Nat → List Tm
  | 0 => []
  | i + 1 => match l[i]? with
    | some t => if i = 0 ∨ cmpT (l.getD (i - 1) t) t ≠ 0 then ddP l i ++ [t] else ddP l i
    | none => ddP l i
theorem ddP_next {l : List Tm} {i : Nat} (h : i < l.length) : ddP l (i + 1) = if i = 0 ∨ cmpT (l.getD (i - 1) l[i]) l[i] ≠ 0 then ddP l i ++ [l[i]] else ddP l i := by
  rw [ddP, List.getElem?_eq_getElem h]
theorem ddP_facts {l : List Tm} (hs : SrtOn cmpT l 0 l.length) : ∀ i, i ≤ l.length → Sasc (ddP l i) ∧ ∀ x, x ∈ ddP l i ↔ x ∈ l.take i
  | 0, _ => ⟨List.Pairwise.nil, fun x => by simp [ddP]⟩
  | i + 1, hi => by
    have hlt : i < l.length := by omega
    obtain ⟨h1, h2⟩ := ddP_facts hs i (by omega)
    rw [ddP_next hlt, take_next hlt]
    split
    · rename_i hc
      refine ⟨List.pairwise_append.2 ⟨h1, by simp, fun x hx y hy => ?_⟩, fun x => by simp only [List.mem_append, List.mem_singleton, h2]⟩
      simp only [List.mem_singleton] at hy
      subst hy
      rcases hc with rfl | hc
      · simp [ddP] at hx
      · rw [h2, List.mem_take_iff_getElem] at hx
        obtain ⟨k, hk, rfl⟩ := hx
        have hi0 : i - 1 < l.length := by omega
        have hd : l.getD (i - 1) l[i] = l[i - 1] := by rw [List.getD_eq_getElem?_getD, List.getElem?_eq_getElem hi0]; rfl
        rw [hd] at hc
        have h3 := hs (i - 1) i _ _ (Nat.zero_le _) (by omega) hlt (List.getElem?_eq_getElem hi0) (List.getElem?_eq_getElem hlt)
        have h4 : cmpT l[k] l[i - 1] ≤ 0 := by
          by_cases e : k = i - 1
          · subst e; rw [cmp_self]; exact Int.le_refl _
          · exact hs k (i - 1) _ _ (Nat.zero_le _) (by omega) hi0 (List.getElem?_eq_getElem (by omega)) (List.getElem?_eq_getElem hi0)
        exact cmp_le_lt h4 (by omega)
    · rename_i hc
      simp only [not_or, Decidable.not_not] at hc
      refine ⟨h1, fun x => ?_⟩
      rw [h2]
      simp only [List.mem_append, List.mem_singleton]
      constructor
      · exact .inl
      · rintro (h | rfl)
        · exact h
        · have hi0 : i - 1 < l.length := by omega
          have hd : l.getD (i - 1) l[i] = l[i - 1] := by rw [List.getD_eq_getElem?_getD, List.getElem?_eq_getElem hi0]; rfl
          rw [hd] at hc
          have e := (cmp_zero _ _).1 hc.2
          rw [← e, List.mem_take_iff_getElem]
          exact ⟨i - 1, by omega, rfl⟩
theorem ddP_sort {l m : List Tm} (hp : m.Perm l) (hs : SrtOn cmpT m 0 l.length) : ddP m m.length = sortT l := by
  rw [← hp.length_eq] at hs
  obtain ⟨h1, h2⟩ := ddP_facts hs m.length (Nat.le_refl _)
  refine asc_uniq h1 (sort_asc l) fun x => ?_
  rw [h2, List.take_length, sort_mem, hp.mem_iff]
instance : DecidableEq Tm := fun a b => decidable_of_iff (eqT a b = true) (eqT_iff a b)
set_option maxHeartbeats 8000000
structure Pr where
  fr : ByteArray
  to : ByteArray
abbrev ePr (x : Pr) : AV := .agg [.sc (.string x.fr), .sc (.string x.to)]
def imgS (p : List Pr) (s : ByteArray) : ByteArray := match p.find? (fun x => decide (x.fr = s)) with
  | some x => x.to
  | none => s
theorem imgS_at {p : List Pr} {s : ByteArray} {i : Nat} (h : i < p.length) (he : p[i].fr = s) (hn : ∀ (k : Nat) (hk : k < p.length), k < i → ¬ p[k].fr = s) : imgS p s = p[i].to := by
  have : p.find? (fun x => decide (x.fr = s)) = some p[i] := by
    rw [List.find?_eq_some_iff_getElem]
    exact ⟨by simpa using he, i, h, rfl, fun j hj => by simpa using hn j (by omega) hj⟩
  unfold imgS
  rw [this]
theorem imgS_none {p : List Pr} {s : ByteArray} (hn : ∀ (k : Nat) (hk : k < p.length), k < p.length → ¬ p[k].fr = s) : imgS p s = s := by
  have : p.find? (fun x => decide (x.fr = s)) = none := by
    rw [List.find?_eq_none]
    intro x hx
    obtain ⟨k, hk, rfl⟩ := List.mem_iff_getElem.1 hx
    simpa using hn k hk hk
  unfold imgS
  rw [this]
theorem image_ok (p : List Pr) (s : ByteArray) (le fu : Bool) : ACall Tryz.prog 72 [.list le fu (p.map ePr), .sc (.string s)] (fun r => r = .sc (.string (imgS p s))) := by
  refine ACall.bound (i := 0) rfl Tryz.call72 fun hb => ?_
  rw [List.length_map] at hb
  have hb : p.length ≤ 140737488355328 := hb
  generalize hR : imgS p s = R
  refine acall_of_awp Tryz.func72 Tryz.call72 rfl (by simp [Tryz.ntmps72]) ?_; simp only [Tryz.ntmps72, Tryz.results72]
  repeat' (first | (refine awK fun _ _ => ?_) | refine Hide.go (by assumption) ?_ | (fail_if_success with_reducible (refine Owe.mk ?_)); (simp (disch := omega) [go_sem]))
  refine awp_for [1, 7, 8] [] (fun i : Nat => [(9, nt .i64 i)]) (fun i : Nat => []) (fun i : Nat => p.length - i) (fun i : Nat => i ≤ p.length ∧ ∀ (k : Nat) (hk : k < p.length), k < i → ¬ p[k].fr = s) (0) (Le.sub4 rfl (by simp [go_sem])) ⟨?_⟩ ?_
  · exact ⟨Nat.zero_le _, fun k _ hk => absurd hk (Nat.not_lt_zero _)⟩
  intro i ⟨hi, hn⟩ AA hAA; simp only [kL, Nat.reduceBEq, Nat.reduceEqDiff, if_true, if_false, List.cons_append, List.nil_append, List.append_nil]
  by_cases hlt : i < p.length
  · by_cases hq : p[i].fr = s
    · have hu := imgS_at hlt hq hn
      rw [hR] at hu
      subst hu
      repeat' (first | (refine awK fun _ _ => ?_) | refine Hide.go (by assumption) ?_ | refine end_ret [] ?_; simp [go_sem, hlt, hq] | (fail_if_success with_reducible (refine Owe.mk ?_)); (simp (disch := omega) [go_sem, hlt, hq]))
    · repeat' (first | (refine awK fun _ _ => ?_) | refine Hide.go (by assumption) ?_ | refine (hAA.next (i + 1) (Le.sub4 rfl (by simp [go_sem])) (by (try dsimp only); omega) ?_) | (fail_if_success with_reducible (refine Owe.mk ?_)); (simp (disch := omega) [go_sem, hlt, hq]))
      all_goals (first | omega | skip)
      exact ⟨hlt, fun k hk hki => by rcases Nat.lt_or_eq_of_le (Nat.le_of_lt_succ hki) with h | rfl; exact hn k hk h; exact hq⟩
  · obtain rfl : i = p.length := by omega
    have hu := imgS_none hn
    rw [hR] at hu
    subst hu
    repeat' (first | (refine awK fun _ _ => ?_) | refine Hide.go (by assumption) ?_ | refine end_ret [] ?_; simp [go_sem] | (fail_if_success with_reducible (refine Owe.mk ?_)); (simp (disch := omega) [go_sem]))
theorem refimage_ok (p : List Pr) (s : ByteArray) (le fu : Bool) : ACall Tryz.prog 74 [.list le fu (p.map ePr), .sc (.string s)] (fun r => r = .sc (.string (imgS p s))) := by
  refine ACall.bound (i := 0) rfl Tryz.call74 fun hb => ?_
  rw [List.length_map] at hb
  have hb : p.length ≤ 140737488355328 := hb
  generalize hR : imgS p s = R
  refine acall_of_awp Tryz.func74 Tryz.call74 rfl (by simp [Tryz.ntmps74]) ?_; simp only [Tryz.ntmps74, Tryz.results74]
  repeat' (first | (refine awK fun _ _ => ?_) | refine Hide.go (by assumption) ?_ | (fail_if_success with_reducible (refine Owe.mk ?_)); (simp (disch := omega) [go_sem]))
  refine awp_for [0, 1] [] (fun i : Nat => [(5, nt .i64 i)]) (fun i : Nat => []) (fun i : Nat => p.length - i) (fun i : Nat => i ≤ p.length ∧ ∀ (k : Nat) (hk : k < p.length), k < i → ¬ p[k].fr = s) (0) (Le.sub4 rfl (by simp [go_sem])) ⟨?_⟩ ?_
  · exact ⟨Nat.zero_le _, fun k _ hk => absurd hk (Nat.not_lt_zero _)⟩
  intro i ⟨hi, hn⟩ AA hAA; simp only [kL, Nat.reduceBEq, Nat.reduceEqDiff, if_true, if_false, List.cons_append, List.nil_append, List.append_nil]
  by_cases hlt : i < p.length
  · by_cases hq : p[i].fr = s
    · have hu := imgS_at hlt hq hn
      rw [hR] at hu
      subst hu
      repeat' (first | (refine awK fun _ _ => ?_) | refine Hide.go (by assumption) ?_ | refine end_ret [] ?_; simp [go_sem, hlt, hq] | (fail_if_success with_reducible (refine Owe.mk ?_)); (simp (disch := omega) [go_sem, hlt, hq]))
    · repeat' (first | (refine awK fun _ _ => ?_) | refine Hide.go (by assumption) ?_ | refine (hAA.next (i + 1) (Le.sub4 rfl (by simp [go_sem])) (by (try dsimp only); omega) ?_) | (fail_if_success with_reducible (refine Owe.mk ?_)); (simp (disch := omega) [go_sem, hlt, hq]))
      all_goals (first | omega | skip)
      exact ⟨hlt, fun k hk hki => by rcases Nat.lt_or_eq_of_le (Nat.le_of_lt_succ hki) with h | rfl; exact hn k hk h; exact hq⟩
  · obtain rfl : i = p.length := by omega
    have hu := imgS_none hn
    rw [hR] at hu
    subst hu
    repeat' (first | (refine awK fun _ _ => ?_) | refine Hide.go (by assumption) ?_ | refine end_ret [] ?_; simp [go_sem] | (fail_if_success with_reducible (refine Owe.mk ?_)); (simp (disch := omega) [go_sem]))
theorem clone_ok : ∀ t : Tm, t.size ≤ 1000000 → ACall Tryz.prog 78 [eT t] (fun r => r = eT t) := by
  refine tm_ind fun t ih hsz => ?_
  obtain ⟨s, ts⟩ := t
  simp only [args_mk] at ih
  rw [size_eq, args_mk] at hsz
  have hlen := length_le_sizeL ts
  refine ACall.loose (x := .agg [.sc (.string s), .list false (decide (ts.length = 0)) (ts.map eTm)]) rfl ?_
  refine acall_of_awp Tryz.func78 Tryz.call78 rfl (by simp [Tryz.ntmps78]) ?_; simp only [Tryz.ntmps78, Tryz.results78]
  repeat' (first | (refine awK fun _ _ => ?_) | refine Hide.go (by assumption) ?_ | (fail_if_success with_reducible (refine Owe.mk ?_)); (simp (disch := omega) [go_sem]))
  refine awp_for [2, 3, 10, 11] [3, 900] (fun i : Nat => [(12, nt .i64 i)]) (fun i : Nat => (3, ⟨false, false, false, 2, [.agg [.sc (.string s), if i = 0 then .list false true [] else .ref 900 0 i]], 0⟩) :: (if i = 0 then [] else [(900, ⟨true, false, false, 2, (ts.take i).map eTm, 0⟩)])) (fun i : Nat => ts.length - i) (fun i : Nat => i ≤ ts.length) (0) (Le.sub4 rfl (by simp [go_sem])) ⟨?_⟩ ?_
  · exact Nat.zero_le _
  intro i hi AA hAA; simp only [kL, Nat.reduceBEq, Nat.reduceEqDiff, if_true, if_false, List.cons_append, List.nil_append, List.append_nil]
  have hln : (ts.take i).length = i := by rw [List.length_take]; omega
  by_cases hlt : i < ts.length
  · have hu := ih _ (List.getElem_mem hlt) (by have := size_get hlt; omega)
    have hnx := take_next hlt
    by_cases h0 : i = 0
    · subst h0
      repeat' (first | (refine awK fun _ _ => ?_) | refine Hide.go (by assumption) ?_ | refine dstepK_is rfl (hu) rfl (by simp) ?_ | refine (hAA.next (0 + 1) (Le.renSub [(21, 900)] [(900, 21)] (by simp [go_sem, hnx]) (by simp [go_sem, hnx]) (Le.sub4 rfl (by simp [go_sem, hnx]))) (by (try dsimp only); omega) ?_) | (fail_if_success with_reducible (refine Owe.mk ?_)); (simp (disch := omega) [go_sem, hlt]) | refine awp_draw 4 mix (by decide +kernel) ?_)
      all_goals (first | omega | skip)
      exact ⟨hlt⟩
    · generalize ts.take i = A at *
      repeat' (first | (refine awK fun _ _ => ?_) | refine Hide.go (by assumption) ?_ | refine dstepK_is rfl (hu) rfl (by simp) ?_ | refine (hAA.next (i + 1) (Le.sub4 rfl (by simp [go_sem, hnx, hln])) (by (try dsimp only); omega) ?_) | (fail_if_success with_reducible (refine Owe.mk ?_)); (simp (disch := omega) [go_sem, hlt, h0, hln]) | refine And.intro (by omega) ?_ | refine awp_draw 4 mix (by decide +kernel) ?_)
      all_goals (first | omega | skip)
      exact ⟨hlt⟩
  · obtain rfl : i = ts.length := by omega
    rw [List.take_length]
    by_cases h0 : ts.length = 0
    · obtain rfl := List.eq_nil_of_length_eq_zero h0
      repeat' (first | (refine awK fun _ _ => ?_) | refine Hide.go (by assumption) ?_ | refine end_ret [] ?_; simp [go_sem] | (fail_if_success with_reducible (refine Owe.mk ?_)); (simp (disch := omega) [go_sem]))
    · repeat' (first | (refine awK fun _ _ => ?_) | refine Hide.go (by assumption) ?_ | refine end_ret [] ?_; simp [go_sem, h0] | (fail_if_success with_reducible (refine Owe.mk ?_)); (simp (disch := omega) [go_sem, h0]))
mutual
def tmP (p : List Pr) : Tm → Tm
  | .mk s ts => .mk (if ts.length = 0 then imgS p s else s) (tmPs p ts)
def tmPs (p : List Pr) : List Tm → List Tm
  | [] => []
  | t :: r => tmP p t :: tmPs p r
end
theorem tmPs_map (p : List Pr) : ∀ l : List Tm, tmPs p l = l.map (tmP p)
  | [] => rfl
  | t :: r => by rw [tmPs, tmPs_map p r]; rfl
theorem tmP_mk (p : List Pr) (s : ByteArray) (ts : List Tm) : tmP p (.mk s ts) = .mk (if ts.length = 0 then imgS p s else s) (ts.map (tmP p)) := by rw [tmP, tmPs_map]
def imL (p : List Pr) (l : List Tm) : List Tm := l.map (tmP p)
theorem imL_len {p l} : (imL p l).length = l.length := List.length_map ..
theorem imL_nil {p} : imL p [] = [] := rfl
theorem imL_next {p} {l : List Tm} {i : Nat} (h : i < l.length) : imL p (l.take (i + 1)) = imL p (l.take i) ++ [tmP p l[i]] := by
  unfold imL; rw [take_next h, List.map_append]; rfl
theorem imL_size (p : List Pr) : ∀ t : Tm, (tmP p t).size = t.size := by
  refine tm_ind fun t ih => ?_
  obtain ⟨s, ts⟩ := t
  rw [tmP_mk]
  rw [size_eq, size_eq]
  simp only [args_mk] at *
  congr 1
  induction ts with
  | nil => rfl
  | cons t r ihr => simp only [List.map_cons, sizeL]; rw [ih t (by simp), ihr fun x hx => ih x (by simp [hx])]
theorem arguments_of (p : List Pr) (le fu : Bool) (l : List Tm) (lm fm : Bool) (hb : l.length ≤ 1000000) (h : ∀ t ∈ l, ACall Tryz.prog 34 [.list le fu (p.map ePr), eT t] (fun r => r = eT (tmP p t))) :
    ACall Tryz.prog 73 [.list le fu (p.map ePr), .list lm fm (l.map eTm)] (fun r => r = .own 2 ((imL p l).map eTm)) := by
  refine ACall.own_nil ?_
  refine acall_of_awp Tryz.func73 Tryz.call73 rfl (by simp [Tryz.ntmps73]) ?_; simp only [Tryz.ntmps73, Tryz.results73]
  repeat' (first | (refine awK fun _ _ => ?_) | refine Hide.go (by assumption) ?_ | (fail_if_success with_reducible (refine Owe.mk ?_)); (simp (disch := omega) [go_sem]))
  refine awp_for [0, 8, 9] [900] (fun i : Nat => [(10, nt .i64 i), (5, .ref 900 0 (imL p (l.take i)).length)]) (fun i : Nat => [(900, ⟨true, false, false, 2, (imL p (l.take i)).map eTm, 0⟩)]) (fun i : Nat => l.length - i) (fun i : Nat => i ≤ l.length) (0) (by refine Le.trans ?_ (Le.nil (i := 5) (T := 900) (es := 2) rfl); exact (Le.sub4 rfl (by simp [go_sem, imL_nil, List.take_zero, List.map_nil]))) ⟨?_⟩ ?_
  · exact Nat.zero_le _
  intro i hi AA hAA; simp only [kL, Nat.reduceBEq, Nat.reduceEqDiff, if_true, if_false, List.cons_append, List.nil_append, List.append_nil]
  by_cases hlt : i < l.length
  · have hu := h _ (List.getElem_mem hlt)
    have hnx := imL_next (p := p) hlt
    have hln : (imL p (l.take i)).length = i := by rw [imL_len, List.length_take]; omega
    generalize imL p (l.take i) = A at *
    generalize tmP p l[i] = x at *
    repeat' (first | (refine awK fun _ _ => ?_) | refine Hide.go (by assumption) ?_ | refine stepK_is rfl (hu) (by simp) ?_ | refine (hAA.next (i + 1) (Le.sub4 rfl (by simp [go_sem, hnx, hln])) (by (try dsimp only); omega) ?_) | (fail_if_success with_reducible (refine Owe.mk ?_)); (simp (disch := omega) [go_sem, hlt, hln]) | refine And.intro (by omega) ?_)
    all_goals (first | omega | skip)
    exact ⟨hlt⟩
  · obtain rfl : i = l.length := by omega
    rw [List.take_length]
    repeat' (first | (refine awK fun _ _ => ?_) | refine Hide.go (by assumption) ?_ | refine end_ret [] ?_; simp [go_sem] | (fail_if_success with_reducible (refine Owe.mk ?_)); (simp (disch := omega) [go_sem]))
theorem Term_ok (p : List Pr) (le fu : Bool) : ∀ t : Tm, t.size ≤ 1000000 → ACall Tryz.prog 34 [.list le fu (p.map ePr), eT t] (fun r => r = eT (tmP p t)) := by
  refine tm_ind fun t ih hsz => ?_
  obtain ⟨s, ts⟩ := t
  simp only [args_mk] at ih
  rw [size_eq, args_mk] at hsz
  have hlen := length_le_sizeL ts
  have har := arguments_of p le fu ts false false (by omega) fun t ht => ih t ht (by obtain ⟨i, hi, rfl⟩ := List.mem_iff_getElem.1 ht; have := size_get hi; omega)
  have him := image_ok p s le fu
  rw [tmP_mk]
  have hl2 : (imL p ts).length = ts.length := imL_len
  have hfold : ts.map (tmP p) = imL p ts := rfl
  rw [hfold]
  generalize imgS p s = q at *
  generalize imL p ts = A at *
  by_cases h0 : ts.length = 0
  · obtain rfl := List.eq_nil_of_length_eq_zero h0
    obtain rfl := List.eq_nil_of_length_eq_zero hl2
    refine ACall.loose (x := .agg [.sc (.string q), .list false true []]) rfl ?_
    refine acall_of_awp Tryz.func34 Tryz.call34 rfl (by simp [Tryz.ntmps34]) ?_; simp only [Tryz.ntmps34, Tryz.results34]
    repeat' (first | (refine awK fun _ _ => ?_) | refine Hide.go (by assumption) ?_ | refine end_ret [] ?_; simp [go_sem] | refine stepK_is rfl (him) (by simp) ?_ | (fail_if_success with_reducible (refine Owe.mk ?_)); (simp (disch := omega) [go_sem]))
  · rw [if_neg h0]
    refine acall_of_awp Tryz.func34 Tryz.call34 rfl (by simp [Tryz.ntmps34]) ?_; simp only [Tryz.ntmps34, Tryz.results34]
    repeat' (first | (refine awK fun _ _ => ?_) | refine Hide.go (by assumption) ?_ | refine end_ret [] ?_; simp [go_sem, h0] | refine dstepK_is rfl (har.frz) rfl (by simp) ?_ | (fail_if_success with_reducible (refine Owe.mk ?_)); (simp (disch := omega) [go_sem, h0]) | refine awp_draw 7 mix (by decide +kernel) ?_)
theorem constant29_ok (s : ByteArray) : ACall Tryz.prog 64 [.sc (.string s)] (fun r => r = eT (.mk s [])) := by
  refine ACall.loose (x := .agg [.sc (.string s), .list false true []]) rfl ?_
  refine acall_of_awp Tryz.func64 Tryz.call64 rfl (by simp [Tryz.ntmps64]) ?_; simp only [Tryz.ntmps64, Tryz.results64]
  repeat' (first | (refine awK fun _ _ => ?_) | refine Hide.go (by assumption) ?_ | refine end_ret [] ?_; simp [go_sem] | (fail_if_success with_reducible (refine Owe.mk ?_)); (simp (disch := omega) [go_sem]))
open Go.Ab
set_option maxRecDepth 100000
set_option maxHeartbeats 4000000
theorem set_eTm {l : List Tm} {i : Nat} {x : Tm} : (l.map eTm).set i (.agg [.sc (.string x.name), .list false false (x.args.map eTm)]) = (l.set i x).map eTm := by
  rw [List.map_set, eTm_eq]
theorem ins_ok (f : FuncId) (cf : Tm → Tm → Int) (hp : Pre cf) (kd : Nat) (l : List Tm) (hl : l.length ≤ 140737488355328) (hc : ∀ x ∈ l, ∀ y ∈ l, ACall Tryz.prog f [eT x, eT y] (fun r => r = nt .i64 (cf x y))) (a b : Nat) (hab : a ≤ b) (hb : b ≤ l.length) :
    MCall Tryz.prog 120 [.ref 1000 0 l.length, nt .i64 a, nt .i64 b, .clo f []] [(1000, rowO eTm 2 kd l)] (fun r o' => ∃ l', (Keep l l' a b ∧ SrtOn cf l' a b) ∧ r = .tup [] ∧ o' = [(1000, rowO eTm 2 kd l')]) := by
  refine mcall_of_awpL Tryz.func120 Tryz.call120 rfl (by simp [Tryz.ntmps120]) ?_; simp only [Tryz.ntmps120, Tryz.results120]
  repeat' (first | (refine awK fun _ _ => ?_) | refine Hide.go (by assumption) ?_ | (fail_if_success with_reducible (refine Owe.mk ?_)); (simp (disch := omega) [go_sem]))
  refine awp_for [0, 1, 2, 3] [1000] (fun x : Nat × List Tm => [(8, nt .i64 x.1)]) (fun x : Nat × List Tm => [(1000, rowO eTm 2 kd x.2)]) (fun x : Nat × List Tm => b - x.1) (fun x : Nat × List Tm => a + 1 ≤ x.1 ∧ (x.1 ≤ b ∨ x.1 = a + 1) ∧ Keep l x.2 a b ∧ SrtOn cf x.2 a x.1) ((a + 1, l)) (Le.sub4 rfl (by simp [go_sem])) ⟨?_⟩ ?_
  · exact ⟨Nat.le_refl _, .inr rfl, Keep.refl _ _ _, SrtOn.short (by omega)⟩
  intro ⟨i, l1⟩ ⟨hi, hi2, hk, hs⟩ AA hAA; simp only [kL, Nat.reduceBEq, Nat.reduceEqDiff, if_true, if_false, List.cons_append, List.nil_append, List.append_nil]
  dsimp only at *
  have hlen := hk.len
  by_cases hib : i < b
  · have hAB := hAA
    repeat' (first | (refine awK fun _ _ => ?_) | refine Hide.go (by assumption) ?_ | refine zqd ?_ ?_ <;> (intro h; first | (exfalso; omega) | (simp only [h, decide_true, decide_false, not_false_eq_true])) | (fail_if_success with_reducible (refine Owe.mk ?_)); (simp (disch := omega) [go_sem]))
    refine awp_for [0, 1, 2, 3, 8] [1000] (fun x : Nat × List Tm => [(9, nt .i64 x.1)]) (fun x : Nat × List Tm => [(1000, rowO eTm 2 kd x.2)]) (fun x : Nat × List Tm => x.1) (fun x : Nat × List Tm => a ≤ x.1 ∧ x.1 ≤ i ∧ Keep l x.2 a b ∧ Sink cf x.2 a i x.1) ((i, l1)) (Le.sub4 rfl (by simp [go_sem])) ⟨?_⟩ ?_
    · exact ⟨by omega, Nat.le_refl _, hk, Sink.start hs⟩
    intro ⟨j, l2⟩ ⟨hj, hj2, hk2, hsk⟩ AA hAA; simp only [kL, Nat.reduceBEq, Nat.reduceEqDiff, if_true, if_false, List.cons_append, List.nil_append, List.append_nil]
    dsimp only at *
    have hlen2 := hk2.len
    by_cases hja : a < j
    · obtain ⟨j, rfl⟩ : ∃ j', j = j' + 1 := ⟨j - 1, by omega⟩
      have h1 : j + 1 < l2.length := by omega
      have h0 : j < l2.length := by omega
      have hu := hc l2[j + 1] (hk2.mem.1 (List.getElem_mem h1)) l2[j] (hk2.mem.1 (List.getElem_mem h0))
      have hsw := (swp_eq h1 h0).symm
      by_cases hq : cf l2[j + 1] l2[j] < 0
      · repeat' (first | (refine awK fun _ _ => ?_) | refine Hide.go (by assumption) ?_ | (first | refine zqd ?_ ?_ | refine zdd ?_ ?_) <;> (intro h; first | (exfalso; omega) | (simp only [h, decide_true, decide_false, not_false_eq_true])) | refine dstepK_is rfl (hu) rfl (by simp) ?_ | refine (hAA.next ((j, swp l2 (j + 1) j)) (Le.sub4 rfl (by simp [go_sem, set_eTm, hsw, -List.map_set])) (by (try dsimp only); omega) ?_) | (fail_if_success with_reducible (refine Owe.mk ?_)); (simp (disch := omega) [go_sem, h0, h1]) | refine And.intro (by omega) ?_ | refine awp_draw 15 mix (by decide +kernel) ?_)
        exact ⟨⟨by omega, by omega, hk2.trans (swp_keep ⟨by omega, by omega⟩ ⟨by omega, by omega⟩), hsk.step (by omega) h1 (by omega) (List.getElem?_eq_getElem h1) (List.getElem?_eq_getElem h0) hq⟩⟩
      · repeat' (first | (refine awK fun _ _ => ?_) | refine Hide.go (by assumption) ?_ | (first | refine zqd ?_ ?_ | refine zdd ?_ ?_) <;> (intro h; first | (exfalso; omega) | (simp only [h, decide_true, decide_false, not_false_eq_true])) | refine dstepK_is rfl (hu) rfl (by simp) ?_ | refine (hAB.next ((i + 1, l2)) (Le.sub4 rfl (by simp [go_sem])) (by (try dsimp only); omega) ?_) | (fail_if_success with_reducible (refine Owe.mk ?_)); (simp (disch := omega) [go_sem, h0, h1]) | refine And.intro (by omega) ?_ | refine awp_draw 15 mix (by decide +kernel) ?_)
        exact ⟨⟨by omega, by omega, hk2, hsk.stop hp (by omega) (.inr fun x y hx hy => by
          rw [List.getElem?_eq_getElem h1] at hx
          rw [Nat.add_sub_cancel, List.getElem?_eq_getElem h0] at hy
          cases hx; cases hy; exact hq)⟩⟩
    · repeat' (first | (refine awK fun _ _ => ?_) | refine Hide.go (by assumption) ?_ | refine zdd ?_ ?_ <;> (intro h; first | (exfalso; omega) | (simp only [h, decide_true, decide_false, not_false_eq_true])) | refine (hAB.next ((i + 1, l2)) (Le.sub4 rfl (by simp [go_sem])) (by (try dsimp only); omega) ?_) | (fail_if_success with_reducible (refine Owe.mk ?_)); (simp (disch := omega) [go_sem]) | refine awp_draw 15 mix (by decide +kernel) ?_)
      exact ⟨⟨by omega, by omega, hk2, hsk.stop hp (by omega) (.inl (by omega))⟩⟩
  · repeat' (first | (refine awK fun _ _ => ?_) | refine Hide.go (by assumption) ?_ | refine zqd ?_ ?_ <;> (intro h; first | (exfalso; omega) | (simp only [h, decide_true, decide_false, not_false_eq_true])) | (fail_if_success with_reducible (refine Owe.mk ?_)); (simp (disch := omega) [go_sem]))
    refine endL_normal ⟨53, [], [(1000, rowO eTm 2 kd l1)]⟩ [] (Le.renSub [] [] (by simp [go_sem]) (by simp [go_sem]) (Le.sub4 rfl (by simp [go_sem]))) (by simp [go_sem]) ⟨l1, ⟨hk, hs.sub (Nat.le_refl _) (by omega)⟩, rfl, rfl⟩
end Go.Proofs.YtmadpbpmcbdboaaGreat
