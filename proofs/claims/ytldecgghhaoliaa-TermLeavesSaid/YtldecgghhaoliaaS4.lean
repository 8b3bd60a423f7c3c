import Derived.Test.YtldecgghhaoliaaS2
import Derived.Test.YtldecgghhaoliaaS3
set_option linter.unusedSimpArgs false
set_option linter.unusedVariables false
namespace Go.Proofs.Ytldecgghhaoliaa
open Go.Ab
set_option maxRecDepth 100000
set_option maxHeartbeats 8000000
def idxS (l : List ByteArray) (s : ByteArray) : Int := if l.findIdx (fun u => decide (u = s)) < l.length then l.findIdx (fun u => decide (u = s)) else -1
theorem idxS_at {l : List ByteArray} {s : ByteArray} {i : Nat} (h : i < l.length) (he : l[i] = s) (hn : ∀ (k : Nat) (hk : k < l.length), k < i → ¬ l[k] = s) : idxS l s = i := by
  have e : l.findIdx (fun u => decide (u = s)) = i := by
    rw [List.findIdx_eq h]
    exact ⟨by simp [he], fun j hj => by simpa using hn j (by omega) hj⟩
  unfold idxS
  rw [e, if_pos h]
theorem idxS_none {l : List ByteArray} {s : ByteArray} (hn : ∀ (k : Nat) (hk : k < l.length), k < l.length → ¬ l[k] = s) : idxS l s = -1 := by
  unfold idxS
  rw [if_neg]
  intro h
  have := List.findIdx_getElem (w := h)
  simp only [decide_eq_true_eq] at this
  exact hn _ h h this
theorem idxS_mem {l : List ByteArray} {s : ByteArray} : 0 ≤ idxS l s ↔ s ∈ l := by
  unfold idxS
  by_cases h : s ∈ l
  · have : l.findIdx (fun u => decide (u = s)) < l.length := by
      rw [List.findIdx_lt_length]; exact ⟨s, h, by simp⟩
    rw [if_pos this]
    simp [h]
  · rw [if_neg]
    · simp [h]
    · rw [List.findIdx_lt_length]
      rintro ⟨u, hu, he⟩
      simp only [decide_eq_true_eq] at he
      exact h (he ▸ hu)
theorem Index_ok (l : List ByteArray) (s : ByteArray) (le fu : Bool) : ACall Try.prog 81 [.list le fu (l.map eStr), .sc (.string s)] (fun r => r = nt .i64 (idxS l s)) := by
  refine ACall.bound (i := 0) rfl Try.call81 fun hb => ?_
  rw [List.length_map] at hb
  have hb : l.length ≤ 140737488355328 := hb
  generalize hR : idxS l s = R
  refine acall_of_awp Try.func81 Try.call81 rfl (by simp [Try.ntmps81]) ?_; simp only [Try.ntmps81, Try.results81]
  repeat' (first | (refine awK fun _ _ => ?_) | refine Hide.go (by assumption) ?_ | (first | refine zqd ?_ ?_ | refine zqn ?_ ?_ | refine zgd ?_ ?_ | refine zgn ?_ ?_ | refine zdd ?_ ?_ | refine zdn ?_ ?_) <;> (intro h; first | (exfalso; omega) | (simp only [h, decide_true, decide_false, not_false_eq_true]) | skip) | refine end_ret [] ?_; simp [go_sem] | (fail_if_success with_reducible (refine Owe.mk ?_)); (simp (disch := omega) [go_sem]) | refine And.intro (by omega) ?_ | refine And.intro (And.intro (by assumption) (by omega)) ?_ | (refine nbI fun bq => ?_) | (first | refine zqm ?_ ?_ | refine zgm ?_ ?_ | refine zdm ?_ ?_) <;> (intro h; simp only [h, Bool.not_true, Bool.not_false]) | (first | refine zqs ?_ ?_ | refine zgs ?_ ?_ | refine zds ?_ ?_) <;> (intro h; first | (exfalso; simp at h; omega) | ((try simp only [h]); (try simp at h))))
  refine awp_for [0, 1, 7] [] (fun i : Nat => [(8, nt .i64 i)]) (fun i : Nat => []) (fun i : Nat => l.length - i) (fun i : Nat => i ≤ l.length ∧ ∀ (k : Nat) (hk : k < l.length), k < i → ¬ l[k] = s) (0) (Le.sub4 rfl (by simp [go_sem])) ⟨?_⟩ ?_
  · exact ⟨Nat.zero_le _, fun k _ hk => absurd hk (Nat.not_lt_zero _)⟩
  intro i ⟨hi, hn⟩ AA hAA; simp only [kL, Nat.reduceBEq, Nat.reduceEqDiff, if_true, if_false, List.cons_append, List.nil_append, List.append_nil]
  by_cases hlt : i < l.length
  · by_cases hq : l[i] = s
    · have hu := idxS_at hlt hq hn
      rw [hR] at hu
      subst hu
      have hq' : s = l[i] := hq.symm
      repeat' (first | (refine awK fun _ _ => ?_) | refine Hide.go (by assumption) ?_ | (first | refine zqd ?_ ?_ | refine zqn ?_ ?_ | refine zgd ?_ ?_ | refine zgn ?_ ?_ | refine zdd ?_ ?_ | refine zdn ?_ ?_) <;> (intro h; first | (exfalso; omega) | (simp only [h, decide_true, decide_false, not_false_eq_true]) | skip) | refine end_ret [] ?_; simp [go_sem, hlt, eStr, hq'] | (fail_if_success with_reducible (refine Owe.mk ?_)); (simp (disch := omega) [go_sem, hlt, eStr, hq']) | refine And.intro (by omega) ?_ | refine And.intro (And.intro (by assumption) (by omega)) ?_ | (refine nbI fun bq => ?_) | (first | refine zqm ?_ ?_ | refine zgm ?_ ?_ | refine zdm ?_ ?_) <;> (intro h; simp only [h, Bool.not_true, Bool.not_false]) | (first | refine zqs ?_ ?_ | refine zgs ?_ ?_ | refine zds ?_ ?_) <;> (intro h; first | (exfalso; simp at h; omega) | ((try simp only [h]); (try simp at h))))
    · have hq' : ¬ s = l[i] := fun h => hq h.symm
      repeat' (first | (refine awK fun _ _ => ?_) | refine Hide.go (by assumption) ?_ | (first | refine zqd ?_ ?_ | refine zqn ?_ ?_ | refine zgd ?_ ?_ | refine zgn ?_ ?_ | refine zdd ?_ ?_ | refine zdn ?_ ?_) <;> (intro h; first | (exfalso; omega) | (simp only [h, decide_true, decide_false, not_false_eq_true]) | skip) | refine end_ret [] ?_; simp [go_sem, hlt, eStr, hq'] | refine (hAA.next (i + 1) (Le.sub4 rfl (by simp [go_sem])) (by (try dsimp only); omega) ?_) | (fail_if_success with_reducible (refine Owe.mk ?_)); (simp (disch := omega) [go_sem, hlt, eStr, hq']) | refine And.intro (by omega) ?_ | refine And.intro (And.intro (by assumption) (by omega)) ?_ | (refine nbI fun bq => ?_) | (first | refine zqm ?_ ?_ | refine zgm ?_ ?_ | refine zdm ?_ ?_) <;> (intro h; simp only [h, Bool.not_true, Bool.not_false]) | (first | refine zqs ?_ ?_ | refine zgs ?_ ?_ | refine zds ?_ ?_) <;> (intro h; first | (exfalso; simp at h; omega) | ((try simp only [h]); (try simp at h))))
      all_goals (first | omega | skip)
      exact ⟨hlt, fun k hk hki => by rcases Nat.lt_or_eq_of_le (Nat.le_of_lt_succ hki) with h | rfl; exact hn k hk h; exact hq⟩
  · obtain rfl : i = l.length := by omega
    have hu := idxS_none hn
    rw [hR] at hu
    subst hu
    repeat' (first | (refine awK fun _ _ => ?_) | refine Hide.go (by assumption) ?_ | (first | refine zqd ?_ ?_ | refine zqn ?_ ?_ | refine zgd ?_ ?_ | refine zgn ?_ ?_ | refine zdd ?_ ?_ | refine zdn ?_ ?_) <;> (intro h; first | (exfalso; omega) | (simp only [h, decide_true, decide_false, not_false_eq_true]) | skip) | refine end_ret [] ?_; simp [go_sem] | (fail_if_success with_reducible (refine Owe.mk ?_)); (simp (disch := omega) [go_sem]) | refine And.intro (by omega) ?_ | refine And.intro (And.intro (by assumption) (by omega)) ?_ | (refine nbI fun bq => ?_) | (first | refine zqm ?_ ?_ | refine zgm ?_ ?_ | refine zdm ?_ ?_) <;> (intro h; simp only [h, Bool.not_true, Bool.not_false]) | (first | refine zqs ?_ ?_ | refine zgs ?_ ?_ | refine zds ?_ ?_) <;> (intro h; first | (exfalso; simp at h; omega) | ((try simp only [h]); (try simp at h))))
def hasS (l : List ByteArray) (s : ByteArray) : Bool := l.any fun u => decide (u = s)
theorem hasS_iff {l : List ByteArray} {s : ByteArray} : hasS l s = true ↔ s ∈ l := by
  unfold hasS
  rw [List.any_eq_true]
  constructor
  · rintro ⟨u, hu, he⟩
    simp only [decide_eq_true_eq] at he
    exact he ▸ hu
  · intro h
    exact ⟨s, h, by simp⟩
theorem Contains_ok (l : List ByteArray) (s : ByteArray) (le fu : Bool) : ACall Try.prog 66 [.list le fu (l.map eStr), .sc (.string s)] (fun r => r = bl (hasS l s)) := by
  have h := Index_ok l s le fu
  rw [show hasS l s = decide (0 ≤ idxS l s) from by rw [Bool.eq_iff_iff, hasS_iff, decide_eq_true_eq]; exact idxS_mem.symm]
  generalize idxS l s = R at *
  refine acall_of_awp Try.func66 Try.call66 rfl (by simp [Try.ntmps66]) ?_; simp only [Try.ntmps66, Try.results66]
  repeat' (first | (refine awK fun _ _ => ?_) | refine Hide.go (by assumption) ?_ | (first | refine zqd ?_ ?_ | refine zqn ?_ ?_ | refine zgd ?_ ?_ | refine zgn ?_ ?_ | refine zdd ?_ ?_ | refine zdn ?_ ?_) <;> (intro h; first | (exfalso; omega) | (simp only [h, decide_true, decide_false, not_false_eq_true]) | skip) | refine end_ret [] ?_; simp [go_sem] | refine stepK_is rfl (h) (by simp) ?_ | refine dstepK_is rfl (h) rfl (by simp) ?_ | (fail_if_success with_reducible (refine Owe.mk ?_)); (simp (disch := omega) [go_sem]) | refine And.intro (by omega) ?_ | refine And.intro (And.intro (by assumption) (by omega)) ?_ | (refine nbI fun bq => ?_) | (first | refine zqm ?_ ?_ | refine zgm ?_ ?_ | refine zdm ?_ ?_) <;> (intro h; simp only [h, Bool.not_true, Bool.not_false]) | (first | refine zqs ?_ ?_ | refine zgs ?_ ?_ | refine zds ?_ ?_) <;> (intro h; first | (exfalso; simp at h; omega) | ((try simp only [h]); (try simp at h))))
theorem Has_ok (l : List ByteArray) (s : ByteArray) (le fu : Bool) : ACall Try.prog 68 [.list le fu (l.map eStr), .sc (.string s)] (fun r => r = bl (hasS l s)) := by
  refine ACall.bound (i := 0) rfl Try.call68 fun hb => ?_
  rw [List.length_map] at hb
  have hb : l.length ≤ 140737488355328 := hb
  generalize hR : hasS l s = R
  refine acall_of_awp Try.func68 Try.call68 rfl (by simp [Try.ntmps68]) ?_; simp only [Try.ntmps68, Try.results68]
  repeat' (first | (refine awK fun _ _ => ?_) | refine Hide.go (by assumption) ?_ | (first | refine zqd ?_ ?_ | refine zqn ?_ ?_ | refine zgd ?_ ?_ | refine zgn ?_ ?_ | refine zdd ?_ ?_ | refine zdn ?_ ?_) <;> (intro h; first | (exfalso; omega) | (simp only [h, decide_true, decide_false, not_false_eq_true]) | skip) | refine end_ret [] ?_; simp [go_sem] | (fail_if_success with_reducible (refine Owe.mk ?_)); (simp (disch := omega) [go_sem]) | refine And.intro (by omega) ?_ | refine And.intro (And.intro (by assumption) (by omega)) ?_ | (refine nbI fun bq => ?_) | (first | refine zqm ?_ ?_ | refine zgm ?_ ?_ | refine zdm ?_ ?_) <;> (intro h; simp only [h, Bool.not_true, Bool.not_false]) | (first | refine zqs ?_ ?_ | refine zgs ?_ ?_ | refine zds ?_ ?_) <;> (intro h; first | (exfalso; simp at h; omega) | ((try simp only [h]); (try simp at h))))
  refine awp_for [0, 1, 7] [] (fun i : Nat => [(8, nt .i64 i)]) (fun i : Nat => []) (fun i : Nat => l.length - i) (fun i : Nat => i ≤ l.length ∧ ∀ (k : Nat) (hk : k < l.length), k < i → ¬ l[k] = s) (0) (Le.sub4 rfl (by simp [go_sem])) ⟨?_⟩ ?_
  · exact ⟨Nat.zero_le _, fun k _ hk => absurd hk (Nat.not_lt_zero _)⟩
  intro i ⟨hi, hn⟩ AA hAA; simp only [kL, Nat.reduceBEq, Nat.reduceEqDiff, if_true, if_false, List.cons_append, List.nil_append, List.append_nil]
  by_cases hlt : i < l.length
  · by_cases hq : l[i] = s
    · have hu : R = true := by rw [← hR, hasS_iff, ← hq]; exact List.getElem_mem hlt
      subst hu
      repeat' (first | (refine awK fun _ _ => ?_) | refine Hide.go (by assumption) ?_ | (first | refine zqd ?_ ?_ | refine zqn ?_ ?_ | refine zgd ?_ ?_ | refine zgn ?_ ?_ | refine zdd ?_ ?_ | refine zdn ?_ ?_) <;> (intro h; first | (exfalso; omega) | (simp only [h, decide_true, decide_false, not_false_eq_true]) | skip) | refine end_ret [] ?_; simp [go_sem, hlt, eStr, hq] | (fail_if_success with_reducible (refine Owe.mk ?_)); (simp (disch := omega) [go_sem, hlt, eStr, hq]) | refine And.intro (by omega) ?_ | refine And.intro (And.intro (by assumption) (by omega)) ?_ | (refine nbI fun bq => ?_) | (first | refine zqm ?_ ?_ | refine zgm ?_ ?_ | refine zdm ?_ ?_) <;> (intro h; simp only [h, Bool.not_true, Bool.not_false]) | (first | refine zqs ?_ ?_ | refine zgs ?_ ?_ | refine zds ?_ ?_) <;> (intro h; first | (exfalso; simp at h; omega) | ((try simp only [h]); (try simp at h))))
    · repeat' (first | (refine awK fun _ _ => ?_) | refine Hide.go (by assumption) ?_ | (first | refine zqd ?_ ?_ | refine zqn ?_ ?_ | refine zgd ?_ ?_ | refine zgn ?_ ?_ | refine zdd ?_ ?_ | refine zdn ?_ ?_) <;> (intro h; first | (exfalso; omega) | (simp only [h, decide_true, decide_false, not_false_eq_true]) | skip) | refine end_ret [] ?_; simp [go_sem, hlt, eStr, hq] | refine (hAA.next (i + 1) (Le.sub4 rfl (by simp [go_sem])) (by (try dsimp only); omega) ?_) | (fail_if_success with_reducible (refine Owe.mk ?_)); (simp (disch := omega) [go_sem, hlt, eStr, hq]) | refine And.intro (by omega) ?_ | refine And.intro (And.intro (by assumption) (by omega)) ?_ | (refine nbI fun bq => ?_) | (first | refine zqm ?_ ?_ | refine zgm ?_ ?_ | refine zdm ?_ ?_) <;> (intro h; simp only [h, Bool.not_true, Bool.not_false]) | (first | refine zqs ?_ ?_ | refine zgs ?_ ?_ | refine zds ?_ ?_) <;> (intro h; first | (exfalso; simp at h; omega) | ((try simp only [h]); (try simp at h))))
      all_goals (first | omega | skip)
      exact ⟨hlt, fun k hk hki => by rcases Nat.lt_or_eq_of_le (Nat.le_of_lt_succ hki) with h | rfl; exact hn k hk h; exact hq⟩
  · obtain rfl : i = l.length := by omega
    have hu : R = false := by
      rw [← hR, Bool.eq_false_iff, ne_eq, hasS_iff, List.mem_iff_getElem]
      rintro ⟨k, hk, he⟩
      exact hn k hk hk he
    subst hu
    repeat' (first | (refine awK fun _ _ => ?_) | refine Hide.go (by assumption) ?_ | (first | refine zqd ?_ ?_ | refine zqn ?_ ?_ | refine zgd ?_ ?_ | refine zgn ?_ ?_ | refine zdd ?_ ?_ | refine zdn ?_ ?_) <;> (intro h; first | (exfalso; omega) | (simp only [h, decide_true, decide_false, not_false_eq_true]) | skip) | refine end_ret [] ?_; simp [go_sem] | (fail_if_success with_reducible (refine Owe.mk ?_)); (simp (disch := omega) [go_sem]) | refine And.intro (by omega) ?_ | refine And.intro (And.intro (by assumption) (by omega)) ?_ | (refine nbI fun bq => ?_) | (first | refine zqm ?_ ?_ | refine zgm ?_ ?_ | refine zdm ?_ ?_) <;> (intro h; simp only [h, Bool.not_true, Bool.not_false]) | (first | refine zqs ?_ ?_ | refine zgs ?_ ?_ | refine zds ?_ ?_) <;> (intro h; first | (exfalso; simp at h; omega) | ((try simp only [h]); (try simp at h))))
def addV (acc : List ByteArray) (s : ByteArray) : List ByteArray := if varS s = true ∧ hasS acc s = false then acc ++ [s] else acc
def varsT (l : List Tm) : List ByteArray := (lvsS l).foldl addV []
def fdV (acc : List ByteArray) (l : List ByteArray) (i : Nat) : List ByteArray := (l.take i).foldl addV acc
theorem fdV_zero {acc l} : fdV acc l 0 = acc := rfl
theorem fdV_next {acc l} {i : Nat} (h : i < l.length) : fdV acc l (i + 1) = addV (fdV acc l i) l[i] := by
  unfold fdV
  rw [take_next h, List.foldl_append]; rfl
theorem fdV_all {acc l} : fdV acc l l.length = l.foldl addV acc := by unfold fdV; rw [List.take_length]
theorem varsT_next {l : List Tm} {i : Nat} (h : i < l.length) : varsT (l.take (i + 1)) = fdV (varsT (l.take i)) (lvs l[i]) (lvs l[i]).length := by
  unfold varsT
  rw [lvsS_next h, List.foldl_append, fdV_all]
theorem addV_le (acc : List ByteArray) (s : ByteArray) : (addV acc s).length ≤ acc.length + 1 := by
  unfold addV; split <;> simp
theorem fdV_le {acc l : List ByteArray} : ∀ i, (fdV acc l i).length ≤ acc.length + i
  | 0 => Nat.le_refl _
  | i + 1 => by
    by_cases h : i < l.length
    · rw [fdV_next h]
      have := addV_le (fdV acc l i) l[i]
      have := fdV_le (acc := acc) (l := l) i
      omega
    · have e : fdV acc l (i + 1) = fdV acc l i := by unfold fdV; rw [List.take_of_length_le (by omega), List.take_of_length_le (by omega)]
      rw [e]
      have := fdV_le (acc := acc) (l := l) i
      omega
theorem varsT_le (l : List Tm) : (varsT l).length ≤ (lvsS l).length := by
  have := fdV_le (acc := []) (l := lvsS l) (lvsS l).length
  rw [fdV_all] at this
  unfold varsT
  simpa using this
theorem varsT_nil : varsT [] = [] := rfl
theorem lvsS_get {l : List Tm} {i : Nat} (h : i < l.length) : (lvs l[i]).length ≤ (lvsS l).length := by
  have := lvsS_take_le l (i + 1)
  rw [lvsS_next h, List.length_append] at this
  omega
theorem Vars_ok (l : List Tm) (le fu : Bool) (hb : (lvsS l).length ≤ 1000000) : ACall Try.prog 39 [.list le fu (l.map eTm)] (fun r => r = .own 1 ((varsT l).map eStr)) := by
  have hge := lvsS_ge l
  refine ACall.own_nil ?_
  refine acall_of_awp Try.func39 Try.call39 rfl (by simp [Try.ntmps39]) ?_; simp only [Try.ntmps39, Try.results39]
  repeat' (first | (refine awK fun _ _ => ?_) | refine Hide.go (by assumption) ?_ | (first | refine zqd ?_ ?_ | refine zqn ?_ ?_ | refine zgd ?_ ?_ | refine zgn ?_ ?_ | refine zdd ?_ ?_ | refine zdn ?_ ?_) <;> (intro h; first | (exfalso; omega) | (simp only [h, decide_true, decide_false, not_false_eq_true]) | skip) | refine end_ret [] ?_; simp [go_sem] | (fail_if_success with_reducible (refine Owe.mk ?_)); (simp (disch := omega) [go_sem]) | refine And.intro (by omega) ?_ | refine And.intro (And.intro (by assumption) (by omega)) ?_ | (refine nbI fun bq => ?_) | (first | refine zqm ?_ ?_ | refine zgm ?_ ?_ | refine zdm ?_ ?_) <;> (intro h; simp only [h, Bool.not_true, Bool.not_false]) | (first | refine zqs ?_ ?_ | refine zgs ?_ ?_ | refine zds ?_ ?_) <;> (intro h; first | (exfalso; simp at h; omega) | ((try simp only [h]); (try simp at h))))
  refine awp_for [8, 9] [900] (fun i : Nat => [(10, nt .i64 i), (3, .ref 900 0 (varsT (l.take i)).length)]) (fun i : Nat => [(900, ⟨true, false, false, 1, (varsT (l.take i)).map eStr, 0⟩)]) (fun i : Nat => l.length - i) (fun i : Nat => i ≤ l.length) (0) (by refine Le.trans ?_ (Le.nil (i := 3) (T := 900) (es := 1) rfl); exact (Le.sub4 rfl (by simp [go_sem, varsT_nil, List.take_zero, List.map_nil]))) ⟨?_⟩ ?_
  · exact Nat.zero_le _
  intro i hi AA hAA; simp only [kL, Nat.reduceBEq, Nat.reduceEqDiff, if_true, if_false, List.cons_append, List.nil_append, List.append_nil]
  by_cases hlt : i < l.length
  · have hB := hAA
    have hlv := lvsS_get hlt
    have hcl := leaves_ok l[i] (by omega)
    have hn := varsT_next hlt
    have hl0 := varsT_le (l.take i)
    have hl2 := lvsS_take_le l (i + 1)
    rw [lvsS_next hlt, List.length_append] at hl2
    generalize varsT (l.take i) = A at *
    generalize lvs l[i] = L at *
    repeat' (first | (refine awK fun _ _ => ?_) | refine Hide.go (by assumption) ?_ | (first | refine zqd ?_ ?_ | refine zqn ?_ ?_ | refine zgd ?_ ?_ | refine zgn ?_ ?_ | refine zdd ?_ ?_ | refine zdn ?_ ?_) <;> (intro h; first | (exfalso; omega) | (simp only [h, decide_true, decide_false, not_false_eq_true]) | skip) | refine end_ret [] ?_; simp [go_sem, hlt] | refine stepK_is rfl (hcl) (by simp) ?_ | refine dstepK_is rfl (hcl) rfl (by simp) ?_ | (fail_if_success with_reducible (refine Owe.mk ?_)); (simp (disch := omega) [go_sem, hlt]) | refine And.intro (by omega) ?_ | refine And.intro (And.intro (by assumption) (by omega)) ?_ | (refine nbI fun bq => ?_) | (first | refine zqm ?_ ?_ | refine zgm ?_ ?_ | refine zdm ?_ ?_) <;> (intro h; simp only [h, Bool.not_true, Bool.not_false]) | (first | refine zqs ?_ ?_ | refine zgs ?_ ?_ | refine zds ?_ ?_) <;> (intro h; first | (exfalso; simp at h; omega) | ((try simp only [h]); (try simp at h))))
    refine awp_for [8, 9, 10, 15, 16] [900, 5] (fun j : Nat => [(17, nt .i64 j), (3, .ref 900 0 (fdV A L j).length)]) (fun j : Nat => [(900, ⟨true, false, false, 1, (fdV A L j).map eStr, 0⟩)]) (fun j : Nat => L.length - j) (fun j : Nat => j ≤ L.length) (0) (Le.renSub [] [] (by simp [go_sem, fdV_zero]) (by simp [go_sem, fdV_zero]) (Le.sub4 rfl (by simp [go_sem, fdV_zero]))) ⟨?_⟩ ?_
    · exact Nat.zero_le _
    intro j hj AA hAA; simp only [kL, Nat.reduceBEq, Nat.reduceEqDiff, if_true, if_false, List.cons_append, List.nil_append, List.append_nil]
    by_cases hjl : j < L.length
    · have hlenT : True := trivial
      have h1 := Variable_ok L[j]
      have h2 := Contains_ok (fdV A L j) L[j] true false
      have hz := fdV_next (acc := A) hjl
      have hfl := fdV_le (acc := A) (l := L) j
      unfold addV at hz
      by_cases hv : varS L[j] = true
      · by_cases hm : hasS (fdV A L j) L[j] = true
        · rw [if_neg (by simp [hm])] at hz
          rw [hv] at h1
          rw [hm] at h2
          generalize fdV A L j = X at *
          repeat' (first | (refine awK fun _ _ => ?_) | refine Hide.go (by assumption) ?_ | (first | refine zqd ?_ ?_ | refine zqn ?_ ?_ | refine zgd ?_ ?_ | refine zgn ?_ ?_ | refine zdd ?_ ?_ | refine zdn ?_ ?_) <;> (intro h; first | (exfalso; omega) | (simp only [h, decide_true, decide_false, not_false_eq_true]) | skip) | refine end_ret [] ?_; simp [go_sem, hjl, eStr, hlenT] | refine stepK_is rfl (h1) (by simp) ?_ | refine dstepK_is rfl (h1) rfl (by simp) ?_ | refine stepK_is rfl (h2) (by simp) ?_ | refine dstepK_is rfl (h2) rfl (by simp) ?_ | refine stepK_is ?hl (h1) (by simp) ?_; (case hl => (simp [go_sem, hjl, eStr, hlenT]; done)) | refine stepK_is ?hl (h2) (by simp) ?_; (case hl => (simp [go_sem, hjl, eStr, hlenT]; done)) | refine dstepK_is ?hl (h1) rfl (by simp) ?_; (case hl => (simp [go_sem, hjl, eStr, hlenT]; done)) | refine dstepK_is ?hl (h2) rfl (by simp) ?_; (case hl => (simp [go_sem, hjl, eStr, hlenT]; done)) | refine (hAA.next (j + 1) (Le.sub4 rfl (by simp [go_sem, hz])) (by (try dsimp only); omega) ?_) | (fail_if_success with_reducible (refine Owe.mk ?_)); (simp (disch := omega) [go_sem, hjl, eStr, hlenT]) | refine And.intro (by omega) ?_ | refine And.intro (And.intro (by assumption) (by omega)) ?_ | (refine nbI fun bq => ?_) | (first | refine zqm ?_ ?_ | refine zgm ?_ ?_ | refine zdm ?_ ?_) <;> (intro h; simp only [h, Bool.not_true, Bool.not_false]) | (first | refine zqs ?_ ?_ | refine zgs ?_ ?_ | refine zds ?_ ?_) <;> (intro h; first | (exfalso; simp at h; omega) | ((try simp only [h]); (try simp at h))))
          all_goals (first | omega | skip)
          exact ⟨hjl⟩
        · have hm := Bool.eq_false_iff.2 hm
          rw [if_pos ⟨hv, hm⟩] at hz
          rw [hv] at h1
          rw [hm] at h2
          generalize fdV A L j = X at *
          repeat' (first | (refine awK fun _ _ => ?_) | refine Hide.go (by assumption) ?_ | (first | refine zqd ?_ ?_ | refine zqn ?_ ?_ | refine zgd ?_ ?_ | refine zgn ?_ ?_ | refine zdd ?_ ?_ | refine zdn ?_ ?_) <;> (intro h; first | (exfalso; omega) | (simp only [h, decide_true, decide_false, not_false_eq_true]) | skip) | refine end_ret [] ?_; simp [go_sem, hjl, eStr, hlenT] | refine stepK_is rfl (h1) (by simp) ?_ | refine dstepK_is rfl (h1) rfl (by simp) ?_ | refine stepK_is rfl (h2) (by simp) ?_ | refine dstepK_is rfl (h2) rfl (by simp) ?_ | refine stepK_is ?hl (h1) (by simp) ?_; (case hl => (simp [go_sem, hjl, eStr, hlenT]; done)) | refine stepK_is ?hl (h2) (by simp) ?_; (case hl => (simp [go_sem, hjl, eStr, hlenT]; done)) | refine dstepK_is ?hl (h1) rfl (by simp) ?_; (case hl => (simp [go_sem, hjl, eStr, hlenT]; done)) | refine dstepK_is ?hl (h2) rfl (by simp) ?_; (case hl => (simp [go_sem, hjl, eStr, hlenT]; done)) | refine (hAA.next (j + 1) (Le.sub4 rfl (by simp [go_sem, hz, eStr])) (by (try dsimp only); omega) ?_) | (fail_if_success with_reducible (refine Owe.mk ?_)); (simp (disch := omega) [go_sem, hjl, eStr, hlenT]) | refine And.intro (by omega) ?_ | refine And.intro (And.intro (by assumption) (by omega)) ?_ | (refine nbI fun bq => ?_) | (first | refine zqm ?_ ?_ | refine zgm ?_ ?_ | refine zdm ?_ ?_) <;> (intro h; simp only [h, Bool.not_true, Bool.not_false]) | (first | refine zqs ?_ ?_ | refine zgs ?_ ?_ | refine zds ?_ ?_) <;> (intro h; first | (exfalso; simp at h; omega) | ((try simp only [h]); (try simp at h))))
          all_goals (first | omega | skip)
          exact ⟨hjl⟩
      · rw [if_neg (by simp [hv])] at hz
        rw [show varS L[j] = false from by simpa using hv] at h1
        generalize fdV A L j = X at *
        repeat' (first | (refine awK fun _ _ => ?_) | refine Hide.go (by assumption) ?_ | (first | refine zqd ?_ ?_ | refine zqn ?_ ?_ | refine zgd ?_ ?_ | refine zgn ?_ ?_ | refine zdd ?_ ?_ | refine zdn ?_ ?_) <;> (intro h; first | (exfalso; omega) | (simp only [h, decide_true, decide_false, not_false_eq_true]) | skip) | refine end_ret [] ?_; simp [go_sem, hjl, eStr, hlenT] | refine stepK_is rfl (h1) (by simp) ?_ | refine dstepK_is rfl (h1) rfl (by simp) ?_ | refine stepK_is rfl (h2) (by simp) ?_ | refine dstepK_is rfl (h2) rfl (by simp) ?_ | refine stepK_is ?hl (h1) (by simp) ?_; (case hl => (simp [go_sem, hjl, eStr, hlenT]; done)) | refine stepK_is ?hl (h2) (by simp) ?_; (case hl => (simp [go_sem, hjl, eStr, hlenT]; done)) | refine dstepK_is ?hl (h1) rfl (by simp) ?_; (case hl => (simp [go_sem, hjl, eStr, hlenT]; done)) | refine dstepK_is ?hl (h2) rfl (by simp) ?_; (case hl => (simp [go_sem, hjl, eStr, hlenT]; done)) | refine (hAA.next (j + 1) (Le.sub4 rfl (by simp [go_sem, hz])) (by (try dsimp only); omega) ?_) | (fail_if_success with_reducible (refine Owe.mk ?_)); (simp (disch := omega) [go_sem, hjl, eStr, hlenT]) | refine And.intro (by omega) ?_ | refine And.intro (And.intro (by assumption) (by omega)) ?_ | (refine nbI fun bq => ?_) | (first | refine zqm ?_ ?_ | refine zgm ?_ ?_ | refine zdm ?_ ?_) <;> (intro h; simp only [h, Bool.not_true, Bool.not_false]) | (first | refine zqs ?_ ?_ | refine zgs ?_ ?_ | refine zds ?_ ?_) <;> (intro h; first | (exfalso; simp at h; omega) | ((try simp only [h]); (try simp at h))))
        all_goals (first | omega | skip)
        exact ⟨hjl⟩
    · obtain rfl : j = L.length := by omega
      rw [← hn]
      repeat' (first | (refine awK fun _ _ => ?_) | refine Hide.go (by assumption) ?_ | (first | refine zqd ?_ ?_ | refine zqn ?_ ?_ | refine zgd ?_ ?_ | refine zgn ?_ ?_ | refine zdd ?_ ?_ | refine zdn ?_ ?_) <;> (intro h; first | (exfalso; omega) | (simp only [h, decide_true, decide_false, not_false_eq_true]) | skip) | refine end_ret [] ?_; simp [go_sem] | refine (hB.next (i + 1) (Le.sub4 rfl (by simp [go_sem])) (by (try dsimp only); omega) ?_) | (fail_if_success with_reducible (refine Owe.mk ?_)); (simp (disch := omega) [go_sem]) | refine And.intro (by omega) ?_ | refine And.intro (And.intro (by assumption) (by omega)) ?_ | (refine nbI fun bq => ?_) | (first | refine zqm ?_ ?_ | refine zgm ?_ ?_ | refine zdm ?_ ?_) <;> (intro h; simp only [h, Bool.not_true, Bool.not_false]) | (first | refine zqs ?_ ?_ | refine zgs ?_ ?_ | refine zds ?_ ?_) <;> (intro h; first | (exfalso; simp at h; omega) | ((try simp only [h]); (try simp at h))))
      all_goals (first | omega | skip)
      exact ⟨hlt⟩
  · obtain rfl : i = l.length := by omega
    rw [List.take_length]
    repeat' (first | (refine awK fun _ _ => ?_) | refine Hide.go (by assumption) ?_ | (first | refine zqd ?_ ?_ | refine zqn ?_ ?_ | refine zgd ?_ ?_ | refine zgn ?_ ?_ | refine zdd ?_ ?_ | refine zdn ?_ ?_) <;> (intro h; first | (exfalso; omega) | (simp only [h, decide_true, decide_false, not_false_eq_true]) | skip) | refine end_ret [] ?_; simp [go_sem] | (fail_if_success with_reducible (refine Owe.mk ?_)); (simp (disch := omega) [go_sem]) | refine And.intro (by omega) ?_ | refine And.intro (And.intro (by assumption) (by omega)) ?_ | (refine nbI fun bq => ?_) | (first | refine zqm ?_ ?_ | refine zgm ?_ ?_ | refine zdm ?_ ?_) <;> (intro h; simp only [h, Bool.not_true, Bool.not_false]) | (first | refine zqs ?_ ?_ | refine zgs ?_ ?_ | refine zds ?_ ?_) <;> (intro h; first | (exfalso; simp at h; omega) | ((try simp only [h]); (try simp at h))))
theorem refLeaves_ok : ∀ t : Tm, (lvs t).length ≤ 1000000 → ACall Try.prog 67 [eT t] (fun r => r = .own 1 ((lvs t).map eStr)) := by
  refine tm_ind fun t ih hb => ?_
  obtain ⟨s, ts⟩ := t
  simp only [args_mk, name_mk] at *
  rw [lvs_mk] at *
  by_cases h0 : ts.length = 0
  · rw [if_pos h0] at hb ⊢
    refine acall_of_awp Try.func67 Try.call67 rfl (by simp [Try.ntmps67]) ?_; simp only [Try.ntmps67, Try.results67]
    repeat' (first | (refine awK fun _ _ => ?_) | refine Hide.go (by assumption) ?_ | (first | refine zqd ?_ ?_ | refine zqn ?_ ?_ | refine zgd ?_ ?_ | refine zgn ?_ ?_ | refine zdd ?_ ?_ | refine zdn ?_ ?_) <;> (intro h; first | (exfalso; omega) | (simp only [h, decide_true, decide_false, not_false_eq_true]) | skip) | refine end_ret [] ?_; simp [go_sem, h0, eStr] | (fail_if_success with_reducible (refine Owe.mk ?_)); (simp (disch := omega) [go_sem, h0, eStr]) | refine And.intro (by omega) ?_ | refine And.intro (And.intro (by assumption) (by omega)) ?_ | (refine nbI fun bq => ?_) | (first | refine zqm ?_ ?_ | refine zgm ?_ ?_ | refine zdm ?_ ?_) <;> (intro h; simp only [h, Bool.not_true, Bool.not_false]) | (first | refine zqs ?_ ?_ | refine zgs ?_ ?_ | refine zds ?_ ?_) <;> (intro h; first | (exfalso; simp at h; omega) | ((try simp only [h]); (try simp at h))))
  · rw [if_neg h0] at hb ⊢
    have hle := lvsS_take_le ts
    have hge := lvsS_ge ts
    refine acall_of_awp Try.func67 Try.call67 rfl (by simp [Try.ntmps67]) ?_; simp only [Try.ntmps67, Try.results67]
    repeat' (first | (refine awK fun _ _ => ?_) | refine Hide.go (by assumption) ?_ | (first | refine zqd ?_ ?_ | refine zqn ?_ ?_ | refine zgd ?_ ?_ | refine zgn ?_ ?_ | refine zdd ?_ ?_ | refine zdn ?_ ?_) <;> (intro h; first | (exfalso; omega) | (simp only [h, decide_true, decide_false, not_false_eq_true]) | skip) | refine end_ret [] ?_; simp [go_sem, h0] | (fail_if_success with_reducible (refine Owe.mk ?_)); (simp (disch := omega) [go_sem, h0]) | refine And.intro (by omega) ?_ | refine And.intro (And.intro (by assumption) (by omega)) ?_ | (refine nbI fun bq => ?_) | (first | refine zqm ?_ ?_ | refine zgm ?_ ?_ | refine zdm ?_ ?_) <;> (intro h; simp only [h, Bool.not_true, Bool.not_false]) | (first | refine zqs ?_ ?_ | refine zgs ?_ ?_ | refine zds ?_ ?_) <;> (intro h; first | (exfalso; simp at h; omega) | ((try simp only [h]); (try simp at h))))
    refine awp_for [1, 14] [900] (fun i : Nat => [(15, nt .i64 i), (3, .ref 900 0 (lvsS (ts.take i)).length)]) (fun i : Nat => [(900, ⟨true, false, false, 1, (lvsS (ts.take i)).map eStr, 0⟩)]) (fun i : Nat => ts.length - i) (fun i : Nat => i ≤ ts.length) (0) (by refine Le.trans ?_ (Le.nil (i := 3) (T := 900) (es := 1) rfl); exact (Le.sub4 rfl (by simp [go_sem, List.take_zero, lvsS]))) ⟨?_⟩ ?_
    · exact Nat.zero_le _
    intro i hi AA hAA; simp only [kL, Nat.reduceBEq, Nat.reduceEqDiff, if_true, if_false, List.cons_append, List.nil_append, List.append_nil]
    by_cases hlt : i < ts.length
    · have hn := lvsS_next hlt
      have hl1 := hle (i + 1)
      rw [hn] at hl1
      rw [List.length_append] at hl1
      have hu := ih ts[i] (List.getElem_mem hlt) (by omega)
      have hce : ∀ a : ByteArray, (eStr a).cells.length = 1 := fun _ => rfl
      generalize lvsS (ts.take i) = A at *
      repeat' (first | (refine awK fun _ _ => ?_) | refine Hide.go (by assumption) ?_ | (first | refine zqd ?_ ?_ | refine zqn ?_ ?_ | refine zgd ?_ ?_ | refine zgn ?_ ?_ | refine zdd ?_ ?_ | refine zdn ?_ ?_) <;> (intro h; first | (exfalso; omega) | (simp only [h, decide_true, decide_false, not_false_eq_true]) | skip) | refine end_ret [] ?_; simp [go_sem, hlt, hce] | refine stepK_is rfl (hu) (by simp) ?_ | refine dstepK_is rfl (hu) rfl (by simp) ?_ | refine (hAA.next (i + 1) (Le.sub4 rfl (by simp [go_sem, hn])) (by (try dsimp only); omega) ?_) | (fail_if_success with_reducible (refine Owe.mk ?_)); (simp (disch := omega) [go_sem, hlt, hce]) | refine And.intro (by omega) ?_ | refine And.intro (And.intro (by assumption) (by omega)) ?_ | (refine nbI fun bq => ?_) | (first | refine zqm ?_ ?_ | refine zgm ?_ ?_ | refine zdm ?_ ?_) <;> (intro h; simp only [h, Bool.not_true, Bool.not_false]) | (first | refine zqs ?_ ?_ | refine zgs ?_ ?_ | refine zds ?_ ?_) <;> (intro h; first | (exfalso; simp at h; omega) | ((try simp only [h]); (try simp at h))))
      all_goals (first | omega | skip)
      exact ⟨hlt⟩
    · obtain rfl : i = ts.length := by omega
      rw [List.take_length]
      repeat' (first | (refine awK fun _ _ => ?_) | refine Hide.go (by assumption) ?_ | (first | refine zqd ?_ ?_ | refine zqn ?_ ?_ | refine zgd ?_ ?_ | refine zgn ?_ ?_ | refine zdd ?_ ?_ | refine zdn ?_ ?_) <;> (intro h; first | (exfalso; omega) | (simp only [h, decide_true, decide_false, not_false_eq_true]) | skip) | refine end_ret [] ?_; simp [go_sem] | (fail_if_success with_reducible (refine Owe.mk ?_)); (simp (disch := omega) [go_sem]) | refine And.intro (by omega) ?_ | refine And.intro (And.intro (by assumption) (by omega)) ?_ | (refine nbI fun bq => ?_) | (first | refine zqm ?_ ?_ | refine zgm ?_ ?_ | refine zdm ?_ ?_) <;> (intro h; simp only [h, Bool.not_true, Bool.not_false]) | (first | refine zqs ?_ ?_ | refine zgs ?_ ?_ | refine zds ?_ ?_) <;> (intro h; first | (exfalso; simp at h; omega) | ((try simp only [h]); (try simp at h))))
theorem refVars_ok (l : List Tm) (le fu : Bool) (hb : (lvsS l).length ≤ 1000000) : ACall Try.prog 41 [.list le fu (l.map eTm)] (fun r => r = .own 1 ((varsT l).map eStr)) := by
  have hge := lvsS_ge l
  refine ACall.own_nil ?_
  refine acall_of_awp Try.func41 Try.call41 rfl (by simp [Try.ntmps41]) ?_; simp only [Try.ntmps41, Try.results41]
  repeat' (first | (refine awK fun _ _ => ?_) | refine Hide.go (by assumption) ?_ | (first | refine zqd ?_ ?_ | refine zqn ?_ ?_ | refine zgd ?_ ?_ | refine zgn ?_ ?_ | refine zdd ?_ ?_ | refine zdn ?_ ?_) <;> (intro h; first | (exfalso; omega) | (simp only [h, decide_true, decide_false, not_false_eq_true]) | skip) | refine end_ret [] ?_; simp [go_sem] | (fail_if_success with_reducible (refine Owe.mk ?_)); (simp (disch := omega) [go_sem]) | refine And.intro (by omega) ?_ | refine And.intro (And.intro (by assumption) (by omega)) ?_ | (refine nbI fun bq => ?_) | (first | refine zqm ?_ ?_ | refine zgm ?_ ?_ | refine zdm ?_ ?_) <;> (intro h; simp only [h, Bool.not_true, Bool.not_false]) | (first | refine zqs ?_ ?_ | refine zgs ?_ ?_ | refine zds ?_ ?_) <;> (intro h; first | (exfalso; simp at h; omega) | ((try simp only [h]); (try simp at h))))
  refine awp_for [0, 8] [900] (fun i : Nat => [(9, nt .i64 i), (3, .ref 900 0 (varsT (l.take i)).length)]) (fun i : Nat => [(900, ⟨true, false, false, 1, (varsT (l.take i)).map eStr, 0⟩)]) (fun i : Nat => l.length - i) (fun i : Nat => i ≤ l.length) (0) (by refine Le.trans ?_ (Le.nil (i := 3) (T := 900) (es := 1) rfl); exact (Le.sub4 rfl (by simp [go_sem, varsT_nil, List.take_zero, List.map_nil]))) ⟨?_⟩ ?_
  · exact Nat.zero_le _
  intro i hi AA hAA; simp only [kL, Nat.reduceBEq, Nat.reduceEqDiff, if_true, if_false, List.cons_append, List.nil_append, List.append_nil]
  by_cases hlt : i < l.length
  · have hB := hAA
    have hlv := lvsS_get hlt
    have hcl := refLeaves_ok l[i] (by omega)
    have hn := varsT_next hlt
    have hl0 := varsT_le (l.take i)
    have hl2 := lvsS_take_le l (i + 1)
    rw [lvsS_next hlt, List.length_append] at hl2
    generalize varsT (l.take i) = A at *
    generalize lvs l[i] = L at *
    repeat' (first | (refine awK fun _ _ => ?_) | refine Hide.go (by assumption) ?_ | (first | refine zqd ?_ ?_ | refine zqn ?_ ?_ | refine zgd ?_ ?_ | refine zgn ?_ ?_ | refine zdd ?_ ?_ | refine zdn ?_ ?_) <;> (intro h; first | (exfalso; omega) | (simp only [h, decide_true, decide_false, not_false_eq_true]) | skip) | refine end_ret [] ?_; simp [go_sem, hlt] | refine stepK_is rfl (hcl) (by simp) ?_ | refine dstepK_is rfl (hcl) rfl (by simp) ?_ | (fail_if_success with_reducible (refine Owe.mk ?_)); (simp (disch := omega) [go_sem, hlt]) | refine And.intro (by omega) ?_ | refine And.intro (And.intro (by assumption) (by omega)) ?_ | (refine nbI fun bq => ?_) | (first | refine zqm ?_ ?_ | refine zgm ?_ ?_ | refine zdm ?_ ?_) <;> (intro h; simp only [h, Bool.not_true, Bool.not_false]) | (first | refine zqs ?_ ?_ | refine zgs ?_ ?_ | refine zds ?_ ?_) <;> (intro h; first | (exfalso; simp at h; omega) | ((try simp only [h]); (try simp at h))))
    refine awp_for [0, 5, 8, 9, 18] [900] (fun j : Nat => [(19, nt .i64 j), (3, .ref 900 0 (fdV A L j).length)]) (fun j : Nat => [(900, ⟨true, false, false, 1, (fdV A L j).map eStr, 0⟩)]) (fun j : Nat => L.length - j) (fun j : Nat => j ≤ L.length) (0) (Le.sub4 rfl (by simp [go_sem, fdV_zero])) ⟨?_⟩ ?_
    · exact Nat.zero_le _
    intro j hj AA hAA; simp only [kL, Nat.reduceBEq, Nat.reduceEqDiff, if_true, if_false, List.cons_append, List.nil_append, List.append_nil]
    by_cases hjl : j < L.length
    · have hlenT : True := trivial
      have h1 := refVariable_ok L[j]
      have h2 := Has_ok (fdV A L j) L[j] true false
      have hz := fdV_next (acc := A) hjl
      have hfl := fdV_le (acc := A) (l := L) j
      unfold addV at hz
      by_cases hv : varS L[j] = true
      · by_cases hm : hasS (fdV A L j) L[j] = true
        · rw [if_neg (by simp [hm])] at hz
          rw [hv] at h1
          rw [hm] at h2
          generalize fdV A L j = X at *
          repeat' (first | (refine awK fun _ _ => ?_) | refine Hide.go (by assumption) ?_ | (first | refine zqd ?_ ?_ | refine zqn ?_ ?_ | refine zgd ?_ ?_ | refine zgn ?_ ?_ | refine zdd ?_ ?_ | refine zdn ?_ ?_) <;> (intro h; first | (exfalso; omega) | (simp only [h, decide_true, decide_false, not_false_eq_true]) | skip) | refine end_ret [] ?_; simp [go_sem, hjl, eStr, hlenT] | refine stepK_is rfl (h1) (by simp) ?_ | refine dstepK_is rfl (h1) rfl (by simp) ?_ | refine stepK_is rfl (h2) (by simp) ?_ | refine dstepK_is rfl (h2) rfl (by simp) ?_ | refine stepK_is ?hl (h1) (by simp) ?_; (case hl => (simp [go_sem, hjl, eStr, hlenT]; done)) | refine stepK_is ?hl (h2) (by simp) ?_; (case hl => (simp [go_sem, hjl, eStr, hlenT]; done)) | refine dstepK_is ?hl (h1) rfl (by simp) ?_; (case hl => (simp [go_sem, hjl, eStr, hlenT]; done)) | refine dstepK_is ?hl (h2) rfl (by simp) ?_; (case hl => (simp [go_sem, hjl, eStr, hlenT]; done)) | refine (hAA.next (j + 1) (Le.sub4 rfl (by simp [go_sem, hz])) (by (try dsimp only); omega) ?_) | (fail_if_success with_reducible (refine Owe.mk ?_)); (simp (disch := omega) [go_sem, hjl, eStr, hlenT]) | refine And.intro (by omega) ?_ | refine And.intro (And.intro (by assumption) (by omega)) ?_ | (refine nbI fun bq => ?_) | (first | refine zqm ?_ ?_ | refine zgm ?_ ?_ | refine zdm ?_ ?_) <;> (intro h; simp only [h, Bool.not_true, Bool.not_false]) | (first | refine zqs ?_ ?_ | refine zgs ?_ ?_ | refine zds ?_ ?_) <;> (intro h; first | (exfalso; simp at h; omega) | ((try simp only [h]); (try simp at h))))
          all_goals (first | omega | skip)
          exact ⟨hjl⟩
        · have hm := Bool.eq_false_iff.2 hm
          rw [if_pos ⟨hv, hm⟩] at hz
          rw [hv] at h1
          rw [hm] at h2
          generalize fdV A L j = X at *
          repeat' (first | (refine awK fun _ _ => ?_) | refine Hide.go (by assumption) ?_ | (first | refine zqd ?_ ?_ | refine zqn ?_ ?_ | refine zgd ?_ ?_ | refine zgn ?_ ?_ | refine zdd ?_ ?_ | refine zdn ?_ ?_) <;> (intro h; first | (exfalso; omega) | (simp only [h, decide_true, decide_false, not_false_eq_true]) | skip) | refine end_ret [] ?_; simp [go_sem, hjl, eStr, hlenT] | refine stepK_is rfl (h1) (by simp) ?_ | refine dstepK_is rfl (h1) rfl (by simp) ?_ | refine stepK_is rfl (h2) (by simp) ?_ | refine dstepK_is rfl (h2) rfl (by simp) ?_ | refine stepK_is ?hl (h1) (by simp) ?_; (case hl => (simp [go_sem, hjl, eStr, hlenT]; done)) | refine stepK_is ?hl (h2) (by simp) ?_; (case hl => (simp [go_sem, hjl, eStr, hlenT]; done)) | refine dstepK_is ?hl (h1) rfl (by simp) ?_; (case hl => (simp [go_sem, hjl, eStr, hlenT]; done)) | refine dstepK_is ?hl (h2) rfl (by simp) ?_; (case hl => (simp [go_sem, hjl, eStr, hlenT]; done)) | refine (hAA.next (j + 1) (Le.sub4 rfl (by simp [go_sem, hz, eStr])) (by (try dsimp only); omega) ?_) | (fail_if_success with_reducible (refine Owe.mk ?_)); (simp (disch := omega) [go_sem, hjl, eStr, hlenT]) | refine And.intro (by omega) ?_ | refine And.intro (And.intro (by assumption) (by omega)) ?_ | (refine nbI fun bq => ?_) | (first | refine zqm ?_ ?_ | refine zgm ?_ ?_ | refine zdm ?_ ?_) <;> (intro h; simp only [h, Bool.not_true, Bool.not_false]) | (first | refine zqs ?_ ?_ | refine zgs ?_ ?_ | refine zds ?_ ?_) <;> (intro h; first | (exfalso; simp at h; omega) | ((try simp only [h]); (try simp at h))))
          all_goals (first | omega | skip)
          exact ⟨hjl⟩
      · rw [if_neg (by simp [hv])] at hz
        rw [show varS L[j] = false from by simpa using hv] at h1
        generalize fdV A L j = X at *
        repeat' (first | (refine awK fun _ _ => ?_) | refine Hide.go (by assumption) ?_ | (first | refine zqd ?_ ?_ | refine zqn ?_ ?_ | refine zgd ?_ ?_ | refine zgn ?_ ?_ | refine zdd ?_ ?_ | refine zdn ?_ ?_) <;> (intro h; first | (exfalso; omega) | (simp only [h, decide_true, decide_false, not_false_eq_true]) | skip) | refine end_ret [] ?_; simp [go_sem, hjl, eStr, hlenT] | refine stepK_is rfl (h1) (by simp) ?_ | refine dstepK_is rfl (h1) rfl (by simp) ?_ | refine stepK_is rfl (h2) (by simp) ?_ | refine dstepK_is rfl (h2) rfl (by simp) ?_ | refine stepK_is ?hl (h1) (by simp) ?_; (case hl => (simp [go_sem, hjl, eStr, hlenT]; done)) | refine stepK_is ?hl (h2) (by simp) ?_; (case hl => (simp [go_sem, hjl, eStr, hlenT]; done)) | refine dstepK_is ?hl (h1) rfl (by simp) ?_; (case hl => (simp [go_sem, hjl, eStr, hlenT]; done)) | refine dstepK_is ?hl (h2) rfl (by simp) ?_; (case hl => (simp [go_sem, hjl, eStr, hlenT]; done)) | refine (hAA.next (j + 1) (Le.sub4 rfl (by simp [go_sem, hz])) (by (try dsimp only); omega) ?_) | (fail_if_success with_reducible (refine Owe.mk ?_)); (simp (disch := omega) [go_sem, hjl, eStr, hlenT]) | refine And.intro (by omega) ?_ | refine And.intro (And.intro (by assumption) (by omega)) ?_ | (refine nbI fun bq => ?_) | (first | refine zqm ?_ ?_ | refine zgm ?_ ?_ | refine zdm ?_ ?_) <;> (intro h; simp only [h, Bool.not_true, Bool.not_false]) | (first | refine zqs ?_ ?_ | refine zgs ?_ ?_ | refine zds ?_ ?_) <;> (intro h; first | (exfalso; simp at h; omega) | ((try simp only [h]); (try simp at h))))
        all_goals (first | omega | skip)
        exact ⟨hjl⟩
    · obtain rfl : j = L.length := by omega
      rw [← hn]
      repeat' (first | (refine awK fun _ _ => ?_) | refine Hide.go (by assumption) ?_ | (first | refine zqd ?_ ?_ | refine zqn ?_ ?_ | refine zgd ?_ ?_ | refine zgn ?_ ?_ | refine zdd ?_ ?_ | refine zdn ?_ ?_) <;> (intro h; first | (exfalso; omega) | (simp only [h, decide_true, decide_false, not_false_eq_true]) | skip) | refine end_ret [] ?_; simp [go_sem] | refine (hB.next (i + 1) (Le.sub4 rfl (by simp [go_sem])) (by (try dsimp only); omega) ?_) | (fail_if_success with_reducible (refine Owe.mk ?_)); (simp (disch := omega) [go_sem]) | refine And.intro (by omega) ?_ | refine And.intro (And.intro (by assumption) (by omega)) ?_ | (refine nbI fun bq => ?_) | (first | refine zqm ?_ ?_ | refine zgm ?_ ?_ | refine zdm ?_ ?_) <;> (intro h; simp only [h, Bool.not_true, Bool.not_false]) | (first | refine zqs ?_ ?_ | refine zgs ?_ ?_ | refine zds ?_ ?_) <;> (intro h; first | (exfalso; simp at h; omega) | ((try simp only [h]); (try simp at h))))
      all_goals (first | omega | skip)
      exact ⟨hlt⟩
  · obtain rfl : i = l.length := by omega
    rw [List.take_length]
    repeat' (first | (refine awK fun _ _ => ?_) | refine Hide.go (by assumption) ?_ | (first | refine zqd ?_ ?_ | refine zqn ?_ ?_ | refine zgd ?_ ?_ | refine zgn ?_ ?_ | refine zdd ?_ ?_ | refine zdn ?_ ?_) <;> (intro h; first | (exfalso; omega) | (simp only [h, decide_true, decide_false, not_false_eq_true]) | skip) | refine end_ret [] ?_; simp [go_sem] | (fail_if_success with_reducible (refine Owe.mk ?_)); (simp (disch := omega) [go_sem]) | refine And.intro (by omega) ?_ | refine And.intro (And.intro (by assumption) (by omega)) ?_ | (refine nbI fun bq => ?_) | (first | refine zqm ?_ ?_ | refine zgm ?_ ?_ | refine zdm ?_ ?_) <;> (intro h; simp only [h, Bool.not_true, Bool.not_false]) | (first | refine zqs ?_ ?_ | refine zgs ?_ ?_ | refine zds ?_ ?_) <;> (intro h; first | (exfalso; simp at h; omega) | ((try simp only [h]); (try simp at h))))
theorem Strings_ok (a b : List ByteArray) (le fu le' fu' : Bool) : ACall Try.prog 40 [.list le fu (a.map eStr), .list le' fu' (b.map eStr)] (fun r => r = bl (decide (a = b))) := by
  refine ACall.bound (i := 0) rfl Try.call40 fun hb => ?_
  rw [List.length_map] at hb
  have hb : a.length ≤ 140737488355328 := hb
  by_cases h0 : a.length = b.length
  · generalize hR : decide (a = b) = R
    have h0' : ¬ (a.length : Int) ≠ b.length := by omega
    refine acall_of_awp Try.func40 Try.call40 rfl (by simp [Try.ntmps40]) ?_; simp only [Try.ntmps40, Try.results40]
    repeat' (first | (refine awK fun _ _ => ?_) | refine Hide.go (by assumption) ?_ | (first | refine zqd ?_ ?_ | refine zqn ?_ ?_ | refine zgd ?_ ?_ | refine zgn ?_ ?_ | refine zdd ?_ ?_ | refine zdn ?_ ?_) <;> (intro h; first | (exfalso; omega) | (simp only [h, decide_true, decide_false, not_false_eq_true]) | skip) | refine end_ret [] ?_; simp [go_sem, h0] | (fail_if_success with_reducible (refine Owe.mk ?_)); (simp (disch := omega) [go_sem, h0]) | refine And.intro (by omega) ?_ | refine And.intro (And.intro (by assumption) (by omega)) ?_ | refine awp_draw 9 mix (by decide +kernel) ?_ | (refine nbI fun bq => ?_) | (first | refine zqm ?_ ?_ | refine zgm ?_ ?_ | refine zdm ?_ ?_) <;> (intro h; simp only [h, Bool.not_true, Bool.not_false]) | (first | refine zqs ?_ ?_ | refine zgs ?_ ?_ | refine zds ?_ ?_) <;> (intro h; first | (exfalso; simp at h; omega) | ((try simp only [h]); (try simp at h))))
    all_goals (first | (exfalso; omega) | skip)
    refine awp_for [0, 1, 12] [] (fun i : Nat => [(13, nt .i64 i)]) (fun i : Nat => []) (fun i : Nat => b.length - i) (fun i : Nat => i ≤ b.length ∧ ∀ (k : Nat) (hk : k < a.length) (hk' : k < b.length), k < i → a[k] = b[k]) (0) (Le.sub4 rfl (by simp [go_sem])) ⟨?_⟩ ?_
    · exact ⟨Nat.zero_le _, fun k _ _ hk => absurd hk (Nat.not_lt_zero _)⟩
    intro i ⟨hi, hn⟩ AA hAA; simp only [kL, Nat.reduceBEq, Nat.reduceEqDiff, if_true, if_false, List.cons_append, List.nil_append, List.append_nil]
    by_cases hlt : i < b.length
    · have hla : i < a.length := by omega
      by_cases hq : a[i] = b[i]
      · repeat' (first | (refine awK fun _ _ => ?_) | refine Hide.go (by assumption) ?_ | (first | refine zqd ?_ ?_ | refine zqn ?_ ?_ | refine zgd ?_ ?_ | refine zgn ?_ ?_ | refine zdd ?_ ?_ | refine zdn ?_ ?_) <;> (intro h; first | (exfalso; omega) | (simp only [h, decide_true, decide_false, not_false_eq_true]) | skip) | refine end_ret [] ?_; simp [go_sem, hlt, hla, eStr, hq] | refine (hAA.next (i + 1) (Le.sub4 rfl (by simp [go_sem])) (by (try dsimp only); omega) ?_) | (fail_if_success with_reducible (refine Owe.mk ?_)); (simp (disch := omega) [go_sem, hlt, hla, eStr, hq]) | refine And.intro (by omega) ?_ | refine And.intro (And.intro (by assumption) (by omega)) ?_ | refine awp_draw 9 mix (by decide +kernel) ?_ | (refine nbI fun bq => ?_) | (first | refine zqm ?_ ?_ | refine zgm ?_ ?_ | refine zdm ?_ ?_) <;> (intro h; simp only [h, Bool.not_true, Bool.not_false]) | (first | refine zqs ?_ ?_ | refine zgs ?_ ?_ | refine zds ?_ ?_) <;> (intro h; first | (exfalso; simp at h; omega) | ((try simp only [h]); (try simp at h))))
        all_goals (first | omega | skip)
        exact ⟨hlt, fun k hk hk' hki => by rcases Nat.lt_or_eq_of_le (Nat.le_of_lt_succ hki) with h | rfl; exact hn k hk hk' h; exact hq⟩
      · have hu : R = false := by
          rw [← hR, decide_eq_false_iff_not]
          intro h
          apply hq
          simp only [h]
        subst hu
        repeat' (first | (refine awK fun _ _ => ?_) | refine Hide.go (by assumption) ?_ | (first | refine zqd ?_ ?_ | refine zqn ?_ ?_ | refine zgd ?_ ?_ | refine zgn ?_ ?_ | refine zdd ?_ ?_ | refine zdn ?_ ?_) <;> (intro h; first | (exfalso; omega) | (simp only [h, decide_true, decide_false, not_false_eq_true]) | skip) | refine end_ret [] ?_; simp [go_sem, hlt, hla, eStr, hq] | (fail_if_success with_reducible (refine Owe.mk ?_)); (simp (disch := omega) [go_sem, hlt, hla, eStr, hq]) | refine And.intro (by omega) ?_ | refine And.intro (And.intro (by assumption) (by omega)) ?_ | refine awp_draw 9 mix (by decide +kernel) ?_ | (refine nbI fun bq => ?_) | (first | refine zqm ?_ ?_ | refine zgm ?_ ?_ | refine zdm ?_ ?_) <;> (intro h; simp only [h, Bool.not_true, Bool.not_false]) | (first | refine zqs ?_ ?_ | refine zgs ?_ ?_ | refine zds ?_ ?_) <;> (intro h; first | (exfalso; simp at h; omega) | ((try simp only [h]); (try simp at h))))
    · obtain rfl : i = b.length := by omega
      have hu : R = true := by
        rw [← hR, decide_eq_true_eq]
        exact List.ext_getElem h0 fun k h1 h2 => hn k h1 h2 h2
      subst hu
      repeat' (first | (refine awK fun _ _ => ?_) | refine Hide.go (by assumption) ?_ | (first | refine zqd ?_ ?_ | refine zqn ?_ ?_ | refine zgd ?_ ?_ | refine zgn ?_ ?_ | refine zdd ?_ ?_ | refine zdn ?_ ?_) <;> (intro h; first | (exfalso; omega) | (simp only [h, decide_true, decide_false, not_false_eq_true]) | skip) | refine end_ret [] ?_; simp [go_sem] | (fail_if_success with_reducible (refine Owe.mk ?_)); (simp (disch := omega) [go_sem]) | refine And.intro (by omega) ?_ | refine And.intro (And.intro (by assumption) (by omega)) ?_ | refine awp_draw 9 mix (by decide +kernel) ?_ | (refine nbI fun bq => ?_) | (first | refine zqm ?_ ?_ | refine zgm ?_ ?_ | refine zdm ?_ ?_) <;> (intro h; simp only [h, Bool.not_true, Bool.not_false]) | (first | refine zqs ?_ ?_ | refine zgs ?_ ?_ | refine zds ?_ ?_) <;> (intro h; first | (exfalso; simp at h; omega) | ((try simp only [h]); (try simp at h))))
  · rw [decide_eq_false (fun h => h0 (by rw [h]))]
    refine acall_of_awp Try.func40 Try.call40 rfl (by simp [Try.ntmps40]) ?_; simp only [Try.ntmps40, Try.results40]
    repeat' (first | (refine awK fun _ _ => ?_) | refine Hide.go (by assumption) ?_ | (first | refine zqd ?_ ?_ | refine zqn ?_ ?_ | refine zgd ?_ ?_ | refine zgn ?_ ?_ | refine zdd ?_ ?_ | refine zdn ?_ ?_) <;> (intro h; first | (exfalso; omega) | (simp only [h, decide_true, decide_false, not_false_eq_true]) | skip) | refine end_ret [] ?_; simp [go_sem, h0] | (fail_if_success with_reducible (refine Owe.mk ?_)); (simp (disch := omega) [go_sem, h0]) | refine And.intro (by omega) ?_ | refine And.intro (And.intro (by assumption) (by omega)) ?_ | refine awp_draw 9 mix (by decide +kernel) ?_ | (refine nbI fun bq => ?_) | (first | refine zqm ?_ ?_ | refine zgm ?_ ?_ | refine zdm ?_ ?_) <;> (intro h; simp only [h, Bool.not_true, Bool.not_false]) | (first | refine zqs ?_ ?_ | refine zgs ?_ ?_ | refine zds ?_ ?_) <;> (intro h; first | (exfalso; simp at h; omega) | ((try simp only [h]); (try simp at h))))
    all_goals (first | (exfalso; omega) | skip)
end Go.Proofs.Ytldecgghhaoliaa
