import Derived.Test.YtldecgghhaoliaaS2
set_option linter.unusedSimpArgs false
set_option linter.unusedVariables false
namespace Go.Proofs.Ytldecgghhaoliaa
open Go.Ab
set_option maxRecDepth 100000
def digs (s : ByteArray) (n : Nat) : Bool := (List.range n).all fun i => decide (48 ≤ bt s i ∧ bt s i ≤ 57)
theorem digs_succ (s : ByteArray) (n : Nat) : digs s (n + 1) = (digs s n && decide (48 ≤ bt s n ∧ bt s n ≤ 57)) := by
  simp [digs, List.range_succ, List.all_append]
theorem digs_false {s : ByteArray} {i n : Nat} (h : ¬(48 ≤ bt s i ∧ bt s i ≤ 57)) (hn : i < n) : digs s n = false := by
  unfold digs; rw [List.all_eq_false]; exact ⟨i, by simpa using hn, by simpa using h⟩
def valS (s : ByteArray) : Nat → Int
  | 0 => 0
  | n + 1 => 10 * valS s n + (bt s n - 48)
theorem valS_range {s : ByteArray} : ∀ {n : Nat}, digs s n = true → 0 ≤ valS s n ∧ valS s n ≤ 10 ^ n - 1
  | 0, _ => by simp [valS]
  | n + 1, h => by
    rw [digs_succ, Bool.and_eq_true, decide_eq_true_eq] at h
    have := valS_range h.1
    rw [Int.pow_succ]
    simp only [valS]
    omega
theorem valS_small {s : ByteArray} {n : Nat} (h : digs s n = true) (hn : n ≤ 3) : 0 ≤ valS s n ∧ valS s n ≤ 999 := by
  have h1 := valS_range h
  have : n = 0 ∨ n = 1 ∨ n = 2 ∨ n = 3 := by omega
  rcases this with rfl | rfl | rfl | rfl <;> simp at h1 <;> omega
theorem valS_max {s : ByteArray} {n : Nat} (h : digs s n = true) (hn : n ≤ 4) : 0 ≤ valS s n ∧ valS s n ≤ 9999 := by
  have h1 := valS_range h
  have : n = 0 ∨ n = 1 ∨ n = 2 ∨ n = 3 ∨ n = 4 := by omega
  rcases this with rfl | rfl | rfl | rfl | rfl <;> simp at h1 <;> omega
def numS (s : ByteArray) : Int × Bool := if (1 ≤ s.size ∧ s.size ≤ 4 ∧ ¬(bt s 0 = 48 ∧ 1 < s.size)) ∧ digs s s.size = true then (valS s s.size, true) else (0, false)
theorem numS_no {s : ByteArray} (h : ¬(1 ≤ s.size ∧ s.size ≤ 4 ∧ ¬(bt s 0 = 48 ∧ 1 < s.size))) : numS s = (0, false) := by
  unfold numS; rw [if_neg (fun e => h e.1)]
theorem numS_yes {s : ByteArray} (h : 1 ≤ s.size ∧ s.size ≤ 4 ∧ ¬(bt s 0 = 48 ∧ 1 < s.size)) : numS s = if digs s s.size = true then (valS s s.size, true) else (0, false) := by
  unfold numS; simp only [h, true_and]; simp
theorem Number_ok (s : ByteArray) : ACall Try.prog 11 [.sc (.string s)] (fun r => r = .tup [nt .i64 (numS s).1, bl (numS s).2]) := by
  by_cases a1 : 1 ≤ s.size ∧ s.size ≤ 4 ∧ ¬(bt s 0 = 48 ∧ 1 < s.size)
  · rw [numS_yes a1]
    refine acall_of_awp Try.func11 Try.call11 rfl (by simp [Try.ntmps11]) ?_; simp only [Try.ntmps11, Try.results11]
    repeat' (first | (refine awK fun _ _ => ?_) | refine Hide.go (by assumption) ?_ | (first | refine zqd ?_ ?_ | refine zgd ?_ ?_) <;> (intro h; first | (exfalso; omega) | (simp only [h, decide_true, decide_false, not_false_eq_true])) | (fail_if_success with_reducible (refine Owe.mk ?_)); (simp (disch := omega) [go_sem]) | refine And.intro (by omega) ?_)
    all_goals (try (exfalso; omega))
    all_goals
      refine awp_loop (fun nn ss_ => ∃ i : Nat, i ≤ s.size ∧ nn = s.size - i ∧ (digs s i = true) ∧ ss_ = { n := 51, t := [(0, .sc (.string s)), (4, nt .i64 (valS s i)), (5, nt .i64 (i))], o := [] }) (s.size) { n := 51, t := [(0, .sc (.string s)), (4, nt .i64 (valS s 0)), (5, nt .i64 (0))], o := [] } (Le.sub4 rfl (by simp [go_sem, valS])) ⟨0, Nat.zero_le _, rfl, rfl, rfl⟩ ?_; rintro _ _ ⟨i, hi, rfl, hin, rfl⟩
      have hb := bt_range s i
      by_cases hlt : i < s.size
      · have hv := valS_small hin (by omega)
        have hs := digs_succ s i
        rw [hin, Bool.true_and] at hs
        repeat' (first | (refine awK fun _ _ => ?_) | refine Hide.go (by assumption) ?_ | (first | refine zqd ?_ ?_ | refine zgd ?_ ?_) <;> (intro h; (simp only [h, decide_true, decide_false, not_false_eq_true])) | refine end_ret [] ?_; simp [go_sem, hlt] | refine Again.mk (s.size - (i + 1)) { n := 51, t := [(0, .sc (.string s)), (4, nt .i64 (valS s (i + 1 : Nat))), (5, nt .i64 ((i + 1 : Nat)))], o := [] } (by omega) (Le.sub4 rfl (by simp [go_sem, valS])) ⟨i + 1, by omega, rfl, by rw [hs]; exact decide_eq_true (by omega), rfl⟩ | (fail_if_success with_reducible (refine Owe.mk ?_)); (simp (disch := omega) [go_sem, hlt]))
        all_goals (try simp)
        all_goals (have hf : digs s s.size = false := digs_false (i := i) (by omega) hlt)
        all_goals (simp [hf])
      · obtain rfl : i = s.size := by omega
        have hv := valS_max hin (by omega)
        repeat' (first | (refine awK fun _ _ => ?_) | refine Hide.go (by assumption) ?_ | refine end_ret [] ?_; simp [go_sem, hin] | (fail_if_success with_reducible (refine Owe.mk ?_)); (simp (disch := omega) [go_sem, hin]))
        all_goals (try simp [hin])
        all_goals (try omega)
  · rw [numS_no a1]
    refine acall_of_awp Try.func11 Try.call11 rfl (by simp [Try.ntmps11]) ?_; simp only [Try.ntmps11, Try.results11]
    repeat' (first | (refine awK fun _ _ => ?_) | refine Hide.go (by assumption) ?_ | (first | refine zqd ?_ ?_ | refine zgd ?_ ?_) <;> (intro h; first | (exfalso; omega) | (simp only [h, decide_true, decide_false, not_false_eq_true])) | refine end_ret [] ?_; simp [go_sem] | (fail_if_success with_reducible (refine Owe.mk ?_)); (simp (disch := omega) [go_sem]) | refine And.intro (by omega) ?_)
    all_goals (exfalso; omega)
theorem refNumber_ok (s : ByteArray) : ACall Try.prog 12 [.sc (.string s)] (fun r => r = .tup [nt .i64 (numS s).1, bl (numS s).2]) := by
  by_cases a1 : 1 ≤ s.size ∧ s.size ≤ 4 ∧ ¬(bt s 0 = 48 ∧ 1 < s.size)
  · rw [numS_yes a1]
    refine acall_of_awp Try.func12 Try.call12 rfl (by simp [Try.ntmps12]) ?_; simp only [Try.ntmps12, Try.results12]
    repeat' (first | (refine awK fun _ _ => ?_) | refine Hide.go (by assumption) ?_ | (first | refine zqd ?_ ?_ | refine zgd ?_ ?_) <;> (intro h; first | (exfalso; omega) | (simp only [h, decide_true, decide_false, not_false_eq_true])) | (fail_if_success with_reducible (refine Owe.mk ?_)); (simp (disch := omega) [go_sem]) | refine And.intro (by omega) ?_)
    all_goals (try (exfalso; omega))
    all_goals
      refine awp_loop (fun nn ss_ => ∃ i : Nat, i ≤ s.size ∧ nn = s.size - i ∧ (digs s i = true) ∧ ss_ = { n := 44, t := [(0, .sc (.string s)), (25, nt .i64 s.size), (4, nt .i64 (valS s i)), (26, nt .i64 (i))], o := [] }) (s.size) { n := 44, t := [(0, .sc (.string s)), (25, nt .i64 s.size), (4, nt .i64 (valS s 0)), (26, nt .i64 (0))], o := [] } (Le.sub4 rfl (by simp [go_sem, valS])) ⟨0, Nat.zero_le _, rfl, rfl, rfl⟩ ?_; rintro _ _ ⟨i, hi, rfl, hin, rfl⟩
      have hb := bt_range s i
      have hd := digit_ok (bt s i)
      by_cases hlt : i < s.size
      · have hv := valS_small hin (by omega)
        have hs := digs_succ s i
        rw [hin, Bool.true_and] at hs
        repeat' (first | (refine awK fun _ _ => ?_) | refine Hide.go (by assumption) ?_ | refine end_ret [] ?_; simp [go_sem, hlt] | refine stepK_is rfl (hd) (by simp) ?_ | refine Again.mk (s.size - (i + 1)) { n := 44, t := [(0, .sc (.string s)), (25, nt .i64 s.size), (4, nt .i64 (valS s (i + 1 : Nat))), (26, nt .i64 ((i + 1 : Nat)))], o := [] } (by omega) (Le.sub4 rfl (by simp [go_sem, valS])) ⟨i + 1, by omega, rfl, by rw [hs]; exact decide_eq_true (by omega), rfl⟩ | (fail_if_success with_reducible (refine Owe.mk ?_)); (simp (disch := omega) [go_sem, hlt]) | refine zqs ?_ ?_ <;> (intro h; ((try simp only [h]); (try simp at h))))
        all_goals (try simp)
        all_goals (have hf : digs s s.size = false := digs_false (i := i) (by omega) hlt)
        all_goals (simp [hf])
      · obtain rfl : i = s.size := by omega
        have hv := valS_max hin (by omega)
        repeat' (first | (refine awK fun _ _ => ?_) | refine Hide.go (by assumption) ?_ | refine end_ret [] ?_; simp [go_sem, hin] | (fail_if_success with_reducible (refine Owe.mk ?_)); (simp (disch := omega) [go_sem, hin]))
        all_goals (try simp [hin])
        all_goals (try omega)
  · rw [numS_no a1]
    refine acall_of_awp Try.func12 Try.call12 rfl (by simp [Try.ntmps12]) ?_; simp only [Try.ntmps12, Try.results12]
    repeat' (first | (refine awK fun _ _ => ?_) | refine Hide.go (by assumption) ?_ | (first | refine zqd ?_ ?_ | refine zgd ?_ ?_) <;> (intro h; first | (exfalso; omega) | (simp only [h, decide_true, decide_false, not_false_eq_true])) | refine end_ret [] ?_; simp [go_sem] | (fail_if_success with_reducible (refine Owe.mk ?_)); (simp (disch := omega) [go_sem]) | refine And.intro (by omega) ?_)
    all_goals (exfalso; omega)
theorem number_ok (s : ByteArray) : ACall Try.prog 69 [.sc (.string s)] (fun r => r = bl (numS s).2) := by
  have hc := Number_ok s
  generalize numS s = q at *
  obtain ⟨v, b⟩ := q
  dsimp only at *
  refine acall_of_awp Try.func69 Try.call69 rfl (by simp [Try.ntmps69]) ?_; simp only [Try.ntmps69, Try.results69]
  repeat' (first | (refine awK fun _ _ => ?_) | refine Hide.go (by assumption) ?_ | (first | refine zqd ?_ ?_ | refine zqn ?_ ?_ | refine zgd ?_ ?_ | refine zgn ?_ ?_ | refine zdd ?_ ?_ | refine zdn ?_ ?_) <;> (intro h; first | (exfalso; omega) | (simp only [h, decide_true, decide_false, not_false_eq_true]) | skip) | refine end_ret [] ?_; simp [go_sem] | refine stepK_is rfl (hc) (by simp) ?_ | refine dstepK_is rfl (hc) rfl (by simp) ?_ | (fail_if_success with_reducible (refine Owe.mk ?_)); (simp (disch := omega) [go_sem]) | refine And.intro (by omega) ?_ | refine And.intro (And.intro (by assumption) (by omega)) ?_ | (refine nbI fun bq => ?_) | (first | refine zqm ?_ ?_ | refine zgm ?_ ?_ | refine zdm ?_ ?_) <;> (intro h; simp only [h, Bool.not_true, Bool.not_false]) | (first | refine zqs ?_ ?_ | refine zgs ?_ ?_ | refine zds ?_ ?_) <;> (intro h; first | (exfalso; simp at h; omega) | ((try simp only [h]); (try simp at h))))
set_option maxHeartbeats 4000000
theorem refIsNumber_ok (s : ByteArray) : ACall Try.prog 79 [.sc (.string s)] (fun r => r = bl (numS s).2) := by
  have hc := refNumber_ok s
  generalize numS s = q at *
  obtain ⟨v, b⟩ := q
  dsimp only at *
  refine acall_of_awp Try.func79 Try.call79 rfl (by simp [Try.ntmps79]) ?_; simp only [Try.ntmps79, Try.results79]
  repeat' (first | (refine awK fun _ _ => ?_) | refine Hide.go (by assumption) ?_ | refine end_ret [] ?_; simp [go_sem] | refine stepK_is rfl (hc) (by simp) ?_ | (fail_if_success with_reducible (refine Owe.mk ?_)); (simp (disch := omega) [go_sem]))
def constS (s : ByteArray) : Bool := nameS s || (numS s).2
def isC (t : Tm) : Bool := t.args.isEmpty && constS t.name
theorem isEmpty_len {α : Type} (l : List α) : l.isEmpty = decide (l.length = 0) := by cases l <;> simp
theorem refConstant_ok (t : Tm) : ACall Try.prog 73 [eT t] (fun r => r = bl (isC t)) := by
  have h1 := refName_ok t.name
  have h2 := refIsNumber_ok t.name
  unfold isC constS
  rw [isEmpty_len]
  generalize nameS t.name = a at *
  generalize (numS t.name).2 = b at *
  refine acall_of_awp Try.func73 Try.call73 rfl (by simp [Try.ntmps73]) ?_; simp only [Try.ntmps73, Try.results73]
  by_cases h : t.args.length = 0
  · cases a
    · repeat' (first | (refine awK fun _ _ => ?_) | refine Hide.go (by assumption) ?_ | (first | refine zqd ?_ ?_ | refine zqn ?_ ?_ | refine zgd ?_ ?_ | refine zgn ?_ ?_ | refine zdd ?_ ?_ | refine zdn ?_ ?_) <;> (intro h; first | (exfalso; omega) | (simp only [h, decide_true, decide_false, not_false_eq_true]) | skip) | refine end_ret [] ?_; simp [go_sem, h] | refine stepK_is rfl (h1) (by simp) ?_ | refine dstepK_is rfl (h1) rfl (by simp) ?_ | refine stepK_is rfl (h2) (by simp) ?_ | refine dstepK_is rfl (h2) rfl (by simp) ?_ | (fail_if_success with_reducible (refine Owe.mk ?_)); (simp (disch := omega) [go_sem, h]) | refine And.intro (by omega) ?_ | refine And.intro (And.intro (by assumption) (by omega)) ?_ | (refine nbI fun bq => ?_) | (first | refine zqm ?_ ?_ | refine zgm ?_ ?_ | refine zdm ?_ ?_) <;> (intro h; simp only [h, Bool.not_true, Bool.not_false]) | (first | refine zqs ?_ ?_ | refine zgs ?_ ?_ | refine zds ?_ ?_) <;> (intro h; first | (exfalso; simp at h; omega) | ((try simp only [h]); (try simp at h))))
    · repeat' (first | (refine awK fun _ _ => ?_) | refine Hide.go (by assumption) ?_ | (first | refine zqd ?_ ?_ | refine zqn ?_ ?_ | refine zgd ?_ ?_ | refine zgn ?_ ?_ | refine zdd ?_ ?_ | refine zdn ?_ ?_) <;> (intro h; first | (exfalso; omega) | (simp only [h, decide_true, decide_false, not_false_eq_true]) | skip) | refine end_ret [] ?_; simp [go_sem, h] | refine stepK_is rfl (h1) (by simp) ?_ | refine dstepK_is rfl (h1) rfl (by simp) ?_ | refine stepK_is rfl (h2) (by simp) ?_ | refine dstepK_is rfl (h2) rfl (by simp) ?_ | (fail_if_success with_reducible (refine Owe.mk ?_)); (simp (disch := omega) [go_sem, h]) | refine And.intro (by omega) ?_ | refine And.intro (And.intro (by assumption) (by omega)) ?_ | (refine nbI fun bq => ?_) | (first | refine zqm ?_ ?_ | refine zgm ?_ ?_ | refine zdm ?_ ?_) <;> (intro h; simp only [h, Bool.not_true, Bool.not_false]) | (first | refine zqs ?_ ?_ | refine zgs ?_ ?_ | refine zds ?_ ?_) <;> (intro h; first | (exfalso; simp at h; omega) | ((try simp only [h]); (try simp at h))))
  · repeat' (first | (refine awK fun _ _ => ?_) | refine Hide.go (by assumption) ?_ | (first | refine zqd ?_ ?_ | refine zqn ?_ ?_ | refine zgd ?_ ?_ | refine zgn ?_ ?_ | refine zdd ?_ ?_ | refine zdn ?_ ?_) <;> (intro h; first | (exfalso; omega) | (simp only [h, decide_true, decide_false, not_false_eq_true]) | skip) | refine end_ret [] ?_; simp [go_sem, h] | refine stepK_is rfl (h1) (by simp) ?_ | refine dstepK_is rfl (h1) rfl (by simp) ?_ | refine stepK_is rfl (h2) (by simp) ?_ | refine dstepK_is rfl (h2) rfl (by simp) ?_ | (fail_if_success with_reducible (refine Owe.mk ?_)); (simp (disch := omega) [go_sem, h]) | refine And.intro (by omega) ?_ | refine And.intro (And.intro (by assumption) (by omega)) ?_ | (refine nbI fun bq => ?_) | (first | refine zqm ?_ ?_ | refine zgm ?_ ?_ | refine zdm ?_ ?_) <;> (intro h; simp only [h, Bool.not_true, Bool.not_false]) | (first | refine zqs ?_ ?_ | refine zgs ?_ ?_ | refine zds ?_ ?_) <;> (intro h; first | (exfalso; simp at h; omega) | ((try simp only [h]); (try simp at h))))
end Go.Proofs.Ytldecgghhaoliaa
