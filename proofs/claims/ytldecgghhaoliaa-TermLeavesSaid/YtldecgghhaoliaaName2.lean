import Derived.Test.YtldecgghhaoliaaName1
namespace Go.Proofs.Ytldecgghhaoliaa
open Go.Ab
set_option linter.unusedSimpArgs false
set_option maxRecDepth 100000
def allS (s : ByteArray) (p q r : Int × Int) (n : Nat) : Bool := (List.range n).all fun i => inS (bt s i) [p, q, r]
theorem allS_succ (s : ByteArray) (p q r : Int × Int) (n : Nat) : allS s p q r (n + 1) = (allS s p q r n && inS (bt s n) [p, q, r]) := by
  simp [allS, List.range_succ, List.all_append]
def spellS (s : ByteArray) (p q r : Int × Int) : Bool := decide (1 ≤ s.size) && decide (s.size ≤ 16) && inS (bt s 0) [p] && allS s p q r s.size
theorem allS_false {s : ByteArray} {p q r : Int × Int} {i : Nat} (h : inS (bt s i) [p, q, r] = false) {n : Nat} (hn : i < n) : allS s p q r n = false := by
  unfold allS; rw [List.all_eq_false]; exact ⟨i, by simpa using hn, by simp [h]⟩
theorem spelled_ok (s : ByteArray) (p q r : Int × Int) : ACall Try.prog 45 [.sc (.string s), .agg [nt .u8 p.1, nt .u8 p.2, nt .u8 q.1, nt .u8 q.2, nt .u8 r.1, nt .u8 r.2]] (fun x => x = bl (spellS s p q r)) := by
  have h1 : ACall Try.prog 74 [nt .u8 (bt s 0), .list true false [.agg [nt .u8 p.1, nt .u8 p.2]]] (fun x => x = bl (inS (bt s 0) [p])) := in_ok (bt s 0) true false [p] (by simp)
  have h3 : ∀ i, ACall Try.prog 74 [nt .u8 (bt s i), .list true false [.agg [nt .u8 p.1, nt .u8 p.2], .agg [nt .u8 q.1, nt .u8 q.2], .agg [nt .u8 r.1, nt .u8 r.2]]] (fun x => x = bl (inS (bt s i) [p, q, r])) := fun i => in_ok (bt s i) true false [p, q, r] (by simp)
  by_cases a1 : 1 ≤ s.size ∧ s.size ≤ 16
  · by_cases a2 : inS (bt s 0) [p] = true
    · have e : spellS s p q r = allS s p q r s.size := by simp [spellS, a1, a2]
      rw [e]
      rw [a2] at h1
      refine acall_of_awp Try.func45 Try.call45 rfl (by simp [Try.ntmps45]) ?_; simp only [Try.ntmps45, Try.results45]
      repeat' (first
    | (refine awp_seqK (fun K hK => ?_))
    | (refine Hide.go (by assumption) ?_)
    | ((first | refine zqd ?_ ?_ | refine zqn ?_ ?_ | refine zgd ?_ ?_ | refine zgn ?_ ?_ | refine zdd ?_ ?_ | refine zdn ?_ ?_) <;> (intro h; first | (exfalso; omega) | (simp only [h, decide_true, decide_false, not_false_eq_true]) | skip))
    | (refine end_ret [] ?_; simp [go_sem])
    | (refine stepK_is rfl (h1) (by simp) ?_)
    | (refine dstepK_is rfl (h1) rfl (by simp) ?_)
    | ((fail_if_success with_reducible (refine Owe.mk ?_)); (simp (disch := omega) [go_sem]))
    | (refine And.intro (by omega) ?_)
    | (refine awp_draw 6 mix (by decide +kernel) ?_)
    | (refine awp_draw 15 mix (by decide +kernel) ?_)
    | (refine nbI fun bq => ?_)
    | ((first | refine zqm ?_ ?_ | refine zgm ?_ ?_ | refine zdm ?_ ?_) <;> (intro h; simp only [h, Bool.not_true, Bool.not_false]))
    | ((first | refine zqs ?_ ?_ | refine zgs ?_ ?_ | refine zds ?_ ?_) <;> (intro h; first | (exfalso; simp at h; omega) | ((try simp only [h]); (try simp at h))))
    | fail)
      refine awp_loop (fun nn ss_ => ∃ i : Nat, i ≤ s.size ∧ nn = s.size - i ∧ (allS s p q r i = true) ∧ ss_ = { n := 33, t := [(0, .sc (.string s)), (3, .ptr 3 0 0), (5, nt .i64 (i))], o := [(3, { arr := false, fz := false, pin := false, es := 6, xs := [.agg [nt .u8 p.1, nt .u8 p.2, nt .u8 q.1, nt .u8 q.2, nt .u8 r.1, nt .u8 r.2]] })] }) (s.size) { n := 33, t := [(0, .sc (.string s)), (3, .ptr 3 0 0), (5, nt .i64 (0))], o := [(3, { arr := false, fz := false, pin := false, es := 6, xs := [.agg [nt .u8 p.1, nt .u8 p.2, nt .u8 q.1, nt .u8 q.2, nt .u8 r.1, nt .u8 r.2]] })] } (Le.sub4 rfl (by simp [go_sem])) ⟨0, Nat.zero_le _, rfl, rfl, rfl⟩ ?_; rintro _ _ ⟨i, hi, rfl, hin, rfl⟩
      have hb := h3 i
      by_cases hlt : i < s.size
      · cases hz : inS (bt s i) [p, q, r] with
        | false =>
          rw [hz] at hb
          repeat' (first
    | (refine awp_seqK (fun K hK => ?_))
    | (refine Hide.go (by assumption) ?_)
    | ((first | refine zqd ?_ ?_ | refine zqn ?_ ?_ | refine zgd ?_ ?_ | refine zgn ?_ ?_ | refine zdd ?_ ?_ | refine zdn ?_ ?_) <;> (intro h; first | (exfalso; omega) | (simp only [h, decide_true, decide_false, not_false_eq_true]) | skip))
    | (refine end_ret [] ?_; simp [go_sem, hlt])
    | (refine stepK_is rfl (hb) (by simp) ?_)
    | (refine dstepK_is rfl (hb) rfl (by simp) ?_)
    | ((fail_if_success with_reducible (refine Owe.mk ?_)); (simp (disch := omega) [go_sem, hlt]))
    | (refine And.intro (by omega) ?_)
    | (refine awp_draw 6 mix (by decide +kernel) ?_)
    | (refine awp_draw 15 mix (by decide +kernel) ?_)
    | (refine nbI fun bq => ?_)
    | ((first | refine zqm ?_ ?_ | refine zgm ?_ ?_ | refine zdm ?_ ?_) <;> (intro h; simp only [h, Bool.not_true, Bool.not_false]))
    | ((first | refine zqs ?_ ?_ | refine zgs ?_ ?_ | refine zds ?_ ?_) <;> (intro h; first | (exfalso; simp at h; omega) | ((try simp only [h]); (try simp at h))))
    | fail)
          all_goals exact allS_false hz hlt
        | true =>
          rw [hz] at hb
          have hs : allS s p q r (i + 1) = true := by rw [allS_succ, hin, hz]; rfl
          repeat' (first
    | (refine awp_seqK (fun K hK => ?_))
    | (refine Hide.go (by assumption) ?_)
    | ((first | refine zqd ?_ ?_ | refine zqn ?_ ?_ | refine zgd ?_ ?_ | refine zgn ?_ ?_ | refine zdd ?_ ?_ | refine zdn ?_ ?_) <;> (intro h; first | (exfalso; omega) | (simp only [h, decide_true, decide_false, not_false_eq_true]) | skip))
    | (refine end_ret [] ?_; simp [go_sem, hlt])
    | (refine stepK_is rfl (hb) (by simp) ?_)
    | (refine dstepK_is rfl (hb) rfl (by simp) ?_)
    | (refine Again.mk (s.size - (i + 1)) { n := 33, t := [(0, .sc (.string s)), (3, .ptr 3 0 0), (5, nt .i64 ((i + 1 : Nat)))], o := [(3, { arr := false, fz := false, pin := false, es := 6, xs := [.agg [nt .u8 p.1, nt .u8 p.2, nt .u8 q.1, nt .u8 q.2, nt .u8 r.1, nt .u8 r.2]] })] } (by omega) (Le.sub4 rfl (by simp [go_sem])) ⟨i + 1, by omega, rfl, hs, rfl⟩)
    | ((fail_if_success with_reducible (refine Owe.mk ?_)); (simp (disch := omega) [go_sem, hlt]))
    | (refine And.intro (by omega) ?_)
    | (refine awp_draw 6 mix (by decide +kernel) ?_)
    | (refine awp_draw 15 mix (by decide +kernel) ?_)
    | (refine nbI fun bq => ?_)
    | ((first | refine zqm ?_ ?_ | refine zgm ?_ ?_ | refine zdm ?_ ?_) <;> (intro h; simp only [h, Bool.not_true, Bool.not_false]))
    | ((first | refine zqs ?_ ?_ | refine zgs ?_ ?_ | refine zds ?_ ?_) <;> (intro h; first | (exfalso; simp at h; omega) | ((try simp only [h]); (try simp at h))))
    | fail)
      · obtain rfl : i = s.size := by omega
        repeat' (first
    | (refine awp_seqK (fun K hK => ?_))
    | (refine Hide.go (by assumption) ?_)
    | ((first | refine zqd ?_ ?_ | refine zqn ?_ ?_ | refine zgd ?_ ?_ | refine zgn ?_ ?_ | refine zdd ?_ ?_ | refine zdn ?_ ?_) <;> (intro h; first | (exfalso; omega) | (simp only [h, decide_true, decide_false, not_false_eq_true]) | skip))
    | (refine end_ret [] ?_; simp [go_sem, hin])
    | ((fail_if_success with_reducible (refine Owe.mk ?_)); (simp (disch := omega) [go_sem, hin]))
    | (refine And.intro (by omega) ?_)
    | (refine awp_draw 6 mix (by decide +kernel) ?_)
    | (refine awp_draw 15 mix (by decide +kernel) ?_)
    | (refine nbI fun bq => ?_)
    | ((first | refine zqm ?_ ?_ | refine zgm ?_ ?_ | refine zdm ?_ ?_) <;> (intro h; simp only [h, Bool.not_true, Bool.not_false]))
    | ((first | refine zqs ?_ ?_ | refine zgs ?_ ?_ | refine zds ?_ ?_) <;> (intro h; first | (exfalso; simp at h; omega) | ((try simp only [h]); (try simp at h))))
    | fail)
    · have e : spellS s p q r = false := by simp [spellS, a2]
      rw [e]
      simp only [Bool.not_eq_true] at a2
      rw [a2] at h1
      refine acall_of_awp Try.func45 Try.call45 rfl (by simp [Try.ntmps45]) ?_; simp only [Try.ntmps45, Try.results45]
      repeat' (first
    | (refine awp_seqK (fun K hK => ?_))
    | (refine Hide.go (by assumption) ?_)
    | ((first | refine zqd ?_ ?_ | refine zqn ?_ ?_ | refine zgd ?_ ?_ | refine zgn ?_ ?_ | refine zdd ?_ ?_ | refine zdn ?_ ?_) <;> (intro h; first | (exfalso; omega) | (simp only [h, decide_true, decide_false, not_false_eq_true]) | skip))
    | (refine end_ret [] ?_; simp [go_sem])
    | (refine stepK_is rfl (h1) (by simp) ?_)
    | (refine dstepK_is rfl (h1) rfl (by simp) ?_)
    | ((fail_if_success with_reducible (refine Owe.mk ?_)); (simp (disch := omega) [go_sem]))
    | (refine And.intro (by omega) ?_)
    | (refine awp_draw 6 mix (by decide +kernel) ?_)
    | (refine awp_draw 15 mix (by decide +kernel) ?_)
    | (refine nbI fun bq => ?_)
    | ((first | refine zqm ?_ ?_ | refine zgm ?_ ?_ | refine zdm ?_ ?_) <;> (intro h; simp only [h, Bool.not_true, Bool.not_false]))
    | ((first | refine zqs ?_ ?_ | refine zgs ?_ ?_ | refine zds ?_ ?_) <;> (intro h; first | (exfalso; simp at h; omega) | ((try simp only [h]); (try simp at h))))
    | fail)
  · have e : spellS s p q r = false := by simp [spellS]; omega
    rw [e]
    refine acall_of_awp Try.func45 Try.call45 rfl (by simp [Try.ntmps45]) ?_; simp only [Try.ntmps45, Try.results45]
    repeat' (first
    | (refine awp_seqK (fun K hK => ?_))
    | (refine Hide.go (by assumption) ?_)
    | ((first | refine zqd ?_ ?_ | refine zqn ?_ ?_ | refine zgd ?_ ?_ | refine zgn ?_ ?_ | refine zdd ?_ ?_ | refine zdn ?_ ?_) <;> (intro h; first | (exfalso; omega) | (simp only [h, decide_true, decide_false, not_false_eq_true]) | skip))
    | (refine end_ret [] ?_; simp [go_sem])
    | ((fail_if_success with_reducible (refine Owe.mk ?_)); (simp (disch := omega) [go_sem]))
    | (refine And.intro (by omega) ?_)
    | (refine awp_draw 6 mix (by decide +kernel) ?_)
    | (refine awp_draw 15 mix (by decide +kernel) ?_)
    | (refine nbI fun bq => ?_)
    | ((first | refine zqm ?_ ?_ | refine zgm ?_ ?_ | refine zdm ?_ ?_) <;> (intro h; simp only [h, Bool.not_true, Bool.not_false]))
    | ((first | refine zqs ?_ ?_ | refine zgs ?_ ?_ | refine zds ?_ ?_) <;> (intro h; first | (exfalso; simp at h; omega) | ((try simp only [h]); (try simp at h))))
    | fail)
end Go.Proofs.Ytldecgghhaoliaa
