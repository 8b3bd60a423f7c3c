import Derived.Test.YtldecgghhaoliaaName2
namespace Go.Proofs.Ytldecgghhaoliaa
open Go.Ab
set_option linter.unusedSimpArgs false
set_option maxRecDepth 100000
abbrev sIf : ByteArray := ByteArray.mk #[105, 102]
abbrev sAnd : ByteArray := ByteArray.mk #[97, 110, 100]
abbrev sNot : ByteArray := ByteArray.mk #[110, 111, 116]
theorem in3 (c : Int) (p q r : Int × Int) : inS c [p, q, r] = decide ((p.1 ≤ c ∧ c ≤ p.2) ∨ (q.1 ≤ c ∧ c ≤ q.2) ∨ (r.1 ≤ c ∧ c ≤ r.2)) := by
  rw [Bool.eq_iff_iff]; simp [inS]
theorem in1 (c : Int) (p : Int × Int) : inS c [p] = decide (p.1 ≤ c ∧ c ≤ p.2) := by
  rw [Bool.eq_iff_iff]; simp [inS]
def nameS (s : ByteArray) : Bool := spellS s (97, 122) (48, 57) (45, 45) && !decide (s = sIf) && !decide (s = sAnd) && !decide (s = sNot)
theorem Name_ok (s : ByteArray) : ACall Try.prog 13 [.sc (.string s)] (fun r => r = bl (nameS s)) := by
  have h1 := spelled_ok s (97, 122) (48, 57) (45, 45)
  simp only [nameS]
  generalize spellS s (97, 122) (48, 57) (45, 45) = b at *
  refine acall_of_awp Try.func13 Try.call13 rfl (by simp [Try.ntmps13]) ?_; simp only [Try.ntmps13, Try.results13]
  cases b
  · repeat' (first
    | (refine awp_seqK (fun K hK => ?_))
    | (refine Hide.go (by assumption) ?_)
    | ((first | refine zqd ?_ ?_ | refine zqn ?_ ?_ | refine zgd ?_ ?_ | refine zgn ?_ ?_ | refine zdd ?_ ?_ | refine zdn ?_ ?_) <;> (intro h; first | (exfalso; omega) | (simp only [h, decide_true, decide_false, not_false_eq_true]) | skip))
    | (refine end_ret [] ?_; simp [go_sem])
    | (refine stepK_is rfl (h1) (by simp) ?_)
    | (refine dstepK_is rfl (h1) rfl (by simp) ?_)
    | ((fail_if_success with_reducible (refine Owe.mk ?_)); (simp (disch := omega) [go_sem]))
    | (refine And.intro (by omega) ?_)
    | (refine nbI fun bq => ?_)
    | ((first | refine zqm ?_ ?_ | refine zgm ?_ ?_ | refine zdm ?_ ?_) <;> (intro h; simp only [h, Bool.not_true, Bool.not_false]))
    | ((first | refine zqs ?_ ?_ | refine zgs ?_ ?_ | refine zds ?_ ?_) <;> (intro h; first | (exfalso; simp at h; omega) | ((try simp only [h]); (try simp at h))))
    | fail)
  · repeat' (first
    | (refine awp_seqK (fun K hK => ?_))
    | (refine Hide.go (by assumption) ?_)
    | ((first | refine zqd ?_ ?_ | refine zqn ?_ ?_ | refine zgd ?_ ?_ | refine zgn ?_ ?_ | refine zdd ?_ ?_ | refine zdn ?_ ?_) <;> (intro h; first | (exfalso; omega) | (simp only [h, decide_true, decide_false, not_false_eq_true]) | skip))
    | (refine end_ret [] ?_; simp [go_sem])
    | (refine stepK_is rfl (h1) (by simp) ?_)
    | (refine dstepK_is rfl (h1) rfl (by simp) ?_)
    | ((fail_if_success with_reducible (refine Owe.mk ?_)); (simp (disch := omega) [go_sem]))
    | (refine And.intro (by omega) ?_)
    | (refine nbI fun bq => ?_)
    | ((first | refine zqm ?_ ?_ | refine zgm ?_ ?_ | refine zdm ?_ ?_) <;> (intro h; simp only [h, Bool.not_true, Bool.not_false]))
    | ((first | refine zqs ?_ ?_ | refine zgs ?_ ?_ | refine zds ?_ ?_) <;> (intro h; first | (exfalso; simp at h; omega) | ((try simp only [h]); (try simp at h))))
    | fail)
    all_goals (simp_all [sIf, sAnd, sNot] <;> (rw [Bool.eq_iff_iff]; simp))
def varS (s : ByteArray) : Bool := spellS s (65, 90) (97, 122) (48, 57)
theorem Variable_ok (s : ByteArray) : ACall Try.prog 15 [.sc (.string s)] (fun r => r = bl (varS s)) := by
  have h1 := spelled_ok s (65, 90) (97, 122) (48, 57)
  simp only [varS]
  generalize spellS s (65, 90) (97, 122) (48, 57) = b at *
  refine acall_of_awp Try.func15 Try.call15 rfl (by simp [Try.ntmps15]) ?_; simp only [Try.ntmps15, Try.results15]
  repeat' (first
    | (refine awp_seqK (fun K hK => ?_))
    | (refine Hide.go (by assumption) ?_)
    | ((first | refine zqd ?_ ?_ | refine zqn ?_ ?_ | refine zgd ?_ ?_ | refine zgn ?_ ?_ | refine zdd ?_ ?_ | refine zdn ?_ ?_) <;> (intro h; first | (exfalso; omega) | (simp only [h, decide_true, decide_false, not_false_eq_true]) | skip))
    | (refine end_ret [] ?_; simp [go_sem])
    | (refine stepK_is rfl (h1) (by simp) ?_)
    | (refine dstepK_is rfl (h1) rfl (by simp) ?_)
    | ((fail_if_success with_reducible (refine Owe.mk ?_)); (simp (disch := omega) [go_sem]))
    | (refine And.intro (by omega) ?_)
    | (refine nbI fun bq => ?_)
    | ((first | refine zqm ?_ ?_ | refine zgm ?_ ?_ | refine zdm ?_ ?_) <;> (intro h; simp only [h, Bool.not_true, Bool.not_false]))
    | ((first | refine zqs ?_ ?_ | refine zgs ?_ ?_ | refine zds ?_ ?_) <;> (intro h; first | (exfalso; simp at h; omega) | ((try simp only [h]); (try simp at h))))
    | fail)
theorem lower_ok (c : Int) : ACall Try.prog 46 [nt .u8 c] (fun r => r = bl (decide (97 ≤ c ∧ c ≤ 122))) := by
  refine acall_of_awp Try.func46 Try.call46 rfl (by simp [Try.ntmps46]) ?_; simp only [Try.ntmps46, Try.results46]
  repeat' (first
    | (refine awp_seqK (fun K hK => ?_))
    | (refine Hide.go (by assumption) ?_)
    | ((first | refine zqd ?_ ?_ | refine zqn ?_ ?_ | refine zgd ?_ ?_ | refine zgn ?_ ?_ | refine zdd ?_ ?_ | refine zdn ?_ ?_) <;> (intro h; first | (exfalso; omega) | (simp only [h, decide_true, decide_false, not_false_eq_true]) | skip))
    | (refine end_ret [] ?_; simp [go_sem])
    | ((fail_if_success with_reducible (refine Owe.mk ?_)); (simp (disch := omega) [go_sem]))
    | (refine And.intro (by omega) ?_)
    | (refine nbI fun bq => ?_)
    | ((first | refine zqm ?_ ?_ | refine zgm ?_ ?_ | refine zdm ?_ ?_) <;> (intro h; simp only [h, Bool.not_true, Bool.not_false]))
    | ((first | refine zqs ?_ ?_ | refine zgs ?_ ?_ | refine zds ?_ ?_) <;> (intro h; first | (exfalso; simp at h; omega) | ((try simp only [h]); (try simp at h))))
    | fail)
  all_goals (first | omega | (rw [Bool.eq_iff_iff]; simp; omega))
theorem upper_ok (c : Int) : ACall Try.prog 47 [nt .u8 c] (fun r => r = bl (decide (65 ≤ c ∧ c ≤ 90))) := by
  refine acall_of_awp Try.func47 Try.call47 rfl (by simp [Try.ntmps47]) ?_; simp only [Try.ntmps47, Try.results47]
  repeat' (first
    | (refine awp_seqK (fun K hK => ?_))
    | (refine Hide.go (by assumption) ?_)
    | ((first | refine zqd ?_ ?_ | refine zqn ?_ ?_ | refine zgd ?_ ?_ | refine zgn ?_ ?_ | refine zdd ?_ ?_ | refine zdn ?_ ?_) <;> (intro h; first | (exfalso; omega) | (simp only [h, decide_true, decide_false, not_false_eq_true]) | skip))
    | (refine end_ret [] ?_; simp [go_sem])
    | ((fail_if_success with_reducible (refine Owe.mk ?_)); (simp (disch := omega) [go_sem]))
    | (refine And.intro (by omega) ?_)
    | (refine nbI fun bq => ?_)
    | ((first | refine zqm ?_ ?_ | refine zgm ?_ ?_ | refine zdm ?_ ?_) <;> (intro h; simp only [h, Bool.not_true, Bool.not_false]))
    | ((first | refine zqs ?_ ?_ | refine zgs ?_ ?_ | refine zds ?_ ?_) <;> (intro h; first | (exfalso; simp at h; omega) | ((try simp only [h]); (try simp at h))))
    | fail)
  all_goals (first | omega | (rw [Bool.eq_iff_iff]; simp; omega))
theorem digit_ok (c : Int) : ACall Try.prog 44 [nt .u8 c] (fun r => r = bl (decide (48 ≤ c ∧ c ≤ 57))) := by
  refine acall_of_awp Try.func44 Try.call44 rfl (by simp [Try.ntmps44]) ?_; simp only [Try.ntmps44, Try.results44]
  repeat' (first
    | (refine awp_seqK (fun K hK => ?_))
    | (refine Hide.go (by assumption) ?_)
    | ((first | refine zqd ?_ ?_ | refine zqn ?_ ?_ | refine zgd ?_ ?_ | refine zgn ?_ ?_ | refine zdd ?_ ?_ | refine zdn ?_ ?_) <;> (intro h; first | (exfalso; omega) | (simp only [h, decide_true, decide_false, not_false_eq_true]) | skip))
    | (refine end_ret [] ?_; simp [go_sem])
    | ((fail_if_success with_reducible (refine Owe.mk ?_)); (simp (disch := omega) [go_sem]))
    | (refine And.intro (by omega) ?_)
    | (refine nbI fun bq => ?_)
    | ((first | refine zqm ?_ ?_ | refine zgm ?_ ?_ | refine zdm ?_ ?_) <;> (intro h; simp only [h, Bool.not_true, Bool.not_false]))
    | ((first | refine zqs ?_ ?_ | refine zgs ?_ ?_ | refine zds ?_ ?_) <;> (intro h; first | (exfalso; simp at h; omega) | ((try simp only [h]); (try simp at h))))
    | fail)
  all_goals (first | omega | (rw [Bool.eq_iff_iff]; simp; omega))
theorem refName_ok (s : ByteArray) : ACall Try.prog 14 [.sc (.string s)] (fun r => r = bl (nameS s)) := by
  have h1 := lower_ok (bt s 0)
  by_cases a1 : 1 ≤ s.size ∧ s.size ≤ 16 ∧ (97 ≤ bt s 0 ∧ bt s 0 ≤ 122) ∧ s ≠ sIf ∧ s ≠ sAnd ∧ s ≠ sNot
  · have e : nameS s = allS s (97, 122) (48, 57) (45, 45) s.size := by simp [nameS, spellS, a1, in1]
    rw [e]
    obtain ⟨b1, b2, b3, b4, b5, b6⟩ := a1
    unfold sIf at b4
    unfold sAnd at b5
    unfold sNot at b6
    refine acall_of_awp Try.func14 Try.call14 rfl (by simp [Try.ntmps14]) ?_; simp only [Try.ntmps14, Try.results14]
    repeat' (first
    | (refine awp_seqK (fun K hK => ?_))
    | (refine Hide.go (by assumption) ?_)
    | ((first | refine zqd ?_ ?_ | refine zqn ?_ ?_ | refine zgd ?_ ?_ | refine zgn ?_ ?_ | refine zdd ?_ ?_ | refine zdn ?_ ?_) <;> (intro h; first | (exfalso; omega) | (simp only [h, decide_true, decide_false, not_false_eq_true]) | skip))
    | (refine end_ret [] ?_; simp [go_sem, b4, b5, b6])
    | (refine stepK_is rfl (h1) (by simp) ?_)
    | (refine dstepK_is rfl (h1) rfl (by simp) ?_)
    | ((fail_if_success with_reducible (refine Owe.mk ?_)); (simp (disch := omega) [go_sem, b4, b5, b6]))
    | (refine And.intro (by omega) ?_)
    | (refine nbI fun bq => ?_)
    | ((first | refine zqm ?_ ?_ | refine zgm ?_ ?_ | refine zdm ?_ ?_) <;> (intro h; simp only [h, Bool.not_true, Bool.not_false]))
    | ((first | refine zqs ?_ ?_ | refine zgs ?_ ?_ | refine zds ?_ ?_) <;> (intro h; first | (exfalso; simp at h; omega) | ((try simp only [h]); (try simp at h))))
    | fail)
    refine awp_loop (fun nn ss_ => ∃ i : Nat, i ≤ s.size ∧ nn = s.size - i ∧ (allS s (97, 122) (48, 57) (45, 45) i = true) ∧ ss_ = { n := 54, t := [(0, .sc (.string s)), (31, nt .i64 s.size), (32, nt .i64 (i))], o := [] }) (s.size) { n := 54, t := [(0, .sc (.string s)), (31, nt .i64 s.size), (32, nt .i64 (0))], o := [] } (Le.sub4 rfl (by simp [go_sem])) ⟨0, Nat.zero_le _, rfl, rfl, rfl⟩ ?_; rintro _ _ ⟨i, hi, rfl, hin, rfl⟩
    have hl := lower_ok (bt s i)
    have hd := digit_ok (bt s i)
    by_cases hlt : i < s.size
    · have hs := allS_succ s (97, 122) (48, 57) (45, 45) i
      rw [in3, hin, Bool.true_and] at hs
      dsimp only at hs
      repeat' (first
    | (refine awp_seqK (fun K hK => ?_))
    | (refine Hide.go (by assumption) ?_)
    | ((first | refine zqd ?_ ?_ | refine zqn ?_ ?_ | refine zgd ?_ ?_ | refine zgn ?_ ?_ | refine zdd ?_ ?_ | refine zdn ?_ ?_) <;> (intro h; first | (exfalso; omega) | (simp only [h, decide_true, decide_false, not_false_eq_true]) | skip))
    | (refine end_ret [] ?_; simp [go_sem, hlt])
    | (refine stepK_is rfl (hl) (by simp) ?_)
    | (refine dstepK_is rfl (hl) rfl (by simp) ?_)
    | (refine stepK_is rfl (hd) (by simp) ?_)
    | (refine dstepK_is rfl (hd) rfl (by simp) ?_)
    | (refine Again.mk (s.size - (i + 1)) { n := 54, t := [(0, .sc (.string s)), (31, nt .i64 s.size), (32, nt .i64 ((i + 1 : Nat)))], o := [] } (by omega) (Le.sub4 rfl (by simp [go_sem])) ⟨i + 1, by omega, rfl, by rw [hs]; exact decide_eq_true (by omega), rfl⟩)
    | ((fail_if_success with_reducible (refine Owe.mk ?_)); (simp (disch := omega) [go_sem, hlt]))
    | (refine And.intro (by omega) ?_)
    | (refine nbI fun bq => ?_)
    | ((first | refine zqm ?_ ?_ | refine zgm ?_ ?_ | refine zdm ?_ ?_) <;> (intro h; simp only [h, Bool.not_true, Bool.not_false]))
    | ((first | refine zqs ?_ ?_ | refine zgs ?_ ?_ | refine zds ?_ ?_) <;> (intro h; first | (exfalso; simp at h; omega) | ((try simp only [h]); (try simp at h))))
    | fail)
      all_goals exact allS_false (i := i) (by rw [in3]; exact decide_eq_false (by dsimp only; omega)) hlt
    · obtain rfl : i = s.size := by omega
      repeat' (first
    | (refine awp_seqK (fun K hK => ?_))
    | (refine Hide.go (by assumption) ?_)
    | ((first | refine zqd ?_ ?_ | refine zqn ?_ ?_ | refine zgd ?_ ?_ | refine zgn ?_ ?_ | refine zdd ?_ ?_ | refine zdn ?_ ?_) <;> (intro h; first | (exfalso; omega) | (simp only [h, decide_true, decide_false, not_false_eq_true]) | skip))
    | (refine end_ret [] ?_; simp [go_sem, hin])
    | ((fail_if_success with_reducible (refine Owe.mk ?_)); (simp (disch := omega) [go_sem, hin]))
    | (refine And.intro (by omega) ?_)
    | (refine nbI fun bq => ?_)
    | ((first | refine zqm ?_ ?_ | refine zgm ?_ ?_ | refine zdm ?_ ?_) <;> (intro h; simp only [h, Bool.not_true, Bool.not_false]))
    | ((first | refine zqs ?_ ?_ | refine zgs ?_ ?_ | refine zds ?_ ?_) <;> (intro h; first | (exfalso; simp at h; omega) | ((try simp only [h]); (try simp at h))))
    | fail)
  · have e : nameS s = false := by
      rw [Bool.eq_false_iff]
      intro h
      simp [nameS, spellS, in1] at h
      exact a1 (by simp [h])
    rw [e]
    unfold sIf sAnd sNot at a1
    refine acall_of_awp Try.func14 Try.call14 rfl (by simp [Try.ntmps14]) ?_; simp only [Try.ntmps14, Try.results14]
    repeat' (first
    | (refine awp_seqK (fun K hK => ?_))
    | (refine Hide.go (by assumption) ?_)
    | ((first | refine zqd ?_ ?_ | refine zqn ?_ ?_ | refine zgd ?_ ?_ | refine zgn ?_ ?_ | refine zdd ?_ ?_ | refine zdn ?_ ?_) <;> (intro h; first | (exfalso; omega) | (simp only [h, decide_true, decide_false, not_false_eq_true]) | skip))
    | (refine end_ret [] ?_; simp [go_sem])
    | (refine stepK_is rfl (h1) (by simp) ?_)
    | (refine dstepK_is rfl (h1) rfl (by simp) ?_)
    | ((fail_if_success with_reducible (refine Owe.mk ?_)); (simp (disch := omega) [go_sem]))
    | (refine And.intro (by omega) ?_)
    | (refine nbI fun bq => ?_)
    | ((first | refine zqm ?_ ?_ | refine zgm ?_ ?_ | refine zdm ?_ ?_) <;> (intro h; simp only [h, Bool.not_true, Bool.not_false]))
    | ((first | refine zqs ?_ ?_ | refine zgs ?_ ?_ | refine zds ?_ ?_) <;> (intro h; first | (exfalso; simp at h; omega) | ((try simp only [h]); (try simp at h))))
    | fail)
    all_goals (exfalso; apply a1; refine ⟨by omega, by omega, by omega, ?_, ?_, ?_⟩ <;> assumption)
theorem refVariable_ok (s : ByteArray) : ACall Try.prog 16 [.sc (.string s)] (fun r => r = bl (varS s)) := by
  have h1 := upper_ok (bt s 0)
  by_cases a1 : 1 ≤ s.size ∧ s.size ≤ 16 ∧ (65 ≤ bt s 0 ∧ bt s 0 ≤ 90)
  · have e : varS s = allS s (65, 90) (97, 122) (48, 57) s.size := by simp [varS, spellS, a1, in1]
    rw [e]
    obtain ⟨b1, b2, b3⟩ := a1
    refine acall_of_awp Try.func16 Try.call16 rfl (by simp [Try.ntmps16]) ?_; simp only [Try.ntmps16, Try.results16]
    repeat' (first
    | (refine awp_seqK (fun K hK => ?_))
    | (refine Hide.go (by assumption) ?_)
    | ((first | refine zqd ?_ ?_ | refine zqn ?_ ?_ | refine zgd ?_ ?_ | refine zgn ?_ ?_ | refine zdd ?_ ?_ | refine zdn ?_ ?_) <;> (intro h; first | (exfalso; omega) | (simp only [h, decide_true, decide_false, not_false_eq_true]) | skip))
    | (refine end_ret [] ?_; simp [go_sem])
    | (refine stepK_is rfl (h1) (by simp) ?_)
    | (refine dstepK_is rfl (h1) rfl (by simp) ?_)
    | ((fail_if_success with_reducible (refine Owe.mk ?_)); (simp (disch := omega) [go_sem]))
    | (refine And.intro (by omega) ?_)
    | (refine nbI fun bq => ?_)
    | ((first | refine zqm ?_ ?_ | refine zgm ?_ ?_ | refine zdm ?_ ?_) <;> (intro h; simp only [h, Bool.not_true, Bool.not_false]))
    | ((first | refine zqs ?_ ?_ | refine zgs ?_ ?_ | refine zds ?_ ?_) <;> (intro h; first | (exfalso; simp at h; omega) | ((try simp only [h]); (try simp at h))))
    | fail)
    refine awp_loop (fun nn ss_ => ∃ i : Nat, i ≤ s.size ∧ nn = s.size - i ∧ (allS s (65, 90) (97, 122) (48, 57) i = true) ∧ ss_ = { n := 43, t := [(0, .sc (.string s)), (19, nt .i64 s.size), (20, nt .i64 (i))], o := [] }) (s.size) { n := 43, t := [(0, .sc (.string s)), (19, nt .i64 s.size), (20, nt .i64 (0))], o := [] } (Le.sub4 rfl (by simp [go_sem])) ⟨0, Nat.zero_le _, rfl, rfl, rfl⟩ ?_; rintro _ _ ⟨i, hi, rfl, hin, rfl⟩
    have hl := lower_ok (bt s i)
    have hu := upper_ok (bt s i)
    have hd := digit_ok (bt s i)
    by_cases hlt : i < s.size
    · have hs := allS_succ s (65, 90) (97, 122) (48, 57) i
      rw [in3, hin, Bool.true_and] at hs
      dsimp only at hs
      repeat' (first
    | (refine awp_seqK (fun K hK => ?_))
    | (refine Hide.go (by assumption) ?_)
    | ((first | refine zqd ?_ ?_ | refine zqn ?_ ?_ | refine zgd ?_ ?_ | refine zgn ?_ ?_ | refine zdd ?_ ?_ | refine zdn ?_ ?_) <;> (intro h; first | (exfalso; omega) | (simp only [h, decide_true, decide_false, not_false_eq_true]) | skip))
    | (refine end_ret [] ?_; simp [go_sem, hlt])
    | (refine stepK_is rfl (hl) (by simp) ?_)
    | (refine dstepK_is rfl (hl) rfl (by simp) ?_)
    | (refine stepK_is rfl (hd) (by simp) ?_)
    | (refine dstepK_is rfl (hd) rfl (by simp) ?_)
    | (refine stepK_is rfl (hu) (by simp) ?_)
    | (refine dstepK_is rfl (hu) rfl (by simp) ?_)
    | (refine Again.mk (s.size - (i + 1)) { n := 43, t := [(0, .sc (.string s)), (19, nt .i64 s.size), (20, nt .i64 ((i + 1 : Nat)))], o := [] } (by omega) (Le.sub4 rfl (by simp [go_sem])) ⟨i + 1, by omega, rfl, by rw [hs]; exact decide_eq_true (by omega), rfl⟩)
    | ((fail_if_success with_reducible (refine Owe.mk ?_)); (simp (disch := omega) [go_sem, hlt]))
    | (refine And.intro (by omega) ?_)
    | (refine nbI fun bq => ?_)
    | ((first | refine zqm ?_ ?_ | refine zgm ?_ ?_ | refine zdm ?_ ?_) <;> (intro h; simp only [h, Bool.not_true, Bool.not_false]))
    | ((first | refine zqs ?_ ?_ | refine zgs ?_ ?_ | refine zds ?_ ?_) <;> (intro h; first | (exfalso; simp at h; omega) | ((try simp only [h]); (try simp at h))))
    | fail)
      all_goals exact allS_false (i := i) (by rw [in3]; exact decide_eq_false (by dsimp only; omega)) hlt
    · obtain rfl : i = s.size := by omega
      repeat' (first
    | (refine awp_seqK (fun K hK => ?_))
    | (refine Hide.go (by assumption) ?_)
    | ((first | refine zqd ?_ ?_ | refine zqn ?_ ?_ | refine zgd ?_ ?_ | refine zgn ?_ ?_ | refine zdd ?_ ?_ | refine zdn ?_ ?_) <;> (intro h; first | (exfalso; omega) | (simp only [h, decide_true, decide_false, not_false_eq_true]) | skip))
    | (refine end_ret [] ?_; simp [go_sem, hin])
    | ((fail_if_success with_reducible (refine Owe.mk ?_)); (simp (disch := omega) [go_sem, hin]))
    | (refine And.intro (by omega) ?_)
    | (refine nbI fun bq => ?_)
    | ((first | refine zqm ?_ ?_ | refine zgm ?_ ?_ | refine zdm ?_ ?_) <;> (intro h; simp only [h, Bool.not_true, Bool.not_false]))
    | ((first | refine zqs ?_ ?_ | refine zgs ?_ ?_ | refine zds ?_ ?_) <;> (intro h; first | (exfalso; simp at h; omega) | ((try simp only [h]); (try simp at h))))
    | fail)
  · have e : varS s = false := by
      rw [Bool.eq_false_iff]
      intro h
      simp [varS, spellS, in1] at h
      exact a1 (by simp [h])
    rw [e]
    refine acall_of_awp Try.func16 Try.call16 rfl (by simp [Try.ntmps16]) ?_; simp only [Try.ntmps16, Try.results16]
    repeat' (first
    | (refine awp_seqK (fun K hK => ?_))
    | (refine Hide.go (by assumption) ?_)
    | ((first | refine zqd ?_ ?_ | refine zqn ?_ ?_ | refine zgd ?_ ?_ | refine zgn ?_ ?_ | refine zdd ?_ ?_ | refine zdn ?_ ?_) <;> (intro h; first | (exfalso; omega) | (simp only [h, decide_true, decide_false, not_false_eq_true]) | skip))
    | (refine end_ret [] ?_; simp [go_sem])
    | (refine stepK_is rfl (h1) (by simp) ?_)
    | (refine dstepK_is rfl (h1) rfl (by simp) ?_)
    | ((fail_if_success with_reducible (refine Owe.mk ?_)); (simp (disch := omega) [go_sem]))
    | (refine And.intro (by omega) ?_)
    | (refine nbI fun bq => ?_)
    | ((first | refine zqm ?_ ?_ | refine zgm ?_ ?_ | refine zdm ?_ ?_) <;> (intro h; simp only [h, Bool.not_true, Bool.not_false]))
    | ((first | refine zqs ?_ ?_ | refine zgs ?_ ?_ | refine zds ?_ ?_) <;> (intro h; first | (exfalso; simp at h; omega) | ((try simp only [h]); (try simp at h))))
    | fail)
    all_goals (exfalso; apply a1; omega)
end Go.Proofs.Ytldecgghhaoliaa
