/-
  Rate16: fraction.Sub, Div, Compare.
-/
import Derived.Test.YtfccgdgippmpgaaRate4
import Derived.Test.YtfccgdgippmpgaaRate9
namespace Go.Proofs.Ytfccgdgippmpgaa
open Go.Ab
set_option linter.unusedSimpArgs false
set_option maxRecDepth 100000
def subQ (f g : Int × Int) : Int × Int × Int := if okF f.1 f.2 = true ∧ okF g.1 g.2 = true then mkQ (f.1 * g.2 - g.1 * f.2) (f.2 * g.2) else (0, 0, 13)
theorem Sub_ok (a b c d : Int) (ha : sm a) (hb : sm b) (hc : sm c) (hd : sm d) :
    ACall Try.prog 17 [.agg [nt .i64 a, nt .i64 b], .agg [nt .i64 c, nt .i64 d]] (fun r => r = eF (subQ (a, b) (c, d))) := by
  unfold sm at *
  have h1 := both_ok a b c d (by omega) (by omega) (by omega) (by omega)
  have m1 := mul_bd ha hd
  have m2 := mul_bd hc hb
  have m3 := mul_bd hb hd
  have hM := Make_ok (a * d - c * b) (b * d) (by omega) (by omega) (by omega) (by omega)
  unfold subQ
  unfold mkF eF at hM
  unfold eF
  by_cases h : okF a b = true ∧ okF c d = true
  · rw [if_pos h] at h1
    simp only [h, and_self, if_true]
    generalize mkQ (a * d - c * b) (b * d) = q at *
    refine acall_of_awp Try.func17 Try.call17 rfl (by simp [Try.ntmps17]) ?_; simp only [Try.ntmps17, Try.results17]
    repeat' (first
    | (refine awp_seqK (fun K hK => ?_))
    | (refine Hide.go (by assumption) ?_)
    | ((first | refine zqd ?_ ?_ | refine zqn ?_ ?_ | refine zgd ?_ ?_ | refine zgn ?_ ?_ | refine zdd ?_ ?_ | refine zdn ?_ ?_) <;> (intro h; first | (exfalso; omega) | (simp only [h, decide_true, decide_false, not_false_eq_true]) | skip))
    | (refine end_ret [] ?_; simp [go_sem])
    | (refine stepK_is rfl (h1) (by simp) ?_)
    | (refine dstepK_is rfl (h1) rfl (by simp) ?_)
    | (refine stepK_is rfl (hM) (by simp) ?_)
    | (refine dstepK_is rfl (hM) rfl (by simp) ?_)
    | ((fail_if_success with_reducible (refine Owe.mk ?_)); (simp (disch := omega) [go_sem]))
    | (refine And.intro (by omega) ?_)
    | (refine nbI fun bq => ?_)
    | ((first | refine zqm ?_ ?_ | refine zgm ?_ ?_ | refine zdm ?_ ?_) <;> (intro h; simp only [h, Bool.not_true, Bool.not_false]))
    | ((first | refine zqs ?_ ?_ | refine zgs ?_ ?_ | refine zds ?_ ?_) <;> (intro h; first | (exfalso; simp at h; omega) | ((try simp only [h]); (try simp at h))))
    | fail)
  · rw [if_neg h] at h1
    simp only [h, if_false]
    refine acall_of_awp Try.func17 Try.call17 rfl (by simp [Try.ntmps17]) ?_; simp only [Try.ntmps17, Try.results17]
    repeat' (first
    | (refine awp_seqK (fun K hK => ?_))
    | (refine Hide.go (by assumption) ?_)
    | ((first | refine zqd ?_ ?_ | refine zqn ?_ ?_ | refine zgd ?_ ?_ | refine zgn ?_ ?_ | refine zdd ?_ ?_ | refine zdn ?_ ?_) <;> (intro h; first | (exfalso; omega) | (simp only [h, decide_true, decide_false, not_false_eq_true]) | skip))
    | (refine end_ret [] ?_; simp [go_sem])
    | (refine stepK_is rfl (h1) (by simp) ?_)
    | (refine dstepK_is rfl (h1) rfl (by simp) ?_)
    | ((fail_if_success with_reducible (refine Owe.mk ?_)); (simp (disch := omega) [go_sem]))
    | (refine And.intro (by omega) ?_)
    | (refine nbI fun bq => ?_)
    | ((first | refine zqm ?_ ?_ | refine zgm ?_ ?_ | refine zdm ?_ ?_) <;> (intro h; simp only [h, Bool.not_true, Bool.not_false]))
    | ((first | refine zqs ?_ ?_ | refine zgs ?_ ?_ | refine zds ?_ ?_) <;> (intro h; first | (exfalso; simp at h; omega) | ((try simp only [h]); (try simp at h))))
    | fail)
def divQ (f g : Int × Int) : Int × Int × Int := if okF f.1 f.2 = true ∧ okF g.1 g.2 = true then (if g.1 = 0 then (0, 0, 12) else mkQ (f.1 * g.2) (f.2 * g.1)) else (0, 0, 13)
theorem Div_ok (a b c d : Int) (ha : sm a) (hb : sm b) (hc : sm c) (hd : sm d) :
    ACall Try.prog 18 [.agg [nt .i64 a, nt .i64 b], .agg [nt .i64 c, nt .i64 d]] (fun r => r = eF (divQ (a, b) (c, d))) := by
  unfold sm at *
  have h1 := both_ok a b c d (by omega) (by omega) (by omega) (by omega)
  have m1 := mul_bd ha hd
  have m2 := mul_bd hb hc
  have hM := Make_ok (a * d) (b * c) (by omega) (by omega) (by omega) (by omega)
  unfold divQ
  unfold mkF eF at hM
  unfold eF
  by_cases h : okF a b = true ∧ okF c d = true
  · rw [if_pos h] at h1
    simp only [h, and_self, if_true]
    by_cases hz : c = 0
    · rw [if_pos hz]
      subst hz
      refine acall_of_awp Try.func18 Try.call18 rfl (by simp [Try.ntmps18]) ?_; simp only [Try.ntmps18, Try.results18]
      repeat' (first
    | (refine awp_seqK (fun K hK => ?_))
    | (refine Hide.go (by assumption) ?_)
    | ((first | refine zqd ?_ ?_ | refine zqn ?_ ?_ | refine zgd ?_ ?_ | refine zgn ?_ ?_ | refine zdd ?_ ?_ | refine zdn ?_ ?_) <;> (intro h; first | (exfalso; omega) | (simp only [h, decide_true, decide_false, not_false_eq_true]) | skip))
    | (refine end_ret [] ?_; simp [go_sem])
    | (refine stepK_is rfl (h1) (by simp) ?_)
    | (refine dstepK_is rfl (h1) rfl (by simp) ?_)
    | ((fail_if_success with_reducible (refine Owe.mk ?_)); (simp (disch := omega) [go_sem]))
    | (refine And.intro (by omega) ?_)
    | (refine nbI fun bq => ?_)
    | ((first | refine zqm ?_ ?_ | refine zgm ?_ ?_ | refine zdm ?_ ?_) <;> (intro h; simp only [h, Bool.not_true, Bool.not_false]))
    | ((first | refine zqs ?_ ?_ | refine zgs ?_ ?_ | refine zds ?_ ?_) <;> (intro h; first | (exfalso; simp at h; omega) | ((try simp only [h]); (try simp at h))))
    | fail)
    · rw [if_neg hz]
      generalize mkQ (a * d) (b * c) = q at *
      refine acall_of_awp Try.func18 Try.call18 rfl (by simp [Try.ntmps18]) ?_; simp only [Try.ntmps18, Try.results18]
      repeat' (first
    | (refine awp_seqK (fun K hK => ?_))
    | (refine Hide.go (by assumption) ?_)
    | ((first | refine zqd ?_ ?_ | refine zqn ?_ ?_ | refine zgd ?_ ?_ | refine zgn ?_ ?_ | refine zdd ?_ ?_ | refine zdn ?_ ?_) <;> (intro h; first | (exfalso; omega) | (simp only [h, decide_true, decide_false, not_false_eq_true]) | skip))
    | (refine end_ret [] ?_; simp [go_sem, hz])
    | (refine stepK_is rfl (h1) (by simp) ?_)
    | (refine dstepK_is rfl (h1) rfl (by simp) ?_)
    | (refine stepK_is rfl (hM) (by simp) ?_)
    | (refine dstepK_is rfl (hM) rfl (by simp) ?_)
    | ((fail_if_success with_reducible (refine Owe.mk ?_)); (simp (disch := omega) [go_sem, hz]))
    | (refine And.intro (by omega) ?_)
    | (refine nbI fun bq => ?_)
    | ((first | refine zqm ?_ ?_ | refine zgm ?_ ?_ | refine zdm ?_ ?_) <;> (intro h; simp only [h, Bool.not_true, Bool.not_false]))
    | ((first | refine zqs ?_ ?_ | refine zgs ?_ ?_ | refine zds ?_ ?_) <;> (intro h; first | (exfalso; simp at h; omega) | ((try simp only [h]); (try simp at h))))
    | fail)
  · rw [if_neg h] at h1
    simp only [h, if_false]
    refine acall_of_awp Try.func18 Try.call18 rfl (by simp [Try.ntmps18]) ?_; simp only [Try.ntmps18, Try.results18]
    repeat' (first
    | (refine awp_seqK (fun K hK => ?_))
    | (refine Hide.go (by assumption) ?_)
    | ((first | refine zqd ?_ ?_ | refine zqn ?_ ?_ | refine zgd ?_ ?_ | refine zgn ?_ ?_ | refine zdd ?_ ?_ | refine zdn ?_ ?_) <;> (intro h; first | (exfalso; omega) | (simp only [h, decide_true, decide_false, not_false_eq_true]) | skip))
    | (refine end_ret [] ?_; simp [go_sem])
    | (refine stepK_is rfl (h1) (by simp) ?_)
    | (refine dstepK_is rfl (h1) rfl (by simp) ?_)
    | ((fail_if_success with_reducible (refine Owe.mk ?_)); (simp (disch := omega) [go_sem]))
    | (refine And.intro (by omega) ?_)
    | (refine nbI fun bq => ?_)
    | ((first | refine zqm ?_ ?_ | refine zgm ?_ ?_ | refine zdm ?_ ?_) <;> (intro h; simp only [h, Bool.not_true, Bool.not_false]))
    | ((first | refine zqs ?_ ?_ | refine zgs ?_ ?_ | refine zds ?_ ?_) <;> (intro h; first | (exfalso; simp at h; omega) | ((try simp only [h]); (try simp at h))))
    | fail)
theorem FCompare_ok (a b c d : Int) (ha : sm a) (hb : sm b) (hc : sm c) (hd : sm d) :
    ACall Try.prog 19 [.agg [nt .i64 a, nt .i64 b], .agg [nt .i64 c, nt .i64 d]] (fun r => r = nt .i64 (ord (a * d) (c * b))) := by
  unfold sm at *
  have m1 := mul_bd ha hd
  have m2 := mul_bd hc hb
  unfold ord
  by_cases he : a = c ∧ b = d
  · obtain ⟨rfl, rfl⟩ := he
    simp only [Int.lt_irrefl, if_false]
    refine acall_of_awp Try.func19 Try.call19 rfl (by simp [Try.ntmps19]) ?_; simp only [Try.ntmps19, Try.results19]
    repeat' (first
    | (refine awp_seqK (fun K hK => ?_))
    | (refine Hide.go (by assumption) ?_)
    | ((first | refine zqd ?_ ?_ | refine zqn ?_ ?_ | refine zgd ?_ ?_ | refine zgn ?_ ?_ | refine zdd ?_ ?_ | refine zdn ?_ ?_) <;> (intro h; first | (exfalso; omega) | (simp only [h, decide_true, decide_false, not_false_eq_true]) | skip))
    | (refine end_ret [] ?_; simp [go_sem])
    | ((fail_if_success with_reducible (refine Owe.mk ?_)); (simp (disch := omega) [go_sem]))
    | (refine And.intro (by omega) ?_)
    | (refine awp_draw 12 mix (by decide +kernel) ?_)
    | (refine nbI fun bq => ?_)
    | ((first | refine zqm ?_ ?_ | refine zgm ?_ ?_ | refine zdm ?_ ?_) <;> (intro h; simp only [h, Bool.not_true, Bool.not_false]))
    | ((first | refine zqs ?_ ?_ | refine zgs ?_ ?_ | refine zds ?_ ?_) <;> (intro h; first | (exfalso; simp at h; omega) | ((try simp only [h]); (try simp at h))))
    | fail)
  · generalize hx : a * d = x at *
    generalize hy : c * b = y at *
    by_cases h1 : x < y
    · simp only [h1, if_true]
      refine acall_of_awp Try.func19 Try.call19 rfl (by simp [Try.ntmps19]) ?_; simp only [Try.ntmps19, Try.results19]
      repeat' (first
    | (refine awp_seqK (fun K hK => ?_))
    | (refine Hide.go (by assumption) ?_)
    | ((first | refine zqd ?_ ?_ | refine zqn ?_ ?_ | refine zgd ?_ ?_ | refine zgn ?_ ?_ | refine zdd ?_ ?_ | refine zdn ?_ ?_) <;> (intro h; first | (exfalso; omega) | (simp only [h, decide_true, decide_false, not_false_eq_true]) | skip))
    | (refine end_ret [] ?_; simp [go_sem, hx, hy, h1, he])
    | ((fail_if_success with_reducible (refine Owe.mk ?_)); (simp (disch := omega) [go_sem, hx, hy, h1, he]))
    | (refine And.intro (by omega) ?_)
    | (refine awp_draw 12 mix (by decide +kernel) ?_)
    | (refine nbI fun bq => ?_)
    | ((first | refine zqm ?_ ?_ | refine zgm ?_ ?_ | refine zdm ?_ ?_) <;> (intro h; simp only [h, Bool.not_true, Bool.not_false]))
    | ((first | refine zqs ?_ ?_ | refine zgs ?_ ?_ | refine zds ?_ ?_) <;> (intro h; first | (exfalso; simp at h; omega) | ((try simp only [h]); (try simp at h))))
    | fail)
    · by_cases h2 : y < x
      · simp only [h1, h2, if_true, if_false]
        refine acall_of_awp Try.func19 Try.call19 rfl (by simp [Try.ntmps19]) ?_; simp only [Try.ntmps19, Try.results19]
        repeat' (first
    | (refine awp_seqK (fun K hK => ?_))
    | (refine Hide.go (by assumption) ?_)
    | ((first | refine zqd ?_ ?_ | refine zqn ?_ ?_ | refine zgd ?_ ?_ | refine zgn ?_ ?_ | refine zdd ?_ ?_ | refine zdn ?_ ?_) <;> (intro h; first | (exfalso; omega) | (simp only [h, decide_true, decide_false, not_false_eq_true]) | skip))
    | (refine end_ret [] ?_; simp [go_sem, hx, hy, h1, h2, he])
    | ((fail_if_success with_reducible (refine Owe.mk ?_)); (simp (disch := omega) [go_sem, hx, hy, h1, h2, he]))
    | (refine And.intro (by omega) ?_)
    | (refine awp_draw 12 mix (by decide +kernel) ?_)
    | (refine nbI fun bq => ?_)
    | ((first | refine zqm ?_ ?_ | refine zgm ?_ ?_ | refine zdm ?_ ?_) <;> (intro h; simp only [h, Bool.not_true, Bool.not_false]))
    | ((first | refine zqs ?_ ?_ | refine zgs ?_ ?_ | refine zds ?_ ?_) <;> (intro h; first | (exfalso; simp at h; omega) | ((try simp only [h]); (try simp at h))))
    | fail)
      · simp only [h1, h2, if_false]
        refine acall_of_awp Try.func19 Try.call19 rfl (by simp [Try.ntmps19]) ?_; simp only [Try.ntmps19, Try.results19]
        repeat' (first
    | (refine awp_seqK (fun K hK => ?_))
    | (refine Hide.go (by assumption) ?_)
    | ((first | refine zqd ?_ ?_ | refine zqn ?_ ?_ | refine zgd ?_ ?_ | refine zgn ?_ ?_ | refine zdd ?_ ?_ | refine zdn ?_ ?_) <;> (intro h; first | (exfalso; omega) | (simp only [h, decide_true, decide_false, not_false_eq_true]) | skip))
    | (refine end_ret [] ?_; simp [go_sem, hx, hy, h1, h2, he])
    | ((fail_if_success with_reducible (refine Owe.mk ?_)); (simp (disch := omega) [go_sem, hx, hy, h1, h2, he]))
    | (refine And.intro (by omega) ?_)
    | (refine awp_draw 12 mix (by decide +kernel) ?_)
    | (refine nbI fun bq => ?_)
    | ((first | refine zqm ?_ ?_ | refine zgm ?_ ?_ | refine zdm ?_ ?_) <;> (intro h; simp only [h, Bool.not_true, Bool.not_false]))
    | ((first | refine zqs ?_ ?_ | refine zgs ?_ ?_ | refine zds ?_ ?_) <;> (intro h; first | (exfalso; simp at h; omega) | ((try simp only [h]); (try simp at h))))
    | fail)
end Go.Proofs.Ytfccgdgippmpgaa
