/-
  Rate18: the body of the law RatingFair.
-/
import Derived.Test.YtfccgdgippmpgaaRate17
import Derived.Test.YtfccgdgippmpgaaRate5
namespace Go.Proofs.Ytfccgdgippmpgaa
open Go.Ab
set_option linter.unusedSimpArgs false
set_option maxRecDepth 100000
set_option maxHeartbeats 8000000
theorem RatingFair_ok (a b : Rt) (p q : Int × Int) (ha : a.ok) (hb : b.ok) (hp : Ab.I64 p.1 ∧ Ab.I64 p.2) (hq : Ab.I64 q.1 ∧ Ab.I64 q.2) :
    ACall Try.prog 6 [eRt a, eRt b, .agg [nt .i64 p.1, nt .i64 p.2], .agg [nt .i64 q.1, nt .i64 q.2]] (fun r => r = bl true) := by
  have hA := awake_ok
  have ha' : ({ a with p := 0 } : Rt).ok := ⟨by dsimp only; omega, ha.n, ha.d, ha.g⟩
  have hb' : ({ b with p := 1 } : Rt).ok := ⟨by dsimp only; omega, hb.n, hb.d, hb.g⟩
  have hU := Update_ok [{ a with p := 0 }, { b with p := 1 }] [⟨1, q.1, q.2⟩, ⟨0, p.1, p.2⟩] true false true false (by
    intro r hr
    simp only [List.mem_cons, List.not_mem_nil, or_false] at hr
    rcases hr with rfl | rfl
    · exact ha'
    · exact hb') (by
    unfold Ab.I64 at hp hq
    intro r hr
    simp only [List.mem_cons, List.not_mem_nil, or_false] at hr
    rcases hr with rfl | rfl
    · exact ⟨by dsimp only; omega, by dsimp only; omega, by dsimp only; omega⟩
    · exact ⟨by dsimp only; omega, by dsimp only; omega, by dsimp only; omega⟩)
  have hE := Expected_ok _ _ ha' hb'
  by_cases hu : (upd [{ a with p := 0 }, { b with p := 1 }] [⟨1, q.1, q.2⟩, ⟨0, p.1, p.2⟩]).1 = 0
  · obtain ⟨O, hO⟩ : ∃ O, upd [{ a with p := 0 }, { b with p := 1 }] [⟨1, q.1, q.2⟩, ⟨0, p.1, p.2⟩] = (0, O) := ⟨_, Prod.ext hu rfl⟩
    have T := two_facts hO ha hb
    rw [hO] at hU
    clear hO hu
    have sp : sm p.1 ∧ sm p.2 := by have := cts_val T.cp; exact ⟨this.2.2.2.2.1, this.2.2.2.2.2⟩
    have sq : sm q.1 ∧ sm q.2 := by have := cts_val T.cq; exact ⟨this.2.2.2.2.1, this.2.2.2.2.2⟩
    obtain ⟨x, y, d1, d2, s1, s2, u1, u2, w1, w2, rfl, hx, hy, hw, i1, i2, i3, j1, j2, j3, j4, j5, j6, l5, l6, sa1, sa2, sb1, sb2, gx5, gx6, gy5, gy6, z1, z2⟩ := fair_facts T
    clear T
    rw [hw] at hE
    have h1 := Sub_ok p.1 p.2 q.1 q.2 sp.1 sp.2 sq.1 sq.2
    have h2 := Add_ok d1 d2 1 1 j1 j2 ⟨by decide, by decide⟩ ⟨by decide, by decide⟩
    have h3 := Div_ok s1 s2 2 1 j3 j4 ⟨by decide, by decide⟩ ⟨by decide, by decide⟩
    have c1 := FCompare_ok u1 u2 w1 w2 j5 j6 l5 l6
    have c2 := FCompare_ok x.n x.d a.n a.d gx5 gx6 sa1 sa2
    have c3 := FCompare_ok y.n y.d b.n b.d gy5 gy6 sb1 sb2
    rw [i1] at h1
    rw [i2] at h2
    rw [i3] at h3
    clear i1 i2 i3 j1 j2 j3 j4 j5 j6 l5 l6 sa1 sa2 sb1 sb2 gx5 gx6 gy5 gy6 hw sp sq
    generalize ord (u1 * w2) (w1 * u2) = k1 at *
    generalize ord (x.n * a.d) (a.n * x.d) = k2 at *
    generalize ord (y.n * b.d) (b.n * y.d) = k3 at *
    obtain ⟨p1, p2⟩ := p
    obtain ⟨q1, q2⟩ := q
    simp only [updV, if_true, eF, eRt, eSc, List.map_cons, List.map_nil, Prod.mk.injEq] at *
    by_cases hk : 0 ≤ k1
    · obtain ⟨z3, z4⟩ := z1 hk
      by_cases hv : a.n = b.n ∧ a.d = b.d ∧ p1 = q1 ∧ p2 = q2
      · obtain ⟨v1, v2, v3, v4⟩ := hv
        obtain ⟨m1, m2, m3, m4⟩ := z2 v1 v2 ⟨v3, v4⟩
        rw [m1, m2] at c2
        rw [m3, m4] at c3
        refine acall_of_awp Try.func6 Try.call6 rfl (by simp [Try.ntmps6]) ?_; simp only [Try.ntmps6, Try.results6]
        repeat' (first
    | (refine awp_seqK (fun K hK => ?_))
    | (refine Hide.go (by assumption) ?_)
    | ((first | refine zqd ?_ ?_ | refine zqn ?_ ?_ | refine zgd ?_ ?_ | refine zgn ?_ ?_ | refine zdd ?_ ?_ | refine zdn ?_ ?_) <;> (intro h; first | (exfalso; omega) | (simp only [h, decide_true, decide_false, not_false_eq_true]) | skip))
    | (refine end_ret [] ?_; simp [go_sem, hk, z3, z4, m1, m2, m3, m4])
    | (refine stepK_is rfl (hU) (by simp) ?_)
    | (refine dstepK_is rfl (hU) rfl (by simp) ?_)
    | (refine stepK_is rfl (hE) (by simp) ?_)
    | (refine dstepK_is rfl (hE) rfl (by simp) ?_)
    | (refine stepK_is rfl (h1) (by simp) ?_)
    | (refine dstepK_is rfl (h1) rfl (by simp) ?_)
    | (refine stepK_is rfl (h2) (by simp) ?_)
    | (refine dstepK_is rfl (h2) rfl (by simp) ?_)
    | (refine stepK_is rfl (h3) (by simp) ?_)
    | (refine dstepK_is rfl (h3) rfl (by simp) ?_)
    | (refine stepK_is rfl (c1) (by simp) ?_)
    | (refine dstepK_is rfl (c1) rfl (by simp) ?_)
    | (refine stepK_is rfl (c2) (by simp) ?_)
    | (refine dstepK_is rfl (c2) rfl (by simp) ?_)
    | (refine stepK_is rfl (c3) (by simp) ?_)
    | (refine dstepK_is rfl (c3) rfl (by simp) ?_)
    | (refine stepK_is rfl (hA) (by simp) ?_)
    | (refine dstepK_is rfl (hA) rfl (by simp) ?_)
    | ((fail_if_success with_reducible (refine Owe.mk ?_)); (simp (disch := omega) [go_sem, hk, z3, z4, m1, m2, m3, m4]))
    | (refine And.intro (by omega) ?_)
    | (refine awp_draw 24 mix (by decide +kernel) ?_)
    | (refine awp_draw 28 mix (by decide +kernel) ?_)
    | ((first | refine zqm ?_ ?_ | refine zgm ?_ ?_ | refine zdm ?_ ?_) <;> (intro h; simp only [h, Bool.not_true, Bool.not_false]))
    | ((first | refine zqs ?_ ?_ | refine zgs ?_ ?_ | refine zds ?_ ?_) <;> (intro h; first | (exfalso; simp at h; omega) | ((try simp only [h]); (try simp at h))))
    | fail)
      · refine acall_of_awp Try.func6 Try.call6 rfl (by simp [Try.ntmps6]) ?_; simp only [Try.ntmps6, Try.results6]
        repeat' (first
    | (refine awp_seqK (fun K hK => ?_))
    | (refine Hide.go (by assumption) ?_)
    | ((first | refine zqd ?_ ?_ | refine zqn ?_ ?_ | refine zgd ?_ ?_ | refine zgn ?_ ?_ | refine zdd ?_ ?_ | refine zdn ?_ ?_) <;> (intro h; first | (exfalso; omega) | (simp only [h, decide_true, decide_false, not_false_eq_true]) | skip))
    | (refine end_ret [] ?_; simp [go_sem, hk, z3, z4])
    | (refine stepK_is rfl (hU) (by simp) ?_)
    | (refine dstepK_is rfl (hU) rfl (by simp) ?_)
    | (refine stepK_is rfl (hE) (by simp) ?_)
    | (refine dstepK_is rfl (hE) rfl (by simp) ?_)
    | (refine stepK_is rfl (h1) (by simp) ?_)
    | (refine dstepK_is rfl (h1) rfl (by simp) ?_)
    | (refine stepK_is rfl (h2) (by simp) ?_)
    | (refine dstepK_is rfl (h2) rfl (by simp) ?_)
    | (refine stepK_is rfl (h3) (by simp) ?_)
    | (refine dstepK_is rfl (h3) rfl (by simp) ?_)
    | (refine stepK_is rfl (c1) (by simp) ?_)
    | (refine dstepK_is rfl (c1) rfl (by simp) ?_)
    | (refine stepK_is rfl (c2) (by simp) ?_)
    | (refine dstepK_is rfl (c2) rfl (by simp) ?_)
    | (refine stepK_is rfl (c3) (by simp) ?_)
    | (refine dstepK_is rfl (c3) rfl (by simp) ?_)
    | (refine stepK_is rfl (hA) (by simp) ?_)
    | (refine dstepK_is rfl (hA) rfl (by simp) ?_)
    | ((fail_if_success with_reducible (refine Owe.mk ?_)); (simp (disch := omega) [go_sem, hk, z3, z4]))
    | (refine And.intro (by omega) ?_)
    | (refine awp_draw 24 mix (by decide +kernel) ?_)
    | (refine awp_draw 28 mix (by decide +kernel) ?_)
    | ((first | refine zqm ?_ ?_ | refine zgm ?_ ?_ | refine zdm ?_ ?_) <;> (intro h; simp only [h, Bool.not_true, Bool.not_false]))
    | ((first | refine zqs ?_ ?_ | refine zgs ?_ ?_ | refine zds ?_ ?_) <;> (intro h; first | (exfalso; simp at h; omega) | ((try simp only [h]); (try simp at h))))
    | fail)
    · by_cases hv : a.n = b.n ∧ a.d = b.d ∧ p1 = q1 ∧ p2 = q2
      · obtain ⟨v1, v2, v3, v4⟩ := hv
        obtain ⟨m1, m2, m3, m4⟩ := z2 v1 v2 ⟨v3, v4⟩
        rw [m1, m2] at c2
        rw [m3, m4] at c3
        refine acall_of_awp Try.func6 Try.call6 rfl (by simp [Try.ntmps6]) ?_; simp only [Try.ntmps6, Try.results6]
        repeat' (first
    | (refine awp_seqK (fun K hK => ?_))
    | (refine Hide.go (by assumption) ?_)
    | ((first | refine zqd ?_ ?_ | refine zqn ?_ ?_ | refine zgd ?_ ?_ | refine zgn ?_ ?_ | refine zdd ?_ ?_ | refine zdn ?_ ?_) <;> (intro h; first | (exfalso; omega) | (simp only [h, decide_true, decide_false, not_false_eq_true]) | skip))
    | (refine end_ret [] ?_; simp [go_sem, hk, m1, m2, m3, m4])
    | (refine stepK_is rfl (hU) (by simp) ?_)
    | (refine dstepK_is rfl (hU) rfl (by simp) ?_)
    | (refine stepK_is rfl (hE) (by simp) ?_)
    | (refine dstepK_is rfl (hE) rfl (by simp) ?_)
    | (refine stepK_is rfl (h1) (by simp) ?_)
    | (refine dstepK_is rfl (h1) rfl (by simp) ?_)
    | (refine stepK_is rfl (h2) (by simp) ?_)
    | (refine dstepK_is rfl (h2) rfl (by simp) ?_)
    | (refine stepK_is rfl (h3) (by simp) ?_)
    | (refine dstepK_is rfl (h3) rfl (by simp) ?_)
    | (refine stepK_is rfl (c1) (by simp) ?_)
    | (refine dstepK_is rfl (c1) rfl (by simp) ?_)
    | (refine stepK_is rfl (c2) (by simp) ?_)
    | (refine dstepK_is rfl (c2) rfl (by simp) ?_)
    | (refine stepK_is rfl (c3) (by simp) ?_)
    | (refine dstepK_is rfl (c3) rfl (by simp) ?_)
    | (refine stepK_is rfl (hA) (by simp) ?_)
    | (refine dstepK_is rfl (hA) rfl (by simp) ?_)
    | ((fail_if_success with_reducible (refine Owe.mk ?_)); (simp (disch := omega) [go_sem, hk, m1, m2, m3, m4]))
    | (refine And.intro (by omega) ?_)
    | (refine awp_draw 24 mix (by decide +kernel) ?_)
    | (refine awp_draw 28 mix (by decide +kernel) ?_)
    | ((first | refine zqm ?_ ?_ | refine zgm ?_ ?_ | refine zdm ?_ ?_) <;> (intro h; simp only [h, Bool.not_true, Bool.not_false]))
    | ((first | refine zqs ?_ ?_ | refine zgs ?_ ?_ | refine zds ?_ ?_) <;> (intro h; first | (exfalso; simp at h; omega) | ((try simp only [h]); (try simp at h))))
    | fail)
      · refine acall_of_awp Try.func6 Try.call6 rfl (by simp [Try.ntmps6]) ?_; simp only [Try.ntmps6, Try.results6]
        repeat' (first
    | (refine awp_seqK (fun K hK => ?_))
    | (refine Hide.go (by assumption) ?_)
    | ((first | refine zqd ?_ ?_ | refine zqn ?_ ?_ | refine zgd ?_ ?_ | refine zgn ?_ ?_ | refine zdd ?_ ?_ | refine zdn ?_ ?_) <;> (intro h; first | (exfalso; omega) | (simp only [h, decide_true, decide_false, not_false_eq_true]) | skip))
    | (refine end_ret [] ?_; simp [go_sem, hk])
    | (refine stepK_is rfl (hU) (by simp) ?_)
    | (refine dstepK_is rfl (hU) rfl (by simp) ?_)
    | (refine stepK_is rfl (hE) (by simp) ?_)
    | (refine dstepK_is rfl (hE) rfl (by simp) ?_)
    | (refine stepK_is rfl (h1) (by simp) ?_)
    | (refine dstepK_is rfl (h1) rfl (by simp) ?_)
    | (refine stepK_is rfl (h2) (by simp) ?_)
    | (refine dstepK_is rfl (h2) rfl (by simp) ?_)
    | (refine stepK_is rfl (h3) (by simp) ?_)
    | (refine dstepK_is rfl (h3) rfl (by simp) ?_)
    | (refine stepK_is rfl (c1) (by simp) ?_)
    | (refine dstepK_is rfl (c1) rfl (by simp) ?_)
    | (refine stepK_is rfl (c2) (by simp) ?_)
    | (refine dstepK_is rfl (c2) rfl (by simp) ?_)
    | (refine stepK_is rfl (c3) (by simp) ?_)
    | (refine dstepK_is rfl (c3) rfl (by simp) ?_)
    | (refine stepK_is rfl (hA) (by simp) ?_)
    | (refine dstepK_is rfl (hA) rfl (by simp) ?_)
    | ((fail_if_success with_reducible (refine Owe.mk ?_)); (simp (disch := omega) [go_sem, hk]))
    | (refine And.intro (by omega) ?_)
    | (refine awp_draw 24 mix (by decide +kernel) ?_)
    | (refine awp_draw 28 mix (by decide +kernel) ?_)
    | ((first | refine zqm ?_ ?_ | refine zgm ?_ ?_ | refine zdm ?_ ?_) <;> (intro h; simp only [h, Bool.not_true, Bool.not_false]))
    | ((first | refine zqs ?_ ?_ | refine zgs ?_ ?_ | refine zds ?_ ?_) <;> (intro h; first | (exfalso; simp at h; omega) | ((try simp only [h]); (try simp at h))))
    | fail)
  · unfold updV at hU
    rw [if_neg hu] at hU
    generalize (upd [{ a with p := 0 }, { b with p := 1 }] [⟨1, q.1, q.2⟩, ⟨0, p.1, p.2⟩]).1 = e at *
    simp only [eRt, eSc, List.map_cons, List.map_nil] at *
    refine acall_of_awp Try.func6 Try.call6 rfl (by simp [Try.ntmps6]) ?_; simp only [Try.ntmps6, Try.results6]
    repeat' (first
    | (refine awp_seqK (fun K hK => ?_))
    | (refine Hide.go (by assumption) ?_)
    | ((first | refine zqd ?_ ?_ | refine zqn ?_ ?_ | refine zgd ?_ ?_ | refine zgn ?_ ?_ | refine zdd ?_ ?_ | refine zdn ?_ ?_) <;> (intro h; first | (exfalso; omega) | (simp only [h, decide_true, decide_false, not_false_eq_true]) | skip))
    | (refine end_ret [] ?_; simp [go_sem, hu])
    | (refine stepK_is rfl (hU) (by simp) ?_)
    | (refine dstepK_is rfl (hU) rfl (by simp) ?_)
    | (refine stepK_is rfl (hA) (by simp) ?_)
    | (refine dstepK_is rfl (hA) rfl (by simp) ?_)
    | ((fail_if_success with_reducible (refine Owe.mk ?_)); (simp (disch := omega) [go_sem, hu]))
    | (refine And.intro (by omega) ?_)
    | (refine awp_draw 24 mix (by decide +kernel) ?_)
    | (refine awp_draw 28 mix (by decide +kernel) ?_)
    | ((first | refine zqm ?_ ?_ | refine zgm ?_ ?_ | refine zdm ?_ ?_) <;> (intro h; simp only [h, Bool.not_true, Bool.not_false]))
    | ((first | refine zqs ?_ ?_ | refine zgs ?_ ?_ | refine zds ?_ ?_) <;> (intro h; first | (exfalso; simp at h; omega) | ((try simp only [h]); (try simp at h))))
    | fail)
end Go.Proofs.Ytfccgdgippmpgaa
