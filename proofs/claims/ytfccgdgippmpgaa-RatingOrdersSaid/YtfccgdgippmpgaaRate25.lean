/-
  Rate25: the order of players.
-/
import Derived.Test.YtfccgdgippmpgaaRate17
import Derived.Test.YtfccgdgippmpgaaA5
namespace Go.Proofs.Ytfccgdgippmpgaa
open Go.Ab
set_option linter.unusedSimpArgs false
set_option maxRecDepth 100000
set_option maxHeartbeats 8000000
theorem set_eRtx {l : List Rt} {i : Nat} {x : Rt} : (l.map eRt).set i (.agg [.sc (.int .i64 x.p), .sc (.int .i64 x.n), .sc (.int .i64 x.d), .sc (.int .i64 x.g)]) = (l.set i x).map eRt := by
  rw [List.map_set]; rfl
/-- Descending values, then the players. -/
def cfR (a b : Rt) : Int := if ord b.c a.c ≠ 0 then ord b.c a.c else ord a.p b.p
theorem cfR_pre : Pre cfR := by
  constructor
  · intro x y z; unfold cfR ord; split <;> split <;> split <;> (repeat' split) <;> omega
  · intro x y; unfold cfR ord; split <;> split <;> (repeat' split) <;> omega
theorem ord_cents {n d m e a b : Int} (h1 : 100 * n = a * d) (h2 : 100 * m = b * e) (hd : 0 < d) (he : 0 < e) : ord (n * e) (m * d) = ord a b := by
  have k1 := cmp_cents h1 h2 hd he
  have k2 := cmp_cents h2 h1 he hd
  have hp := Int.mul_pos hd he
  unfold ord
  rcases Int.lt_trichotomy a b with h | h | h
  · rw [if_pos h]
    have h3 : n * e < m * d := by
      have h4 := Int.mul_lt_mul_of_pos_right h hp
      have e1 : a * (d * e) = 100 * (n * e) := by grind
      have e2 : b * (d * e) = 100 * (m * d) := by grind
      omega
    rw [if_pos h3]
  · have h3 := k1 (by omega)
    have h4 := k2 (by omega)
    rw [if_neg (by omega), if_neg (by omega), if_neg (by omega), if_neg (by omega)]
  · rw [if_neg (show ¬ a < b by omega), if_pos h]
    have h3 : m * d < n * e := by
      have h4 := Int.mul_lt_mul_of_pos_right h hp
      have e1 : a * (d * e) = 100 * (n * e) := by grind
      have e2 : b * (d * e) = 100 * (m * d) := by grind
      omega
    rw [if_neg (by omega), if_pos h3]
theorem orderFn_ok (a b : Rt) (ha : rgt a = true) (hb : rgt b = true) : ACall Try.prog 46 [eRt a, eRt b] (fun r => r = nt .i64 (cfR a b)) := by
  obtain ⟨_, ad, _, av, sa1, sa2⟩ := cts_val (rgt_cts ha).1
  obtain ⟨_, bd, _, bv, sb1, sb2⟩ := cts_val (rgt_cts hb).1
  have h1 := FCompare_ok b.n b.d a.n a.d sb1 sb2 sa1 sa2
  have e : ord (b.n * a.d) (a.n * b.d) = ord b.c a.c := ord_cents bv av bd ad
  rw [e] at h1
  have h2 := cmpInt_ok a.p b.p
  unfold cfR
  unfold eRt
  by_cases h : ord b.c a.c = 0
  · simp only [h, ne_eq, not_true_eq_false, if_false]
    rw [h] at h1
    generalize ord a.p b.p = y at *
    refine acall_of_awp Try.func46 Try.call46 rfl (by simp [Try.ntmps46]) ?_; simp only [Try.ntmps46, Try.results46]
    repeat' (first
    | (refine awp_seqK (fun K hK => ?_))
    | (refine Hide.go (by assumption) ?_)
    | ((first | refine zqd ?_ ?_ | refine zqn ?_ ?_ | refine zgd ?_ ?_ | refine zgn ?_ ?_ | refine zdd ?_ ?_ | refine zdn ?_ ?_) <;> (intro h; first | (exfalso; omega) | (simp only [h, decide_true, decide_false, not_false_eq_true]) | skip))
    | (refine end_ret [] ?_; simp [go_sem])
    | (refine stepK_is rfl (h1) (by simp) ?_)
    | (refine dstepK_is rfl (h1) rfl (by simp) ?_)
    | (refine stepK_is rfl (h2) (by simp) ?_)
    | (refine dstepK_is rfl (h2) rfl (by simp) ?_)
    | ((fail_if_success with_reducible (refine Owe.mk ?_)); (simp (disch := omega) [go_sem]))
    | (refine And.intro (by omega) ?_)
    | (refine nbI fun bq => ?_)
    | ((first | refine zqm ?_ ?_ | refine zgm ?_ ?_ | refine zdm ?_ ?_) <;> (intro h; simp only [h, Bool.not_true, Bool.not_false]))
    | ((first | refine zqs ?_ ?_ | refine zgs ?_ ?_ | refine zds ?_ ?_) <;> (intro h; first | (exfalso; simp at h; omega) | ((try simp only [h]); (try simp at h))))
    | fail)
  · simp only [ne_eq, h, not_false_eq_true, if_true]
    generalize ord b.c a.c = y at *
    refine acall_of_awp Try.func46 Try.call46 rfl (by simp [Try.ntmps46]) ?_; simp only [Try.ntmps46, Try.results46]
    repeat' (first
    | (refine awp_seqK (fun K hK => ?_))
    | (refine Hide.go (by assumption) ?_)
    | ((first | refine zqd ?_ ?_ | refine zqn ?_ ?_ | refine zgd ?_ ?_ | refine zgn ?_ ?_ | refine zdd ?_ ?_ | refine zdn ?_ ?_) <;> (intro h; first | (exfalso; omega) | (simp only [h, decide_true, decide_false, not_false_eq_true]) | skip))
    | (refine end_ret [] ?_; simp [go_sem, h])
    | (refine stepK_is rfl (h1) (by simp) ?_)
    | (refine dstepK_is rfl (h1) rfl (by simp) ?_)
    | ((fail_if_success with_reducible (refine Owe.mk ?_)); (simp (disch := omega) [go_sem, h]))
    | (refine And.intro (by omega) ?_)
    | (refine nbI fun bq => ?_)
    | ((first | refine zqm ?_ ?_ | refine zgm ?_ ?_ | refine zdm ?_ ?_) <;> (intro h; simp only [h, Bool.not_true, Bool.not_false]))
    | ((first | refine zqs ?_ ?_ | refine zgs ?_ ?_ | refine zds ?_ ?_) <;> (intro h; first | (exfalso; simp at h; omega) | ((try simp only [h]); (try simp at h))))
    | fail)
theorem cloneRt_ok (l : List Rt) (le fu : Bool) (hb : l.length ≤ 1000000) : ACall Try.prog 44 [.list le fu (l.map eRt)] (fun r => r = .own 4 (l.map eRt)) := by
  cases l with
  | nil =>
    refine ACall.own_nil ?_
    simp only [List.map_nil]
    refine acall_of_awp Try.func44 Try.call44 rfl (by simp [Try.ntmps44]) ?_; simp only [Try.ntmps44, Try.results44]
    repeat' (first
    | (refine awp_seqK (fun K hK => ?_))
    | (refine Hide.go (by assumption) ?_)
    | ((first | refine zqd ?_ ?_ | refine zqn ?_ ?_ | refine zgd ?_ ?_ | refine zgn ?_ ?_ | refine zdd ?_ ?_ | refine zdn ?_ ?_) <;> (intro h; first | (exfalso; omega) | (simp only [h, decide_true, decide_false, not_false_eq_true]) | skip))
    | (refine end_ret [] ?_; simp [go_sem])
    | ((fail_if_success with_reducible (refine Owe.mk ?_)); (simp (disch := omega) [go_sem]))
    | (refine And.intro (by omega) ?_)
    | (refine nbI fun bq => ?_)
    | ((first | refine zqm ?_ ?_ | refine zgm ?_ ?_ | refine zdm ?_ ?_) <;> (intro h; simp only [h, Bool.not_true, Bool.not_false]))
    | ((first | refine zqs ?_ ?_ | refine zgs ?_ ?_ | refine zds ?_ ?_) <;> (intro h; first | (exfalso; simp at h; omega) | ((try simp only [h]); (try simp at h))))
    | fail)
  | cons x l =>
    simp only [List.map_cons, List.length_cons] at *
    unfold eRt
    refine acall_of_awp Try.func44 Try.call44 rfl (by simp [Try.ntmps44]) ?_; simp only [Try.ntmps44, Try.results44]
    repeat' (first
    | (refine awp_seqK (fun K hK => ?_))
    | (refine Hide.go (by assumption) ?_)
    | ((first | refine zqd ?_ ?_ | refine zqn ?_ ?_ | refine zgd ?_ ?_ | refine zgn ?_ ?_ | refine zdd ?_ ?_ | refine zdn ?_ ?_) <;> (intro h; first | (exfalso; omega) | (simp only [h, decide_true, decide_false, not_false_eq_true]) | skip))
    | (refine end_ret [] ?_; simp [go_sem])
    | ((fail_if_success with_reducible (refine Owe.mk ?_)); (simp (disch := omega) [go_sem]))
    | (refine And.intro (by omega) ?_)
    | (refine nbI fun bq => ?_)
    | ((first | refine zqm ?_ ?_ | refine zgm ?_ ?_ | refine zdm ?_ ?_) <;> (intro h; simp only [h, Bool.not_true, Bool.not_false]))
    | ((first | refine zqs ?_ ?_ | refine zgs ?_ ?_ | refine zds ?_ ?_) <;> (intro h; first | (exfalso; simp at h; omega) | ((try simp only [h]); (try simp at h))))
    | fail)
end Go.Proofs.Ytfccgdgippmpgaa
