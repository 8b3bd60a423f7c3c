import Derived.Test.YtldecgghhaoliaaTy
namespace Go.Proofs.Ytldecgghhaoliaa
open Go.Ab
set_option linter.unusedSimpArgs false
set_option maxRecDepth 100000
def eSpan (p : Int × Int) : AV := .agg [nt .u8 p.1, nt .u8 p.2]
def inS (c : Int) (l : List (Int × Int)) : Bool := l.any fun p => decide (p.1 ≤ c) && decide (c ≤ p.2)
theorem in_ok (c : Int) (l f : Bool) (ss : List (Int × Int)) (hl : ss.length ≤ 1000) : ACall Try.prog 74 [nt .u8 c, .list l f (ss.map eSpan)] (fun r => r = bl (inS c ss)) := by
  refine acall_of_awp Try.func74 Try.call74 rfl (by simp [Try.ntmps74]) ?_; simp only [Try.ntmps74, Try.results74]
  repeat' (first
    | (refine awp_seqK (fun K hK => ?_))
    | (refine Hide.go (by assumption) ?_)
    | ((first | refine zqd ?_ ?_ | refine zqn ?_ ?_ | refine zgd ?_ ?_ | refine zgn ?_ ?_ | refine zdd ?_ ?_ | refine zdn ?_ ?_) <;> (intro h; first | (exfalso; omega) | (simp only [h, decide_true, decide_false, not_false_eq_true]) | skip))
    | (refine end_ret [] ?_; simp [go_sem])
    | ((fail_if_success with_reducible (refine Owe.mk ?_)); (simp (disch := omega) [go_sem]))
    | (refine And.intro (by omega) ?_)
    | (refine nbI fun bq => ?_)
    | ((first | refine zqm ?_ ?_ | refine zgm ?_ ?_ | refine zdm ?_ ?_) <;> (intro h; simp only [h, Bool.not_true, Bool.not_false]))
    | ((first | refine zqs ?_ ?_ | refine zgs ?_ ?_ | refine zds ?_ ?_) <;> (intro h; first | (exfalso; simp at h; omega) | ((try simp only [h]); (try simp at h))))
    | fail)
  refine awp_loop (fun n s => ∃ i : Nat, i ≤ ss.length ∧ n = ss.length - i ∧ inS c (ss.take i) = false ∧ s = { n := 24, t := [(0, nt .u8 c), (7, .list l f (ss.map eSpan)), (8, nt .i64 ss.length), (9, nt .i64 i), (4, bl false)], o := [] })
    ss.length { n := 24, t := [(0, nt .u8 c), (7, .list l f (ss.map eSpan)), (8, nt .i64 ss.length), (9, nt .i64 0), (4, bl false)], o := [] } (Le.sub4 rfl (by simp [go_sem])) ⟨0, Nat.zero_le _, rfl, rfl, rfl⟩ ?_
  rintro _ _ ⟨i, hi, rfl, hin, rfl⟩
  by_cases hlt : i < ss.length
  · have hs : inS c (ss.take (i + 1)) = (decide (ss[i].1 ≤ c) && decide (c ≤ ss[i].2)) := by
      rw [List.take_add_one, List.getElem?_eq_getElem hlt]; unfold inS at *; rw [List.any_append, hin]; simp
    repeat' (first
    | (refine awp_seqK (fun K hK => ?_))
    | (refine Hide.go (by assumption) ?_)
    | ((first | refine zqd ?_ ?_ | refine zqn ?_ ?_ | refine zgd ?_ ?_ | refine zgn ?_ ?_ | refine zdd ?_ ?_ | refine zdn ?_ ?_) <;> (intro h; first | (exfalso; omega) | (simp only [h, decide_true, decide_false, not_false_eq_true]) | skip))
    | (refine end_ret [] ?_; simp [go_sem, hlt, eSpan])
    | (refine Again.mk (ss.length - (i + 1)) { n := 24, t := [(0, nt .u8 c), (7, .list l f (ss.map eSpan)), (8, nt .i64 ss.length), (9, nt .i64 (i + 1 : Nat)), (4, bl false)], o := [] } (by omega) (Le.sub4 rfl (by simp [go_sem])) ⟨i + 1, by omega, rfl, by rw [hs]; simp [*], rfl⟩)
    | ((fail_if_success with_reducible (refine Owe.mk ?_)); (simp (disch := omega) [go_sem, hlt, eSpan]))
    | (refine And.intro (by omega) ?_)
    | (refine nbI fun bq => ?_)
    | ((first | refine zqm ?_ ?_ | refine zgm ?_ ?_ | refine zdm ?_ ?_) <;> (intro h; simp only [h, Bool.not_true, Bool.not_false]))
    | ((first | refine zqs ?_ ?_ | refine zgs ?_ ?_ | refine zds ?_ ?_) <;> (intro h; first | (exfalso; simp at h; omega) | ((try simp only [h]); (try simp at h))))
    | fail)
    unfold inS
    rw [List.any_eq_true]
    exact ⟨ss[i], List.getElem_mem hlt, by simp [*]⟩
  · obtain rfl : i = ss.length := by omega
    rw [List.take_length] at hin
    repeat' (first
    | (refine awp_seqK (fun K hK => ?_))
    | (refine Hide.go (by assumption) ?_)
    | ((first | refine zqd ?_ ?_ | refine zqn ?_ ?_ | refine zgd ?_ ?_ | refine zgn ?_ ?_ | refine zdd ?_ ?_ | refine zdn ?_ ?_) <;> (intro h; first | (exfalso; omega) | (simp only [h, decide_true, decide_false, not_false_eq_true]) | skip))
    | (refine end_ret [] ?_; simp [go_sem, hin])
    | ((fail_if_success with_reducible (refine Owe.mk ?_)); (simp (disch := omega) [go_sem, hin]))
    | (refine And.intro (by omega) ?_)
    | (refine nbI fun bq => ?_)
    | ((first | refine zqm ?_ ?_ | refine zgm ?_ ?_ | refine zdm ?_ ?_) <;> (intro h; simp only [h, Bool.not_true, Bool.not_false]))
    | ((first | refine zqs ?_ ?_ | refine zgs ?_ ?_ | refine zds ?_ ?_) <;> (intro h; first | (exfalso; simp at h; omega) | ((try simp only [h]); (try simp at h))))
    | fail)
end Go.Proofs.Ytldecgghhaoliaa
