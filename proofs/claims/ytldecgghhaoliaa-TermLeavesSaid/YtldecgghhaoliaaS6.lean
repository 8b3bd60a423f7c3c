import Derived.Test.YtldecgghhaoliaaS4
import Derived.Test.YtldecgghhaoliaaS5
import Derived.Test.YtldecgghhaoliaaA7
import Derived.Test.YtldecgghhaoliaaS1
import Derived.Test.YtldecgghhaoliaaA6
import Derived.Test.YtldecgghhaoliaaA5
import Derived.ChangeMaps5
set_option linter.unusedSimpArgs false
set_option linter.unusedVariables false
namespace Go.Proofs.Ytldecgghhaoliaa
open Go.Ab
set_option maxRecDepth 100000
set_option maxHeartbeats 8000000
theorem RV_leaf {F : Bool → Facts} {loc : Nat → Option LI} {s : ByteArray} {a b : Bool} {v : Value} (h : RV F loc (.agg [.sc (.string s), .list a b []]) v) : RV F loc (.agg [.sc (.string s), .list false false []]) v := by
  cases h with
  | agg h1 h2 h3 =>
    refine .agg h1 (fun i x u hx hu => ?_) h3
    rcases i with _ | _ | i
    · exact h2 0 x u hx hu
    · simp at hx; subst hx
      exact (h2 1 _ u rfl hu).void rfl
    · simp at hx
theorem Compare_leaf (x y : ByteArray) (a b c d : Bool) : ACall Try.prog 31 [.agg [.sc (.string x), .list a b []], .agg [.sc (.string y), .list c d []]] (fun r => r = nt .i64 (cmpT (.mk x []) (.mk y []))) := by
  refine (Compare_ok (.mk x []) (.mk y [])).args rfl fun F i p q v hp hq h => ?_
  rcases i with _ | _ | i
  · simp at hp hq; subst hp; subst hq; exact RV_leaf h
  · simp at hp hq; subst hp; subst hq; exact RV_leaf h
  · simp at hp
theorem refConstant_leaf (x : ByteArray) (a b : Bool) : ACall Try.prog 73 [.agg [.sc (.string x), .list a b []]] (fun r => r = bl (constS x)) := by
  have e : isC (.mk x []) = constS x := rfl
  rw [← e]
  refine (refConstant_ok (.mk x [])).args rfl fun F i p q v hp hq h => ?_
  rcases i with _ | i
  · simp at hp hq; subst hp; subst hq; exact RV_leaf h
  · simp at hp
def cmpS (x y : ByteArray) : Int := cmpT (.mk x []) (.mk y [])
theorem less_ok (x y : ByteArray) : ACall Try.prog 71 [.sc (.string x), .sc (.string y)] (fun r => r = nt .i64 (cmpS x y)) := by
  have h := fun a b c d => Compare_leaf x y a b c d
  unfold cmpS
  generalize cmpT (.mk x []) (.mk y []) = c at *
  refine acall_of_awp Try.func71 Try.call71 rfl (by simp [Try.ntmps71]) ?_; simp only [Try.ntmps71, Try.results71]
  repeat' (first | (refine awK fun _ _ => ?_) | refine Hide.go (by assumption) ?_ | (first | refine zqd ?_ ?_ | refine zqn ?_ ?_ | refine zgd ?_ ?_ | refine zgn ?_ ?_ | refine zdd ?_ ?_ | refine zdn ?_ ?_) <;> (intro h; first | (exfalso; omega) | (simp only [h, decide_true, decide_false, not_false_eq_true]) | skip) | refine end_ret [] ?_; simp [go_sem] | refine stepK_is rfl (h _ _ _ _) (by simp) ?_ | refine dstepK_is rfl (h _ _ _ _) rfl (by simp) ?_ | (fail_if_success with_reducible (refine Owe.mk ?_)); (simp (disch := omega) [go_sem]) | refine And.intro (by omega) ?_ | refine And.intro (And.intro (by assumption) (by omega)) ?_ | (refine nbI fun bq => ?_) | (first | refine zqm ?_ ?_ | refine zgm ?_ ?_ | refine zdm ?_ ?_) <;> (intro h; simp only [h, Bool.not_true, Bool.not_false]) | (first | refine zqs ?_ ?_ | refine zgs ?_ ?_ | refine zds ?_ ?_) <;> (intro h; first | (exfalso; simp at h; omega) | ((try simp only [h]); (try simp at h))))
theorem len64_zero : ACall Try.prog 97 [nt .u64 0] (fun r => r = nt .i64 0) := by
  refine acall_of_awp Try.func97 Try.call97 rfl (by simp [Try.ntmps97]) ?_; simp only [Try.ntmps97, Try.results97]
  repeat' (first | (refine awK fun _ _ => ?_) | refine Hide.go (by assumption) ?_ | (first | refine zqd ?_ ?_ | refine zqn ?_ ?_ | refine zgd ?_ ?_ | refine zgn ?_ ?_ | refine zdd ?_ ?_ | refine zdn ?_ ?_) <;> (intro h; first | (exfalso; omega) | (simp only [h, decide_true, decide_false, not_false_eq_true]) | skip) | refine end_ret [] ?_; simp [go_sem] | (fail_if_success with_reducible (refine Owe.mk ?_)); (simp (disch := omega) [go_sem]) | refine And.intro (by omega) ?_ | refine And.intro (And.intro (by assumption) (by omega)) ?_ | (refine nbI fun bq => ?_) | (first | refine zqm ?_ ?_ | refine zgm ?_ ?_ | refine zdm ?_ ?_) <;> (intro h; simp only [h, Bool.not_true, Bool.not_false]) | (first | refine zqs ?_ ?_ | refine zgs ?_ ?_ | refine zds ?_ ?_) <;> (intro h; first | (exfalso; simp at h; omega) | ((try simp only [h]); (try simp at h))))
  all_goals (first | rfl | decide +kernel)
theorem len_zero : ACall Try.prog 83 [nt .u64 0] (fun r => r = nt .i64 0) := by
  have h := len64_zero
  refine acall_of_awp Try.func83 Try.call83 rfl (by simp [Try.ntmps83]) ?_; simp only [Try.ntmps83, Try.results83]
  repeat' (first | (refine awK fun _ _ => ?_) | refine Hide.go (by assumption) ?_ | (first | refine zqd ?_ ?_ | refine zqn ?_ ?_ | refine zgd ?_ ?_ | refine zgn ?_ ?_ | refine zdd ?_ ?_ | refine zdn ?_ ?_) <;> (intro h; first | (exfalso; omega) | (simp only [h, decide_true, decide_false, not_false_eq_true]) | skip) | refine end_ret [] ?_; simp [go_sem] | refine stepK_is rfl (h) (by simp) ?_ | refine dstepK_is rfl (h) rfl (by simp) ?_ | (fail_if_success with_reducible (refine Owe.mk ?_)); (simp (disch := omega) [go_sem]) | refine And.intro (by omega) ?_ | refine And.intro (And.intro (by assumption) (by omega)) ?_ | (refine nbI fun bq => ?_) | (first | refine zqm ?_ ?_ | refine zgm ?_ ?_ | refine zdm ?_ ?_) <;> (intro h; simp only [h, Bool.not_true, Bool.not_false]) | (first | refine zqs ?_ ?_ | refine zgs ?_ ?_ | refine zds ?_ ?_) <;> (intro h; first | (exfalso; simp at h; omega) | ((try simp only [h]); (try simp at h))))
theorem ins_zero (f : FuncId) : MCall Try.prog 88 [.ref 1000 0 0, nt .i64 0, nt .i64 0, .clo f []] [(1000, rowO eStr 1 0 [])] (fun r o' => r = .tup [] ∧ o' = [(1000, rowO eStr 1 0 [])]) := by
  refine mcall_of_awpL Try.func88 Try.call88 rfl (by simp [Try.ntmps88]) ?_; simp only [Try.ntmps88, Try.results88]
  repeat' (first | (refine awK fun _ _ => ?_) | refine Hide.go (by assumption) ?_ | (fail_if_success with_reducible (refine Owe.mk ?_)); (simp (disch := omega) [go_sem]))
  refine awp_for [0, 1, 2, 3] [] (fun u : Unit => [(8, nt .i64 1)]) (fun u : Unit => []) (fun u : Unit => 0) (fun u : Unit => True) (()) (Le.sub4 rfl (by simp [go_sem])) ⟨?_⟩ ?_
  · trivial
  intro u hu AA hAA; simp only [kL, Nat.reduceBEq, Nat.reduceEqDiff, if_true, if_false, List.cons_append, List.nil_append, List.append_nil]
  repeat' (first | (refine awK fun _ _ => ?_) | refine Hide.go (by assumption) ?_ | (first | refine zqd ?_ ?_ | refine zqn ?_ ?_ | refine zgd ?_ ?_ | refine zgn ?_ ?_ | refine zdd ?_ ?_ | refine zdn ?_ ?_) <;> (intro h; first | (exfalso; omega) | (simp only [h, decide_true, decide_false, not_false_eq_true]) | skip) | refine end_ret [] ?_; simp [go_sem] | (fail_if_success with_reducible (refine Owe.mk ?_)); (simp (disch := omega) [go_sem]) | refine And.intro (by omega) ?_ | refine And.intro (And.intro (by assumption) (by omega)) ?_ | refine awp_draw 15 mix (by decide +kernel) ?_ | refine awp_draw 17 mix (by decide +kernel) ?_ | (refine nbI fun bq => ?_) | (first | refine zqm ?_ ?_ | refine zgm ?_ ?_ | refine zdm ?_ ?_) <;> (intro h; simp only [h, Bool.not_true, Bool.not_false]) | (first | refine zqs ?_ ?_ | refine zgs ?_ ?_ | refine zds ?_ ?_) <;> (intro h; first | (exfalso; simp at h; omega) | ((try simp only [h]); (try simp at h))))
  refine endL_normal ⟨53, [], [(1000, rowO eStr 1 0 [])]⟩ [] (Le.renSub [] [] (by simp [go_sem]) (by simp [go_sem]) (Le.sub4 rfl (by simp [go_sem]))) (by simp [go_sem]) ⟨rfl, rfl⟩
theorem pdq_zero (f : FuncId) : MCall Try.prog 82 [.ref 1000 0 0, nt .i64 0, nt .i64 0, nt .i64 0, .clo f []] [(1000, rowO eStr 1 0 [])] (fun r o' => r = .tup [] ∧ o' = [(1000, rowO eStr 1 0 [])]) := by
  have hi := ins_zero f
  refine mcall_of_awpL Try.func82 Try.call82 rfl (by simp [Try.ntmps82]) ?_; simp only [Try.ntmps82, Try.results82]
  repeat' (first | (refine awK fun _ _ => ?_) | refine Hide.go (by assumption) ?_ | (fail_if_success with_reducible (refine Owe.mk ?_)); (simp (disch := omega) [go_sem]))
  refine awp_for [0, 4] [] (fun u : Unit => [(1, nt .i64 0), (2, nt .i64 0), (3, nt .i64 0), (10, bl true), (11, bl true)]) (fun u : Unit => []) (fun u : Unit => 0) (fun u : Unit => True) (()) (Le.sub4 rfl (by simp [go_sem])) ⟨?_⟩ ?_
  · trivial
  intro u hu AA hAA; simp only [kL, Nat.reduceBEq, Nat.reduceEqDiff, if_true, if_false, List.cons_append, List.nil_append, List.append_nil]
  repeat' (first | (fail_if_success with_reducible (refine Owe.mk ?_)); (simp (disch := omega) [go_sem]))
  refine stepK_fis [] [] 10000 _ _ (Fits.mk' (by simp [go_sem]) (by simp [go_sem])) (by simp [go_sem]) (by simp [go_sem]) (hi) (by simp [go_sem]) (by simp [go_sem]) ?_
  repeat' (first | (refine awK fun _ _ => ?_) | refine Hide.go (by assumption) ?_ | (first | refine zqd ?_ ?_ | refine zqn ?_ ?_ | refine zgd ?_ ?_ | refine zgn ?_ ?_ | refine zdd ?_ ?_ | refine zdn ?_ ?_) <;> (intro h; first | (exfalso; omega) | (simp only [h, decide_true, decide_false, not_false_eq_true]) | skip) | refine end_ret [] ?_; simp [go_sem] | (fail_if_success with_reducible (refine Owe.mk ?_)); (simp (disch := omega) [go_sem]) | refine And.intro (by omega) ?_ | refine And.intro (And.intro (by assumption) (by omega)) ?_ | refine awp_draw 17 mix (by decide +kernel) ?_ | (refine nbI fun bq => ?_) | (first | refine zqm ?_ ?_ | refine zgm ?_ ?_ | refine zdm ?_ ?_) <;> (intro h; simp only [h, Bool.not_true, Bool.not_false]) | (first | refine zqs ?_ ?_ | refine zgs ?_ ?_ | refine zds ?_ ?_) <;> (intro h; first | (exfalso; simp at h; omega) | ((try simp only [h]); (try simp at h))))
  refine endL_ret ⟨148, [], [(1000, rowO eStr 1 0 [])]⟩ [] (Le.renSub [] [] (by simp [go_sem]) (by simp [go_sem]) (Le.sub4 rfl (by simp [go_sem]))) (by simp [go_sem]) ⟨rfl, rfl⟩
theorem SortFunc_zero (f : FuncId) : MCall Try.prog 70 [.ref 1000 0 0, .clo f []] [(1000, rowO eStr 1 0 [])] (fun r o' => r = .tup [] ∧ o' = [(1000, rowO eStr 1 0 [])]) := by
  have hi := pdq_zero f
  have hl := len_zero
  refine mcall_of_awpL Try.func70 Try.call70 rfl (by simp [Try.ntmps70]) ?_; simp only [Try.ntmps70, Try.results70]
  repeat' (first | (refine awK fun _ _ => ?_) | refine Hide.go (by assumption) ?_ | (first | refine zqd ?_ ?_ | refine zqn ?_ ?_ | refine zgd ?_ ?_ | refine zgn ?_ ?_ | refine zdd ?_ ?_ | refine zdn ?_ ?_) <;> (intro h; first | (exfalso; omega) | (simp only [h, decide_true, decide_false, not_false_eq_true]) | skip) | refine end_ret [] ?_; simp [go_sem] | refine stepK_is rfl (hl) (by simp) ?_ | refine dstepK_is rfl (hl) rfl (by simp) ?_ | (fail_if_success with_reducible (refine Owe.mk ?_)); (simp (disch := omega) [go_sem]) | refine And.intro (by omega) ?_ | refine And.intro (And.intro (by assumption) (by omega)) ?_ | (refine nbI fun bq => ?_) | (first | refine zqm ?_ ?_ | refine zgm ?_ ?_ | refine zdm ?_ ?_) <;> (intro h; simp only [h, Bool.not_true, Bool.not_false]) | (first | refine zqs ?_ ?_ | refine zgs ?_ ?_ | refine zds ?_ ?_) <;> (intro h; first | (exfalso; simp at h; omega) | ((try simp only [h]); (try simp at h))))
  refine stepK_fis [] [] 10000 _ _ (Fits.mk' (by simp [go_sem]) (by simp [go_sem])) (by simp [go_sem]) (by simp [go_sem]) (hi) (by simp [go_sem]) (by simp [go_sem]) ?_
  repeat' (first | (refine awK fun _ _ => ?_) | refine Hide.go (by assumption) ?_ | (first | refine zqd ?_ ?_ | refine zqn ?_ ?_ | refine zgd ?_ ?_ | refine zgn ?_ ?_ | refine zdd ?_ ?_ | refine zdn ?_ ?_) <;> (intro h; first | (exfalso; omega) | (simp only [h, decide_true, decide_false, not_false_eq_true]) | skip) | refine end_ret [] ?_; simp [go_sem] | (fail_if_success with_reducible (refine Owe.mk ?_)); (simp (disch := omega) [go_sem]) | refine And.intro (by omega) ?_ | refine And.intro (And.intro (by assumption) (by omega)) ?_ | (refine nbI fun bq => ?_) | (first | refine zqm ?_ ?_ | refine zgm ?_ ?_ | refine zdm ?_ ?_) <;> (intro h; simp only [h, Bool.not_true, Bool.not_false]) | (first | refine zqs ?_ ?_ | refine zgs ?_ ?_ | refine zds ?_ ?_) <;> (intro h; first | (exfalso; simp at h; omega) | ((try simp only [h]); (try simp at h))))
  refine endL_normal ⟨14, [], [(1000, rowO eStr 1 0 [])]⟩ [] (Le.renSub [] [] (by simp [go_sem]) (by simp [go_sem]) (Le.sub4 rfl (by simp [go_sem]))) (by simp [go_sem]) ⟨rfl, rfl⟩
set_option maxHeartbeats 4000000
set_option maxHeartbeats 8000000
theorem insT_at {t : Tm} : ∀ {o : List Tm} {k : Nat}, k ≤ o.length → (∀ (j : Nat) (h : j < o.length), j < k → cmpT o[j] t < 0) → (∀ h : k < o.length, ¬ cmpT o[k] t < 0) →
    insT t o = if ∃ h : k < o.length, cmpT o[k] t = 0 then o else o.take k ++ t :: o.drop k
  | [], k, hk, _, _ => by
    obtain rfl : k = 0 := by simpa using hk
    simp [insT]
  | u :: r, 0, _, _, h2 => by
    have h3 := h2 (by simp)
    simp only [List.getElem_cons_zero] at h3
    unfold insT
    rw [if_neg h3]
    by_cases h4 : cmpT u t = 0
    · rw [if_pos h4, if_pos ⟨by simp, h4⟩]
    · rw [if_neg h4, if_neg (by rintro ⟨_, h⟩; exact h4 h)]; simp
  | u :: r, k + 1, hk, h1, h2 => by
    have h3 := h1 0 (by simp) (by omega)
    simp only [List.getElem_cons_zero] at h3
    unfold insT
    rw [if_pos h3, insT_at (k := k) (by simpa using hk) (fun j h hj => by have := h1 (j + 1) (by simpa using h) (by omega); simpa using this) (fun h => by have := h2 (by simpa using h); simpa using this)]
    by_cases h4 : ∃ h : k < r.length, cmpT r[k] t = 0
    · rw [if_pos h4, if_pos (by obtain ⟨h, e⟩ := h4; exact ⟨by simpa using h, by simpa using e⟩)]
    · rw [if_neg h4, if_neg (by rintro ⟨h, e⟩; exact h4 ⟨by simpa using h, by simpa using e⟩)]; simp
theorem cells_take {l : List Tm} {k : Nat} {y : AV} (h : y ∈ List.take k (l.map eTm)) : y.cells.length = 2 := by
  obtain ⟨t, _, rfl⟩ := List.mem_map.1 (List.mem_of_mem_take h)
  rw [eTm_eq]; rfl
theorem cells_drop {l : List Tm} {k : Nat} {y : AV} (h : y ∈ List.drop k (l.map eTm)) : y.cells.length = 2 := by
  obtain ⟨t, _, rfl⟩ := List.mem_map.1 (List.mem_of_mem_drop h)
  rw [eTm_eq]; rfl
theorem refSort_both (l : List Tm) (le fu own : Bool) (hb : l.length ≤ 1000000) : ACall Try.prog 36 [.list le fu (l.map eTm)] (fun r => r = if own = true then .own 2 ((sortT l).map eTm) else .list false false ((sortT l).map eTm)) := by
  have t0 : sortT [] = [] := rfl
  have hle : ∀ i, i ≤ l.length → (sortT (l.take i)).length ≤ i := fun i => by
    induction i with
    | zero => intro _; exact Nat.le_refl _
    | succ i ih =>
      intro hi
      have := ih (by omega)
      rw [sortT_next (by omega)]
      have hins : ∀ (t : Tm) (o : List Tm), (insT t o).length ≤ o.length + 1 := fun t o => by
        induction o with
        | nil => simp [insT]
        | cons u r ih => unfold insT; split <;> (try split) <;> simp <;> omega
      have := hins l[i] (sortT (l.take i))
      omega
  generalize hR : sortT l = R
  refine acall_of_awp Try.func36 Try.call36 rfl (by simp [Try.ntmps36]) ?_; simp only [Try.ntmps36, Try.results36]
  repeat' (first | (refine awK fun _ _ => ?_) | refine Hide.go (by assumption) ?_ | (first | refine zqd ?_ ?_ | refine zqn ?_ ?_ | refine zgd ?_ ?_ | refine zgn ?_ ?_ | refine zdd ?_ ?_ | refine zdn ?_ ?_) <;> (intro h; first | (exfalso; omega) | (simp only [h, decide_true, decide_false, not_false_eq_true]) | skip) | refine end_ret [] ?_; simp [go_sem] | (fail_if_success with_reducible (refine Owe.mk ?_)); (simp (disch := omega) [go_sem]) | refine And.intro (by omega) ?_ | refine And.intro (And.intro (by assumption) (by omega)) ?_ | refine awp_draw 16 mix (by decide +kernel) ?_ | (refine nbI fun bq => ?_) | (first | refine zqm ?_ ?_ | refine zgm ?_ ?_ | refine zdm ?_ ?_) <;> (intro h; simp only [h, Bool.not_true, Bool.not_false]) | (first | refine zqs ?_ ?_ | refine zgs ?_ ?_ | refine zds ?_ ?_) <;> (intro h; first | (exfalso; simp at h; omega) | ((try simp only [h]); (try simp at h))))
  refine awp_for [0, 8] [900] (fun i : Nat => [(9, nt .i64 i), (3, .ref 900 0 (sortT (l.take i)).length)]) (fun i : Nat => [(900, ⟨true, false, false, 2, (sortT (l.take i)).map eTm, 0⟩)]) (fun i : Nat => l.length - i) (fun i : Nat => i ≤ l.length) (0) (by refine Le.trans ?_ (Le.nil (i := 3) (T := 900) (es := 2) rfl); exact (Le.sub4 rfl (by simp [go_sem, t0, List.map_nil]))) ⟨?_⟩ ?_
  · exact Nat.zero_le _
  intro i hi AA hAA; simp only [kL, Nat.reduceBEq, Nat.reduceEqDiff, if_true, if_false, List.cons_append, List.nil_append, List.append_nil]
  have hdi := hle i hi
  by_cases hlt : i < l.length
  · have hnx := sortT_next hlt
    have hle2 := hle (i + 1) hlt
    generalize hO : sortT (l.take i) = O at *
    have hAB := hAA
    repeat' (first | (refine awK fun _ _ => ?_) | refine Hide.go (by assumption) ?_ | (first | refine zqd ?_ ?_ | refine zqn ?_ ?_ | refine zgd ?_ ?_ | refine zgn ?_ ?_ | refine zdd ?_ ?_ | refine zdn ?_ ?_) <;> (intro h; first | (exfalso; omega) | (simp only [h, decide_true, decide_false, not_false_eq_true]) | skip) | refine end_ret [] ?_; simp [go_sem] | (fail_if_success with_reducible (refine Owe.mk ?_)); (simp (disch := omega) [go_sem]) | refine And.intro (by omega) ?_ | refine And.intro (And.intro (by assumption) (by omega)) ?_ | refine awp_draw 16 mix (by decide +kernel) ?_ | (refine nbI fun bq => ?_) | (first | refine zqm ?_ ?_ | refine zgm ?_ ?_ | refine zdm ?_ ?_) <;> (intro h; simp only [h, Bool.not_true, Bool.not_false]) | (first | refine zqs ?_ ?_ | refine zgs ?_ ?_ | refine zds ?_ ?_) <;> (intro h; first | (exfalso; simp at h; omega) | ((try simp only [h]); (try simp at h))))
    refine awp_for [0, 3, 4, 8, 9] [] (fun k : Nat => [(5, nt .i64 k)]) (fun k : Nat => []) (fun k : Nat => O.length - k) (fun k : Nat => k ≤ O.length ∧ ∀ (j : Nat) (h : j < O.length), j < k → cmpT O[j] l[i] < 0) (0) (Le.sub4 rfl (by simp [go_sem])) ⟨?_⟩ ?_
    · exact ⟨Nat.zero_le _, fun j h hj => absurd hj (Nat.not_lt_zero _)⟩
    intro k ⟨hk, hall⟩ AA hAA; simp only [kL, Nat.reduceBEq, Nat.reduceEqDiff, if_true, if_false, List.cons_append, List.nil_append, List.append_nil]
    by_cases hkl : k < O.length
    · have hu := refCompare_ok O[k] l[i]
      by_cases hq : cmpT O[k] l[i] < 0
      · obtain ⟨c, hc⟩ : ∃ c, c = cmpT O[k] l[i] := ⟨_, rfl⟩
        rw [← hc] at hu hq
        repeat' (first | (refine awK fun _ _ => ?_) | refine Hide.go (by assumption) ?_ | (first | refine zqd ?_ ?_ | refine zqn ?_ ?_ | refine zgd ?_ ?_ | refine zgn ?_ ?_ | refine zdd ?_ ?_ | refine zdn ?_ ?_) <;> (intro h; first | (exfalso; omega) | (simp only [h, decide_true, decide_false, not_false_eq_true]) | skip) | refine end_ret [] ?_; simp [go_sem, hlt, hkl, hq] | refine stepK_is rfl (hu) (by simp) ?_ | refine dstepK_is rfl (hu) rfl (by simp) ?_ | refine (hAA.next (k + 1) (Le.sub4 rfl (by simp [go_sem])) (by (try dsimp only); omega) ?_) | (fail_if_success with_reducible (refine Owe.mk ?_)); (simp (disch := omega) [go_sem, hlt, hkl, hq]) | refine And.intro (by omega) ?_ | refine And.intro (And.intro (by assumption) (by omega)) ?_ | refine awp_draw 16 mix (by decide +kernel) ?_ | (refine nbI fun bq => ?_) | (first | refine zqm ?_ ?_ | refine zgm ?_ ?_ | refine zdm ?_ ?_) <;> (intro h; simp only [h, Bool.not_true, Bool.not_false]) | (first | refine zqs ?_ ?_ | refine zgs ?_ ?_ | refine zds ?_ ?_) <;> (intro h; first | (exfalso; simp at h; omega) | ((try simp only [h]); (try simp at h))))
        all_goals (first | omega | skip)
        exact ⟨⟨hkl, fun j h hj => by
          by_cases e : j = k
          · subst e; rw [← hc]; exact hq
          · exact hall j h (by omega)⟩⟩
      · have hin := insT_at hk hall (fun _ => hq)
        by_cases hz : cmpT O[k] l[i] = 0
        · rw [if_pos ⟨hkl, hz⟩] at hin
          rw [hin] at hnx
          rw [hz] at hu
          repeat' (first | (refine awK fun _ _ => ?_) | refine Hide.go (by assumption) ?_ | (first | refine zqd ?_ ?_ | refine zqn ?_ ?_ | refine zgd ?_ ?_ | refine zgn ?_ ?_ | refine zdd ?_ ?_ | refine zdn ?_ ?_) <;> (intro h; first | (exfalso; omega) | (simp only [h, decide_true, decide_false, not_false_eq_true]) | skip) | refine end_ret [] ?_; simp [go_sem, hlt, hkl] | refine stepK_is rfl (hu) (by simp) ?_ | refine dstepK_is rfl (hu) rfl (by simp) ?_ | refine (hAB.next (i + 1) (Le.sub4 rfl (by simp [go_sem, hnx])) (by (try dsimp only); omega) ?_) | (fail_if_success with_reducible (refine Owe.mk ?_)); (simp (disch := omega) [go_sem, hlt, hkl]) | refine And.intro (by omega) ?_ | refine And.intro (And.intro (by assumption) (by omega)) ?_ | refine awp_draw 16 mix (by decide +kernel) ?_ | (refine nbI fun bq => ?_) | (first | refine zqm ?_ ?_ | refine zgm ?_ ?_ | refine zdm ?_ ?_) <;> (intro h; simp only [h, Bool.not_true, Bool.not_false]) | (first | refine zqs ?_ ?_ | refine zgs ?_ ?_ | refine zds ?_ ?_) <;> (intro h; first | (exfalso; simp at h; omega) | ((try simp only [h]); (try simp at h))))
          all_goals (first | omega | skip)
          exact ⟨hlt⟩
        · rw [if_neg (by rintro ⟨_, h⟩; exact hz h)] at hin
          rw [hin] at hnx
          generalize cmpT O[k] l[i] = c at *
          have hkn : ¬ k = O.length := by omega
          have htd : List.take (O.length - k) (List.drop k (List.map eTm O)) = List.drop k (List.map eTm O) := List.take_of_length_le (by simp)
          by_cases hk0 : k = 0
          · subst hk0
            have h0l : ¬ 0 = O.length := by omega
            have hc1 : 1 + O.length = O.length + 1 := Nat.add_comm _ _
            repeat' (first | (refine awK fun _ _ => ?_) | refine Hide.go (by assumption) ?_ | (first | refine zqd ?_ ?_ | refine zqn ?_ ?_ | refine zgd ?_ ?_ | refine zgn ?_ ?_ | refine zdd ?_ ?_ | refine zdn ?_ ?_) <;> (intro h; first | (exfalso; omega) | (simp only [h, decide_true, decide_false, not_false_eq_true]) | skip) | refine end_ret [] ?_; simp [go_sem, hlt, hkl, hq, hz, h0l] | refine stepK_is rfl (hu) (by simp) ?_ | refine dstepK_is rfl (hu) rfl (by simp) ?_ | refine (hAB.next (i + 1) (Le.renSub [(50, 900), (900, 50)] [(900, 50), (50, 900)] (by simp [go_sem, hnx, hc1]) (by simp [go_sem, hnx, hc1]) (Le.sub4 rfl (by simp [go_sem, hnx, hc1]))) (by (try dsimp only); omega) ?_) | (fail_if_success with_reducible (refine Owe.mk ?_)); (simp (disch := omega) [go_sem, hlt, hkl, hq, hz, h0l]) | refine And.intro (by omega) ?_ | refine And.intro (And.intro (by assumption) (by omega)) ?_ | refine awp_draw 16 mix (by decide +kernel) ?_ | (refine nbI fun bq => ?_) | (first | refine zqm ?_ ?_ | refine zgm ?_ ?_ | refine zdm ?_ ?_) <;> (intro h; simp only [h, Bool.not_true, Bool.not_false]) | (first | refine zqs ?_ ?_ | refine zgs ?_ ?_ | refine zds ?_ ?_) <;> (intro h; first | (exfalso; simp at h; omega) | ((try simp only [h]); (try simp at h))))
            all_goals (first | omega | skip)
            exact ⟨hlt⟩
          · have hmn : min k O.length = k := Nat.min_eq_left hk
            have hkk : k + 1 + (O.length - k) = O.length + 1 := by omega
            have hkk2 : k + (O.length - k + 1) = O.length + 1 := by omega
            repeat' (first | (refine awK fun _ _ => ?_) | refine Hide.go (by assumption) ?_ | (first | refine zqd ?_ ?_ | refine zqn ?_ ?_ | refine zgd ?_ ?_ | refine zgn ?_ ?_ | refine zdd ?_ ?_ | refine zdn ?_ ?_) <;> (intro h; first | (exfalso; omega) | (simp only [h, decide_true, decide_false, not_false_eq_true]) | skip) | refine end_ret [] ?_; simp [go_sem, hlt, hkl, hq, hz, hkn, hk0, htd] | refine stepK_is rfl (hu) (by simp) ?_ | refine dstepK_is rfl (hu) rfl (by simp) ?_ | (fail_if_success with_reducible (refine Owe.mk ?_)); (simp (disch := omega) [go_sem, hlt, hkl, hq, hz, hkn, hk0, htd]) | refine And.intro (by omega) ?_ | refine And.intro (And.intro (by assumption) (by omega)) ?_ | refine awp_draw 16 mix (by decide +kernel) ?_ | (refine nbI fun bq => ?_) | (first | refine zqm ?_ ?_ | refine zgm ?_ ?_ | refine zdm ?_ ?_) <;> (intro h; simp only [h, Bool.not_true, Bool.not_false]) | (first | refine zqs ?_ ?_ | refine zgs ?_ ?_ | refine zds ?_ ?_) <;> (intro h; first | (exfalso; simp at h; omega) | ((try simp only [h]); (try simp at h))))
            refine ⟨⟨fun y hy => cells_take hy, by omega⟩, ?_⟩
            repeat' (first | (refine awK fun _ _ => ?_) | refine Hide.go (by assumption) ?_ | (first | refine zqd ?_ ?_ | refine zqn ?_ ?_ | refine zgd ?_ ?_ | refine zgn ?_ ?_ | refine zdd ?_ ?_ | refine zdn ?_ ?_) <;> (intro h; first | (exfalso; omega) | (simp only [h, decide_true, decide_false, not_false_eq_true]) | skip) | refine end_ret [] ?_; simp [go_sem, hlt, hkl, hq, hz, hkn, hk0, htd, hmn] | refine stepK_is rfl (hu) (by simp) ?_ | refine dstepK_is rfl (hu) rfl (by simp) ?_ | (fail_if_success with_reducible (refine Owe.mk ?_)); (simp (disch := omega) [go_sem, hlt, hkl, hq, hz, hkn, hk0, htd, hmn]) | refine And.intro (by omega) ?_ | refine And.intro (And.intro (by assumption) (by omega)) ?_ | refine awp_draw 16 mix (by decide +kernel) ?_ | (refine nbI fun bq => ?_) | (first | refine zqm ?_ ?_ | refine zgm ?_ ?_ | refine zdm ?_ ?_) <;> (intro h; simp only [h, Bool.not_true, Bool.not_false]) | (first | refine zqs ?_ ?_ | refine zgs ?_ ?_ | refine zds ?_ ?_) <;> (intro h; first | (exfalso; simp at h; omega) | ((try simp only [h]); (try simp at h))))
            all_goals (first | omega | skip)
            refine ⟨⟨fun y hy => cells_drop hy, by omega⟩, ?_⟩
            repeat' (first | (refine awK fun _ _ => ?_) | refine Hide.go (by assumption) ?_ | (first | refine zqd ?_ ?_ | refine zqn ?_ ?_ | refine zgd ?_ ?_ | refine zgn ?_ ?_ | refine zdd ?_ ?_ | refine zdn ?_ ?_) <;> (intro h; first | (exfalso; omega) | (simp only [h, decide_true, decide_false, not_false_eq_true]) | skip) | refine end_ret [] ?_; simp [go_sem, hlt, hkl, hq, hz, hkn, hk0, htd, hmn] | refine stepK_is rfl (hu) (by simp) ?_ | refine dstepK_is rfl (hu) rfl (by simp) ?_ | refine (hAB.next (i + 1) (Le.renSub [(50, 900), (900, 50)] [(900, 50), (50, 900)] (by simp [go_sem, hnx, hmn, hkk, hkk2]) (by simp [go_sem, hnx, hmn, hkk, hkk2]) (Le.sub4 rfl (by simp [go_sem, hnx, hmn, hkk, hkk2]))) (by (try dsimp only); omega) ?_) | (fail_if_success with_reducible (refine Owe.mk ?_)); (simp (disch := omega) [go_sem, hlt, hkl, hq, hz, hkn, hk0, htd, hmn]) | refine And.intro (by omega) ?_ | refine And.intro (And.intro (by assumption) (by omega)) ?_ | refine awp_draw 16 mix (by decide +kernel) ?_ | (refine nbI fun bq => ?_) | (first | refine zqm ?_ ?_ | refine zgm ?_ ?_ | refine zdm ?_ ?_) <;> (intro h; simp only [h, Bool.not_true, Bool.not_false]) | (first | refine zqs ?_ ?_ | refine zgs ?_ ?_ | refine zds ?_ ?_) <;> (intro h; first | (exfalso; simp at h; omega) | ((try simp only [h]); (try simp at h))))
            all_goals (first | omega | skip)
            exact ⟨hlt⟩
    · obtain rfl : k = O.length := by omega
      have hin := insT_at (Nat.le_refl _) hall (fun h => absurd h (Nat.lt_irrefl _))
      rw [if_neg (by rintro ⟨h, _⟩; exact Nat.lt_irrefl _ h)] at hin
      rw [hin] at hnx
      by_cases h0 : O = []
      · subst h0
        simp only [List.take_nil, List.drop_nil, List.nil_append, List.length_nil] at *
        repeat' (first | (refine awK fun _ _ => ?_) | refine Hide.go (by assumption) ?_ | (first | refine zqd ?_ ?_ | refine zqn ?_ ?_ | refine zgd ?_ ?_ | refine zgn ?_ ?_ | refine zdd ?_ ?_ | refine zdn ?_ ?_) <;> (intro h; first | (exfalso; omega) | (simp only [h, decide_true, decide_false, not_false_eq_true]) | skip) | refine end_ret [] ?_; simp [go_sem, hlt] | refine (hAB.next (i + 1) (Le.renSub [(50, 900), (900, 50)] [(900, 50), (50, 900)] (by simp [go_sem, hnx]) (by simp [go_sem, hnx]) (Le.sub4 rfl (by simp [go_sem, hnx]))) (by (try dsimp only); omega) ?_) | (fail_if_success with_reducible (refine Owe.mk ?_)); (simp (disch := omega) [go_sem, hlt]) | refine And.intro (by omega) ?_ | refine And.intro (And.intro (by assumption) (by omega)) ?_ | refine awp_draw 16 mix (by decide +kernel) ?_ | (refine nbI fun bq => ?_) | (first | refine zqm ?_ ?_ | refine zgm ?_ ?_ | refine zdm ?_ ?_) <;> (intro h; simp only [h, Bool.not_true, Bool.not_false]) | (first | refine zqs ?_ ?_ | refine zgs ?_ ?_ | refine zds ?_ ?_) <;> (intro h; first | (exfalso; simp at h; omega) | ((try simp only [h]); (try simp at h))))
        all_goals (first | omega | skip)
        exact ⟨hlt⟩
      · have h0l : ¬ O.length = 0 := fun h => h0 (List.eq_nil_of_length_eq_zero h)
        rw [List.take_length, List.drop_length] at hnx
        repeat' (first | (refine awK fun _ _ => ?_) | refine Hide.go (by assumption) ?_ | (first | refine zqd ?_ ?_ | refine zqn ?_ ?_ | refine zgd ?_ ?_ | refine zgn ?_ ?_ | refine zdd ?_ ?_ | refine zdn ?_ ?_) <;> (intro h; first | (exfalso; omega) | (simp only [h, decide_true, decide_false, not_false_eq_true]) | skip) | refine end_ret [] ?_; simp [go_sem, hlt, hkl, h0, h0l] | refine (hAB.next (i + 1) (Le.renSub [(50, 900), (900, 50)] [(900, 50), (50, 900)] (by simp [go_sem, hnx]) (by simp [go_sem, hnx]) (Le.sub4 rfl (by simp [go_sem, hnx]))) (by (try dsimp only); omega) ?_) | (fail_if_success with_reducible (refine Owe.mk ?_)); (simp (disch := omega) [go_sem, hlt, hkl, h0, h0l]) | refine And.intro (by omega) ?_ | refine And.intro (And.intro (by assumption) (by omega)) ?_ | refine awp_draw 16 mix (by decide +kernel) ?_ | (refine nbI fun bq => ?_) | (first | refine zqm ?_ ?_ | refine zgm ?_ ?_ | refine zdm ?_ ?_) <;> (intro h; simp only [h, Bool.not_true, Bool.not_false]) | (first | refine zqs ?_ ?_ | refine zgs ?_ ?_ | refine zds ?_ ?_) <;> (intro h; first | (exfalso; simp at h; omega) | ((try simp only [h]); (try simp at h))))
        all_goals (first | omega | skip)
        exact ⟨hlt⟩
  · obtain rfl : i = l.length := by omega
    rw [List.take_length, hR]
    cases own
    · simp only [Bool.false_eq_true, if_false]
      repeat' (first | (refine awK fun _ _ => ?_) | refine Hide.go (by assumption) ?_ | (first | refine zqd ?_ ?_ | refine zqn ?_ ?_ | refine zgd ?_ ?_ | refine zgn ?_ ?_ | refine zdd ?_ ?_ | refine zdn ?_ ?_) <;> (intro h; first | (exfalso; omega) | (simp only [h, decide_true, decide_false, not_false_eq_true]) | skip) | refine end_ret [900] ?_; simp [go_sem] | (fail_if_success with_reducible (refine Owe.mk ?_)); (simp (disch := omega) [go_sem]) | refine And.intro (by omega) ?_ | refine And.intro (And.intro (by assumption) (by omega)) ?_ | refine awp_draw 16 mix (by decide +kernel) ?_ | (refine nbI fun bq => ?_) | (first | refine zqm ?_ ?_ | refine zgm ?_ ?_ | refine zdm ?_ ?_) <;> (intro h; simp only [h, Bool.not_true, Bool.not_false]) | (first | refine zqs ?_ ?_ | refine zgs ?_ ?_ | refine zds ?_ ?_) <;> (intro h; first | (exfalso; simp at h; omega) | ((try simp only [h]); (try simp at h))))
    · simp only [if_true]
      repeat' (first | (refine awK fun _ _ => ?_) | refine Hide.go (by assumption) ?_ | (first | refine zqd ?_ ?_ | refine zqn ?_ ?_ | refine zgd ?_ ?_ | refine zgn ?_ ?_ | refine zdd ?_ ?_ | refine zdn ?_ ?_) <;> (intro h; first | (exfalso; omega) | (simp only [h, decide_true, decide_false, not_false_eq_true]) | skip) | refine end_ret [] ?_; simp [go_sem] | (fail_if_success with_reducible (refine Owe.mk ?_)); (simp (disch := omega) [go_sem]) | refine And.intro (by omega) ?_ | refine And.intro (And.intro (by assumption) (by omega)) ?_ | refine awp_draw 16 mix (by decide +kernel) ?_ | (refine nbI fun bq => ?_) | (first | refine zqm ?_ ?_ | refine zgm ?_ ?_ | refine zdm ?_ ?_) <;> (intro h; simp only [h, Bool.not_true, Bool.not_false]) | (first | refine zqs ?_ ?_ | refine zgs ?_ ?_ | refine zds ?_ ?_) <;> (intro h; first | (exfalso; simp at h; omega) | ((try simp only [h]); (try simp at h))))
theorem refSortF_ok (l : List Tm) (le fu : Bool) (hb : l.length ≤ 1000000) : ACall Try.prog 36 [.list le fu (l.map eTm)] (fun r => r = .list false false ((sortT l).map eTm)) := refSort_both l le fu false hb
theorem noEsc (x : Value) (w : World) : (callFunc 98 #[x]).run Try.prog w = .ok (.value x) w := by kernel_rfl
def own1 (g : FuncId) : Bool := [11, 26, 22, 24, 34, 13, 18, 20, 15, 49, 31, 29, 56, 45, 74, 69, 63, 54, 57].contains g
def orcE : Orc := ⟨fun _ => none, fun _ => none, fun g => g == 98, own1⟩
theorem orcE_ok : OrcOk Try.prog orcE := ⟨fun g f h => (by cases h), fun g f h => (by cases h), fun g h x w => by
  have : g = 98 := eq_of_beq h
  subst this
  exact noEsc x w⟩
def isT : AV → Bool
  | .sc (.bool b) => b
  | _ => false
theorem isT_eq {r : AV} (h : isT r = true) : r = bl true := by
  unfold isT at h
  split at h
  · subst h; rfl
  · cases h
theorem awake_run : axIs Try.prog orcE 3000 10 [] isT = true := by kernel_rfl
theorem awake_ok : ACall Try.prog 10 [] (fun r => r = bl true) := (axIs_sound orcE_ok awake_run).mono fun _ h => isT_eq h
set_option maxHeartbeats 4000000
theorem small_ok (l : List Tm) (lent full : Bool) : ACall Try.prog 28 [.list lent full (l.map eTm)] (fun r => r = bl (smallL 40 l)) := by
  have h := SmallTerms_ok l lent full 40 (by decide)
  generalize smallL 40 l = b at *
  refine acall_of_awp Try.func28 Try.call28 rfl (by simp [Try.ntmps28]) ?_; simp only [Try.ntmps28, Try.results28]
  repeat' (first | (refine awK fun _ _ => ?_) | refine Hide.go (by assumption) ?_ | (first | refine zqd ?_ ?_ | refine zqn ?_ ?_ | refine zgd ?_ ?_ | refine zgn ?_ ?_ | refine zdd ?_ ?_ | refine zdn ?_ ?_) <;> (intro h; first | (exfalso; omega) | (simp only [h, decide_true, decide_false, not_false_eq_true]) | skip) | refine end_ret [] ?_; simp [go_sem] | refine stepK_is rfl (h) (by simp) ?_ | refine dstepK_is rfl (h) rfl (by simp) ?_ | (fail_if_success with_reducible (refine Owe.mk ?_)); (simp (disch := omega) [go_sem]) | refine And.intro (by omega) ?_ | refine And.intro (And.intro (by assumption) (by omega)) ?_ | (refine nbI fun bq => ?_) | (first | refine zqm ?_ ?_ | refine zgm ?_ ?_ | refine zdm ?_ ?_) <;> (intro h; simp only [h, Bool.not_true, Bool.not_false]) | (first | refine zqs ?_ ?_ | refine zgs ?_ ?_ | refine zds ?_ ?_) <;> (intro h; first | (exfalso; simp at h; omega) | ((try simp only [h]); (try simp at h))))
open Go.ChangeShapes Go.WideShapes Go.ChangeAt Go.RowKit
theorem own : ownKnob Try.prog.godebug = none := by kernel_rfl
theorem kids : Kids Try.prog (· < Try.prog.types.size) := kids_rows (by kernel_rfl) (by kernel_rfl)
theorem full : ∀ t e, t < Try.prog.types.size → Try.prog.underlying t = some (.slice e) → 0 < Try.prog.cellsOf e := slices_full_of Try.prog (by kernel_rfl)
section
variable {H : Type} {enc : TypeId × Value → H} {W : World}
theorem came_term_terms : ∀ n : Nat, Came enc Try.prog W n 28 eT (fun _ => True) ∧ Came enc Try.prog W n 26 (fun l : List Tm => .list false false (l.map eTm)) (fun _ => True)
  | 0 => ⟨Came.zero, Came.zero⟩
  | n + 1 => by
    obtain ⟨h1, h2⟩ := came_term_terms n
    refine ⟨(Came.struct Try.underlying28 rfl (by kernel_rfl) (CameF.cons 1 rfl (by kernel_rfl) (Came.string Try.underlying9) (CameF.cons 1 rfl (by kernel_rfl) h2 CameF.nil))).map (fun x => Tm.mk x.1 x.2.1) (fun x h => ⟨trivial, rfl⟩), ?_⟩
    refine (Came.slice Try.underlying26 (by decide +kernel) (by decide +kernel) h1).map (fun x => x) (fun x h => ⟨trivial, ?_⟩)
    congr 1
    exact List.map_congr_left fun t _ => eTm_eq t
theorem came_terms (n : Nat) : Came enc Try.prog W n 26 (fun l : List Tm => .list false false (l.map eTm)) (fun _ => True) := (came_term_terms n).2
end
end Go.Proofs.Ytldecgghhaoliaa
