/-
  Rate23: all matches.
-/
import Derived.Test.YtfccgdgippmpgaaRate22
namespace Go.Proofs.Ytfccgdgippmpgaa
open Go.Ab
set_option linter.unusedSimpArgs false
set_option maxRecDepth 100000
set_option maxHeartbeats 8000000
def eM (m : List Sc) : AV := .list false false (m.map eSc)
def ini (p : Nat) : Rt := ⟨p, 1000, 1, 0⟩
def run : List Rt → List (List Sc) → Int × List Rt
  | l, [] => (0, l)
  | l, m :: r => if (upd l m).1 = 0 then run (upd l m).2 r else ((upd l m).1, [])
def inis (n : Nat) : List Rt := (List.range n).map ini
theorem inis_zero : inis 0 = [] := rfl
theorem inis_len (n : Nat) : (inis n).length = n := by simp [inis]
def allQ (p : Int) (ms : List (List Sc)) : Int × List Rt := if p < 1 ∨ 16 < p then (12, []) else run (inis p.toNat) ms
theorem run_snoc : ∀ (ms : List (List Sc)) (l : List Rt) (m : List Sc), run l (ms ++ [m]) = if (run l ms).1 = 0 then (if (upd (run l ms).2 m).1 = 0 then (0, (upd (run l ms).2 m).2) else ((upd (run l ms).2 m).1, [])) else ((run l ms).1, [])
  | [], l, m => by
    rw [List.nil_append]
    by_cases h : (upd l m).1 = 0 <;> simp [run, h]
  | a :: r, l, m => by
    simp only [List.cons_append, run]
    by_cases h : (upd l a).1 = 0
    · simp only [h, if_true]; exact run_snoc r _ m
    · simp only [h, if_false]
theorem run_err : ∀ (ms : List (List Sc)) (l : List Rt), (run l ms).1 ≠ 0 → run l ms = ((run l ms).1, [])
  | [], l, h => absurd rfl h
  | a :: r, l, h => by
    simp only [run] at h ⊢
    by_cases h2 : (upd l a).1 = 0
    · simp only [h2, if_true] at h ⊢; exact run_err r _ h
    · simp only [h2, if_false]
theorem upd_err (l : List Rt) (m : List Sc) (h : (upd l m).1 ≠ 0) : upd l m = ((upd l m).1, []) := by
  unfold upd at *
  split
  · rfl
  · split
    · rfl
    · split
      · rfl
      · rename_i h1 h2 h3
        rw [if_neg h1, if_neg h2, if_neg h3] at h
        split
        · rfl
        · rename_i O hO
          rw [hO] at h
          exact absurd rfl h
theorem upd_okR {l : List Rt} {m : List Sc} (h : (upd l m).1 = 0) (hl : ∀ r ∈ l, r.ok) : ∀ r ∈ (upd l m).2, r.ok := by
  have F := upd_facts (O := (upd l m).2) (Prod.ext h rfl) hl
  intro r hr
  obtain ⟨k, hk⟩ := List.getElem?_of_mem hr
  exact (F.vals k r hk).2
theorem ini_next (i : Nat) : inis (i + 1) = inis i ++ [ini i] := by unfold inis; rw [List.range_succ, List.map_append]; rfl
theorem ini_ok (n : Nat) (hn : n ≤ 16) : ∀ r ∈ inis n, r.ok := by
  intro r hr
  unfold inis at hr
  obtain ⟨p, hp, rfl⟩ := List.mem_map.1 hr
  have := List.mem_range.1 hp
  exact ⟨by unfold ini; dsimp only; omega, by unfold ini; dsimp only; omega, by unfold ini; dsimp only; omega, by unfold ini; dsimp only; omega⟩
theorem whole_ok (n : Int) : ACall Try.prog 25 [nt .i64 n] (fun r => r = .agg [nt .i64 n, nt .i64 1]) := by
  refine acall_of_awp Try.func25 Try.call25 rfl (by simp [Try.ntmps25]) ?_; simp only [Try.ntmps25, Try.results25]
  repeat' (first
    | (refine awp_seqK (fun K hK => ?_))
    | (refine Hide.go (by assumption) ?_)
    | ((first | refine zqd ?_ ?_ | refine zqn ?_ ?_ | refine zgd ?_ ?_ | refine zgn ?_ ?_ | refine zdd ?_ ?_ | refine zdn ?_ ?_) <;> (intro h; first | (exfalso; omega) | (simp only [h, decide_true, decide_false, not_false_eq_true]) | skip))
    | (refine end_ret [] ?_; simp [go_sem])
    | ((fail_if_success with_reducible (refine Owe.mk ?_)); (simp (disch := omega) [go_sem]))
    | (refine And.intro (by omega) ?_)
    | ((first | refine zqm ?_ ?_ | refine zgm ?_ ?_ | refine zdm ?_ ?_) <;> (intro h; simp only [h, Bool.not_true, Bool.not_false]))
    | ((first | refine zqs ?_ ?_ | refine zgs ?_ ?_ | refine zds ?_ ?_) <;> (intro h; first | (exfalso; simp at h; omega) | ((try simp only [h]); (try simp at h))))
    | fail)
theorem run_len {l : List Rt} {ms : List (List Sc)} (hl : ∀ r ∈ l, r.ok) : (run l ms).1 = 0 → (run l ms).2.length = l.length ∧ ∀ r ∈ (run l ms).2, r.ok := by
  induction ms generalizing l with
  | nil => intro _; exact ⟨rfl, hl⟩
  | cons m r ih =>
    intro h
    simp only [run] at h ⊢
    by_cases h2 : (upd l m).1 = 0
    · simp only [h2, if_true] at h ⊢
      have F := upd_facts (O := (upd l m).2) (Prod.ext h2 rfl) hl
      obtain ⟨i1, i2⟩ := ih (upd_okR h2 hl) h
      exact ⟨by rw [i1, F.len], i2⟩
    · simp only [h2, if_false] at h
theorem whole1000 : ACall Try.prog 25 [.sc (.int .i64 1000)] (fun r => r = .agg [nt .i64 1000, nt .i64 1]) := whole_ok 1000
theorem All_ok (p : Int) (ms : List (List Sc)) (le fu : Bool) (hp : (-9223372036854775808 ≤ p ∧ p ≤ 9223372036854775807)) (hms : ∀ m ∈ ms, ∀ x ∈ m, x.ok) (hlm : ms.length ≤ 1000000) : ACall Try.prog 9 [nt .i64 p, .list le fu (ms.map eM)] (fun r => r = updV (allQ p ms)) := by
  have hw := whole1000
  unfold allQ
  by_cases h : p < 1 ∨ 16 < p
  · rw [if_pos h]
    simp only [updV]
    by_cases h1 : p < 1
    · refine acall_of_awp Try.func9 Try.call9 rfl (by simp [Try.ntmps9]) ?_; simp only [Try.ntmps9, Try.results9]
      repeat' (first
    | (refine awp_seqK (fun K hK => ?_))
    | (refine Hide.go (by assumption) ?_)
    | ((first | refine zqd ?_ ?_ | refine zqn ?_ ?_ | refine zgd ?_ ?_ | refine zgn ?_ ?_ | refine zdd ?_ ?_ | refine zdn ?_ ?_) <;> (intro h; first | (exfalso; omega) | (simp only [h, decide_true, decide_false, not_false_eq_true]) | skip))
    | (refine end_ret [] ?_; simp [go_sem, h1])
    | ((fail_if_success with_reducible (refine Owe.mk ?_)); (simp (disch := omega) [go_sem, h1]))
    | (refine And.intro (by omega) ?_)
    | ((first | refine zqm ?_ ?_ | refine zgm ?_ ?_ | refine zdm ?_ ?_) <;> (intro h; simp only [h, Bool.not_true, Bool.not_false]))
    | ((first | refine zqs ?_ ?_ | refine zgs ?_ ?_ | refine zds ?_ ?_) <;> (intro h; first | (exfalso; simp at h; omega) | ((try simp only [h]); (try simp at h))))
    | fail)
    · have h2 : 16 < p := by omega
      refine acall_of_awp Try.func9 Try.call9 rfl (by simp [Try.ntmps9]) ?_; simp only [Try.ntmps9, Try.results9]
      repeat' (first
    | (refine awp_seqK (fun K hK => ?_))
    | (refine Hide.go (by assumption) ?_)
    | ((first | refine zqd ?_ ?_ | refine zqn ?_ ?_ | refine zgd ?_ ?_ | refine zgn ?_ ?_ | refine zdd ?_ ?_ | refine zdn ?_ ?_) <;> (intro h; first | (exfalso; omega) | (simp only [h, decide_true, decide_false, not_false_eq_true]) | skip))
    | (refine end_ret [] ?_; simp [go_sem, h1, h2])
    | ((fail_if_success with_reducible (refine Owe.mk ?_)); (simp (disch := omega) [go_sem, h1, h2]))
    | (refine And.intro (by omega) ?_)
    | ((first | refine zqm ?_ ?_ | refine zgm ?_ ?_ | refine zdm ?_ ?_) <;> (intro h; simp only [h, Bool.not_true, Bool.not_false]))
    | ((first | refine zqs ?_ ?_ | refine zgs ?_ ?_ | refine zds ?_ ?_) <;> (intro h; first | (exfalso; simp at h; omega) | ((try simp only [h]); (try simp at h))))
    | fail)
  · rw [if_neg h]
    obtain ⟨n, rfl⟩ : ∃ n : Nat, p = n := ⟨p.toNat, by omega⟩
    rw [Int.toNat_natCast]
    generalize hR : updV (run (inis n) ms) = R
    refine acall_of_awp Try.func9 Try.call9 rfl (by simp [Try.ntmps9]) ?_; simp only [Try.ntmps9, Try.results9]
    repeat' (first
    | (refine awp_seqK (fun K hK => ?_))
    | (refine Hide.go (by assumption) ?_)
    | ((first | refine zqd ?_ ?_ | refine zqn ?_ ?_ | refine zgd ?_ ?_ | refine zgn ?_ ?_ | refine zdd ?_ ?_ | refine zdn ?_ ?_) <;> (intro h; first | (exfalso; omega) | (simp only [h, decide_true, decide_false, not_false_eq_true]) | skip))
    | (refine end_ret [] ?_; simp [go_sem])
    | ((fail_if_success with_reducible (refine Owe.mk ?_)); (simp (disch := omega) [go_sem]))
    | (refine And.intro (by omega) ?_)
    | ((first | refine zqm ?_ ?_ | refine zgm ?_ ?_ | refine zdm ?_ ?_) <;> (intro h; simp only [h, Bool.not_true, Bool.not_false]))
    | ((first | refine zqs ?_ ?_ | refine zgs ?_ ?_ | refine zds ?_ ?_) <;> (intro h; first | (exfalso; simp at h; omega) | ((try simp only [h]); (try simp at h))))
    | fail)
    all_goals (first | omega | skip)
    refine awp_for [1, 18] [900] (fun i : Nat => [(19, nt .i64 i), (6, .ref 900 0 i)]) (fun i : Nat => [(900, ⟨true, false, false, 4, (inis i).map eRt, 0⟩)]) (fun i : Nat => n - i) (fun i : Nat => i ≤ n) (0) (by refine Le.trans ?_ (Le.nil (i := 6) (T := 900) (es := 4) rfl); exact (Le.sub4 rfl (by simp [go_sem, inis_zero, List.map_nil]))) ⟨?_⟩ ?_
    · exact Nat.zero_le _
    intro i hi AA hAA; simp only [Go.Ab.keepT_nil, Go.Ab.keepT_cons, Go.Ab.dropO_nil, Go.Ab.dropO_cons, List.contains_cons, List.contains_nil, List.elem_cons, List.elem_nil, Nat.reduceBEq, beq_self_eq_true, Nat.reduceEqDiff, Bool.or_false, Bool.false_or, Bool.or_true, Bool.true_or, Bool.false_eq_true, if_true, if_false, List.cons_append, List.nil_append, List.append_nil]
    have hln := inis_len i
    by_cases hlt : i < n
    · have hnx := ini_next i
      have hen : eRt (ini i) = .agg [nt .i64 i, nt .i64 1000, nt .i64 1, nt .i64 0] := rfl
      generalize inis i = O at *
      generalize ini i = W at *
      repeat' (first
    | (refine awp_seqK (fun K hK => ?_))
    | (refine Hide.go (by assumption) ?_)
    | ((first | refine zqd ?_ ?_ | refine zqn ?_ ?_ | refine zgd ?_ ?_ | refine zgn ?_ ?_ | refine zdd ?_ ?_ | refine zdn ?_ ?_) <;> (intro h; first | (exfalso; omega) | (simp only [h, decide_true, decide_false, not_false_eq_true]) | skip))
    | (refine end_ret [] ?_; simp [go_sem, hln])
    | (refine stepK_is rfl (hw) (by simp) ?_)
    | (refine dstepK_is rfl (hw) rfl (by simp) ?_)
    | (refine (hAA.next (i + 1) (Le.sub4 rfl (by simp [go_sem, hnx, hen, hln])) (by (try dsimp only); omega) ?_))
    | ((fail_if_success with_reducible (refine Owe.mk ?_)); (simp (disch := omega) [go_sem, hln]))
    | (refine And.intro (by omega) ?_)
    | ((first | refine zqm ?_ ?_ | refine zgm ?_ ?_ | refine zdm ?_ ?_) <;> (intro h; simp only [h, Bool.not_true, Bool.not_false]))
    | ((first | refine zqs ?_ ?_ | refine zgs ?_ ?_ | refine zds ?_ ?_) <;> (intro h; first | (exfalso; simp at h; omega) | ((try simp only [h]); (try simp at h))))
    | fail)
      all_goals (first | omega | skip)
      exact ⟨hlt⟩
    · obtain rfl : i = n := by omega
      have hok := ini_ok i (by omega)
      generalize inis i = O at *
      subst hln
      repeat' (first
    | (refine awp_seqK (fun K hK => ?_))
    | (refine Hide.go (by assumption) ?_)
    | ((first | refine zqd ?_ ?_ | refine zqn ?_ ?_ | refine zgd ?_ ?_ | refine zgn ?_ ?_ | refine zdd ?_ ?_ | refine zdn ?_ ?_) <;> (intro h; first | (exfalso; omega) | (simp only [h, decide_true, decide_false, not_false_eq_true]) | skip))
    | (refine end_ret [] ?_; simp [go_sem])
    | ((fail_if_success with_reducible (refine Owe.mk ?_)); (simp (disch := omega) [go_sem]))
    | (refine And.intro (by omega) ?_)
    | ((first | refine zqm ?_ ?_ | refine zgm ?_ ?_ | refine zdm ?_ ?_) <;> (intro h; simp only [h, Bool.not_true, Bool.not_false]))
    | ((first | refine zqs ?_ ?_ | refine zgs ?_ ?_ | refine zds ?_ ?_) <;> (intro h; first | (exfalso; simp at h; omega) | ((try simp only [h]); (try simp at h))))
    | fail)
      refine awp_for [29, 30] [900] (fun x : Nat × List Rt => [(31, nt .i64 x.1), (6, .ref 900 0 x.2.length)]) (fun x : Nat × List Rt => [(900, ⟨true, false, false, 4, x.2.map eRt, 0⟩)]) (fun x : Nat × List Rt => ms.length - x.1) (fun x : Nat × List Rt => x.1 ≤ ms.length ∧ (∀ r ∈ x.2, r.ok) ∧ updV (run x.2 (ms.drop x.1)) = R) ((0, O)) (Le.sub4 rfl (by simp [go_sem])) ⟨?_⟩ ?_
      · exact ⟨Nat.zero_le _, hok, hR⟩
      clear hok hR
      intro ⟨j, l⟩ ⟨hj, hok, hR⟩ AA hAA; simp only [Go.Ab.keepT_nil, Go.Ab.keepT_cons, Go.Ab.dropO_nil, Go.Ab.dropO_cons, List.contains_cons, List.contains_nil, List.elem_cons, List.elem_nil, Nat.reduceBEq, beq_self_eq_true, Nat.reduceEqDiff, Bool.or_false, Bool.false_or, Bool.or_true, Bool.true_or, Bool.false_eq_true, if_true, if_false, List.cons_append, List.nil_append, List.append_nil]
      dsimp only at *
      by_cases hlj : j < ms.length
      · have hu := Update_ok l ms[j] true false false false hok (hms _ (List.getElem_mem hlj))
        rw [List.drop_eq_getElem_cons hlj, run] at hR
        have hlenT : True := trivial
        by_cases h0 : (upd l ms[j]).1 = 0
        · have hok2 := upd_okR h0 hok
          unfold updV at hu
          rw [if_pos h0] at hu hR
          generalize (upd l ms[j]).2 = O2 at *
          repeat' (first
    | (refine awp_seqK (fun K hK => ?_))
    | (refine Hide.go (by assumption) ?_)
    | ((first | refine zqd ?_ ?_ | refine zqn ?_ ?_ | refine zgd ?_ ?_ | refine zgn ?_ ?_ | refine zdd ?_ ?_ | refine zdn ?_ ?_) <;> (intro h; first | (exfalso; omega) | (simp only [h, decide_true, decide_false, not_false_eq_true]) | skip))
    | (refine end_ret [] ?_; simp [go_sem, hlj, eM, hlenT])
    | (refine stepK_is rfl (hu) (by simp) ?_)
    | (refine dstepK_is rfl (hu) rfl (by simp) ?_)
    | (refine stepK_is ?hl (hu) (by simp) ?_; (case hl => (simp [go_sem, hlj, eM, hlenT]; done)))
    | (refine (hAA.next ((j + 1, O2)) (Le.renSub [(85, 900), (900, 85)] [(900, 85), (85, 900)] (by simp [go_sem]) (by simp [go_sem]) (Le.sub4 rfl (by simp [go_sem]))) (by (try dsimp only); omega) ?_))
    | ((fail_if_success with_reducible (refine Owe.mk ?_)); (simp (disch := omega) [go_sem, hlj, eM, hlenT]))
    | (refine And.intro (by omega) ?_)
    | ((first | refine zqm ?_ ?_ | refine zgm ?_ ?_ | refine zdm ?_ ?_) <;> (intro h; simp only [h, Bool.not_true, Bool.not_false]))
    | ((first | refine zqs ?_ ?_ | refine zgs ?_ ?_ | refine zds ?_ ?_) <;> (intro h; first | (exfalso; simp at h; omega) | ((try simp only [h]); (try simp at h))))
    | fail)
          all_goals (first | omega | skip)
          exact ⟨⟨hlj, hok2, hR⟩⟩
        · unfold updV at hu
          rw [if_neg h0] at hu hR
          simp only [updV, if_neg h0] at hR
          generalize (upd l ms[j]).1 = e at *
          subst hR
          repeat' (first
    | (refine awp_seqK (fun K hK => ?_))
    | (refine Hide.go (by assumption) ?_)
    | ((first | refine zqd ?_ ?_ | refine zqn ?_ ?_ | refine zgd ?_ ?_ | refine zgn ?_ ?_ | refine zdd ?_ ?_ | refine zdn ?_ ?_) <;> (intro h; first | (exfalso; omega) | (simp only [h, decide_true, decide_false, not_false_eq_true]) | skip))
    | (refine end_ret [] ?_; simp [go_sem, hlj, eM, hlenT, h0])
    | (refine stepK_is rfl (hu) (by simp) ?_)
    | (refine dstepK_is rfl (hu) rfl (by simp) ?_)
    | (refine stepK_is ?hl (hu) (by simp) ?_; (case hl => (simp [go_sem, hlj, eM, hlenT, h0]; done)))
    | ((fail_if_success with_reducible (refine Owe.mk ?_)); (simp (disch := omega) [go_sem, hlj, eM, hlenT, h0]))
    | (refine And.intro (by omega) ?_)
    | ((first | refine zqm ?_ ?_ | refine zgm ?_ ?_ | refine zdm ?_ ?_) <;> (intro h; simp only [h, Bool.not_true, Bool.not_false]))
    | ((first | refine zqs ?_ ?_ | refine zgs ?_ ?_ | refine zds ?_ ?_) <;> (intro h; first | (exfalso; simp at h; omega) | ((try simp only [h]); (try simp at h))))
    | fail)
      · obtain rfl : j = ms.length := by omega
        rw [List.drop_length] at hR
        simp only [run, updV, if_true] at hR
        subst hR
        repeat' (first
    | (refine awp_seqK (fun K hK => ?_))
    | (refine Hide.go (by assumption) ?_)
    | ((first | refine zqd ?_ ?_ | refine zqn ?_ ?_ | refine zgd ?_ ?_ | refine zgn ?_ ?_ | refine zdd ?_ ?_ | refine zdn ?_ ?_) <;> (intro h; first | (exfalso; omega) | (simp only [h, decide_true, decide_false, not_false_eq_true]) | skip))
    | (refine end_ret [] ?_; simp [go_sem])
    | ((fail_if_success with_reducible (refine Owe.mk ?_)); (simp (disch := omega) [go_sem]))
    | (refine And.intro (by omega) ?_)
    | ((first | refine zqm ?_ ?_ | refine zgm ?_ ?_ | refine zdm ?_ ?_) <;> (intro h; simp only [h, Bool.not_true, Bool.not_false]))
    | ((first | refine zqs ?_ ?_ | refine zgs ?_ ?_ | refine zds ?_ ?_) <;> (intro h; first | (exfalso; simp at h; omega) | ((try simp only [h]); (try simp at h))))
    | fail)
theorem refUpdate_ok' (l : List Rt) (s : List Sc) (le fu le' fu' : Bool) (hl : ∀ r ∈ l, r.ok) (hs : ∀ x ∈ s, x.ok) : ACall Try.prog 26 [.list le fu (l.map eRt), .list le' fu' (s.map eSc)] (fun r => r = updV (upd l s)) := by
  have h := refUpdate_ok l s le fu le' fu' hl hs
  rwa [rupd_eq] at h
theorem refAll_ok (p : Int) (ms : List (List Sc)) (le fu : Bool) (hp : (-9223372036854775808 ≤ p ∧ p ≤ 9223372036854775807)) (hms : ∀ m ∈ ms, ∀ x ∈ m, x.ok) (hlm : ms.length ≤ 1000000) : ACall Try.prog 10 [nt .i64 p, .list le fu (ms.map eM)] (fun r => r = updV (allQ p ms)) := by
  have hw := whole1000
  unfold allQ
  by_cases h : p < 1 ∨ 16 < p
  · rw [if_pos h]
    simp only [updV]
    by_cases h1 : p < 1
    · refine acall_of_awp Try.func10 Try.call10 rfl (by simp [Try.ntmps10]) ?_; simp only [Try.ntmps10, Try.results10]
      repeat' (first
    | (refine awp_seqK (fun K hK => ?_))
    | (refine Hide.go (by assumption) ?_)
    | ((first | refine zqd ?_ ?_ | refine zqn ?_ ?_ | refine zgd ?_ ?_ | refine zgn ?_ ?_ | refine zdd ?_ ?_ | refine zdn ?_ ?_) <;> (intro h; first | (exfalso; omega) | (simp only [h, decide_true, decide_false, not_false_eq_true]) | skip))
    | (refine end_ret [] ?_; simp [go_sem, h1])
    | ((fail_if_success with_reducible (refine Owe.mk ?_)); (simp (disch := omega) [go_sem, h1]))
    | (refine And.intro (by omega) ?_)
    | ((first | refine zqm ?_ ?_ | refine zgm ?_ ?_ | refine zdm ?_ ?_) <;> (intro h; simp only [h, Bool.not_true, Bool.not_false]))
    | ((first | refine zqs ?_ ?_ | refine zgs ?_ ?_ | refine zds ?_ ?_) <;> (intro h; first | (exfalso; simp at h; omega) | ((try simp only [h]); (try simp at h))))
    | fail)
    · have h2 : 16 < p := by omega
      refine acall_of_awp Try.func10 Try.call10 rfl (by simp [Try.ntmps10]) ?_; simp only [Try.ntmps10, Try.results10]
      repeat' (first
    | (refine awp_seqK (fun K hK => ?_))
    | (refine Hide.go (by assumption) ?_)
    | ((first | refine zqd ?_ ?_ | refine zqn ?_ ?_ | refine zgd ?_ ?_ | refine zgn ?_ ?_ | refine zdd ?_ ?_ | refine zdn ?_ ?_) <;> (intro h; first | (exfalso; omega) | (simp only [h, decide_true, decide_false, not_false_eq_true]) | skip))
    | (refine end_ret [] ?_; simp [go_sem, h1, h2])
    | ((fail_if_success with_reducible (refine Owe.mk ?_)); (simp (disch := omega) [go_sem, h1, h2]))
    | (refine And.intro (by omega) ?_)
    | ((first | refine zqm ?_ ?_ | refine zgm ?_ ?_ | refine zdm ?_ ?_) <;> (intro h; simp only [h, Bool.not_true, Bool.not_false]))
    | ((first | refine zqs ?_ ?_ | refine zgs ?_ ?_ | refine zds ?_ ?_) <;> (intro h; first | (exfalso; simp at h; omega) | ((try simp only [h]); (try simp at h))))
    | fail)
  · rw [if_neg h]
    obtain ⟨n, rfl⟩ : ∃ n : Nat, p = n := ⟨p.toNat, by omega⟩
    rw [Int.toNat_natCast]
    generalize hR : updV (run (inis n) ms) = R
    refine acall_of_awp Try.func10 Try.call10 rfl (by simp [Try.ntmps10]) ?_; simp only [Try.ntmps10, Try.results10]
    repeat' (first
    | (refine awp_seqK (fun K hK => ?_))
    | (refine Hide.go (by assumption) ?_)
    | ((first | refine zqd ?_ ?_ | refine zqn ?_ ?_ | refine zgd ?_ ?_ | refine zgn ?_ ?_ | refine zdd ?_ ?_ | refine zdn ?_ ?_) <;> (intro h; first | (exfalso; omega) | (simp only [h, decide_true, decide_false, not_false_eq_true]) | skip))
    | (refine end_ret [] ?_; simp [go_sem])
    | ((fail_if_success with_reducible (refine Owe.mk ?_)); (simp (disch := omega) [go_sem]))
    | (refine And.intro (by omega) ?_)
    | ((first | refine zqm ?_ ?_ | refine zgm ?_ ?_ | refine zdm ?_ ?_) <;> (intro h; simp only [h, Bool.not_true, Bool.not_false]))
    | ((first | refine zqs ?_ ?_ | refine zgs ?_ ?_ | refine zds ?_ ?_) <;> (intro h; first | (exfalso; simp at h; omega) | ((try simp only [h]); (try simp at h))))
    | fail)
    all_goals (first | omega | skip)
    refine awp_for [1, 17] [900] (fun i : Nat => [(18, nt .i64 i), (6, .ref 900 0 i)]) (fun i : Nat => [(900, ⟨true, false, false, 4, (inis i).map eRt, 0⟩)]) (fun i : Nat => n - i) (fun i : Nat => i ≤ n) (0) (by refine Le.trans ?_ (Le.nil (i := 6) (T := 900) (es := 4) rfl); exact (Le.sub4 rfl (by simp [go_sem, inis_zero, List.map_nil]))) ⟨?_⟩ ?_
    · exact Nat.zero_le _
    intro i hi AA hAA; simp only [Go.Ab.keepT_nil, Go.Ab.keepT_cons, Go.Ab.dropO_nil, Go.Ab.dropO_cons, List.contains_cons, List.contains_nil, List.elem_cons, List.elem_nil, Nat.reduceBEq, beq_self_eq_true, Nat.reduceEqDiff, Bool.or_false, Bool.false_or, Bool.or_true, Bool.true_or, Bool.false_eq_true, if_true, if_false, List.cons_append, List.nil_append, List.append_nil]
    have hln := inis_len i
    by_cases hlt : i < n
    · have hnx := ini_next i
      have hen : eRt (ini i) = .agg [nt .i64 i, nt .i64 1000, nt .i64 1, nt .i64 0] := rfl
      generalize inis i = O at *
      generalize ini i = W at *
      repeat' (first
    | (refine awp_seqK (fun K hK => ?_))
    | (refine Hide.go (by assumption) ?_)
    | ((first | refine zqd ?_ ?_ | refine zqn ?_ ?_ | refine zgd ?_ ?_ | refine zgn ?_ ?_ | refine zdd ?_ ?_ | refine zdn ?_ ?_) <;> (intro h; first | (exfalso; omega) | (simp only [h, decide_true, decide_false, not_false_eq_true]) | skip))
    | (refine end_ret [] ?_; simp [go_sem, hln])
    | (refine stepK_is rfl (hw) (by simp) ?_)
    | (refine dstepK_is rfl (hw) rfl (by simp) ?_)
    | (refine (hAA.next (i + 1) (Le.sub4 rfl (by simp [go_sem, hnx, hen, hln])) (by (try dsimp only); omega) ?_))
    | ((fail_if_success with_reducible (refine Owe.mk ?_)); (simp (disch := omega) [go_sem, hln]))
    | (refine And.intro (by omega) ?_)
    | ((first | refine zqm ?_ ?_ | refine zgm ?_ ?_ | refine zdm ?_ ?_) <;> (intro h; simp only [h, Bool.not_true, Bool.not_false]))
    | ((first | refine zqs ?_ ?_ | refine zgs ?_ ?_ | refine zds ?_ ?_) <;> (intro h; first | (exfalso; simp at h; omega) | ((try simp only [h]); (try simp at h))))
    | fail)
      all_goals (first | omega | skip)
      exact ⟨hlt⟩
    · obtain rfl : i = n := by omega
      have hok := ini_ok i (by omega)
      generalize inis i = O at *
      subst hln
      repeat' (first
    | (refine awp_seqK (fun K hK => ?_))
    | (refine Hide.go (by assumption) ?_)
    | ((first | refine zqd ?_ ?_ | refine zqn ?_ ?_ | refine zgd ?_ ?_ | refine zgn ?_ ?_ | refine zdd ?_ ?_ | refine zdn ?_ ?_) <;> (intro h; first | (exfalso; omega) | (simp only [h, decide_true, decide_false, not_false_eq_true]) | skip))
    | (refine end_ret [] ?_; simp [go_sem])
    | ((fail_if_success with_reducible (refine Owe.mk ?_)); (simp (disch := omega) [go_sem]))
    | (refine And.intro (by omega) ?_)
    | ((first | refine zqm ?_ ?_ | refine zgm ?_ ?_ | refine zdm ?_ ?_) <;> (intro h; simp only [h, Bool.not_true, Bool.not_false]))
    | ((first | refine zqs ?_ ?_ | refine zgs ?_ ?_ | refine zds ?_ ?_) <;> (intro h; first | (exfalso; simp at h; omega) | ((try simp only [h]); (try simp at h))))
    | fail)
      refine awp_for [1, 29] [900] (fun x : Nat × List Rt => [(30, nt .i64 x.1), (6, .ref 900 0 x.2.length)]) (fun x : Nat × List Rt => [(900, ⟨true, false, false, 4, x.2.map eRt, 0⟩)]) (fun x : Nat × List Rt => ms.length - x.1) (fun x : Nat × List Rt => x.1 ≤ ms.length ∧ (∀ r ∈ x.2, r.ok) ∧ updV (run x.2 (ms.drop x.1)) = R) ((0, O)) (Le.sub4 rfl (by simp [go_sem])) ⟨?_⟩ ?_
      · exact ⟨Nat.zero_le _, hok, hR⟩
      clear hok hR
      intro ⟨j, l⟩ ⟨hj, hok, hR⟩ AA hAA; simp only [Go.Ab.keepT_nil, Go.Ab.keepT_cons, Go.Ab.dropO_nil, Go.Ab.dropO_cons, List.contains_cons, List.contains_nil, List.elem_cons, List.elem_nil, Nat.reduceBEq, beq_self_eq_true, Nat.reduceEqDiff, Bool.or_false, Bool.false_or, Bool.or_true, Bool.true_or, Bool.false_eq_true, if_true, if_false, List.cons_append, List.nil_append, List.append_nil]
      dsimp only at *
      by_cases hlj : j < ms.length
      · have hu := refUpdate_ok' l ms[j] true false false false hok (hms _ (List.getElem_mem hlj))
        rw [List.drop_eq_getElem_cons hlj, run] at hR
        have hlenT : True := trivial
        by_cases h0 : (upd l ms[j]).1 = 0
        · have hok2 := upd_okR h0 hok
          unfold updV at hu
          rw [if_pos h0] at hu hR
          generalize (upd l ms[j]).2 = O2 at *
          repeat' (first
    | (refine awp_seqK (fun K hK => ?_))
    | (refine Hide.go (by assumption) ?_)
    | ((first | refine zqd ?_ ?_ | refine zqn ?_ ?_ | refine zgd ?_ ?_ | refine zgn ?_ ?_ | refine zdd ?_ ?_ | refine zdn ?_ ?_) <;> (intro h; first | (exfalso; omega) | (simp only [h, decide_true, decide_false, not_false_eq_true]) | skip))
    | (refine end_ret [] ?_; simp [go_sem, hlj, eM, hlenT])
    | (refine stepK_is rfl (hu) (by simp) ?_)
    | (refine dstepK_is rfl (hu) rfl (by simp) ?_)
    | (refine stepK_is ?hl (hu) (by simp) ?_; (case hl => (simp [go_sem, hlj, eM, hlenT]; done)))
    | (refine (hAA.next ((j + 1, O2)) (Le.renSub [(87, 900), (900, 87)] [(900, 87), (87, 900)] (by simp [go_sem]) (by simp [go_sem]) (Le.sub4 rfl (by simp [go_sem]))) (by (try dsimp only); omega) ?_))
    | ((fail_if_success with_reducible (refine Owe.mk ?_)); (simp (disch := omega) [go_sem, hlj, eM, hlenT]))
    | (refine And.intro (by omega) ?_)
    | ((first | refine zqm ?_ ?_ | refine zgm ?_ ?_ | refine zdm ?_ ?_) <;> (intro h; simp only [h, Bool.not_true, Bool.not_false]))
    | ((first | refine zqs ?_ ?_ | refine zgs ?_ ?_ | refine zds ?_ ?_) <;> (intro h; first | (exfalso; simp at h; omega) | ((try simp only [h]); (try simp at h))))
    | fail)
          all_goals (first | omega | skip)
          exact ⟨⟨hlj, hok2, hR⟩⟩
        · unfold updV at hu
          rw [if_neg h0] at hu hR
          simp only [updV, if_neg h0] at hR
          generalize (upd l ms[j]).1 = e at *
          subst hR
          repeat' (first
    | (refine awp_seqK (fun K hK => ?_))
    | (refine Hide.go (by assumption) ?_)
    | ((first | refine zqd ?_ ?_ | refine zqn ?_ ?_ | refine zgd ?_ ?_ | refine zgn ?_ ?_ | refine zdd ?_ ?_ | refine zdn ?_ ?_) <;> (intro h; first | (exfalso; omega) | (simp only [h, decide_true, decide_false, not_false_eq_true]) | skip))
    | (refine end_ret [] ?_; simp [go_sem, hlj, eM, hlenT, h0])
    | (refine stepK_is rfl (hu) (by simp) ?_)
    | (refine dstepK_is rfl (hu) rfl (by simp) ?_)
    | (refine stepK_is ?hl (hu) (by simp) ?_; (case hl => (simp [go_sem, hlj, eM, hlenT, h0]; done)))
    | ((fail_if_success with_reducible (refine Owe.mk ?_)); (simp (disch := omega) [go_sem, hlj, eM, hlenT, h0]))
    | (refine And.intro (by omega) ?_)
    | ((first | refine zqm ?_ ?_ | refine zgm ?_ ?_ | refine zdm ?_ ?_) <;> (intro h; simp only [h, Bool.not_true, Bool.not_false]))
    | ((first | refine zqs ?_ ?_ | refine zgs ?_ ?_ | refine zds ?_ ?_) <;> (intro h; first | (exfalso; simp at h; omega) | ((try simp only [h]); (try simp at h))))
    | fail)
      · obtain rfl : j = ms.length := by omega
        rw [List.drop_length] at hR
        simp only [run, updV, if_true] at hR
        subst hR
        repeat' (first
    | (refine awp_seqK (fun K hK => ?_))
    | (refine Hide.go (by assumption) ?_)
    | ((first | refine zqd ?_ ?_ | refine zqn ?_ ?_ | refine zgd ?_ ?_ | refine zgn ?_ ?_ | refine zdd ?_ ?_ | refine zdn ?_ ?_) <;> (intro h; first | (exfalso; omega) | (simp only [h, decide_true, decide_false, not_false_eq_true]) | skip))
    | (refine end_ret [] ?_; simp [go_sem])
    | ((fail_if_success with_reducible (refine Owe.mk ?_)); (simp (disch := omega) [go_sem]))
    | (refine And.intro (by omega) ?_)
    | ((first | refine zqm ?_ ?_ | refine zgm ?_ ?_ | refine zdm ?_ ?_) <;> (intro h; simp only [h, Bool.not_true, Bool.not_false]))
    | ((first | refine zqs ?_ ?_ | refine zgs ?_ ?_ | refine zds ?_ ?_) <;> (intro h; first | (exfalso; simp at h; omega) | ((try simp only [h]); (try simp at h))))
    | fail)
end Go.Proofs.Ytfccgdgippmpgaa
