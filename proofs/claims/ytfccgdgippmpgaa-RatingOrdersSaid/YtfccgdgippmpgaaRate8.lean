/-
  Rate8: the reference's Check; scores.
-/
import Derived.Test.YtfccgdgippmpgaaRate7
namespace Go.Proofs.Ytfccgdgippmpgaa
open Go.Ab
set_option linter.unusedSimpArgs false
set_option maxRecDepth 100000
set_option maxHeartbeats 4000000
theorem refCheck_ok (l : List Rt) (le fu : Bool) (hl : ∀ r ∈ l, r.ok) : ACall Try.prog 21 [.list le fu (l.map eRt)] (fun x => x = nt .i64 (chk l)) := by
  by_cases h16 : 16 < l.length
  · have e : chk l = 2 := by simp [chk, h16]
    rw [e]
    have h16' : (16 : Int) < l.length := by omega
    refine acall_of_awp Try.func21 Try.call21 rfl (by simp [Try.ntmps21]) ?_; simp only [Try.ntmps21, Try.results21]
    repeat' (first
    | (refine awp_seqK (fun K hK => ?_))
    | (refine Hide.go (by assumption) ?_)
    | ((first | refine zqd ?_ ?_ | refine zqn ?_ ?_ | refine zgd ?_ ?_ | refine zgn ?_ ?_ | refine zdd ?_ ?_ | refine zdn ?_ ?_) <;> (intro h; first | (exfalso; omega) | (simp only [h, decide_true, decide_false, not_false_eq_true]) | skip))
    | (refine end_ret [] ?_; simp [go_sem])
    | ((fail_if_success with_reducible (refine Owe.mk ?_)); (simp (disch := omega) [go_sem]))
    | (refine And.intro (by omega) ?_)
    | (refine awp_draw 12 mix (by decide +kernel) ?_)
    | (refine nbI fun bq => ?_)
    | ((first | refine zqm ?_ ?_ | refine zgm ?_ ?_ | refine zdm ?_ ?_) <;> (intro h; simp only [h, Bool.not_true, Bool.not_false]))
    | ((first | refine zqs ?_ ?_ | refine zgs ?_ ?_ | refine zds ?_ ?_) <;> (intro h; first | (exfalso; simp at h; omega) | ((try simp only [h]); (try simp at h))))
    | fail)
  · generalize hR : chk l = R
    simp only [chk, h16, if_false] at hR
    refine acall_of_awp Try.func21 Try.call21 rfl (by simp [Try.ntmps21]) ?_; simp only [Try.ntmps21, Try.results21]
    repeat' (first
    | (refine awp_seqK (fun K hK => ?_))
    | (refine Hide.go (by assumption) ?_)
    | ((first | refine zqd ?_ ?_ | refine zqn ?_ ?_ | refine zgd ?_ ?_ | refine zgn ?_ ?_ | refine zdd ?_ ?_ | refine zdn ?_ ?_) <;> (intro h; first | (exfalso; omega) | (simp only [h, decide_true, decide_false, not_false_eq_true]) | skip))
    | (refine end_ret [] ?_; simp [go_sem])
    | ((fail_if_success with_reducible (refine Owe.mk ?_)); (simp (disch := omega) [go_sem]))
    | (refine And.intro (by omega) ?_)
    | (refine awp_draw 12 mix (by decide +kernel) ?_)
    | (refine nbI fun bq => ?_)
    | ((first | refine zqm ?_ ?_ | refine zgm ?_ ?_ | refine zdm ?_ ?_) <;> (intro h; simp only [h, Bool.not_true, Bool.not_false]))
    | ((first | refine zqs ?_ ?_ | refine zgs ?_ ?_ | refine zds ?_ ?_) <;> (intro h; first | (exfalso; simp at h; omega) | ((try simp only [h]); (try simp at h))))
    | fail)
    refine awp_for [0, 9] [] (fun i : Nat => [(10, nt .i64 i)]) (fun i : Nat => []) (fun i : Nat => l.length - i) (fun i : Nat => i ≤ l.length ∧ (l.take i).all rgt = true) (0) (Le.sub4 rfl (by simp [go_sem])) ⟨?_⟩ ?_
    · exact ⟨Nat.zero_le _, rfl⟩
    intro i ⟨hi, hall⟩ AA hAA; simp only [Go.Ab.keepT_nil, Go.Ab.keepT_cons, Go.Ab.dropO_nil, Go.Ab.dropO_cons, List.contains_cons, List.contains_nil, List.elem_cons, List.elem_nil, Nat.reduceBEq, beq_self_eq_true, Nat.reduceEqDiff, Bool.or_false, Bool.false_or, Bool.or_true, Bool.true_or, Bool.false_eq_true, if_true, if_false, List.cons_append, List.nil_append, List.append_nil]
    by_cases hlt : i < l.length
    · have hu := refRight_ok l[i] (hl _ (List.getElem_mem hlt))
      have hn : (l.take (i + 1)).all rgt = rgt l[i] := by rw [take_next hlt, List.all_append, hall]; simp
      unfold eRt at hu
      cases hq : rgt l[i] with
      | true =>
        rw [hq] at hu hn
        repeat' (first
    | (refine awp_seqK (fun K hK => ?_))
    | (refine Hide.go (by assumption) ?_)
    | ((first | refine zqd ?_ ?_ | refine zqn ?_ ?_ | refine zgd ?_ ?_ | refine zgn ?_ ?_ | refine zdd ?_ ?_ | refine zdn ?_ ?_) <;> (intro h; first | (exfalso; omega) | (simp only [h, decide_true, decide_false, not_false_eq_true]) | skip))
    | (refine end_ret [] ?_; simp [go_sem, hlt, eRt])
    | (refine stepK_is rfl (hu) (by simp) ?_)
    | (refine dstepK_is rfl (hu) rfl (by simp) ?_)
    | (refine (hAA.next (i + 1) (Le.sub4 rfl (by simp [go_sem, eRt])) (by (try dsimp only); omega) ?_))
    | ((fail_if_success with_reducible (refine Owe.mk ?_)); (simp (disch := omega) [go_sem, hlt, eRt]))
    | (refine And.intro (by omega) ?_)
    | (refine awp_draw 12 mix (by decide +kernel) ?_)
    | (refine nbI fun bq => ?_)
    | ((first | refine zqm ?_ ?_ | refine zgm ?_ ?_ | refine zdm ?_ ?_) <;> (intro h; simp only [h, Bool.not_true, Bool.not_false]))
    | ((first | refine zqs ?_ ?_ | refine zgs ?_ ?_ | refine zds ?_ ?_) <;> (intro h; first | (exfalso; simp at h; omega) | ((try simp only [h]); (try simp at h))))
    | fail)
        exact ⟨⟨hlt, hn⟩⟩
      | false =>
        rw [hq] at hu
        have e1 : l.all rgt = false := by rw [List.all_eq_false]; exact ⟨l[i], List.getElem_mem hlt, by simp [hq]⟩
        rw [e1] at hR
        simp at hR
        subst hR
        repeat' (first
    | (refine awp_seqK (fun K hK => ?_))
    | (refine Hide.go (by assumption) ?_)
    | ((first | refine zqd ?_ ?_ | refine zqn ?_ ?_ | refine zgd ?_ ?_ | refine zgn ?_ ?_ | refine zdd ?_ ?_ | refine zdn ?_ ?_) <;> (intro h; first | (exfalso; omega) | (simp only [h, decide_true, decide_false, not_false_eq_true]) | skip))
    | (refine end_ret [] ?_; simp [go_sem, hlt, eRt])
    | (refine stepK_is rfl (hu) (by simp) ?_)
    | (refine dstepK_is rfl (hu) rfl (by simp) ?_)
    | ((fail_if_success with_reducible (refine Owe.mk ?_)); (simp (disch := omega) [go_sem, hlt, eRt]))
    | (refine And.intro (by omega) ?_)
    | (refine awp_draw 12 mix (by decide +kernel) ?_)
    | (refine nbI fun bq => ?_)
    | ((first | refine zqm ?_ ?_ | refine zgm ?_ ?_ | refine zdm ?_ ?_) <;> (intro h; simp only [h, Bool.not_true, Bool.not_false]))
    | ((first | refine zqs ?_ ?_ | refine zgs ?_ ?_ | refine zds ?_ ?_) <;> (intro h; first | (exfalso; simp at h; omega) | ((try simp only [h]); (try simp at h))))
    | fail)
    · obtain rfl : i = l.length := by omega
      rw [List.take_length] at hall
      rw [hall] at hR
      simp only [if_true] at hR
      repeat' (first
    | (refine awp_seqK (fun K hK => ?_))
    | (refine Hide.go (by assumption) ?_)
    | ((first | refine zqd ?_ ?_ | refine zqn ?_ ?_ | refine zgd ?_ ?_ | refine zgn ?_ ?_ | refine zdd ?_ ?_ | refine zdn ?_ ?_) <;> (intro h; first | (exfalso; omega) | (simp only [h, decide_true, decide_false, not_false_eq_true]) | skip))
    | (refine end_ret [] ?_; simp [go_sem])
    | ((fail_if_success with_reducible (refine Owe.mk ?_)); (simp (disch := omega) [go_sem]))
    | (refine And.intro (by omega) ?_)
    | (refine awp_draw 12 mix (by decide +kernel) ?_)
    | (refine nbI fun bq => ?_)
    | ((first | refine zqm ?_ ?_ | refine zgm ?_ ?_ | refine zdm ?_ ?_) <;> (intro h; simp only [h, Bool.not_true, Bool.not_false]))
    | ((first | refine zqs ?_ ?_ | refine zgs ?_ ?_ | refine zds ?_ ?_) <;> (intro h; first | (exfalso; simp at h; omega) | ((try simp only [h]); (try simp at h))))
    | fail)
      refine awp_for [0] [] (fun i : Nat => [(4, nt .i64 i)]) (fun i : Nat => []) (fun i : Nat => l.length - i) (fun i : Nat => 1 ≤ i ∧ i ≤ max l.length 1 ∧ asc l (i - 1) = true) (1) (Le.sub4 rfl (by simp [go_sem])) ⟨?_⟩ ?_
      · exact ⟨Nat.le_refl _, by omega, rfl⟩
      intro i ⟨hi1, hi2, ha⟩ AA hAA; simp only [Go.Ab.keepT_nil, Go.Ab.keepT_cons, Go.Ab.dropO_nil, Go.Ab.dropO_cons, List.contains_cons, List.contains_nil, List.elem_cons, List.elem_nil, Nat.reduceBEq, beq_self_eq_true, Nat.reduceEqDiff, Bool.or_false, Bool.false_or, Bool.or_true, Bool.true_or, Bool.false_eq_true, if_true, if_false, List.cons_append, List.nil_append, List.append_nil]
      obtain ⟨j, rfl⟩ : ∃ j, i = j + 1 := ⟨i - 1, by omega⟩
      simp only [Nat.add_sub_cancel] at ha
      by_cases hlt : j + 1 < l.length
      · have hj : j < l.length := by omega
        by_cases hp : l[j].p < l[j + 1].p
        · have hn := asc_next hlt
          rw [ha, Bool.true_and] at hn
          repeat' (first
    | (refine awp_seqK (fun K hK => ?_))
    | (refine Hide.go (by assumption) ?_)
    | ((first | refine zqd ?_ ?_ | refine zqn ?_ ?_ | refine zgd ?_ ?_ | refine zgn ?_ ?_ | refine zdd ?_ ?_ | refine zdn ?_ ?_) <;> (intro h; first | (exfalso; omega) | (simp only [h, decide_true, decide_false, not_false_eq_true]) | skip))
    | (refine end_ret [] ?_; simp [go_sem, hlt, hj, eRt])
    | (refine (hAA.next (j + 1 + 1) (Le.sub4 rfl (by simp [go_sem, eRt])) (by (try dsimp only); omega) ?_))
    | ((fail_if_success with_reducible (refine Owe.mk ?_)); (simp (disch := omega) [go_sem, hlt, hj, eRt]))
    | (refine And.intro (by omega) ?_)
    | (refine awp_draw 12 mix (by decide +kernel) ?_)
    | (refine nbI fun bq => ?_)
    | ((first | refine zqm ?_ ?_ | refine zgm ?_ ?_ | refine zdm ?_ ?_) <;> (intro h; simp only [h, Bool.not_true, Bool.not_false]))
    | ((first | refine zqs ?_ ?_ | refine zgs ?_ ?_ | refine zds ?_ ?_) <;> (intro h; first | (exfalso; simp at h; omega) | ((try simp only [h]); (try simp at h))))
    | fail)
          exact ⟨⟨by omega, by omega, by simp only [Nat.add_sub_cancel]; rw [hn]; exact decide_eq_true hp⟩⟩
        · have hf := asc_false hlt hp (show j < l.length - 1 by omega)
          rw [hf] at hR
          simp at hR
          subst hR
          repeat' (first
    | (refine awp_seqK (fun K hK => ?_))
    | (refine Hide.go (by assumption) ?_)
    | ((first | refine zqd ?_ ?_ | refine zqn ?_ ?_ | refine zgd ?_ ?_ | refine zgn ?_ ?_ | refine zdd ?_ ?_ | refine zdn ?_ ?_) <;> (intro h; first | (exfalso; omega) | (simp only [h, decide_true, decide_false, not_false_eq_true]) | skip))
    | (refine end_ret [] ?_; simp [go_sem, hlt, hj, eRt])
    | ((fail_if_success with_reducible (refine Owe.mk ?_)); (simp (disch := omega) [go_sem, hlt, hj, eRt]))
    | (refine And.intro (by omega) ?_)
    | (refine awp_draw 12 mix (by decide +kernel) ?_)
    | (refine nbI fun bq => ?_)
    | ((first | refine zqm ?_ ?_ | refine zgm ?_ ?_ | refine zdm ?_ ?_) <;> (intro h; simp only [h, Bool.not_true, Bool.not_false]))
    | ((first | refine zqs ?_ ?_ | refine zgs ?_ ?_ | refine zds ?_ ?_) <;> (intro h; first | (exfalso; simp at h; omega) | ((try simp only [h]); (try simp at h))))
    | fail)
      · have e : l.length - 1 = j ∨ (l.length = 0 ∧ j = 0) := by omega
        have hf : asc l (l.length - 1) = true := by
          rcases e with e | ⟨e, rfl⟩
          · rw [e]; exact ha
          · rw [e]; rfl
        rw [hf] at hR
        simp at hR
        subst hR
        repeat' (first
    | (refine awp_seqK (fun K hK => ?_))
    | (refine Hide.go (by assumption) ?_)
    | ((first | refine zqd ?_ ?_ | refine zqn ?_ ?_ | refine zgd ?_ ?_ | refine zgn ?_ ?_ | refine zdd ?_ ?_ | refine zdn ?_ ?_) <;> (intro h; first | (exfalso; omega) | (simp only [h, decide_true, decide_false, not_false_eq_true]) | skip))
    | (refine end_ret [] ?_; simp [go_sem, hlt])
    | ((fail_if_success with_reducible (refine Owe.mk ?_)); (simp (disch := omega) [go_sem, hlt]))
    | (refine And.intro (by omega) ?_)
    | (refine awp_draw 12 mix (by decide +kernel) ?_)
    | (refine nbI fun bq => ?_)
    | ((first | refine zqm ?_ ?_ | refine zgm ?_ ?_ | refine zdm ?_ ?_) <;> (intro h; simp only [h, Bool.not_true, Bool.not_false]))
    | ((first | refine zqs ?_ ?_ | refine zgs ?_ ?_ | refine zds ?_ ?_) <;> (intro h; first | (exfalso; simp at h; omega) | ((try simp only [h]); (try simp at h))))
    | fail)
structure Sc where
  p : Int
  n : Int
  d : Int
def eSc (s : Sc) : AV := .agg [nt .i64 s.p, nt .i64 s.n, nt .i64 s.d]
structure Sc.ok (r : Sc) : Prop where
  p : (-9223372036854775808 ≤ r.p ∧ r.p ≤ 9223372036854775807)
  n : (-9223372036854775808 ≤ r.n ∧ r.n ≤ 9223372036854775807)
  d : (-9223372036854775808 ≤ r.d ∧ r.d ≤ 9223372036854775807)
/-- The points of a score in hundredths. -/
def Sc.c (s : Sc) : Int := (cts s.n s.d).1
def ptOk (s : Sc) : Bool := (cts s.n s.d).2 && decide (0 ≤ s.c) && decide (s.c ≤ 100)
theorem ptOk_iff (s : Sc) : ptOk s = true ↔ ((cts s.n s.d).2 = true ∧ 0 ≤ (cts s.n s.d).1 ∧ (cts s.n s.d).1 ≤ 100) := by
  show ((cts s.n s.d).2 && decide (0 ≤ (cts s.n s.d).1) && decide ((cts s.n s.d).1 ≤ 100)) = true ↔ _
  simp [and_assoc]
def scB (s : List Sc) : Bool := decide (2 ≤ s.length ∧ s.length ≤ 4 ∧ (∀ x ∈ s, ptOk x = true) ∧ (s.map (·.p)).Nodup)
/-- The map of the players that were seen. -/
def seenX (ps : List Int) : List AV := ps.map fun p => .tup [.sc (.int .i64 p), .sc (.bool true)]
theorem seen_get (k : Int) : ∀ (ps : List Int) (n : Nat), (k ∈ ps → ∃ j, mget (.int .i64 k) (seenX ps) n = some (some (j, .sc (.bool true)))) ∧ (k ∉ ps → mget (.int .i64 k) (seenX ps) n = some none)
  | [], n => by simp [seenX, mget]
  | p :: ps, n => by
    obtain ⟨h1, h2⟩ := seen_get k ps (n + 1)
    have hk : kEq (.int .i64 k) (.int .i64 p) = some (k == p) := by simp [kEq]
    by_cases e : k = p
    · subst e
      refine ⟨fun _ => ⟨n, ?_⟩, fun h => absurd (List.mem_cons_self) h⟩
      simp [seenX, mget, hk]
    · have hb : (k == p) = false := by simpa using e
      rw [hb] at hk
      have e2 : mget (.int .i64 k) (seenX (p :: ps)) n = mget (.int .i64 k) (seenX ps) (n + 1) := by
        simp [seenX, mget, hk]
      rw [e2]
      exact ⟨fun h => h1 (by simpa [e] using h), fun h => h2 (by simpa [e] using h)⟩
theorem seen_put {k : Int} {ps : List Int} (h : k ∉ ps) : mput (.int .i64 k) (.sc (.bool true)) (seenX ps) = some (seenX (ps ++ [k])) := by
  unfold mput
  rw [(seen_get k ps 0).2 h]
  simp [seenX]
theorem seen_len (ps : List Int) : (seenX ps).length = ps.length := by simp [seenX]
theorem scored_ok (s : List Sc) (le fu : Bool) (hs : ∀ x ∈ s, x.ok) : ACall Try.prog 28 [.list le fu (s.map eSc)] (fun x => x = bl (scB s)) := by
  generalize hR : scB s = R
  by_cases hl : 2 ≤ s.length ∧ s.length ≤ 4
  · refine acall_of_awp Try.func28 Try.call28 rfl (by simp [Try.ntmps28]) ?_; simp only [Try.ntmps28, Try.results28]
    repeat' (first
    | (refine awp_seqK (fun K hK => ?_))
    | (refine Hide.go (by assumption) ?_)
    | ((first | refine zqd ?_ ?_ | refine zqn ?_ ?_ | refine zgd ?_ ?_ | refine zgn ?_ ?_ | refine zdd ?_ ?_ | refine zdn ?_ ?_) <;> (intro h; first | (exfalso; omega) | (simp only [h, decide_true, decide_false, not_false_eq_true]) | skip))
    | (refine end_ret [] ?_; simp [go_sem])
    | ((fail_if_success with_reducible (refine Owe.mk ?_)); (simp (disch := omega) [go_sem]))
    | (refine And.intro (by omega) ?_)
    | (refine nbI fun bq => ?_)
    | ((first | refine zqm ?_ ?_ | refine zgm ?_ ?_ | refine zdm ?_ ?_) <;> (intro h; simp only [h, Bool.not_true, Bool.not_false]))
    | ((first | refine zqs ?_ ?_ | refine zgs ?_ ?_ | refine zds ?_ ?_) <;> (intro h; first | (exfalso; simp at h; omega) | ((try simp only [h]); (try simp at h))))
    | fail)
    all_goals (try omega)
    refine awp_for [3, 17, 18] [16] (fun i : Nat => [(19, nt .i64 i)]) (fun i : Nat => [(16, ⟨true, false, false, 0, seenX ((s.map (·.p)).take i), 1⟩)]) (fun i : Nat => s.length - i) (fun i : Nat => i ≤ s.length ∧ (∀ x ∈ s.take i, ptOk x = true) ∧ ((s.map (·.p)).take i).Nodup) (0) (Le.sub4 rfl (by simp [go_sem, seenX])) ⟨?_⟩ ?_
    · exact ⟨Nat.zero_le _, by simp, by simp⟩
    intro i ⟨hi, hall, hnd⟩ AA hAA; simp only [Go.Ab.keepT_nil, Go.Ab.keepT_cons, Go.Ab.dropO_nil, Go.Ab.dropO_cons, List.contains_cons, List.contains_nil, List.elem_cons, List.elem_nil, Nat.reduceBEq, beq_self_eq_true, Nat.reduceEqDiff, Bool.or_false, Bool.false_or, Bool.or_true, Bool.true_or, Bool.false_eq_true, if_true, if_false, List.cons_append, List.nil_append, List.append_nil]
    by_cases hlt : i < s.length
    · have hc := cents_ok s[i].n s[i].d (hs _ (List.getElem_mem hlt)).n (hs _ (List.getElem_mem hlt)).d
      have hmem : s[i] ∈ s := List.getElem_mem hlt
      by_cases hp : ptOk s[i] = true
      · have hp' := hp
        rw [ptOk_iff] at hp'
        by_cases hd : s[i].p ∈ (s.map (·.p)).take i
        · obtain ⟨j, hj⟩ := (seen_get s[i].p _ 0).1 hd
          have hf : R = false := by
            rw [← hR, scB, decide_eq_false_iff_not]
            rintro ⟨_, _, _, h⟩
            have : (s.map (·.p)).take (i + 1) = (s.map (·.p)).take i ++ [s[i].p] := by rw [take_next (by simpa using hlt)]; simp
            have h2 : ((s.map (·.p)).take (i + 1)).Nodup := by
              exact h.sublist (List.take_sublist _ _)
            rw [this, List.nodup_append] at h2
            exact h2.2.2 _ hd _ (by simp) rfl
          subst hf
          obtain ⟨hc0, hc1, hc2⟩ := hp'
          repeat' (first
    | (refine awp_seqK (fun K hK => ?_))
    | (refine Hide.go (by assumption) ?_)
    | ((first | refine zqd ?_ ?_ | refine zqn ?_ ?_ | refine zgd ?_ ?_ | refine zgn ?_ ?_ | refine zdd ?_ ?_ | refine zdn ?_ ?_) <;> (intro h; first | (exfalso; omega) | (simp only [h, decide_true, decide_false, not_false_eq_true]) | skip))
    | (refine end_ret [] ?_; simp [go_sem, hlt, eSc, hj, hc0])
    | (refine stepK_is rfl (hc) (by simp) ?_)
    | (refine dstepK_is rfl (hc) rfl (by simp) ?_)
    | ((fail_if_success with_reducible (refine Owe.mk ?_)); (simp (disch := omega) [go_sem, hlt, eSc, hj, hc0]))
    | (refine And.intro (by omega) ?_)
    | (refine nbI fun bq => ?_)
    | ((first | refine zqm ?_ ?_ | refine zgm ?_ ?_ | refine zdm ?_ ?_) <;> (intro h; simp only [h, Bool.not_true, Bool.not_false]))
    | ((first | refine zqs ?_ ?_ | refine zgs ?_ ?_ | refine zds ?_ ?_) <;> (intro h; first | (exfalso; simp at h; omega) | ((try simp only [h]); (try simp at h))))
    | fail)
          all_goals omega
        · have hg := (seen_get s[i].p _ 0).2 hd
          have hput := seen_put hd
          have hn : (s.map (·.p)).take (i + 1) = (s.map (·.p)).take i ++ [s[i].p] := by rw [take_next (by simpa using hlt)]; simp
          rw [← hn] at hput
          have hlen : (seenX ((s.map (·.p)).take (i + 1))).length ≤ 140737488355328 := by
            rw [seen_len, List.length_take, List.length_map]; omega
          obtain ⟨hc0, hc1, hc2⟩ := hp'
          repeat' (first
    | (refine awp_seqK (fun K hK => ?_))
    | (refine Hide.go (by assumption) ?_)
    | ((first | refine zqd ?_ ?_ | refine zqn ?_ ?_ | refine zgd ?_ ?_ | refine zgn ?_ ?_ | refine zdd ?_ ?_ | refine zdn ?_ ?_) <;> (intro h; first | (exfalso; omega) | (simp only [h, decide_true, decide_false, not_false_eq_true]) | skip))
    | (refine end_ret [] ?_; simp [go_sem, hlt, eSc, hg, hput, hlen, hc0])
    | (refine stepK_is rfl (hc) (by simp) ?_)
    | (refine dstepK_is rfl (hc) rfl (by simp) ?_)
    | (refine stepK_is ?hl (hc) (by simp) ?_; (case hl => (simp [go_sem, hlt, eSc, hg, hput, hlen, hc0]; done)))
    | (refine (hAA.next (i + 1) (Le.sub4 rfl (by simp [go_sem, eSc])) (by (try dsimp only); omega) ?_))
    | ((fail_if_success with_reducible (refine Owe.mk ?_)); (simp (disch := omega) [go_sem, hlt, eSc, hg, hput, hlen, hc0]))
    | (refine And.intro (by omega) ?_)
    | (refine nbI fun bq => ?_)
    | ((first | refine zqm ?_ ?_ | refine zgm ?_ ?_ | refine zdm ?_ ?_) <;> (intro h; simp only [h, Bool.not_true, Bool.not_false]))
    | ((first | refine zqs ?_ ?_ | refine zgs ?_ ?_ | refine zds ?_ ?_) <;> (intro h; first | (exfalso; simp at h; omega) | ((try simp only [h]); (try simp at h))))
    | fail)
          all_goals first | omega | skip
          refine ⟨⟨hlt, fun x hx => ?_, ?_⟩⟩
          · rw [take_next hlt, List.mem_append] at hx
            rcases hx with hx | hx
            · exact hall x hx
            · simp at hx; subst hx; exact hp
          · rw [hn, List.nodup_append]
            exact ⟨hnd, by simp, fun a ha b hb => by simp at hb; subst hb; rintro rfl; exact hd ha⟩
      · have hf : R = false := by
          rw [← hR, scB, decide_eq_false_iff_not]
          rintro ⟨_, _, h, _⟩
          exact hp (h _ hmem)
        subst hf
        rw [ptOk_iff] at hp
        by_cases hb : (cts s[i].n s[i].d).2 = true
        · simp only [hb, true_and] at hp
          repeat' (first
    | (refine awp_seqK (fun K hK => ?_))
    | (refine Hide.go (by assumption) ?_)
    | ((first | refine zqd ?_ ?_ | refine zqn ?_ ?_ | refine zgd ?_ ?_ | refine zgn ?_ ?_ | refine zdd ?_ ?_ | refine zdn ?_ ?_) <;> (intro h; first | (exfalso; omega) | (simp only [h, decide_true, decide_false, not_false_eq_true]) | skip))
    | (refine end_ret [] ?_; simp [go_sem, hlt, eSc, hb])
    | (refine stepK_is rfl (hc) (by simp) ?_)
    | (refine dstepK_is rfl (hc) rfl (by simp) ?_)
    | ((fail_if_success with_reducible (refine Owe.mk ?_)); (simp (disch := omega) [go_sem, hlt, eSc, hb]))
    | (refine And.intro (by omega) ?_)
    | (refine nbI fun bq => ?_)
    | ((first | refine zqm ?_ ?_ | refine zgm ?_ ?_ | refine zdm ?_ ?_) <;> (intro h; simp only [h, Bool.not_true, Bool.not_false]))
    | ((first | refine zqs ?_ ?_ | refine zgs ?_ ?_ | refine zds ?_ ?_) <;> (intro h; first | (exfalso; simp at h; omega) | ((try simp only [h]); (try simp at h))))
    | fail)
          all_goals omega
        · simp only [Bool.not_eq_true] at hb
          repeat' (first
    | (refine awp_seqK (fun K hK => ?_))
    | (refine Hide.go (by assumption) ?_)
    | ((first | refine zqd ?_ ?_ | refine zqn ?_ ?_ | refine zgd ?_ ?_ | refine zgn ?_ ?_ | refine zdd ?_ ?_ | refine zdn ?_ ?_) <;> (intro h; first | (exfalso; omega) | (simp only [h, decide_true, decide_false, not_false_eq_true]) | skip))
    | (refine end_ret [] ?_; simp [go_sem, hlt, eSc, hb])
    | (refine stepK_is rfl (hc) (by simp) ?_)
    | (refine dstepK_is rfl (hc) rfl (by simp) ?_)
    | ((fail_if_success with_reducible (refine Owe.mk ?_)); (simp (disch := omega) [go_sem, hlt, eSc, hb]))
    | (refine And.intro (by omega) ?_)
    | (refine nbI fun bq => ?_)
    | ((first | refine zqm ?_ ?_ | refine zgm ?_ ?_ | refine zdm ?_ ?_) <;> (intro h; simp only [h, Bool.not_true, Bool.not_false]))
    | ((first | refine zqs ?_ ?_ | refine zgs ?_ ?_ | refine zds ?_ ?_) <;> (intro h; first | (exfalso; simp at h; omega) | ((try simp only [h]); (try simp at h))))
    | fail)
    · obtain rfl : i = s.length := by omega
      rw [List.take_length] at hall
      rw [show s.length = (s.map (·.p)).length by simp, List.take_length] at hnd
      have hf : R = true := by
        rw [← hR, scB, decide_eq_true_eq]
        exact ⟨hl.1, hl.2, hall, hnd⟩
      subst hf
      repeat' (first
    | (refine awp_seqK (fun K hK => ?_))
    | (refine Hide.go (by assumption) ?_)
    | ((first | refine zqd ?_ ?_ | refine zqn ?_ ?_ | refine zgd ?_ ?_ | refine zgn ?_ ?_ | refine zdd ?_ ?_ | refine zdn ?_ ?_) <;> (intro h; first | (exfalso; omega) | (simp only [h, decide_true, decide_false, not_false_eq_true]) | skip))
    | (refine end_ret [] ?_; simp [go_sem])
    | ((fail_if_success with_reducible (refine Owe.mk ?_)); (simp (disch := omega) [go_sem]))
    | (refine And.intro (by omega) ?_)
    | (refine nbI fun bq => ?_)
    | ((first | refine zqm ?_ ?_ | refine zgm ?_ ?_ | refine zdm ?_ ?_) <;> (intro h; simp only [h, Bool.not_true, Bool.not_false]))
    | ((first | refine zqs ?_ ?_ | refine zgs ?_ ?_ | refine zds ?_ ?_) <;> (intro h; first | (exfalso; simp at h; omega) | ((try simp only [h]); (try simp at h))))
    | fail)
  · have hf : R = false := by
      rw [← hR, scB, decide_eq_false_iff_not]
      rintro ⟨a, b, _⟩; exact hl ⟨a, b⟩
    subst hf
    refine acall_of_awp Try.func28 Try.call28 rfl (by simp [Try.ntmps28]) ?_; simp only [Try.ntmps28, Try.results28]
    repeat' (first
    | (refine awp_seqK (fun K hK => ?_))
    | (refine Hide.go (by assumption) ?_)
    | ((first | refine zqd ?_ ?_ | refine zqn ?_ ?_ | refine zgd ?_ ?_ | refine zgn ?_ ?_ | refine zdd ?_ ?_ | refine zdn ?_ ?_) <;> (intro h; first | (exfalso; omega) | (simp only [h, decide_true, decide_false, not_false_eq_true]) | skip))
    | (refine end_ret [] ?_; simp [go_sem])
    | ((fail_if_success with_reducible (refine Owe.mk ?_)); (simp (disch := omega) [go_sem]))
    | (refine And.intro (by omega) ?_)
    | (refine nbI fun bq => ?_)
    | ((first | refine zqm ?_ ?_ | refine zgm ?_ ?_ | refine zdm ?_ ?_) <;> (intro h; simp only [h, Bool.not_true, Bool.not_false]))
    | ((first | refine zqs ?_ ?_ | refine zgs ?_ ?_ | refine zds ?_ ?_) <;> (intro h; first | (exfalso; simp at h; omega) | ((try simp only [h]); (try simp at h))))
    | fail)
    all_goals omega
end Go.Proofs.Ytfccgdgippmpgaa
