/-
  Rate21: the reference's Update.
-/
import Derived.Test.YtfccgdgippmpgaaRate20
namespace Go.Proofs.Ytfccgdgippmpgaa
open Go.Ab
set_option linter.unusedSimpArgs false
set_option maxRecDepth 100000
set_option maxHeartbeats 8000000
theorem refUpdate_err (l : List Rt) (s : List Sc) (le fu le' fu' : Bool) (hl : ∀ r ∈ l, r.ok) (hs : ∀ x ∈ s, x.ok) (h : chk l ≠ 0 ∨ scB s = false) : ACall Try.prog 26 [.list le fu (l.map eRt), .list le' fu' (s.map eSc)] (fun r => r = updV (rupd l s)) := by
  have h1 := refCheck_ok l le fu hl
  have h2 := refscored_ok s le' fu' hs
  unfold rupd
  by_cases hc : chk l = 0
  · have hsc : scB s = false := by
      rcases h with h | h
      · exact absurd hc h
      · exact h
    rw [hc] at h1
    rw [hsc] at h2
    simp only [hc, hsc, ne_eq, not_true_eq_false, if_false, if_true, updV]
    refine acall_of_awp Try.func26 Try.call26 rfl (by simp [Try.ntmps26]) ?_; simp only [Try.ntmps26, Try.results26]
    repeat' (first
    | (refine awp_seqK (fun K hK => ?_))
    | (refine Hide.go (by assumption) ?_)
    | ((first | refine zqd ?_ ?_ | refine zqn ?_ ?_ | refine zgd ?_ ?_ | refine zgn ?_ ?_ | refine zdd ?_ ?_ | refine zdn ?_ ?_) <;> (intro h; first | (exfalso; omega) | (simp only [h, decide_true, decide_false, not_false_eq_true]) | skip))
    | (refine end_ret [] ?_; simp [go_sem])
    | (refine stepK_is rfl (h1) (by simp) ?_)
    | (refine dstepK_is rfl (h1) rfl (by simp) ?_)
    | (refine stepK_is rfl (h2) (by simp) ?_)
    | (refine dstepK_is rfl (h2) rfl (by simp) ?_)
    | ((fail_if_success with_reducible (refine Owe.mk ?_)); (simp (disch := omega) [go_sem]))
    | (refine And.intro (by omega) ?_)
    | (refine awp_draw 8 mix (by decide +kernel) ?_)
    | ((first | refine zqm ?_ ?_ | refine zgm ?_ ?_ | refine zdm ?_ ?_) <;> (intro h; simp only [h, Bool.not_true, Bool.not_false]))
    | ((first | refine zqs ?_ ?_ | refine zgs ?_ ?_ | refine zds ?_ ?_) <;> (intro h; first | (exfalso; simp at h; omega) | ((try simp only [h]); (try simp at h))))
    | fail)
  · simp only [ne_eq, hc, not_false_eq_true, if_true, updV]
    refine acall_of_awp Try.func26 Try.call26 rfl (by simp [Try.ntmps26]) ?_; simp only [Try.ntmps26, Try.results26]
    repeat' (first
    | (refine awp_seqK (fun K hK => ?_))
    | (refine Hide.go (by assumption) ?_)
    | ((first | refine zqd ?_ ?_ | refine zqn ?_ ?_ | refine zgd ?_ ?_ | refine zgn ?_ ?_ | refine zdd ?_ ?_ | refine zdn ?_ ?_) <;> (intro h; first | (exfalso; omega) | (simp only [h, decide_true, decide_false, not_false_eq_true]) | skip))
    | (refine end_ret [] ?_; simp [go_sem, hc])
    | (refine stepK_is rfl (h1) (by simp) ?_)
    | (refine dstepK_is rfl (h1) rfl (by simp) ?_)
    | (refine stepK_is rfl (h2) (by simp) ?_)
    | (refine dstepK_is rfl (h2) rfl (by simp) ?_)
    | ((fail_if_success with_reducible (refine Owe.mk ?_)); (simp (disch := omega) [go_sem, hc]))
    | (refine And.intro (by omega) ?_)
    | (refine awp_draw 8 mix (by decide +kernel) ?_)
    | ((first | refine zqm ?_ ?_ | refine zgm ?_ ?_ | refine zdm ?_ ?_) <;> (intro h; simp only [h, Bool.not_true, Bool.not_false]))
    | ((first | refine zqs ?_ ?_ | refine zgs ?_ ?_ | refine zds ?_ ?_) <;> (intro h; first | (exfalso; simp at h; omega) | ((try simp only [h]); (try simp at h))))
    | fail)
theorem map_next {α β : Type} {f : α → β} {l : List α} {i : Nat} (h : i < l.length) : (l.take (i + 1)).map f = (l.take i).map f ++ [f l[i]] := by rw [take_next h, List.map_append]; rfl
theorem refUpdate_ok (l : List Rt) (s : List Sc) (le fu le' fu' : Bool) (hl : ∀ r ∈ l, r.ok) (hs : ∀ x ∈ s, x.ok) : ACall Try.prog 26 [.list le fu (l.map eRt), .list le' fu' (s.map eSc)] (fun r => r = updV (rupd l s)) := by
  by_cases hE : chk l ≠ 0 ∨ scB s = false
  · exact refUpdate_err l s le fu le' fu' hl hs hE
  have hc0 : chk l = 0 := Classical.byContradiction fun h => hE (.inl h)
  have hs0 : scB s = true := by
    cases h : scB s with
    | true => rfl
    | false => exact absurd (.inr h) hE
  obtain ⟨hl16, hrg, hasc⟩ := chk_facts hc0
  obtain ⟨hn2, hn4, hpt, hnd⟩ := scB_facts hs0
  have h1 := refCheck_ok l le fu hl
  have h2 := refscored_ok s le' fu' hs
  have hat := fun p => at_ok l le fu p
  rw [hc0] at h1
  rw [hs0] at h2
  generalize hR : updV (rupd l s) = R
  unfold rupd at hR
  simp only [hc0, hs0, ne_eq, not_true_eq_false, if_false, Bool.true_eq_false] at hR
  refine acall_of_awp Try.func26 Try.call26 rfl (by simp [Try.ntmps26]) ?_; simp only [Try.ntmps26, Try.results26]
  repeat' (first
    | (refine awp_seqK (fun K hK => ?_))
    | (refine Hide.go (by assumption) ?_)
    | ((first | refine zqd ?_ ?_ | refine zqn ?_ ?_ | refine zgd ?_ ?_ | refine zgn ?_ ?_ | refine zdd ?_ ?_ | refine zdn ?_ ?_) <;> (intro h; first | (exfalso; omega) | (simp only [h, decide_true, decide_false, not_false_eq_true]) | skip))
    | (refine end_ret [] ?_; simp [go_sem])
    | (refine stepK_is rfl (h1) (by simp) ?_)
    | (refine dstepK_is rfl (h1) rfl (by simp) ?_)
    | (refine stepK_is rfl (h2) (by simp) ?_)
    | (refine dstepK_is rfl (h2) rfl (by simp) ?_)
    | ((fail_if_success with_reducible (refine Owe.mk ?_)); (simp (disch := omega) [go_sem]))
    | (refine And.intro (by omega) ?_)
    | (refine awp_draw 8 mix (by decide +kernel) ?_)
    | ((first | refine zqm ?_ ?_ | refine zgm ?_ ?_ | refine zdm ?_ ?_) <;> (intro h; simp only [h, Bool.not_true, Bool.not_false]))
    | ((first | refine zqs ?_ ?_ | refine zgs ?_ ?_ | refine zds ?_ ?_) <;> (intro h; first | (exfalso; simp at h; omega) | ((try simp only [h]); (try simp at h))))
    | fail)
  all_goals (first | omega | skip)
  refine awp_for [0, 1, 33] [] (fun i : Nat => [(34, nt .i64 i)]) (fun i : Nat => []) (fun i : Nat => s.length - i) (fun i : Nat => i ≤ s.length ∧ ∀ (k : Nat) (h : k < s.length), k < i → pos l s[k].p < l.length) (0) (Le.sub4 rfl (by simp [go_sem])) ⟨?_⟩ ?_
  · exact ⟨Nat.zero_le _, fun k h hk => absurd hk (Nat.not_lt_zero _)⟩
  intro i ⟨hi, hfd⟩ AA hAA; simp only [Go.Ab.keepT_nil, Go.Ab.keepT_cons, Go.Ab.dropO_nil, Go.Ab.dropO_cons, List.contains_cons, List.contains_nil, List.elem_cons, List.elem_nil, Nat.reduceBEq, beq_self_eq_true, Nat.reduceEqDiff, Bool.or_false, Bool.false_or, Bool.or_true, Bool.true_or, Bool.false_eq_true, if_true, if_false, List.cons_append, List.nil_append, List.append_nil]
  by_cases hlt : i < s.length
  · have hu := hat s[i].p
    by_cases hf : pos l s[i].p < l.length
    · rw [if_pos hf] at hu
      repeat' (first
    | (refine awp_seqK (fun K hK => ?_))
    | (refine Hide.go (by assumption) ?_)
    | ((first | refine zqd ?_ ?_ | refine zqn ?_ ?_ | refine zgd ?_ ?_ | refine zgn ?_ ?_ | refine zdd ?_ ?_ | refine zdn ?_ ?_) <;> (intro h; first | (exfalso; omega) | (simp only [h, decide_true, decide_false, not_false_eq_true]) | skip))
    | (refine end_ret [] ?_; simp [go_sem, hlt, eSc])
    | (refine stepK_is rfl (hu) (by simp) ?_)
    | (refine dstepK_is rfl (hu) rfl (by simp) ?_)
    | (refine (hAA.next (i + 1) (Le.sub4 rfl (by simp [go_sem])) (by (try dsimp only); omega) ?_))
    | ((fail_if_success with_reducible (refine Owe.mk ?_)); (simp (disch := omega) [go_sem, hlt, eSc]))
    | (refine And.intro (by omega) ?_)
    | (refine awp_draw 8 mix (by decide +kernel) ?_)
    | ((first | refine zqm ?_ ?_ | refine zgm ?_ ?_ | refine zdm ?_ ?_) <;> (intro h; simp only [h, Bool.not_true, Bool.not_false]))
    | ((first | refine zqs ?_ ?_ | refine zgs ?_ ?_ | refine zds ?_ ?_) <;> (intro h; first | (exfalso; simp at h; omega) | ((try simp only [h]); (try simp at h))))
    | fail)
      all_goals (first | omega | skip)
      exact ⟨⟨hlt, fun k h hk => by
        by_cases e : k = i
        · subst e; exact hf
        · exact hfd k h (by omega)⟩⟩
    · rw [if_neg hf] at hu
      have hff := fnd_false hlt hf
      rw [hff] at hR
      simp [updV] at hR
      subst hR
      repeat' (first
    | (refine awp_seqK (fun K hK => ?_))
    | (refine Hide.go (by assumption) ?_)
    | ((first | refine zqd ?_ ?_ | refine zqn ?_ ?_ | refine zgd ?_ ?_ | refine zgn ?_ ?_ | refine zdd ?_ ?_ | refine zdn ?_ ?_) <;> (intro h; first | (exfalso; omega) | (simp only [h, decide_true, decide_false, not_false_eq_true]) | skip))
    | (refine end_ret [] ?_; simp [go_sem, hlt, eSc])
    | (refine stepK_is rfl (hu) (by simp) ?_)
    | (refine dstepK_is rfl (hu) rfl (by simp) ?_)
    | ((fail_if_success with_reducible (refine Owe.mk ?_)); (simp (disch := omega) [go_sem, hlt, eSc]))
    | (refine And.intro (by omega) ?_)
    | (refine awp_draw 8 mix (by decide +kernel) ?_)
    | ((first | refine zqm ?_ ?_ | refine zgm ?_ ?_ | refine zdm ?_ ?_) <;> (intro h; simp only [h, Bool.not_true, Bool.not_false]))
    | ((first | refine zqs ?_ ?_ | refine zgs ?_ ?_ | refine zds ?_ ?_) <;> (intro h; first | (exfalso; simp at h; omega) | ((try simp only [h]); (try simp at h))))
    | fail)
  · obtain rfl : i = s.length := by omega
    have hfd' : ∀ x ∈ s, pos l x.p < l.length := fun x hx => by
      obtain ⟨k, hk⟩ := List.getElem?_of_mem hx
      obtain ⟨hkl, rfl⟩ := List.getElem?_eq_some_iff.1 hk
      exact hfd k hkl hkl
    have hfb : fndB l s = true := by
      unfold fndB
      rw [List.all_eq_true]
      exact fun x hx => decide_eq_true (hfd' x hx)
    simp only [hfb, Bool.true_eq_false, if_false] at hR
    have t0 : (l.take 0).map (rnew s l) = [] := rfl
    repeat' (first
    | (refine awp_seqK (fun K hK => ?_))
    | (refine Hide.go (by assumption) ?_)
    | ((first | refine zqd ?_ ?_ | refine zqn ?_ ?_ | refine zgd ?_ ?_ | refine zgn ?_ ?_ | refine zdd ?_ ?_ | refine zdn ?_ ?_) <;> (intro h; first | (exfalso; omega) | (simp only [h, decide_true, decide_false, not_false_eq_true]) | skip))
    | (refine end_ret [] ?_; simp [go_sem])
    | ((fail_if_success with_reducible (refine Owe.mk ?_)); (simp (disch := omega) [go_sem]))
    | (refine And.intro (by omega) ?_)
    | (refine awp_draw 8 mix (by decide +kernel) ?_)
    | ((first | refine zqm ?_ ?_ | refine zgm ?_ ?_ | refine zdm ?_ ?_) <;> (intro h; simp only [h, Bool.not_true, Bool.not_false]))
    | ((first | refine zqs ?_ ?_ | refine zgs ?_ ?_ | refine zds ?_ ?_) <;> (intro h; first | (exfalso; simp at h; omega) | ((try simp only [h]); (try simp at h))))
    | fail)
    refine awp_for [0, 1, 47] [900] (fun i : Nat => [(48, nt .i64 i), (8, .ref 900 0 i)]) (fun i : Nat => [(900, ⟨true, false, false, 4, ((l.take i).map (rnew s l)).map eRt, 0⟩)]) (fun i : Nat => l.length - i) (fun i : Nat => i ≤ l.length ∧ ∀ (k : Nat) (h : k < l.length), k < i → ¬ rbad s l l[k]) (0) (by refine Le.trans ?_ (Le.nil (i := 8) (T := 900) (es := 4) rfl); exact (Le.sub4 rfl (by simp [go_sem, t0, List.map_nil]))) ⟨?_⟩ ?_
    · exact ⟨Nat.zero_le _, fun k h hk => absurd hk (Nat.not_lt_zero _)⟩
    intro i ⟨hi, hnb⟩ AA hAA; simp only [Go.Ab.keepT_nil, Go.Ab.keepT_cons, Go.Ab.dropO_nil, Go.Ab.dropO_cons, List.contains_cons, List.contains_nil, List.elem_cons, List.elem_nil, Nat.reduceBEq, beq_self_eq_true, Nat.reduceEqDiff, Bool.or_false, Bool.false_or, Bool.or_true, Bool.true_or, Bool.false_eq_true, if_true, if_false, List.cons_append, List.nil_append, List.append_nil]
    have hln : ((l.take i).map (rnew s l)).length = i := by rw [List.length_map, List.length_take]; omega
    by_cases hlt : i < l.length
    · have hnx := map_next (f := rnew s l) hlt
      have hok := hl l[i] (List.getElem_mem hlt)
      have hrr := rgt_cts (List.all_eq_true.1 hrg _ (List.getElem_mem hlt))
      have hcr : ACall Try.prog 40 [.agg [nt .i64 l[i].n, nt .i64 l[i].d]] (fun r => r = .tup [nt .i64 l[i].c, bl (cts l[i].n l[i].d).2]) := refcents_ok l[i].n l[i].d hok.n hok.d
      have hcb : -10000000 ≤ l[i].c ∧ l[i].c ≤ 10000000 := ⟨hrr.2.2.2.2.1, hrr.2.2.2.2.2⟩
      have hgb : 0 ≤ l[i].g ∧ l[i].g ≤ 1000000 := ⟨hrr.2.2.1, hrr.2.2.2.1⟩
      have hAB := hAA
      generalize hO : (l.take i).map (rnew s l) = O at *
      have r0 : rcnt s l[i] 0 = 0 := rfl
      have r1 : rsum s l l[i] 0 = 0 := rfl
      repeat' (first
    | (refine awp_seqK (fun K hK => ?_))
    | (refine Hide.go (by assumption) ?_)
    | ((first | refine zqd ?_ ?_ | refine zqn ?_ ?_ | refine zgd ?_ ?_ | refine zgn ?_ ?_ | refine zdd ?_ ?_ | refine zdn ?_ ?_) <;> (intro h; first | (exfalso; omega) | (simp only [h, decide_true, decide_false, not_false_eq_true]) | skip))
    | (refine end_ret [] ?_; simp [go_sem, hlt, eRt])
    | (refine stepK_is rfl (hcr) (by simp) ?_)
    | (refine dstepK_is rfl (hcr) rfl (by simp) ?_)
    | ((fail_if_success with_reducible (refine Owe.mk ?_)); (simp (disch := omega) [go_sem, hlt, eRt]))
    | (refine And.intro (by omega) ?_)
    | (refine awp_draw 8 mix (by decide +kernel) ?_)
    | ((first | refine zqm ?_ ?_ | refine zgm ?_ ?_ | refine zdm ?_ ?_) <;> (intro h; simp only [h, Bool.not_true, Bool.not_false]))
    | ((first | refine zqs ?_ ?_ | refine zgs ?_ ?_ | refine zds ?_ ?_) <;> (intro h; first | (exfalso; simp at h; omega) | ((try simp only [h]); (try simp at h))))
    | fail)
      all_goals (first | omega | skip)
      refine awp_for [0, 1, 8, 10, 11, 47, 48, 63] [10] (fun k : Nat => [(64, nt .i64 k), (13, nt .i64 (l[i].c + rsum s l l[i] k))]) (fun k : Nat => [(10, ⟨false, false, false, 4, [.agg [nt .i64 l[i].p, nt .i64 l[i].n, nt .i64 l[i].d, nt .i64 (l[i].g + rcnt s l[i] k)]], 0⟩)]) (fun k : Nat => s.length - k) (fun k : Nat => k ≤ s.length) (0) (Le.sub4 rfl (by simp [go_sem, r0, r1, Int.add_zero])) ⟨?_⟩ ?_
      · exact Nat.zero_le _
      intro k hk AA hAA; simp only [Go.Ab.keepT_nil, Go.Ab.keepT_cons, Go.Ab.dropO_nil, Go.Ab.dropO_cons, List.contains_cons, List.contains_nil, List.elem_cons, List.elem_nil, Nat.reduceBEq, beq_self_eq_true, Nat.reduceEqDiff, Bool.or_false, Bool.false_or, Bool.or_true, Bool.true_or, Bool.false_eq_true, if_true, if_false, List.cons_append, List.nil_append, List.append_nil]
      have rb := rsum_bd (l := l) ⟨hn2, hn4⟩ hpt l[i] k
      have rc := rcnt_bd (s := s) l[i] k
      by_cases hlk : k < s.length
      · have hpk := (ptOk_iff _).1 (hpt _ (List.getElem_mem hlk))
        have hsk := hs _ (List.getElem_mem hlk)
        have ck := refcents_ok s[k].n s[k].d hsk.n hsk.d
        by_cases hp : s[k].p = l[i].p
        · have hrn := rsum_next (l := l) (r := l[i]) hlk hp
          have hcn := rcnt_next (r := l[i]) hlk hp
          have t0 : tsum s l l[i].c k 0 = 0 := rfl
          have hKK := hAA
          repeat' (first
    | (refine awp_seqK (fun K hK => ?_))
    | (refine Hide.go (by assumption) ?_)
    | ((first | refine zqd ?_ ?_ | refine zqn ?_ ?_ | refine zgd ?_ ?_ | refine zgn ?_ ?_ | refine zdd ?_ ?_ | refine zdn ?_ ?_) <;> (intro h; first | (exfalso; omega) | (simp only [h, decide_true, decide_false, not_false_eq_true]) | skip))
    | (refine end_ret [] ?_; simp [go_sem, hlk, eSc, hp])
    | (refine stepK_is rfl (ck) (by simp) ?_)
    | (refine dstepK_is rfl (ck) rfl (by simp) ?_)
    | ((fail_if_success with_reducible (refine Owe.mk ?_)); (simp (disch := omega) [go_sem, hlk, eSc, hp]))
    | (refine And.intro (by omega) ?_)
    | (refine awp_draw 8 mix (by decide +kernel) ?_)
    | ((first | refine zqm ?_ ?_ | refine zgm ?_ ?_ | refine zdm ?_ ?_) <;> (intro h; simp only [h, Bool.not_true, Bool.not_false]))
    | ((first | refine zqs ?_ ?_ | refine zgs ?_ ?_ | refine zds ?_ ?_) <;> (intro h; first | (exfalso; simp at h; omega) | ((try simp only [h]); (try simp at h))))
    | fail)
          all_goals (first | omega | skip)
          refine awp_for [0, 1, 8, 10, 11, 14, 15, 47, 48, 63, 64, 89] [10] (fun j : Nat => [(90, nt .i64 j), (13, nt .i64 (l[i].c + rsum s l l[i] k + tsum s l l[i].c k j))]) (fun j : Nat => [(10, ⟨false, false, false, 4, [.agg [nt .i64 l[i].p, nt .i64 l[i].n, nt .i64 l[i].d, nt .i64 (l[i].g + rcnt s l[i] k + 1)]], 0⟩)]) (fun j : Nat => s.length - j) (fun j : Nat => j ≤ s.length) (0) (Le.sub4 rfl (by simp [go_sem, t0, Int.add_zero])) ⟨?_⟩ ?_
          · exact Nat.zero_le _
          intro j hj AA hAA; simp only [Go.Ab.keepT_nil, Go.Ab.keepT_cons, Go.Ab.dropO_nil, Go.Ab.dropO_cons, List.contains_cons, List.contains_nil, List.elem_cons, List.elem_nil, Nat.reduceBEq, beq_self_eq_true, Nat.reduceEqDiff, Bool.or_false, Bool.false_or, Bool.or_true, Bool.true_or, Bool.false_eq_true, if_true, if_false, List.cons_append, List.nil_append, List.append_nil]
          have tb := tsum_bd (l := l) ⟨hn2, hn4⟩ hpt l[i].c k j
          by_cases hlj : j < s.length
          · by_cases e : j = k
            · subst e
              have hts := tsum_skip (s := s) (l := l) (c := l[i].c) (k := j)
              repeat' (first
    | (refine awp_seqK (fun K hK => ?_))
    | (refine Hide.go (by assumption) ?_)
    | ((first | refine zqd ?_ ?_ | refine zqn ?_ ?_ | refine zgd ?_ ?_ | refine zgn ?_ ?_ | refine zdd ?_ ?_ | refine zdn ?_ ?_) <;> (intro h; first | (exfalso; omega) | (simp only [h, decide_true, decide_false, not_false_eq_true]) | skip))
    | (refine end_ret [] ?_; simp [go_sem])
    | (refine (hAA.next (j + 1) (Le.sub4 rfl (by simp [go_sem, hts])) (by (try dsimp only); omega) ?_))
    | ((fail_if_success with_reducible (refine Owe.mk ?_)); (simp (disch := omega) [go_sem]))
    | (refine And.intro (by omega) ?_)
    | (refine awp_draw 8 mix (by decide +kernel) ?_)
    | ((first | refine zqm ?_ ?_ | refine zgm ?_ ?_ | refine zdm ?_ ?_) <;> (intro h; simp only [h, Bool.not_true, Bool.not_false]))
    | ((first | refine zqs ?_ ?_ | refine zgs ?_ ?_ | refine zds ?_ ?_) <;> (intro h; first | (exfalso; simp at h; omega) | ((try simp only [h]); (try simp at h))))
    | fail)
              exact ⟨hlj⟩
            · have hts := tsum_next (l := l) (c := l[i].c) hlk hlj e
              have e' : ¬ (j : Int) = k := by omega
              have hpj := (ptOk_iff _).1 (hpt _ (List.getElem_mem hlj))
              have hsj := hs _ (List.getElem_mem hlj)
              have cj := refcents_ok s[j].n s[j].d hsj.n hsj.d
              have hu := hat s[j].p
              have hpl := hfd j hlj hlj
              rw [if_pos hpl] at hu
              have hokj := hl _ (List.getElem_mem hpl)
              have hrj := rgt_cts (List.all_eq_true.1 hrg _ (List.getElem_mem hpl))
              have cv : ACall Try.prog 40 [.agg [nt .i64 l[pos l s[j].p].n, nt .i64 l[pos l s[j].p].d]] (fun r => r = .tup [nt .i64 (val l s[j].p), bl (cts l[pos l s[j].p].n l[pos l s[j].p].d).2]) := by
                have h := refcents_ok _ _ hokj.n hokj.d
                have hv : val l s[j].p = (cts l[pos l s[j].p].n l[pos l s[j].p].d).1 := by
                  unfold val
                  rw [List.getD_eq_getElem?_getD, List.getElem?_map, List.getElem?_eq_getElem hpl]; rfl
                rw [hv]; exact h
              have hvb : -10000000 ≤ val l s[j].p ∧ val l s[j].p ≤ 10000000 := by
                have hv : val l s[j].p = (cts l[pos l s[j].p].n l[pos l s[j].p].d).1 := by
                  unfold val
                  rw [List.getD_eq_getElem?_getD, List.getElem?_map, List.getElem?_eq_getElem hpl]; rfl
                rw [hv]; exact hrj.2.2.2.2
              have ht := refTransfer_ok (cts s[k].n s[k].d).1 (cts s[j].n s[j].d).1 l[i].c (val l s[j].p) s.length hpk.2 hpj.2 hcb hvb (by omega)
              have htb := tr_range (p := (cts s[k].n s[k].d).1) (q := (cts s[j].n s[j].d).1) (a := l[i].c) (b := val l s[j].p) (n := s.length) hpk.2 hpj.2 (by omega)
              generalize tr (cts s[k].n s[k].d).1 (cts s[j].n s[j].d).1 l[i].c (val l s[j].p) s.length = T at *
              generalize val l s[j].p = V at *
              generalize hc1 : cts s[k].n s[k].d = C1 at *
              generalize hc2 : cts s[j].n s[j].d = C2 at *
              repeat' (first
    | (refine awp_seqK (fun K hK => ?_))
    | (refine Hide.go (by assumption) ?_)
    | ((first | refine zqd ?_ ?_ | refine zqn ?_ ?_ | refine zgd ?_ ?_ | refine zgn ?_ ?_ | refine zdd ?_ ?_ | refine zdn ?_ ?_) <;> (intro h; first | (exfalso; omega) | (simp only [h, decide_true, decide_false, not_false_eq_true]) | skip))
    | (refine end_ret [] ?_; simp [go_sem, hlj, hlk, eSc, e', hpl, eRt])
    | (refine stepK_is rfl (cj) (by simp) ?_)
    | (refine dstepK_is rfl (cj) rfl (by simp) ?_)
    | (refine stepK_is rfl (hu) (by simp) ?_)
    | (refine dstepK_is rfl (hu) rfl (by simp) ?_)
    | (refine stepK_is rfl (cv) (by simp) ?_)
    | (refine dstepK_is rfl (cv) rfl (by simp) ?_)
    | (refine stepK_is rfl (ht) (by simp) ?_)
    | (refine dstepK_is rfl (ht) rfl (by simp) ?_)
    | (refine (hAA.next (j + 1) (Le.sub4 rfl (by simp [go_sem, hts, Int.add_assoc])) (by (try dsimp only); omega) ?_))
    | ((fail_if_success with_reducible (refine Owe.mk ?_)); (simp (disch := omega) [go_sem, hlj, hlk, eSc, e', hpl, eRt]))
    | (refine And.intro (by omega) ?_)
    | (refine awp_draw 8 mix (by decide +kernel) ?_)
    | ((first | refine zqm ?_ ?_ | refine zgm ?_ ?_ | refine zdm ?_ ?_) <;> (intro h; simp only [h, Bool.not_true, Bool.not_false]))
    | ((first | refine zqs ?_ ?_ | refine zgs ?_ ?_ | refine zds ?_ ?_) <;> (intro h; first | (exfalso; simp at h; omega) | ((try simp only [h]); (try simp at h))))
    | fail)
              all_goals (first | omega | skip)
              exact ⟨hlj⟩
          · obtain rfl : j = s.length := by omega
            repeat' (first
    | (refine awp_seqK (fun K hK => ?_))
    | (refine Hide.go (by assumption) ?_)
    | ((first | refine zqd ?_ ?_ | refine zqn ?_ ?_ | refine zgd ?_ ?_ | refine zgn ?_ ?_ | refine zdd ?_ ?_ | refine zdn ?_ ?_) <;> (intro h; first | (exfalso; omega) | (simp only [h, decide_true, decide_false, not_false_eq_true]) | skip))
    | (refine end_ret [] ?_; simp [go_sem])
    | (refine (hKK.next (k + 1) (Le.sub4 rfl (by simp [go_sem, hrn, hcn, Int.add_assoc])) (by (try dsimp only); omega) ?_))
    | ((fail_if_success with_reducible (refine Owe.mk ?_)); (simp (disch := omega) [go_sem]))
    | (refine And.intro (by omega) ?_)
    | (refine awp_draw 8 mix (by decide +kernel) ?_)
    | ((first | refine zqm ?_ ?_ | refine zgm ?_ ?_ | refine zdm ?_ ?_) <;> (intro h; simp only [h, Bool.not_true, Bool.not_false]))
    | ((first | refine zqs ?_ ?_ | refine zgs ?_ ?_ | refine zds ?_ ?_) <;> (intro h; first | (exfalso; simp at h; omega) | ((try simp only [h]); (try simp at h))))
    | fail)
            exact ⟨hlk⟩
        · have hrn := rsum_skip (l := l) (r := l[i]) hlk hp
          have hcn := rcnt_skip (r := l[i]) hlk hp
          repeat' (first
    | (refine awp_seqK (fun K hK => ?_))
    | (refine Hide.go (by assumption) ?_)
    | ((first | refine zqd ?_ ?_ | refine zqn ?_ ?_ | refine zgd ?_ ?_ | refine zgn ?_ ?_ | refine zdd ?_ ?_ | refine zdn ?_ ?_) <;> (intro h; first | (exfalso; omega) | (simp only [h, decide_true, decide_false, not_false_eq_true]) | skip))
    | (refine end_ret [] ?_; simp [go_sem, hlk, eSc, hp])
    | (refine (hAA.next (k + 1) (Le.sub4 rfl (by simp [go_sem, hrn, hcn])) (by (try dsimp only); omega) ?_))
    | ((fail_if_success with_reducible (refine Owe.mk ?_)); (simp (disch := omega) [go_sem, hlk, eSc, hp]))
    | (refine And.intro (by omega) ?_)
    | (refine awp_draw 8 mix (by decide +kernel) ?_)
    | ((first | refine zqm ?_ ?_ | refine zgm ?_ ?_ | refine zdm ?_ ?_) <;> (intro h; simp only [h, Bool.not_true, Bool.not_false]))
    | ((first | refine zqs ?_ ?_ | refine zgs ?_ ?_ | refine zds ?_ ?_) <;> (intro h; first | (exfalso; simp at h; omega) | ((try simp only [h]); (try simp at h))))
    | fail)
          exact ⟨hlk⟩
      · obtain rfl : k = s.length := by omega
        have hM := refMake_ok (l[i].c + rsum s l l[i] s.length) 100 (by omega) (by omega) (by decide) (by decide)
        unfold mkF eF at hM
        by_cases hbad : rbad s l l[i]
        · have hex : ∃ r ∈ l, rbad s l r := ⟨_, List.getElem_mem hlt, hbad⟩
          rw [if_pos hex] at hR
          simp [updV] at hR
          subst hR
          unfold rbad at hbad
          generalize rsum s l l[i] s.length = S at *
          generalize rcnt s l[i] s.length = G at *
          by_cases q1 : l[i].c + S < -10000000
          · repeat' (first
    | (refine awp_seqK (fun K hK => ?_))
    | (refine Hide.go (by assumption) ?_)
    | ((first | refine zqd ?_ ?_ | refine zqn ?_ ?_ | refine zgd ?_ ?_ | refine zgn ?_ ?_ | refine zdd ?_ ?_ | refine zdn ?_ ?_) <;> (intro h; first | (exfalso; omega) | (simp only [h, decide_true, decide_false, not_false_eq_true]) | skip))
    | (refine end_ret [] ?_; simp [go_sem, q1])
    | ((fail_if_success with_reducible (refine Owe.mk ?_)); (simp (disch := omega) [go_sem, q1]))
    | (refine And.intro (by omega) ?_)
    | (refine awp_draw 8 mix (by decide +kernel) ?_)
    | ((first | refine zqm ?_ ?_ | refine zgm ?_ ?_ | refine zdm ?_ ?_) <;> (intro h; simp only [h, Bool.not_true, Bool.not_false]))
    | ((first | refine zqs ?_ ?_ | refine zgs ?_ ?_ | refine zds ?_ ?_) <;> (intro h; first | (exfalso; simp at h; omega) | ((try simp only [h]); (try simp at h))))
    | fail)
          · by_cases q2 : 10000000 < l[i].c + S
            · repeat' (first
    | (refine awp_seqK (fun K hK => ?_))
    | (refine Hide.go (by assumption) ?_)
    | ((first | refine zqd ?_ ?_ | refine zqn ?_ ?_ | refine zgd ?_ ?_ | refine zgn ?_ ?_ | refine zdd ?_ ?_ | refine zdn ?_ ?_) <;> (intro h; first | (exfalso; omega) | (simp only [h, decide_true, decide_false, not_false_eq_true]) | skip))
    | (refine end_ret [] ?_; simp [go_sem, q1, q2])
    | ((fail_if_success with_reducible (refine Owe.mk ?_)); (simp (disch := omega) [go_sem, q1, q2]))
    | (refine And.intro (by omega) ?_)
    | (refine awp_draw 8 mix (by decide +kernel) ?_)
    | ((first | refine zqm ?_ ?_ | refine zgm ?_ ?_ | refine zdm ?_ ?_) <;> (intro h; simp only [h, Bool.not_true, Bool.not_false]))
    | ((first | refine zqs ?_ ?_ | refine zgs ?_ ?_ | refine zds ?_ ?_) <;> (intro h; first | (exfalso; simp at h; omega) | ((try simp only [h]); (try simp at h))))
    | fail)
            · have q3 : 1000000 < l[i].g + G := by omega
              repeat' (first
    | (refine awp_seqK (fun K hK => ?_))
    | (refine Hide.go (by assumption) ?_)
    | ((first | refine zqd ?_ ?_ | refine zqn ?_ ?_ | refine zgd ?_ ?_ | refine zgn ?_ ?_ | refine zdd ?_ ?_ | refine zdn ?_ ?_) <;> (intro h; first | (exfalso; omega) | (simp only [h, decide_true, decide_false, not_false_eq_true]) | skip))
    | (refine end_ret [] ?_; simp [go_sem, q1, q2, q3])
    | ((fail_if_success with_reducible (refine Owe.mk ?_)); (simp (disch := omega) [go_sem, q1, q2, q3]))
    | (refine And.intro (by omega) ?_)
    | (refine awp_draw 8 mix (by decide +kernel) ?_)
    | ((first | refine zqm ?_ ?_ | refine zgm ?_ ?_ | refine zdm ?_ ?_) <;> (intro h; simp only [h, Bool.not_true, Bool.not_false]))
    | ((first | refine zqs ?_ ?_ | refine zgs ?_ ?_ | refine zds ?_ ?_) <;> (intro h; first | (exfalso; simp at h; omega) | ((try simp only [h]); (try simp at h))))
    | fail)
        · have hbad' := hbad
          unfold rbad at hbad'
          have q1 : ¬ l[i].c + rsum s l l[i] s.length < -10000000 := fun h => hbad' (.inl h)
          have q2 : ¬ 10000000 < l[i].c + rsum s l l[i] s.length := fun h => hbad' (.inr (.inl h))
          have q3 : ¬ 1000000 < l[i].g + rcnt s l[i] s.length := fun h => hbad' (.inr (.inr h))
          have hnw : eRt (rnew s l l[i]) = .agg [nt .i64 l[i].p, nt .i64 (mkQ (l[i].c + rsum s l l[i] s.length) 100).1, nt .i64 (mkQ (l[i].c + rsum s l l[i] s.length) 100).2.1, nt .i64 (l[i].g + rcnt s l[i] s.length)] := rfl
          clear hbad'
          generalize mkQ (l[i].c + rsum s l l[i] s.length) 100 = Q at *
          generalize rsum s l l[i] s.length = S at *
          generalize rcnt s l[i] s.length = G at *
          generalize rnew s l l[i] = W at *
          repeat' (first
    | (refine awp_seqK (fun K hK => ?_))
    | (refine Hide.go (by assumption) ?_)
    | ((first | refine zqd ?_ ?_ | refine zqn ?_ ?_ | refine zgd ?_ ?_ | refine zgn ?_ ?_ | refine zdd ?_ ?_ | refine zdn ?_ ?_) <;> (intro h; first | (exfalso; omega) | (simp only [h, decide_true, decide_false, not_false_eq_true]) | skip))
    | (refine end_ret [] ?_; simp [go_sem, q1, q2, q3, hln])
    | (refine stepK_is rfl (hM) (by simp) ?_)
    | (refine dstepK_is rfl (hM) rfl (by simp) ?_)
    | (refine (hAB.next (i + 1) (Le.sub4 rfl (by simp [go_sem, hnx, hnw, hln])) (by (try dsimp only); omega) ?_))
    | ((fail_if_success with_reducible (refine Owe.mk ?_)); (simp (disch := omega) [go_sem, q1, q2, q3, hln]))
    | (refine And.intro (by omega) ?_)
    | (refine awp_draw 8 mix (by decide +kernel) ?_)
    | ((first | refine zqm ?_ ?_ | refine zgm ?_ ?_ | refine zdm ?_ ?_) <;> (intro h; simp only [h, Bool.not_true, Bool.not_false]))
    | ((first | refine zqs ?_ ?_ | refine zgs ?_ ?_ | refine zds ?_ ?_) <;> (intro h; first | (exfalso; simp at h; omega) | ((try simp only [h]); (try simp at h))))
    | fail)
          all_goals (first | omega | skip)
          exact ⟨⟨hlt, fun k h hk => by
            by_cases e : k = i
            · subst e; exact hbad
            · exact hnb k h (by omega)⟩⟩
    · obtain rfl : i = l.length := by omega
      have hex : ¬ ∃ r ∈ l, rbad s l r := by
        rintro ⟨r, hr, hb⟩
        obtain ⟨k, hk⟩ := List.getElem?_of_mem hr
        obtain ⟨hkl, rfl⟩ := List.getElem?_eq_some_iff.1 hk
        exact hnb k hkl hkl hb
      rw [if_neg hex] at hR
      simp only [updV, if_true] at hR
      subst hR
      rw [List.take_length]
      repeat' (first
    | (refine awp_seqK (fun K hK => ?_))
    | (refine Hide.go (by assumption) ?_)
    | ((first | refine zqd ?_ ?_ | refine zqn ?_ ?_ | refine zgd ?_ ?_ | refine zgn ?_ ?_ | refine zdd ?_ ?_ | refine zdn ?_ ?_) <;> (intro h; first | (exfalso; omega) | (simp only [h, decide_true, decide_false, not_false_eq_true]) | skip))
    | (refine end_ret [] ?_; simp [go_sem])
    | ((fail_if_success with_reducible (refine Owe.mk ?_)); (simp (disch := omega) [go_sem]))
    | (refine And.intro (by omega) ?_)
    | (refine awp_draw 8 mix (by decide +kernel) ?_)
    | ((first | refine zqm ?_ ?_ | refine zgm ?_ ?_ | refine zdm ?_ ?_) <;> (intro h; simp only [h, Bool.not_true, Bool.not_false]))
    | ((first | refine zqs ?_ ?_ | refine zgs ?_ ?_ | refine zds ?_ ?_) <;> (intro h; first | (exfalso; simp at h; omega) | ((try simp only [h]); (try simp at h))))
    | fail)
end Go.Proofs.Ytfccgdgippmpgaa
