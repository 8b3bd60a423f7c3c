/-
  Term10: the reference's Sort and Find; Find.
-/
import Derived.Test.YtldecgghhaoliaaTerm9
namespace Go.Proofs.Ytldecgghhaoliaa
open Go.Ab
set_option linter.unusedSimpArgs false
set_option maxRecDepth 100000
set_option maxHeartbeats 8000000
theorem insT_at {t : Tm} : ∀ {o : List Tm} {k : Nat}, k ≤ o.length → (∀ (j : Nat) (h : j < o.length), j < k → cmpT o[j] t < 0) → (∀ h : k < o.length, ¬ cmpT o[k] t < 0) →
    insT t o = if ∃ h : k < o.length, cmpT o[k] t = 0 then o else o.take k ++ t :: o.drop k
  | [], k, hk, _, _ => by
    obtain rfl : k = 0 := by simpa using hk
    simp [insT]
  | u :: r, 0, _, _, h2 => by
    have h3 := h2 (by simp)
    simp only [List.getElem_cons_zero] at h3
    unfold insT
    rw [if_neg h3]
    by_cases h4 : cmpT u t = 0
    · rw [if_pos h4, if_pos ⟨by simp, h4⟩]
    · rw [if_neg h4, if_neg (by rintro ⟨_, h⟩; exact h4 h)]; simp
  | u :: r, k + 1, hk, h1, h2 => by
    have h3 := h1 0 (by simp) (by omega)
    simp only [List.getElem_cons_zero] at h3
    unfold insT
    rw [if_pos h3, insT_at (k := k) (by simpa using hk) (fun j h hj => by have := h1 (j + 1) (by simpa using h) (by omega); simpa using this) (fun h => by have := h2 (by simpa using h); simpa using this)]
    by_cases h4 : ∃ h : k < r.length, cmpT r[k] t = 0
    · rw [if_pos h4, if_pos (by obtain ⟨h, e⟩ := h4; exact ⟨by simpa using h, by simpa using e⟩)]
    · rw [if_neg h4, if_neg (by rintro ⟨h, e⟩; exact h4 ⟨by simpa using h, by simpa using e⟩)]; simp
theorem cells_take {l : List Tm} {k : Nat} {y : AV} (h : y ∈ List.take k (l.map eTm)) : y.cells.length = 2 := by
  obtain ⟨t, _, rfl⟩ := List.mem_map.1 (List.mem_of_mem_take h)
  rw [eTm_eq]; rfl
theorem cells_drop {l : List Tm} {k : Nat} {y : AV} (h : y ∈ List.drop k (l.map eTm)) : y.cells.length = 2 := by
  obtain ⟨t, _, rfl⟩ := List.mem_map.1 (List.mem_of_mem_drop h)
  rw [eTm_eq]; rfl
theorem refSort_both (l : List Tm) (le fu own : Bool) (hb : l.length ≤ 1000000) : ACall Try.prog 36 [.list le fu (l.map eTm)] (fun r => r = if own = true then .own 2 ((sortT l).map eTm) else .list false false ((sortT l).map eTm)) := by
  have t0 : sortT [] = [] := rfl
  have hle : ∀ i, i ≤ l.length → (sortT (l.take i)).length ≤ i := fun i => by
    induction i with
    | zero => intro _; exact Nat.le_refl _
    | succ i ih =>
      intro hi
      have := ih (by omega)
      rw [sortT_next (by omega)]
      have hins : ∀ (t : Tm) (o : List Tm), (insT t o).length ≤ o.length + 1 := fun t o => by
        induction o with
        | nil => simp [insT]
        | cons u r ih => unfold insT; split <;> (try split) <;> simp <;> omega
      have := hins l[i] (sortT (l.take i))
      omega
  generalize hR : sortT l = R
  refine acall_of_awp Try.func36 Try.call36 rfl (by simp [Try.ntmps36]) ?_; simp only [Try.ntmps36, Try.results36]
  repeat' (first
    | (refine awp_seqK (fun K hK => ?_))
    | (refine Hide.go (by assumption) ?_)
    | ((first | refine zqd ?_ ?_ | refine zqn ?_ ?_ | refine zgd ?_ ?_ | refine zgn ?_ ?_ | refine zdd ?_ ?_ | refine zdn ?_ ?_) <;> (intro h; first | (exfalso; omega) | (simp only [h, decide_true, decide_false, not_false_eq_true]) | skip))
    | (refine end_ret [] ?_; simp [go_sem])
    | ((fail_if_success with_reducible (refine Owe.mk ?_)); (simp (disch := omega) [go_sem]))
    | (refine And.intro (by omega) ?_)
    | (refine awp_draw 16 mix (by decide +kernel) ?_)
    | (refine nbI fun bq => ?_)
    | ((first | refine zqm ?_ ?_ | refine zgm ?_ ?_ | refine zdm ?_ ?_) <;> (intro h; simp only [h, Bool.not_true, Bool.not_false]))
    | ((first | refine zqs ?_ ?_ | refine zgs ?_ ?_ | refine zds ?_ ?_) <;> (intro h; first | (exfalso; simp at h; omega) | ((try simp only [h]); (try simp at h))))
    | fail)
  refine awp_for [0, 8] [900] (fun i : Nat => [(9, nt .i64 i), (3, .ref 900 0 (sortT (l.take i)).length)]) (fun i : Nat => [(900, ⟨true, false, false, 2, (sortT (l.take i)).map eTm, 0⟩)]) (fun i : Nat => l.length - i) (fun i : Nat => i ≤ l.length) (0) (by refine Le.trans ?_ (Le.nil (i := 3) (T := 900) (es := 2) rfl); exact (Le.sub4 rfl (by simp [go_sem, t0, List.map_nil]))) ⟨?_⟩ ?_
  · exact Nat.zero_le _
  intro i hi AA hAA; simp only [Go.Ab.keepT_nil, Go.Ab.keepT_cons, Go.Ab.dropO_nil, Go.Ab.dropO_cons, List.contains_cons, List.contains_nil, List.elem_cons, List.elem_nil, Nat.reduceBEq, beq_self_eq_true, Nat.reduceEqDiff, Bool.or_false, Bool.false_or, Bool.or_true, Bool.true_or, Bool.false_eq_true, if_true, if_false, List.cons_append, List.nil_append, List.append_nil]
  have hdi := hle i hi
  by_cases hlt : i < l.length
  · have hnx := sortT_next hlt
    have hle2 := hle (i + 1) hlt
    generalize hO : sortT (l.take i) = O at *
    have hAB := hAA
    repeat' (first
    | (refine awp_seqK (fun K hK => ?_))
    | (refine Hide.go (by assumption) ?_)
    | ((first | refine zqd ?_ ?_ | refine zqn ?_ ?_ | refine zgd ?_ ?_ | refine zgn ?_ ?_ | refine zdd ?_ ?_ | refine zdn ?_ ?_) <;> (intro h; first | (exfalso; omega) | (simp only [h, decide_true, decide_false, not_false_eq_true]) | skip))
    | (refine end_ret [] ?_; simp [go_sem])
    | ((fail_if_success with_reducible (refine Owe.mk ?_)); (simp (disch := omega) [go_sem]))
    | (refine And.intro (by omega) ?_)
    | (refine awp_draw 16 mix (by decide +kernel) ?_)
    | (refine nbI fun bq => ?_)
    | ((first | refine zqm ?_ ?_ | refine zgm ?_ ?_ | refine zdm ?_ ?_) <;> (intro h; simp only [h, Bool.not_true, Bool.not_false]))
    | ((first | refine zqs ?_ ?_ | refine zgs ?_ ?_ | refine zds ?_ ?_) <;> (intro h; first | (exfalso; simp at h; omega) | ((try simp only [h]); (try simp at h))))
    | fail)
    refine awp_for [0, 3, 4, 8, 9] [] (fun k : Nat => [(5, nt .i64 k)]) (fun k : Nat => []) (fun k : Nat => O.length - k) (fun k : Nat => k ≤ O.length ∧ ∀ (j : Nat) (h : j < O.length), j < k → cmpT O[j] l[i] < 0) (0) (Le.sub4 rfl (by simp [go_sem])) ⟨?_⟩ ?_
    · exact ⟨Nat.zero_le _, fun j h hj => absurd hj (Nat.not_lt_zero _)⟩
    intro k ⟨hk, hall⟩ AA hAA; simp only [Go.Ab.keepT_nil, Go.Ab.keepT_cons, Go.Ab.dropO_nil, Go.Ab.dropO_cons, List.contains_cons, List.contains_nil, List.elem_cons, List.elem_nil, Nat.reduceBEq, beq_self_eq_true, Nat.reduceEqDiff, Bool.or_false, Bool.false_or, Bool.or_true, Bool.true_or, Bool.false_eq_true, if_true, if_false, List.cons_append, List.nil_append, List.append_nil]
    by_cases hkl : k < O.length
    · have hu := refCompare_ok O[k] l[i]
      by_cases hq : cmpT O[k] l[i] < 0
      · obtain ⟨c, hc⟩ : ∃ c, c = cmpT O[k] l[i] := ⟨_, rfl⟩
        rw [← hc] at hu hq
        repeat' (first
    | (refine awp_seqK (fun K hK => ?_))
    | (refine Hide.go (by assumption) ?_)
    | ((first | refine zqd ?_ ?_ | refine zqn ?_ ?_ | refine zgd ?_ ?_ | refine zgn ?_ ?_ | refine zdd ?_ ?_ | refine zdn ?_ ?_) <;> (intro h; first | (exfalso; omega) | (simp only [h, decide_true, decide_false, not_false_eq_true]) | skip))
    | (refine end_ret [] ?_; simp [go_sem, hlt, hkl, hq])
    | (refine stepK_is rfl (hu) (by simp) ?_)
    | (refine dstepK_is rfl (hu) rfl (by simp) ?_)
    | (refine (hAA.next (k + 1) (Le.sub4 rfl (by simp [go_sem])) (by (try dsimp only); omega) ?_))
    | ((fail_if_success with_reducible (refine Owe.mk ?_)); (simp (disch := omega) [go_sem, hlt, hkl, hq]))
    | (refine And.intro (by omega) ?_)
    | (refine awp_draw 16 mix (by decide +kernel) ?_)
    | (refine nbI fun bq => ?_)
    | ((first | refine zqm ?_ ?_ | refine zgm ?_ ?_ | refine zdm ?_ ?_) <;> (intro h; simp only [h, Bool.not_true, Bool.not_false]))
    | ((first | refine zqs ?_ ?_ | refine zgs ?_ ?_ | refine zds ?_ ?_) <;> (intro h; first | (exfalso; simp at h; omega) | ((try simp only [h]); (try simp at h))))
    | fail)
        all_goals (first | omega | skip)
        exact ⟨⟨hkl, fun j h hj => by
          by_cases e : j = k
          · subst e; rw [← hc]; exact hq
          · exact hall j h (by omega)⟩⟩
      · have hin := insT_at hk hall (fun _ => hq)
        by_cases hz : cmpT O[k] l[i] = 0
        · rw [if_pos ⟨hkl, hz⟩] at hin
          rw [hin] at hnx
          rw [hz] at hu
          repeat' (first
    | (refine awp_seqK (fun K hK => ?_))
    | (refine Hide.go (by assumption) ?_)
    | ((first | refine zqd ?_ ?_ | refine zqn ?_ ?_ | refine zgd ?_ ?_ | refine zgn ?_ ?_ | refine zdd ?_ ?_ | refine zdn ?_ ?_) <;> (intro h; first | (exfalso; omega) | (simp only [h, decide_true, decide_false, not_false_eq_true]) | skip))
    | (refine end_ret [] ?_; simp [go_sem, hlt, hkl])
    | (refine stepK_is rfl (hu) (by simp) ?_)
    | (refine dstepK_is rfl (hu) rfl (by simp) ?_)
    | (refine (hAB.next (i + 1) (Le.sub4 rfl (by simp [go_sem, hnx])) (by (try dsimp only); omega) ?_))
    | ((fail_if_success with_reducible (refine Owe.mk ?_)); (simp (disch := omega) [go_sem, hlt, hkl]))
    | (refine And.intro (by omega) ?_)
    | (refine awp_draw 16 mix (by decide +kernel) ?_)
    | (refine nbI fun bq => ?_)
    | ((first | refine zqm ?_ ?_ | refine zgm ?_ ?_ | refine zdm ?_ ?_) <;> (intro h; simp only [h, Bool.not_true, Bool.not_false]))
    | ((first | refine zqs ?_ ?_ | refine zgs ?_ ?_ | refine zds ?_ ?_) <;> (intro h; first | (exfalso; simp at h; omega) | ((try simp only [h]); (try simp at h))))
    | fail)
          all_goals (first | omega | skip)
          exact ⟨hlt⟩
        · rw [if_neg (by rintro ⟨_, h⟩; exact hz h)] at hin
          rw [hin] at hnx
          generalize cmpT O[k] l[i] = c at *
          have hkn : ¬ k = O.length := by omega
          have htd : List.take (O.length - k) (List.drop k (List.map eTm O)) = List.drop k (List.map eTm O) := List.take_of_length_le (by simp)
          by_cases hk0 : k = 0
          · subst hk0
            have h0l : ¬ 0 = O.length := by omega
            have hc1 : 1 + O.length = O.length + 1 := Nat.add_comm _ _
            repeat' (first
    | (refine awp_seqK (fun K hK => ?_))
    | (refine Hide.go (by assumption) ?_)
    | ((first | refine zqd ?_ ?_ | refine zqn ?_ ?_ | refine zgd ?_ ?_ | refine zgn ?_ ?_ | refine zdd ?_ ?_ | refine zdn ?_ ?_) <;> (intro h; first | (exfalso; omega) | (simp only [h, decide_true, decide_false, not_false_eq_true]) | skip))
    | (refine end_ret [] ?_; simp [go_sem, hlt, hkl, hq, hz, h0l])
    | (refine stepK_is rfl (hu) (by simp) ?_)
    | (refine dstepK_is rfl (hu) rfl (by simp) ?_)
    | (refine (hAB.next (i + 1) (Le.renSub [(50, 900), (900, 50)] [(900, 50), (50, 900)] (by simp [go_sem, hnx, hc1]) (by simp [go_sem, hnx, hc1]) (Le.sub4 rfl (by simp [go_sem, hnx, hc1]))) (by (try dsimp only); omega) ?_))
    | ((fail_if_success with_reducible (refine Owe.mk ?_)); (simp (disch := omega) [go_sem, hlt, hkl, hq, hz, h0l]))
    | (refine And.intro (by omega) ?_)
    | (refine awp_draw 16 mix (by decide +kernel) ?_)
    | (refine nbI fun bq => ?_)
    | ((first | refine zqm ?_ ?_ | refine zgm ?_ ?_ | refine zdm ?_ ?_) <;> (intro h; simp only [h, Bool.not_true, Bool.not_false]))
    | ((first | refine zqs ?_ ?_ | refine zgs ?_ ?_ | refine zds ?_ ?_) <;> (intro h; first | (exfalso; simp at h; omega) | ((try simp only [h]); (try simp at h))))
    | fail)
            all_goals (first | omega | skip)
            exact ⟨hlt⟩
          · have hmn : min k O.length = k := Nat.min_eq_left hk
            have hkk : k + 1 + (O.length - k) = O.length + 1 := by omega
            have hkk2 : k + (O.length - k + 1) = O.length + 1 := by omega
            repeat' (first
    | (refine awp_seqK (fun K hK => ?_))
    | (refine Hide.go (by assumption) ?_)
    | ((first | refine zqd ?_ ?_ | refine zqn ?_ ?_ | refine zgd ?_ ?_ | refine zgn ?_ ?_ | refine zdd ?_ ?_ | refine zdn ?_ ?_) <;> (intro h; first | (exfalso; omega) | (simp only [h, decide_true, decide_false, not_false_eq_true]) | skip))
    | (refine end_ret [] ?_; simp [go_sem, hlt, hkl, hq, hz, hkn, hk0, htd])
    | (refine stepK_is rfl (hu) (by simp) ?_)
    | (refine dstepK_is rfl (hu) rfl (by simp) ?_)
    | ((fail_if_success with_reducible (refine Owe.mk ?_)); (simp (disch := omega) [go_sem, hlt, hkl, hq, hz, hkn, hk0, htd]))
    | (refine And.intro (by omega) ?_)
    | (refine awp_draw 16 mix (by decide +kernel) ?_)
    | (refine nbI fun bq => ?_)
    | ((first | refine zqm ?_ ?_ | refine zgm ?_ ?_ | refine zdm ?_ ?_) <;> (intro h; simp only [h, Bool.not_true, Bool.not_false]))
    | ((first | refine zqs ?_ ?_ | refine zgs ?_ ?_ | refine zds ?_ ?_) <;> (intro h; first | (exfalso; simp at h; omega) | ((try simp only [h]); (try simp at h))))
    | fail)
            refine ⟨⟨fun y hy => cells_take hy, by omega⟩, ?_⟩
            repeat' (first
    | (refine awp_seqK (fun K hK => ?_))
    | (refine Hide.go (by assumption) ?_)
    | ((first | refine zqd ?_ ?_ | refine zqn ?_ ?_ | refine zgd ?_ ?_ | refine zgn ?_ ?_ | refine zdd ?_ ?_ | refine zdn ?_ ?_) <;> (intro h; first | (exfalso; omega) | (simp only [h, decide_true, decide_false, not_false_eq_true]) | skip))
    | (refine end_ret [] ?_; simp [go_sem, hlt, hkl, hq, hz, hkn, hk0, htd, hmn])
    | (refine stepK_is rfl (hu) (by simp) ?_)
    | (refine dstepK_is rfl (hu) rfl (by simp) ?_)
    | ((fail_if_success with_reducible (refine Owe.mk ?_)); (simp (disch := omega) [go_sem, hlt, hkl, hq, hz, hkn, hk0, htd, hmn]))
    | (refine And.intro (by omega) ?_)
    | (refine awp_draw 16 mix (by decide +kernel) ?_)
    | (refine nbI fun bq => ?_)
    | ((first | refine zqm ?_ ?_ | refine zgm ?_ ?_ | refine zdm ?_ ?_) <;> (intro h; simp only [h, Bool.not_true, Bool.not_false]))
    | ((first | refine zqs ?_ ?_ | refine zgs ?_ ?_ | refine zds ?_ ?_) <;> (intro h; first | (exfalso; simp at h; omega) | ((try simp only [h]); (try simp at h))))
    | fail)
            all_goals (first | omega | skip)
            refine ⟨⟨fun y hy => cells_drop hy, by omega⟩, ?_⟩
            repeat' (first
    | (refine awp_seqK (fun K hK => ?_))
    | (refine Hide.go (by assumption) ?_)
    | ((first | refine zqd ?_ ?_ | refine zqn ?_ ?_ | refine zgd ?_ ?_ | refine zgn ?_ ?_ | refine zdd ?_ ?_ | refine zdn ?_ ?_) <;> (intro h; first | (exfalso; omega) | (simp only [h, decide_true, decide_false, not_false_eq_true]) | skip))
    | (refine end_ret [] ?_; simp [go_sem, hlt, hkl, hq, hz, hkn, hk0, htd, hmn])
    | (refine stepK_is rfl (hu) (by simp) ?_)
    | (refine dstepK_is rfl (hu) rfl (by simp) ?_)
    | (refine (hAB.next (i + 1) (Le.renSub [(50, 900), (900, 50)] [(900, 50), (50, 900)] (by simp [go_sem, hnx, hmn, hkk, hkk2]) (by simp [go_sem, hnx, hmn, hkk, hkk2]) (Le.sub4 rfl (by simp [go_sem, hnx, hmn, hkk, hkk2]))) (by (try dsimp only); omega) ?_))
    | ((fail_if_success with_reducible (refine Owe.mk ?_)); (simp (disch := omega) [go_sem, hlt, hkl, hq, hz, hkn, hk0, htd, hmn]))
    | (refine And.intro (by omega) ?_)
    | (refine awp_draw 16 mix (by decide +kernel) ?_)
    | (refine nbI fun bq => ?_)
    | ((first | refine zqm ?_ ?_ | refine zgm ?_ ?_ | refine zdm ?_ ?_) <;> (intro h; simp only [h, Bool.not_true, Bool.not_false]))
    | ((first | refine zqs ?_ ?_ | refine zgs ?_ ?_ | refine zds ?_ ?_) <;> (intro h; first | (exfalso; simp at h; omega) | ((try simp only [h]); (try simp at h))))
    | fail)
            all_goals (first | omega | skip)
            exact ⟨hlt⟩
    · obtain rfl : k = O.length := by omega
      have hin := insT_at (Nat.le_refl _) hall (fun h => absurd h (Nat.lt_irrefl _))
      rw [if_neg (by rintro ⟨h, _⟩; exact Nat.lt_irrefl _ h)] at hin
      rw [hin] at hnx
      by_cases h0 : O = []
      · subst h0
        simp only [List.take_nil, List.drop_nil, List.nil_append, List.length_nil] at *
        repeat' (first
    | (refine awp_seqK (fun K hK => ?_))
    | (refine Hide.go (by assumption) ?_)
    | ((first | refine zqd ?_ ?_ | refine zqn ?_ ?_ | refine zgd ?_ ?_ | refine zgn ?_ ?_ | refine zdd ?_ ?_ | refine zdn ?_ ?_) <;> (intro h; first | (exfalso; omega) | (simp only [h, decide_true, decide_false, not_false_eq_true]) | skip))
    | (refine end_ret [] ?_; simp [go_sem, hlt])
    | (refine (hAB.next (i + 1) (Le.renSub [(50, 900), (900, 50)] [(900, 50), (50, 900)] (by simp [go_sem, hnx]) (by simp [go_sem, hnx]) (Le.sub4 rfl (by simp [go_sem, hnx]))) (by (try dsimp only); omega) ?_))
    | ((fail_if_success with_reducible (refine Owe.mk ?_)); (simp (disch := omega) [go_sem, hlt]))
    | (refine And.intro (by omega) ?_)
    | (refine awp_draw 16 mix (by decide +kernel) ?_)
    | (refine nbI fun bq => ?_)
    | ((first | refine zqm ?_ ?_ | refine zgm ?_ ?_ | refine zdm ?_ ?_) <;> (intro h; simp only [h, Bool.not_true, Bool.not_false]))
    | ((first | refine zqs ?_ ?_ | refine zgs ?_ ?_ | refine zds ?_ ?_) <;> (intro h; first | (exfalso; simp at h; omega) | ((try simp only [h]); (try simp at h))))
    | fail)
        all_goals (first | omega | skip)
        exact ⟨hlt⟩
      · have h0l : ¬ O.length = 0 := fun h => h0 (List.eq_nil_of_length_eq_zero h)
        rw [List.take_length, List.drop_length] at hnx
        repeat' (first
    | (refine awp_seqK (fun K hK => ?_))
    | (refine Hide.go (by assumption) ?_)
    | ((first | refine zqd ?_ ?_ | refine zqn ?_ ?_ | refine zgd ?_ ?_ | refine zgn ?_ ?_ | refine zdd ?_ ?_ | refine zdn ?_ ?_) <;> (intro h; first | (exfalso; omega) | (simp only [h, decide_true, decide_false, not_false_eq_true]) | skip))
    | (refine end_ret [] ?_; simp [go_sem, hlt, hkl, h0, h0l])
    | (refine (hAB.next (i + 1) (Le.renSub [(50, 900), (900, 50)] [(900, 50), (50, 900)] (by simp [go_sem, hnx]) (by simp [go_sem, hnx]) (Le.sub4 rfl (by simp [go_sem, hnx]))) (by (try dsimp only); omega) ?_))
    | ((fail_if_success with_reducible (refine Owe.mk ?_)); (simp (disch := omega) [go_sem, hlt, hkl, h0, h0l]))
    | (refine And.intro (by omega) ?_)
    | (refine awp_draw 16 mix (by decide +kernel) ?_)
    | (refine nbI fun bq => ?_)
    | ((first | refine zqm ?_ ?_ | refine zgm ?_ ?_ | refine zdm ?_ ?_) <;> (intro h; simp only [h, Bool.not_true, Bool.not_false]))
    | ((first | refine zqs ?_ ?_ | refine zgs ?_ ?_ | refine zds ?_ ?_) <;> (intro h; first | (exfalso; simp at h; omega) | ((try simp only [h]); (try simp at h))))
    | fail)
        all_goals (first | omega | skip)
        exact ⟨hlt⟩
  · obtain rfl : i = l.length := by omega
    rw [List.take_length, hR]
    cases own
    · simp only [Bool.false_eq_true, if_false]
      repeat' (first
    | (refine awp_seqK (fun K hK => ?_))
    | (refine Hide.go (by assumption) ?_)
    | ((first | refine zqd ?_ ?_ | refine zqn ?_ ?_ | refine zgd ?_ ?_ | refine zgn ?_ ?_ | refine zdd ?_ ?_ | refine zdn ?_ ?_) <;> (intro h; first | (exfalso; omega) | (simp only [h, decide_true, decide_false, not_false_eq_true]) | skip))
    | (refine end_ret [900] ?_; simp [go_sem])
    | ((fail_if_success with_reducible (refine Owe.mk ?_)); (simp (disch := omega) [go_sem]))
    | (refine And.intro (by omega) ?_)
    | (refine awp_draw 16 mix (by decide +kernel) ?_)
    | (refine nbI fun bq => ?_)
    | ((first | refine zqm ?_ ?_ | refine zgm ?_ ?_ | refine zdm ?_ ?_) <;> (intro h; simp only [h, Bool.not_true, Bool.not_false]))
    | ((first | refine zqs ?_ ?_ | refine zgs ?_ ?_ | refine zds ?_ ?_) <;> (intro h; first | (exfalso; simp at h; omega) | ((try simp only [h]); (try simp at h))))
    | fail)
    · simp only [if_true]
      repeat' (first
    | (refine awp_seqK (fun K hK => ?_))
    | (refine Hide.go (by assumption) ?_)
    | ((first | refine zqd ?_ ?_ | refine zqn ?_ ?_ | refine zgd ?_ ?_ | refine zgn ?_ ?_ | refine zdd ?_ ?_ | refine zdn ?_ ?_) <;> (intro h; first | (exfalso; omega) | (simp only [h, decide_true, decide_false, not_false_eq_true]) | skip))
    | (refine end_ret [] ?_; simp [go_sem])
    | ((fail_if_success with_reducible (refine Owe.mk ?_)); (simp (disch := omega) [go_sem]))
    | (refine And.intro (by omega) ?_)
    | (refine awp_draw 16 mix (by decide +kernel) ?_)
    | (refine nbI fun bq => ?_)
    | ((first | refine zqm ?_ ?_ | refine zgm ?_ ?_ | refine zdm ?_ ?_) <;> (intro h; simp only [h, Bool.not_true, Bool.not_false]))
    | ((first | refine zqs ?_ ?_ | refine zgs ?_ ?_ | refine zds ?_ ?_) <;> (intro h; first | (exfalso; simp at h; omega) | ((try simp only [h]); (try simp at h))))
    | fail)
theorem refSort_ok (l : List Tm) (le fu : Bool) (hb : l.length ≤ 1000000) : ACall Try.prog 36 [.list le fu (l.map eTm)] (fun r => r = .own 2 ((sortT l).map eTm)) := refSort_both l le fu true hb
/-- The same, as a list that nobody writes. -/
theorem refSortF_ok (l : List Tm) (le fu : Bool) (hb : l.length ≤ 1000000) : ACall Try.prog 36 [.list le fu (l.map eTm)] (fun r => r = .list false false ((sortT l).map eTm)) := refSort_both l le fu false hb
end Go.Proofs.Ytldecgghhaoliaa
