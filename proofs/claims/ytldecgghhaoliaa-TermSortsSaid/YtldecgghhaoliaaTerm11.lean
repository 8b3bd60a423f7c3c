/-
  Term11: Find, by both.
-/
import Derived.Test.YtldecgghhaoliaaTerm10
namespace Go.Proofs.Ytldecgghhaoliaa
open Go.Ab
set_option linter.unusedSimpArgs false
set_option maxRecDepth 100000
set_option maxHeartbeats 8000000
theorem BSterm_ok (l : List Tm) (le fu : Bool) (t : Tm) (cf : Tm → Int) (hcmp : ∀ r ∈ l, ACall Try.prog 31 [eTm r, eT t] (fun x => x = nt .i64 (cf r))) (c : Nat) (hc : c ≤ l.length)
    (h1 : ∀ (k : Nat) (hk : k < l.length), k < c → cf l[k] < 0) (h2 : ∀ (k : Nat) (hk : k < l.length), c ≤ k → 0 ≤ cf l[k]) :
    ACall Try.prog 64 [.list le fu (l.map eTm), eT t, .clo 31 []] (fun x => x = .tup [nt .i64 c, bl (match l[c]? with
      | some r => decide (cf r = 0)
      | none => false)]) := by
  refine ACall.bound (i := 0) rfl Try.call64 fun hb => ?_
  rw [List.length_map] at hb
  have hb : l.length ≤ 140737488355328 := hb
  generalize hR : (match l[c]? with
      | some r => decide (cf r = 0)
      | none => false) = R
  refine acall_of_awp Try.func64 Try.call64 rfl (by simp [Try.ntmps64]) ?_; simp only [Try.ntmps64, Try.results64]
  repeat' (first
    | (refine awp_seqK (fun K hK => ?_))
    | (refine Hide.go (by assumption) ?_)
    | ((first | refine zqd ?_ ?_ | refine zqn ?_ ?_ | refine zgd ?_ ?_ | refine zgn ?_ ?_ | refine zdd ?_ ?_ | refine zdn ?_ ?_) <;> (intro h; first | (exfalso; omega) | (simp only [h, decide_true, decide_false, not_false_eq_true]) | skip))
    | (refine end_ret [] ?_; simp [go_sem])
    | ((fail_if_success with_reducible (refine Owe.mk ?_)); (simp (disch := omega) [go_sem]))
    | (refine And.intro (by omega) ?_)
    | (refine awp_draw 8 mix (by decide +kernel) ?_)
    | (refine awp_draw 16 mix (by decide +kernel) ?_)
    | (refine nbI fun bq => ?_)
    | ((first | refine zqm ?_ ?_ | refine zgm ?_ ?_ | refine zdm ?_ ?_) <;> (intro h; simp only [h, Bool.not_true, Bool.not_false]))
    | ((first | refine zqs ?_ ?_ | refine zgs ?_ ?_ | refine zds ?_ ?_) <;> (intro h; first | (exfalso; simp at h; omega) | ((try simp only [h]); (try simp at h))))
    | fail)
  refine awp_for [0, 2, 4, 8] [] (fun x : Nat × Nat => [(9, nt .i64 x.1), (10, nt .i64 x.2)]) (fun x : Nat × Nat => []) (fun x : Nat × Nat => x.2 - x.1) (fun x : Nat × Nat => x.1 ≤ c ∧ c ≤ x.2 ∧ x.2 ≤ l.length) ((0, l.length)) (Le.sub4 rfl (by simp [go_sem])) ⟨?_⟩ ?_
  · exact ⟨Nat.zero_le _, hc, Nat.le_refl _⟩
  intro ⟨i, j⟩ ⟨hi, hj, hl⟩ AA hAA; simp only [Go.Ab.keepT_nil, Go.Ab.keepT_cons, Go.Ab.dropO_nil, Go.Ab.dropO_cons, List.contains_cons, List.contains_nil, List.elem_cons, List.elem_nil, Nat.reduceBEq, beq_self_eq_true, Nat.reduceEqDiff, Bool.or_false, Bool.false_or, Bool.or_true, Bool.true_or, Bool.false_eq_true, if_true, if_false, List.cons_append, List.nil_append, List.append_nil]
  dsimp only at *
  by_cases hij : i < j
  · obtain ⟨m, hm⟩ : ∃ m, m = (i + j) / 2 := ⟨_, rfl⟩
    have hm' : ((i : Int) + j).fdiv 2 = (m : Int) := by rw [Int.fdiv_eq_ediv_of_nonneg _ (by decide)]; omega
    have hm2 : ((i : Int) + j) / 2 = (m : Int) := by omega
    have hml : m < l.length := by omega
    have hu := hcmp l[m] (List.getElem_mem hml)
    rw [eTm_eq] at hu
    by_cases hq : cf l[m] < 0
    · have hlt : m < c := Nat.lt_of_not_le fun hh => by have := h2 m hml hh; omega
      repeat' (first
    | (refine awp_seqK (fun K hK => ?_))
    | (refine Hide.go (by assumption) ?_)
    | ((first | refine zqd ?_ ?_ | refine zqn ?_ ?_ | refine zgd ?_ ?_ | refine zgn ?_ ?_ | refine zdd ?_ ?_ | refine zdn ?_ ?_) <;> (intro h; first | (exfalso; omega) | (simp only [h, decide_true, decide_false, not_false_eq_true]) | skip))
    | (refine end_ret [] ?_; simp [go_sem, hml, hm', hm2])
    | (refine stepK_is rfl (hu) (by simp) ?_)
    | (refine dstepK_is rfl (hu) rfl (by simp) ?_)
    | (refine (hAA.next ((m + 1, j)) (Le.sub4 rfl (by simp [go_sem])) (by (try dsimp only); omega) ?_))
    | ((fail_if_success with_reducible (refine Owe.mk ?_)); (simp (disch := omega) [go_sem, hml, hm', hm2]))
    | (refine And.intro (by omega) ?_)
    | (refine awp_draw 8 mix (by decide +kernel) ?_)
    | (refine awp_draw 16 mix (by decide +kernel) ?_)
    | (refine nbI fun bq => ?_)
    | ((first | refine zqm ?_ ?_ | refine zgm ?_ ?_ | refine zdm ?_ ?_) <;> (intro h; simp only [h, Bool.not_true, Bool.not_false]))
    | ((first | refine zqs ?_ ?_ | refine zgs ?_ ?_ | refine zds ?_ ?_) <;> (intro h; first | (exfalso; simp at h; omega) | ((try simp only [h]); (try simp at h))))
    | fail)
      exact ⟨⟨by omega, hj, hl⟩⟩
    · have hge : c ≤ m := Nat.le_of_not_lt fun hh => hq (h1 m hml hh)
      repeat' (first
    | (refine awp_seqK (fun K hK => ?_))
    | (refine Hide.go (by assumption) ?_)
    | ((first | refine zqd ?_ ?_ | refine zqn ?_ ?_ | refine zgd ?_ ?_ | refine zgn ?_ ?_ | refine zdd ?_ ?_ | refine zdn ?_ ?_) <;> (intro h; first | (exfalso; omega) | (simp only [h, decide_true, decide_false, not_false_eq_true]) | skip))
    | (refine end_ret [] ?_; simp [go_sem, hml, hm', hm2])
    | (refine stepK_is rfl (hu) (by simp) ?_)
    | (refine dstepK_is rfl (hu) rfl (by simp) ?_)
    | (refine (hAA.next ((i, m)) (Le.sub4 rfl (by simp [go_sem])) (by (try dsimp only); omega) ?_))
    | ((fail_if_success with_reducible (refine Owe.mk ?_)); (simp (disch := omega) [go_sem, hml, hm', hm2]))
    | (refine And.intro (by omega) ?_)
    | (refine awp_draw 8 mix (by decide +kernel) ?_)
    | (refine awp_draw 16 mix (by decide +kernel) ?_)
    | (refine nbI fun bq => ?_)
    | ((first | refine zqm ?_ ?_ | refine zgm ?_ ?_ | refine zdm ?_ ?_) <;> (intro h; simp only [h, Bool.not_true, Bool.not_false]))
    | ((first | refine zqs ?_ ?_ | refine zgs ?_ ?_ | refine zds ?_ ?_) <;> (intro h; first | (exfalso; simp at h; omega) | ((try simp only [h]); (try simp at h))))
    | fail)
      exact ⟨⟨hi, hge, by omega⟩⟩
  · obtain rfl : i = c := by omega
    obtain rfl : j = i := by omega
    by_cases hcl : j < l.length
    · have hu := hcmp l[j] (List.getElem_mem hcl)
      rw [eTm_eq] at hu
      rw [List.getElem?_eq_getElem hcl] at hR
      dsimp only at hR
      subst hR
      repeat' (first
    | (refine awp_seqK (fun K hK => ?_))
    | (refine Hide.go (by assumption) ?_)
    | ((first | refine zqd ?_ ?_ | refine zqn ?_ ?_ | refine zgd ?_ ?_ | refine zgn ?_ ?_ | refine zdd ?_ ?_ | refine zdn ?_ ?_) <;> (intro h; first | (exfalso; omega) | (simp only [h, decide_true, decide_false, not_false_eq_true]) | skip))
    | (refine end_ret [] ?_; simp [go_sem, hcl])
    | (refine stepK_is rfl (hu) (by simp) ?_)
    | (refine dstepK_is rfl (hu) rfl (by simp) ?_)
    | ((fail_if_success with_reducible (refine Owe.mk ?_)); (simp (disch := omega) [go_sem, hcl]))
    | (refine And.intro (by omega) ?_)
    | (refine awp_draw 8 mix (by decide +kernel) ?_)
    | (refine awp_draw 16 mix (by decide +kernel) ?_)
    | (refine nbI fun bq => ?_)
    | ((first | refine zqm ?_ ?_ | refine zgm ?_ ?_ | refine zdm ?_ ?_) <;> (intro h; simp only [h, Bool.not_true, Bool.not_false]))
    | ((first | refine zqs ?_ ?_ | refine zgs ?_ ?_ | refine zds ?_ ?_) <;> (intro h; first | (exfalso; simp at h; omega) | ((try simp only [h]); (try simp at h))))
    | fail)
    · rw [List.getElem?_eq_none (by omega)] at hR
      dsimp only at hR
      subst hR
      repeat' (first
    | (refine awp_seqK (fun K hK => ?_))
    | (refine Hide.go (by assumption) ?_)
    | ((first | refine zqd ?_ ?_ | refine zqn ?_ ?_ | refine zgd ?_ ?_ | refine zgn ?_ ?_ | refine zdd ?_ ?_ | refine zdn ?_ ?_) <;> (intro h; first | (exfalso; omega) | (simp only [h, decide_true, decide_false, not_false_eq_true]) | skip))
    | (refine end_ret [] ?_; simp [go_sem, hcl])
    | ((fail_if_success with_reducible (refine Owe.mk ?_)); (simp (disch := omega) [go_sem, hcl]))
    | (refine And.intro (by omega) ?_)
    | (refine awp_draw 8 mix (by decide +kernel) ?_)
    | (refine awp_draw 16 mix (by decide +kernel) ?_)
    | (refine nbI fun bq => ?_)
    | ((first | refine zqm ?_ ?_ | refine zgm ?_ ?_ | refine zdm ?_ ?_) <;> (intro h; simp only [h, Bool.not_true, Bool.not_false]))
    | ((first | refine zqs ?_ ?_ | refine zgs ?_ ?_ | refine zds ?_ ?_) <;> (intro h; first | (exfalso; simp at h; omega) | ((try simp only [h]); (try simp at h))))
    | fail)
/-- Where a term would be put. -/
def cutT (s : List Tm) (t : Tm) : Nat := s.findIdx fun u => !decide (cmpT u t < 0)
theorem cutT_le (s : List Tm) (t : Tm) : cutT s t ≤ s.length := List.findIdx_le_length
theorem cutT_lt {s : List Tm} {t : Tm} {k : Nat} (hk : k < s.length) (h : k < cutT s t) : cmpT s[k] t < 0 := by
  have := List.not_of_lt_findIdx (xs := s) (p := fun u => !decide (cmpT u t < 0)) h
  simpa using this
theorem cutT_ge {s : List Tm} (ha : Sasc s) {t : Tm} {k : Nat} (hk : k < s.length) (h : cutT s t ≤ k) : 0 ≤ cmpT s[k] t := by
  have hc : cutT s t < s.length := by omega
  have h1 : ¬ cmpT s[cutT s t] t < 0 := by
    have := List.findIdx_getElem (xs := s) (p := fun u => !decide (cmpT u t < 0)) (w := hc)
    exact of_decide_eq_false (Bool.not_eq_true' _ ▸ this)
  rcases Nat.lt_or_eq_of_le h with h | h
  · have h2 := List.pairwise_iff_getElem.1 ha _ _ hc hk h
    refine Classical.byContradiction fun h3 => ?_
    exact h1 (cmp_lt_le h2 (by omega))
  · simp only [h] at h1; omega
theorem fndT_cut {s : List Tm} (ha : Sasc s) (t : Tm) : fndT s t = if (match s[cutT s t]? with
    | some r => decide (cmpT r t = 0)
    | none => false) = true then (cutT s t : Int) else -1 := by
  have hidx : ∀ (k : Nat) (hk : k < s.length), s[k] = t → s.findIdx (fun u => decide (u = t)) = k := fun k hk e => by
    rw [List.findIdx_eq hk]
    refine ⟨by simpa using e, fun j hj => ?_⟩
    have := List.pairwise_iff_getElem.1 ha j k (by omega) hk hj
    simp only [decide_eq_false_iff_not]
    intro e2
    rw [e2, e, cmp_self] at this
    omega
  unfold fndT
  by_cases hc : cutT s t < s.length
  · rw [List.getElem?_eq_getElem hc]
    dsimp only
    by_cases hz : cmpT s[cutT s t] t = 0
    · have e := (cmp_zero _ _).1 hz
      rw [hidx _ hc e, if_pos hc, if_pos (decide_eq_true hz)]
    · rw [if_neg (show ¬ decide (cmpT s[cutT s t] t = 0) = true by simpa using hz), if_neg]
      rw [List.findIdx_lt_length]
      rintro ⟨x, hx, hxt⟩
      have hxt := of_decide_eq_true hxt
      obtain ⟨k, hk⟩ := List.getElem?_of_mem hx
      obtain ⟨hkl, rfl⟩ := List.getElem?_eq_some_iff.1 hk
      rcases Nat.lt_trichotomy k (cutT s t) with h | h | h
      · have := cutT_lt hkl h
        rw [hxt, cmp_self] at this; omega
      · subst h; rw [hxt, cmp_self] at hz; exact hz rfl
      · have h1 := List.pairwise_iff_getElem.1 ha _ _ hc hkl h
        rw [hxt] at h1
        have := cutT_ge ha hc (Nat.le_refl _)
        omega
  · rw [List.getElem?_eq_none (by omega)]
    simp only [Bool.false_eq_true, if_false]
    rw [if_neg]
    rw [List.findIdx_lt_length]
    rintro ⟨x, hx, hxt⟩
    have hxt := of_decide_eq_true hxt
    obtain ⟨k, hk⟩ := List.getElem?_of_mem hx
    obtain ⟨hkl, rfl⟩ := List.getElem?_eq_some_iff.1 hk
    have := cutT_lt (t := t) hkl (by omega)
    rw [hxt, cmp_self] at this; omega
theorem Find_ok (s : List Tm) (t : Tm) (ha : Sasc s) (le fu : Bool) : ACall Try.prog 37 [.list le fu (s.map eTm), eT t] (fun r => r = nt .i64 (fndT s t)) := by
  have h := BSterm_ok s le fu t (fun r => cmpT r t) (fun r _ => by rw [eTm_eq]; exact Compare_ok r t) (cutT s t) (cutT_le s t) (fun k hk hc => cutT_lt hk hc) (fun k hk hc => cutT_ge ha hk hc)
  have e := fndT_cut ha t
  generalize (match s[cutT s t]? with
    | some r => decide (cmpT r t = 0)
    | none => false) = b at *
  generalize hf : fndT s t = f at *
  generalize cutT s t = c at *
  cases b
  · simp at e
    subst e
    refine acall_of_awp Try.func37 Try.call37 rfl (by simp [Try.ntmps37]) ?_; simp only [Try.ntmps37, Try.results37]
    repeat' (first
    | (refine awp_seqK (fun K hK => ?_))
    | (refine Hide.go (by assumption) ?_)
    | ((first | refine zqd ?_ ?_ | refine zqn ?_ ?_ | refine zgd ?_ ?_ | refine zgn ?_ ?_ | refine zdd ?_ ?_ | refine zdn ?_ ?_) <;> (intro h; first | (exfalso; omega) | (simp only [h, decide_true, decide_false, not_false_eq_true]) | skip))
    | (refine end_ret [] ?_; simp [go_sem])
    | (refine stepK_is rfl (h) (by simp) ?_)
    | (refine dstepK_is rfl (h) rfl (by simp) ?_)
    | ((fail_if_success with_reducible (refine Owe.mk ?_)); (simp (disch := omega) [go_sem]))
    | (refine And.intro (by omega) ?_)
    | (refine nbI fun bq => ?_)
    | ((first | refine zqm ?_ ?_ | refine zgm ?_ ?_ | refine zdm ?_ ?_) <;> (intro h; simp only [h, Bool.not_true, Bool.not_false]))
    | ((first | refine zqs ?_ ?_ | refine zgs ?_ ?_ | refine zds ?_ ?_) <;> (intro h; first | (exfalso; simp at h; omega) | ((try simp only [h]); (try simp at h))))
    | fail)
  · simp at e
    subst e
    refine acall_of_awp Try.func37 Try.call37 rfl (by simp [Try.ntmps37]) ?_; simp only [Try.ntmps37, Try.results37]
    repeat' (first
    | (refine awp_seqK (fun K hK => ?_))
    | (refine Hide.go (by assumption) ?_)
    | ((first | refine zqd ?_ ?_ | refine zqn ?_ ?_ | refine zgd ?_ ?_ | refine zgn ?_ ?_ | refine zdd ?_ ?_ | refine zdn ?_ ?_) <;> (intro h; first | (exfalso; omega) | (simp only [h, decide_true, decide_false, not_false_eq_true]) | skip))
    | (refine end_ret [] ?_; simp [go_sem])
    | (refine stepK_is rfl (h) (by simp) ?_)
    | (refine dstepK_is rfl (h) rfl (by simp) ?_)
    | ((fail_if_success with_reducible (refine Owe.mk ?_)); (simp (disch := omega) [go_sem]))
    | (refine And.intro (by omega) ?_)
    | (refine nbI fun bq => ?_)
    | ((first | refine zqm ?_ ?_ | refine zgm ?_ ?_ | refine zdm ?_ ?_) <;> (intro h; simp only [h, Bool.not_true, Bool.not_false]))
    | ((first | refine zqs ?_ ?_ | refine zgs ?_ ?_ | refine zds ?_ ?_) <;> (intro h; first | (exfalso; simp at h; omega) | ((try simp only [h]); (try simp at h))))
    | fail)
theorem refFind_ok (s : List Tm) (t : Tm) (le fu : Bool) : ACall Try.prog 38 [.list le fu (s.map eTm), eT t] (fun r => r = nt .i64 (fndT s t)) := by
  refine ACall.bound (i := 0) rfl Try.call38 fun hb => ?_
  rw [List.length_map] at hb
  have hb : s.length ≤ 140737488355328 := hb
  generalize hR : fndT s t = R
  unfold fndT at hR
  refine acall_of_awp Try.func38 Try.call38 rfl (by simp [Try.ntmps38]) ?_; simp only [Try.ntmps38, Try.results38]
  repeat' (first
    | (refine awp_seqK (fun K hK => ?_))
    | (refine Hide.go (by assumption) ?_)
    | ((first | refine zqd ?_ ?_ | refine zqn ?_ ?_ | refine zgd ?_ ?_ | refine zgn ?_ ?_ | refine zdd ?_ ?_ | refine zdn ?_ ?_) <;> (intro h; first | (exfalso; omega) | (simp only [h, decide_true, decide_false, not_false_eq_true]) | skip))
    | (refine end_ret [] ?_; simp [go_sem])
    | ((fail_if_success with_reducible (refine Owe.mk ?_)); (simp (disch := omega) [go_sem]))
    | (refine And.intro (by omega) ?_)
    | (refine awp_draw 7 mix (by decide +kernel) ?_)
    | (refine nbI fun bq => ?_)
    | ((first | refine zqm ?_ ?_ | refine zgm ?_ ?_ | refine zdm ?_ ?_) <;> (intro h; simp only [h, Bool.not_true, Bool.not_false]))
    | ((first | refine zqs ?_ ?_ | refine zgs ?_ ?_ | refine zds ?_ ?_) <;> (intro h; first | (exfalso; simp at h; omega) | ((try simp only [h]); (try simp at h))))
    | fail)
  refine awp_for [0, 3, 7] [] (fun i : Nat => [(8, nt .i64 i)]) (fun i : Nat => []) (fun i : Nat => s.length - i) (fun i : Nat => i ≤ s.length ∧ ∀ (k : Nat) (h : k < s.length), k < i → s[k] ≠ t) (0) (Le.sub4 rfl (by simp [go_sem])) ⟨?_⟩ ?_
  · exact ⟨Nat.zero_le _, fun k h hk => absurd hk (Nat.not_lt_zero _)⟩
  intro i ⟨hi, hn⟩ AA hAA; simp only [Go.Ab.keepT_nil, Go.Ab.keepT_cons, Go.Ab.dropO_nil, Go.Ab.dropO_cons, List.contains_cons, List.contains_nil, List.elem_cons, List.elem_nil, Nat.reduceBEq, beq_self_eq_true, Nat.reduceEqDiff, Bool.or_false, Bool.false_or, Bool.or_true, Bool.true_or, Bool.false_eq_true, if_true, if_false, List.cons_append, List.nil_append, List.append_nil]
  by_cases hlt : i < s.length
  · have hu := refCompare_ok s[i] t
    by_cases hp : cmpT s[i] t = 0
    · have e : s.findIdx (fun u => decide (u = t)) = i := by
        rw [List.findIdx_eq hlt]
        exact ⟨by simpa using (cmp_zero _ _).1 hp, fun j hj => by simpa using hn j (by omega) hj⟩
      rw [e, if_pos hlt] at hR
      subst hR
      rw [hp] at hu
      repeat' (first
    | (refine awp_seqK (fun K hK => ?_))
    | (refine Hide.go (by assumption) ?_)
    | ((first | refine zqd ?_ ?_ | refine zqn ?_ ?_ | refine zgd ?_ ?_ | refine zgn ?_ ?_ | refine zdd ?_ ?_ | refine zdn ?_ ?_) <;> (intro h; first | (exfalso; omega) | (simp only [h, decide_true, decide_false, not_false_eq_true]) | skip))
    | (refine end_ret [] ?_; simp [go_sem, hlt])
    | (refine stepK_is rfl (hu) (by simp) ?_)
    | (refine dstepK_is rfl (hu) rfl (by simp) ?_)
    | ((fail_if_success with_reducible (refine Owe.mk ?_)); (simp (disch := omega) [go_sem, hlt]))
    | (refine And.intro (by omega) ?_)
    | (refine awp_draw 7 mix (by decide +kernel) ?_)
    | (refine nbI fun bq => ?_)
    | ((first | refine zqm ?_ ?_ | refine zgm ?_ ?_ | refine zdm ?_ ?_) <;> (intro h; simp only [h, Bool.not_true, Bool.not_false]))
    | ((first | refine zqs ?_ ?_ | refine zgs ?_ ?_ | refine zds ?_ ?_) <;> (intro h; first | (exfalso; simp at h; omega) | ((try simp only [h]); (try simp at h))))
    | fail)
    · have hne : s[i] ≠ t := fun e => hp ((cmp_zero _ _).2 e)
      generalize cmpT s[i] t = c at *
      repeat' (first
    | (refine awp_seqK (fun K hK => ?_))
    | (refine Hide.go (by assumption) ?_)
    | ((first | refine zqd ?_ ?_ | refine zqn ?_ ?_ | refine zgd ?_ ?_ | refine zgn ?_ ?_ | refine zdd ?_ ?_ | refine zdn ?_ ?_) <;> (intro h; first | (exfalso; omega) | (simp only [h, decide_true, decide_false, not_false_eq_true]) | skip))
    | (refine end_ret [] ?_; simp [go_sem, hlt, hp])
    | (refine stepK_is rfl (hu) (by simp) ?_)
    | (refine dstepK_is rfl (hu) rfl (by simp) ?_)
    | (refine (hAA.next (i + 1) (Le.sub4 rfl (by simp [go_sem])) (by (try dsimp only); omega) ?_))
    | ((fail_if_success with_reducible (refine Owe.mk ?_)); (simp (disch := omega) [go_sem, hlt, hp]))
    | (refine And.intro (by omega) ?_)
    | (refine awp_draw 7 mix (by decide +kernel) ?_)
    | (refine nbI fun bq => ?_)
    | ((first | refine zqm ?_ ?_ | refine zgm ?_ ?_ | refine zdm ?_ ?_) <;> (intro h; simp only [h, Bool.not_true, Bool.not_false]))
    | ((first | refine zqs ?_ ?_ | refine zgs ?_ ?_ | refine zds ?_ ?_) <;> (intro h; first | (exfalso; simp at h; omega) | ((try simp only [h]); (try simp at h))))
    | fail)
      exact ⟨⟨hlt, fun k h hk => by
        by_cases e : k = i
        · subst e; exact hne
        · exact hn k h (by omega)⟩⟩
  · obtain rfl : i = s.length := by omega
    have e : ¬ s.findIdx (fun u => decide (u = t)) < s.length := by
      rw [List.findIdx_lt_length]
      rintro ⟨x, hx, hxp⟩
      obtain ⟨k, hk⟩ := List.getElem?_of_mem hx
      obtain ⟨hkl, rfl⟩ := List.getElem?_eq_some_iff.1 hk
      exact hn k hkl hkl (by simpa using hxp)
    rw [if_neg e] at hR
    subst hR
    repeat' (first
    | (refine awp_seqK (fun K hK => ?_))
    | (refine Hide.go (by assumption) ?_)
    | ((first | refine zqd ?_ ?_ | refine zqn ?_ ?_ | refine zgd ?_ ?_ | refine zgn ?_ ?_ | refine zdd ?_ ?_ | refine zdn ?_ ?_) <;> (intro h; first | (exfalso; omega) | (simp only [h, decide_true, decide_false, not_false_eq_true]) | skip))
    | (refine end_ret [] ?_; simp [go_sem])
    | ((fail_if_success with_reducible (refine Owe.mk ?_)); (simp (disch := omega) [go_sem]))
    | (refine And.intro (by omega) ?_)
    | (refine awp_draw 7 mix (by decide +kernel) ?_)
    | (refine nbI fun bq => ?_)
    | ((first | refine zqm ?_ ?_ | refine zgm ?_ ?_ | refine zdm ?_ ?_) <;> (intro h; simp only [h, Bool.not_true, Bool.not_false]))
    | ((first | refine zqs ?_ ?_ | refine zgs ?_ ?_ | refine zds ?_ ?_) <;> (intro h; first | (exfalso; simp at h; omega) | ((try simp only [h]); (try simp at h))))
    | fail)
end Go.Proofs.Ytldecgghhaoliaa
