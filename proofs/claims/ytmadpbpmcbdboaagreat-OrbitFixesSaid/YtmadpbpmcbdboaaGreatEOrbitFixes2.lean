import Derived.Test.YtmadpbpmcbdboaaGreatS8
import Derived.Test.YtmadpbpmcbdboaaGreatEOrbitFixes1
import Derived.Test.YtmadpbpmcbdboaaGreatS10
import Derived.Test.YtmadpbpmcbdboaaGreatS3
import Derived.Test.YtmadpbpmcbdboaaGreatS2
import Derived.Test.YtmadpbpmcbdboaaGreatS6
import Derived.Test.YtmadpbpmcbdboaaGreatS11
import Derived.Test.YtmadpbpmcbdboaaGreatS7
set_option linter.unusedSimpArgs false
set_option linter.unusedVariables false
namespace Go.Proofs.YtmadpbpmcbdboaaGreat
open Go.Ab
set_option maxRecDepth 100000
set_option maxHeartbeats 8000000
theorem refStabilizer_ok (g : List (List Pr)) (s : List Tm) (le fu lm fm : Bool) (hb : g.length ≤ 1000000) (hbs : s.length ≤ 1000000) (hz : ∀ t ∈ s, t.size ≤ 1000000) :
    ACall Tryz.prog 29 [.list le fu (g.map eG), .list lm fm (s.map eTm)] (fun r => r = .own 1 ((g.filter (stbB s)).map eG)) := by
  have h0 := refSortF_ok s lm fm hbs
  rw [← stF_one] at h0
  have hz0 : (g.take 0).filter (stbB s) = [] := by simp
  refine acall_of_awp Tryz.func29 Tryz.call29 rfl (by simp [Tryz.ntmps29]) ?_; simp only [Tryz.ntmps29, Tryz.results29]
  repeat' (first | (refine awK fun _ _ => ?_) | refine Hide.go (by assumption) ?_ | (fail_if_success with_reducible (refine Owe.mk ?_)); (simp (disch := omega) [go_sem]))
  refine awp_for [0, 1] [900] (fun i : Nat => [(6, nt .i64 i), (5, .ref 900 0 ((g.take i).filter (stbB s)).length)]) (fun i : Nat => [(900, ⟨true, false, false, 1, ((g.take i).filter (stbB s)).map eG, 0⟩)]) (fun i : Nat => g.length - i) (fun i : Nat => i ≤ g.length) (0) (by refine Le.trans ?_ (Le.nil (i := 5) (T := 900) (es := 1) rfl); exact (Le.sub4 rfl (by simp [go_sem, hz0, List.take_zero, List.map_nil, List.filter_nil]))) ⟨?_⟩ ?_
  · exact Nat.zero_le _
  intro i hi AA hAA; simp only [kL, Nat.reduceBEq, Nat.reduceEqDiff, if_true, if_false, List.cons_append, List.nil_append, List.append_nil]
  by_cases hlt : i < g.length
  · have h1 := (refState_ok g[i] s false false lm fm hbs hz).frz
    have h2 := refCompareList_ok (stF g[i] s) (stF [] s) false false false false
    have hnx := flt_next (cf := stbB s) hlt
    have hle : ((g.take i).filter (stbB s)).length ≤ i := Nat.le_trans (List.length_filter_le _ _) (by simp; omega)
    have hsb : stbB s g[i] = decide (cmpL (stF g[i] s) (stF [] s) = 0) := rfl
    generalize (g.take i).filter (stbB s) = A at *
    rw [hsb] at hnx
    generalize cmpL (stF g[i] s) (stF [] s) = c at *
    generalize stF g[i] s = u at *
    generalize stF [] s = v at *
    by_cases hc : c = 0
    · rw [decide_eq_true hc] at hnx
      simp only [if_true] at hnx
      repeat' (first | (refine awK fun _ _ => ?_) | refine Hide.go (by assumption) ?_ | refine stepK_is rfl (h1) (by simp) ?_ | refine stepK_is rfl (h0) (by simp) ?_ | refine stepK_is rfl (h2) (by simp) ?_ | refine (hAA.next (i + 1) (Le.sub4 rfl (by simp [go_sem, hnx, eG])) (by (try dsimp only); omega) ?_) | (fail_if_success with_reducible (refine Owe.mk ?_)); (simp (disch := omega) [go_sem, hlt, eG, hc]) | refine And.intro (by omega) ?_)
      all_goals (first | omega | skip)
      exact ⟨hlt⟩
    · rw [decide_eq_false hc] at hnx
      simp only [Bool.false_eq_true, if_false, List.append_nil] at hnx
      repeat' (first | (refine awK fun _ _ => ?_) | refine Hide.go (by assumption) ?_ | refine stepK_is rfl (h1) (by simp) ?_ | refine stepK_is rfl (h0) (by simp) ?_ | refine stepK_is rfl (h2) (by simp) ?_ | refine (hAA.next (i + 1) (Le.sub4 rfl (by simp [go_sem, hnx])) (by (try dsimp only); omega) ?_) | (fail_if_success with_reducible (refine Owe.mk ?_)); (simp (disch := omega) [go_sem, hlt, eG, hc]))
      all_goals (first | omega | skip)
      exact ⟨hlt⟩
  · obtain rfl : i = g.length := by omega
    rw [List.take_length]
    repeat' (first | (refine awK fun _ _ => ?_) | refine Hide.go (by assumption) ?_ | refine end_ret [] ?_; simp [go_sem] | (fail_if_success with_reducible (refine Owe.mk ?_)); (simp (disch := omega) [go_sem]))
def fixN (l : List Tm) (p : List Pr) (k : Nat) : Bool := (l.take k).all fun t => decide (cmpT (tmP p t) t = 0)
theorem fixN_next {l : List Tm} {p : List Pr} {k : Nat} (h : k < l.length) : fixN l p (k + 1) = (fixN l p k && decide (cmpT (tmP p l[k]) l[k] = 0)) := by
  unfold fixN
  rw [take_next h, List.all_append]
  simp
theorem fixN_all {l : List Tm} {p : List Pr} : fixN l p l.length = fixB l p := by
  unfold fixN fixB
  rw [List.take_length, List.all_eq_not_any_not]
theorem refFixing_ok (g : List (List Pr)) (l : List Tm) (le fu lm fm : Bool) (hb : g.length ≤ 1000000) (hbl : l.length ≤ 1000000) (hz : ∀ t ∈ l, t.size ≤ 1000000) :
    ACall Tryz.prog 28 [.list le fu (g.map eG), .list lm fm (l.map eTm)] (fun r => r = .own 1 ((g.filter (fixB l)).map eG)) := by
  have hz0 : (g.take 0).filter (fixB l) = [] := by simp
  refine acall_of_awp Tryz.func28 Tryz.call28 rfl (by simp [Tryz.ntmps28]) ?_; simp only [Tryz.ntmps28, Tryz.results28]
  repeat' (first | (refine awK fun _ _ => ?_) | refine Hide.go (by assumption) ?_ | (fail_if_success with_reducible (refine Owe.mk ?_)); (simp (disch := omega) [go_sem]))
  refine awp_for [0, 1] [900] (fun i : Nat => [(6, nt .i64 i), (5, .ref 900 0 ((g.take i).filter (fixB l)).length)]) (fun i : Nat => [(900, ⟨true, false, false, 1, ((g.take i).filter (fixB l)).map eG, 0⟩)]) (fun i : Nat => g.length - i) (fun i : Nat => i ≤ g.length) (0) (by refine Le.trans ?_ (Le.nil (i := 5) (T := 900) (es := 1) rfl); exact (Le.sub4 rfl (by simp [go_sem, hz0, List.take_zero, List.map_nil, List.filter_nil]))) ⟨?_⟩ ?_
  · exact Nat.zero_le _
  intro i hi AA hAA; simp only [kL, Nat.reduceBEq, Nat.reduceEqDiff, if_true, if_false, List.cons_append, List.nil_append, List.append_nil]
  by_cases hlt : i < g.length
  · have hnx := flt_next (cf := fixB l) hlt
    have hle : ((g.take i).filter (fixB l)).length ≤ i := Nat.le_trans (List.length_filter_le _ _) (by simp; omega)
    generalize (g.take i).filter (fixB l) = A at *
    have hAB := hAA
    have hf0 : fixN l g[i] 0 = true := by simp [fixN]
    repeat' (first | (refine awK fun _ _ => ?_) | refine Hide.go (by assumption) ?_ | (fail_if_success with_reducible (refine Owe.mk ?_)); (simp (disch := omega) [go_sem, hlt]))
    refine awp_for [0, 1, 5, 6] [900] (fun k : Nat => [(8, nt .i64 k), (7, bl (fixN l g[i] k))]) (fun k : Nat => [(900, ⟨true, false, false, 1, A.map eG, 0⟩)]) (fun k : Nat => l.length - k) (fun k : Nat => k ≤ l.length) (0) (Le.sub4 rfl (by simp [go_sem, hf0])) ⟨?_⟩ ?_
    · exact Nat.zero_le _
    intro k hk AA hAA; simp only [kL, Nat.reduceBEq, Nat.reduceEqDiff, if_true, if_false, List.cons_append, List.nil_append, List.append_nil]
    by_cases hkl : k < l.length
    · have h1 := refTerm_ok g[i] false false l[k] (hz _ (List.getElem_mem hkl))
      have h2 := refCompare_ok (tmP g[i] l[k]) l[k]
      have hn := fixN_next (p := g[i]) hkl
      generalize cmpT (tmP g[i] l[k]) l[k] = c at *
      generalize tmP g[i] l[k] = u at *
      cases hF : fixN l g[i] k
      · rw [hF, Bool.false_and] at hn
        repeat' (first | (refine awK fun _ _ => ?_) | refine Hide.go (by assumption) ?_ | refine (hAA.next (k + 1) (Le.sub4 rfl (by simp [go_sem, hn])) (by (try dsimp only); omega) ?_) | (fail_if_success with_reducible (refine Owe.mk ?_)); (simp (disch := omega) [go_sem, hlt, hkl, eG, hF]) | refine awp_draw 19 mix (by decide +kernel) ?_)
        all_goals (first | omega | skip)
        exact ⟨hkl⟩
      · rw [hF, Bool.true_and] at hn
        by_cases hc : c = 0
        · rw [decide_eq_true hc] at hn
          repeat' (first | (refine awK fun _ _ => ?_) | refine Hide.go (by assumption) ?_ | refine dstepK_is rfl (h1) rfl (by simp) ?_ | refine dstepK_is rfl (h2) rfl (by simp) ?_ | refine (hAA.next (k + 1) (Le.sub4 rfl (by simp [go_sem, hn])) (by (try dsimp only); omega) ?_) | (fail_if_success with_reducible (refine Owe.mk ?_)); (simp (disch := omega) [go_sem, hlt, hkl, eG, hF, hc]) | refine awp_draw 19 mix (by decide +kernel) ?_)
          all_goals (first | omega | skip)
          exact ⟨hkl⟩
        · rw [decide_eq_false hc] at hn
          repeat' (first | (refine awK fun _ _ => ?_) | refine Hide.go (by assumption) ?_ | refine dstepK_is rfl (h1) rfl (by simp) ?_ | refine dstepK_is rfl (h2) rfl (by simp) ?_ | refine (hAA.next (k + 1) (Le.sub4 rfl (by simp [go_sem, hn])) (by (try dsimp only); omega) ?_) | (fail_if_success with_reducible (refine Owe.mk ?_)); (simp (disch := omega) [go_sem, hlt, hkl, eG, hF, hc]) | refine awp_draw 19 mix (by decide +kernel) ?_)
          all_goals (first | omega | skip)
          exact ⟨hkl⟩
    · obtain rfl : k = l.length := by omega
      have hfa := fixN_all (l := l) (p := g[i])
      cases hF : fixB l g[i]
      · rw [hF] at hfa hnx
        simp only [Bool.false_eq_true, if_false, List.append_nil] at hnx
        repeat' (first | (refine awK fun _ _ => ?_) | refine Hide.go (by assumption) ?_ | refine (hAB.next (i + 1) (Le.sub4 rfl (by simp [go_sem, hnx])) (by (try dsimp only); omega) ?_) | (fail_if_success with_reducible (refine Owe.mk ?_)); (simp (disch := omega) [go_sem, hlt, eG, hfa]))
        all_goals (first | omega | skip)
        exact ⟨hlt⟩
      · rw [hF] at hfa hnx
        simp only [if_true] at hnx
        repeat' (first | (refine awK fun _ _ => ?_) | refine Hide.go (by assumption) ?_ | refine (hAB.next (i + 1) (Le.sub4 rfl (by simp [go_sem, hnx, eG])) (by (try dsimp only); omega) ?_) | (fail_if_success with_reducible (refine Owe.mk ?_)); (simp (disch := omega) [go_sem, hlt, eG, hfa]) | refine And.intro (by omega) ?_)
        all_goals (first | omega | skip)
        exact ⟨hlt⟩
  · obtain rfl : i = g.length := by omega
    rw [List.take_length]
    repeat' (first | (refine awK fun _ _ => ?_) | refine Hide.go (by assumption) ?_ | refine end_ret [] ?_; simp [go_sem] | (fail_if_success with_reducible (refine Owe.mk ?_)); (simp (disch := omega) [go_sem]))
theorem Same29_ok (a b : List Pr) (le fu le' fu' : Bool) : ACall Tryz.prog 24 [.list le fu (a.map ePr), .list le' fu' (b.map ePr)] (fun r => r = bl (decide (a = b))) := by
  refine ACall.bound (i := 0) rfl Tryz.call24 fun hb => ?_
  rw [List.length_map] at hb
  have hb : a.length ≤ 140737488355328 := hb
  by_cases h0 : a.length = b.length
  · generalize hR : decide (a = b) = R
    have h0' : ¬ (a.length : Int) ≠ b.length := by omega
    refine acall_of_awp Tryz.func24 Tryz.call24 rfl (by simp [Tryz.ntmps24]) ?_; simp only [Tryz.ntmps24, Tryz.results24]
    repeat' (first | (refine awK fun _ _ => ?_) | refine Hide.go (by assumption) ?_ | (fail_if_success with_reducible (refine Owe.mk ?_)); (simp (disch := omega) [go_sem, h0]))
    all_goals (first | (exfalso; omega) | skip)
    refine awp_for [0, 1] [] (fun i : Nat => [(5, nt .i64 i)]) (fun i : Nat => []) (fun i : Nat => b.length - i) (fun i : Nat => i ≤ b.length ∧ ∀ (k : Nat) (hk : k < a.length) (hk' : k < b.length), k < i → a[k] = b[k]) (0) (Le.sub4 rfl (by simp [go_sem])) ⟨?_⟩ ?_
    · exact ⟨Nat.zero_le _, fun k _ _ hk => absurd hk (Nat.not_lt_zero _)⟩
    intro i ⟨hi, hn⟩ AA hAA; simp only [kL, Nat.reduceBEq, Nat.reduceEqDiff, if_true, if_false, List.cons_append, List.nil_append, List.append_nil]
    by_cases hlt : i < b.length
    · have hla : i < a.length := by omega
      by_cases hq : a[i] = b[i]
      · repeat' (first | (refine awK fun _ _ => ?_) | refine Hide.go (by assumption) ?_ | refine (hAA.next (i + 1) (Le.sub4 rfl (by simp [go_sem])) (by (try dsimp only); omega) ?_) | (fail_if_success with_reducible (refine Owe.mk ?_)); (simp (disch := omega) [go_sem, hlt, hla, ePr, hq]) | refine awp_draw 9 mix (by decide +kernel) ?_)
        all_goals (first | omega | skip)
        all_goals exact ⟨hlt, fun k hk hk' hki => by rcases Nat.lt_or_eq_of_le (Nat.le_of_lt_succ hki) with h | rfl; exact hn k hk hk' h; exact hq⟩
      · have hu : R = false := by
          rw [← hR, decide_eq_false_iff_not]
          intro h
          apply hq
          simp only [h]
        subst hu
        have hqq := pr_ne hq
        repeat' (first | (refine awK fun _ _ => ?_) | refine Hide.go (by assumption) ?_ | refine end_ret [] ?_; simp [go_sem, hlt, hla, ePr, hq, hqq] | (fail_if_success with_reducible (refine Owe.mk ?_)); (simp (disch := omega) [go_sem, hlt, hla, ePr, hq, hqq]) | refine awp_draw 9 mix (by decide +kernel) ?_)
    · obtain rfl : i = b.length := by omega
      have hu : R = true := by
        rw [← hR, decide_eq_true_eq]
        exact List.ext_getElem h0 fun k h1 h2 => hn k h1 h2 h2
      subst hu
      repeat' (first | (refine awK fun _ _ => ?_) | refine Hide.go (by assumption) ?_ | refine zqd ?_ ?_ <;> (intro h; first | (exfalso; omega) | (simp only [h, decide_true, decide_false, not_false_eq_true])) | refine end_ret [] ?_; simp [go_sem] | (fail_if_success with_reducible (refine Owe.mk ?_)); (simp (disch := omega) [go_sem]))
  · rw [decide_eq_false (fun h => h0 (by rw [h]))]
    refine acall_of_awp Tryz.func24 Tryz.call24 rfl (by simp [Tryz.ntmps24]) ?_; simp only [Tryz.ntmps24, Tryz.results24]
    repeat' (first | (refine awK fun _ _ => ?_) | refine Hide.go (by assumption) ?_ | refine zqn ?_ ?_ <;> (intro h; first | (exfalso; omega) | (simp only [h, decide_true, decide_false, not_false_eq_true])) | refine end_ret [] ?_; simp [go_sem, h0] | (fail_if_success with_reducible (refine Owe.mk ?_)); (simp (disch := omega) [go_sem, h0]))
    all_goals (first | (exfalso; omega) | skip)
theorem same30L_ok (a b : List (List Pr)) (le fu le' fu' : Bool)  : ACall Tryz.prog 26 [.list le fu (a.map eG), .list le' fu' (b.map eG)] (fun r => r = bl (decide (a = b))) := by
  refine ACall.bound (i := 0) rfl Tryz.call26 fun hb => ?_
  rw [List.length_map] at hb
  have hb : a.length ≤ 140737488355328 := hb
  by_cases h0 : a.length = b.length
  · generalize hR : decide (a = b) = R
    have h0' : ¬ (a.length : Int) ≠ b.length := by omega
    refine acall_of_awp Tryz.func26 Tryz.call26 rfl (by simp [Tryz.ntmps26]) ?_; simp only [Tryz.ntmps26, Tryz.results26]
    repeat' (first | (refine awK fun _ _ => ?_) | refine Hide.go (by assumption) ?_ | (fail_if_success with_reducible (refine Owe.mk ?_)); (simp (disch := omega) [go_sem, h0]))
    all_goals (first | (exfalso; omega) | skip)
    refine awp_for [0, 1] [] (fun i : Nat => [(5, nt .i64 i)]) (fun i : Nat => []) (fun i : Nat => b.length - i) (fun i : Nat => i ≤ b.length ∧ ∀ (k : Nat) (hk : k < a.length) (hk' : k < b.length), k < i → a[k] = b[k]) (0) (Le.sub4 rfl (by simp [go_sem])) ⟨?_⟩ ?_
    · exact ⟨Nat.zero_le _, fun k _ _ hk => absurd hk (Nat.not_lt_zero _)⟩
    intro i ⟨hi, hn⟩ AA hAA; simp only [kL, Nat.reduceBEq, Nat.reduceEqDiff, if_true, if_false, List.cons_append, List.nil_append, List.append_nil]
    by_cases hlt : i < b.length
    · have hla : i < a.length := by omega
      have hs := Same29_ok a[i] b[i] false false false false
      by_cases hq : a[i] = b[i]
      · rw [decide_eq_true hq] at hs
        repeat' (first | (refine awK fun _ _ => ?_) | refine Hide.go (by assumption) ?_ | refine dstepK_is rfl (hs) rfl (by simp) ?_ | refine (hAA.next (i + 1) (Le.sub4 rfl (by simp [go_sem])) (by (try dsimp only); omega) ?_) | (fail_if_success with_reducible (refine Owe.mk ?_)); (simp (disch := omega) [go_sem, hlt, hla, eG]) | refine awp_draw 10 mix (by decide +kernel) ?_)
        all_goals (first | omega | skip)
        all_goals exact ⟨hlt, fun k hk hk' hki => by rcases Nat.lt_or_eq_of_le (Nat.le_of_lt_succ hki) with h | rfl; exact hn k hk hk' h; exact hq⟩
      · have hu : R = false := by
          rw [← hR, decide_eq_false_iff_not]
          intro h
          apply hq
          simp only [h]
        subst hu
        rw [decide_eq_false hq] at hs
        repeat' (first | (refine awK fun _ _ => ?_) | refine Hide.go (by assumption) ?_ | refine end_ret [] ?_; simp [go_sem, hlt, hla, eG] | refine dstepK_is rfl (hs) rfl (by simp) ?_ | (fail_if_success with_reducible (refine Owe.mk ?_)); (simp (disch := omega) [go_sem, hlt, hla, eG]) | refine awp_draw 10 mix (by decide +kernel) ?_)
    · obtain rfl : i = b.length := by omega
      have hu : R = true := by
        rw [← hR, decide_eq_true_eq]
        exact List.ext_getElem h0 fun k h1 h2 => hn k h1 h2 h2
      subst hu
      repeat' (first | (refine awK fun _ _ => ?_) | refine Hide.go (by assumption) ?_ | refine zqd ?_ ?_ <;> (intro h; first | (exfalso; omega) | (simp only [h, decide_true, decide_false, not_false_eq_true])) | refine end_ret [] ?_; simp [go_sem] | (fail_if_success with_reducible (refine Owe.mk ?_)); (simp (disch := omega) [go_sem]))
  · rw [decide_eq_false (fun h => h0 (by rw [h]))]
    refine acall_of_awp Tryz.func26 Tryz.call26 rfl (by simp [Tryz.ntmps26]) ?_; simp only [Tryz.ntmps26, Tryz.results26]
    repeat' (first | (refine awK fun _ _ => ?_) | refine Hide.go (by assumption) ?_ | refine zqn ?_ ?_ <;> (intro h; first | (exfalso; omega) | (simp only [h, decide_true, decide_false, not_false_eq_true])) | refine end_ret [] ?_; simp [go_sem, h0] | (fail_if_success with_reducible (refine Owe.mk ?_)); (simp (disch := omega) [go_sem, h0]))
    all_goals (first | (exfalso; omega) | skip)
def fitB (g : List (List Pr)) (s : List Tm) : Bool := fewB g && (smallL 20 s && g.all validP)
theorem fit_ok (g : List (List Pr)) (s : List Tm) (le fu lm fm : Bool) : ACall Tryz.prog 8 [.list le fu (g.map eG), .list lm fm (s.map eTm)] (fun r => r = bl (fitB g s)) := by
  have h1 := few_ok g le fu
  have h2 := SmallTerms_ok s lm fm 20 (by decide)
  unfold fitB
  cases hf : fewB g
  · rw [hf] at h1
    refine acall_of_awp Tryz.func8 Tryz.call8 rfl (by simp [Tryz.ntmps8]) ?_; simp only [Tryz.ntmps8, Tryz.results8]
    repeat' (first | (refine awK fun _ _ => ?_) | refine Hide.go (by assumption) ?_ | refine end_ret [] ?_; simp [go_sem] | refine stepK_is rfl (h1) (by simp) ?_ | (fail_if_success with_reducible (refine Owe.mk ?_)); (simp (disch := omega) [go_sem]))
  · rw [hf] at h1
    obtain ⟨hl, hp⟩ := fewB_len hf
    cases hs : smallL 20 s
    · rw [hs] at h2
      refine acall_of_awp Tryz.func8 Tryz.call8 rfl (by simp [Tryz.ntmps8]) ?_; simp only [Tryz.ntmps8, Tryz.results8]
      repeat' (first | (refine awK fun _ _ => ?_) | refine Hide.go (by assumption) ?_ | refine end_ret [] ?_; simp [go_sem] | refine stepK_is rfl (h1) (by simp) ?_ | refine stepK_is rfl (h2) (by simp) ?_ | (fail_if_success with_reducible (refine Owe.mk ?_)); (simp (disch := omega) [go_sem]))
    · rw [hs] at h2
      simp only [Bool.true_and]
      generalize hV : g.all validP = V
      refine acall_of_awp Tryz.func8 Tryz.call8 rfl (by simp [Tryz.ntmps8]) ?_; simp only [Tryz.ntmps8, Tryz.results8]
      repeat' (first | (refine awK fun _ _ => ?_) | refine Hide.go (by assumption) ?_ | refine stepK_is rfl (h1) (by simp) ?_ | refine stepK_is rfl (h2) (by simp) ?_ | (fail_if_success with_reducible (refine Owe.mk ?_)); (simp (disch := omega) [go_sem]))
      refine awp_for [0] [] (fun i : Nat => [(5, nt .i64 i)]) (fun i : Nat => []) (fun i : Nat => g.length - i) (fun i : Nat => i ≤ g.length ∧ ∀ (k : Nat) (hk : k < g.length), k < i → validP g[k] = true) (0) (Le.sub4 rfl (by simp [go_sem])) ⟨?_⟩ ?_
      · exact ⟨Nat.zero_le _, fun k _ hk => absurd hk (Nat.not_lt_zero _)⟩
      intro i ⟨hi, hn⟩ AA hAA; simp only [kL, Nat.reduceBEq, Nat.reduceEqDiff, if_true, if_false, List.cons_append, List.nil_append, List.append_nil]
      by_cases hlt : i < g.length
      · have hv := refValid_ok g[i] false false (by have := hp _ (List.getElem_mem hlt); omega)
        cases hvi : validP g[i]
        · rw [hvi] at hv
          have hV0 : V = false := hV.symm.trans (all_bad hlt hvi)
          subst hV0
          repeat' (first | (refine awK fun _ _ => ?_) | refine Hide.go (by assumption) ?_ | refine end_ret [] ?_; simp [go_sem, hlt, eG] | refine stepK_is rfl (hv) (by simp) ?_ | (fail_if_success with_reducible (refine Owe.mk ?_)); (simp (disch := omega) [go_sem, hlt, eG]))
        · rw [hvi] at hv
          have hst := all_step hn hlt hvi
          repeat' (first | (refine awK fun _ _ => ?_) | refine Hide.go (by assumption) ?_ | refine stepK_is rfl (hv) (by simp) ?_ | refine (hAA.next (i + 1) (Le.sub4 rfl (by simp [go_sem])) (by (try dsimp only); omega) ?_) | (fail_if_success with_reducible (refine Owe.mk ?_)); (simp (disch := omega) [go_sem, hlt, eG]))
          all_goals (first | omega | skip)
          all_goals exact ⟨hlt, hst⟩
      · obtain rfl : i = g.length := by omega
        have hV1 : V = true := hV.symm.trans (all_good hn)
        subst hV1
        repeat' (first | (refine awK fun _ _ => ?_) | refine Hide.go (by assumption) ?_ | refine end_ret [] ?_; simp [go_sem] | (fail_if_success with_reducible (refine Owe.mk ?_)); (simp (disch := omega) [go_sem]))
theorem small20 {l : List Tm} (h : smallL 20 l = true) : l.length ≤ 20 ∧ ∀ t ∈ l, t.size ≤ 20 := by
  unfold smallL at h
  rw [Bool.and_eq_true, decide_eq_true_eq, List.all_eq_true] at h
  exact ⟨by omega, fun t ht => by have := smallT_size (by decide) (h.2 t ht); omega⟩
theorem fitB_facts {g : List (List Pr)} {s : List Tm} (h : fitB g s = true) : g.length ≤ 24 ∧ (∀ p ∈ g, p.length ≤ 8) ∧ s.length ≤ 20 ∧ (∀ t ∈ s, t.size ≤ 20) ∧ ∀ p ∈ g, validP p = true := by
  unfold fitB at h
  rw [Bool.and_eq_true, Bool.and_eq_true, List.all_eq_true] at h
  obtain ⟨h1, h2, h3⟩ := h
  exact ⟨(fewB_len h1).1, (fewB_len h1).2, (small20 h2).1, (small20 h2).2, h3⟩
theorem OrbitFixes_of (hal : ACall Tryz.prog 10 [] (fun r => r = bl true)) (g : List (List Pr)) (s l : List Tm) (fu fs fl : Bool) :
    ACall Tryz.prog 7 [.list false fu (g.map eG), .list false fs (s.map eTm), .list false fl (l.map eTm)] (fun r => r = bl true) := by
  have h1 := fit_ok g s false fu false fs
  have h2 := SmallTerms_ok l false fl 20 (by decide)
  cases hf : fitB g s
  · rw [hf] at h1
    refine acall_of_awp Tryz.func7 Tryz.call7 rfl (by simp [Tryz.ntmps7]) ?_; simp only [Tryz.ntmps7, Tryz.results7]
    repeat' (first | (refine awK fun _ _ => ?_) | refine Hide.go (by assumption) ?_ | refine end_ret [] ?_; simp [go_sem] | refine stepK_is rfl (hal) (by simp) ?_ | refine stepK_is rfl (h1) (by simp) ?_ | (fail_if_success with_reducible (refine Owe.mk ?_)); (simp (disch := omega) [go_sem]))
  · rw [hf] at h1
    cases hs : smallL 20 l
    · rw [hs] at h2
      refine acall_of_awp Tryz.func7 Tryz.call7 rfl (by simp [Tryz.ntmps7]) ?_; simp only [Tryz.ntmps7, Tryz.results7]
      repeat' (first | (refine awK fun _ _ => ?_) | refine Hide.go (by assumption) ?_ | refine end_ret [] ?_; simp [go_sem] | refine stepK_is rfl (hal) (by simp) ?_ | refine stepK_is rfl (h1) (by simp) ?_ | refine stepK_is rfl (h2) (by simp) ?_ | (fail_if_success with_reducible (refine Owe.mk ?_)); (simp (disch := omega) [go_sem]))
    · rw [hs] at h2
      obtain ⟨g1, g2, g3, g4, g5⟩ := fitB_facts hf
      obtain ⟨l1, l2⟩ := small20 hs
      have hg : ∀ p ∈ g, p.length ≤ 1000000 := fun p h => by have := g2 p h; omega
      have hzs : ∀ t ∈ s, t.size ≤ 1000000 := fun t h => by have := g4 t h; omega
      have hzl : ∀ t ∈ l, t.size ≤ 1000000 := fun t h => by have := l2 t h; omega
      have k1 := (Fixing_ok g l false fu fl (by omega) hg hzl).frz
      have k2 := (refFixing_ok g l false fu false fl (by omega) (by omega) hzl).frz
      have k3 := (Stabilizer_ok g s false fu fs (by omega) hg (by omega) hzs).frz
      have k4 := (refStabilizer_ok g s false fu false fs (by omega) (by omega) hzs).frz
      have k5 := same30L_ok (g.filter (fixB l)) (g.filter (fixB l)) false false false false
      have k6 := same30L_ok (g.filter (stbB s)) (g.filter (stbB s)) false false false false
      rw [decide_eq_true rfl] at k5 k6
      generalize g.filter (fixB l) = A at *
      generalize g.filter (stbB s) = B at *
      refine acall_of_awp Tryz.func7 Tryz.call7 rfl (by simp [Tryz.ntmps7]) ?_; simp only [Tryz.ntmps7, Tryz.results7]
      repeat' (first | (refine awK fun _ _ => ?_) | refine Hide.go (by assumption) ?_ | refine end_ret [] ?_; simp [go_sem] | refine stepK_is rfl (hal) (by simp) ?_ | refine stepK_is rfl (h1) (by simp) ?_ | refine stepK_is rfl (h2) (by simp) ?_ | refine stepK_is rfl (k1) (by simp) ?_ | refine stepK_is rfl (k2) (by simp) ?_ | refine stepK_is rfl (k5) (by simp) ?_ | refine stepK_is rfl (k3) (by simp) ?_ | refine stepK_is rfl (k4) (by simp) ?_ | refine stepK_is rfl (k6) (by simp) ?_ | (fail_if_success with_reducible (refine Owe.mk ?_)); (simp (disch := omega) [go_sem]))
theorem OrbitFixes_ok (g : List (List Pr)) (s l : List Tm) (_ _ _ : True) : ACall Tryz.prog 7 [.list false false (g.map eG), .list false false (s.map eTm), .list false false (l.map eTm)] (fun r => r = bl true) := OrbitFixes_of alive_ok g s l false false false
open Go.RowKit
section
variable {H : Type} {enc : TypeId × Value → H} {W : World}
theorem came_term_terms : ∀ n : Nat, Came enc Tryz.prog W n 48 eT (fun _ => True) ∧ Came enc Tryz.prog W n 24 (fun l : List Tm => .list false false (l.map eTm)) (fun _ => True)
  | 0 => ⟨Came.zero, Came.zero⟩
  | n + 1 => by
    obtain ⟨h1, h2⟩ := came_term_terms n
    refine ⟨(Came.struct Tryz.underlying48 rfl (by kernel_rfl) (CameF.cons 1 rfl (by kernel_rfl) (Came.string Tryz.underlying9) (CameF.cons 1 rfl (by kernel_rfl) h2 CameF.nil))).map (fun x => Tm.mk x.1 x.2.1) (fun x h => ⟨trivial, rfl⟩), ?_⟩
    refine (Came.slice Tryz.underlying24 (by decide +kernel) (by decide +kernel) h1).map (fun x => x) (fun x h => ⟨trivial, ?_⟩)
    congr 1
    exact List.map_congr_left fun t _ => eTm_eq t
theorem came_terms (n : Nat) : Came enc Tryz.prog W n 24 (fun l : List Tm => .list false false (l.map eTm)) (fun _ => True) := (came_term_terms n).2
end
end Go.Proofs.YtmadpbpmcbdboaaGreat
