import Derived.Test.YtmadpbpmcbdboaaGreatS6
import Derived.Test.YtmadpbpmcbdboaaGreatS10
import Derived.Test.YtmadpbpmcbdboaaGreatEOrbitCanons1
import Derived.Test.YtmadpbpmcbdboaaGreatS11
import Derived.Test.YtmadpbpmcbdboaaGreatS2
import Derived.Test.YtmadpbpmcbdboaaGreatS7
set_option linter.unusedSimpArgs false
set_option linter.unusedVariables false
namespace Go.Proofs.YtmadpbpmcbdboaaGreat
open Go.Ab
set_option maxRecDepth 100000
set_option maxHeartbeats 8000000
theorem refCanon_ok (g : List (List Pr)) (s : List Tm) (lg fg ls fs : Bool) (hb : g.length ≤ 1000000) (hbs : s.length ≤ 1000000) (hz : ∀ t ∈ s, t.size ≤ 1000000) :
    ACall Tryz.prog 17 [.list lg fg (g.map eG), .list ls fs (s.map eTm)] (fun r => r = .tup [eLs (canF g s).1, nt .i64 (canF g s).2]) := by
  have h0 := refSortF_ok s ls fs hbs
  have hcz : canN g s 0 = (sortT s, -1) := by rw [canN_zero, stF_one]
  unfold canF
  refine acall_of_awp Tryz.func17 Tryz.call17 rfl (by simp [Tryz.ntmps17]) ?_; simp only [Tryz.ntmps17, Tryz.results17]
  repeat' (first | (refine awK fun _ _ => ?_) | refine Hide.go (by assumption) ?_ | refine stepK_is rfl (h0) (by simp) ?_ | (fail_if_success with_reducible (refine Owe.mk ?_)); (simp (disch := omega) [go_sem]))
  refine awp_for [0, 1] [] (fun i : Nat => [(6, eLs (canN g s i).1), (7, nt .i64 (canN g s i).2), (8, nt .i64 i)]) (fun i : Nat => []) (fun i : Nat => g.length - i) (fun i : Nat => i ≤ g.length) (0) (Le.sub4 rfl (by simp [go_sem, hcz])) ⟨?_⟩ ?_
  · exact Nat.zero_le _
  intro i hi AA hAA; simp only [kL, Nat.reduceBEq, Nat.reduceEqDiff, if_true, if_false, List.cons_append, List.nil_append, List.append_nil]
  by_cases hlt : i < g.length
  · have hst := (refState_ok g[i] s false false ls fs hbs hz).frz
    have hnx := canN_next (s := s) hlt
    have hat := canN_at (g := g) (s := s) (i := i)
    generalize canN g s i = X at *
    obtain ⟨b, a⟩ := X
    dsimp only at hat hnx
    have hc := refCompareList_ok (stF g[i] s) b false false false false
    generalize stF g[i] s = z at *
    generalize hq : cmpL z b = q at *
    by_cases ha : a < 0
    · rw [if_pos (.inl ha)] at hnx
      repeat' (first | (refine awK fun _ _ => ?_) | refine Hide.go (by assumption) ?_ | refine stepK_is rfl (hst) (by simp) ?_ | refine (hAA.next (i + 1) (Le.sub4 rfl (by simp [go_sem, hnx])) (by (try dsimp only); omega) ?_) | (fail_if_success with_reducible (refine Owe.mk ?_)); (simp (disch := omega) [go_sem, hlt, eG, ha]))
      all_goals exact ⟨hlt⟩
    · by_cases hq0 : q < 0
      · rw [if_pos (.inr hq0)] at hnx
        repeat' (first | (refine awK fun _ _ => ?_) | refine Hide.go (by assumption) ?_ | refine stepK_is rfl (hst) (by simp) ?_ | refine stepK_is rfl (hc) (by simp) ?_ | refine (hAA.next (i + 1) (Le.sub4 rfl (by simp [go_sem, hnx])) (by (try dsimp only); omega) ?_) | (fail_if_success with_reducible (refine Owe.mk ?_)); (simp (disch := omega) [go_sem, hlt, eG, ha, hq0]))
        all_goals exact ⟨hlt⟩
      · rw [if_neg (by rintro (h | h) <;> omega)] at hnx
        repeat' (first | (refine awK fun _ _ => ?_) | refine Hide.go (by assumption) ?_ | refine stepK_is rfl (hst) (by simp) ?_ | refine stepK_is rfl (hc) (by simp) ?_ | refine (hAA.next (i + 1) (Le.sub4 rfl (by simp [go_sem, hnx])) (by (try dsimp only); omega) ?_) | (fail_if_success with_reducible (refine Owe.mk ?_)); (simp (disch := omega) [go_sem, hlt, eG, ha, hq0]))
        all_goals exact ⟨hlt⟩
  · obtain rfl : i = g.length := by omega
    repeat' (first | (refine awK fun _ _ => ?_) | refine Hide.go (by assumption) ?_ | refine end_ret [] ?_; simp [go_sem] | (fail_if_success with_reducible (refine Owe.mk ?_)); (simp (disch := omega) [go_sem]))
theorem ins_cut {X : List (List Tm)} {x : List Tm} (h : SrtL X) : ∃ c, c ≤ X.length ∧ (∀ (k : Nat) (hk : k < X.length), k < c → cmpL X[k] x < 0) ∧ (∀ hc : c < X.length, 0 ≤ cmpL X[c] x) ∧
    (∀ hc : c < X.length, cmpL X[c] x = 0 → insL X x = X) ∧ ((∀ hc : c < X.length, cmpL X[c] x ≠ 0) → insL X x = X.take c ++ x :: X.drop c) := by
  obtain ⟨A, B, rfl, hA, hB⟩ := insL_split (x := x) h
  refine ⟨A.length, by simp, fun k hk h => by rw [List.getElem_append_left h]; exact hA _ (List.getElem_mem h), fun hc => by rw [List.getElem_append_right (Nat.le_refl _)]; exact hB _ (List.getElem_mem _), fun hc h0 => ?_, fun h0 => ?_⟩
  · rw [insL_app hA]
    cases B with
    | nil => simp at hc
    | cons y B =>
      simp at h0
      rw [insL, if_neg (by omega), if_pos h0]
  · rw [insL_app hA, List.take_left', List.drop_left'] <;> try rfl
    cases B with
    | nil => rfl
    | cons y B =>
      have h1 := hB y (by simp)
      have h2 := h0 (by simp)
      simp at h2
      rw [insL, if_neg (by omega), if_neg h2]
theorem refOrbit_ok (g : List (List Pr)) (s : List Tm) (lg fg ls fs : Bool) (hb : g.length ≤ 1000000) (hbs : s.length ≤ 1000000) (hz : ∀ t ∈ s, t.size ≤ 1000000) :
    ACall Tryz.prog 20 [.list lg fg (g.map eG), .list ls fs (s.map eTm)] (fun r => r = .own 1 ((orbF g s).map eLs)) := by
  have hz0 : orbN g s 0 = [] := rfl
  unfold orbF
  refine acall_of_awp Tryz.func20 Tryz.call20 rfl (by simp [Tryz.ntmps20]) ?_; simp only [Tryz.ntmps20, Tryz.results20]
  repeat' (first | (refine awK fun _ _ => ?_) | refine Hide.go (by assumption) ?_ | (fail_if_success with_reducible (refine Owe.mk ?_)); (simp (disch := omega) [go_sem]))
  refine awp_for [0, 1] [900] (fun i : Nat => [(6, nt .i64 i), (5, .ref 900 0 (orbN g s i).length)]) (fun i : Nat => [(900, ⟨true, false, false, 1, (orbN g s i).map eLs, 0⟩)]) (fun i : Nat => g.length - i) (fun i : Nat => i ≤ g.length) (0) (by refine Le.trans ?_ (Le.nil (i := 5) (T := 900) (es := 1) rfl); exact (Le.sub4 rfl (by simp [go_sem, hz0, List.map_nil]))) ⟨?_⟩ ?_
  · exact Nat.zero_le _
  intro i hi AA hAA; simp only [kL, Nat.reduceBEq, Nat.reduceEqDiff, if_true, if_false, List.cons_append, List.nil_append, List.append_nil]
  by_cases hlt : i < g.length
  · have hst := (refState_ok g[i] s false false ls fs hbs hz).frz
    have hnx := orbN_next (s := s) hlt
    have hsr := orbN_srt (g := g) (s := s) i
    have hle := orbN_len (g := g) (s := s) i
    generalize orbN g s i = X at *
    generalize stF g[i] s = z at *
    obtain ⟨c, hcl, hbelow, habove, hfound, hnew⟩ := ins_cut (x := z) hsr
    have hAB := hAA
    repeat' (first | (refine awK fun _ _ => ?_) | refine Hide.go (by assumption) ?_ | refine stepK_is rfl (hst) (by simp) ?_ | (fail_if_success with_reducible (refine Owe.mk ?_)); (simp (disch := omega) [go_sem, hlt, eG]))
    refine awp_for [0, 1, 5, 6, 7] [] (fun k : Nat => [(8, nt .i64 k)]) (fun k : Nat => []) (fun k : Nat => c - k) (fun k : Nat => k ≤ c) (0) (Le.sub4 rfl (by simp [go_sem])) ⟨?_⟩ ?_
    · exact Nat.zero_le _
    intro k hk AA hAA; simp only [kL, Nat.reduceBEq, Nat.reduceEqDiff, if_true, if_false, List.cons_append, List.nil_append, List.append_nil]
    by_cases hkc : k < c
    · have hkl : k < X.length := by omega
      have hu := refCompareList_ok X[k] z false false false false
      have hq := hbelow k hkl hkc
      generalize cmpL X[k] z = q at *
      repeat' (first | (refine awK fun _ _ => ?_) | refine Hide.go (by assumption) ?_ | refine stepK_is rfl (hu) (by simp) ?_ | refine (hAA.next (k + 1) (Le.sub4 rfl (by simp [go_sem])) (by (try dsimp only); omega) ?_) | (fail_if_success with_reducible (refine Owe.mk ?_)); (simp (disch := omega) [go_sem, hlt, hkl, hq]))
      all_goals (first | omega | skip)
      exact ⟨by omega⟩
    · obtain rfl : k = c := by omega
      by_cases hkl : k < X.length
      · have hu := refCompareList_ok X[k] z false false false false
        have hq := habove hkl
        have hkn : ¬ k = X.length := by omega
        by_cases h0 : cmpL X[k] z = 0
        · rw [hfound hkl h0] at hnx
          rw [h0] at hu
          repeat' (first | (refine awK fun _ _ => ?_) | refine Hide.go (by assumption) ?_ | refine zgd ?_ ?_ <;> (intro h; first | (exfalso; omega) | (simp only [h, decide_true, decide_false, not_false_eq_true])) | refine stepK_is rfl (hu) (by simp) ?_ | refine (hAB.next (i + 1) (Le.sub4 rfl (by simp [go_sem, hnx])) (by (try dsimp only); omega) ?_) | (fail_if_success with_reducible (refine Owe.mk ?_)); (simp (disch := omega) [go_sem, hlt, hkl, hkn]))
          all_goals (first | omega | skip)
          exact ⟨hlt⟩
        · rw [hnew (fun _ => h0)] at hnx
          have hs1 : seg (X.map eLs) 0 k = (X.take k).map eLs := by
            conv => lhs; rw [← List.take_append_drop k X, List.map_append]
            exact seg_pre (by simp; omega)
          have hs2 : seg (X.map eLs) k (X.length - k) = (X.drop k).map eLs := by
            conv => lhs; rw [← List.take_append_drop k X, List.map_append]
            exact seg_post (by simp; omega) (by simp)
          have hT : ((X.take k).map eLs).length = k := by simp; omega
          have hD : ((X.drop k).map eLs).length = X.length - k := by simp
          have hTc : ∀ y ∈ (X.take k).map eLs, y.cells.length = 1 := fun y hy => by obtain ⟨x, _, rfl⟩ := List.mem_map.1 hy; rfl
          have hDc : ∀ y ∈ (X.drop k).map eLs, y.cells.length = 1 := fun y hy => by obtain ⟨x, _, rfl⟩ := List.mem_map.1 hy; rfl
          have hX : (X.take k ++ z :: X.drop k).map eLs = (X.take k).map eLs ++ eLs z :: (X.drop k).map eLs := by simp
          have hXl : (X.take k ++ z :: X.drop k).length = k + 1 + (X.length - k) := by simp; omega
          generalize X.take k ++ z :: X.drop k = Y at *
          generalize (X.take k).map eLs = T at *
          generalize (X.drop k).map eLs = D at *
          have hs0 : seg ([] : List AV) 0 0 = [] := rfl
          have hs3 : seg T 0 k = T := by rw [← hT]; exact seg_whole
          have hs4 : seg (T ++ [eLs z]) 0 (k + 1) = T ++ [eLs z] := by
            have := seg_whole (xs := T ++ [eLs z])
            simpa [hT] using this
          have hs5 : seg [eLs z] 0 1 = [eLs z] := rfl
          generalize cmpL X[k] z = q at *
          repeat' (first | (refine awK fun _ _ => ?_) | refine Hide.go (by assumption) ?_ | (first | refine zqd ?_ ?_ | refine zgd ?_ ?_) <;> (intro h; first | (exfalso; omega) | (simp only [h, decide_true, decide_false, not_false_eq_true])) | refine stepK_is rfl (hu) (by simp) ?_ | refine (hAB.next (i + 1) (Le.renSub [(49, 900), (900, 49)] [(900, 49), (49, 900)] (by simp [go_sem, hnx, hX, hXl]) (by simp [go_sem, hnx, hX, hXl]) (Le.sub4 rfl (by simp [go_sem, hnx, hX, hXl]))) (by (try dsimp only); omega) ?_) | (fail_if_success with_reducible (refine Owe.mk ?_)); (simp (disch := omega) [go_sem, hlt, hkl, hkn, h0, hs0, hs1, hs2, hs3, hs4, hs5, hT, hD, hTc, hDc]) | refine And.intro (by omega) ?_ | refine And.intro (And.intro (by assumption) (by omega)) ?_ | refine awp_any mix (by decide +kernel) ?_ | refine anyN_go ?_ | refine anyK_done (by decide +kernel) ?_ | refine anyK_q 1 rfl (by decide +kernel) (by decide +kernel) rfl rfl rfl ?_ | refine anyK_q 2 rfl (by decide +kernel) (by decide +kernel) rfl rfl rfl ?_ | refine anyK_q 3 rfl (by decide +kernel) (by decide +kernel) rfl rfl rfl ?_ | refine anyK_q 5 rfl (by decide +kernel) (by decide +kernel) rfl rfl rfl ?_ | refine anyK_q 8 rfl (by decide +kernel) (by decide +kernel) rfl rfl rfl ?_ | refine anyK_q 9 rfl (by decide +kernel) (by decide +kernel) rfl rfl rfl ?_ | refine anyK_q 10 rfl (by decide +kernel) (by decide +kernel) rfl rfl rfl ?_ | refine anyK_q 12 rfl (by decide +kernel) (by decide +kernel) rfl rfl rfl ?_ | refine anyK_all (by decide +kernel) ?_; show allI _ _ _ _ _ _ _ | exact allI_zero | refine allI_skip (by decide +kernel) ?_ | refine allI_do rfl ?_ ?_)
          all_goals (first | omega | skip)
          all_goals exact ⟨hlt⟩
      · obtain rfl : k = X.length := by omega
        rw [hnew (fun h => absurd h (Nat.lt_irrefl _)), List.take_length, List.drop_length] at hnx
        have hs1 : seg (X.map eLs) 0 X.length = X.map eLs := by rw [← List.length_map (f := eLs)]; exact seg_whole
        have hs2 : seg (X.map eLs) X.length 0 = [] := by
          have := seg_post (p := X.map eLs) (r := []) (n := X.length) (k := 0) (by simp) rfl
          simpa using this
        have hT : (X.map eLs).length = X.length := by simp
        have hTc : ∀ y ∈ X.map eLs, y.cells.length = 1 := fun y hy => by obtain ⟨x, _, rfl⟩ := List.mem_map.1 hy; rfl
        have hX : (X ++ [z]).map eLs = X.map eLs ++ [eLs z] := by simp
        have hXl : (X ++ [z]).length = X.length + 1 := by simp
        generalize X ++ [z] = Y at *
        generalize X.map eLs = T at *
        clear hbelow habove hfound hnew
        generalize X.length = k at *
        have hs0 : seg ([] : List AV) 0 0 = [] := rfl
        have hs4 : seg (T ++ [eLs z]) 0 (k + 1) = T ++ [eLs z] := by
          have := seg_whole (xs := T ++ [eLs z])
          simpa [hT] using this
        have hs5 : seg [eLs z] 0 1 = [eLs z] := rfl
        repeat' (first | (refine awK fun _ _ => ?_) | refine Hide.go (by assumption) ?_ | refine (hAB.next (i + 1) (Le.renSub [(49, 900), (900, 49)] [(900, 49), (49, 900)] (by simp [go_sem, hnx, hX, hXl]) (by simp [go_sem, hnx, hX, hXl]) (Le.sub4 rfl (by simp [go_sem, hnx, hX, hXl]))) (by (try dsimp only); omega) ?_) | (fail_if_success with_reducible (refine Owe.mk ?_)); (simp (disch := omega) [go_sem, hlt, hs0, hs1, hs2, hs4, hs5, hT, hTc]) | refine And.intro (by omega) ?_ | refine And.intro (And.intro (by assumption) (by omega)) ?_ | refine awp_any mix (by decide +kernel) ?_ | refine anyN_go ?_ | refine anyK_done (by decide +kernel) ?_ | refine anyK_q 1 rfl (by decide +kernel) (by decide +kernel) rfl rfl rfl ?_ | refine anyK_q 2 rfl (by decide +kernel) (by decide +kernel) rfl rfl rfl ?_ | refine anyK_q 3 rfl (by decide +kernel) (by decide +kernel) rfl rfl rfl ?_ | refine anyK_q 5 rfl (by decide +kernel) (by decide +kernel) rfl rfl rfl ?_ | refine anyK_q 8 rfl (by decide +kernel) (by decide +kernel) rfl rfl rfl ?_ | refine anyK_q 9 rfl (by decide +kernel) (by decide +kernel) rfl rfl rfl ?_ | refine anyK_q 10 rfl (by decide +kernel) (by decide +kernel) rfl rfl rfl ?_ | refine anyK_q 12 rfl (by decide +kernel) (by decide +kernel) rfl rfl rfl ?_ | refine anyK_all (by decide +kernel) ?_; show allI _ _ _ _ _ _ _ | exact allI_zero | refine allI_skip (by decide +kernel) ?_ | refine allI_do rfl ?_ ?_)
        all_goals (first | omega | skip)
        all_goals exact ⟨hlt⟩
  · obtain rfl : i = g.length := by omega
    repeat' (first | (refine awK fun _ _ => ?_) | refine Hide.go (by assumption) ?_ | refine end_ret [] ?_; simp [go_sem] | (fail_if_success with_reducible (refine Owe.mk ?_)); (simp (disch := omega) [go_sem]))
theorem small20 {l : List Tm} (h : smallL 20 l = true) : l.length ≤ 20 ∧ ∀ t ∈ l, t.size ≤ 20 := by
  unfold smallL at h
  rw [Bool.and_eq_true, decide_eq_true_eq, List.all_eq_true] at h
  exact ⟨by omega, fun t ht => by have := smallT_size (by decide) (h.2 t ht); omega⟩
theorem fitB_facts {g : List (List Pr)} {s : List Tm} (h : fitB g s = true) : g.length ≤ 24 ∧ (∀ p ∈ g, p.length ≤ 8) ∧ s.length ≤ 20 ∧ (∀ t ∈ s, t.size ≤ 20) ∧ ∀ p ∈ g, validP p = true := by
  unfold fitB at h
  rw [Bool.and_eq_true, Bool.and_eq_true, List.all_eq_true] at h
  obtain ⟨h1, h2, h3⟩ := h
  exact ⟨(fewB_len h1).1, (fewB_len h1).2, (small20 h2).1, (small20 h2).2, h3⟩
theorem OrbitCanons_of (hal : ACall Tryz.prog 10 [] (fun r => r = bl true)) (g : List (List Pr)) (s : List Tm) (fu fs : Bool) :
    ACall Tryz.prog 4 [.list false fu (g.map eG), .list false fs (s.map eTm)] (fun r => r = bl true) := by
  have h1 := fit_ok g s false fu false fs
  cases hf : fitB g s
  · rw [hf] at h1
    refine acall_of_awp Tryz.func4 Tryz.call4 rfl (by simp [Tryz.ntmps4]) ?_; simp only [Tryz.ntmps4, Tryz.results4]
    repeat' (first | (refine awK fun _ _ => ?_) | refine Hide.go (by assumption) ?_ | refine end_ret [] ?_; simp [go_sem] | refine stepK_is rfl (hal) (by simp) ?_ | refine stepK_is rfl (h1) (by simp) ?_ | (fail_if_success with_reducible (refine Owe.mk ?_)); (simp (disch := omega) [go_sem]))
  · rw [hf] at h1
    obtain ⟨g1, g2, g3, g4, g5⟩ := fitB_facts hf
    have hzs : ∀ t ∈ s, t.size ≤ 1000000 := fun t h => by have := g4 t h; omega
    have k1 := Canon_ok g s false fu false fs (by omega) (by omega) hzs
    have k2 := refCanon_ok g s false fu false fs (by omega) (by omega) hzs
    have k3 := (Orbit_ok g s false fu false fs (by omega) (by omega) hzs).frz
    have k4 := (refOrbit_ok g s false fu false fs (by omega) (by omega) hzs).frz
    have k5 := TermLists_ok (orbF g s) (orbF g s) false false false false
    have k6 := plainTermsD_ok (canF g s).1 (canF g s).1 false false false false
    rw [decide_eq_true rfl] at k5 k6
    generalize orbF g s = O at *
    generalize canF g s = C at *
    obtain ⟨A, c⟩ := C
    dsimp only at *
    refine acall_of_awp Tryz.func4 Tryz.call4 rfl (by simp [Tryz.ntmps4]) ?_; simp only [Tryz.ntmps4, Tryz.results4]
    repeat' (first | (refine awK fun _ _ => ?_) | refine Hide.go (by assumption) ?_ | refine end_ret [] ?_; simp [go_sem, eLs] | refine stepK_is rfl (hal) (by simp) ?_ | refine stepK_is rfl (h1) (by simp) ?_ | refine stepK_is rfl (k1) (by simp) ?_ | refine stepK_is rfl (k2) (by simp) ?_ | refine stepK_is rfl (k3) (by simp) ?_ | refine stepK_is rfl (k4) (by simp) ?_ | refine stepK_is rfl (k5) (by simp) ?_ | refine stepK_is rfl (k6) (by simp) ?_ | (fail_if_success with_reducible (refine Owe.mk ?_)); (simp (disch := omega) [go_sem, eLs]))
theorem OrbitCanons_ok (g : List (List Pr)) (s : List Tm) (_ _ : True) : ACall Tryz.prog 4 [.list false false (g.map eG), .list false false (s.map eTm)] (fun r => r = bl true) := OrbitCanons_of alive_ok g s false false
open Go.RowKit
section
variable {H : Type} {enc : TypeId × Value → H} {W : World}
theorem came_term_terms : ∀ n : Nat, Came enc Tryz.prog W n 48 eT (fun _ => True) ∧ Came enc Tryz.prog W n 24 (fun l : List Tm => .list false false (l.map eTm)) (fun _ => True)
  | 0 => ⟨Came.zero, Came.zero⟩
  | n + 1 => by
    obtain ⟨h1, h2⟩ := came_term_terms n
    refine ⟨(Came.struct Tryz.underlying48 rfl (by kernel_rfl) (CameF.cons 1 rfl (by kernel_rfl) (Came.string Tryz.underlying9) (CameF.cons 1 rfl (by kernel_rfl) h2 CameF.nil))).map (fun x => Tm.mk x.1 x.2.1) (fun x h => ⟨trivial, rfl⟩), ?_⟩
    refine (Came.slice Tryz.underlying24 (by decide +kernel) (by decide +kernel) h1).map (fun x => x) (fun x h => ⟨trivial, ?_⟩)
    congr 1
    exact List.map_congr_left fun t _ => eTm_eq t
theorem came_terms (n : Nat) : Came enc Tryz.prog W n 24 (fun l : List Tm => .list false false (l.map eTm)) (fun _ => True) := (came_term_terms n).2
end
end Go.Proofs.YtmadpbpmcbdboaaGreat
