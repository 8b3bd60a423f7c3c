import Derived.Test.YtmadpbpmcbdboaaGreatS6
import Derived.Test.YtmadpbpmcbdboaaGreatA9
import Derived.Test.YtmadpbpmcbdboaaGreatS1
import Derived.Test.YtmadpbpmcbdboaaGreatA5
import Derived.ChangeMaps5
import Derived.Test.YtmadpbpmcbdboaaGreatS2
import Derived.Test.YtmadpbpmcbdboaaGreatS3
import Derived.Test.YtmadpbpmcbdboaaGreatA10
set_option linter.unusedSimpArgs false
set_option linter.unusedVariables false
namespace Go.Proofs.YtmadpbpmcbdboaaGreat
open Go.Ab
set_option maxRecDepth 100000
set_option maxHeartbeats 16000000
theorem rdTerm_ok (s : ByteArray) (hs : s.size ≤ 1000000) : ∀ (n i : Nat) (w : ByteArray), s.size - i < n → i ≤ s.size → MCall Tryz.prog 66 [.ptr 1000 0 0, .sc (.string w)] (rdO s i) (fun r o' => r = eT (tmF s w i).1 ∧ o' = rdO s (tmF s w i).2)
  | 0, i, w, hn, hi => absurd hn (Nat.not_lt_zero _)
  | n + 1, i, w, hn, hi => by
    have ih := rdTerm_ok s hs n
    have hsg := rdSign_ok s i 40 hs hi
    have hle := sgT_le (s := s) (c := 40) hi
    cases hb : sgB s 40 i
    · rw [tmF_no hb]
      rw [hb] at hsg
      refine MCall.loose (x := .agg [.sc (.string w), .list false true []]) (o2 := (4, ⟨false, false, false, 2, [.agg [.sc (.string w), .list false true []]], 0⟩) :: rdO s (sgT s 40 i)) ?_ (by simp [go_sem]) (by simp [go_sem]) (by simp [go_sem])
      generalize sgT s 40 i = j at *
      refine mcall_of_awpL Tryz.func66 Tryz.call66 rfl (by simp [Tryz.ntmps66]) ?_; simp only [Tryz.ntmps66, Tryz.results66]
      skip
      repeat' (first | (refine awK fun _ _ => ?_) | refine Hide.go (by assumption) ?_ | (fail_if_success with_reducible (refine Owe.mk ?_)); (simp (disch := omega) [go_sem, rdO, rdA]))
      refine stepK_fis [] [] 10000 _ _ (Fits.mk' (by simp [go_sem, rdO, rdA]) (by simp [go_sem, rdO, rdA])) (by simp [go_sem, rdO, rdA]) (by simp [go_sem, rdO, rdA]) (hsg) (by simp [go_sem, rdO, rdA]) (by simp [go_sem, rdO, rdA]) ?_
      repeat' (first | refine Hide.go (by assumption) ?_ | (fail_if_success with_reducible (refine Owe.mk ?_)); (simp (disch := omega) [go_sem, rdO, rdA]))
      refine endL_ret ⟨39, [(4, .ptr 4 0 0)], (4, ⟨false, false, false, 2, [.agg [.sc (.string w), .list false true []]], 0⟩) :: rdO s j⟩ [.agg [.sc (.string w), .list false true []]] (Le.renSub [] [] (by simp [go_sem, rdO, rdA]) (by simp [go_sem, rdO, rdA]) (Le.sub4 rfl (by simp [go_sem, rdO, rdA]))) (by simp [go_sem, rdO, rdA]) ⟨rfl, rfl⟩
    · rw [tmF_on hb]
      rw [hb] at hsg
      have hgt := sgT_gt hb
      generalize sgT s 40 i = j at *
      dsimp only
      generalize hG : agF s [] j = G at *
      have hY : eT (.mk w G.1) = Ab.loose (.agg [.sc (.string w), .list false (decide (G.1.length = 0)) (G.1.map eTm)]) := rfl
      rw [hY]
      have key : MCall Tryz.prog 66 [.ptr 1000 0 0, .sc (.string w)] (rdO s i) (fun r o' => r = .agg [.sc (.string w), if G.1.length = 0 then .list false true [] else .ref 900 0 G.1.length] ∧ o' = (4, ⟨false, false, false, 2, [.agg [.sc (.string w), if G.1.length = 0 then .list false true [] else .ref 900 0 G.1.length]], 0⟩) :: (1000, rdA s (sgT s 41 G.2)) :: (if G.1.length = 0 then [] else [(900, ⟨true, false, false, 2, G.1.map eTm, 0⟩)])) := by
        refine mcall_of_awpL Tryz.func66 Tryz.call66 rfl (by simp [Tryz.ntmps66]) ?_; simp only [Tryz.ntmps66, Tryz.results66]
        skip
        repeat' (first | (refine awK fun _ _ => ?_) | refine Hide.go (by assumption) ?_ | (fail_if_success with_reducible (refine Owe.mk ?_)); (simp (disch := omega) [go_sem, rdO, rdA]))
        refine stepK_fis [] [] 10000 _ _ (Fits.mk' (by simp [go_sem, rdO, rdA]) (by simp [go_sem, rdO, rdA])) (by simp [go_sem, rdO, rdA]) (by simp [go_sem, rdO, rdA]) (hsg) (by simp [go_sem, rdO, rdA]) (by simp [go_sem, rdO, rdA]) ?_
        repeat' (first | (refine awK fun _ _ => ?_) | refine Hide.go (by assumption) ?_ | (fail_if_success with_reducible (refine Owe.mk ?_)); (simp (disch := omega) [go_sem, rdO, rdA]))
        refine awp_for [0, 4, 5] [5, 900, 1000] (fun y : List Tm × Nat => []) (fun y : List Tm × Nat => (5, ⟨false, false, false, 2, [.agg [.sc (.string w), if y.1.length = 0 then .list false true [] else .ref 900 0 y.1.length]], 0⟩) :: (1000, rdA s y.2) :: (if y.1.length = 0 then [] else [(900, ⟨true, false, false, 2, y.1.map eTm, 0⟩)])) (fun y : List Tm × Nat => s.size - y.2) (fun y : List Tm × Nat => i < y.2 ∧ y.2 ≤ s.size ∧ y.1.length ≤ y.2 ∧ agF s y.1 y.2 = G) (([], j)) (Le.sub4 rfl (by simp [go_sem, rdO, rdA])) ⟨?_⟩ ?_
        · exact ⟨hgt, hle, Nat.zero_le _, hG⟩
        intro y ⟨hy1, hy2, hy3, hag⟩ AA hAA; simp only [kL, Nat.reduceBEq, Nat.reduceEqDiff, if_true, if_false, List.cons_append, List.nil_append, List.append_nil]
        obtain ⟨a, k⟩ := y
        dsimp only at hy1 hy2 hy3 hag ⊢
        clear hG
        by_cases hlt : k < s.size
        · have hwd := rdWord_ok s k hs hy2
          have hwl := wdT_le (s := s) hy2
          have hwg := wdT_ge (s := s) (i := k)
          have ht := ih (wdT s k) (wdF s k) (by omega) hwl
          have htl := tmF_le (s := s) (w := wdF s k) hwl
          have htg := tmF_ge (s := s) (w := wdF s k) (i := wdT s k)
          have hcm := rdSign_ok s (tmF s (wdF s k) (wdT s k)).2 44 hs htl
          have hcl := sgT_le (s := s) (c := 44) htl
          have hlim : a.length ≤ 1000000 := by omega
          cases hc : sgB s 44 (tmF s (wdF s k) (wdT s k)).2
          · rw [agF_no hlt hc] at hag
            subst hag
            rw [hc] at hcm
            have hsz := rdSign_ok s (sgT s 44 (tmF s (wdF s k) (wdT s k)).2) 41 hs hcl
            generalize sgT s 44 (tmF s (wdF s k) (wdT s k)).2 = k3 at *
            generalize tmF s (wdF s k) (wdT s k) = q at *
            generalize wdF s k = wd at *
            generalize wdT s k = k1 at *
            obtain ⟨tm, k2⟩ := q
            dsimp only at *
            generalize sgT s 41 k3 = k4 at *
            by_cases h0 : a.length = 0
            · obtain rfl := List.eq_nil_of_length_eq_zero h0
              repeat' (first | (refine awK fun _ _ => ?_) | refine Hide.go (by assumption) ?_ | (fail_if_success with_reducible (refine Owe.mk ?_)); (simp (disch := omega) [go_sem, hlt, rdO, rdA]) | refine awp_draw 10 mix (by decide +kernel) ?_)
              refine stepK_fis [] [] 10000 _ _ (Fits.mk' (by simp [go_sem, rdO, rdA]) (by simp [go_sem, rdO, rdA])) (by simp [go_sem, rdO, rdA]) (by simp [go_sem, rdO, rdA]) (hwd) (by simp [go_sem, rdO, rdA]) (by simp [go_sem, rdO, rdA]) ?_
              repeat' (first | (refine awK fun _ _ => ?_) | refine Hide.go (by assumption) ?_ | (fail_if_success with_reducible (refine Owe.mk ?_)); (simp (disch := omega) [go_sem, hlt, rdO, rdA]) | refine awp_any mix (by decide +kernel) ?_ | refine anyN_go ?_ | refine anyK_q 2 rfl (by decide +kernel) (by decide +kernel) rfl rfl rfl ?_ | refine anyK_q 3 rfl (by decide +kernel) (by decide +kernel) rfl rfl rfl ?_ | refine anyK_all (by decide +kernel) ?_; show allI _ _ _ _ _ _ _ | exact allI_zero | refine allI_skip (by decide +kernel) ?_ | refine allI_do rfl ?_ ?_)
              all_goals refine stepK_fis [] [] 10000 _ _ (Fits.mk' (by simp [go_sem, rdO, rdA]) (by simp [go_sem, rdO, rdA])) (by simp [go_sem, rdO, rdA]) (by simp [go_sem, rdO, rdA]) (ht) (by simp [go_sem, rdO, rdA]) (by simp [go_sem, rdO, rdA]) ?_
              all_goals repeat' (first | (refine awK fun _ _ => ?_) | refine Hide.go (by assumption) ?_ | (fail_if_success with_reducible (refine Owe.mk ?_)); (simp (disch := omega) [go_sem, hlt, rdO, rdA]) | refine anyN_go ?_ | refine anyK_done (by decide +kernel) ?_ | refine anyK_all (by decide +kernel) ?_; show allI _ _ _ _ _ _ _ | exact allI_zero | refine allI_skip (by decide +kernel) ?_ | refine allI_do rfl ?_ ?_)
              all_goals refine stepK_fis [] [] 10000 _ _ (Fits.mk' (by simp [go_sem, rdO, rdA]) (by simp [go_sem, rdO, rdA])) (by simp [go_sem, rdO, rdA]) (by simp [go_sem, rdO, rdA]) (hcm) (by simp [go_sem, rdO, rdA]) (by simp [go_sem, rdO, rdA]) ?_
              all_goals repeat' (first | (refine awK fun _ _ => ?_) | refine Hide.go (by assumption) ?_ | (fail_if_success with_reducible (refine Owe.mk ?_)); (simp (disch := omega) [go_sem, hlt, rdO, rdA]))
              all_goals refine stepK_fis [] [] 10000 _ _ (Fits.mk' (by simp [go_sem, rdO, rdA]) (by simp [go_sem, rdO, rdA])) (by simp [go_sem, rdO, rdA]) (by simp [go_sem, rdO, rdA]) (hsz) (by simp [go_sem, rdO, rdA]) (by simp [go_sem, rdO, rdA]) ?_
              all_goals repeat' (first | (refine awK fun _ _ => ?_) | refine Hide.go (by assumption) ?_ | (fail_if_success with_reducible (refine Owe.mk ?_)); (simp (disch := omega) [go_sem, hlt, rdO, rdA]))
              all_goals refine endL_ret ⟨39, [(4, .ptr 4 0 0)], (4, ⟨false, false, false, 2, [.agg [.sc (.string w), .ref 900 0 1]], 0⟩) :: (1000, rdA s k4) :: [(900, ⟨true, false, false, 2, [eT tm], 0⟩)]⟩ [.agg [.sc (.string w), .ref 900 0 1]] (Le.renSub [(31, 900)] [(900, 31)] (by simp [go_sem, rdO, rdA]) (by simp [go_sem, rdO, rdA]) (Le.sub4 rfl (by simp [go_sem, rdO, rdA]))) (by simp [go_sem, rdO, rdA]) ⟨rfl, rfl⟩
            ·
              repeat' (first | (refine awK fun _ _ => ?_) | refine Hide.go (by assumption) ?_ | (fail_if_success with_reducible (refine Owe.mk ?_)); (simp (disch := omega) [go_sem, hlt, h0, rdO, rdA]) | refine awp_draw 10 mix (by decide +kernel) ?_)
              refine stepK_fis [] [] 10000 _ _ (Fits.mk' (by simp [go_sem, rdO, rdA]) (by simp [go_sem, rdO, rdA])) (by simp [go_sem, rdO, rdA]) (by simp [go_sem, rdO, rdA]) (hwd) (by simp [go_sem, rdO, rdA]) (by simp [go_sem, rdO, rdA]) ?_
              repeat' (first | (refine awK fun _ _ => ?_) | refine Hide.go (by assumption) ?_ | (fail_if_success with_reducible (refine Owe.mk ?_)); (simp (disch := omega) [go_sem, hlt, h0, rdO, rdA]) | refine awp_any mix (by decide +kernel) ?_ | refine anyN_go ?_ | refine anyK_q 2 rfl (by decide +kernel) (by decide +kernel) rfl rfl rfl ?_ | refine anyK_q 3 rfl (by decide +kernel) (by decide +kernel) rfl rfl rfl ?_ | refine anyK_all (by decide +kernel) ?_; show allI _ _ _ _ _ _ _ | exact allI_zero | refine allI_skip (by decide +kernel) ?_ | refine allI_do rfl ?_ ?_)
              all_goals refine stepK_fis [] [] 10000 _ _ (Fits.mk' (by simp [go_sem, rdO, rdA]) (by simp [go_sem, rdO, rdA])) (by simp [go_sem, rdO, rdA]) (by simp [go_sem, rdO, rdA]) (ht) (by simp [go_sem, rdO, rdA]) (by simp [go_sem, rdO, rdA]) ?_
              all_goals repeat' (first | (refine awK fun _ _ => ?_) | refine Hide.go (by assumption) ?_ | (fail_if_success with_reducible (refine Owe.mk ?_)); (simp (disch := omega) [go_sem, hlt, h0, rdO, rdA]) | refine And.intro (by omega) ?_ | refine anyN_go ?_ | refine anyK_done (by decide +kernel) ?_ | refine anyK_all (by decide +kernel) ?_; show allI _ _ _ _ _ _ _ | exact allI_zero | refine allI_skip (by decide +kernel) ?_ | refine allI_do rfl ?_ ?_)
              all_goals refine stepK_fis [] [] 10000 _ _ (Fits.mk' (by simp [go_sem, rdO, rdA]) (by simp [go_sem, rdO, rdA])) (by simp [go_sem, rdO, rdA]) (by simp [go_sem, rdO, rdA]) (hcm) (by simp [go_sem, rdO, rdA]) (by simp [go_sem, rdO, rdA]) ?_
              all_goals repeat' (first | (refine awK fun _ _ => ?_) | refine Hide.go (by assumption) ?_ | (fail_if_success with_reducible (refine Owe.mk ?_)); (simp (disch := omega) [go_sem, hlt, h0, rdO, rdA]))
              all_goals refine stepK_fis [] [] 10000 _ _ (Fits.mk' (by simp [go_sem, rdO, rdA]) (by simp [go_sem, rdO, rdA])) (by simp [go_sem, rdO, rdA]) (by simp [go_sem, rdO, rdA]) (hsz) (by simp [go_sem, rdO, rdA]) (by simp [go_sem, rdO, rdA]) ?_
              all_goals repeat' (first | (refine awK fun _ _ => ?_) | refine Hide.go (by assumption) ?_ | (fail_if_success with_reducible (refine Owe.mk ?_)); (simp (disch := omega) [go_sem, hlt, h0, rdO, rdA]))
              all_goals refine endL_ret ⟨39, [(4, .ptr 4 0 0)], (4, ⟨false, false, false, 2, [.agg [.sc (.string w), .ref 900 0 (a.length + 1)]], 0⟩) :: (1000, rdA s k4) :: [(900, ⟨true, false, false, 2, a.map eTm ++ [eT tm], 0⟩)]⟩ [.agg [.sc (.string w), .ref 900 0 (a.length + 1)]] (Le.renSub [] [] (by simp [go_sem, rdO, rdA]) (by simp [go_sem, rdO, rdA]) (Le.sub4 rfl (by simp [go_sem, rdO, rdA]))) (by simp [go_sem, rdO, rdA]) ⟨rfl, rfl⟩
          · rw [agF_on hlt hc] at hag
            have hcg := sgT_gt hc
            rw [hc] at hcm
            generalize sgT s 44 (tmF s (wdF s k) (wdT s k)).2 = k3 at *
            generalize tmF s (wdF s k) (wdT s k) = q at *
            generalize wdF s k = wd at *
            generalize wdT s k = k1 at *
            obtain ⟨tm, k2⟩ := q
            dsimp only at *
            by_cases h0 : a.length = 0
            · obtain rfl := List.eq_nil_of_length_eq_zero h0
              repeat' (first | (refine awK fun _ _ => ?_) | refine Hide.go (by assumption) ?_ | (fail_if_success with_reducible (refine Owe.mk ?_)); (simp (disch := omega) [go_sem, hlt, rdO, rdA]) | refine awp_draw 10 mix (by decide +kernel) ?_)
              refine stepK_fis [] [] 10000 _ _ (Fits.mk' (by simp [go_sem, rdO, rdA]) (by simp [go_sem, rdO, rdA])) (by simp [go_sem, rdO, rdA]) (by simp [go_sem, rdO, rdA]) (hwd) (by simp [go_sem, rdO, rdA]) (by simp [go_sem, rdO, rdA]) ?_
              repeat' (first | (refine awK fun _ _ => ?_) | refine Hide.go (by assumption) ?_ | (fail_if_success with_reducible (refine Owe.mk ?_)); (simp (disch := omega) [go_sem, hlt, rdO, rdA]) | refine awp_any mix (by decide +kernel) ?_ | refine anyN_go ?_ | refine anyK_q 2 rfl (by decide +kernel) (by decide +kernel) rfl rfl rfl ?_ | refine anyK_q 3 rfl (by decide +kernel) (by decide +kernel) rfl rfl rfl ?_ | refine anyK_all (by decide +kernel) ?_; show allI _ _ _ _ _ _ _ | exact allI_zero | refine allI_skip (by decide +kernel) ?_ | refine allI_do rfl ?_ ?_)
              all_goals refine stepK_fis [] [] 10000 _ _ (Fits.mk' (by simp [go_sem, rdO, rdA]) (by simp [go_sem, rdO, rdA])) (by simp [go_sem, rdO, rdA]) (by simp [go_sem, rdO, rdA]) (ht) (by simp [go_sem, rdO, rdA]) (by simp [go_sem, rdO, rdA]) ?_
              all_goals repeat' (first | (refine awK fun _ _ => ?_) | refine Hide.go (by assumption) ?_ | (fail_if_success with_reducible (refine Owe.mk ?_)); (simp (disch := omega) [go_sem, hlt, rdO, rdA]) | refine anyN_go ?_ | refine anyK_done (by decide +kernel) ?_ | refine anyK_all (by decide +kernel) ?_; show allI _ _ _ _ _ _ _ | exact allI_zero | refine allI_skip (by decide +kernel) ?_ | refine allI_do rfl ?_ ?_)
              all_goals refine stepK_fis [] [] 10000 _ _ (Fits.mk' (by simp [go_sem, rdO, rdA]) (by simp [go_sem, rdO, rdA])) (by simp [go_sem, rdO, rdA]) (by simp [go_sem, rdO, rdA]) (hcm) (by simp [go_sem, rdO, rdA]) (by simp [go_sem, rdO, rdA]) ?_
              all_goals repeat' (first | refine Hide.go (by assumption) ?_ | refine (hAA.next (([tm], k3)) (Le.renSub [(31, 900)] [(900, 31)] (by simp [go_sem]) (by simp [go_sem]) (Le.sub4 rfl (by simp [go_sem]))) (by (try dsimp only); omega) ?_) | (fail_if_success with_reducible (refine Owe.mk ?_)); (simp (disch := omega) [go_sem, hlt, rdO, rdA]))
              all_goals (first | omega | skip)
              all_goals exact ⟨by omega, by omega, by simp; omega, hag⟩
            ·
              repeat' (first | (refine awK fun _ _ => ?_) | refine Hide.go (by assumption) ?_ | (fail_if_success with_reducible (refine Owe.mk ?_)); (simp (disch := omega) [go_sem, hlt, h0, rdO, rdA]) | refine awp_draw 10 mix (by decide +kernel) ?_)
              refine stepK_fis [] [] 10000 _ _ (Fits.mk' (by simp [go_sem, rdO, rdA]) (by simp [go_sem, rdO, rdA])) (by simp [go_sem, rdO, rdA]) (by simp [go_sem, rdO, rdA]) (hwd) (by simp [go_sem, rdO, rdA]) (by simp [go_sem, rdO, rdA]) ?_
              repeat' (first | (refine awK fun _ _ => ?_) | refine Hide.go (by assumption) ?_ | (fail_if_success with_reducible (refine Owe.mk ?_)); (simp (disch := omega) [go_sem, hlt, h0, rdO, rdA]) | refine awp_any mix (by decide +kernel) ?_ | refine anyN_go ?_ | refine anyK_q 2 rfl (by decide +kernel) (by decide +kernel) rfl rfl rfl ?_ | refine anyK_q 3 rfl (by decide +kernel) (by decide +kernel) rfl rfl rfl ?_ | refine anyK_all (by decide +kernel) ?_; show allI _ _ _ _ _ _ _ | exact allI_zero | refine allI_skip (by decide +kernel) ?_ | refine allI_do rfl ?_ ?_)
              all_goals refine stepK_fis [] [] 10000 _ _ (Fits.mk' (by simp [go_sem, rdO, rdA]) (by simp [go_sem, rdO, rdA])) (by simp [go_sem, rdO, rdA]) (by simp [go_sem, rdO, rdA]) (ht) (by simp [go_sem, rdO, rdA]) (by simp [go_sem, rdO, rdA]) ?_
              all_goals repeat' (first | (refine awK fun _ _ => ?_) | refine Hide.go (by assumption) ?_ | (fail_if_success with_reducible (refine Owe.mk ?_)); (simp (disch := omega) [go_sem, hlt, h0, rdO, rdA]) | refine And.intro (by omega) ?_ | refine anyN_go ?_ | refine anyK_done (by decide +kernel) ?_ | refine anyK_all (by decide +kernel) ?_; show allI _ _ _ _ _ _ _ | exact allI_zero | refine allI_skip (by decide +kernel) ?_ | refine allI_do rfl ?_ ?_)
              all_goals refine stepK_fis [] [] 10000 _ _ (Fits.mk' (by simp [go_sem, rdO, rdA]) (by simp [go_sem, rdO, rdA])) (by simp [go_sem, rdO, rdA]) (by simp [go_sem, rdO, rdA]) (hcm) (by simp [go_sem, rdO, rdA]) (by simp [go_sem, rdO, rdA]) ?_
              all_goals repeat' (first | refine Hide.go (by assumption) ?_ | refine (hAA.next ((a ++ [tm], k3)) (Le.sub4 rfl (by simp [go_sem])) (by (try dsimp only); omega) ?_) | (fail_if_success with_reducible (refine Owe.mk ?_)); (simp (disch := omega) [go_sem, hlt, h0, rdO, rdA]))
              all_goals (first | omega | skip)
              all_goals exact ⟨by omega, by omega, by simp; omega, hag⟩
        · rw [agF_end hlt] at hag
          subst hag
          have hsz := rdSign_ok s k 41 hs hy2
          dsimp only at *
          generalize sgT s 41 k = k4 at *
          by_cases h0 : a.length = 0
          · obtain rfl := List.eq_nil_of_length_eq_zero h0
            repeat' (first | (refine awK fun _ _ => ?_) | refine Hide.go (by assumption) ?_ | (fail_if_success with_reducible (refine Owe.mk ?_)); (simp (disch := omega) [go_sem, hlt, rdO, rdA]) | refine awp_draw 10 mix (by decide +kernel) ?_)
            refine stepK_fis [] [] 10000 _ _ (Fits.mk' (by simp [go_sem, rdO, rdA]) (by simp [go_sem, rdO, rdA])) (by simp [go_sem, rdO, rdA]) (by simp [go_sem, rdO, rdA]) (hsz) (by simp [go_sem, rdO, rdA]) (by simp [go_sem, rdO, rdA]) ?_
            repeat' (first | (refine awK fun _ _ => ?_) | refine Hide.go (by assumption) ?_ | (fail_if_success with_reducible (refine Owe.mk ?_)); (simp (disch := omega) [go_sem, hlt, rdO, rdA]))
            refine endL_ret ⟨39, [(4, .ptr 4 0 0)], (4, ⟨false, false, false, 2, [.agg [.sc (.string w), .list false true []]], 0⟩) :: (1000, rdA s k4) :: []⟩ [.agg [.sc (.string w), .list false true []]] (Le.renSub [] [] (by simp [go_sem, rdO, rdA]) (by simp [go_sem, rdO, rdA]) (Le.sub4 rfl (by simp [go_sem, rdO, rdA]))) (by simp [go_sem, rdO, rdA]) ⟨rfl, rfl⟩
          · repeat' (first | (refine awK fun _ _ => ?_) | refine Hide.go (by assumption) ?_ | (fail_if_success with_reducible (refine Owe.mk ?_)); (simp (disch := omega) [go_sem, hlt, h0, rdO, rdA]) | refine awp_draw 10 mix (by decide +kernel) ?_)
            refine stepK_fis [] [] 10000 _ _ (Fits.mk' (by simp [go_sem, rdO, rdA]) (by simp [go_sem, rdO, rdA])) (by simp [go_sem, rdO, rdA]) (by simp [go_sem, rdO, rdA]) (hsz) (by simp [go_sem, rdO, rdA]) (by simp [go_sem, rdO, rdA]) ?_
            repeat' (first | (refine awK fun _ _ => ?_) | refine Hide.go (by assumption) ?_ | (fail_if_success with_reducible (refine Owe.mk ?_)); (simp (disch := omega) [go_sem, hlt, h0, rdO, rdA]))
            refine endL_ret ⟨39, [(4, .ptr 4 0 0)], (4, ⟨false, false, false, 2, [.agg [.sc (.string w), .ref 900 0 a.length]], 0⟩) :: (1000, rdA s k4) :: [(900, ⟨true, false, false, 2, a.map eTm, 0⟩)]⟩ [.agg [.sc (.string w), .ref 900 0 a.length]] (Le.renSub [] [] (by simp [go_sem, rdO, rdA]) (by simp [go_sem, rdO, rdA]) (Le.sub4 rfl (by simp [go_sem, rdO, rdA]))) (by simp [go_sem, rdO, rdA]) ⟨rfl, rfl⟩
      by_cases h0 : G.1.length = 0
      · have hn := List.eq_nil_of_length_eq_zero h0
        simp only [hn, List.length_nil, if_true, decide_true, List.map_nil] at key ⊢
        exact key.shared rfl (by simp [go_sem]) (by simp [go_sem]) (by simp [go_sem])
      · simp only [h0, if_false, decide_false] at key ⊢
        refine key.shared (s' := ?_) (y := .agg [.sc (.string w), .list false false (G.1.map eTm)]) (by simp [go_sem, seg]; rfl) (by simp [go_sem]) (by simp [go_sem]) (by simp [go_sem])
abbrev rdB (s : ByteArray) (i : Nat) : AObj := ⟨false, false, false, 2, [.agg [.sc (.string s), nt .i64 i]], 0⟩
theorem Atoms_ok (s : ByteArray) (hs : s.size ≤ 1000000) : ACall Tryz.prog 32 [.sc (.string s)] (fun r => r = .own 2 ((atF s).map eTm)) := by
  unfold atF
  generalize hG : agF s [] 0 = G at *
  refine ACall.own_nil ?_
  refine acall_of_awp Tryz.func32 Tryz.call32 rfl (by simp [Tryz.ntmps32]) ?_; simp only [Tryz.ntmps32, Tryz.results32]
  repeat' (first | (refine awK fun _ _ => ?_) | refine Hide.go (by assumption) ?_ | (first | refine zqd ?_ ?_ | refine zqn ?_ ?_ | refine zgd ?_ ?_ | refine zgn ?_ ?_ | refine zdd ?_ ?_ | refine zdn ?_ ?_) <;> (intro h; first | (exfalso; omega) | (simp only [h, decide_true, decide_false, not_false_eq_true]) | skip) | refine end_ret [] ?_; simp [go_sem] | (fail_if_success with_reducible (refine Owe.mk ?_)); (simp (disch := omega) [go_sem]) | refine And.intro (by omega) ?_ | refine And.intro (And.intro (by assumption) (by omega)) ?_ | refine awp_draw 10 mix (by decide +kernel) ?_ | (refine nbI fun bq => ?_) | (first | refine zqm ?_ ?_ | refine zgm ?_ ?_ | refine zdm ?_ ?_) <;> (intro h; simp only [h, Bool.not_true, Bool.not_false]) | (first | refine zqs ?_ ?_ | refine zgs ?_ ?_ | refine zds ?_ ?_) <;> (intro h; first | (exfalso; simp at h; omega) | ((try simp only [h]); (try simp at h))))
  refine awp_for [3] [7, 900] (fun y : List Tm × Nat => [(4, .ref 900 0 y.1.length)]) (fun y : List Tm × Nat => [(7, rdB s y.2), (900, ⟨true, false, false, 2, y.1.map eTm, 0⟩)]) (fun y : List Tm × Nat => s.size - y.2) (fun y : List Tm × Nat => y.2 ≤ s.size ∧ y.1.length ≤ y.2 ∧ agF s y.1 y.2 = G) (([], 0)) (by refine Le.trans ?_ (Le.nil (i := 4) (T := 900) (es := 2) rfl); exact (Le.sub4 rfl (by simp [go_sem, rdB, List.map_nil, List.length_nil]))) ⟨?_⟩ ?_
  · exact ⟨Nat.zero_le _, Nat.zero_le _, hG⟩
  intro y ⟨hy2, hy3, hag⟩ AA hAA; simp only [kL, Nat.reduceBEq, Nat.reduceEqDiff, if_true, if_false, List.cons_append, List.nil_append, List.append_nil]
  obtain ⟨a, k⟩ := y
  dsimp only at hy2 hy3 hag ⊢
  clear hG
  by_cases hlt : k < s.size
  · have hwd := rdWord_ok s k hs hy2
    have hwl := wdT_le (s := s) hy2
    have hwg := wdT_ge (s := s) (i := k)
    have ht := rdTerm_ok s hs (s.size + 1) (wdT s k) (wdF s k) (by omega) hwl
    have htl := tmF_le (s := s) (w := wdF s k) hwl
    have htg := tmF_ge (s := s) (w := wdF s k) (i := wdT s k)
    have hcm := rdSign_ok s (tmF s (wdF s k) (wdT s k)).2 44 hs htl
    have hcl := sgT_le (s := s) (c := 44) htl
    have hlim : a.length ≤ 1000000 := by omega
    cases hc : sgB s 44 (tmF s (wdF s k) (wdT s k)).2
    · rw [agF_no hlt hc] at hag
      subst hag
      rw [hc] at hcm
      generalize sgT s 44 (tmF s (wdF s k) (wdT s k)).2 = k3 at *
      generalize tmF s (wdF s k) (wdT s k) = q at *
      generalize wdF s k = wd at *
      generalize wdT s k = k1 at *
      obtain ⟨tm, k2⟩ := q
      dsimp only at *
      repeat' (first | (refine awK fun _ _ => ?_) | refine Hide.go (by assumption) ?_ | (first | refine zqd ?_ ?_ | refine zqn ?_ ?_ | refine zgd ?_ ?_ | refine zgn ?_ ?_ | refine zdd ?_ ?_ | refine zdn ?_ ?_) <;> (intro h; first | (exfalso; omega) | (simp only [h, decide_true, decide_false, not_false_eq_true]) | skip) | refine end_ret [] ?_; simp [go_sem, hlt, rdB] | (fail_if_success with_reducible (refine Owe.mk ?_)); (simp (disch := omega) [go_sem, hlt, rdB]) | refine And.intro (by omega) ?_ | refine And.intro (And.intro (by assumption) (by omega)) ?_ | refine awp_draw 10 mix (by decide +kernel) ?_ | (refine nbI fun bq => ?_) | (first | refine zqm ?_ ?_ | refine zgm ?_ ?_ | refine zdm ?_ ?_) <;> (intro h; simp only [h, Bool.not_true, Bool.not_false]) | (first | refine zqs ?_ ?_ | refine zgs ?_ ?_ | refine zds ?_ ?_) <;> (intro h; first | (exfalso; simp at h; omega) | ((try simp only [h]); (try simp at h))))
      refine stepK_fis [(1000, 7)] [(7, 1000)] 10000 _ _ (Fits.mk' (by simp [go_sem, rdO, rdA, rdB]) (by simp [go_sem, rdO, rdA, rdB])) (by simp [go_sem, rdO, rdA, rdB]) (by simp [go_sem, rdO, rdA, rdB]) (hwd) (by simp [go_sem, rdO, rdA, rdB]) (by simp [go_sem, rdO, rdA, rdB]) ?_
      repeat' (first | (refine awK fun _ _ => ?_) | refine Hide.go (by assumption) ?_ | (first | refine zqd ?_ ?_ | refine zqn ?_ ?_ | refine zgd ?_ ?_ | refine zgn ?_ ?_ | refine zdd ?_ ?_ | refine zdn ?_ ?_) <;> (intro h; first | (exfalso; omega) | (simp only [h, decide_true, decide_false, not_false_eq_true]) | skip) | refine end_ret [] ?_; simp [go_sem, hlt, rdB] | (fail_if_success with_reducible (refine Owe.mk ?_)); (simp (disch := omega) [go_sem, hlt, rdB]) | refine And.intro (by omega) ?_ | refine And.intro (And.intro (by assumption) (by omega)) ?_ | refine awp_draw 10 mix (by decide +kernel) ?_ | (refine nbI fun bq => ?_) | (first | refine zqm ?_ ?_ | refine zgm ?_ ?_ | refine zdm ?_ ?_) <;> (intro h; simp only [h, Bool.not_true, Bool.not_false]) | (first | refine zqs ?_ ?_ | refine zgs ?_ ?_ | refine zds ?_ ?_) <;> (intro h; first | (exfalso; simp at h; omega) | ((try simp only [h]); (try simp at h))))
      refine stepK_fis [(1000, 7)] [(7, 1000)] 10000 _ _ (Fits.mk' (by simp [go_sem, rdO, rdA, rdB]) (by simp [go_sem, rdO, rdA, rdB])) (by simp [go_sem, rdO, rdA, rdB]) (by simp [go_sem, rdO, rdA, rdB]) (ht) (by simp [go_sem, rdO, rdA, rdB]) (by simp [go_sem, rdO, rdA, rdB]) ?_
      repeat' (first | (refine awK fun _ _ => ?_) | refine Hide.go (by assumption) ?_ | (first | refine zqd ?_ ?_ | refine zqn ?_ ?_ | refine zgd ?_ ?_ | refine zgn ?_ ?_ | refine zdd ?_ ?_ | refine zdn ?_ ?_) <;> (intro h; first | (exfalso; omega) | (simp only [h, decide_true, decide_false, not_false_eq_true]) | skip) | refine end_ret [] ?_; simp [go_sem, hlt, rdB] | (fail_if_success with_reducible (refine Owe.mk ?_)); (simp (disch := omega) [go_sem, hlt, rdB]) | refine And.intro (by omega) ?_ | refine And.intro (And.intro (by assumption) (by omega)) ?_ | refine awp_draw 10 mix (by decide +kernel) ?_ | (refine nbI fun bq => ?_) | (first | refine zqm ?_ ?_ | refine zgm ?_ ?_ | refine zdm ?_ ?_) <;> (intro h; simp only [h, Bool.not_true, Bool.not_false]) | (first | refine zqs ?_ ?_ | refine zgs ?_ ?_ | refine zds ?_ ?_) <;> (intro h; first | (exfalso; simp at h; omega) | ((try simp only [h]); (try simp at h))))
      refine stepK_fis [(1000, 7)] [(7, 1000)] 10000 _ _ (Fits.mk' (by simp [go_sem, rdO, rdA, rdB]) (by simp [go_sem, rdO, rdA, rdB])) (by simp [go_sem, rdO, rdA, rdB]) (by simp [go_sem, rdO, rdA, rdB]) (hcm) (by simp [go_sem, rdO, rdA, rdB]) (by simp [go_sem, rdO, rdA, rdB]) ?_
      repeat' (first | (refine awK fun _ _ => ?_) | refine Hide.go (by assumption) ?_ | (first | refine zqd ?_ ?_ | refine zqn ?_ ?_ | refine zgd ?_ ?_ | refine zgn ?_ ?_ | refine zdd ?_ ?_ | refine zdn ?_ ?_) <;> (intro h; first | (exfalso; omega) | (simp only [h, decide_true, decide_false, not_false_eq_true]) | skip) | refine end_ret [] ?_; simp [go_sem, hlt, rdB] | (fail_if_success with_reducible (refine Owe.mk ?_)); (simp (disch := omega) [go_sem, hlt, rdB]) | refine And.intro (by omega) ?_ | refine And.intro (And.intro (by assumption) (by omega)) ?_ | refine awp_draw 10 mix (by decide +kernel) ?_ | (refine nbI fun bq => ?_) | (first | refine zqm ?_ ?_ | refine zgm ?_ ?_ | refine zdm ?_ ?_) <;> (intro h; simp only [h, Bool.not_true, Bool.not_false]) | (first | refine zqs ?_ ?_ | refine zgs ?_ ?_ | refine zds ?_ ?_) <;> (intro h; first | (exfalso; simp at h; omega) | ((try simp only [h]); (try simp at h))))
    · rw [agF_on hlt hc] at hag
      have hcg := sgT_gt hc
      rw [hc] at hcm
      generalize sgT s 44 (tmF s (wdF s k) (wdT s k)).2 = k3 at *
      generalize tmF s (wdF s k) (wdT s k) = q at *
      generalize wdF s k = wd at *
      generalize wdT s k = k1 at *
      obtain ⟨tm, k2⟩ := q
      dsimp only at *
      repeat' (first | (refine awK fun _ _ => ?_) | refine Hide.go (by assumption) ?_ | (first | refine zqd ?_ ?_ | refine zqn ?_ ?_ | refine zgd ?_ ?_ | refine zgn ?_ ?_ | refine zdd ?_ ?_ | refine zdn ?_ ?_) <;> (intro h; first | (exfalso; omega) | (simp only [h, decide_true, decide_false, not_false_eq_true]) | skip) | refine end_ret [] ?_; simp [go_sem, hlt, rdB] | (fail_if_success with_reducible (refine Owe.mk ?_)); (simp (disch := omega) [go_sem, hlt, rdB]) | refine And.intro (by omega) ?_ | refine And.intro (And.intro (by assumption) (by omega)) ?_ | refine awp_draw 10 mix (by decide +kernel) ?_ | (refine nbI fun bq => ?_) | (first | refine zqm ?_ ?_ | refine zgm ?_ ?_ | refine zdm ?_ ?_) <;> (intro h; simp only [h, Bool.not_true, Bool.not_false]) | (first | refine zqs ?_ ?_ | refine zgs ?_ ?_ | refine zds ?_ ?_) <;> (intro h; first | (exfalso; simp at h; omega) | ((try simp only [h]); (try simp at h))))
      refine stepK_fis [(1000, 7)] [(7, 1000)] 10000 _ _ (Fits.mk' (by simp [go_sem, rdO, rdA, rdB]) (by simp [go_sem, rdO, rdA, rdB])) (by simp [go_sem, rdO, rdA, rdB]) (by simp [go_sem, rdO, rdA, rdB]) (hwd) (by simp [go_sem, rdO, rdA, rdB]) (by simp [go_sem, rdO, rdA, rdB]) ?_
      repeat' (first | (refine awK fun _ _ => ?_) | refine Hide.go (by assumption) ?_ | (first | refine zqd ?_ ?_ | refine zqn ?_ ?_ | refine zgd ?_ ?_ | refine zgn ?_ ?_ | refine zdd ?_ ?_ | refine zdn ?_ ?_) <;> (intro h; first | (exfalso; omega) | (simp only [h, decide_true, decide_false, not_false_eq_true]) | skip) | refine end_ret [] ?_; simp [go_sem, hlt, rdB] | (fail_if_success with_reducible (refine Owe.mk ?_)); (simp (disch := omega) [go_sem, hlt, rdB]) | refine And.intro (by omega) ?_ | refine And.intro (And.intro (by assumption) (by omega)) ?_ | refine awp_draw 10 mix (by decide +kernel) ?_ | (refine nbI fun bq => ?_) | (first | refine zqm ?_ ?_ | refine zgm ?_ ?_ | refine zdm ?_ ?_) <;> (intro h; simp only [h, Bool.not_true, Bool.not_false]) | (first | refine zqs ?_ ?_ | refine zgs ?_ ?_ | refine zds ?_ ?_) <;> (intro h; first | (exfalso; simp at h; omega) | ((try simp only [h]); (try simp at h))))
      refine stepK_fis [(1000, 7)] [(7, 1000)] 10000 _ _ (Fits.mk' (by simp [go_sem, rdO, rdA, rdB]) (by simp [go_sem, rdO, rdA, rdB])) (by simp [go_sem, rdO, rdA, rdB]) (by simp [go_sem, rdO, rdA, rdB]) (ht) (by simp [go_sem, rdO, rdA, rdB]) (by simp [go_sem, rdO, rdA, rdB]) ?_
      repeat' (first | (refine awK fun _ _ => ?_) | refine Hide.go (by assumption) ?_ | (first | refine zqd ?_ ?_ | refine zqn ?_ ?_ | refine zgd ?_ ?_ | refine zgn ?_ ?_ | refine zdd ?_ ?_ | refine zdn ?_ ?_) <;> (intro h; first | (exfalso; omega) | (simp only [h, decide_true, decide_false, not_false_eq_true]) | skip) | refine end_ret [] ?_; simp [go_sem, hlt, rdB] | (fail_if_success with_reducible (refine Owe.mk ?_)); (simp (disch := omega) [go_sem, hlt, rdB]) | refine And.intro (by omega) ?_ | refine And.intro (And.intro (by assumption) (by omega)) ?_ | refine awp_draw 10 mix (by decide +kernel) ?_ | (refine nbI fun bq => ?_) | (first | refine zqm ?_ ?_ | refine zgm ?_ ?_ | refine zdm ?_ ?_) <;> (intro h; simp only [h, Bool.not_true, Bool.not_false]) | (first | refine zqs ?_ ?_ | refine zgs ?_ ?_ | refine zds ?_ ?_) <;> (intro h; first | (exfalso; simp at h; omega) | ((try simp only [h]); (try simp at h))))
      refine stepK_fis [(1000, 7)] [(7, 1000)] 10000 _ _ (Fits.mk' (by simp [go_sem, rdO, rdA, rdB]) (by simp [go_sem, rdO, rdA, rdB])) (by simp [go_sem, rdO, rdA, rdB]) (by simp [go_sem, rdO, rdA, rdB]) (hcm) (by simp [go_sem, rdO, rdA, rdB]) (by simp [go_sem, rdO, rdA, rdB]) ?_
      repeat' (first | (refine awK fun _ _ => ?_) | refine Hide.go (by assumption) ?_ | (first | refine zqd ?_ ?_ | refine zqn ?_ ?_ | refine zgd ?_ ?_ | refine zgn ?_ ?_ | refine zdd ?_ ?_ | refine zdn ?_ ?_) <;> (intro h; first | (exfalso; omega) | (simp only [h, decide_true, decide_false, not_false_eq_true]) | skip) | refine end_ret [] ?_; simp [go_sem, hlt, rdB] | refine (hAA.next ((a ++ [tm], k3)) (Le.sub4 rfl (by simp [go_sem, rdB])) (by (try dsimp only); omega) ?_) | (fail_if_success with_reducible (refine Owe.mk ?_)); (simp (disch := omega) [go_sem, hlt, rdB]) | refine And.intro (by omega) ?_ | refine And.intro (And.intro (by assumption) (by omega)) ?_ | refine awp_draw 10 mix (by decide +kernel) ?_ | (refine nbI fun bq => ?_) | (first | refine zqm ?_ ?_ | refine zgm ?_ ?_ | refine zdm ?_ ?_) <;> (intro h; simp only [h, Bool.not_true, Bool.not_false]) | (first | refine zqs ?_ ?_ | refine zgs ?_ ?_ | refine zds ?_ ?_) <;> (intro h; first | (exfalso; simp at h; omega) | ((try simp only [h]); (try simp at h))))
      all_goals (first | omega | skip)
      exact ⟨by omega, by simp; omega, hag⟩
  · rw [agF_end hlt] at hag
    subst hag
    repeat' (first | (refine awK fun _ _ => ?_) | refine Hide.go (by assumption) ?_ | (first | refine zqd ?_ ?_ | refine zqn ?_ ?_ | refine zgd ?_ ?_ | refine zgn ?_ ?_ | refine zdd ?_ ?_ | refine zdn ?_ ?_) <;> (intro h; first | (exfalso; omega) | (simp only [h, decide_true, decide_false, not_false_eq_true]) | skip) | refine end_ret [] ?_; simp [go_sem, hlt, rdB] | (fail_if_success with_reducible (refine Owe.mk ?_)); (simp (disch := omega) [go_sem, hlt, rdB]) | refine And.intro (by omega) ?_ | refine And.intro (And.intro (by assumption) (by omega)) ?_ | refine awp_draw 10 mix (by decide +kernel) ?_ | (refine nbI fun bq => ?_) | (first | refine zqm ?_ ?_ | refine zgm ?_ ?_ | refine zdm ?_ ?_) <;> (intro h; simp only [h, Bool.not_true, Bool.not_false]) | (first | refine zqs ?_ ?_ | refine zgs ?_ ?_ | refine zds ?_ ?_) <;> (intro h; first | (exfalso; simp at h; omega) | ((try simp only [h]); (try simp at h))))
open Go.ChangeShapes Go.WideShapes Go.ChangeAt Go.RowKit
theorem own : ownKnob Tryz.prog.godebug = none := by kernel_rfl
theorem kids : Kids Tryz.prog (· < Tryz.prog.types.size) := kids_rows (by kernel_rfl) (by kernel_rfl)
theorem full : ∀ t e, t < Tryz.prog.types.size → Tryz.prog.underlying t = some (.slice e) → 0 < Tryz.prog.cellsOf e := slices_full_of Tryz.prog (by kernel_rfl)
section
variable {H : Type} {enc : TypeId × Value → H} {W : World}
end
open Go.Ab Go.RowKit
section
variable {H : Type} {enc : TypeId × Value → H} {W : World}
theorem came_perm : ∀ n : Nat, Came enc Tryz.prog W n 23 (fun l : List Pr => .list false false (l.map ePr)) (fun _ => True)
  | 0 => Came.zero
  | 1 => (Came.slice Tryz.underlying23 (by decide +kernel) (by decide +kernel) (Came.zero (en := ePr) (ok := fun _ => True))).map (fun x => x) (fun x h => ⟨trivial, rfl⟩)
  | n + 2 => (Came.slice Tryz.underlying23 (by decide +kernel) (by decide +kernel)
      ((Came.struct Tryz.underlying50 rfl (by kernel_rfl) (CameF.cons 1 rfl (by kernel_rfl) (Came.string Tryz.underlying9) (CameF.cons 1 rfl (by kernel_rfl) (Came.string Tryz.underlying9) CameF.nil))).map (en' := ePr) (ok' := fun _ => True) (fun x => (⟨x.1, x.2.1⟩ : Pr)) (fun x h => ⟨trivial, rfl⟩))).map (fun x => x) (fun x h => ⟨trivial, rfl⟩)
theorem came_perms (n : Nat) : Came enc Tryz.prog W n 27 (fun l : List (List Pr) => .list false false (l.map fun p => .list false false (p.map ePr))) (fun _ => True) := by
  cases n with
  | zero => exact Came.zero
  | succ n => exact (Came.slice Tryz.underlying27 (by decide +kernel) (by decide +kernel) (came_perm n)).map (fun x => x) (fun x h => ⟨trivial, rfl⟩)
end
end Go.Proofs.YtmadpbpmcbdboaaGreat
