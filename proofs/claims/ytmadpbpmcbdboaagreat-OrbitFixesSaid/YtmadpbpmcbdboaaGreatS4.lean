import Derived.Test.YtmadpbpmcbdboaaGreatS3
set_option linter.unusedSimpArgs false
set_option linter.unusedVariables false
namespace Go.Proofs.YtmadpbpmcbdboaaGreat
open Go.Ab
set_option maxRecDepth 100000
set_option maxHeartbeats 4000000
theorem swr_ok (f : FuncId) (kd : Nat) (l : List Tm) (hl : l.length ≤ 140737488355328) (a b n : Nat) (h1 : a + n ≤ b) (h2 : b + n ≤ l.length) :
    MCall Tryz.prog 141 [.ref 1000 0 l.length, nt .i64 a, nt .i64 b, nt .i64 n, .clo f []] [(1000, rowO eTm 2 kd l)] (fun r o' => r = .tup [] ∧ o' = [(1000, rowO eTm 2 kd (swr l a b n))]) := by
  refine mcall_of_awpL Tryz.func141 Tryz.call141 rfl (by simp [Tryz.ntmps141]) ?_; simp only [Tryz.ntmps141, Tryz.results141]
  repeat' (first | (refine awK fun _ _ => ?_) | refine Hide.go (by assumption) ?_ | (fail_if_success with_reducible (refine Owe.mk ?_)); (simp (disch := omega) [go_sem]))
  refine awp_for [0, 1, 2, 3] [1000] (fun i : Nat => [(10, nt .i64 i)]) (fun i : Nat => [(1000, rowO eTm 2 kd (swr l a b i))]) (fun i : Nat => n - i) (fun i : Nat => i ≤ n) (0) (Le.sub4 rfl (by simp [go_sem, swr, List.range_zero, List.foldl_nil])) ⟨?_⟩ ?_
  · exact Nat.zero_le _
  intro i hi AA hAA; simp only [kL, Nat.reduceBEq, Nat.reduceEqDiff, if_true, if_false, List.cons_append, List.nil_append, List.append_nil]
  have hlen := swr_len l a b i
  have hs := swr_succ l a b i
  generalize hg : swr l a b i = l1 at *
  by_cases hlt : i < n
  · have ha : a + i < l1.length := by omega
    have hb : b + i < l1.length := by omega
    have e1 : ((a : Int) + i).toNat = a + i := by omega
    have e2 : ((b : Int) + i).toNat = b + i := by omega
    have hsw := (swp_eq ha hb).symm
    rw [← hsw] at hs
    repeat' (first | (refine awK fun _ _ => ?_) | refine Hide.go (by assumption) ?_ | refine zqd ?_ ?_ <;> (intro h; first | (exfalso; omega) | (simp only [h, decide_true, decide_false, not_false_eq_true])) | refine (hAA.next (i + 1) (Le.sub4 rfl (by simp [go_sem, set_eTm, hs, -List.map_set])) (by (try dsimp only); omega) ?_) | (fail_if_success with_reducible (refine Owe.mk ?_)); (simp (disch := omega) [go_sem, ha, hb, e1, e2]) | refine And.intro (by omega) ?_ | refine awp_draw 21 mix (by decide +kernel) ?_)
    exact ⟨hlt⟩
  · obtain rfl : i = n := by omega
    subst hg
    repeat' (first | (refine awK fun _ _ => ?_) | refine Hide.go (by assumption) ?_ | (fail_if_success with_reducible (refine Owe.mk ?_)); (simp (disch := omega) [go_sem]))
    refine endL_normal ⟨38, [], [(1000, rowO eTm 2 kd (swr l a b i))]⟩ [] (Le.renSub [] [] (by simp [go_sem]) (by simp [go_sem]) (Le.sub4 rfl (by simp [go_sem]))) (by simp [go_sem]) ⟨rfl, rfl⟩
theorem rot_ok (f : FuncId) (kd : Nat) (l : List Tm) (hl : l.length ≤ 140737488355328) (a m b : Nat) (h1 : a < m) (h2 : m < b) (hb : b ≤ l.length) :
    MCall Tryz.prog 129 [.ref 1000 0 l.length, nt .i64 a, nt .i64 m, nt .i64 b, .clo f []] [(1000, rowO eTm 2 kd l)] (fun r o' => ∃ l', Rot l l' a m b ∧ r = .tup [] ∧ o' = [(1000, rowO eTm 2 kd l')]) := by
  have g1 : ((m : Int) - a) = ((m - a : Nat) : Int) := by omega
  have g2 : ((b : Int) - m) = ((b - m : Nat) : Int) := by omega
  refine mcall_of_awpL Tryz.func129 Tryz.call129 rfl (by simp [Tryz.ntmps129]) ?_; simp only [Tryz.ntmps129, Tryz.results129]
  repeat' (first | (refine awK fun _ _ => ?_) | refine Hide.go (by assumption) ?_ | (fail_if_success with_reducible (refine Owe.mk ?_)); (simp (disch := omega) [go_sem]))
  refine awp_for [0, 2, 4] [1000] (fun x : Nat × Nat × List Tm => [(10, nt .i64 x.1), (11, nt .i64 x.2.1)]) (fun x : Nat × Nat × List Tm => [(1000, rowO eTm 2 kd x.2.2)]) (fun x : Nat × Nat × List Tm => x.1 + x.2.1) (fun x : Nat × Nat × List Tm => 1 ≤ x.1 ∧ 1 ≤ x.2.1 ∧ RotS l x.2.2 a m b x.1 x.2.1) ((m - a, b - m, l)) (Le.sub4 rfl (by simp [go_sem, g1, g2])) ⟨?_⟩ ?_
  · exact ⟨by dsimp only; omega, by dsimp only; omega, RotS.start (by omega) (by omega) hb⟩
  intro ⟨i, j, l1⟩ ⟨hi, hj, hs⟩ AA hAA; simp only [kL, Nat.reduceBEq, Nat.reduceEqDiff, if_true, if_false, List.cons_append, List.nil_append, List.append_nil]
  dsimp only at *
  have q1 := hs.hi
  have q2 := hs.hi2
  have q3 := hs.hj
  have hlen := hs.len
  have hbl := hs.hb
  have e1 : ((m : Int) - i) = ((m - i : Nat) : Int) := by omega
  by_cases hij : i = j
  · subst hij
    have hc := swr_ok f kd l1 (by omega) (m - i) m i (by omega) (by omega)
    rw [hlen] at hc
    repeat' (first | (refine awK fun _ _ => ?_) | refine Hide.go (by assumption) ?_ | (fail_if_success with_reducible (refine Owe.mk ?_)); (simp (disch := omega) [go_sem]))
    refine stepK_fis [] [] 10000 _ _ (Fits.mk' (by simp [go_sem, e1]) (by simp [go_sem, e1])) (by simp [go_sem, e1]) (by simp [go_sem, e1]) (hc) (by simp [go_sem, e1]) (by simp [go_sem, e1]) ?_
    repeat' (first | (fail_if_success with_reducible (refine Owe.mk ?_)); (simp (disch := omega) [go_sem]))
    refine endL_normal ⟨58, [], [(1000, rowO eTm 2 kd (swr l1 (m - i) m i))]⟩ [] (Le.renSub [] [] (by simp [go_sem]) (by simp [go_sem]) (Le.sub4 rfl (by simp [go_sem]))) (by simp [go_sem]) ⟨_, hs.done, rfl, rfl⟩
  · by_cases hgt : j < i
    · have hc := swr_ok f kd l1 (by omega) (m - i) m j (by omega) (by omega)
      rw [hlen] at hc
      have e2 : ((i : Int) - j) = ((i - j : Nat) : Int) := by omega
      repeat' (first | (refine awK fun _ _ => ?_) | refine Hide.go (by assumption) ?_ | (first | refine zqd ?_ ?_ | refine zqn ?_ ?_) <;> (intro h; first | (exfalso; omega) | (simp only [h, decide_true, decide_false, not_false_eq_true])) | (fail_if_success with_reducible (refine Owe.mk ?_)); (simp (disch := omega) [go_sem]))
      all_goals (first | omega | skip)
      refine stepK_fis [] [] 10000 _ _ (Fits.mk' (by simp [go_sem, e1]) (by simp [go_sem, e1])) (by simp [go_sem, e1]) (by simp [go_sem, e1]) (hc) (by simp [go_sem, e1]) (by simp [go_sem, e1]) ?_
      repeat' (first | refine Hide.go (by assumption) ?_ | refine (hAA.next ((i - j, j, swr l1 (m - i) m j)) (Le.sub4 rfl (by simp [go_sem, e2])) (by (try dsimp only); omega) ?_) | (fail_if_success with_reducible (refine Owe.mk ?_)); (simp (disch := omega) [go_sem]))
      exact ⟨⟨by omega, by omega, hs.gt hgt⟩⟩
    · have hc := swr_ok f kd l1 (by omega) (m - i) (m + j - i) i (by omega) (by omega)
      rw [hlen] at hc
      have e2 : ((j : Int) - i) = ((j - i : Nat) : Int) := by omega
      have e3 : ((m : Int) + j - i) = ((m + j - i : Nat) : Int) := by omega
      repeat' (first | (refine awK fun _ _ => ?_) | refine Hide.go (by assumption) ?_ | (first | refine zqd ?_ ?_ | refine zqn ?_ ?_) <;> (intro h; first | (exfalso; omega) | (simp only [h, decide_true, decide_false, not_false_eq_true])) | (fail_if_success with_reducible (refine Owe.mk ?_)); (simp (disch := omega) [go_sem]))
      all_goals (first | omega | skip)
      refine stepK_fis [] [] 10000 _ _ (Fits.mk' (by simp [go_sem, e1, e3]) (by simp [go_sem, e1, e3])) (by simp [go_sem, e1, e3]) (by simp [go_sem, e1, e3]) (hc) (by simp [go_sem, e1, e3]) (by simp [go_sem, e1, e3]) ?_
      repeat' (first | refine Hide.go (by assumption) ?_ | refine (hAA.next ((i, j - i, swr l1 (m - i) (m + j - i) i)) (Le.sub4 rfl (by simp [go_sem, e2])) (by (try dsimp only); omega) ?_) | (fail_if_success with_reducible (refine Owe.mk ?_)); (simp (disch := omega) [go_sem]))
      exact ⟨⟨hi, show 1 ≤ j - i by omega, hs.lt (by omega)⟩⟩
set_option maxHeartbeats 8000000
theorem merge1_ok (f : FuncId) (cf : Tm → Tm → Int) (hp : Pre cf) (kd : Nat) (S : Tm → Prop) (hc : ∀ x y, S x → S y → ACall Tryz.prog f [eT x, eT y] (fun r => r = nt .i64 (cf x y))) (l : List Tm) (hS : ∀ x ∈ l, S x) (hl : l.length ≤ 140737488355328) (a m b : Nat) (ham : a < m) (hmb : m < b) (hb : b ≤ l.length) (hs1 : SrtOn cf l a m) (hs2 : SrtOn cf l m b) (hc1 : m = a + 1) :
    MCall Tryz.prog 121 [.ref 1000 0 l.length, nt .i64 a, nt .i64 m, nt .i64 b, .clo f []] [(1000, rowO eTm 2 kd l)] (fun r o' => ∃ l', (Keep l l' a b ∧ SrtOn cf l' a b) ∧ r = .tup [] ∧ o' = [(1000, rowO eTm 2 kd l')]) := by
  have hcm : ∀ (p q : Nat) (h1 : p < l.length) (h2 : q < l.length), ACall Tryz.prog f [eT l[p], eT l[q]] (fun r => r = nt .i64 (cf l[p] l[q])) := fun p q h1 h2 => hc _ _ (hS _ (List.getElem_mem h1)) (hS _ (List.getElem_mem h2))
  have hal : a < l.length := by omega
  have hml : m < l.length := by omega
  have ga : l[a]? = some l[a] := List.getElem?_eq_getElem hal
  have gm : l[m]? = some l[m] := List.getElem?_eq_getElem hml
  subst hc1
  refine mcall_of_awpL Tryz.func121 Tryz.call121 rfl (by simp [Tryz.ntmps121]) ?_; simp only [Tryz.ntmps121, Tryz.results121]
  repeat' (first | (refine awK fun _ _ => ?_) | refine Hide.go (by assumption) ?_ | refine zqd ?_ ?_ <;> (intro h; first | (exfalso; omega) | (simp only [h, decide_true, decide_false, not_false_eq_true])) | (fail_if_success with_reducible (refine Owe.mk ?_)); (simp (disch := omega) [go_sem]))
  all_goals (first | omega | skip)
  refine awp_for [0, 1, 4] [] (fun x : Nat × Nat => [(10, nt .i64 x.1), (11, nt .i64 x.2)]) (fun x : Nat × Nat => []) (fun x : Nat × Nat => x.2 - x.1) (fun x : Nat × Nat => a + 1 ≤ x.1 ∧ x.1 ≤ x.2 ∧ x.2 ≤ b ∧ LeOn cf l (a + 1) x.1 a (a + 1) ∧ LeOn cf l a (a + 1) x.2 b) ((a + 1, b)) (Le.sub4 rfl (by simp [go_sem])) ⟨?_⟩ ?_
  · exact ⟨Nat.le_refl _, Nat.le_of_lt hmb, Nat.le_refl _, .empty1 (Nat.le_refl _), .empty2 (Nat.le_refl _)⟩
  intro ⟨i, j⟩ ⟨hi, hij, hj, c1, c2⟩ AA hAA; simp only [kL, Nat.reduceBEq, Nat.reduceEqDiff, if_true, if_false, List.cons_append, List.nil_append, List.append_nil]
  dsimp only at *
  by_cases hlt : i < j
  · obtain ⟨mi, hmi⟩ : ∃ h, h = (i + j) / 2 := ⟨_, rfl⟩
    have hm' : ((i : Int) + j).fdiv 2 = (mi : Int) := by rw [Int.fdiv_eq_ediv_of_nonneg _ (by decide)]; omega
    have hm2 : ((i : Int) + j) / 2 = (mi : Int) := by omega
    have hhl : mi < l.length := by omega
    have gh : l[mi]? = some l[mi] := List.getElem?_eq_getElem hhl
    have hu := hcm mi a hhl hal
    by_cases hq : cf l[mi] l[a] < 0
    · repeat' (first | (refine awK fun _ _ => ?_) | refine Hide.go (by assumption) ?_ | refine zqd ?_ ?_ <;> (intro h; first | (exfalso; omega) | (simp only [h, decide_true, decide_false, not_false_eq_true])) | refine dstepK_is rfl (hu) rfl (by simp) ?_ | refine (hAA.next ((mi + 1, j)) (Le.sub4 rfl (by simp [go_sem])) (by (try dsimp only); omega) ?_) | (fail_if_success with_reducible (refine Owe.mk ?_)); (simp (disch := omega) [go_sem, hal, hhl, hm', hm2]) | refine awp_draw 11 mix (by decide +kernel) ?_)
      exact ⟨⟨by omega, by omega, hj, LeOn.mono hp hs2 hs1 ⟨by omega, by omega⟩ ⟨Nat.le_refl _, Nat.lt_succ_self _⟩ gh ga (by omega), c2⟩⟩
    · repeat' (first | (refine awK fun _ _ => ?_) | refine Hide.go (by assumption) ?_ | refine zqd ?_ ?_ <;> (intro h; first | (exfalso; omega) | (simp only [h, decide_true, decide_false, not_false_eq_true])) | refine dstepK_is rfl (hu) rfl (by simp) ?_ | refine (hAA.next ((i, mi)) (Le.sub4 rfl (by simp [go_sem])) (by (try dsimp only); omega) ?_) | (fail_if_success with_reducible (refine Owe.mk ?_)); (simp (disch := omega) [go_sem, hal, hhl, hm', hm2]) | refine awp_draw 11 mix (by decide +kernel) ?_)
      exact ⟨⟨hi, by omega, by omega, c1, LeOn.mono hp hs1 hs2 ⟨Nat.le_refl _, Nat.lt_succ_self _⟩ ⟨by omega, by omega⟩ ga gh (hp.sw _ _ hq)⟩⟩
  · obtain rfl : i = j := by omega
    have hi1 : (i : Int) - 1 = ((i - 1 : Nat) : Int) := by omega
    repeat' (first | (refine awK fun _ _ => ?_) | refine Hide.go (by assumption) ?_ | (fail_if_success with_reducible (refine Owe.mk ?_)); (simp (disch := omega) [go_sem, hi1]))
    refine awp_for [0, 10] [1000] (fun x : Nat × List Tm => [(13, nt .i64 x.1)]) (fun x : Nat × List Tm => [(1000, rowO eTm 2 kd x.2)]) (fun x : Nat × List Tm => i - x.1) (fun x : Nat × List Tm => a ≤ x.1 ∧ x.1 + 1 ≤ i ∧ Rot l x.2 a (a + 1) (x.1 + 1)) ((a, l)) (Le.sub4 rfl (by simp [go_sem])) ⟨?_⟩ ?_
    · exact ⟨Nat.le_refl _, hi, Rot.right _ _ _⟩
    intro ⟨k, l1⟩ ⟨hk, hki, hR⟩ AA hAA; simp only [kL, Nat.reduceBEq, Nat.reduceEqDiff, if_true, if_false, List.cons_append, List.nil_append, List.append_nil]
    dsimp only at *
    have hl1 := hR.perm.length_eq
    by_cases hlt2 : k + 1 < i
    · have h1 : k < l1.length := by omega
      have h2 : k + 1 < l1.length := by omega
      have hsw := (swp_eq h1 h2).symm
      repeat' (first | (refine awK fun _ _ => ?_) | refine Hide.go (by assumption) ?_ | refine zqd ?_ ?_ <;> (intro h; first | (exfalso; omega) | (simp only [h, decide_true, decide_false, not_false_eq_true])) | refine (hAA.next ((k + 1, swp l1 k (k + 1))) (Le.sub4 rfl (by simp [go_sem, set_eTm, hsw, -List.map_set])) (by (try dsimp only); omega) ?_) | (fail_if_success with_reducible (refine Owe.mk ?_)); (simp (disch := omega) [go_sem, h1, h2, hi1]) | refine And.intro (by omega) ?_ | refine awp_draw 14 mix (by decide +kernel) ?_)
      exact ⟨⟨by omega, by omega, hR.stepR hk (by omega)⟩⟩
    · obtain rfl : i = k + 1 := by omega
      repeat' (first | (refine awK fun _ _ => ?_) | refine Hide.go (by assumption) ?_ | (fail_if_success with_reducible (refine Owe.mk ?_)); (simp (disch := omega) [go_sem, hi1]))
      all_goals (first | omega | skip)
      refine endL_ret ⟨220, [], [(1000, rowO eTm 2 kd l1)]⟩ [] (Le.renSub [] [] (by simp [go_sem]) (by simp [go_sem]) (Le.sub4 rfl (by simp [go_sem]))) (by simp [go_sem]) ⟨l1, hR.into hp (Nat.le_refl _) (by omega) (by omega) hj hs1 hs2 c1 (.empty1 (Nat.le_refl _)) c2, rfl, rfl⟩
theorem merge2_ok (f : FuncId) (cf : Tm → Tm → Int) (hp : Pre cf) (kd : Nat) (S : Tm → Prop) (hc : ∀ x y, S x → S y → ACall Tryz.prog f [eT x, eT y] (fun r => r = nt .i64 (cf x y))) (l : List Tm) (hS : ∀ x ∈ l, S x) (hl : l.length ≤ 140737488355328) (a m b : Nat) (ham : a < m) (hmb : m < b) (hb : b ≤ l.length) (hs1 : SrtOn cf l a m) (hs2 : SrtOn cf l m b) (hc1 : ¬ m = a + 1) (hc2 : b = m + 1) :
    MCall Tryz.prog 121 [.ref 1000 0 l.length, nt .i64 a, nt .i64 m, nt .i64 b, .clo f []] [(1000, rowO eTm 2 kd l)] (fun r o' => ∃ l', (Keep l l' a b ∧ SrtOn cf l' a b) ∧ r = .tup [] ∧ o' = [(1000, rowO eTm 2 kd l')]) := by
  have hcm : ∀ (p q : Nat) (h1 : p < l.length) (h2 : q < l.length), ACall Tryz.prog f [eT l[p], eT l[q]] (fun r => r = nt .i64 (cf l[p] l[q])) := fun p q h1 h2 => hc _ _ (hS _ (List.getElem_mem h1)) (hS _ (List.getElem_mem h2))
  have hal : a < l.length := by omega
  have hml : m < l.length := by omega
  have ga : l[a]? = some l[a] := List.getElem?_eq_getElem hal
  have gm : l[m]? = some l[m] := List.getElem?_eq_getElem hml
  subst hc2
  refine mcall_of_awpL Tryz.func121 Tryz.call121 rfl (by simp [Tryz.ntmps121]) ?_; simp only [Tryz.ntmps121, Tryz.results121]
  repeat' (first | (refine awK fun _ _ => ?_) | refine Hide.go (by assumption) ?_ | refine zqd ?_ ?_ <;> (intro h; first | (exfalso; omega) | (simp only [h, decide_true, decide_false, not_false_eq_true])) | (fail_if_success with_reducible (refine Owe.mk ?_)); (simp (disch := omega) [go_sem]))
  all_goals (first | omega | skip)
  refine awp_for [0, 2, 4] [] (fun x : Nat × Nat => [(14, nt .i64 x.1), (15, nt .i64 x.2)]) (fun x : Nat × Nat => []) (fun x : Nat × Nat => x.2 - x.1) (fun x : Nat × Nat => a ≤ x.1 ∧ x.1 ≤ x.2 ∧ x.2 ≤ m ∧ LeOn cf l a x.1 m (m + 1) ∧ LeOn cf l m (m + 1) x.2 m) ((a, m)) (Le.sub4 rfl (by simp [go_sem])) ⟨?_⟩ ?_
  · exact ⟨Nat.le_refl _, Nat.le_of_lt ham, Nat.le_refl _, .empty1 (Nat.le_refl _), .empty2 (Nat.le_refl _)⟩
  intro ⟨i, j⟩ ⟨hi, hij, hj, c1, c2⟩ AA hAA; simp only [kL, Nat.reduceBEq, Nat.reduceEqDiff, if_true, if_false, List.cons_append, List.nil_append, List.append_nil]
  dsimp only at *
  by_cases hlt : i < j
  · obtain ⟨mi, hmi⟩ : ∃ h, h = (i + j) / 2 := ⟨_, rfl⟩
    have hm' : ((i : Int) + j).fdiv 2 = (mi : Int) := by rw [Int.fdiv_eq_ediv_of_nonneg _ (by decide)]; omega
    have hm2 : ((i : Int) + j) / 2 = (mi : Int) := by omega
    have hhl : mi < l.length := by omega
    have gh : l[mi]? = some l[mi] := List.getElem?_eq_getElem hhl
    have hu := hcm m mi hml hhl
    by_cases hq : cf l[m] l[mi] < 0
    · repeat' (first | (refine awK fun _ _ => ?_) | refine Hide.go (by assumption) ?_ | (first | refine zqd ?_ ?_ | refine zqn ?_ ?_) <;> (intro h; first | (exfalso; omega) | (simp only [h, decide_true, decide_false, not_false_eq_true])) | refine dstepK_is rfl (hu) rfl (by simp) ?_ | refine (hAA.next ((i, mi)) (Le.sub4 rfl (by simp [go_sem])) (by (try dsimp only); omega) ?_) | (fail_if_success with_reducible (refine Owe.mk ?_)); (simp (disch := omega) [go_sem, hml, hhl, hm', hm2]) | refine awp_draw 11 mix (by decide +kernel) ?_)
      exact ⟨⟨hi, by omega, by omega, c1, LeOn.mono hp hs2 hs1 ⟨Nat.le_refl _, Nat.lt_succ_self _⟩ ⟨by omega, by omega⟩ gm gh (by omega)⟩⟩
    · repeat' (first | (refine awK fun _ _ => ?_) | refine Hide.go (by assumption) ?_ | (first | refine zqd ?_ ?_ | refine zqn ?_ ?_) <;> (intro h; first | (exfalso; omega) | (simp only [h, decide_true, decide_false, not_false_eq_true])) | refine dstepK_is rfl (hu) rfl (by simp) ?_ | refine (hAA.next ((mi + 1, j)) (Le.sub4 rfl (by simp [go_sem])) (by (try dsimp only); omega) ?_) | (fail_if_success with_reducible (refine Owe.mk ?_)); (simp (disch := omega) [go_sem, hml, hhl, hm', hm2]) | refine awp_draw 11 mix (by decide +kernel) ?_)
      exact ⟨⟨by omega, by omega, hj, LeOn.mono hp hs1 hs2 ⟨by omega, by omega⟩ ⟨Nat.le_refl _, Nat.lt_succ_self _⟩ gh gm (hp.sw _ _ hq), c2⟩⟩
  · obtain rfl : i = j := by omega
    repeat' (first | (refine awK fun _ _ => ?_) | refine Hide.go (by assumption) ?_ | (fail_if_success with_reducible (refine Owe.mk ?_)); (simp (disch := omega) [go_sem]))
    refine awp_for [0, 14] [1000] (fun x : Nat × List Tm => [(17, nt .i64 x.1)]) (fun x : Nat × List Tm => [(1000, rowO eTm 2 kd x.2)]) (fun x : Nat × List Tm => x.1) (fun x : Nat × List Tm => i ≤ x.1 ∧ x.1 ≤ m ∧ Rot l x.2 x.1 m (m + 1)) ((m, l)) (Le.sub4 rfl (by simp [go_sem])) ⟨?_⟩ ?_
    · exact ⟨hj, Nat.le_refl _, Rot.left _ _ _⟩
    intro ⟨k, l1⟩ ⟨hk, hki, hR⟩ AA hAA; simp only [kL, Nat.reduceBEq, Nat.reduceEqDiff, if_true, if_false, List.cons_append, List.nil_append, List.append_nil]
    dsimp only at *
    have hl1 := hR.perm.length_eq
    by_cases hlt2 : i < k
    · obtain ⟨k, rfl⟩ : ∃ k', k = k' + 1 := ⟨k - 1, by omega⟩
      have h1 : k < l1.length := by omega
      have h2 : k + 1 < l1.length := by omega
      have hsw := (swp_eq h2 h1).symm
      repeat' (first | (refine awK fun _ _ => ?_) | refine Hide.go (by assumption) ?_ | refine zqd ?_ ?_ <;> (intro h; first | (exfalso; omega) | (simp only [h, decide_true, decide_false, not_false_eq_true])) | refine (hAA.next ((k, swp l1 (k + 1) k)) (Le.sub4 rfl (by simp [go_sem, set_eTm, hsw, -List.map_set])) (by (try dsimp only); omega) ?_) | (fail_if_success with_reducible (refine Owe.mk ?_)); (simp (disch := omega) [go_sem, h1, h2]) | refine And.intro (by omega) ?_ | refine awp_draw 14 mix (by decide +kernel) ?_)
      exact ⟨⟨by omega, by omega, hR.stepL (by omega) (by omega)⟩⟩
    · obtain rfl : i = k := by omega
      repeat' (first | (refine awK fun _ _ => ?_) | refine Hide.go (by assumption) ?_ | (fail_if_success with_reducible (refine Owe.mk ?_)); (simp (disch := omega) [go_sem]))
      all_goals (first | omega | skip)
      refine endL_ret ⟨220, [], [(1000, rowO eTm 2 kd l1)]⟩ [] (Le.renSub [] [] (by simp [go_sem]) (by simp [go_sem]) (Le.sub4 rfl (by simp [go_sem]))) (by simp [go_sem]) ⟨l1, hR.into hp hi (by omega) (by omega) (Nat.le_refl _) hs1 hs2 c2 c1 (.empty2 (Nat.le_refl _)), rfl, rfl⟩
theorem merge_ok (f : FuncId) (cf : Tm → Tm → Int) (hp : Pre cf) (kd : Nat) (S : Tm → Prop) (hc : ∀ x y, S x → S y → ACall Tryz.prog f [eT x, eT y] (fun r => r = nt .i64 (cf x y))) : ∀ (N : Nat) (l : List Tm), (∀ x ∈ l, S x) → l.length ≤ 140737488355328 → ∀ (a m b : Nat), b - a ≤ N → a < m → m < b → b ≤ l.length → SrtOn cf l a m → SrtOn cf l m b →
    MCall Tryz.prog 121 [.ref 1000 0 l.length, nt .i64 a, nt .i64 m, nt .i64 b, .clo f []] [(1000, rowO eTm 2 kd l)] (fun r o' => ∃ l', (Keep l l' a b ∧ SrtOn cf l' a b) ∧ r = .tup [] ∧ o' = [(1000, rowO eTm 2 kd l')]) := by
  intro N
  induction N with
  | zero => intro l _ _ a m b h1 h2 h3; omega
  | succ N ih =>
  intro l hS hl a m b hN ham hmb hb hs1 hs2
  have hcm : ∀ (p q : Nat) (h1 : p < l.length) (h2 : q < l.length), ACall Tryz.prog f [eT l[p], eT l[q]] (fun r => r = nt .i64 (cf l[p] l[q])) := fun p q h1 h2 => hc _ _ (hS _ (List.getElem_mem h1)) (hS _ (List.getElem_mem h2))
  have hal : a < l.length := by omega
  have hml : m < l.length := by omega
  have ga : l[a]? = some l[a] := List.getElem?_eq_getElem hal
  have gm : l[m]? = some l[m] := List.getElem?_eq_getElem hml
  by_cases hc1 : m = a + 1
  · exact merge1_ok f cf hp kd S hc l hS hl a m b ham hmb hb hs1 hs2 hc1
  by_cases hc2 : b = m + 1
  · exact merge2_ok f cf hp kd S hc l hS hl a m b ham hmb hb hs1 hs2 hc1 hc2
  obtain ⟨mid, hmid⟩ : ∃ h, h = (a + b) / 2 := ⟨_, rfl⟩
  have hm' : ((a : Int) + b).fdiv 2 = (mid : Int) := by rw [Int.fdiv_eq_ediv_of_nonneg _ (by decide)]; omega
  have hm2 : ((a : Int) + b) / 2 = (mid : Int) := by omega
  have hst := SymS.start (cf := cf) (l := l) ham hmb hmid
  obtain ⟨s0, hs0⟩ : ∃ s, s = if mid < m then mid + m - b else a := ⟨_, rfl⟩
  obtain ⟨r0, hr0⟩ : ∃ s, s = if mid < m then mid else m := ⟨_, rfl⟩
  rw [← hs0, ← hr0] at hst
  refine mcall_of_awpL Tryz.func121 Tryz.call121 rfl (by simp [Tryz.ntmps121]) ?_; simp only [Tryz.ntmps121, Tryz.results121]
  by_cases hmm : mid < m
  · rw [if_pos hmm] at hs0 hr0
    have e1 : (mid : Int) + m - b = (s0 : Int) := by omega
    rw [hr0] at hst
    clear hr0
    repeat' (first | (refine awK fun _ _ => ?_) | refine Hide.go (by assumption) ?_ | refine zqd ?_ ?_ <;> (intro h; first | (exfalso; omega) | (simp only [h, decide_true, decide_false, not_false_eq_true])) | (fail_if_success with_reducible (refine Owe.mk ?_)); (simp (disch := omega) [go_sem, hm', hm2, e1]))
    all_goals (first | omega | skip)
    refine awp_for [0, 1, 2, 3, 4, 18, 19, 22] [] (fun x : Nat × Nat => [(20, nt .i64 x.1), (21, nt .i64 x.2)]) (fun x : Nat × Nat => []) (fun x : Nat × Nat => x.2 - x.1) (fun x : Nat × Nat => SymS cf l a m b mid x.1 x.2) ((s0, mid)) (Le.sub4 rfl (by simp [go_sem, e1])) ⟨?_⟩ ?_
    · exact hst
    intro ⟨i, j⟩ hv AA hAA; simp only [kL, Nat.reduceBEq, Nat.reduceEqDiff, if_true, if_false, List.cons_append, List.nil_append, List.append_nil]
    dsimp only at *
    have v1 := hv.ha
    have v2 := hv.hs
    have v3 := hv.hr
    have v4 := hv.hr2
    have v5 := hv.hb
    by_cases hlt : i < j
    · obtain ⟨mi, hmi⟩ : ∃ h, h = (i + j) / 2 := ⟨_, rfl⟩
      have hm' : ((i : Int) + j).fdiv 2 = (mi : Int) := by rw [Int.fdiv_eq_ediv_of_nonneg _ (by decide)]; omega
      have hm2 : ((i : Int) + j) / 2 = (mi : Int) := by omega
      have hhl : mi < l.length := by omega
      have gh : l[mi]? = some l[mi] := List.getElem?_eq_getElem hhl
      obtain ⟨q, hq⟩ : ∃ q, q = mid + m - 1 - mi := ⟨_, rfl⟩
      have hq1 : (mid : Int) + m - 1 - mi = (q : Int) := by omega
      have hql : q < l.length := by omega
      have gq : l[q]? = some l[q] := List.getElem?_eq_getElem hql
      have hu := hcm q mi hql hhl
      by_cases hz : cf l[q] l[mi] < 0
      · repeat' (first | (refine awK fun _ _ => ?_) | refine Hide.go (by assumption) ?_ | (first | refine zqd ?_ ?_ | refine zqn ?_ ?_) <;> (intro h; first | (exfalso; omega) | (simp only [h, decide_true, decide_false, not_false_eq_true])) | refine stepK_is rfl (hu) (by simp) ?_ | refine (hAA.next ((i, mi)) (Le.sub4 rfl (by simp [go_sem])) (by (try dsimp only); omega) ?_) | (fail_if_success with_reducible (refine Owe.mk ?_)); (simp (disch := omega) [go_sem, hhl, hql, hm', hm2, hq1]) | refine awp_draw 11 mix (by decide +kernel) ?_)
        exact ⟨hv.left ⟨by omega, by omega⟩ (by rw [← hq]; exact gq) gh (by omega)⟩
      · repeat' (first | (refine awK fun _ _ => ?_) | refine Hide.go (by assumption) ?_ | (first | refine zqd ?_ ?_ | refine zqn ?_ ?_) <;> (intro h; first | (exfalso; omega) | (simp only [h, decide_true, decide_false, not_false_eq_true])) | refine stepK_is rfl (hu) (by simp) ?_ | refine (hAA.next ((mi + 1, j)) (Le.sub4 rfl (by simp [go_sem])) (by (try dsimp only); omega) ?_) | (fail_if_success with_reducible (refine Owe.mk ?_)); (simp (disch := omega) [go_sem, hhl, hql, hm', hm2, hq1]) | refine awp_draw 11 mix (by decide +kernel) ?_)
        exact ⟨hv.right ⟨by omega, by omega⟩ gh (by rw [← hq]; exact gq) (hp.sw _ _ hz)⟩
    · obtain rfl : i = j := by omega
      obtain ⟨e, he⟩ : ∃ e, e = mid + m - i := ⟨_, rfl⟩
      have he1 : (mid : Int) + m - i = (e : Int) := by omega
      by_cases g1 : i < m ∧ m < e
      · obtain ⟨g1a, g1b⟩ := g1
        have hcr := rot_ok f kd l hl i m e g1a g1b (by omega)
        repeat' (first | (refine awK fun _ _ => ?_) | refine Hide.go (by assumption) ?_ | (first | refine zqd ?_ ?_ | refine zgd ?_ ?_) <;> (intro h; first | (exfalso; omega) | (simp only [h, decide_true, decide_false, not_false_eq_true])) | (fail_if_success with_reducible (refine Owe.mk ?_)); (simp (disch := omega) [go_sem, he1]))
        all_goals (first | omega | skip)
        refine stepK_fex [] [] 10000 _ _ (Fits.mk' (by simp [go_sem]) (by simp [go_sem])) (by simp [go_sem]) (by simp [go_sem]) (hcr) (by simp [go_sem]) (by intros; simp [go_sem]) ?_; intro l1 hR
        have hf := hv.done hp he hb hs1 hs2 hR
        have hl1 : l1.length = l.length := hf.keep.len
        by_cases g2 : a < i ∧ i < mid
        · obtain ⟨g2a, g2b⟩ := g2
          have hc2 := ih l1 (fun x hx => hS x (hf.keep.mem.1 hx)) (by omega) a i mid (by omega) (by omega) (by omega) (by omega) hf.r1 hf.r2
          rw [hl1] at hc2
          repeat' (first | (refine awK fun _ _ => ?_) | refine Hide.go (by assumption) ?_ | (first | refine zqd ?_ ?_ | refine zgd ?_ ?_) <;> (intro h; first | (exfalso; omega) | (simp only [h, decide_true, decide_false, not_false_eq_true])) | (fail_if_success with_reducible (refine Owe.mk ?_)); (simp (disch := omega) [go_sem]))
          all_goals (first | omega | skip)
          all_goals
            refine stepK_fex [] [] 10000 _ _ (Fits.mk' (by simp [go_sem]) (by simp [go_sem])) (by simp [go_sem]) (by simp [go_sem]) (hc2) (by simp [go_sem]) (by intros; simp [go_sem]) ?_; intro l2 h2
            obtain ⟨k2, s2⟩ := h2
            have r3 := hf.r3.keep k2 (.inr (Nat.le_refl _))
            have r4 := hf.r4.keep k2 (.inr (by omega))
            have hl2 : l2.length = l.length := by rw [k2.len, hf.keep.len]
            by_cases g3 : mid < e ∧ e < b
            · obtain ⟨g3a, g3b⟩ := g3
              have hc3 := ih l2 (fun x hx => hS x (hf.keep.mem.1 (k2.mem.1 hx))) (by omega) mid e b (by omega) (by omega) (by omega) (by omega) r3 r4
              rw [hl2] at hc3
              repeat' (first | (refine awK fun _ _ => ?_) | refine Hide.go (by assumption) ?_ | (first | refine zqd ?_ ?_ | refine zgd ?_ ?_) <;> (intro h; first | (exfalso; omega) | (simp only [h, decide_true, decide_false, not_false_eq_true])) | (fail_if_success with_reducible (refine Owe.mk ?_)); (simp (disch := omega) [go_sem]))
              all_goals (first | omega | skip)
              all_goals
                refine stepK_fex [] [] 10000 _ _ (Fits.mk' (by simp [go_sem]) (by simp [go_sem])) (by simp [go_sem]) (by simp [go_sem]) (hc3) (by simp [go_sem]) (by intros; simp [go_sem]) ?_; intro l3 h3
                obtain ⟨k3, s3⟩ := h3
                repeat' (first | (fail_if_success with_reducible (refine Owe.mk ?_)); (simp (disch := omega) [go_sem]))
                all_goals (first | omega | skip)
                all_goals
                  refine endL_normal ⟨220, [], [(1000, rowO eTm 2 kd l3)]⟩ [] (Le.renSub [] [] (by simp [go_sem]) (by simp [go_sem]) (Le.sub4 rfl (by simp [go_sem]))) (by simp [go_sem]) ⟨_, hf.merge (by omega) (by omega) k2 s2 k3 s3, rfl, rfl⟩
            · have s3 := r3.join_empty r4 (by omega) (by omega)
              repeat' (first | (refine awK fun _ _ => ?_) | refine Hide.go (by assumption) ?_ | (first | refine zqd ?_ ?_ | refine zgd ?_ ?_) <;> (intro h; first | (exfalso; omega) | (simp only [h, decide_true, decide_false, not_false_eq_true])) | (fail_if_success with_reducible (refine Owe.mk ?_)); (simp (disch := omega) [go_sem]))
              all_goals (first | omega | skip)
              all_goals
                refine endL_normal ⟨220, [], [(1000, rowO eTm 2 kd l2)]⟩ [] (Le.renSub [] [] (by simp [go_sem]) (by simp [go_sem]) (Le.sub4 rfl (by simp [go_sem]))) (by simp [go_sem]) ⟨_, hf.merge (by omega) (by omega) k2 s2 (Keep.refl _ _ _) s3, rfl, rfl⟩
        · have s2 := hf.r1.join_empty hf.r2 (by omega) (by omega)
          have k2 := Keep.refl l1 a mid
          have r3 := hf.r3.keep k2 (.inr (Nat.le_refl _))
          have r4 := hf.r4.keep k2 (.inr (by omega))
          have hl2 : l1.length = l.length := by rw [k2.len, hf.keep.len]
          by_cases g3 : mid < e ∧ e < b
          · obtain ⟨g3a, g3b⟩ := g3
            have hc3 := ih l1 (fun x hx => hS x (hf.keep.mem.1 (k2.mem.1 hx))) (by omega) mid e b (by omega) (by omega) (by omega) (by omega) r3 r4
            rw [hl2] at hc3
            repeat' (first | (refine awK fun _ _ => ?_) | refine Hide.go (by assumption) ?_ | refine zgd ?_ ?_ <;> (intro h; (exfalso; omega)) | (fail_if_success with_reducible (refine Owe.mk ?_)); (simp (disch := omega) [go_sem]))
            all_goals (first | omega | skip)
            all_goals
              refine stepK_fex [] [] 10000 _ _ (Fits.mk' (by simp [go_sem]) (by simp [go_sem])) (by simp [go_sem]) (by simp [go_sem]) (hc3) (by simp [go_sem]) (by intros; simp [go_sem]) ?_; intro l3 h3
              obtain ⟨k3, s3⟩ := h3
              skip
              all_goals (first | omega | skip)
              all_goals
                refine endL_normal ⟨220, [], [(1000, rowO eTm 2 kd l3)]⟩ [] (Le.renSub [] [] (by simp [go_sem]) (by simp [go_sem]) (Le.sub4 rfl (by simp [go_sem]))) (by simp [go_sem]) ⟨_, hf.merge (by omega) (by omega) k2 s2 k3 s3, rfl, rfl⟩
          · have s3 := r3.join_empty r4 (by omega) (by omega)
            repeat' (first | (refine awK fun _ _ => ?_) | refine Hide.go (by assumption) ?_ | (first | refine zqd ?_ ?_ | refine zgd ?_ ?_) <;> (intro h; first | (exfalso; omega) | (simp only [h, decide_true, decide_false, not_false_eq_true])) | (fail_if_success with_reducible (refine Owe.mk ?_)); (simp (disch := omega) [go_sem]))
            all_goals (first | omega | skip)
            all_goals
              refine endL_normal ⟨220, [], [(1000, rowO eTm 2 kd l1)]⟩ [] (Le.renSub [] [] (by simp [go_sem]) (by simp [go_sem]) (Le.sub4 rfl (by simp [go_sem]))) (by simp [go_sem]) ⟨_, hf.merge (by omega) (by omega) k2 s2 (Keep.refl _ _ _) s3, rfl, rfl⟩
      · have hR : Rot l l i m e := by
          by_cases g : i < m
          · obtain rfl : e = m := by omega
            exact Rot.right _ _ _
          · obtain rfl : i = m := by omega
            exact Rot.left _ _ _
        have hf := hv.done hp he hb hs1 hs2 hR
        repeat' (first | (refine awK fun _ _ => ?_) | refine Hide.go (by assumption) ?_ | (first | refine zqd ?_ ?_ | refine zgd ?_ ?_) <;> (intro h; first | (exfalso; omega) | (simp only [h, decide_true, decide_false, not_false_eq_true])) | (fail_if_success with_reducible (refine Owe.mk ?_)); (simp (disch := omega) [go_sem, he1]))
        all_goals (first | omega | skip)
        all_goals
          have hl1 : l.length = l.length := hf.keep.len
          by_cases g2 : a < i ∧ i < mid
          · obtain ⟨g2a, g2b⟩ := g2
            have hc2 := ih l (fun x hx => hS x (hf.keep.mem.1 hx)) (by omega) a i mid (by omega) (by omega) (by omega) (by omega) hf.r1 hf.r2
            rw [hl1] at hc2
            repeat' (first | (fail_if_success with_reducible (refine Owe.mk ?_)); (simp (disch := omega) [go_sem]) | refine And.intro (by omega) ?_)
            all_goals (first | omega | skip)
            all_goals
              refine stepK_fex [] [] 10000 _ _ (Fits.mk' (by simp [go_sem]) (by simp [go_sem])) (by simp [go_sem]) (by simp [go_sem]) (hc2) (by simp [go_sem]) (by intros; simp [go_sem]) ?_; intro l2 h2
              obtain ⟨k2, s2⟩ := h2
              have r3 := hf.r3.keep k2 (.inr (Nat.le_refl _))
              have r4 := hf.r4.keep k2 (.inr (by omega))
              have hl2 : l2.length = l.length := by rw [k2.len, hf.keep.len]
              by_cases g3 : mid < e ∧ e < b
              · obtain ⟨g3a, g3b⟩ := g3
                have hc3 := ih l2 (fun x hx => hS x (hf.keep.mem.1 (k2.mem.1 hx))) (by omega) mid e b (by omega) (by omega) (by omega) (by omega) r3 r4
                rw [hl2] at hc3
                skip
                all_goals (first | omega | skip)
                all_goals
                  refine stepK_fex [] [] 10000 _ _ (Fits.mk' (by simp [go_sem]) (by simp [go_sem])) (by simp [go_sem]) (by simp [go_sem]) (hc3) (by simp [go_sem]) (by intros; simp [go_sem]) ?_; intro l3 h3
                  obtain ⟨k3, s3⟩ := h3
                  skip
                  all_goals (first | omega | skip)
                  all_goals
                    refine endL_normal ⟨220, [], [(1000, rowO eTm 2 kd l3)]⟩ [] (Le.renSub [] [] (by simp [go_sem]) (by simp [go_sem]) (Le.sub4 rfl (by simp [go_sem]))) (by simp [go_sem]) ⟨_, hf.merge (by omega) (by omega) k2 s2 k3 s3, rfl, rfl⟩
              · have s3 := r3.join_empty r4 (by omega) (by omega)
                skip
                all_goals (first | omega | skip)
                all_goals
                  refine endL_normal ⟨220, [], [(1000, rowO eTm 2 kd l2)]⟩ [] (Le.renSub [] [] (by simp [go_sem]) (by simp [go_sem]) (Le.sub4 rfl (by simp [go_sem]))) (by simp [go_sem]) ⟨_, hf.merge (by omega) (by omega) k2 s2 (Keep.refl _ _ _) s3, rfl, rfl⟩
          · have s2 := hf.r1.join_empty hf.r2 (by omega) (by omega)
            have k2 := Keep.refl l a mid
            have r3 := hf.r3.keep k2 (.inr (Nat.le_refl _))
            have r4 := hf.r4.keep k2 (.inr (by omega))
            have hl2 : l.length = l.length := by rw [k2.len, hf.keep.len]
            by_cases g3 : mid < e ∧ e < b
            · obtain ⟨g3a, g3b⟩ := g3
              have hc3 := ih l (fun x hx => hS x (hf.keep.mem.1 (k2.mem.1 hx))) (by omega) mid e b (by omega) (by omega) (by omega) (by omega) r3 r4
              rw [hl2] at hc3
              skip
              all_goals (first | omega | skip)
              all_goals
                refine stepK_fex [] [] 10000 _ _ (Fits.mk' (by simp [go_sem]) (by simp [go_sem])) (by simp [go_sem]) (by simp [go_sem]) (hc3) (by simp [go_sem]) (by intros; simp [go_sem]) ?_; intro l3 h3
                obtain ⟨k3, s3⟩ := h3
                repeat' (first | (fail_if_success with_reducible (refine Owe.mk ?_)); (simp (disch := omega) [go_sem]))
                all_goals (first | omega | skip)
                all_goals
                  refine endL_normal ⟨220, [], [(1000, rowO eTm 2 kd l3)]⟩ [] (Le.renSub [] [] (by simp [go_sem]) (by simp [go_sem]) (Le.sub4 rfl (by simp [go_sem]))) (by simp [go_sem]) ⟨_, hf.merge (by omega) (by omega) k2 s2 k3 s3, rfl, rfl⟩
            · have s3 := r3.join_empty r4 (by omega) (by omega)
              repeat' (first | (fail_if_success with_reducible (refine Owe.mk ?_)); (simp (disch := omega) [go_sem]) | refine And.intro (by omega) ?_)
              all_goals (first | omega | skip)
              all_goals
                refine endL_normal ⟨220, [], [(1000, rowO eTm 2 kd l)]⟩ [] (Le.renSub [] [] (by simp [go_sem]) (by simp [go_sem]) (Le.sub4 rfl (by simp [go_sem]))) (by simp [go_sem]) ⟨_, hf.merge (by omega) (by omega) k2 s2 (Keep.refl _ _ _) s3, rfl, rfl⟩
  · rw [if_neg hmm] at hs0 hr0
    rw [hs0, hr0] at hst
    clear hs0
    clear hr0
    repeat' (first | (refine awK fun _ _ => ?_) | refine Hide.go (by assumption) ?_ | refine zqd ?_ ?_ <;> (intro h; first | (exfalso; omega) | (simp only [h, decide_true, decide_false, not_false_eq_true])) | (fail_if_success with_reducible (refine Owe.mk ?_)); (simp (disch := omega) [go_sem, hm', hm2]))
    all_goals (first | omega | skip)
    refine awp_for [0, 1, 2, 3, 4, 18, 19, 22] [] (fun x : Nat × Nat => [(20, nt .i64 x.1), (21, nt .i64 x.2)]) (fun x : Nat × Nat => []) (fun x : Nat × Nat => x.2 - x.1) (fun x : Nat × Nat => SymS cf l a m b mid x.1 x.2) ((a, m)) (Le.sub4 rfl (by simp [go_sem])) ⟨?_⟩ ?_
    · exact hst
    intro ⟨i, j⟩ hv AA hAA; simp only [kL, Nat.reduceBEq, Nat.reduceEqDiff, if_true, if_false, List.cons_append, List.nil_append, List.append_nil]
    dsimp only at *
    have v1 := hv.ha
    have v2 := hv.hs
    have v3 := hv.hr
    have v4 := hv.hr2
    have v5 := hv.hb
    by_cases hlt : i < j
    · obtain ⟨mi, hmi⟩ : ∃ h, h = (i + j) / 2 := ⟨_, rfl⟩
      have hm' : ((i : Int) + j).fdiv 2 = (mi : Int) := by rw [Int.fdiv_eq_ediv_of_nonneg _ (by decide)]; omega
      have hm2 : ((i : Int) + j) / 2 = (mi : Int) := by omega
      have hhl : mi < l.length := by omega
      have gh : l[mi]? = some l[mi] := List.getElem?_eq_getElem hhl
      obtain ⟨q, hq⟩ : ∃ q, q = mid + m - 1 - mi := ⟨_, rfl⟩
      have hq1 : (mid : Int) + m - 1 - mi = (q : Int) := by omega
      have hql : q < l.length := by omega
      have gq : l[q]? = some l[q] := List.getElem?_eq_getElem hql
      have hu := hcm q mi hql hhl
      by_cases hz : cf l[q] l[mi] < 0
      · repeat' (first | (refine awK fun _ _ => ?_) | refine Hide.go (by assumption) ?_ | (first | refine zqd ?_ ?_ | refine zqn ?_ ?_) <;> (intro h; first | (exfalso; omega) | (simp only [h, decide_true, decide_false, not_false_eq_true])) | refine stepK_is rfl (hu) (by simp) ?_ | refine (hAA.next ((i, mi)) (Le.sub4 rfl (by simp [go_sem])) (by (try dsimp only); omega) ?_) | (fail_if_success with_reducible (refine Owe.mk ?_)); (simp (disch := omega) [go_sem, hhl, hql, hm', hm2, hq1]) | refine awp_draw 11 mix (by decide +kernel) ?_)
        exact ⟨hv.left ⟨by omega, by omega⟩ (by rw [← hq]; exact gq) gh (by omega)⟩
      · repeat' (first | (refine awK fun _ _ => ?_) | refine Hide.go (by assumption) ?_ | (first | refine zqd ?_ ?_ | refine zqn ?_ ?_) <;> (intro h; first | (exfalso; omega) | (simp only [h, decide_true, decide_false, not_false_eq_true])) | refine stepK_is rfl (hu) (by simp) ?_ | refine (hAA.next ((mi + 1, j)) (Le.sub4 rfl (by simp [go_sem])) (by (try dsimp only); omega) ?_) | (fail_if_success with_reducible (refine Owe.mk ?_)); (simp (disch := omega) [go_sem, hhl, hql, hm', hm2, hq1]) | refine awp_draw 11 mix (by decide +kernel) ?_)
        exact ⟨hv.right ⟨by omega, by omega⟩ gh (by rw [← hq]; exact gq) (hp.sw _ _ hz)⟩
    · obtain rfl : i = j := by omega
      obtain ⟨e, he⟩ : ∃ e, e = mid + m - i := ⟨_, rfl⟩
      have he1 : (mid : Int) + m - i = (e : Int) := by omega
      by_cases g1 : i < m ∧ m < e
      · obtain ⟨g1a, g1b⟩ := g1
        have hcr := rot_ok f kd l hl i m e g1a g1b (by omega)
        repeat' (first | (refine awK fun _ _ => ?_) | refine Hide.go (by assumption) ?_ | (first | refine zqd ?_ ?_ | refine zgd ?_ ?_) <;> (intro h; first | (exfalso; omega) | (simp only [h, decide_true, decide_false, not_false_eq_true])) | (fail_if_success with_reducible (refine Owe.mk ?_)); (simp (disch := omega) [go_sem, he1]))
        all_goals (first | omega | skip)
        refine stepK_fex [] [] 10000 _ _ (Fits.mk' (by simp [go_sem]) (by simp [go_sem])) (by simp [go_sem]) (by simp [go_sem]) (hcr) (by simp [go_sem]) (by intros; simp [go_sem]) ?_; intro l1 hR
        have hf := hv.done hp he hb hs1 hs2 hR
        have hl1 : l1.length = l.length := hf.keep.len
        by_cases g2 : a < i ∧ i < mid
        · obtain ⟨g2a, g2b⟩ := g2
          have hc2 := ih l1 (fun x hx => hS x (hf.keep.mem.1 hx)) (by omega) a i mid (by omega) (by omega) (by omega) (by omega) hf.r1 hf.r2
          rw [hl1] at hc2
          repeat' (first | (refine awK fun _ _ => ?_) | refine Hide.go (by assumption) ?_ | (first | refine zqd ?_ ?_ | refine zgd ?_ ?_) <;> (intro h; first | (exfalso; omega) | (simp only [h, decide_true, decide_false, not_false_eq_true])) | (fail_if_success with_reducible (refine Owe.mk ?_)); (simp (disch := omega) [go_sem]))
          all_goals (first | omega | skip)
          all_goals
            refine stepK_fex [] [] 10000 _ _ (Fits.mk' (by simp [go_sem]) (by simp [go_sem])) (by simp [go_sem]) (by simp [go_sem]) (hc2) (by simp [go_sem]) (by intros; simp [go_sem]) ?_; intro l2 h2
            obtain ⟨k2, s2⟩ := h2
            have r3 := hf.r3.keep k2 (.inr (Nat.le_refl _))
            have r4 := hf.r4.keep k2 (.inr (by omega))
            have hl2 : l2.length = l.length := by rw [k2.len, hf.keep.len]
            by_cases g3 : mid < e ∧ e < b
            · obtain ⟨g3a, g3b⟩ := g3
              have hc3 := ih l2 (fun x hx => hS x (hf.keep.mem.1 (k2.mem.1 hx))) (by omega) mid e b (by omega) (by omega) (by omega) (by omega) r3 r4
              rw [hl2] at hc3
              repeat' (first | (refine awK fun _ _ => ?_) | refine Hide.go (by assumption) ?_ | (first | refine zqd ?_ ?_ | refine zgd ?_ ?_) <;> (intro h; first | (exfalso; omega) | (simp only [h, decide_true, decide_false, not_false_eq_true])) | (fail_if_success with_reducible (refine Owe.mk ?_)); (simp (disch := omega) [go_sem]))
              all_goals (first | omega | skip)
              all_goals
                refine stepK_fex [] [] 10000 _ _ (Fits.mk' (by simp [go_sem]) (by simp [go_sem])) (by simp [go_sem]) (by simp [go_sem]) (hc3) (by simp [go_sem]) (by intros; simp [go_sem]) ?_; intro l3 h3
                obtain ⟨k3, s3⟩ := h3
                repeat' (first | (fail_if_success with_reducible (refine Owe.mk ?_)); (simp (disch := omega) [go_sem]))
                all_goals (first | omega | skip)
                all_goals
                  refine endL_normal ⟨220, [], [(1000, rowO eTm 2 kd l3)]⟩ [] (Le.renSub [] [] (by simp [go_sem]) (by simp [go_sem]) (Le.sub4 rfl (by simp [go_sem]))) (by simp [go_sem]) ⟨_, hf.merge (by omega) (by omega) k2 s2 k3 s3, rfl, rfl⟩
            · have s3 := r3.join_empty r4 (by omega) (by omega)
              repeat' (first | (refine awK fun _ _ => ?_) | refine Hide.go (by assumption) ?_ | refine zgd ?_ ?_ <;> (intro h; (exfalso; omega)) | (fail_if_success with_reducible (refine Owe.mk ?_)); (simp (disch := omega) [go_sem]))
              all_goals (first | omega | skip)
              all_goals
                refine endL_normal ⟨220, [], [(1000, rowO eTm 2 kd l2)]⟩ [] (Le.renSub [] [] (by simp [go_sem]) (by simp [go_sem]) (Le.sub4 rfl (by simp [go_sem]))) (by simp [go_sem]) ⟨_, hf.merge (by omega) (by omega) k2 s2 (Keep.refl _ _ _) s3, rfl, rfl⟩
        · have s2 := hf.r1.join_empty hf.r2 (by omega) (by omega)
          have k2 := Keep.refl l1 a mid
          have r3 := hf.r3.keep k2 (.inr (Nat.le_refl _))
          have r4 := hf.r4.keep k2 (.inr (by omega))
          have hl2 : l1.length = l.length := by rw [k2.len, hf.keep.len]
          by_cases g3 : mid < e ∧ e < b
          · obtain ⟨g3a, g3b⟩ := g3
            have hc3 := ih l1 (fun x hx => hS x (hf.keep.mem.1 (k2.mem.1 hx))) (by omega) mid e b (by omega) (by omega) (by omega) (by omega) r3 r4
            rw [hl2] at hc3
            repeat' (first | (refine awK fun _ _ => ?_) | refine Hide.go (by assumption) ?_ | (first | refine zqd ?_ ?_ | refine zgd ?_ ?_) <;> (intro h; first | (exfalso; omega) | (simp only [h, decide_true, decide_false, not_false_eq_true])) | (fail_if_success with_reducible (refine Owe.mk ?_)); (simp (disch := omega) [go_sem]))
            all_goals (first | omega | skip)
            all_goals
              refine stepK_fex [] [] 10000 _ _ (Fits.mk' (by simp [go_sem]) (by simp [go_sem])) (by simp [go_sem]) (by simp [go_sem]) (hc3) (by simp [go_sem]) (by intros; simp [go_sem]) ?_; intro l3 h3
              obtain ⟨k3, s3⟩ := h3
              repeat' (first | (fail_if_success with_reducible (refine Owe.mk ?_)); (simp (disch := omega) [go_sem]))
              all_goals (first | omega | skip)
              all_goals
                refine endL_normal ⟨220, [], [(1000, rowO eTm 2 kd l3)]⟩ [] (Le.renSub [] [] (by simp [go_sem]) (by simp [go_sem]) (Le.sub4 rfl (by simp [go_sem]))) (by simp [go_sem]) ⟨_, hf.merge (by omega) (by omega) k2 s2 k3 s3, rfl, rfl⟩
          · have s3 := r3.join_empty r4 (by omega) (by omega)
            repeat' (first | (refine awK fun _ _ => ?_) | refine Hide.go (by assumption) ?_ | (first | refine zqd ?_ ?_ | refine zgd ?_ ?_) <;> (intro h; first | (exfalso; omega) | (simp only [h, decide_true, decide_false, not_false_eq_true])) | (fail_if_success with_reducible (refine Owe.mk ?_)); (simp (disch := omega) [go_sem]))
            all_goals (first | omega | skip)
            all_goals
              refine endL_normal ⟨220, [], [(1000, rowO eTm 2 kd l1)]⟩ [] (Le.renSub [] [] (by simp [go_sem]) (by simp [go_sem]) (Le.sub4 rfl (by simp [go_sem]))) (by simp [go_sem]) ⟨_, hf.merge (by omega) (by omega) k2 s2 (Keep.refl _ _ _) s3, rfl, rfl⟩
      · have hR : Rot l l i m e := by
          by_cases g : i < m
          · obtain rfl : e = m := by omega
            exact Rot.right _ _ _
          · obtain rfl : i = m := by omega
            exact Rot.left _ _ _
        have hf := hv.done hp he hb hs1 hs2 hR
        repeat' (first | (refine awK fun _ _ => ?_) | refine Hide.go (by assumption) ?_ | (first | refine zqd ?_ ?_ | refine zgd ?_ ?_) <;> (intro h; first | (exfalso; omega) | (simp only [h, decide_true, decide_false, not_false_eq_true])) | (fail_if_success with_reducible (refine Owe.mk ?_)); (simp (disch := omega) [go_sem, he1]))
        all_goals (first | omega | skip)
        all_goals
          have hl1 : l.length = l.length := hf.keep.len
          by_cases g2 : a < i ∧ i < mid
          · obtain ⟨g2a, g2b⟩ := g2
            have hc2 := ih l (fun x hx => hS x (hf.keep.mem.1 hx)) (by omega) a i mid (by omega) (by omega) (by omega) (by omega) hf.r1 hf.r2
            rw [hl1] at hc2
            skip
            all_goals (first | omega | skip)
            all_goals
              refine stepK_fex [] [] 10000 _ _ (Fits.mk' (by simp [go_sem]) (by simp [go_sem])) (by simp [go_sem]) (by simp [go_sem]) (hc2) (by simp [go_sem]) (by intros; simp [go_sem]) ?_; intro l2 h2
              obtain ⟨k2, s2⟩ := h2
              have r3 := hf.r3.keep k2 (.inr (Nat.le_refl _))
              have r4 := hf.r4.keep k2 (.inr (by omega))
              have hl2 : l2.length = l.length := by rw [k2.len, hf.keep.len]
              by_cases g3 : mid < e ∧ e < b
              · obtain ⟨g3a, g3b⟩ := g3
                have hc3 := ih l2 (fun x hx => hS x (hf.keep.mem.1 (k2.mem.1 hx))) (by omega) mid e b (by omega) (by omega) (by omega) (by omega) r3 r4
                rw [hl2] at hc3
                repeat' (first | (refine awK fun _ _ => ?_) | refine Hide.go (by assumption) ?_ | refine zgd ?_ ?_ <;> (intro h; (exfalso; omega)) | (fail_if_success with_reducible (refine Owe.mk ?_)); (simp (disch := omega) [go_sem]))
                all_goals (first | omega | skip)
                all_goals
                  refine stepK_fex [] [] 10000 _ _ (Fits.mk' (by simp [go_sem]) (by simp [go_sem])) (by simp [go_sem]) (by simp [go_sem]) (hc3) (by simp [go_sem]) (by intros; simp [go_sem]) ?_; intro l3 h3
                  obtain ⟨k3, s3⟩ := h3
                  skip
                  all_goals (first | omega | skip)
                  all_goals
                    refine endL_normal ⟨220, [], [(1000, rowO eTm 2 kd l3)]⟩ [] (Le.renSub [] [] (by simp [go_sem]) (by simp [go_sem]) (Le.sub4 rfl (by simp [go_sem]))) (by simp [go_sem]) ⟨_, hf.merge (by omega) (by omega) k2 s2 k3 s3, rfl, rfl⟩
              · have s3 := r3.join_empty r4 (by omega) (by omega)
                repeat' (first | (refine awK fun _ _ => ?_) | refine Hide.go (by assumption) ?_ | refine zgd ?_ ?_ <;> (intro h; first | (exfalso; omega) | (simp only [h, decide_true, decide_false, not_false_eq_true])) | (fail_if_success with_reducible (refine Owe.mk ?_)); (simp (disch := omega) [go_sem]))
                all_goals (first | omega | skip)
                all_goals
                  refine endL_normal ⟨220, [], [(1000, rowO eTm 2 kd l2)]⟩ [] (Le.renSub [] [] (by simp [go_sem]) (by simp [go_sem]) (Le.sub4 rfl (by simp [go_sem]))) (by simp [go_sem]) ⟨_, hf.merge (by omega) (by omega) k2 s2 (Keep.refl _ _ _) s3, rfl, rfl⟩
          · have s2 := hf.r1.join_empty hf.r2 (by omega) (by omega)
            have k2 := Keep.refl l a mid
            have r3 := hf.r3.keep k2 (.inr (Nat.le_refl _))
            have r4 := hf.r4.keep k2 (.inr (by omega))
            have hl2 : l.length = l.length := by rw [k2.len, hf.keep.len]
            by_cases g3 : mid < e ∧ e < b
            · obtain ⟨g3a, g3b⟩ := g3
              have hc3 := ih l (fun x hx => hS x (hf.keep.mem.1 (k2.mem.1 hx))) (by omega) mid e b (by omega) (by omega) (by omega) (by omega) r3 r4
              rw [hl2] at hc3
              repeat' (first | (fail_if_success with_reducible (refine Owe.mk ?_)); (simp (disch := omega) [go_sem]) | refine And.intro (by omega) ?_)
              all_goals (first | omega | skip)
              all_goals
                refine stepK_fex [] [] 10000 _ _ (Fits.mk' (by simp [go_sem]) (by simp [go_sem])) (by simp [go_sem]) (by simp [go_sem]) (hc3) (by simp [go_sem]) (by intros; simp [go_sem]) ?_; intro l3 h3
                obtain ⟨k3, s3⟩ := h3
                skip
                all_goals (first | omega | skip)
                all_goals
                  refine endL_normal ⟨220, [], [(1000, rowO eTm 2 kd l3)]⟩ [] (Le.renSub [] [] (by simp [go_sem]) (by simp [go_sem]) (Le.sub4 rfl (by simp [go_sem]))) (by simp [go_sem]) ⟨_, hf.merge (by omega) (by omega) k2 s2 k3 s3, rfl, rfl⟩
            · have s3 := r3.join_empty r4 (by omega) (by omega)
              repeat' (first | (fail_if_success with_reducible (refine Owe.mk ?_)); (simp (disch := omega) [go_sem]) | refine And.intro (by omega) ?_)
              all_goals (first | omega | skip)
              all_goals
                refine endL_normal ⟨220, [], [(1000, rowO eTm 2 kd l)]⟩ [] (Le.renSub [] [] (by simp [go_sem]) (by simp [go_sem]) (Le.sub4 rfl (by simp [go_sem]))) (by simp [go_sem]) ⟨_, hf.merge (by omega) (by omega) k2 s2 (Keep.refl _ _ _) s3, rfl, rfl⟩
end Go.Proofs.YtmadpbpmcbdboaaGreat
