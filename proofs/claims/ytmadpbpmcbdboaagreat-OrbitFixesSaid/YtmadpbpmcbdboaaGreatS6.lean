import Derived.Test.YtmadpbpmcbdboaaGreatS5
import Derived.Test.YtmadpbpmcbdboaaGreatS3
set_option linter.unusedSimpArgs false
set_option linter.unusedVariables false
namespace Go.Proofs.YtmadpbpmcbdboaaGreat
open Go.Ab
set_option maxRecDepth 100000
set_option maxHeartbeats 8000000
theorem BSlist_ok (l : List (List Tm)) (le fu : Bool) (t : List Tm) (cf : (List Tm) → Int) (hcmp : ∀ r ∈ l, ACall Tryz.prog 41 [eLs r, eLs t] (fun x => x = nt .i64 (cf r))) (c : Nat) (hc : c ≤ l.length)
    (h1 : ∀ (k : Nat) (hk : k < l.length), k < c → cf l[k] < 0) (h2 : ∀ (k : Nat) (hk : k < l.length), c ≤ k → 0 ≤ cf l[k]) :
    ACall Tryz.prog 43 [.list le fu (l.map eLs), eLs t, .clo 41 []] (fun x => x = .tup [nt .i64 c, bl (match l[c]? with
      | some r => decide (cf r = 0)
      | none => false)]) := by
  refine ACall.bound (i := 0) rfl Tryz.call43 fun hb => ?_
  rw [List.length_map] at hb
  have hb : l.length ≤ 140737488355328 := hb
  generalize hR : (match l[c]? with
      | some r => decide (cf r = 0)
      | none => false) = R
  refine acall_of_awp Tryz.func43 Tryz.call43 rfl (by simp [Tryz.ntmps43]) ?_; simp only [Tryz.ntmps43, Tryz.results43]
  repeat' (first | (refine awK fun _ _ => ?_) | refine Hide.go (by assumption) ?_ | (fail_if_success with_reducible (refine Owe.mk ?_)); (simp (disch := omega) [go_sem]))
  refine awp_for [0, 1, 2, 8] [] (fun x : Nat × Nat => [(9, nt .i64 x.1), (10, nt .i64 x.2)]) (fun x : Nat × Nat => []) (fun x : Nat × Nat => x.2 - x.1) (fun x : Nat × Nat => x.1 ≤ c ∧ c ≤ x.2 ∧ x.2 ≤ l.length) ((0, l.length)) (Le.sub4 rfl (by simp [go_sem])) ⟨?_⟩ ?_
  · exact ⟨Nat.zero_le _, hc, Nat.le_refl _⟩
  intro ⟨i, j⟩ ⟨hi, hj, hl⟩ AA hAA; simp only [kL, Nat.reduceBEq, Nat.reduceEqDiff, if_true, if_false, List.cons_append, List.nil_append, List.append_nil]
  dsimp only at *
  by_cases hij : i < j
  · obtain ⟨m, hm⟩ : ∃ m, m = (i + j) / 2 := ⟨_, rfl⟩
    have hm' : ((i : Int) + j).fdiv 2 = (m : Int) := by rw [Int.fdiv_eq_ediv_of_nonneg _ (by decide)]; omega
    have hm2 : ((i : Int) + j) / 2 = (m : Int) := by omega
    have hml : m < l.length := by omega
    have hu := hcmp l[m] (List.getElem_mem hml)
    try unfold eLs at hu
    by_cases hq : cf l[m] < 0
    · have hlt : m < c := Nat.lt_of_not_le fun hh => by have := h2 m hml hh; omega
      repeat' (first | (refine awK fun _ _ => ?_) | refine Hide.go (by assumption) ?_ | refine zqd ?_ ?_ <;> (intro h; first | (exfalso; omega) | (simp only [h, decide_true, decide_false, not_false_eq_true])) | refine stepK_is rfl (hu) (by simp) ?_ | refine (hAA.next ((m + 1, j)) (Le.sub4 rfl (by simp [go_sem])) (by (try dsimp only); omega) ?_) | (fail_if_success with_reducible (refine Owe.mk ?_)); (simp (disch := omega) [go_sem, eLs, hml, hm', hm2]))
      exact ⟨⟨by omega, hj, hl⟩⟩
    · have hge : c ≤ m := Nat.le_of_not_lt fun hh => hq (h1 m hml hh)
      repeat' (first | (refine awK fun _ _ => ?_) | refine Hide.go (by assumption) ?_ | refine zqd ?_ ?_ <;> (intro h; first | (exfalso; omega) | (simp only [h, decide_true, decide_false, not_false_eq_true])) | refine stepK_is rfl (hu) (by simp) ?_ | refine (hAA.next ((i, m)) (Le.sub4 rfl (by simp [go_sem])) (by (try dsimp only); omega) ?_) | (fail_if_success with_reducible (refine Owe.mk ?_)); (simp (disch := omega) [go_sem, eLs, hml, hm', hm2]))
      exact ⟨⟨hi, hge, by omega⟩⟩
  · obtain rfl : i = c := by omega
    obtain rfl : j = i := by omega
    by_cases hcl : j < l.length
    · have hu := hcmp l[j] (List.getElem_mem hcl)
      try unfold eLs at hu
      rw [List.getElem?_eq_getElem hcl] at hR
      dsimp only at hR
      subst hR
      repeat' (first | (refine awK fun _ _ => ?_) | refine Hide.go (by assumption) ?_ | refine end_ret [] ?_; simp [go_sem, eLs, hcl] | refine stepK_is rfl (hu) (by simp) ?_ | (fail_if_success with_reducible (refine Owe.mk ?_)); (simp (disch := omega) [go_sem, eLs, hcl]))
    · rw [List.getElem?_eq_none (by omega)] at hR
      dsimp only at hR
      subst hR
      repeat' (first | (refine awK fun _ _ => ?_) | refine Hide.go (by assumption) ?_ | refine end_ret [] ?_; simp [go_sem, eLs, hcl] | (fail_if_success with_reducible (refine Owe.mk ?_)); (simp (disch := omega) [go_sem, eLs, hcl]))
def insL : List (List Tm) → List Tm → List (List Tm)
  | [], x => [x]
  | y :: r, x => if cmpL y x < 0 then y :: insL r x else if cmpL y x = 0 then y :: r else x :: y :: r
def SrtL (o : List (List Tm)) : Prop := o.Pairwise fun a b => cmpL a b < 0
theorem insL_app {A B : List (List Tm)} {x : List Tm} (h : ∀ a ∈ A, cmpL a x < 0) : insL (A ++ B) x = A ++ insL B x := by
  induction A with
  | nil => rfl
  | cons a A ih =>
    rw [List.cons_append, insL, if_pos (h a (by simp)), ih fun b hb => h b (by simp [hb])]
    rfl
theorem insL_split {x : List Tm} : ∀ {o : List (List Tm)}, SrtL o → ∃ A B, o = A ++ B ∧ (∀ a ∈ A, cmpL a x < 0) ∧ ∀ b ∈ B, 0 ≤ cmpL b x
  | [], _ => ⟨[], [], rfl, by simp, by simp⟩
  | y :: r, h => by
    obtain ⟨h1, h2⟩ := List.pairwise_cons.1 h
    by_cases hy : cmpL y x < 0
    · obtain ⟨A, B, e, h3, h4⟩ := insL_split (x := x) h2
      refine ⟨y :: A, B, by rw [e]; rfl, fun a ha => ?_, h4⟩
      rcases List.mem_cons.1 ha with rfl | ha
      · exact hy
      · exact h3 a ha
    · refine ⟨[], y :: r, rfl, by simp, fun b hb => ?_⟩
      rcases List.mem_cons.1 hb with rfl | hb
      · omega
      · have hyb := h1 b hb
        have hn1 := cmpL_neg y x
        have hn2 := cmpL_neg b x
        have hn3 := cmpL_neg y b
        by_cases hbx : cmpL b x < 0
        · have := cmpL_TR y b x (by omega) (by omega)
          omega
        · omega
theorem insL_mem {x y : List Tm} : ∀ {o : List (List Tm)}, y ∈ insL o x ↔ y = x ∨ y ∈ o
  | [] => by simp [insL]
  | z :: r => by
    unfold insL
    split
    · simp only [List.mem_cons, insL_mem (o := r)]
      constructor <;> rintro (h | h | h) <;> simp [h]
    · split
      · rename_i _ h0
        obtain rfl := (cmpL_zero z x).1 h0
        simp
      · simp
theorem insL_srt {x : List Tm} : ∀ {o : List (List Tm)}, SrtL o → SrtL (insL o x)
  | [], _ => by simp [insL, SrtL]
  | y :: r, h => by
    obtain ⟨h1, h2⟩ := List.pairwise_cons.1 h
    unfold insL
    split
    · rename_i hy
      refine List.pairwise_cons.2 ⟨fun b hb => ?_, insL_srt h2⟩
      rcases insL_mem.1 hb with rfl | hb
      · exact hy
      · exact h1 b hb
    · split
      · exact h
      · rename_i g1 g2
        have hn := cmpL_neg y x
        have hxy : cmpL x y < 0 := by omega
        refine List.pairwise_cons.2 ⟨fun b hb => ?_, h⟩
        rcases List.mem_cons.1 hb with rfl | hb
        · exact hxy
        · have h3 := h1 b hb
          have := cmpL_TR x y b (by omega) (by omega)
          omega
def orbN (g : List (List Pr)) (s : List Tm) : Nat → List (List Tm)
  | 0 => []
  | i + 1 => insL (orbN g s i) (stF (g.getD i []) s)
def orbF (g : List (List Pr)) (s : List Tm) : List (List Tm) := orbN g s g.length
theorem orbN_srt {g s} : ∀ i, SrtL (orbN g s i)
  | 0 => List.Pairwise.nil
  | i + 1 => insL_srt (orbN_srt i)
theorem insL_len {x : List Tm} : ∀ {o : List (List Tm)}, (insL o x).length ≤ o.length + 1
  | [] => by simp [insL]
  | y :: r => by
    have := insL_len (x := x) (o := r)
    unfold insL
    split
    · simp; omega
    · split <;> simp
theorem orbN_len {g s} : ∀ i, (orbN g s i).length ≤ i
  | 0 => Nat.le_refl _
  | i + 1 => by
    have := orbN_len (g := g) (s := s) i
    have := insL_len (x := stF (g.getD i []) s) (o := orbN g s i)
    show (insL _ _).length ≤ _
    omega
theorem orbN_next {g : List (List Pr)} {s : List Tm} {i : Nat} (h : i < g.length) : orbN g s (i + 1) = insL (orbN g s i) (stF g[i] s) := by
  rw [orbN, List.getD_eq_getElem?_getD, List.getElem?_eq_getElem h, Option.getD_some]
abbrev orbA (hd : LH) (o : List (List Tm)) : Objs := [(2000, loopO true (hd.st .ready none) [.ptr 1000 0 0]), (1000, ⟨false, false, true, 1, [.ref 1001 0 o.length], 0⟩), (1001, ⟨true, false, true, 1, o.map eLs, 0⟩)]
abbrev orbB (hd : LH) (o : List (List Tm)) : Objs := [(2000, loopO true (hd.st .ready none) [.ptr 1000 0 0]), (1000, ⟨false, false, true, 1, [.ref 1002 0 o.length], 0⟩), (1002, ⟨true, false, false, 1, o.map eLs, 0⟩)]
theorem imagesO_ok (g : List (List Pr)) (s : List Tm) (lg fg ls fs : Bool) (hb : g.length ≤ 1000000) (hbs : s.length ≤ 1000000) (hz : ∀ t ∈ s, t.size ≤ 1000000) (hd : LH)
    (hY : ∀ (i : Nat) (h : i < g.length), YCall Tryz.prog [.yl 2000, nt .i64 i, eLs (stF g[i] s)] (orbA hd (orbN g s i)) (fun r o' => r = bl true ∧ o' = orbB hd (orbN g s (i + 1)))) :
    MCall Tryz.prog 79 [.yl 2000, .ptr 1003 0 0, .ptr 1004 0 0] (orbA hd [] ++ canX g s lg fg ls fs) (fun r o' => r = .tup [] ∧ o' = orbB hd (orbN g s g.length) ++ canX g s lg fg ls fs) := by
  have hz0 : orbN g s 0 = [] := rfl
  refine mcall_of_awpL Tryz.func79 Tryz.call79 rfl (by simp [Tryz.ntmps79]) ?_; simp only [Tryz.ntmps79, Tryz.results79]
  repeat' (first | (refine awK fun _ _ => ?_) | refine Hide.go (by assumption) ?_ | (fail_if_success with_reducible (refine Owe.mk ?_)); (simp (disch := omega) [go_sem, orbA, canX]))
  refine awp_for [0, 2, 6, 7] [2000, 1000, 1001] (fun i : Nat => [(8, nt .i64 i)]) (fun i : Nat => [(2000, loopO true (hd.st .ready none) [.ptr 1000 0 0]), (1000, ⟨false, false, true, 1, [.ref 1001 0 (orbN g s i).length], 0⟩), (1001, ⟨true, false, false, 1, (orbN g s i).map eLs, 0⟩)]) (fun i : Nat => g.length - i) (fun i : Nat => i ≤ g.length) (0) (by refine Le.trans ?_ (Le.unpin 1001 rfl); exact (Le.sub4 rfl (by simp [go_sem, orbA, canX, hz0]))) ⟨?_⟩ ?_
  · exact Nat.zero_le _
  intro i hi AA hAA; simp only [kL, Nat.reduceBEq, Nat.reduceEqDiff, if_true, if_false, List.cons_append, List.nil_append, List.append_nil]
  by_cases hlt : i < g.length
  · have hy := hY i hlt
    have hst := (State_ok g[i] s false false ls fs hbs hz).frz
    generalize orbN g s i = X at *
    generalize hYe : orbN g s (i + 1) = Y at hy
    generalize stF g[i] s = z at *
    repeat' (first | (refine awK fun _ _ => ?_) | refine Hide.go (by assumption) ?_ | refine stepK_is rfl (hst) (by simp) ?_ | (fail_if_success with_reducible (refine Owe.mk ?_)); (simp (disch := omega) [go_sem, hlt, eG, canX]))
    refine stepK_yis [] [] 10000 _ _ (Fits.mk' (by simp [go_sem, orbA, orbB, canX]) (by simp [go_sem, orbA, orbB, canX])) (by simp [go_sem, orbA, orbB, canX]) (by simp [go_sem, orbA, orbB, canX]) (hy) (by simp [go_sem, orbA, orbB, canX]) (by simp [go_sem, orbA, orbB, canX]) ?_
    repeat' (first | refine Hide.go (by assumption) ?_ | refine (hAA.next (i + 1) (Le.renSub [(11002, 1001), (1001, 11002)] [(1001, 11002), (11002, 1001)] (by simp [go_sem, orbB, canX, hYe]) (by simp [go_sem, orbB, canX, hYe]) (Le.sub4 rfl (by simp [go_sem, orbB, canX, hYe]))) (by (try dsimp only); omega) ?_) | (fail_if_success with_reducible (refine Owe.mk ?_)); (simp (disch := omega) [go_sem, hlt, orbB, canX]))
    all_goals (first | omega | skip)
    exact ⟨hlt⟩
  · obtain rfl : i = g.length := by omega
    repeat' (first | (refine awK fun _ _ => ?_) | refine Hide.go (by assumption) ?_ | (fail_if_success with_reducible (refine Owe.mk ?_)); (simp (disch := omega) [go_sem]))
    refine endL_normal ⟨21, [], orbB hd (orbN g s g.length) ++ canX g s lg fg ls fs⟩ [] (Le.renSub [(1001, 1002), (1002, 1001)] [(1002, 1001), (1001, 1002)] (by simp [go_sem, orbB, canX]) (by simp [go_sem, orbB, canX]) (Le.sub4 rfl (by simp [go_sem, orbB, canX]))) (by simp [go_sem, orbB, canX]) ⟨rfl, rfl⟩
theorem Orbit_ok (g : List (List Pr)) (s : List Tm) (lg fg ls fs : Bool) (hb : g.length ≤ 1000000) (hbs : s.length ≤ 1000000) (hz : ∀ t ∈ s, t.size ≤ 1000000) :
    ACall Tryz.prog 19 [.list lg fg (g.map eG), .list ls fs (s.map eTm)] (fun r => r = .own 1 ((orbF g s).map eLs)) := by
  have him := images_ok g s lg fg ls fs
  unfold orbF
  refine acall_of_awp Tryz.func19 Tryz.call19 rfl (by simp [Tryz.ntmps19]) ?_; simp only [Tryz.ntmps19, Tryz.results19]
  repeat' (first | (refine awK fun _ _ => ?_) | refine Hide.go (by assumption) ?_ | (fail_if_success with_reducible (refine Owe.mk ?_)); (simp (disch := omega) [go_sem]))
  refine stepK_fis [] [] 10000 _ _ (Fits.mk' (by simp [go_sem]) (by simp [go_sem])) (by simp [go_sem]) (by simp [go_sem]) (him) (by simp [go_sem]) (by simp [go_sem]) ?_
  repeat' (first | refine Hide.go (by assumption) ?_ | (fail_if_success with_reducible (refine Owe.mk ?_)); (simp (disch := omega) [go_sem]))
  refine awp_rf_le (Le.nilBox 5 900 1 rfl (by decide) (by decide)) ?_; simp only [killT_nil, killT_cons, kill1_sc, kill1_list, kill1_iptr, kill1_ptr, kill1_ref, kill1_clo, kill1_dead, kill1_agg, has_iptr, has_ptr, has_list, has_sc, hasL_nil, hasL_cons, killO_nil, killO_cons, killX_arr, killX_box, del_nil, del_cons, arrO_eq, List.map_cons, List.map_nil, Bool.or_false, Bool.false_eq_true, if_false, Nat.reduceEqDiff, Nat.reduceBEq]
  refine awp_range 2000 13 30000 [5] [(1000, 5), (1001, 900), (1003, 11000), (1004, 11001)] [(5, 1000), (900, 1001), (11000, 1003), (11001, 1004)] (fun hd => (2000, loopO true (hd.st .ready none) [.ptr 1000 0 0]) :: [(1000, ⟨false, false, true, 1, [.ref 1001 0 0], 0⟩), (1001, ⟨true, false, true, 1, [], 0⟩), (1003, ⟨false, false, true, 1, [.list lg fg (g.map eG)], 0⟩), (1004, ⟨false, false, true, 1, [.list ls fs (s.map eTm)], 0⟩)]) (.yl 2000 :: [.ptr 1003 0 0, .ptr 1004 0 0]) (fun hd r o' => r = .tup [] ∧ o' = orbB hd (orbN g s g.length) ++ canX g s lg fg ls fs) rfl (by simp [go_sem]) (by simp) rfl (by simp [go_sem]) ?_; intro hd hps has hbd hn hks
  refine ⟨Fits.mk' (by simp [go_sem, orbA, orbB, canX]) (by simp [go_sem, orbA, orbB, canX]), (by simp [go_sem, orbA, orbB, canX]), (by simp [go_sem, orbA, orbB, canX]), (by simp [go_sem, orbA, orbB, canX]), ?_, ?_⟩
  · refine imagesO_ok g s lg fg ls fs hb hbs hz hd fun i hi => ?_
    have hnx := orbN_next (s := s) hi
    have hsr := orbN_srt (g := g) (s := s) i
    have hle := orbN_len (g := g) (s := s) i
    generalize orbN g s i = X at *
    rw [hnx]
    generalize stF g[i] s = z at *
    obtain ⟨A, B, rfl, hA, hB⟩ := insL_split (x := z) hsr
    rw [insL_app hA]
    have hlb : (A ++ B).length ≤ 1000000 := by omega
    have hbs := BSlist_ok (A ++ B) true false z (fun r => cmpL r z) (fun r _ => CompareList_ok r z false false false false) A.length (by simp)
      (fun k hk h => by rw [List.getElem_append_left h]; exact hA _ (List.getElem_mem h)) (fun k hk h => by rw [List.getElem_append_right h]; exact hB _ (List.getElem_mem _))
    have hins := InsertT_ok A B z hlb
    by_cases hin : ∃ y B', B = y :: B' ∧ cmpL y z = 0
    · obtain ⟨y, B', rfl, h0⟩ := hin
      have hi0 : insL (y :: B') z = y :: B' := by rw [insL, if_neg (by omega), if_pos h0]
      rw [hi0]
      have hge : (A ++ y :: B')[A.length]? = some y := by simp
      rw [hge] at hbs
      simp only [h0, decide_true, List.map_append, List.map_cons] at hbs
      have hlenT : True := trivial
      refine ycall_of_awp (ts := [.ptr 1000 0 0]) (by simp [go_sem, orbA, orbB]) hps has hbd hn hks rfl (by decide) (by decide) rfl rfl ?_; simp only [List.zip_cons_cons, List.zip_nil_left, List.zip_nil_right, List.cons_append, List.nil_append]
      repeat' (first | (fail_if_success with_reducible (refine Owe.mk ?_)); (simp (disch := omega) [go_sem, orbA]))
      refine begY_normal [.ptr 1000 0 0] (by simp [go_sem]) ?_; simp only [putO_cons, putO_nil, Nat.reduceEqDiff, if_true, if_false]
      repeat' (first | (refine awK fun _ _ => ?_) | refine Hide.go (by assumption) ?_ | refine stepK_is ?hl (hbs) (by simp) ?_; (case hl => (simp [go_sem, orbA, hlenT]; done)) | (fail_if_success with_reducible (refine Owe.mk ?_)); (simp (disch := omega) [go_sem, orbA, hlenT]))
      refine endY_normal (yEnd_is ⟨29, [], [(2000, loopO true (hd.st .busy none) [.ptr 1000 0 0]), (1000, ⟨false, false, true, 1, [.ref 1002 0 (A ++ y :: B').length], 0⟩), (1002, ⟨true, false, false, 1, (A ++ y :: B').map eLs, 0⟩)]⟩ [.ptr 1000 0 0] (by refine Le.trans ?_ (Le.unpin 1001 rfl); exact (Le.renSub [(1001, 1002), (1002, 1001)] [(1002, 1001), (1001, 1002)] (by simp [go_sem]) (by simp [go_sem]) (Le.sub4 rfl (by simp [go_sem])))) (by simp [go_sem]) (by simp [go_sem]))
    · have hi1 : insL B z = z :: B := by
        cases B with
        | nil => rfl
        | cons y B' =>
          have := hB y (by simp)
          have hne : cmpL y z ≠ 0 := fun h => hin ⟨y, B', rfl, h⟩
          rw [insL, if_neg (by omega), if_neg hne]
      rw [hi1]
      replace hbs : ACall Tryz.prog 43 [.list true false ((A ++ B).map eLs), eLs z, .clo 41 []] (fun x => x = .tup [nt .i64 A.length, bl false]) := by
        cases B with
        | nil => simpa using hbs
        | cons y B' =>
          have hne : cmpL y z ≠ 0 := fun h => hin ⟨y, B', rfl, h⟩
          simpa [hne] using hbs
      simp only [List.map_append] at hbs
      have hlenT : True := trivial
      refine ycall_of_awp (ts := [.ptr 1000 0 0]) (by simp [go_sem, orbA, orbB]) hps has hbd hn hks rfl (by decide) (by decide) rfl rfl ?_; simp only [List.zip_cons_cons, List.zip_nil_left, List.zip_nil_right, List.cons_append, List.nil_append]
      repeat' (first | (fail_if_success with_reducible (refine Owe.mk ?_)); (simp (disch := omega) [go_sem, orbA]))
      refine begY_normal [.ptr 1000 0 0] (by simp [go_sem]) ?_; simp only [putO_cons, putO_nil, Nat.reduceEqDiff, if_true, if_false]
      repeat' (first | (refine awK fun _ _ => ?_) | refine Hide.go (by assumption) ?_ | refine stepK_is ?hl (hbs) (by simp) ?_; (case hl => (simp [go_sem, orbA, hlenT]; done)) | (fail_if_success with_reducible (refine Owe.mk ?_)); (simp (disch := omega) [go_sem, orbA, hlenT]))
      refine stepK_fisK [1001] [(1000, 1001), (1001, 26)] [(1001, 1000), (26, 1001)] 10000 _ _ (Fits.mk' (by simp [go_sem, insO, insR]) (by simp [go_sem, insO, insR])) (by simp [go_sem, insO, insR]) (by simp [go_sem, insO, insR]) (hins) (by simp [go_sem, insO, insR]) (by simp [go_sem, insO, insR]) ?_
      repeat' (first | (fail_if_success with_reducible (refine Owe.mk ?_)); (simp (disch := omega) [go_sem, insR]))
      have hsm : A.length + (B.length + 1) = A.length + B.length + 1 := by omega
      refine endY_normal (yEnd_is ⟨29, [], [(2000, loopO true (hd.st .busy none) [.ptr 1000 0 0]), (1000, ⟨false, false, true, 1, [.ref 1002 0 (A.length + B.length + 1)], 0⟩), (1002, ⟨true, false, false, 1, (A ++ z :: B).map eLs, 0⟩)]⟩ [.ptr 1000 0 0] (Le.renSub [(11002, 1002), (1002, 11002)] [(1002, 11002), (11002, 1002)] (by simp [go_sem, hsm]) (by simp [go_sem, hsm]) (Le.sub4 rfl (by simp [go_sem, hsm]))) (by simp [go_sem, hsm]) (by simp [go_sem, hsm]))
  · rintro r o' ⟨rfl, rfl⟩
    refine ⟨(by simp [go_sem, orbB, canX]), rangeEnd_is (hd.st .ready none) [.ptr 1000 0 0] (by simp [go_sem, orbB, canX]) (by simp [go_sem, orbB, canX]) ⟨29, [(5, .ptr 5 0 0)], [(5, ⟨false, false, false, 1, [.ref 31002 0 (orbN g s g.length).length], 0⟩), (31002, ⟨true, false, false, 1, (orbN g s g.length).map eLs, 0⟩)]⟩ (Le.sub4 rfl (by simp [go_sem, orbB, canX])) (by simp [go_sem, orbB, canX]) ?_⟩
    repeat' (first | (refine awK fun _ _ => ?_) | refine Hide.go (by assumption) ?_ | refine end_ret [] ?_; simp [go_sem] | (fail_if_success with_reducible (refine Owe.mk ?_)); (simp (disch := omega) [go_sem]))
def skipN (c : Int → Bool) (s : ByteArray) : Nat → Nat → Nat
  | 0, i => i
  | k + 1, i => if i < s.size ∧ c (bt s i) = true then skipN c s k (i + 1) else i
def skipF (c : Int → Bool) (s : ByteArray) (i : Nat) : Nat := skipN c s (s.size - i) i
theorem skipF_on {c s} {i : Nat} (h : i < s.size) (hc : c (bt s i) = true) : skipF c s i = skipF c s (i + 1) := by
  unfold skipF
  rw [show s.size - i = (s.size - (i + 1)) + 1 by omega, skipN, if_pos ⟨h, hc⟩]
theorem skipF_no {c s} {i : Nat} (h : ¬ (i < s.size ∧ c (bt s i) = true)) : skipF c s i = i := by
  unfold skipF
  cases s.size - i with
  | zero => rfl
  | succ k => rw [skipN, if_neg h]
theorem skipN_ge {c s} : ∀ k i, i ≤ skipN c s k i
  | 0, i => Nat.le_refl i
  | k + 1, i => by
    unfold skipN
    split
    · exact Nat.le_trans (Nat.le_succ i) (skipN_ge k (i + 1))
    · exact Nat.le_refl i
theorem skipF_ge {c s i} : i ≤ skipF c s i := skipN_ge _ _
theorem skipN_le {c} {s : ByteArray} : ∀ k i, i ≤ s.size → skipN c s k i ≤ s.size
  | 0, i, h => h
  | k + 1, i, h => by
    unfold skipN
    split
    · exact skipN_le k (i + 1) (by omega)
    · exact h
theorem skipF_le {c} {s : ByteArray} {i : Nat} (h : i ≤ s.size) : skipF c s i ≤ s.size := skipN_le _ _ h
def isBl (c : Int) : Bool := decide (c = 32) || decide (c = 10)
def isWd (c : Int) : Bool := decide (c = 45) || (decide (48 ≤ c) && decide (c ≤ 57)) || (decide (97 ≤ c) && decide (c ≤ 122)) || (decide (65 ≤ c) && decide (c ≤ 90))
def blF (s : ByteArray) (i : Nat) : Nat := skipF isBl s i
def wdT (s : ByteArray) (i : Nat) : Nat := skipF isWd s (blF s i)
def wdF (s : ByteArray) (i : Nat) : ByteArray := s.extract (blF s i) (wdT s i)
def sgB (s : ByteArray) (c : Int) (i : Nat) : Bool := decide (blF s i < s.size) && decide (bt s (blF s i) = c)
def sgT (s : ByteArray) (c : Int) (i : Nat) : Nat := if sgB s c i = true then blF s i + 1 else blF s i
theorem blF_ge {s i} : i ≤ blF s i := skipF_ge
theorem wdT_ge {s i} : i ≤ wdT s i := Nat.le_trans blF_ge skipF_ge
theorem sgT_ge {s c i} : i ≤ sgT s c i := by
  unfold sgT; split
  · exact Nat.le_succ_of_le blF_ge
  · exact blF_ge
theorem blF_le {s : ByteArray} {i : Nat} (h : i ≤ s.size) : blF s i ≤ s.size := skipF_le h
theorem wdT_le {s : ByteArray} {i : Nat} (h : i ≤ s.size) : wdT s i ≤ s.size := skipF_le (blF_le h)
theorem sgT_le {s : ByteArray} {c : Int} {i : Nat} (h : i ≤ s.size) : sgT s c i ≤ s.size := by
  unfold sgT; split
  · rename_i hb
    unfold sgB at hb
    simp only [Bool.and_eq_true, decide_eq_true_eq] at hb
    omega
  · exact blF_le h
theorem sgT_gt {s c i} (h : sgB s c i = true) : i < sgT s c i := by
  unfold sgT; rw [if_pos h]; exact Nat.lt_succ_of_le blF_ge
theorem sgB_lt {s : ByteArray} {c : Int} {i : Nat} (h : sgB s c i = true) : i < s.size := by
  unfold sgB at h
  simp only [Bool.and_eq_true, decide_eq_true_eq] at h
  exact Nat.lt_of_le_of_lt blF_ge h.1
mutual
def tmN (s : ByteArray) : Nat → ByteArray → Nat → Tm × Nat
  | 0, w, i => (.mk w [], i)
  | f + 1, w, i => if sgB s 40 i = true then
      (.mk w (agN s f [] (sgT s 40 i)).1, sgT s 41 (agN s f [] (sgT s 40 i)).2)
    else (.mk w [], sgT s 40 i)
def agN (s : ByteArray) : Nat → List Tm → Nat → List Tm × Nat
  | 0, a, i => (a, i)
  | f + 1, a, i => if i < s.size then
      if sgB s 44 (tmN s f (wdF s i) (wdT s i)).2 = true then agN s f (a ++ [(tmN s f (wdF s i) (wdT s i)).1]) (sgT s 44 (tmN s f (wdF s i) (wdT s i)).2)
      else (a ++ [(tmN s f (wdF s i) (wdT s i)).1], sgT s 44 (tmN s f (wdF s i) (wdT s i)).2)
    else (a, i)
end
theorem tmN_ge (s : ByteArray) : ∀ f, (∀ w i, i ≤ (tmN s f w i).2) ∧ (∀ a i, i ≤ (agN s f a i).2)
  | 0 => ⟨fun _ _ => Nat.le_refl _, fun _ _ => Nat.le_refl _⟩
  | f + 1 => by
    obtain ⟨h1, h2⟩ := tmN_ge s f
    constructor
    · intro w i
      unfold tmN
      split
      · exact Nat.le_trans sgT_ge (Nat.le_trans (h2 [] _) sgT_ge)
      · exact sgT_ge
    · intro a i
      unfold agN
      split
      · split
        · exact Nat.le_trans wdT_ge (Nat.le_trans (h1 _ _) (Nat.le_trans sgT_ge (h2 _ _)))
        · exact Nat.le_trans wdT_ge (Nat.le_trans (h1 _ _) sgT_ge)
      · exact Nat.le_refl _
theorem tmN_le (s : ByteArray) : ∀ f, (∀ w i, i ≤ s.size → (tmN s f w i).2 ≤ s.size) ∧ (∀ a i, i ≤ s.size → (agN s f a i).2 ≤ s.size)
  | 0 => ⟨fun _ _ h => h, fun _ _ h => h⟩
  | f + 1 => by
    obtain ⟨h1, h2⟩ := tmN_le s f
    constructor
    · intro w i h
      unfold tmN
      split
      · exact sgT_le (h2 [] _ (sgT_le h))
      · exact sgT_le h
    · intro a i h
      unfold agN
      split
      · split
        · exact h2 _ _ (sgT_le (h1 _ _ (wdT_le h)))
        · exact sgT_le (h1 _ _ (wdT_le h))
      · exact h
theorem tmN_fuel (s : ByteArray) : ∀ f f', (∀ w i, 2 * (s.size - i) < f → 2 * (s.size - i) < f' → tmN s f w i = tmN s f' w i) ∧ (∀ a i, 2 * (s.size - i) + 1 < f → 2 * (s.size - i) + 1 < f' → agN s f a i = agN s f' a i)
  | 0, _ => ⟨fun _ _ h => absurd h (Nat.not_lt_zero _), fun _ _ h => absurd h (Nat.not_lt_zero _)⟩
  | _ + 1, 0 => ⟨fun _ _ _ h => absurd h (Nat.not_lt_zero _), fun _ _ _ h => absurd h (Nat.not_lt_zero _)⟩
  | f + 1, f' + 1 => by
    obtain ⟨h1, h2⟩ := tmN_fuel s f f'
    constructor
    · intro w i ha hb
      unfold tmN
      split
      · rename_i hs
        have := sgT_gt hs
        have := sgB_lt hs
        rw [h2 [] (sgT s 40 i) (by omega) (by omega)]
      · rfl
    · intro a i ha hb
      unfold agN
      split
      · rename_i hi
        have hw := wdT_ge (s := s) (i := i)
        rw [h1 (wdF s i) (wdT s i) (by omega) (by omega)]
        split
        · rename_i hs
          have := sgT_gt hs
          have := (tmN_ge s f').1 (wdF s i) (wdT s i)
          exact h2 _ _ (by omega) (by omega)
        · rfl
      · rfl
def tmF (s : ByteArray) (w : ByteArray) (i : Nat) : Tm × Nat := tmN s (2 * s.size + 2) w i
def agF (s : ByteArray) (a : List Tm) (i : Nat) : List Tm × Nat := agN s (2 * s.size + 2) a i
theorem tmF_no {s w i} (h : sgB s 40 i = false) : tmF s w i = (.mk w [], sgT s 40 i) := by
  unfold tmF; rw [tmN, if_neg (by simp [h])]
theorem tmF_on {s w i} (h : sgB s 40 i = true) : tmF s w i = (.mk w (agF s [] (sgT s 40 i)).1, sgT s 41 (agF s [] (sgT s 40 i)).2) := by
  unfold tmF agF
  have := sgT_gt h
  have := sgB_lt h
  rw [tmN, if_pos h, (tmN_fuel s (2 * s.size + 1) (2 * s.size + 2)).2 [] _ (by omega) (by omega)]
theorem agF_end {s : ByteArray} {a : List Tm} {i : Nat} (h : ¬ i < s.size) : agF s a i = (a, i) := by
  unfold agF; rw [agN, if_neg h]
theorem agF_no {s : ByteArray} {a : List Tm} {i : Nat} (h : i < s.size) (hs : sgB s 44 (tmF s (wdF s i) (wdT s i)).2 = false) : agF s a i = (a ++ [(tmF s (wdF s i) (wdT s i)).1], sgT s 44 (tmF s (wdF s i) (wdT s i)).2) := by
  unfold agF
  have hw := wdT_ge (s := s) (i := i)
  rw [agN, if_pos h, (tmN_fuel s (2 * s.size + 1) (2 * s.size + 2)).1 (wdF s i) (wdT s i) (by omega) (by omega)]
  rw [← tmF, if_neg (by simp [hs])]
theorem agF_on {s : ByteArray} {a : List Tm} {i : Nat} (h : i < s.size) (hs : sgB s 44 (tmF s (wdF s i) (wdT s i)).2 = true) : agF s a i = agF s (a ++ [(tmF s (wdF s i) (wdT s i)).1]) (sgT s 44 (tmF s (wdF s i) (wdT s i)).2) := by
  have hw := wdT_ge (s := s) (i := i)
  have h3 : i ≤ (tmF s (wdF s i) (wdT s i)).2 := Nat.le_trans hw ((tmN_ge s _).1 _ _)
  have h4 := sgT_gt hs
  unfold agF
  rw [agN, if_pos h, (tmN_fuel s (2 * s.size + 1) (2 * s.size + 2)).1 (wdF s i) (wdT s i) (by omega) (by omega)]
  rw [← tmF, if_pos hs, (tmN_fuel s (2 * s.size + 1) (2 * s.size + 2)).2 _ _ (by omega) (by omega)]
theorem tmF_ge {s w i} : i ≤ (tmF s w i).2 := (tmN_ge s _).1 w i
theorem tmF_le {s : ByteArray} {w i} (h : i ≤ s.size) : (tmF s w i).2 ≤ s.size := (tmN_le s _).1 w i h
def atF (s : ByteArray) : List Tm := (agF s [] 0).1
open Go.Ab
set_option maxRecDepth 100000
set_option maxHeartbeats 8000000
abbrev rdA (s : ByteArray) (i : Nat) : AObj := ⟨false, false, true, 2, [.agg [.sc (.string s), nt .i64 i]], 0⟩
abbrev rdO (s : ByteArray) (i : Nat) : Objs := [(1000, rdA s i)]
theorem rdBlank_ok (s : ByteArray) (i : Nat) (hs : s.size ≤ 1000000) (hi : i ≤ s.size) : MCall Tryz.prog 100 [.ptr 1000 0 0] (rdO s i) (fun r o' => r = .tup [] ∧ o' = rdO s (blF s i)) := by
  refine mcall_of_awpL Tryz.func100 Tryz.call100 rfl (by simp [Tryz.ntmps100]) ?_; simp only [Tryz.ntmps100, Tryz.results100]
  repeat' (first | (fail_if_success with_reducible (refine Owe.mk ?_)); (simp (disch := omega) [go_sem, rdO, rdA]))
  refine awp_for [0] [1000] (fun j : Nat => []) (fun j : Nat => [(1000, rdA s j)]) (fun j : Nat => s.size - j) (fun j : Nat => j ≤ s.size ∧ blF s j = blF s i) (i) (Le.sub4 rfl (by simp [go_sem, rdO, rdA])) ⟨?_⟩ ?_
  · exact ⟨hi, rfl⟩
  intro j ⟨hj, he⟩ AA hAA; simp only [kL, Nat.reduceBEq, Nat.reduceEqDiff, if_true, if_false, List.cons_append, List.nil_append, List.append_nil]
  by_cases h1 : j < s.size
  · by_cases h2 : bt s j = 32
    · repeat' (first | (refine awK fun _ _ => ?_) | refine Hide.go (by assumption) ?_ | refine (hAA.next (j + 1) (Le.sub4 rfl (by simp [go_sem])) (by (try dsimp only); omega) ?_) | (fail_if_success with_reducible (refine Owe.mk ?_)); (simp (disch := omega) [go_sem, h1, h2, rdA]) | refine awp_draw 34 mix (by decide +kernel) ?_)
      exact ⟨h1, by rw [← he]; exact (skipF_on h1 (by simp [isBl, h2])).symm⟩
    · by_cases h3 : bt s j = 10
      · repeat' (first | (refine awK fun _ _ => ?_) | refine Hide.go (by assumption) ?_ | refine (hAA.next (j + 1) (Le.sub4 rfl (by simp [go_sem])) (by (try dsimp only); omega) ?_) | (fail_if_success with_reducible (refine Owe.mk ?_)); (simp (disch := omega) [go_sem, h1, h2, h3, rdA]) | refine awp_draw 34 mix (by decide +kernel) ?_)
        exact ⟨h1, by rw [← he]; exact (skipF_on h1 (by simp [isBl, h3])).symm⟩
      · have hz : blF s i = j := by rw [← he]; exact skipF_no (by simp [isBl, h2, h3])
        rw [hz]
        repeat' (first | (refine awK fun _ _ => ?_) | refine Hide.go (by assumption) ?_ | (fail_if_success with_reducible (refine Owe.mk ?_)); (simp (disch := omega) [go_sem, h1, h2, h3, rdA]) | refine awp_draw 34 mix (by decide +kernel) ?_)
        refine endL_normal ⟨43, [],  rdO s j⟩ [] (Le.renSub [] [] (by simp [go_sem, rdO, rdA]) (by simp [go_sem, rdO, rdA]) (Le.sub4 rfl (by simp [go_sem, rdO, rdA]))) (by simp [go_sem, rdO, rdA]) ⟨rfl, rfl⟩
  · have hz : blF s i = j := by rw [← he]; exact skipF_no (by simp [h1])
    rw [hz]
    repeat' (first | (refine awK fun _ _ => ?_) | refine Hide.go (by assumption) ?_ | (fail_if_success with_reducible (refine Owe.mk ?_)); (simp (disch := omega) [go_sem, h1, rdA]) | refine awp_draw 34 mix (by decide +kernel) ?_)
    refine endL_normal ⟨43, [],  rdO s j⟩ [] (Le.renSub [] [] (by simp [go_sem, rdO, rdA]) (by simp [go_sem, rdO, rdA]) (Le.sub4 rfl (by simp [go_sem, rdO, rdA]))) (by simp [go_sem, rdO, rdA]) ⟨rfl, rfl⟩
theorem rdSign_ok (s : ByteArray) (i : Nat) (c : Int) (hs : s.size ≤ 1000000) (hi : i ≤ s.size) : MCall Tryz.prog 68 [.ptr 1000 0 0, nt .u8 c] (rdO s i) (fun r o' => r = bl (sgB s c i) ∧ o' = rdO s (sgT s c i)) := by
  have hb := rdBlank_ok s i hs hi
  have hle := blF_le (s := s) hi
  unfold sgT sgB
  generalize blF s i = j at *
  refine mcall_of_awpL Tryz.func68 Tryz.call68 rfl (by simp [Tryz.ntmps68]) ?_; simp only [Tryz.ntmps68, Tryz.results68]
  repeat' (first | (refine awK fun _ _ => ?_) | refine Hide.go (by assumption) ?_ | (fail_if_success with_reducible (refine Owe.mk ?_)); (simp (disch := omega) [go_sem, rdO, rdA]))
  refine stepK_fis [] [] 10000 _ _ (Fits.mk' (by simp [go_sem, rdO, rdA]) (by simp [go_sem, rdO, rdA])) (by simp [go_sem, rdO, rdA]) (by simp [go_sem, rdO, rdA]) (hb) (by simp [go_sem, rdO, rdA]) (by simp [go_sem, rdO, rdA]) ?_
  by_cases h1 : j < s.size
  · by_cases h2 : bt s j = c
    · repeat' (first | (refine awK fun _ _ => ?_) | refine Hide.go (by assumption) ?_ | (fail_if_success with_reducible (refine Owe.mk ?_)); (simp (disch := omega) [go_sem, h1, h2, rdO, rdA]) | refine awp_draw 23 mix (by decide +kernel) ?_)
      refine endL_ret ⟨37, [(4, bl true)],  rdO s (j + 1)⟩ [bl true] (Le.renSub [] [] (by simp [go_sem, rdO, rdA]) (by simp [go_sem, rdO, rdA]) (Le.sub4 rfl (by simp [go_sem, rdO, rdA]))) (by simp [go_sem, rdO, rdA]) ⟨rfl, rfl⟩
    · repeat' (first | (refine awK fun _ _ => ?_) | refine Hide.go (by assumption) ?_ | (fail_if_success with_reducible (refine Owe.mk ?_)); (simp (disch := omega) [go_sem, h1, h2, rdO, rdA]) | refine awp_draw 23 mix (by decide +kernel) ?_)
      refine endL_ret ⟨37, [(4, bl false)],  rdO s j⟩ [bl false] (Le.renSub [] [] (by simp [go_sem, rdO, rdA]) (by simp [go_sem, rdO, rdA]) (Le.sub4 rfl (by simp [go_sem, rdO, rdA]))) (by simp [go_sem, rdO, rdA]) ⟨rfl, rfl⟩
  · repeat' (first | (refine awK fun _ _ => ?_) | refine Hide.go (by assumption) ?_ | (fail_if_success with_reducible (refine Owe.mk ?_)); (simp (disch := omega) [go_sem, h1, rdO, rdA]) | refine awp_draw 23 mix (by decide +kernel) ?_)
    refine endL_ret ⟨37, [(4, bl false)],  rdO s j⟩ [bl false] (Le.renSub [] [] (by simp [go_sem, rdO, rdA]) (by simp [go_sem, rdO, rdA]) (Le.sub4 rfl (by simp [go_sem, rdO, rdA]))) (by simp [go_sem, rdO, rdA]) ⟨rfl, rfl⟩
set_option maxHeartbeats 16000000
theorem isWd_no {c : Int} (h : isWd c = false) : ¬ c = 45 ∧ (48 ≤ c → ¬ c ≤ 57) ∧ (97 ≤ c → ¬ c ≤ 122) ∧ (65 ≤ c → ¬ c ≤ 90) := by
  unfold isWd at h
  simp only [Bool.or_eq_false_iff, Bool.and_eq_false_iff, decide_eq_false_iff_not] at h
  refine ⟨h.1.1.1, ?_, ?_, ?_⟩ <;> omega
theorem isWd_yes {c : Int} (h : isWd c = true) : c = 45 ∨ (48 ≤ c ∧ c ≤ 57) ∨ (97 ≤ c ∧ c ≤ 122) ∨ (65 ≤ c ∧ c ≤ 90) := by
  unfold isWd at h
  simp only [Bool.or_eq_true, Bool.and_eq_true, decide_eq_true_eq] at h
  omega
theorem rdWord_ok (s : ByteArray) (i : Nat) (hs : s.size ≤ 1000000) (hi : i ≤ s.size) : MCall Tryz.prog 67 [.ptr 1000 0 0] (rdO s i) (fun r o' => r = .sc (.string (wdF s i)) ∧ o' = rdO s (wdT s i)) := by
  have hb := rdBlank_ok s i hs hi
  have hle := blF_le (s := s) hi
  unfold wdF wdT
  generalize blF s i = k at *
  refine mcall_of_awpL Tryz.func67 Tryz.call67 rfl (by simp [Tryz.ntmps67]) ?_; simp only [Tryz.ntmps67, Tryz.results67]
  repeat' (first | (refine awK fun _ _ => ?_) | refine Hide.go (by assumption) ?_ | (fail_if_success with_reducible (refine Owe.mk ?_)); (simp (disch := omega) [go_sem, rdO, rdA]))
  refine stepK_fis [] [] 10000 _ _ (Fits.mk' (by simp [go_sem, rdO, rdA]) (by simp [go_sem, rdO, rdA])) (by simp [go_sem, rdO, rdA]) (by simp [go_sem, rdO, rdA]) (hb) (by simp [go_sem, rdO, rdA]) (by simp [go_sem, rdO, rdA]) ?_
  repeat' (first | (refine awK fun _ _ => ?_) | refine Hide.go (by assumption) ?_ | (fail_if_success with_reducible (refine Owe.mk ?_)); (simp (disch := omega) [go_sem, rdO, rdA]))
  refine awp_for [0, 3] [1000] (fun j : Nat => []) (fun j : Nat => [(1000, rdA s j)]) (fun j : Nat => s.size - j) (fun j : Nat => k ≤ j ∧ j ≤ s.size ∧ skipF isWd s j = skipF isWd s k) (k) (Le.sub4 rfl (by simp [go_sem, rdO, rdA])) ⟨?_⟩ ?_
  · exact ⟨Nat.le_refl _, hle, rfl⟩
  intro j ⟨hkj, hj, he⟩ AA hAA; simp only [kL, Nat.reduceBEq, Nat.reduceEqDiff, if_true, if_false, List.cons_append, List.nil_append, List.append_nil]
  by_cases h1 : j < s.size
  · cases h2 : isWd (bt s j)
    · have hz : skipF isWd s k = j := by rw [← he]; exact skipF_no (by simp [h2])
      obtain ⟨n1, n2, n3, n4⟩ := isWd_no h2
      clear he h2
      generalize skipF isWd s k = z at *
      subst z
      by_cases a3 : 65 ≤ bt s j
      · have a1 : 48 ≤ bt s j := by omega
        have b1 := n2 a1
        have b3 := n4 a3
        by_cases a2 : 97 ≤ bt s j
        · have b2 := n3 a2
          repeat' (first | (refine awK fun _ _ => ?_) | refine Hide.go (by assumption) ?_ | (fail_if_success with_reducible (refine Owe.mk ?_)); (simp (disch := omega) [go_sem, h1, n1, a1, a2, a3, b1, b2, b3, rdA]) | refine And.intro (by omega) ?_ | refine awp_draw 11 mix (by decide +kernel) ?_ | refine awp_draw 94 mix (by decide +kernel) ?_)
          refine endL_ret ⟨121, [(2, .sc (.string (s.extract k j)))], rdO s j⟩ [.sc (.string (s.extract k j))] (Le.renSub [] [] (by simp [go_sem, rdO, rdA]) (by simp [go_sem, rdO, rdA]) (Le.sub4 rfl (by simp [go_sem, rdO, rdA]))) (by simp [go_sem, rdO, rdA]) ⟨rfl, rfl⟩
        · repeat' (first | (refine awK fun _ _ => ?_) | refine Hide.go (by assumption) ?_ | (fail_if_success with_reducible (refine Owe.mk ?_)); (simp (disch := omega) [go_sem, h1, n1, a1, a2, a3, b1, b3, rdA]) | refine And.intro (by omega) ?_ | refine awp_draw 11 mix (by decide +kernel) ?_ | refine awp_draw 94 mix (by decide +kernel) ?_)
          refine endL_ret ⟨121, [(2, .sc (.string (s.extract k j)))], rdO s j⟩ [.sc (.string (s.extract k j))] (Le.renSub [] [] (by simp [go_sem, rdO, rdA]) (by simp [go_sem, rdO, rdA]) (Le.sub4 rfl (by simp [go_sem, rdO, rdA]))) (by simp [go_sem, rdO, rdA]) ⟨rfl, rfl⟩
      · have a2 : ¬ 97 ≤ bt s j := by omega
        by_cases a1 : 48 ≤ bt s j
        · have b1 := n2 a1
          repeat' (first | (refine awK fun _ _ => ?_) | refine Hide.go (by assumption) ?_ | (fail_if_success with_reducible (refine Owe.mk ?_)); (simp (disch := omega) [go_sem, h1, n1, a1, a2, a3, b1, rdA]) | refine And.intro (by omega) ?_ | refine awp_draw 11 mix (by decide +kernel) ?_ | refine awp_draw 94 mix (by decide +kernel) ?_)
          refine endL_ret ⟨121, [(2, .sc (.string (s.extract k j)))], rdO s j⟩ [.sc (.string (s.extract k j))] (Le.renSub [] [] (by simp [go_sem, rdO, rdA]) (by simp [go_sem, rdO, rdA]) (Le.sub4 rfl (by simp [go_sem, rdO, rdA]))) (by simp [go_sem, rdO, rdA]) ⟨rfl, rfl⟩
        · repeat' (first | (refine awK fun _ _ => ?_) | refine Hide.go (by assumption) ?_ | (fail_if_success with_reducible (refine Owe.mk ?_)); (simp (disch := omega) [go_sem, h1, n1, a1, a2, a3, rdA]) | refine And.intro (by omega) ?_ | refine awp_draw 11 mix (by decide +kernel) ?_ | refine awp_draw 94 mix (by decide +kernel) ?_)
          refine endL_ret ⟨121, [(2, .sc (.string (s.extract k j)))], rdO s j⟩ [.sc (.string (s.extract k j))] (Le.renSub [] [] (by simp [go_sem, rdO, rdA]) (by simp [go_sem, rdO, rdA]) (Le.sub4 rfl (by simp [go_sem, rdO, rdA]))) (by simp [go_sem, rdO, rdA]) ⟨rfl, rfl⟩
    · have hnx := skipF_on h1 h2
      have h3 := isWd_yes h2
      rw [he] at hnx
      rcases h3 with h3 | ⟨a1, b1⟩ | ⟨a2, b2⟩ | ⟨a3, b3⟩
      · repeat' (first | (refine awK fun _ _ => ?_) | refine Hide.go (by assumption) ?_ | refine (hAA.next (j + 1) (Le.sub4 rfl (by simp [go_sem])) (by (try dsimp only); omega) ?_) | (fail_if_success with_reducible (refine Owe.mk ?_)); (simp (disch := omega) [go_sem, h1, h3, rdA]) | refine awp_draw 94 mix (by decide +kernel) ?_)
        exact ⟨by omega, by omega, hnx.symm⟩
      · have n1 : ¬ bt s j = 45 := by omega
        repeat' (first | (refine awK fun _ _ => ?_) | refine Hide.go (by assumption) ?_ | refine (hAA.next (j + 1) (Le.sub4 rfl (by simp [go_sem])) (by (try dsimp only); omega) ?_) | (fail_if_success with_reducible (refine Owe.mk ?_)); (simp (disch := omega) [go_sem, h1, n1, a1, b1, rdA]) | refine awp_draw 94 mix (by decide +kernel) ?_)
        exact ⟨by omega, by omega, hnx.symm⟩
      · have n1 : ¬ bt s j = 45 := by omega
        have a1 : 48 ≤ bt s j := by omega
        have b1 : ¬ bt s j ≤ 57 := by omega
        repeat' (first | (refine awK fun _ _ => ?_) | refine Hide.go (by assumption) ?_ | refine (hAA.next (j + 1) (Le.sub4 rfl (by simp [go_sem])) (by (try dsimp only); omega) ?_) | (fail_if_success with_reducible (refine Owe.mk ?_)); (simp (disch := omega) [go_sem, h1, n1, a1, b1, a2, b2, rdA]) | refine awp_draw 94 mix (by decide +kernel) ?_)
        exact ⟨by omega, by omega, hnx.symm⟩
      · have n1 : ¬ bt s j = 45 := by omega
        have a1 : 48 ≤ bt s j := by omega
        have b1 : ¬ bt s j ≤ 57 := by omega
        have a2 : ¬ 97 ≤ bt s j := by omega
        repeat' (first | (refine awK fun _ _ => ?_) | refine Hide.go (by assumption) ?_ | refine (hAA.next (j + 1) (Le.sub4 rfl (by simp [go_sem])) (by (try dsimp only); omega) ?_) | (fail_if_success with_reducible (refine Owe.mk ?_)); (simp (disch := omega) [go_sem, h1, n1, a1, b1, a2, a3, b3, rdA]) | refine awp_draw 94 mix (by decide +kernel) ?_)
        exact ⟨by omega, by omega, hnx.symm⟩
  · have hz : skipF isWd s k = j := by rw [← he]; exact skipF_no (by simp [h1])
    clear he
    generalize skipF isWd s k = z at *
    subst z
    repeat' (first | (refine awK fun _ _ => ?_) | refine Hide.go (by assumption) ?_ | (fail_if_success with_reducible (refine Owe.mk ?_)); (simp (disch := omega) [go_sem, h1, rdA]) | refine And.intro (by omega) ?_ | refine awp_draw 11 mix (by decide +kernel) ?_ | refine awp_draw 94 mix (by decide +kernel) ?_)
    refine endL_ret ⟨121, [(2, .sc (.string (s.extract k j)))], rdO s j⟩ [.sc (.string (s.extract k j))] (Le.renSub [] [] (by simp [go_sem, rdO, rdA]) (by simp [go_sem, rdO, rdA]) (Le.sub4 rfl (by simp [go_sem, rdO, rdA]))) (by simp [go_sem, rdO, rdA]) ⟨rfl, rfl⟩
end Go.Proofs.YtmadpbpmcbdboaaGreat
