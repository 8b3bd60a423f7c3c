import Derived.Test.YtmadpbpmcbdboaaGreatS4
import Derived.Test.YtmadpbpmcbdboaaGreatS3
import Derived.Test.YtmadpbpmcbdboaaGreatS2
import Derived.Test.YtmadpbpmcbdboaaGreatA7
set_option linter.unusedSimpArgs false
set_option linter.unusedVariables false
namespace Go.Proofs.YtmadpbpmcbdboaaGreat
open Go.Ab
set_option maxRecDepth 100000
set_option maxHeartbeats 8000000
theorem stable_ok (f : FuncId) (cf : Tm → Tm → Int) (hp : Pre cf) (kd : Nat) (S : Tm → Prop) (hc : ∀ x y, S x → S y → ACall Tryz.prog f [eT x, eT y] (fun r => r = nt .i64 (cf x y))) (l : List Tm) (hS : ∀ x ∈ l, S x) (hl : l.length ≤ 140737488355328) :
    MCall Tryz.prog 103 [.ref 1000 0 l.length, nt .i64 l.length, .clo f []] [(1000, rowO eTm 2 kd l)] (fun r o' => ∃ l', (l'.Perm l ∧ SrtOn cf l' 0 l.length) ∧ r = .tup [] ∧ o' = [(1000, rowO eTm 2 kd l')]) := by
  have hS' : ∀ {l' : List Tm}, l'.Perm l → ∀ x ∈ l', S x := fun hp x hx => hS x (hp.mem_iff.1 hx)
  refine mcall_of_awpL Tryz.func103 Tryz.call103 rfl (by simp [Tryz.ntmps103]) ?_; simp only [Tryz.ntmps103, Tryz.results103]
  repeat' (first | (refine awK fun _ _ => ?_) | refine Hide.go (by assumption) ?_ | (fail_if_success with_reducible (refine Owe.mk ?_)); (simp (disch := omega) [go_sem]))
  refine awp_for [0, 1, 2, 6] [1000] (fun x : Nat × List Tm => [(7, nt .i64 x.1), (8, nt .i64 (x.1 + 20 : Nat))]) (fun x : Nat × List Tm => [(1000, rowO eTm 2 kd x.2)]) (fun x : Nat × List Tm => l.length - x.1) (fun x : Nat × List Tm => x.1 ≤ l.length ∧ x.2.Perm l ∧ Full cf x.2 20 x.1) ((0, l)) (Le.sub4 rfl (by simp [go_sem])) ⟨?_⟩ ?_
  · exact ⟨Nat.zero_le _, .refl _, .zero⟩
  intro ⟨a, l1⟩ ⟨ha, hpm, hf⟩ AA hAA; simp only [kL, Nat.reduceBEq, Nat.reduceEqDiff, if_true, if_false, List.cons_append, List.nil_append, List.append_nil]
  dsimp only at *
  have hl1 := hpm.length_eq
  by_cases hlt : a + 20 ≤ l.length
  · have hi := ins_ok f cf hp kd l1 (by omega) (fun x hx y hy => hc x y (hS' hpm x hx) (hS' hpm y hy)) a (a + 20) (by omega) (by omega)
    rw [hl1] at hi
    repeat' (first | (refine awK fun _ _ => ?_) | refine Hide.go (by assumption) ?_ | refine zqd ?_ ?_ <;> (intro h; first | (exfalso; omega) | (simp only [h, decide_true, decide_false, not_false_eq_true])) | (fail_if_success with_reducible (refine Owe.mk ?_)); (simp (disch := omega) [go_sem]))
    all_goals (first | omega | skip)
    refine stepK_fex [] [] 10000 _ _ (Fits.mk' (by simp [go_sem]) (by simp [go_sem])) (by simp [go_sem]) (by simp [go_sem]) (hi) (by simp [go_sem]) (by intros; simp [go_sem]) ?_; intro l2 h2
    obtain ⟨k2, s2⟩ := h2
    repeat' (first | (refine awK fun _ _ => ?_) | refine Hide.go (by assumption) ?_ | refine (hAA.next ((a + 20, l2)) (Le.sub4 rfl (by simp [go_sem])) (by (try dsimp only); omega) ?_) | (fail_if_success with_reducible (refine Owe.mk ?_)); (simp (disch := omega) [go_sem]))
    all_goals (first | omega | skip)
    exact ⟨⟨by omega, k2.perm.trans hpm, (hf.keep k2 (Nat.le_refl _)).snoc s2⟩⟩
  · have hi := ins_ok f cf hp kd l1 (by omega) (fun x hx y hy => hc x y (hS' hpm x hx) (hS' hpm y hy)) a l.length ha (by omega)
    rw [hl1] at hi
    repeat' (first | (refine awK fun _ _ => ?_) | refine Hide.go (by assumption) ?_ | refine zqd ?_ ?_ <;> (intro h; first | (exfalso; omega) | (simp only [h, decide_true, decide_false, not_false_eq_true])) | (fail_if_success with_reducible (refine Owe.mk ?_)); (simp (disch := omega) [go_sem]))
    all_goals (first | omega | skip)
    refine stepK_fex [] [] 10000 _ _ (Fits.mk' (by simp [go_sem]) (by simp [go_sem])) (by simp [go_sem]) (by simp [go_sem]) (hi) (by simp [go_sem]) (by intros; simp [go_sem]) ?_; intro l2 h2
    obtain ⟨k2, s2⟩ := h2
    have hb0 : Blk cf l2 20 l.length 0 := (hf.keep k2 (Nat.le_refl _)).append ha (.last (by omega) s2)
    have hp2 := k2.perm.trans hpm
    repeat' (first | refine Hide.go (by assumption) ?_ | (fail_if_success with_reducible (refine Owe.mk ?_)); (simp (disch := omega) [go_sem]))
    refine awp_for [0, 1, 2] [1000] (fun x : Nat × List Tm => [(6, nt .i64 x.1)]) (fun x : Nat × List Tm => [(1000, rowO eTm 2 kd x.2)]) (fun x : Nat × List Tm => l.length - x.1) (fun x : Nat × List Tm => 20 ≤ x.1 ∧ x.1 ≤ 281474976710656 ∧ x.2.Perm l ∧ Blk cf x.2 x.1 l.length 0) ((20, l2)) (Le.sub4 rfl (by simp [go_sem])) ⟨?_⟩ ?_
    · exact ⟨Nat.le_refl _, by dsimp only; omega, hp2, hb0⟩
    intro ⟨bs, l3⟩ ⟨hbs, hbs2, hp3, hb3⟩ AA hAA; simp only [kL, Nat.reduceBEq, Nat.reduceEqDiff, if_true, if_false, List.cons_append, List.nil_append, List.append_nil]
    dsimp only at *
    have hl3 := hp3.length_eq
    have hcm : (bs : Int) * 2 = 2 * bs := Int.mul_comm _ _
    by_cases hlt2 : bs < l.length
    · have hAB := hAA
      repeat' (first | (refine awK fun _ _ => ?_) | refine Hide.go (by assumption) ?_ | refine zqd ?_ ?_ <;> (intro h; first | (exfalso; omega) | (simp only [h, decide_true, decide_false, not_false_eq_true])) | (fail_if_success with_reducible (refine Owe.mk ?_)); (simp (disch := omega) [go_sem]))
      all_goals (first | omega | skip)
      refine awp_for [0, 1, 2, 6] [1000] (fun x : Nat × List Tm => [(7, nt .i64 x.1), (8, nt .i64 (x.1 + 2 * bs : Nat))]) (fun x : Nat × List Tm => [(1000, rowO eTm 2 kd x.2)]) (fun x : Nat × List Tm => l.length - x.1) (fun x : Nat × List Tm => x.1 ≤ l.length ∧ x.2.Perm l ∧ Full cf x.2 (2 * bs) x.1 ∧ Blk cf x.2 bs l.length x.1) ((0, l3)) (Le.sub4 rfl (by simp [go_sem])) ⟨?_⟩ ?_
      · exact ⟨Nat.zero_le _, hp3, .zero, hb3⟩
      intro ⟨c, l4⟩ ⟨hca, hp4, hf4, hb4⟩ AA hAA; simp only [kL, Nat.reduceBEq, Nat.reduceEqDiff, if_true, if_false, List.cons_append, List.nil_append, List.append_nil]
      dsimp only at *
      have hl4 := hp4.length_eq
      by_cases hlt3 : c + 2 * bs ≤ l.length
      · obtain ⟨t1, t2, t3⟩ := hb4.two (by omega) hlt3
        have hi := merge_ok f cf hp kd S hc _ l4 (hS' hp4) (by omega) c (c + bs) (c + 2 * bs) (Nat.le_refl _) (by omega) (by omega) (by omega) t1 t2
        rw [hl4] at hi
        repeat' (first | (refine awK fun _ _ => ?_) | refine Hide.go (by assumption) ?_ | refine zqd ?_ ?_ <;> (intro h; first | (exfalso; omega) | (simp only [h, decide_true, decide_false, not_false_eq_true])) | (fail_if_success with_reducible (refine Owe.mk ?_)); (simp (disch := omega) [go_sem]))
        all_goals (first | omega | skip)
        refine stepK_fex [] [] 10000 _ _ (Fits.mk' (by simp [go_sem]) (by simp [go_sem])) (by simp [go_sem]) (by simp [go_sem]) (hi) (by simp [go_sem]) (by intros; simp [go_sem]) ?_; intro l5 h5
        obtain ⟨k5, s5⟩ := h5
        repeat' (first | (refine awK fun _ _ => ?_) | refine Hide.go (by assumption) ?_ | refine (hAA.next ((c + 2 * bs, l5)) (Le.sub4 rfl (by simp [go_sem])) (by (try dsimp only); omega) ?_) | (fail_if_success with_reducible (refine Owe.mk ?_)); (simp (disch := omega) [go_sem]))
        all_goals (first | omega | skip)
        exact ⟨⟨by omega, k5.perm.trans hp4, (hf4.keep k5 (Nat.le_refl _)).snoc s5, t3.keep k5 (Nat.le_refl _)⟩⟩
      · by_cases hlt4 : c + bs < l.length
        · obtain ⟨t1, t2⟩ := hb4.rest (by omega) (by omega) hlt4
          have hi := merge_ok f cf hp kd S hc _ l4 (hS' hp4) (by omega) c (c + bs) l.length (Nat.le_refl _) (by omega) hlt4 (by omega) t1 t2
          rw [hl4] at hi
          repeat' (first | (refine awK fun _ _ => ?_) | refine Hide.go (by assumption) ?_ | refine zqd ?_ ?_ <;> (intro h; first | (exfalso; omega) | (simp only [h, decide_true, decide_false, not_false_eq_true])) | (fail_if_success with_reducible (refine Owe.mk ?_)); (simp (disch := omega) [go_sem]))
          all_goals (first | omega | skip)
          refine stepK_fex [] [] 10000 _ _ (Fits.mk' (by simp [go_sem]) (by simp [go_sem])) (by simp [go_sem]) (by simp [go_sem]) (hi) (by simp [go_sem]) (by intros; simp [go_sem]) ?_; intro l5 h5
          obtain ⟨k5, s5⟩ := h5
          repeat' (first | refine Hide.go (by assumption) ?_ | refine (hAB.next ((2 * bs, l5)) (Le.sub4 rfl (by simp [go_sem, hcm])) (by (try dsimp only); omega) ?_) | (fail_if_success with_reducible (refine Owe.mk ?_)); (simp (disch := omega) [go_sem]))
          all_goals (first | omega | skip)
          exact ⟨⟨by omega, by omega, k5.perm.trans hp4, (hf4.keep k5 (Nat.le_refl _)).append (by omega) (.last (by omega) s5)⟩⟩
        · repeat' (first | (refine awK fun _ _ => ?_) | refine Hide.go (by assumption) ?_ | refine zqd ?_ ?_ <;> (intro h; first | (exfalso; omega) | (simp only [h, decide_true, decide_false, not_false_eq_true])) | refine (hAB.next ((2 * bs, l4)) (Le.sub4 rfl (by simp [go_sem, hcm])) (by (try dsimp only); omega) ?_) | (fail_if_success with_reducible (refine Owe.mk ?_)); (simp (disch := omega) [go_sem]))
          all_goals (first | omega | skip)
          exact ⟨⟨by omega, by omega, hp4, hf4.append hca (.last (by omega) (hb4.one (by omega)))⟩⟩
    · repeat' (first | (refine awK fun _ _ => ?_) | refine Hide.go (by assumption) ?_ | refine zqd ?_ ?_ <;> (intro h; first | (exfalso; omega) | (simp only [h, decide_true, decide_false, not_false_eq_true])) | (fail_if_success with_reducible (refine Owe.mk ?_)); (simp (disch := omega) [go_sem]))
      all_goals (first | omega | skip)
      refine endL_normal ⟨63, [], [(1000, rowO eTm 2 kd l3)]⟩ [] (Le.renSub [] [] (by simp [go_sem]) (by simp [go_sem]) (Le.sub4 rfl (by simp [go_sem]))) (by simp [go_sem]) ⟨l3, ⟨hp3, hb3.one (by omega)⟩, rfl, rfl⟩
theorem SortStable_ok (f : FuncId) (cf : Tm → Tm → Int) (hp : Pre cf) (kd : Nat) (S : Tm → Prop) (hc : ∀ x y, S x → S y → ACall Tryz.prog f [eT x, eT y] (fun r => r = nt .i64 (cf x y))) (l : List Tm) (hS : ∀ x ∈ l, S x) (hl : l.length ≤ 140737488355328) :
    MCall Tryz.prog 77 [.ref 1000 0 l.length, .clo f []] [(1000, rowO eTm 2 kd l)] (fun r o' => ∃ l', (l'.Perm l ∧ SrtOn cf l' 0 l.length) ∧ r = .tup [] ∧ o' = [(1000, rowO eTm 2 kd l')]) := by
  have hi := stable_ok f cf hp kd S hc l hS hl
  refine mcall_of_awpL Tryz.func77 Tryz.call77 rfl (by simp [Tryz.ntmps77]) ?_; simp only [Tryz.ntmps77, Tryz.results77]
  repeat' (first | (fail_if_success with_reducible (refine Owe.mk ?_)); (simp (disch := omega) [go_sem]))
  refine stepK_fex [] [] 10000 _ _ (Fits.mk' (by simp [go_sem]) (by simp [go_sem])) (by simp [go_sem]) (by simp [go_sem]) (hi) (by simp [go_sem]) (by intros; simp [go_sem]) ?_; intro l2 h2
  repeat' (first | (fail_if_success with_reducible (refine Owe.mk ?_)); (simp (disch := omega) [go_sem]))
  refine endL_normal ⟨9, [], [(1000, rowO eTm 2 kd l2)]⟩ [] (Le.renSub [] [] (by simp [go_sem]) (by simp [go_sem]) (Le.sub4 rfl (by simp [go_sem]))) (by simp [go_sem]) ⟨l2, h2, rfl, rfl⟩
theorem cloneTm_ok (l : List Tm) (le fu : Bool) (hb : l.length ≤ 1000000) : ACall Tryz.prog 76 [.list le fu (l.map eTm)] (fun r => r = .own 2 (l.map eTm)) := by
  cases l with
  | nil =>
    refine ACall.own_nil ?_
    simp only [List.map_nil]
    refine acall_of_awp Tryz.func76 Tryz.call76 rfl (by simp [Tryz.ntmps76]) ?_; simp only [Tryz.ntmps76, Tryz.results76]
    repeat' (first | (refine awK fun _ _ => ?_) | refine Hide.go (by assumption) ?_ | refine end_ret [] ?_; simp [go_sem] | (fail_if_success with_reducible (refine Owe.mk ?_)); (simp (disch := omega) [go_sem]) | (refine nbI fun bq => ?_) | refine zqs ?_ ?_ <;> (intro h; ((try simp only [h]); (try simp at h))))
  | cons x l =>
    simp only [List.map_cons, List.length_cons] at *
    refine acall_of_awp Tryz.func76 Tryz.call76 rfl (by simp [Tryz.ntmps76]) ?_; simp only [Tryz.ntmps76, Tryz.results76]
    repeat' (first | (refine awK fun _ _ => ?_) | refine Hide.go (by assumption) ?_ | refine end_ret [] ?_; simp [go_sem] | (fail_if_success with_reducible (refine Owe.mk ?_)); (simp (disch := omega) [go_sem]) | refine And.intro (by omega) ?_)
theorem Sort_ok (l : List Tm) (le fu : Bool) (hb : l.length ≤ 1000000) (hz : ∀ t ∈ l, t.size ≤ 1000000) : ACall Tryz.prog 38 [.list le fu (l.map eTm)] (fun r => r = .own 2 ((sortT l).map eTm)) := by
  have hcl := cloneTm_ok l le fu hb
  have hso := SortStable_ok 71 cmpT cmp_pre 0 (fun _ => True) (fun x y _ _ => Compare_ok x y) l (fun _ _ => trivial) (by omega)
  generalize hR : sortT l = R
  refine acall_of_awp Tryz.func38 Tryz.call38 rfl (by simp [Tryz.ntmps38]) ?_; simp only [Tryz.ntmps38, Tryz.results38]
  repeat' (first | (refine awK fun _ _ => ?_) | refine Hide.go (by assumption) ?_ | refine stepK_is rfl (hcl) (by simp) ?_ | (fail_if_success with_reducible (refine Owe.mk ?_)); (simp (disch := omega) [go_sem]))
  refine stepK_fex [(1000, 8)] [(8, 1000), (1000, 8)] 10000 _ _ (Fits.mk' (by simp [go_sem]) (by simp [go_sem])) (by simp [go_sem]) (by simp [go_sem]) (hso) (by simp [go_sem]) (by intros; simp [go_sem]) ?_; intro m hm
  obtain ⟨hp, hs⟩ := hm
  have hln := hp.length_eq
  have hzm : ∀ t ∈ m, t.size ≤ 1000000 := fun t ht => hz t (hp.mem_iff.1 ht)
  have hfin := ddP_sort hp hs
  rw [hR] at hfin
  clear hR
  have hdl : ∀ i, (ddP m i).length ≤ i := fun i => by
    induction i with
    | zero => exact Nat.le_refl _
    | succ i ih =>
      unfold ddP
      split
      · split
        · rw [List.length_append]; simp; exact ih
        · omega
      · omega
  have d0 : ddP m 0 = [] := rfl
  repeat' (first | (refine awK fun _ _ => ?_) | refine Hide.go (by assumption) ?_ | (fail_if_success with_reducible (refine Owe.mk ?_)); (simp (disch := omega) [go_sem]))
  refine awp_for [3, 11, 12] [900] (fun i : Nat => [(13, nt .i64 i), (4, .ref 900 0 (ddP m i).length)]) (fun i : Nat => [(900, ⟨true, false, false, 2, (ddP m i).map eTm, 0⟩)]) (fun i : Nat => l.length - i) (fun i : Nat => i ≤ l.length) (0) (by refine Le.trans ?_ (Le.nil (i := 4) (T := 900) (es := 2) rfl); exact (Le.sub4 rfl (by simp [go_sem, d0, List.map_nil]))) ⟨?_⟩ ?_
  · exact Nat.zero_le _
  intro i hi AA hAA; simp only [kL, Nat.reduceBEq, Nat.reduceEqDiff, if_true, if_false, List.cons_append, List.nil_append, List.append_nil]
  have hdi := hdl i
  by_cases hlt : i < l.length
  · have him : i < m.length := by omega
    have hnx := ddP_next him
    have hcc := clone_ok m[i] (hzm _ (List.getElem_mem him))
    by_cases h0 : i = 0
    · subst h0
      rw [if_pos (.inl rfl)] at hnx
      generalize ddP m 0 = A at *
      repeat' (first | (refine awK fun _ _ => ?_) | refine Hide.go (by assumption) ?_ | refine zqd ?_ ?_ <;> (intro h; first | (exfalso; omega) | (simp only [h, decide_true, decide_false, not_false_eq_true])) | refine stepK_is rfl (hcc) (by simp) ?_ | refine (hAA.next (0 + 1) (Le.sub4 rfl (by simp [go_sem, hnx])) (by (try dsimp only); omega) ?_) | (fail_if_success with_reducible (refine Owe.mk ?_)); (simp (disch := omega) [go_sem, him]) | refine And.intro (by omega) ?_ | refine awp_draw 12 mix (by decide +kernel) ?_)
      all_goals (first | omega | skip)
      exact ⟨hlt⟩
    · have h1 : i - 1 < m.length := by omega
      have e1 : ((i : Int) - 1).toNat = i - 1 := by omega
      have hd : m.getD (i - 1) m[i] = m[i - 1] := by rw [List.getD_eq_getElem?_getD, List.getElem?_eq_getElem h1]; rfl
      rw [hd] at hnx
      have hu := Compare_ok m[i - 1] m[i]
      have h0' : ¬ (i : Int) = 0 := by omega
      by_cases hq : cmpT m[i - 1] m[i] = 0
      · rw [if_neg (by simp [h0, hq])] at hnx
        rw [hq] at hu
        generalize ddP m i = A at *
        repeat' (first | (refine awK fun _ _ => ?_) | refine Hide.go (by assumption) ?_ | (first | refine zqd ?_ ?_ | refine zdd ?_ ?_) <;> (intro h; first | (exfalso; omega) | (simp only [h, decide_true, decide_false, not_false_eq_true])) | refine dstepK_is rfl (hu) rfl (by simp) ?_ | refine (hAA.next (i + 1) (Le.sub4 rfl (by simp [go_sem, hnx])) (by (try dsimp only); omega) ?_) | (fail_if_success with_reducible (refine Owe.mk ?_)); (simp (disch := omega) [go_sem, him, h1, e1, h0']) | refine And.intro (by omega) ?_ | refine awp_draw 12 mix (by decide +kernel) ?_)
        all_goals (first | omega | skip)
        exact ⟨hlt⟩
      · rw [if_pos (.inr hq)] at hnx
        generalize cmpT m[i - 1] m[i] = c at *
        generalize ddP m i = A at *
        repeat' (first | (refine awK fun _ _ => ?_) | refine Hide.go (by assumption) ?_ | (first | refine zqd ?_ ?_ | refine zdd ?_ ?_) <;> (intro h; first | (exfalso; omega) | (simp only [h, decide_true, decide_false, not_false_eq_true])) | refine dstepK_is rfl (hu) rfl (by simp) ?_ | refine stepK_is rfl (hcc) (by simp) ?_ | refine (hAA.next (i + 1) (Le.sub4 rfl (by simp [go_sem, hnx])) (by (try dsimp only); omega) ?_) | (fail_if_success with_reducible (refine Owe.mk ?_)); (simp (disch := omega) [go_sem, him, h1, e1, h0', hq]) | refine And.intro (by omega) ?_ | refine awp_draw 12 mix (by decide +kernel) ?_)
        all_goals (first | omega | skip)
        exact ⟨hlt⟩
  · obtain rfl : i = l.length := by omega
    rw [← hln, hfin]
    repeat' (first | (refine awK fun _ _ => ?_) | refine Hide.go (by assumption) ?_ | refine end_ret [] ?_; simp [go_sem] | (fail_if_success with_reducible (refine Owe.mk ?_)); (simp (disch := omega) [go_sem]))
def stF (p : List Pr) (l : List Tm) : List Tm := sortT (imL p l)
theorem State_ok (p : List Pr) (l : List Tm) (le fu lm fm : Bool) (hb : l.length ≤ 1000000) (hz : ∀ t ∈ l, t.size ≤ 1000000) : ACall Tryz.prog 14 [.list le fu (p.map ePr), .list lm fm (l.map eTm)] (fun r => r = .own 2 ((stF p l).map eTm)) := by
  have hso := fun le fu => Sort_ok (imL p l) le fu (by rw [imL_len]; exact hb) (fun t ht => by
    obtain ⟨u, hu, rfl⟩ := List.mem_map.1 ht
    rw [imL_size]; exact hz u hu)
  have hfold : sortT (imL p l) = stF p l := rfl
  rw [hfold] at hso
  have h0 : l.length = 0 → stF p l = [] := fun h => by
    obtain rfl := List.eq_nil_of_length_eq_zero h; rfl
  refine acall_of_awp Tryz.func14 Tryz.call14 rfl (by simp [Tryz.ntmps14]) ?_; simp only [Tryz.ntmps14, Tryz.results14]
  repeat' (first | (refine awK fun _ _ => ?_) | refine Hide.go (by assumption) ?_ | (fail_if_success with_reducible (refine Owe.mk ?_)); (simp (disch := omega) [go_sem]))
  refine awp_for [0, 8, 9] [900] (fun i : Nat => [(10, nt .i64 i), (5, .ref 900 0 (imL p (l.take i)).length)]) (fun i : Nat => [(900, ⟨true, false, false, 2, (imL p (l.take i)).map eTm, 0⟩)]) (fun i : Nat => l.length - i) (fun i : Nat => i ≤ l.length) (0) (by refine Le.trans ?_ (Le.nil (i := 5) (T := 900) (es := 2) rfl); exact (Le.sub4 rfl (by simp [go_sem, imL_nil, List.take_zero, List.map_nil]))) ⟨?_⟩ ?_
  · exact Nat.zero_le _
  intro i hi AA hAA; simp only [kL, Nat.reduceBEq, Nat.reduceEqDiff, if_true, if_false, List.cons_append, List.nil_append, List.append_nil]
  by_cases hlt : i < l.length
  · have hu := Term_ok p le fu l[i] (hz _ (List.getElem_mem hlt))
    have hnx := imL_next (p := p) hlt
    have hln : (imL p (l.take i)).length = i := by rw [imL_len, List.length_take]; omega
    generalize imL p (l.take i) = A at *
    generalize tmP p l[i] = x at *
    repeat' (first | (refine awK fun _ _ => ?_) | refine Hide.go (by assumption) ?_ | refine stepK_is rfl (hu) (by simp) ?_ | refine (hAA.next (i + 1) (Le.sub4 rfl (by simp [go_sem, hnx, hln])) (by (try dsimp only); omega) ?_) | (fail_if_success with_reducible (refine Owe.mk ?_)); (simp (disch := omega) [go_sem, hlt, hln]) | refine And.intro (by omega) ?_)
    all_goals (first | omega | skip)
    exact ⟨hlt⟩
  · obtain rfl : i = l.length := by omega
    rw [List.take_length]
    have hso := hso true false
    generalize imL p l = A at *
    generalize stF p l = B at *
    have hlenT : True := trivial
    repeat' (first | (refine awK fun _ _ => ?_) | refine Hide.go (by assumption) ?_ | refine end_ret [] ?_; simp [go_sem, hlenT] | refine stepK_is ?hl (hso) (by simp) ?_; (case hl => (simp [go_sem, hlenT]; done)) | (fail_if_success with_reducible (refine Owe.mk ?_)); (simp (disch := omega) [go_sem, hlenT]))
abbrev eG (p : List Pr) : AV := .list false false (p.map ePr)
abbrev eLs (l : List Tm) : AV := .list false false (l.map eTm)
theorem images_ok (g : List (List Pr)) (s : List Tm) (lg fg ls fs : Bool) : MCall Tryz.prog 40 [.list lg fg (g.map eG), .list ls fs (s.map eTm)] []
    (fun r o' => r = .clo 79 [.ptr 1000 0 0, .ptr 1001 0 0] ∧ o' = [(1000, ⟨false, false, false, 1, [.list lg fg (g.map eG)], 0⟩), (1001, ⟨false, false, false, 1, [.list ls fs (s.map eTm)], 0⟩)]) := by
  refine mcall_of_awpL Tryz.func40 Tryz.call40 rfl (by simp [Tryz.ntmps40]) ?_; simp only [Tryz.ntmps40, Tryz.results40]
  repeat' (first | (refine awK fun _ _ => ?_) | refine Hide.go (by assumption) ?_ | (fail_if_success with_reducible (refine Owe.mk ?_)); (simp (disch := omega) [go_sem]))
  refine endL_ret ⟨6, [(4, .clo 79 [.ptr 1000 0 0, .ptr 1001 0 0])], [(1000, ⟨false, false, false, 1, [.list lg fg (g.map eG)], 0⟩), (1001, ⟨false, false, false, 1, [.list ls fs (s.map eTm)], 0⟩)]⟩ [.clo 79 [.ptr 1000 0 0, .ptr 1001 0 0]] (Le.renSub [(2, 1000), (3, 1001), (1000, 2), (1001, 3)] [(1000, 2), (1001, 3), (2, 1000), (3, 1001)] (by simp [go_sem]) (by simp [go_sem]) (Le.sub4 rfl (by simp [go_sem]))) (by simp [go_sem]) ⟨rfl, rfl⟩
def canN (g : List (List Pr)) (s : List Tm) : Nat → List Tm × Int
  | 0 => (stF [] s, -1)
  | i + 1 => if (canN g s i).2 < 0 ∨ cmpL (stF (g.getD i []) s) (canN g s i).1 < 0 then (stF (g.getD i []) s, i) else canN g s i
theorem canN_at {g s} : ∀ {i : Nat}, -1 ≤ (canN g s i).2 ∧ (canN g s i).2 < i
  | 0 => ⟨Int.le_refl _, by simp [canN]⟩
  | i + 1 => by
    have := canN_at (g := g) (s := s) (i := i)
    unfold canN
    split <;> (constructor <;> (try simp only) <;> omega)
theorem canN_next {g : List (List Pr)} {s : List Tm} {i : Nat} (h : i < g.length) : canN g s (i + 1) = if (canN g s i).2 < 0 ∨ cmpL (stF g[i] s) (canN g s i).1 < 0 then (stF g[i] s, (i : Int)) else canN g s i := by
  rw [canN, List.getD_eq_getElem?_getD, List.getElem?_eq_getElem h, Option.getD_some]
abbrev canO (hd : LH) (x : List Tm × Int) : Objs := [(2000, loopO true (hd.st .ready none) [.ptr 1000 0 0, .ptr 1001 0 0]), (1000, ⟨false, false, true, 1, [eLs x.1], 0⟩), (1001, ⟨false, false, true, 1, [nt .i64 x.2], 0⟩)]
abbrev canX (g : List (List Pr)) (s : List Tm) (lg fg ls fs : Bool) : Objs := [(1003, ⟨false, false, true, 1, [.list lg fg (g.map eG)], 0⟩), (1004, ⟨false, false, true, 1, [.list ls fs (s.map eTm)], 0⟩)]
theorem imagesC_ok (g : List (List Pr)) (s : List Tm) (lg fg ls fs : Bool) (hb : g.length ≤ 1000000) (hbs : s.length ≤ 1000000) (hz : ∀ t ∈ s, t.size ≤ 1000000) (hd : LH)
    (hY : ∀ (i : Nat) (h : i < g.length), YCall Tryz.prog [.yl 2000, nt .i64 i, eLs (stF g[i] s)] (canO hd (canN g s i)) (fun r o' => r = bl true ∧ o' = canO hd (canN g s (i + 1)))) :
    MCall Tryz.prog 79 [.yl 2000, .ptr 1003 0 0, .ptr 1004 0 0] (canO hd (canN g s 0) ++ canX g s lg fg ls fs) (fun r o' => r = .tup [] ∧ o' = canO hd (canN g s g.length) ++ canX g s lg fg ls fs) := by
  refine mcall_of_awpL Tryz.func79 Tryz.call79 rfl (by simp [Tryz.ntmps79]) ?_; simp only [Tryz.ntmps79, Tryz.results79]
  repeat' (first | (refine awK fun _ _ => ?_) | refine Hide.go (by assumption) ?_ | (fail_if_success with_reducible (refine Owe.mk ?_)); (simp (disch := omega) [go_sem, canO, canX]))
  refine awp_for [0, 2, 6, 7] [2000, 1000, 1001] (fun i : Nat => [(8, nt .i64 i)]) (fun i : Nat => canO hd (canN g s i)) (fun i : Nat => g.length - i) (fun i : Nat => i ≤ g.length) (0) (Le.sub4 rfl (by simp [go_sem, canO, canX])) ⟨?_⟩ ?_
  · exact Nat.zero_le _
  intro i hi AA hAA; simp only [kL, Nat.reduceBEq, Nat.reduceEqDiff, if_true, if_false, List.cons_append, List.nil_append, List.append_nil]
  by_cases hlt : i < g.length
  · have hy := hY i hlt
    have hst := (State_ok g[i] s false false ls fs hbs hz).frz
    have hcn := canN_at (g := g) (s := s) (i := i)
    generalize canN g s i = X at *
    generalize hYe : canN g s (i + 1) = Y at hy
    generalize stF g[i] s = z at *
    repeat' (first | (refine awK fun _ _ => ?_) | refine Hide.go (by assumption) ?_ | refine stepK_is rfl (hst) (by simp) ?_ | (fail_if_success with_reducible (refine Owe.mk ?_)); (simp (disch := omega) [go_sem, hlt, eG, canO, canX]))
    refine stepK_yis [] [] 10000 _ _ (Fits.mk' (by simp [go_sem, canO, canX]) (by simp [go_sem, canO, canX])) (by simp [go_sem, canO, canX]) (by simp [go_sem, canO, canX]) (hy) (by simp [go_sem, canO, canX]) (by simp [go_sem, canO, canX]) ?_
    repeat' (first | refine Hide.go (by assumption) ?_ | refine (hAA.next (i + 1) (Le.sub4 rfl (by simp [go_sem, canO, canX, hYe])) (by (try dsimp only); omega) ?_) | (fail_if_success with_reducible (refine Owe.mk ?_)); (simp (disch := omega) [go_sem, hlt, canO, canX]))
    all_goals (first | omega | skip)
    exact ⟨hlt⟩
  · obtain rfl : i = g.length := by omega
    repeat' (first | (refine awK fun _ _ => ?_) | refine Hide.go (by assumption) ?_ | (fail_if_success with_reducible (refine Owe.mk ?_)); (simp (disch := omega) [go_sem]))
    refine endL_normal ⟨21, [], canO hd (canN g s g.length) ++ canX g s lg fg ls fs⟩ [] (Le.renSub [] [] (by simp [go_sem, canO, canX]) (by simp [go_sem, canO, canX]) (Le.sub4 rfl (by simp [go_sem, canO, canX]))) (by simp [go_sem, canO, canX]) ⟨rfl, rfl⟩
def canF (g : List (List Pr)) (s : List Tm) : List Tm × Int := canN g s g.length
theorem Canon_ok (g : List (List Pr)) (s : List Tm) (lg fg ls fs : Bool) (hb : g.length ≤ 1000000) (hbs : s.length ≤ 1000000) (hz : ∀ t ∈ s, t.size ≤ 1000000) :
    ACall Tryz.prog 16 [.list lg fg (g.map eG), .list ls fs (s.map eTm)] (fun r => r = .tup [eLs (canF g s).1, nt .i64 (canF g s).2]) := by
  have h0 := (State_ok [] s false true ls fs hbs hz).frz
  have him := images_ok g s lg fg ls fs
  have hcz : canN g s 0 = (stF [] s, -1) := rfl
  unfold canF
  refine acall_of_awp Tryz.func16 Tryz.call16 rfl (by simp [Tryz.ntmps16]) ?_; simp only [Tryz.ntmps16, Tryz.results16]
  repeat' (first | (refine awK fun _ _ => ?_) | refine Hide.go (by assumption) ?_ | refine stepK_is rfl (h0) (by simp) ?_ | (fail_if_success with_reducible (refine Owe.mk ?_)); (simp (disch := omega) [go_sem]))
  refine stepK_fis [] [] 10000 _ _ (Fits.mk' (by simp [go_sem]) (by simp [go_sem])) (by simp [go_sem]) (by simp [go_sem]) (him) (by simp [go_sem]) (by simp [go_sem]) ?_
  repeat' (first | refine Hide.go (by assumption) ?_ | (fail_if_success with_reducible (refine Owe.mk ?_)); (simp (disch := omega) [go_sem]))
  refine awp_range 2000 15 30000 [6, 7] [(1000, 6), (1001, 7), (1003, 11000), (1004, 11001)] [(6, 1000), (7, 1001), (11000, 1003), (11001, 1004)] (fun hd => (2000, loopO true (hd.st .ready none) [.ptr 1000 0 0, .ptr 1001 0 0]) :: [(1000, ⟨false, false, true, 1, [eLs (canN g s 0).1], 0⟩), (1001, ⟨false, false, true, 1, [nt .i64 (canN g s 0).2], 0⟩), (1003, ⟨false, false, true, 1, [.list lg fg (g.map eG)], 0⟩), (1004, ⟨false, false, true, 1, [.list ls fs (s.map eTm)], 0⟩)]) (.yl 2000 :: [.ptr 1003 0 0, .ptr 1004 0 0]) (fun hd r o' => r = .tup [] ∧ o' = canO hd (canN g s g.length) ++ canX g s lg fg ls fs) rfl (by simp [go_sem]) (by simp) rfl (by simp [go_sem]) ?_; intro hd hps has hbd hn hks
  refine ⟨Fits.mk' (by simp [go_sem, canO, canX, hcz]) (by simp [go_sem, canO, canX, hcz]), (by simp [go_sem, canO, canX, hcz]), (by simp [go_sem, canO, canX, hcz]), (by simp [go_sem, canO, canX, hcz]), ?_, ?_⟩
  · refine imagesC_ok g s lg fg ls fs hb hbs hz hd fun i hi => ?_
    have hnx := canN_next (s := s) hi
    have hat := canN_at (g := g) (s := s) (i := i)
    generalize canN g s i = X at *
    obtain ⟨b, a⟩ := X
    dsimp only at hat hnx
    have hc := CompareList_ok (stF g[i] s) b false false false false
    generalize stF g[i] s = z at *
    generalize hq : cmpL z b = q at *
    by_cases ha : a < 0
    · rw [if_pos (.inl ha)] at hnx
      rw [hnx]
      refine ycall_of_awp (ts := [.ptr 1000 0 0, .ptr 1001 0 0]) (by simp [go_sem, canO]) hps has hbd hn hks rfl (by decide) (by decide) rfl rfl ?_; simp only [List.zip_cons_cons, List.zip_nil_left, List.zip_nil_right, List.cons_append, List.nil_append]
      repeat' (first | (refine awK fun _ _ => ?_) | refine Hide.go (by assumption) ?_ | (fail_if_success with_reducible (refine Owe.mk ?_)); (simp (disch := omega) [go_sem, canO]))
      refine begY_normal [.ptr 1000 0 0, .ptr 1001 0 0] (by simp [go_sem]) ?_; simp only [putO_cons, putO_nil, Nat.reduceEqDiff, if_true, if_false]
      repeat' (first | (refine awK fun _ _ => ?_) | refine Hide.go (by assumption) ?_ | (fail_if_success with_reducible (refine Owe.mk ?_)); (simp (disch := omega) [go_sem, canO, ha]))
      refine endY_normal (yEnd_is ⟨29, [], [(2000, loopO true (hd.st .busy none) [.ptr 1000 0 0, .ptr 1001 0 0]), (1000, ⟨false, false, true, 1, [eLs z], 0⟩), (1001, ⟨false, false, true, 1, [nt .i64 i], 0⟩)]⟩ [.ptr 1000 0 0, .ptr 1001 0 0] (Le.sub4 rfl (by simp [go_sem])) (by simp [go_sem]) (by simp [go_sem]))
    · by_cases hq0 : q < 0
      · rw [if_pos (.inr hq0)] at hnx
        rw [hnx]
        refine ycall_of_awp (ts := [.ptr 1000 0 0, .ptr 1001 0 0]) (by simp [go_sem, canO]) hps has hbd hn hks rfl (by decide) (by decide) rfl rfl ?_; simp only [List.zip_cons_cons, List.zip_nil_left, List.zip_nil_right, List.cons_append, List.nil_append]
        repeat' (first | (refine awK fun _ _ => ?_) | refine Hide.go (by assumption) ?_ | (fail_if_success with_reducible (refine Owe.mk ?_)); (simp (disch := omega) [go_sem, canO]))
        refine begY_normal [.ptr 1000 0 0, .ptr 1001 0 0] (by simp [go_sem]) ?_; simp only [putO_cons, putO_nil, Nat.reduceEqDiff, if_true, if_false]
        repeat' (first | (refine awK fun _ _ => ?_) | refine Hide.go (by assumption) ?_ | refine stepK_is rfl (hc) (by simp) ?_ | (fail_if_success with_reducible (refine Owe.mk ?_)); (simp (disch := omega) [go_sem, canO, ha, hq0]))
        refine endY_normal (yEnd_is ⟨29, [], [(2000, loopO true (hd.st .busy none) [.ptr 1000 0 0, .ptr 1001 0 0]), (1000, ⟨false, false, true, 1, [eLs z], 0⟩), (1001, ⟨false, false, true, 1, [nt .i64 i], 0⟩)]⟩ [.ptr 1000 0 0, .ptr 1001 0 0] (Le.sub4 rfl (by simp [go_sem])) (by simp [go_sem]) (by simp [go_sem]))
      · rw [if_neg (by rintro (h | h) <;> omega)] at hnx
        rw [hnx]
        refine ycall_of_awp (ts := [.ptr 1000 0 0, .ptr 1001 0 0]) (by simp [go_sem, canO]) hps has hbd hn hks rfl (by decide) (by decide) rfl rfl ?_; simp only [List.zip_cons_cons, List.zip_nil_left, List.zip_nil_right, List.cons_append, List.nil_append]
        repeat' (first | (refine awK fun _ _ => ?_) | refine Hide.go (by assumption) ?_ | (fail_if_success with_reducible (refine Owe.mk ?_)); (simp (disch := omega) [go_sem, canO]))
        refine begY_normal [.ptr 1000 0 0, .ptr 1001 0 0] (by simp [go_sem]) ?_; simp only [putO_cons, putO_nil, Nat.reduceEqDiff, if_true, if_false]
        repeat' (first | (refine awK fun _ _ => ?_) | refine Hide.go (by assumption) ?_ | refine stepK_is rfl (hc) (by simp) ?_ | (fail_if_success with_reducible (refine Owe.mk ?_)); (simp (disch := omega) [go_sem, canO, ha, hq0]))
        refine endY_normal (yEnd_is ⟨29, [], [(2000, loopO true (hd.st .busy none) [.ptr 1000 0 0, .ptr 1001 0 0]), (1000, ⟨false, false, true, 1, [eLs b], 0⟩), (1001, ⟨false, false, true, 1, [nt .i64 a], 0⟩)]⟩ [.ptr 1000 0 0, .ptr 1001 0 0] (Le.sub4 rfl (by simp [go_sem])) (by simp [go_sem]) (by simp [go_sem]))
  · rintro r o' ⟨rfl, rfl⟩
    have hat := canN_at (g := g) (s := s) (i := g.length)
    generalize canN g s g.length = X at *
    refine ⟨(by simp [go_sem, canO, canX]), rangeEnd_is (hd.st .ready none) [.ptr 1000 0 0, .ptr 1001 0 0] (by simp [go_sem, canO, canX]) (by simp [go_sem, canO, canX]) ⟨29, [(6, .ptr 6 0 0), (7, .ptr 7 0 0)], [(6, ⟨false, false, false, 1, [eLs X.1], 0⟩), (7, ⟨false, false, false, 1, [nt .i64 X.2], 0⟩)]⟩ (Le.sub4 rfl (by simp [go_sem, canO, canX])) (by simp [go_sem, canO, canX]) ?_⟩
    repeat' (first | (refine awK fun _ _ => ?_) | refine Hide.go (by assumption) ?_ | refine end_ret [] ?_; simp [go_sem] | (fail_if_success with_reducible (refine Owe.mk ?_)); (simp (disch := omega) [go_sem]) | refine awp_draw 4 mix (by decide +kernel) ?_)
def eStr (s : ByteArray) : AV := .sc (.string s)
theorem Values_ok (l : List ByteArray) (le fu : Bool) : MCall Tryz.prog 91 [.list le fu (l.map eStr)] [] (fun r o' => r = .clo 111 [.ptr 1000 0 0] ∧ o' = [(1000, ⟨false, false, false, 1, [.list le fu (l.map eStr)], 0⟩)]) := by
  refine mcall_of_awpL Tryz.func91 Tryz.call91 rfl (by simp [Tryz.ntmps91]) ?_; simp only [Tryz.ntmps91, Tryz.results91]
  repeat' (first | (refine awK fun _ _ => ?_) | refine Hide.go (by assumption) ?_ | (fail_if_success with_reducible (refine Owe.mk ?_)); (simp (disch := omega) [go_sem]))
  refine endL_ret ⟨4, [(2, .clo 111 [.ptr 1000 0 0])], [(1000, ⟨false, false, false, 1, [.list le fu (l.map eStr)], 0⟩)]⟩ [.clo 111 [.ptr 1000 0 0]] (Le.renSub [(1, 1000), (1000, 1)] [(1000, 1), (1, 1000)] (by simp [go_sem]) (by simp [go_sem]) (Le.sub4 rfl (by simp [go_sem]))) (by simp [go_sem]) ⟨rfl, rfl⟩
abbrev colA (hd : LH) (l : List ByteArray) : Objs := [(2000, loopO true (hd.st .ready none) [.ptr 1000 0 0]), (1000, ⟨false, false, true, 1, [.ref 1001 0 l.length], 0⟩), (1001, ⟨true, false, true, 1, l.map eStr, 0⟩)]
abbrev colB (hd : LH) (l : List ByteArray) : Objs := [(2000, loopO true (hd.st .ready none) [.ptr 1000 0 0]), (1000, ⟨false, false, true, 1, [.ref 1002 0 l.length], 0⟩), (1002, ⟨true, false, false, 1, l.map eStr, 0⟩)]
theorem Values1_ok (l : List ByteArray) (le le' fu : Bool) (hb : l.length ≤ 1000000) (hd : LH) (hY : ∀ (i : Nat) (h : i < l.length), YCall Tryz.prog [.yl 2000, eStr l[i]] (colA hd (l.take i)) (fun r o' => r = bl true ∧ o' = colB hd (l.take (i + 1)))) :
    MCall Tryz.prog 111 [.yl 2000, .iptr le [.list le' fu (l.map eStr)] 0 0] (colA hd []) (fun r o' => r = .tup [] ∧ o' = colB hd l) := by
  refine mcall_of_awpL Tryz.func111 Tryz.call111 rfl (by simp [Tryz.ntmps111]) ?_; simp only [Tryz.ntmps111, Tryz.results111]
  repeat' (first | (refine awK fun _ _ => ?_) | refine Hide.go (by assumption) ?_ | (fail_if_success with_reducible (refine Owe.mk ?_)); (simp (disch := omega) [go_sem]))
  refine awp_for [0, 5, 6] [2000, 1000, 1001] (fun i : Nat => [(7, nt .i64 i)]) (fun i : Nat => [(2000, loopO true (hd.st .ready none) [.ptr 1000 0 0]), (1000, ⟨false, false, true, 1, [.ref 1001 0 (l.take i).length], 0⟩), (1001, ⟨true, false, false, 1, (l.take i).map eStr, 0⟩)]) (fun i : Nat => l.length - i) (fun i : Nat => i ≤ l.length) (0) (by refine Le.trans ?_ (Le.unpin 1001 rfl); exact (Le.sub4 rfl (by simp [go_sem, colA]))) ⟨?_⟩ ?_
  · exact Nat.zero_le _
  intro i hi AA hAA; simp only [kL, Nat.reduceBEq, Nat.reduceEqDiff, if_true, if_false, List.cons_append, List.nil_append, List.append_nil]
  by_cases hlt : i < l.length
  · have hy := hY i hlt
    have hnx := take_next hlt
    generalize l.take i = A at *
    rw [hnx] at hy
    generalize hx : l[i] = x at *
    repeat' (first | (refine awK fun _ _ => ?_) | refine Hide.go (by assumption) ?_ | (fail_if_success with_reducible (refine Owe.mk ?_)); (simp (disch := omega) [go_sem, hlt, hx, eStr]))
    refine stepK_yis [] [] 10000 _ _ (Fits.mk' (by simp [go_sem, colA, colB, eStr]) (by simp [go_sem, colA, colB, eStr])) (by simp [go_sem, colA, colB, eStr]) (by simp [go_sem, colA, colB, eStr]) (hy) (by simp [go_sem, colA, colB, eStr]) (by simp [go_sem, colA, colB, eStr]) ?_
    repeat' (first | refine Hide.go (by assumption) ?_ | refine (hAA.next (i + 1) (Le.renSub [(11002, 1001), (1001, 11002)] [(1001, 11002), (11002, 1001)] (by simp [go_sem, colB, eStr, hnx]) (by simp [go_sem, colB, eStr, hnx]) (Le.sub4 rfl (by simp [go_sem, colB, eStr, hnx]))) (by (try dsimp only); omega) ?_) | (fail_if_success with_reducible (refine Owe.mk ?_)); (simp (disch := omega) [go_sem, hlt, colB, eStr]))
    all_goals (first | omega | skip)
    exact ⟨hlt⟩
  · obtain rfl : i = l.length := by omega
    rw [List.take_length]
    repeat' (first | (refine awK fun _ _ => ?_) | refine Hide.go (by assumption) ?_ | (fail_if_success with_reducible (refine Owe.mk ?_)); (simp (disch := omega) [go_sem]))
    refine endL_normal ⟨16, [], colB hd l⟩ [] (Le.renSub [(1001, 1002), (1002, 1001)] [(1002, 1001), (1001, 1002)] (by simp [go_sem, colB]) (by simp [go_sem, colB]) (Le.sub4 rfl (by simp [go_sem, colB]))) (by simp [go_sem, colB]) ⟨rfl, rfl⟩
theorem AppendSeq_ok (l : List ByteArray) (le le' fu : Bool) (hb : l.length ≤ 1000000) : ACall Tryz.prog 124 [.list false true [], .clo 111 [.iptr le [.list le' fu (l.map eStr)] 0 0]] (fun r => r = .own 1 (l.map eStr)) := by
  refine acall_of_awp Tryz.func124 Tryz.call124 rfl (by simp [Tryz.ntmps124]) ?_; simp only [Tryz.ntmps124, Tryz.results124]
  repeat' (first | (refine awK fun _ _ => ?_) | refine Hide.go (by assumption) ?_ | (fail_if_success with_reducible (refine Owe.mk ?_)); (simp (disch := omega) [go_sem]))
  refine awp_rf_le (Le.nilBox 2 900 1 rfl (by decide) (by decide)) ?_; simp only [killT_nil, killT_cons, kill1_sc, kill1_list, kill1_iptr, kill1_ptr, kill1_ref, kill1_clo, kill1_dead, kill1_agg, has_iptr, has_ptr, has_list, has_sc, hasL_nil, hasL_cons, killO_nil, killO_cons, killX_arr, killX_box, del_nil, del_cons, arrO_eq, List.map_cons, List.map_nil, Bool.or_false, Bool.false_eq_true, if_false, Nat.reduceEqDiff, Nat.reduceBEq]
  refine awp_range 2000 7 30000 [2] [(1000, 2), (1001, 900)] [(2, 1000), (900, 1001)] (fun hd => (2000, loopO true (hd.st .ready none) [.ptr 1000 0 0]) :: [(1000, ⟨false, false, true, 1, [.ref 1001 0 0], 0⟩), (1001, ⟨true, false, true, 1, [], 0⟩)]) (.yl 2000 :: [.iptr le [.list le' fu (l.map eStr)] 0 0]) (fun hd r o' => r = .tup [] ∧ o' = colB hd l) rfl (by simp [go_sem]) (by simp) rfl (by simp [go_sem]) ?_; intro hd hps has hbd hn hks
  refine ⟨Fits.mk' (by simp [go_sem, colA, colB]) (by simp [go_sem, colA, colB]), (by simp [go_sem, colA, colB]), (by simp [go_sem, colA, colB]), (by simp [go_sem, colA, colB]), ?_, ?_⟩
  · refine Values1_ok l le le' fu hb hd fun i hi => ?_
    have hnx := take_next hi
    have hln : (l.take i).length = i := by rw [List.length_take]; omega
    generalize l.take i = A at *
    rw [hnx]
    generalize l[i] = x at *
    refine ycall_of_awp (ts := [.ptr 1000 0 0]) (by simp [go_sem, colA, colB]) hps has hbd hn hks rfl (by decide) (by decide) rfl rfl ?_; simp only [List.zip_cons_cons, List.zip_nil_left, List.zip_nil_right, List.cons_append, List.nil_append]
    repeat' (first | (fail_if_success with_reducible (refine Owe.mk ?_)); (simp (disch := omega) [go_sem, colA, eStr]))
    refine begY_normal [.ptr 1000 0 0] (by simp [go_sem]) ?_; simp only [putO_cons, putO_nil, Nat.reduceEqDiff, if_true, if_false]
    repeat' (first | (fail_if_success with_reducible (refine Owe.mk ?_)); (simp (disch := omega) [go_sem, colA, eStr]) | refine And.intro (by omega) ?_)
    refine endY_normal (yEnd_is ⟨13, [], [(2000, loopO true (hd.st .busy none) [.ptr 1000 0 0]), (1000, ⟨false, false, true, 1, [.ref 1002 0 (A.length + 1)], 0⟩), (1002, ⟨true, false, false, 1, A.map eStr ++ [eStr x], 0⟩)]⟩ [.ptr 1000 0 0] (Le.renSub [(11, 1002), (1002, 11)] [(1002, 11), (11, 1002)] (by simp [go_sem, eStr]) (by simp [go_sem, eStr]) (Le.sub4 rfl (by simp [go_sem, eStr]))) (by simp [go_sem, eStr]) (by simp [go_sem, eStr]))
  · rintro r o' ⟨rfl, rfl⟩
    refine ⟨(by simp [go_sem, colB]), rangeEnd_is (hd.st .ready none) [.ptr 1000 0 0] (by simp [go_sem, colB]) (by simp [go_sem, colB]) ⟨13, [(2, .ptr 2 0 0)], [(2, ⟨false, false, false, 1, [.ref 31002 0 l.length], 0⟩), (31002, ⟨true, false, false, 1, l.map eStr, 0⟩)]⟩ (Le.sub4 rfl (by simp [go_sem, colB])) (by simp [go_sem, colB]) ?_⟩
    repeat' (first | (refine awK fun _ _ => ?_) | refine Hide.go (by assumption) ?_ | refine end_ret [] ?_; simp [go_sem] | (fail_if_success with_reducible (refine Owe.mk ?_)); (simp (disch := omega) [go_sem]))
def cmpS (x y : ByteArray) : Int := cmpT (.mk x []) (.mk y [])
theorem len64_zero : ACall Tryz.prog 140 [nt .u64 0] (fun r => r = nt .i64 0) := by
  refine acall_of_awp Tryz.func140 Tryz.call140 rfl (by simp [Tryz.ntmps140]) ?_; simp only [Tryz.ntmps140, Tryz.results140]
  repeat' (first | (refine awK fun _ _ => ?_) | refine Hide.go (by assumption) ?_ | refine end_ret [] ?_; simp [go_sem] | (fail_if_success with_reducible (refine Owe.mk ?_)); (simp (disch := omega) [go_sem]))
  all_goals (first | rfl | decide +kernel)
theorem len_zero : ACall Tryz.prog 126 [nt .u64 0] (fun r => r = nt .i64 0) := by
  have h := len64_zero
  refine acall_of_awp Tryz.func126 Tryz.call126 rfl (by simp [Tryz.ntmps126]) ?_; simp only [Tryz.ntmps126, Tryz.results126]
  repeat' (first | (refine awK fun _ _ => ?_) | refine Hide.go (by assumption) ?_ | refine end_ret [] ?_; simp [go_sem] | refine stepK_is rfl (h) (by simp) ?_ | (fail_if_success with_reducible (refine Owe.mk ?_)); (simp (disch := omega) [go_sem]))
theorem ins_zero (f : FuncId) : MCall Tryz.prog 131 [.ref 1000 0 0, nt .i64 0, nt .i64 0, .clo f []] [(1000, rowO eStr 1 0 [])] (fun r o' => r = .tup [] ∧ o' = [(1000, rowO eStr 1 0 [])]) := by
  refine mcall_of_awpL Tryz.func131 Tryz.call131 rfl (by simp [Tryz.ntmps131]) ?_; simp only [Tryz.ntmps131, Tryz.results131]
  repeat' (first | (refine awK fun _ _ => ?_) | refine Hide.go (by assumption) ?_ | (fail_if_success with_reducible (refine Owe.mk ?_)); (simp (disch := omega) [go_sem]))
  refine awp_for [0, 1, 2, 3] [] (fun u : Unit => [(8, nt .i64 1)]) (fun u : Unit => []) (fun u : Unit => 0) (fun u : Unit => True) (()) (Le.sub4 rfl (by simp [go_sem])) ⟨?_⟩ ?_
  · trivial
  intro u hu AA hAA; simp only [kL, Nat.reduceBEq, Nat.reduceEqDiff, if_true, if_false, List.cons_append, List.nil_append, List.append_nil]
  repeat' (first | (refine awK fun _ _ => ?_) | refine Hide.go (by assumption) ?_ | (fail_if_success with_reducible (refine Owe.mk ?_)); (simp (disch := omega) [go_sem]))
  refine endL_normal ⟨53, [], [(1000, rowO eStr 1 0 [])]⟩ [] (Le.renSub [] [] (by simp [go_sem]) (by simp [go_sem]) (Le.sub4 rfl (by simp [go_sem]))) (by simp [go_sem]) ⟨rfl, rfl⟩
theorem pdq_zero (f : FuncId) : MCall Tryz.prog 125 [.ref 1000 0 0, nt .i64 0, nt .i64 0, nt .i64 0, .clo f []] [(1000, rowO eStr 1 0 [])] (fun r o' => r = .tup [] ∧ o' = [(1000, rowO eStr 1 0 [])]) := by
  have hi := ins_zero f
  refine mcall_of_awpL Tryz.func125 Tryz.call125 rfl (by simp [Tryz.ntmps125]) ?_; simp only [Tryz.ntmps125, Tryz.results125]
  repeat' (first | (refine awK fun _ _ => ?_) | refine Hide.go (by assumption) ?_ | (fail_if_success with_reducible (refine Owe.mk ?_)); (simp (disch := omega) [go_sem]))
  refine awp_for [0, 4] [] (fun u : Unit => [(1, nt .i64 0), (2, nt .i64 0), (3, nt .i64 0), (10, bl true), (11, bl true)]) (fun u : Unit => []) (fun u : Unit => 0) (fun u : Unit => True) (()) (Le.sub4 rfl (by simp [go_sem])) ⟨?_⟩ ?_
  · trivial
  intro u hu AA hAA; simp only [kL, Nat.reduceBEq, Nat.reduceEqDiff, if_true, if_false, List.cons_append, List.nil_append, List.append_nil]
  repeat' (first | (refine awK fun _ _ => ?_) | refine Hide.go (by assumption) ?_ | (fail_if_success with_reducible (refine Owe.mk ?_)); (simp (disch := omega) [go_sem]))
  refine stepK_fis [] [] 10000 _ _ (Fits.mk' (by simp [go_sem]) (by simp [go_sem])) (by simp [go_sem]) (by simp [go_sem]) (hi) (by simp [go_sem]) (by simp [go_sem]) ?_
  repeat' (first | (fail_if_success with_reducible (refine Owe.mk ?_)); (simp (disch := omega) [go_sem]))
  refine endL_ret ⟨148, [], [(1000, rowO eStr 1 0 [])]⟩ [] (Le.renSub [] [] (by simp [go_sem]) (by simp [go_sem]) (Le.sub4 rfl (by simp [go_sem]))) (by simp [go_sem]) ⟨rfl, rfl⟩
theorem SortFunc_zero (f : FuncId) : MCall Tryz.prog 110 [.ref 1000 0 0, .clo f []] [(1000, rowO eStr 1 0 [])] (fun r o' => r = .tup [] ∧ o' = [(1000, rowO eStr 1 0 [])]) := by
  have hi := pdq_zero f
  have hl := len_zero
  refine mcall_of_awpL Tryz.func110 Tryz.call110 rfl (by simp [Tryz.ntmps110]) ?_; simp only [Tryz.ntmps110, Tryz.results110]
  repeat' (first | (refine awK fun _ _ => ?_) | refine Hide.go (by assumption) ?_ | refine stepK_is rfl (hl) (by simp) ?_ | (fail_if_success with_reducible (refine Owe.mk ?_)); (simp (disch := omega) [go_sem]))
  refine stepK_fis [] [] 10000 _ _ (Fits.mk' (by simp [go_sem]) (by simp [go_sem])) (by simp [go_sem]) (by simp [go_sem]) (hi) (by simp [go_sem]) (by simp [go_sem]) ?_
  repeat' (first | (fail_if_success with_reducible (refine Owe.mk ?_)); (simp (disch := omega) [go_sem]))
  refine endL_normal ⟨14, [], [(1000, rowO eStr 1 0 [])]⟩ [] (Le.renSub [] [] (by simp [go_sem]) (by simp [go_sem]) (Le.sub4 rfl (by simp [go_sem]))) (by simp [go_sem]) ⟨rfl, rfl⟩
theorem ovT (args : Array Value) (w : World) : (callFunc 82 args).run Tryz.prog w = ((Extern.SlicesOverlaps.overlaps #[38, 38] #[4] args).run Tryz.prog w).andThen fun v w' => .ok (.value v) w' :=
  run_callFunc_extern Tryz.func82 (by kernel_rfl) (by kernel_rfl) (by kernel_rfl) (e := Extern.SlicesOverlaps.overlaps #[38, 38] #[4]) (by kernel_rfl) args w
abbrev insO (l : List (List Tm)) (x : List Tm) : Objs := [(1000, ⟨true, false, true, 1, l.map eLs, 0⟩), (1001, ⟨true, false, true, 1, [eLs x], 0⟩)]
abbrev insR (l : List (List Tm)) : Objs := [(1002, ⟨true, false, false, 1, l.map eLs, 0⟩)]
theorem spl_at {α : Type} {p r ys : List α} {n : Nat} (h : n = p.length) : splice (p ++ r) ys n = p ++ (ys ++ r.drop ys.length) := by
  subst h
  rw [splice, List.take_append_of_le_length (Nat.le_refl _), List.take_length, List.append_assoc]
  congr 2
  rw [List.drop_append, List.drop_eq_nil_of_le (by omega), List.nil_append]
  congr 1; omega
theorem seg_pre {α : Type} {p r : List α} {n : Nat} (h : n = p.length) : seg (p ++ r) 0 n = p := by
  subst h
  rw [seg_eq]
  split
  · rename_i hh
    have := hh.2
    simp at this
    subst this; simp
  · simp
theorem seg_post {α : Type} {p r : List α} {n k : Nat} (h : n = p.length) (hk : k = r.length) : seg (p ++ r) n k = r := by
  subst h; subst hk
  rw [seg_eq]
  split
  · rename_i hh
    obtain rfl : p = [] := List.length_eq_zero_iff.1 hh.1
    rfl
  · simp
theorem isI3 : isIntT Tryz.prog 3 = true := by kernel_rfl
theorem InsertT_ok (A B : List (List Tm)) (x : List Tm) (hb : (A ++ B).length ≤ 1000000) :
    MCall Tryz.prog 44 [.ref 1000 0 (A ++ B).length, nt .i64 A.length, .ref 1001 0 1] (insO (A ++ B) x) (fun r o' => r = .ref 1002 0 ((A ++ B).length + 1) ∧ o' = insR (A ++ x :: B)) := by
  cases B with
  | nil =>
    rw [List.append_nil] at *
    refine mcall_of_awpL Tryz.func44 Tryz.call44 rfl (by simp [Tryz.ntmps44]) ?_; simp only [Tryz.ntmps44, Tryz.results44]
    repeat' (first | (refine awK fun _ _ => ?_) | refine Hide.go (by assumption) ?_ | (fail_if_success with_reducible (refine Owe.mk ?_)); (simp (disch := omega) [go_sem, insO]) | refine And.intro (by omega) ?_)
    refine endL_ret ⟨95, [(6, .ref 1002 0 (A.length + 1))], insR (A ++ [x])⟩ [.ref 1002 0 (A.length + 1)] (by refine Le.trans ?_ (Le.move (i := 6) (T := 25) (T' := 1002) rfl (by show (0 : Nat) ≠ 1; decide) rfl rfl rfl); exact (Le.sub4 rfl (by simp [go_sem, insR]))) (by simp [go_sem, insR]) ⟨rfl, rfl⟩
  | cons y B =>
    refine mcall_room Tryz.func44 Tryz.call44 rfl (by simp [Tryz.ntmps44]) rfl (by simp) fun c hc => ?_
    have hle : (A ++ y :: B).length = A.length + (B.length + 1) := by simp
    generalize (A ++ y :: B).length = n at *
    have hk : ((n : Int) + 1 - A.length).toNat = B.length + 2 := by omega
    have hna : n - A.length = B.length + 1 := by omega
    have hn1 : n + 1 - A.length = B.length + 2 := by omega
    have hn2 : n + 1 - (A.length + 1) = B.length + 1 := by omega
    simp only [Tryz.ntmps44, Tryz.results44]
    have hsum : A.length + (B.length + 2) = n + 1 := by omega
    have hs1 : seg (A.map eLs ++ eLs y :: B.map eLs) 0 A.length = A.map eLs := seg_pre (by simp)
    have hs2 : seg (A.map eLs ++ eLs y :: B.map eLs) A.length (B.length + 1) = eLs y :: B.map eLs := seg_post (by simp) (by simp)
    have hp1 : splice (A.map eLs ++ List.replicate (B.length + 2) (.list false true [])) [eLs x] A.length = A.map eLs ++ eLs x :: List.replicate (B.length + 1) (.list false true []) := by
      rw [spl_at (by simp)]; simp
    have hp2 : splice (A.map eLs ++ eLs x :: List.replicate (B.length + 1) (.list false true [])) (eLs y :: B.map eLs) (A.length + 1) = A.map eLs ++ eLs x :: eLs y :: B.map eLs := by
      rw [List.append_cons, spl_at (by simp)]; simp
    have hp3 : splice (A.map eLs ++ eLs y :: B.map eLs) (eLs y :: B.map eLs) (A.length + 1) = A.map eLs ++ eLs y :: eLs y :: B.map eLs := by
      rw [List.append_cons, spl_at (by simp)]; simp
    have hp4 : splice (A.map eLs ++ eLs y :: eLs y :: B.map eLs) [eLs x] A.length = A.map eLs ++ eLs x :: eLs y :: B.map eLs := by
      rw [spl_at (by simp)]; simp
    repeat' (first | (refine awK fun _ _ => ?_) | refine Hide.go (by assumption) ?_ | refine zqd ?_ ?_ <;> (intro h; first | (exfalso; omega) | (simp only [h, decide_true, decide_false, not_false_eq_true])) | (fail_if_success with_reducible (refine Owe.mk ?_)); (simp (disch := omega) [go_sem, insO, isI3, hk, hna, hn1, hn2, hs1, hs2, hp1, hp2, hp3, hp4]) | refine And.intro (by omega) ?_ | refine awp_draw 8 mix (by decide +kernel) ?_)
    · refine endL_ret ⟨95, [(6, .ref 1002 0 (n + 1))], insR (A ++ x :: y :: B)⟩ [.ref 1002 0 (n + 1)] (by refine Le.trans ?_ (Le.move (i := 6) (T := 40) (T' := 1002) rfl (by show (0 : Nat) ≠ 1; decide) rfl rfl rfl); exact (Le.sub4 rfl (by simp [go_sem, insR, hsum]))) (by simp [go_sem, insR, hsum]) ⟨rfl, rfl⟩
    · refine stepK_x (XCall.apart ovT tyEl38 rfl rfl (by decide) (by decide) (by omega) Nat.one_ne_zero) (by simp) ?_
      repeat' (first | refine Hide.go (by assumption) ?_ | (fail_if_success with_reducible (refine Owe.mk ?_)); (simp (disch := omega) [go_sem, insO, isI3, hk, hna, hn1, hn2, hs1, hs2, hp1, hp2, hp3, hp4]) | refine And.intro (by omega) ?_ | refine awp_draw 8 mix (by decide +kernel) ?_)
      refine endL_ret ⟨95, [(6, .ref 1002 0 (n + 1))], insR (A ++ x :: y :: B)⟩ [.ref 1002 0 (n + 1)] (by refine Le.trans ?_ (Le.unrc 6 rfl rfl (by simp; omega)); refine Le.trans ?_ (Le.move (i := 6) (T := 1000) (T' := 1002) rfl (by show (0 : Nat) ≠ 1; decide) rfl rfl rfl); exact (Le.sub4 rfl (by simp [go_sem, insR, hsum]))) (by simp [go_sem, insR, hsum]) ⟨rfl, rfl⟩
end Go.Proofs.YtmadpbpmcbdboaaGreat
