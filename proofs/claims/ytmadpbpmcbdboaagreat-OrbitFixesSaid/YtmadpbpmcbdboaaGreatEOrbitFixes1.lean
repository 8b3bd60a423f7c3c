import Derived.Test.YtmadpbpmcbdboaaGreatS1
import Derived.Test.YtmadpbpmcbdboaaGreatA5
import Derived.Test.YtmadpbpmcbdboaaGreatS2
import Derived.Test.YtmadpbpmcbdboaaGreatS3
import Derived.Test.YtmadpbpmcbdboaaGreatA8
import Derived.Test.YtmadpbpmcbdboaaGreatS5
import Derived.Test.YtmadpbpmcbdboaaGreatS8
set_option linter.unusedSimpArgs false
set_option linter.unusedVariables false
namespace Go.Proofs.YtmadpbpmcbdboaaGreat
open Go.Ab
namespace Tm
end Tm
theorem depth_eq (t : Tm) : t.depth = depthL t.args + 1 := by cases t; rfl
open Go.Ab
set_option maxRecDepth 100000
set_option maxHeartbeats 4000000
mutual
def partsT (m : Int) : Int → Tm → Int
  | lv, .mk _ ts => if lv < 1 then m + 1 else partsL m (lv - 1) 1 ts
def partsL (m : Int) : Int → Int → List Tm → Int
  | _, n, [] => n
  | lv, n, t :: r => if n > m then n else partsL m lv (n + partsT m lv t) r
end
theorem parts_eq {m lv : Int} {t : Tm} : partsT m lv t = if lv < 1 then m + 1 else partsL m (lv - 1) 1 t.args := by cases t; rfl
theorem partsL_ge {m : Int} (hm : 0 ≤ m) : ∀ (t : Tm) (lv : Int), 1 ≤ partsT m lv t := by
  refine tm_ind fun t ih lv => ?_
  rw [parts_eq]
  split
  · omega
  · have key : ∀ (r : List Tm), (∀ u ∈ r, ∀ lv, 1 ≤ partsT m lv u) → ∀ n, 1 ≤ n → 1 ≤ partsL m (lv - 1) n r := by
      intro r
      induction r with
      | nil => intro _ n hn; simpa [partsL] using hn
      | cons u r ihr =>
        intro h n hn
        simp only [partsL]
        split
        · exact hn
        · have := h u (by simp) (lv - 1)
          exact ihr (fun v hv => h v (by simp [hv])) _ (by omega)
    exact key t.args ih 1 (by omega)
theorem parts_le {m : Int} (hm : 0 ≤ m) : ∀ (k : Nat) (t : Tm) (lv : Int), lv ≤ k → partsT m lv t ≤ (k + 1) * (m + 1) := by
  intro k
  induction k with
  | zero =>
    intro t lv h
    rw [parts_eq, if_pos (by omega)]
    simp
  | succ k ih =>
    intro t lv h
    rw [parts_eq]
    have e : ((k + 1 : Nat) + 1 : Int) * (m + 1) = ((k : Int) + 1) * (m + 1) + (m + 1) := by
      rw [show ((k + 1 : Nat) + 1 : Int) = ((k : Int) + 1) + 1 by omega, Int.add_mul, Int.one_mul]
    have hp : 0 ≤ ((k : Int) + 1) * (m + 1) := Int.mul_nonneg (by omega) (by omega)
    split
    · omega
    · have key : ∀ (r : List Tm) (n : Int), n ≤ ((k : Int) + 1) * (m + 1) + m + 1 → partsL m (lv - 1) n r ≤ ((k : Int) + 1) * (m + 1) + m + 1 := by
        intro r
        induction r with
        | nil => intro n hn; simpa [partsL] using hn
        | cons u r ihr =>
          intro n hn
          simp only [partsL]
          split
          · exact hn
          · have := ih u (lv - 1) (by omega)
            exact ihr _ (by omega)
      have h1 : 1 ≤ ((k : Int) + 1) * (m + 1) + m + 1 := by omega
      have := key t.args 1 h1
      omega
theorem parts_size {m : Int} (hm : 0 ≤ m) : ∀ (t : Tm) (lv : Int), partsT m lv t ≤ m → (partsT m lv t = t.size ∧ (t.depth : Int) ≤ lv) := by
  refine tm_ind fun t ih lv h => ?_
  rw [parts_eq] at *
  split at h
  · omega
  · rename_i hl
    rw [if_neg hl]
    have key : ∀ (r : List Tm), (∀ u ∈ r, u ∈ t.args) → ∀ n, 1 ≤ n → partsL m (lv - 1) n r ≤ m → partsL m (lv - 1) n r = n + sizeL r ∧ (depthL r : Int) ≤ lv - 1 := by
      intro r
      induction r with
      | nil => intro _ n hn _; simp [partsL, sizeL, depthL]; omega
      | cons u r ihr =>
        intro hr n hn hp
        simp only [partsL] at *
        split at hp
        · omega
        · rename_i hc
          rw [if_neg hc]
          have g := partsL_ge hm u (lv - 1)
          have hmono : ∀ (r : List Tm) (n : Int), n ≤ partsL m (lv - 1) n r := by
            intro r
            induction r with
            | nil => intro n; simp [partsL]
            | cons u r ihr =>
              intro n
              simp only [partsL]
              split
              · omega
              · have g := partsL_ge hm u (lv - 1)
                have := ihr (n + partsT m (lv - 1) u)
                omega
          have h2 := hmono r (n + partsT m (lv - 1) u)
          obtain ⟨a1, a2⟩ := ih u (hr u (by simp)) (lv - 1) (by omega)
          obtain ⟨b1, b2⟩ := ihr (fun v hv => hr v (by simp [hv])) (n + partsT m (lv - 1) u) (by omega) hp
          simp only [sizeL, depthL]
          omega
    obtain ⟨a1, a2⟩ := key t.args (fun u hu => hu) 1 (by omega) h
    rw [size_eq, depth_eq]
    omega
def smallT (m : Int) (t : Tm) : Bool := decide (partsT m m t ≤ m)
theorem smallT_size {m : Int} (hm : 0 ≤ m) {t : Tm} (h : smallT m t = true) : (t.size : Int) ≤ m := by
  have := of_decide_eq_true h
  have := (parts_size hm t m this).1
  omega
theorem parts_bd {m : Int} (hm : 0 ≤ m ∧ m ≤ 10000) (t : Tm) {lv : Int} (h : lv ≤ 10000) : 1 ≤ partsT m lv t ∧ partsT m lv t ≤ 100020001 := by
  refine ⟨partsL_ge hm.1 t lv, ?_⟩
  have h1 := parts_le hm.1 10000 t lv h
  omega
theorem parts_ok (m : Int) (hm : 0 ≤ m ∧ m ≤ 10000) : ∀ (t : Tm) (lv : Int), lv ≤ 10000 → -10000 ≤ lv → ACall Tryz.prog 65 [eT t, nt .i64 m, nt .i64 lv] (fun r => r = nt .i64 (partsT m lv t)) := by
  refine tm_ind fun t ih lv hlv hlv2 => ?_
  obtain ⟨s, ts⟩ := t
  rw [parts_eq]
  simp only [args_mk] at *
  by_cases hl : lv < 1
  · rw [if_pos hl]
    refine acall_of_awp Tryz.func65 Tryz.call65 rfl (by simp [Tryz.ntmps65]) ?_; simp only [Tryz.ntmps65, Tryz.results65]
    repeat' (first | (refine awK fun _ _ => ?_) | refine Hide.go (by assumption) ?_ | refine zqd ?_ ?_ <;> (intro h; first | (exfalso; omega) | (simp only [h, decide_true, decide_false, not_false_eq_true])) | refine end_ret [] ?_; simp [go_sem] | (fail_if_success with_reducible (refine Owe.mk ?_)); (simp (disch := omega) [go_sem]))
  · rw [if_neg hl]
    generalize hR : partsL m (lv - 1) 1 ts = R
    refine acall_of_awp Tryz.func65 Tryz.call65 rfl (by simp [Tryz.ntmps65]) ?_; simp only [Tryz.ntmps65, Tryz.results65]
    repeat' (first | (refine awK fun _ _ => ?_) | refine Hide.go (by assumption) ?_ | refine zqd ?_ ?_ <;> (intro h; first | (exfalso; omega) | (simp only [h, decide_true, decide_false, not_false_eq_true])) | (fail_if_success with_reducible (refine Owe.mk ?_)); (simp (disch := omega) [go_sem]))
    refine awp_for [1, 2, 3, 15] [] (fun x : Nat × Int => [(16, nt .i64 x.1), (7, nt .i64 x.2)]) (fun x : Nat × Int => []) (fun x : Nat × Int => ts.length - x.1) (fun x : Nat × Int => x.1 ≤ ts.length ∧ 1 + (x.1 : Int) ≤ x.2 ∧ x.2 ≤ 100040001 ∧ (x.1 < ts.length → x.1 ≤ 10000 ∨ x.2 > m) ∧ partsL m (lv - 1) x.2 (ts.drop x.1) = R) ((0, 1)) (Le.sub4 rfl (by simp [go_sem])) ⟨?_⟩ ?_
    · exact ⟨Nat.zero_le _, by simp, by simp, by simp, by simpa using hR⟩
    intro ⟨i, n⟩ ⟨hi, hn, hn2, hbd, hr⟩ AA hAA; simp only [kL, Nat.reduceBEq, Nat.reduceEqDiff, if_true, if_false, List.cons_append, List.nil_append, List.append_nil]
    dsimp only at *
    by_cases hlt : i < ts.length
    · have hu := ih ts[i] (List.getElem_mem hlt) (lv - 1) (by omega) (by omega)
      have hb := parts_bd hm ts[i] (lv := lv - 1) (by omega)
      have hd : ts.drop i = ts[i] :: ts.drop (i + 1) := List.drop_eq_getElem_cons hlt
      rw [hd] at hr
      simp only [partsL] at hr
      by_cases hc : n > m
      · rw [if_pos hc] at hr
        repeat' (first | (refine awK fun _ _ => ?_) | refine Hide.go (by assumption) ?_ | refine zqd ?_ ?_ <;> (intro h; first | (exfalso; omega) | (simp only [h, decide_true, decide_false, not_false_eq_true])) | refine end_ret [] ?_; simp [go_sem, hlt, hr] | (fail_if_success with_reducible (refine Owe.mk ?_)); (simp (disch := omega) [go_sem, hlt, hr]))
      · rw [if_neg hc] at hr
        repeat' (first | (refine awK fun _ _ => ?_) | refine Hide.go (by assumption) ?_ | refine zqd ?_ ?_ <;> (intro h; first | (exfalso; omega) | (simp only [h, decide_true, decide_false, not_false_eq_true])) | refine stepK_is rfl (hu) (by simp) ?_ | refine (hAA.next ((i + 1, n + partsT m (lv - 1) ts[i])) (Le.sub4 rfl (by simp [go_sem])) (by (try dsimp only); omega) ?_) | (fail_if_success with_reducible (refine Owe.mk ?_)); (simp (disch := omega) [go_sem, hlt]))
        exact ⟨⟨by omega, by omega, by omega, by omega, hr⟩⟩
    · obtain rfl : i = ts.length := by omega
      simp [partsL] at hr
      repeat' (first | (refine awK fun _ _ => ?_) | refine Hide.go (by assumption) ?_ | refine end_ret [] ?_; simp [go_sem] | (fail_if_success with_reducible (refine Owe.mk ?_)); (simp (disch := omega) [go_sem]))
      exact hr
theorem Small_ok (t : Tm) (m : Int) (hm : 0 ≤ m ∧ m ≤ 10000) : ACall Tryz.prog 31 [eT t, nt .i64 m] (fun r => r = bl (smallT m t)) := by
  have h := parts_ok m hm t m hm.2 (by omega)
  unfold smallT
  generalize partsT m m t = q at *
  refine acall_of_awp Tryz.func31 Tryz.call31 rfl (by simp [Tryz.ntmps31]) ?_; simp only [Tryz.ntmps31, Tryz.results31]
  repeat' (first | (refine awK fun _ _ => ?_) | refine Hide.go (by assumption) ?_ | refine end_ret [] ?_; simp [go_sem] | refine stepK_is rfl (h) (by simp) ?_ | (fail_if_success with_reducible (refine Owe.mk ?_)); (simp (disch := omega) [go_sem]))
def smallL (m : Int) (l : List Tm) : Bool := decide ((l.length : Int) ≤ m) && l.all (smallT m)
theorem SmallTerms_ok (l : List Tm) (lent full : Bool) (m : Int) (hm : 0 ≤ m ∧ m ≤ 10000) : ACall Tryz.prog 9 [.list lent full (l.map eTm), nt .i64 m] (fun r => r = bl (smallL m l)) := by
  by_cases hl : (l.length : Int) ≤ m
  · have e : smallL m l = l.all (smallT m) := by simp [smallL, hl]
    rw [e]
    refine acall_of_awp Tryz.func9 Tryz.call9 rfl (by simp [Tryz.ntmps9]) ?_; simp only [Tryz.ntmps9, Tryz.results9]
    repeat' (first | (refine awK fun _ _ => ?_) | refine Hide.go (by assumption) ?_ | refine zqd ?_ ?_ <;> (intro h; first | (exfalso; omega) | (simp only [h, decide_true, decide_false, not_false_eq_true])) | (fail_if_success with_reducible (refine Owe.mk ?_)); (simp (disch := omega) [go_sem]))
    refine awp_for [0, 1, 11] [] (fun i : Nat => [(12, nt .i64 i)]) (fun i : Nat => []) (fun i : Nat => l.length - i) (fun i : Nat => i ≤ l.length ∧ (l.take i).all (smallT m) = true) (0) (Le.sub4 rfl (by simp [go_sem])) ⟨?_⟩ ?_
    · exact ⟨Nat.zero_le _, rfl⟩
    intro i ⟨hi, hall⟩ AA hAA; simp only [kL, Nat.reduceBEq, Nat.reduceEqDiff, if_true, if_false, List.cons_append, List.nil_append, List.append_nil]
    by_cases hlt : i < l.length
    · have hu := Small_ok l[i] m hm
      have hn : (l.take (i + 1)).all (smallT m) = smallT m l[i] := by rw [take_next hlt, List.all_append, hall]; simp
      cases hq : smallT m l[i] with
      | true =>
        rw [hq] at hu hn
        repeat' (first | (refine awK fun _ _ => ?_) | refine Hide.go (by assumption) ?_ | refine stepK_is rfl (hu) (by simp) ?_ | refine (hAA.next (i + 1) (Le.sub4 rfl (by simp [go_sem])) (by (try dsimp only); omega) ?_) | (fail_if_success with_reducible (refine Owe.mk ?_)); (simp (disch := omega) [go_sem, hlt]))
        exact ⟨⟨hlt, hn⟩⟩
      | false =>
        rw [hq] at hu
        repeat' (first | (refine awK fun _ _ => ?_) | refine Hide.go (by assumption) ?_ | refine end_ret [] ?_; simp [go_sem, hlt] | refine stepK_is rfl (hu) (by simp) ?_ | (fail_if_success with_reducible (refine Owe.mk ?_)); (simp (disch := omega) [go_sem, hlt]))
        all_goals exact ⟨l[i], List.getElem_mem hlt, hq⟩
    · obtain rfl : i = l.length := by omega
      rw [List.take_length] at hall
      repeat' (first | (refine awK fun _ _ => ?_) | refine Hide.go (by assumption) ?_ | refine end_ret [] ?_; simp [go_sem, hall] | (fail_if_success with_reducible (refine Owe.mk ?_)); (simp (disch := omega) [go_sem, hall]))
  · have e : smallL m l = false := by simp [smallL]; intro h; omega
    rw [e]
    refine acall_of_awp Tryz.func9 Tryz.call9 rfl (by simp [Tryz.ntmps9]) ?_; simp only [Tryz.ntmps9, Tryz.results9]
    repeat' (first | (refine awK fun _ _ => ?_) | refine Hide.go (by assumption) ?_ | refine zqd ?_ ?_ <;> (intro h; first | (exfalso; omega) | (simp only [h, decide_true, decide_false, not_false_eq_true])) | refine end_ret [] ?_; simp [go_sem] | (fail_if_success with_reducible (refine Owe.mk ?_)); (simp (disch := omega) [go_sem]))
open Go.Ab
set_option maxRecDepth 100000
set_option maxHeartbeats 4000000
theorem refCompareList_ok (ts us : List Tm) (l f l' f' : Bool) : ACall Tryz.prog 42 [.list l f (ts.map eTm), .list l' f' (us.map eTm)] (fun r => r = nt .i64 (cmpL ts us)) :=
  refCompareList_of ts us l f l' f' fun t _ u => refCompare_ok t u
theorem sortT_next {l : List Tm} {i : Nat} (h : i < l.length) : sortT (l.take (i + 1)) = insT l[i] (sortT (l.take i)) := by
  unfold sortT
  rw [take_next h, List.foldl_append]; rfl
set_option maxHeartbeats 8000000
theorem refatom_of (p : List Pr) (le fu : Bool) (s : ByteArray) (ts : List Tm) (hb : ts.length ≤ 1000000) (ih : ∀ t ∈ ts, ACall Tryz.prog 36 [.list le fu (p.map ePr), eT t] (fun r => r = eT (tmP p t))) :
    ACall Tryz.prog 75 [.list le fu (p.map ePr), eT (.mk s ts)] (fun r => r = eT (.mk s (imL p ts))) := by
  have hl2 : (imL p ts).length = ts.length := imL_len
  refine ACall.loose (x := .agg [.sc (.string s), .list false (decide (ts.length = 0)) ((imL p ts).map eTm)]) rfl ?_
  refine acall_of_awp Tryz.func75 Tryz.call75 rfl (by simp [Tryz.ntmps75]) ?_; simp only [Tryz.ntmps75, Tryz.results75]
  repeat' (first | (refine awK fun _ _ => ?_) | refine Hide.go (by assumption) ?_ | (fail_if_success with_reducible (refine Owe.mk ?_)); (simp (disch := omega) [go_sem]))
  refine awp_for [0, 3, 4, 5] [5, 900] (fun i : Nat => [(6, nt .i64 i)]) (fun i : Nat => (5, ⟨false, false, false, 2, [.agg [.sc (.string s), if i = 0 then .list false true [] else .ref 900 0 i]], 0⟩) :: (if i = 0 then [] else [(900, ⟨true, false, false, 2, (imL p (ts.take i)).map eTm, 0⟩)])) (fun i : Nat => ts.length - i) (fun i : Nat => i ≤ ts.length) (0) (Le.sub4 rfl (by simp [go_sem])) ⟨?_⟩ ?_
  · exact Nat.zero_le _
  intro i hi AA hAA; simp only [kL, Nat.reduceBEq, Nat.reduceEqDiff, if_true, if_false, List.cons_append, List.nil_append, List.append_nil]
  have hln : (imL p (ts.take i)).length = i := by rw [imL_len, List.length_take]; omega
  by_cases hlt : i < ts.length
  · have hu := ih _ (List.getElem_mem hlt)
    have hnx := imL_next (p := p) hlt
    by_cases h0 : i = 0
    · subst h0
      generalize tmP p ts[0] = x at *
      repeat' (first | (refine awK fun _ _ => ?_) | refine Hide.go (by assumption) ?_ | refine dstepK_is rfl (hu) rfl (by simp) ?_ | refine (hAA.next (0 + 1) (Le.renSub [(27, 900)] [(900, 27)] (by simp [go_sem, hnx, imL_nil]) (by simp [go_sem, hnx, imL_nil]) (Le.sub4 rfl (by simp [go_sem, hnx, imL_nil]))) (by (try dsimp only); omega) ?_) | (fail_if_success with_reducible (refine Owe.mk ?_)); (simp (disch := omega) [go_sem, hlt]) | refine awp_draw 9 mix (by decide +kernel) ?_)
      all_goals (first | omega | skip)
      exact ⟨hlt⟩
    · generalize imL p (ts.take i) = A at *
      generalize tmP p ts[i] = x at *
      repeat' (first | (refine awK fun _ _ => ?_) | refine Hide.go (by assumption) ?_ | refine dstepK_is rfl (hu) rfl (by simp) ?_ | refine (hAA.next (i + 1) (Le.sub4 rfl (by simp [go_sem, hnx, hln])) (by (try dsimp only); omega) ?_) | (fail_if_success with_reducible (refine Owe.mk ?_)); (simp (disch := omega) [go_sem, hlt, h0, hln]) | refine And.intro (by omega) ?_ | refine awp_draw 9 mix (by decide +kernel) ?_)
      all_goals (first | omega | skip)
      exact ⟨hlt⟩
  · obtain rfl : i = ts.length := by omega
    rw [List.take_length] at *
    generalize imL p ts = A at *
    by_cases h0 : ts.length = 0
    · have h1 : A = [] := List.eq_nil_of_length_eq_zero (by omega)
      subst h1
      repeat' (first | (refine awK fun _ _ => ?_) | refine Hide.go (by assumption) ?_ | refine end_ret [] ?_; simp [go_sem, h0] | (fail_if_success with_reducible (refine Owe.mk ?_)); (simp (disch := omega) [go_sem, h0]))
    · repeat' (first | (refine awK fun _ _ => ?_) | refine Hide.go (by assumption) ?_ | refine end_ret [] ?_; simp [go_sem, h0, hl2] | (fail_if_success with_reducible (refine Owe.mk ?_)); (simp (disch := omega) [go_sem, h0, hl2]))
theorem refTerm_ok (p : List Pr) (le fu : Bool) : ∀ t : Tm, t.size ≤ 1000000 → ACall Tryz.prog 36 [.list le fu (p.map ePr), eT t] (fun r => r = eT (tmP p t)) := by
  refine tm_ind fun t ih hsz => ?_
  obtain ⟨s, ts⟩ := t
  simp only [args_mk] at ih
  rw [size_eq, args_mk] at hsz
  have hlen := length_le_sizeL ts
  have hat := refatom_of p le fu s ts (by omega) fun t ht => ih t ht (by obtain ⟨i, hi, rfl⟩ := List.mem_iff_getElem.1 ht; have := size_get hi; omega)
  have him := refimage_ok p s le fu
  have hco := constant29_ok (imgS p s)
  rw [tmP_mk]
  have hl2 : (imL p ts).length = ts.length := imL_len
  have hfold : ts.map (tmP p) = imL p ts := rfl
  rw [hfold]
  generalize imgS p s = q at *
  generalize imL p ts = A at *
  by_cases h0 : ts.length = 0
  · obtain rfl := List.eq_nil_of_length_eq_zero h0
    obtain rfl := List.eq_nil_of_length_eq_zero hl2
    refine acall_of_awp Tryz.func36 Tryz.call36 rfl (by simp [Tryz.ntmps36]) ?_; simp only [Tryz.ntmps36, Tryz.results36]
    repeat' (first | (refine awK fun _ _ => ?_) | refine Hide.go (by assumption) ?_ | refine end_ret [] ?_; simp [go_sem] | refine stepK_is rfl (him) (by simp) ?_ | refine stepK_is rfl (hco) (by simp) ?_ | (fail_if_success with_reducible (refine Owe.mk ?_)); (simp (disch := omega) [go_sem]))
  · rw [if_neg h0]
    refine acall_of_awp Tryz.func36 Tryz.call36 rfl (by simp [Tryz.ntmps36]) ?_; simp only [Tryz.ntmps36, Tryz.results36]
    repeat' (first | (refine awK fun _ _ => ?_) | refine Hide.go (by assumption) ?_ | refine end_ret [] ?_; simp [go_sem, h0] | refine stepK_is rfl (hat) (by simp) ?_ | (fail_if_success with_reducible (refine Owe.mk ?_)); (simp (disch := omega) [go_sem, h0]))
theorem insT_at {t : Tm} : ∀ {o : List Tm} {k : Nat}, k ≤ o.length → (∀ (j : Nat) (h : j < o.length), j < k → cmpT o[j] t < 0) → (∀ h : k < o.length, ¬ cmpT o[k] t < 0) →
    insT t o = if ∃ h : k < o.length, cmpT o[k] t = 0 then o else o.take k ++ t :: o.drop k
  | [], k, hk, _, _ => by
    obtain rfl : k = 0 := by simpa using hk
    simp [insT]
  | u :: r, 0, _, _, h2 => by
    have h3 := h2 (by simp)
    simp only [List.getElem_cons_zero] at h3
    unfold insT
    rw [if_neg h3]
    by_cases h4 : cmpT u t = 0
    · rw [if_pos h4, if_pos ⟨by simp, h4⟩]
    · rw [if_neg h4, if_neg (by rintro ⟨_, h⟩; exact h4 h)]; simp
  | u :: r, k + 1, hk, h1, h2 => by
    have h3 := h1 0 (by simp) (by omega)
    simp only [List.getElem_cons_zero] at h3
    unfold insT
    rw [if_pos h3, insT_at (k := k) (by simpa using hk) (fun j h hj => by have := h1 (j + 1) (by simpa using h) (by omega); simpa using this) (fun h => by have := h2 (by simpa using h); simpa using this)]
    by_cases h4 : ∃ h : k < r.length, cmpT r[k] t = 0
    · rw [if_pos h4, if_pos (by obtain ⟨h, e⟩ := h4; exact ⟨by simpa using h, by simpa using e⟩)]
    · rw [if_neg h4, if_neg (by rintro ⟨h, e⟩; exact h4 ⟨by simpa using h, by simpa using e⟩)]; simp
theorem cells_take {l : List Tm} {k : Nat} {y : AV} (h : y ∈ List.take k (l.map eTm)) : y.cells.length = 2 := by
  obtain ⟨t, _, rfl⟩ := List.mem_map.1 (List.mem_of_mem_take h)
  rw [eTm_eq]; rfl
theorem cells_drop {l : List Tm} {k : Nat} {y : AV} (h : y ∈ List.drop k (l.map eTm)) : y.cells.length = 2 := by
  obtain ⟨t, _, rfl⟩ := List.mem_map.1 (List.mem_of_mem_drop h)
  rw [eTm_eq]; rfl
theorem refSort_both (l : List Tm) (le fu own : Bool) (hb : l.length ≤ 1000000) : ACall Tryz.prog 39 [.list le fu (l.map eTm)] (fun r => r = if own = true then .own 2 ((sortT l).map eTm) else .list false false ((sortT l).map eTm)) := by
  have t0 : sortT [] = [] := rfl
  have hle : ∀ i, i ≤ l.length → (sortT (l.take i)).length ≤ i := fun i => by
    induction i with
    | zero => intro _; exact Nat.le_refl _
    | succ i ih =>
      intro hi
      have := ih (by omega)
      rw [sortT_next (by omega)]
      have hins : ∀ (t : Tm) (o : List Tm), (insT t o).length ≤ o.length + 1 := fun t o => by
        induction o with
        | nil => simp [insT]
        | cons u r ih => unfold insT; split <;> (try split) <;> simp <;> omega
      have := hins l[i] (sortT (l.take i))
      omega
  generalize hR : sortT l = R
  refine acall_of_awp Tryz.func39 Tryz.call39 rfl (by simp [Tryz.ntmps39]) ?_; simp only [Tryz.ntmps39, Tryz.results39]
  repeat' (first | (refine awK fun _ _ => ?_) | refine Hide.go (by assumption) ?_ | (first | refine zqd ?_ ?_ | refine zqn ?_ ?_ | refine zgd ?_ ?_ | refine zgn ?_ ?_ | refine zdd ?_ ?_ | refine zdn ?_ ?_) <;> (intro h; first | (exfalso; omega) | (simp only [h, decide_true, decide_false, not_false_eq_true]) | skip) | refine end_ret [] ?_; simp [go_sem] | (fail_if_success with_reducible (refine Owe.mk ?_)); (simp (disch := omega) [go_sem]) | refine And.intro (by omega) ?_ | refine And.intro (And.intro (by assumption) (by omega)) ?_ | refine awp_draw 16 mix (by decide +kernel) ?_ | (refine nbI fun bq => ?_) | (first | refine zqm ?_ ?_ | refine zgm ?_ ?_ | refine zdm ?_ ?_) <;> (intro h; simp only [h, Bool.not_true, Bool.not_false]) | (first | refine zqs ?_ ?_ | refine zgs ?_ ?_ | refine zds ?_ ?_) <;> (intro h; first | (exfalso; simp at h; omega) | ((try simp only [h]); (try simp at h))))
  refine awp_for [0, 8] [900] (fun i : Nat => [(9, nt .i64 i), (3, .ref 900 0 (sortT (l.take i)).length)]) (fun i : Nat => [(900, ⟨true, false, false, 2, (sortT (l.take i)).map eTm, 0⟩)]) (fun i : Nat => l.length - i) (fun i : Nat => i ≤ l.length) (0) (by refine Le.trans ?_ (Le.nil (i := 3) (T := 900) (es := 2) rfl); exact (Le.sub4 rfl (by simp [go_sem, t0, List.map_nil]))) ⟨?_⟩ ?_
  · exact Nat.zero_le _
  intro i hi AA hAA; simp only [kL, Nat.reduceBEq, Nat.reduceEqDiff, if_true, if_false, List.cons_append, List.nil_append, List.append_nil]
  have hdi := hle i hi
  by_cases hlt : i < l.length
  · have hnx := sortT_next hlt
    have hle2 := hle (i + 1) hlt
    generalize hO : sortT (l.take i) = O at *
    have hAB := hAA
    repeat' (first | (refine awK fun _ _ => ?_) | refine Hide.go (by assumption) ?_ | (first | refine zqd ?_ ?_ | refine zqn ?_ ?_ | refine zgd ?_ ?_ | refine zgn ?_ ?_ | refine zdd ?_ ?_ | refine zdn ?_ ?_) <;> (intro h; first | (exfalso; omega) | (simp only [h, decide_true, decide_false, not_false_eq_true]) | skip) | refine end_ret [] ?_; simp [go_sem] | (fail_if_success with_reducible (refine Owe.mk ?_)); (simp (disch := omega) [go_sem]) | refine And.intro (by omega) ?_ | refine And.intro (And.intro (by assumption) (by omega)) ?_ | refine awp_draw 16 mix (by decide +kernel) ?_ | (refine nbI fun bq => ?_) | (first | refine zqm ?_ ?_ | refine zgm ?_ ?_ | refine zdm ?_ ?_) <;> (intro h; simp only [h, Bool.not_true, Bool.not_false]) | (first | refine zqs ?_ ?_ | refine zgs ?_ ?_ | refine zds ?_ ?_) <;> (intro h; first | (exfalso; simp at h; omega) | ((try simp only [h]); (try simp at h))))
    refine awp_for [0, 3, 4, 8, 9] [] (fun k : Nat => [(5, nt .i64 k)]) (fun k : Nat => []) (fun k : Nat => O.length - k) (fun k : Nat => k ≤ O.length ∧ ∀ (j : Nat) (h : j < O.length), j < k → cmpT O[j] l[i] < 0) (0) (Le.sub4 rfl (by simp [go_sem])) ⟨?_⟩ ?_
    · exact ⟨Nat.zero_le _, fun j h hj => absurd hj (Nat.not_lt_zero _)⟩
    intro k ⟨hk, hall⟩ AA hAA; simp only [kL, Nat.reduceBEq, Nat.reduceEqDiff, if_true, if_false, List.cons_append, List.nil_append, List.append_nil]
    by_cases hkl : k < O.length
    · have hu := refCompare_ok O[k] l[i]
      by_cases hq : cmpT O[k] l[i] < 0
      · obtain ⟨c, hc⟩ : ∃ c, c = cmpT O[k] l[i] := ⟨_, rfl⟩
        rw [← hc] at hu hq
        repeat' (first | (refine awK fun _ _ => ?_) | refine Hide.go (by assumption) ?_ | (first | refine zqd ?_ ?_ | refine zqn ?_ ?_ | refine zgd ?_ ?_ | refine zgn ?_ ?_ | refine zdd ?_ ?_ | refine zdn ?_ ?_) <;> (intro h; first | (exfalso; omega) | (simp only [h, decide_true, decide_false, not_false_eq_true]) | skip) | refine end_ret [] ?_; simp [go_sem, hlt, hkl, hq] | refine stepK_is rfl (hu) (by simp) ?_ | refine dstepK_is rfl (hu) rfl (by simp) ?_ | refine (hAA.next (k + 1) (Le.sub4 rfl (by simp [go_sem])) (by (try dsimp only); omega) ?_) | (fail_if_success with_reducible (refine Owe.mk ?_)); (simp (disch := omega) [go_sem, hlt, hkl, hq]) | refine And.intro (by omega) ?_ | refine And.intro (And.intro (by assumption) (by omega)) ?_ | refine awp_draw 16 mix (by decide +kernel) ?_ | (refine nbI fun bq => ?_) | (first | refine zqm ?_ ?_ | refine zgm ?_ ?_ | refine zdm ?_ ?_) <;> (intro h; simp only [h, Bool.not_true, Bool.not_false]) | (first | refine zqs ?_ ?_ | refine zgs ?_ ?_ | refine zds ?_ ?_) <;> (intro h; first | (exfalso; simp at h; omega) | ((try simp only [h]); (try simp at h))))
        all_goals (first | omega | skip)
        exact ⟨⟨hkl, fun j h hj => by
          by_cases e : j = k
          · subst e; rw [← hc]; exact hq
          · exact hall j h (by omega)⟩⟩
      · have hin := insT_at hk hall (fun _ => hq)
        by_cases hz : cmpT O[k] l[i] = 0
        · rw [if_pos ⟨hkl, hz⟩] at hin
          rw [hin] at hnx
          rw [hz] at hu
          repeat' (first | (refine awK fun _ _ => ?_) | refine Hide.go (by assumption) ?_ | (first | refine zqd ?_ ?_ | refine zqn ?_ ?_ | refine zgd ?_ ?_ | refine zgn ?_ ?_ | refine zdd ?_ ?_ | refine zdn ?_ ?_) <;> (intro h; first | (exfalso; omega) | (simp only [h, decide_true, decide_false, not_false_eq_true]) | skip) | refine end_ret [] ?_; simp [go_sem, hlt, hkl] | refine stepK_is rfl (hu) (by simp) ?_ | refine dstepK_is rfl (hu) rfl (by simp) ?_ | refine (hAB.next (i + 1) (Le.sub4 rfl (by simp [go_sem, hnx])) (by (try dsimp only); omega) ?_) | (fail_if_success with_reducible (refine Owe.mk ?_)); (simp (disch := omega) [go_sem, hlt, hkl]) | refine And.intro (by omega) ?_ | refine And.intro (And.intro (by assumption) (by omega)) ?_ | refine awp_draw 16 mix (by decide +kernel) ?_ | (refine nbI fun bq => ?_) | (first | refine zqm ?_ ?_ | refine zgm ?_ ?_ | refine zdm ?_ ?_) <;> (intro h; simp only [h, Bool.not_true, Bool.not_false]) | (first | refine zqs ?_ ?_ | refine zgs ?_ ?_ | refine zds ?_ ?_) <;> (intro h; first | (exfalso; simp at h; omega) | ((try simp only [h]); (try simp at h))))
          all_goals (first | omega | skip)
          exact ⟨hlt⟩
        · rw [if_neg (by rintro ⟨_, h⟩; exact hz h)] at hin
          rw [hin] at hnx
          generalize cmpT O[k] l[i] = c at *
          have hkn : ¬ k = O.length := by omega
          have htd : List.take (O.length - k) (List.drop k (List.map eTm O)) = List.drop k (List.map eTm O) := List.take_of_length_le (by simp)
          by_cases hk0 : k = 0
          · subst hk0
            have h0l : ¬ 0 = O.length := by omega
            have hc1 : 1 + O.length = O.length + 1 := Nat.add_comm _ _
            repeat' (first | (refine awK fun _ _ => ?_) | refine Hide.go (by assumption) ?_ | (first | refine zqd ?_ ?_ | refine zqn ?_ ?_ | refine zgd ?_ ?_ | refine zgn ?_ ?_ | refine zdd ?_ ?_ | refine zdn ?_ ?_) <;> (intro h; first | (exfalso; omega) | (simp only [h, decide_true, decide_false, not_false_eq_true]) | skip) | refine end_ret [] ?_; simp [go_sem, hlt, hkl, hq, hz, h0l] | refine stepK_is rfl (hu) (by simp) ?_ | refine dstepK_is rfl (hu) rfl (by simp) ?_ | refine (hAB.next (i + 1) (Le.renSub [(50, 900), (900, 50)] [(900, 50), (50, 900)] (by simp [go_sem, hnx, hc1]) (by simp [go_sem, hnx, hc1]) (Le.sub4 rfl (by simp [go_sem, hnx, hc1]))) (by (try dsimp only); omega) ?_) | (fail_if_success with_reducible (refine Owe.mk ?_)); (simp (disch := omega) [go_sem, hlt, hkl, hq, hz, h0l]) | refine And.intro (by omega) ?_ | refine And.intro (And.intro (by assumption) (by omega)) ?_ | refine awp_draw 16 mix (by decide +kernel) ?_ | (refine nbI fun bq => ?_) | (first | refine zqm ?_ ?_ | refine zgm ?_ ?_ | refine zdm ?_ ?_) <;> (intro h; simp only [h, Bool.not_true, Bool.not_false]) | (first | refine zqs ?_ ?_ | refine zgs ?_ ?_ | refine zds ?_ ?_) <;> (intro h; first | (exfalso; simp at h; omega) | ((try simp only [h]); (try simp at h))))
            all_goals (first | omega | skip)
            exact ⟨hlt⟩
          · have hmn : min k O.length = k := Nat.min_eq_left hk
            have hkk : k + 1 + (O.length - k) = O.length + 1 := by omega
            have hkk2 : k + (O.length - k + 1) = O.length + 1 := by omega
            repeat' (first | (refine awK fun _ _ => ?_) | refine Hide.go (by assumption) ?_ | (first | refine zqd ?_ ?_ | refine zqn ?_ ?_ | refine zgd ?_ ?_ | refine zgn ?_ ?_ | refine zdd ?_ ?_ | refine zdn ?_ ?_) <;> (intro h; first | (exfalso; omega) | (simp only [h, decide_true, decide_false, not_false_eq_true]) | skip) | refine end_ret [] ?_; simp [go_sem, hlt, hkl, hq, hz, hkn, hk0, htd] | refine stepK_is rfl (hu) (by simp) ?_ | refine dstepK_is rfl (hu) rfl (by simp) ?_ | (fail_if_success with_reducible (refine Owe.mk ?_)); (simp (disch := omega) [go_sem, hlt, hkl, hq, hz, hkn, hk0, htd]) | refine And.intro (by omega) ?_ | refine And.intro (And.intro (by assumption) (by omega)) ?_ | refine awp_draw 16 mix (by decide +kernel) ?_ | (refine nbI fun bq => ?_) | (first | refine zqm ?_ ?_ | refine zgm ?_ ?_ | refine zdm ?_ ?_) <;> (intro h; simp only [h, Bool.not_true, Bool.not_false]) | (first | refine zqs ?_ ?_ | refine zgs ?_ ?_ | refine zds ?_ ?_) <;> (intro h; first | (exfalso; simp at h; omega) | ((try simp only [h]); (try simp at h))))
            refine ⟨⟨fun y hy => cells_take hy, by omega⟩, ?_⟩
            repeat' (first | (refine awK fun _ _ => ?_) | refine Hide.go (by assumption) ?_ | (first | refine zqd ?_ ?_ | refine zqn ?_ ?_ | refine zgd ?_ ?_ | refine zgn ?_ ?_ | refine zdd ?_ ?_ | refine zdn ?_ ?_) <;> (intro h; first | (exfalso; omega) | (simp only [h, decide_true, decide_false, not_false_eq_true]) | skip) | refine end_ret [] ?_; simp [go_sem, hlt, hkl, hq, hz, hkn, hk0, htd, hmn] | refine stepK_is rfl (hu) (by simp) ?_ | refine dstepK_is rfl (hu) rfl (by simp) ?_ | (fail_if_success with_reducible (refine Owe.mk ?_)); (simp (disch := omega) [go_sem, hlt, hkl, hq, hz, hkn, hk0, htd, hmn]) | refine And.intro (by omega) ?_ | refine And.intro (And.intro (by assumption) (by omega)) ?_ | refine awp_draw 16 mix (by decide +kernel) ?_ | (refine nbI fun bq => ?_) | (first | refine zqm ?_ ?_ | refine zgm ?_ ?_ | refine zdm ?_ ?_) <;> (intro h; simp only [h, Bool.not_true, Bool.not_false]) | (first | refine zqs ?_ ?_ | refine zgs ?_ ?_ | refine zds ?_ ?_) <;> (intro h; first | (exfalso; simp at h; omega) | ((try simp only [h]); (try simp at h))))
            all_goals (first | omega | skip)
            refine ⟨⟨fun y hy => cells_drop hy, by omega⟩, ?_⟩
            repeat' (first | (refine awK fun _ _ => ?_) | refine Hide.go (by assumption) ?_ | (first | refine zqd ?_ ?_ | refine zqn ?_ ?_ | refine zgd ?_ ?_ | refine zgn ?_ ?_ | refine zdd ?_ ?_ | refine zdn ?_ ?_) <;> (intro h; first | (exfalso; omega) | (simp only [h, decide_true, decide_false, not_false_eq_true]) | skip) | refine end_ret [] ?_; simp [go_sem, hlt, hkl, hq, hz, hkn, hk0, htd, hmn] | refine stepK_is rfl (hu) (by simp) ?_ | refine dstepK_is rfl (hu) rfl (by simp) ?_ | refine (hAB.next (i + 1) (Le.renSub [(50, 900), (900, 50)] [(900, 50), (50, 900)] (by simp [go_sem, hnx, hmn, hkk, hkk2]) (by simp [go_sem, hnx, hmn, hkk, hkk2]) (Le.sub4 rfl (by simp [go_sem, hnx, hmn, hkk, hkk2]))) (by (try dsimp only); omega) ?_) | (fail_if_success with_reducible (refine Owe.mk ?_)); (simp (disch := omega) [go_sem, hlt, hkl, hq, hz, hkn, hk0, htd, hmn]) | refine And.intro (by omega) ?_ | refine And.intro (And.intro (by assumption) (by omega)) ?_ | refine awp_draw 16 mix (by decide +kernel) ?_ | (refine nbI fun bq => ?_) | (first | refine zqm ?_ ?_ | refine zgm ?_ ?_ | refine zdm ?_ ?_) <;> (intro h; simp only [h, Bool.not_true, Bool.not_false]) | (first | refine zqs ?_ ?_ | refine zgs ?_ ?_ | refine zds ?_ ?_) <;> (intro h; first | (exfalso; simp at h; omega) | ((try simp only [h]); (try simp at h))))
            all_goals (first | omega | skip)
            exact ⟨hlt⟩
    · obtain rfl : k = O.length := by omega
      have hin := insT_at (Nat.le_refl _) hall (fun h => absurd h (Nat.lt_irrefl _))
      rw [if_neg (by rintro ⟨h, _⟩; exact Nat.lt_irrefl _ h)] at hin
      rw [hin] at hnx
      by_cases h0 : O = []
      · subst h0
        simp only [List.take_nil, List.drop_nil, List.nil_append, List.length_nil] at *
        repeat' (first | (refine awK fun _ _ => ?_) | refine Hide.go (by assumption) ?_ | (first | refine zqd ?_ ?_ | refine zqn ?_ ?_ | refine zgd ?_ ?_ | refine zgn ?_ ?_ | refine zdd ?_ ?_ | refine zdn ?_ ?_) <;> (intro h; first | (exfalso; omega) | (simp only [h, decide_true, decide_false, not_false_eq_true]) | skip) | refine end_ret [] ?_; simp [go_sem, hlt] | refine (hAB.next (i + 1) (Le.renSub [(50, 900), (900, 50)] [(900, 50), (50, 900)] (by simp [go_sem, hnx]) (by simp [go_sem, hnx]) (Le.sub4 rfl (by simp [go_sem, hnx]))) (by (try dsimp only); omega) ?_) | (fail_if_success with_reducible (refine Owe.mk ?_)); (simp (disch := omega) [go_sem, hlt]) | refine And.intro (by omega) ?_ | refine And.intro (And.intro (by assumption) (by omega)) ?_ | refine awp_draw 16 mix (by decide +kernel) ?_ | (refine nbI fun bq => ?_) | (first | refine zqm ?_ ?_ | refine zgm ?_ ?_ | refine zdm ?_ ?_) <;> (intro h; simp only [h, Bool.not_true, Bool.not_false]) | (first | refine zqs ?_ ?_ | refine zgs ?_ ?_ | refine zds ?_ ?_) <;> (intro h; first | (exfalso; simp at h; omega) | ((try simp only [h]); (try simp at h))))
        all_goals (first | omega | skip)
        exact ⟨hlt⟩
      · have h0l : ¬ O.length = 0 := fun h => h0 (List.eq_nil_of_length_eq_zero h)
        rw [List.take_length, List.drop_length] at hnx
        repeat' (first | (refine awK fun _ _ => ?_) | refine Hide.go (by assumption) ?_ | (first | refine zqd ?_ ?_ | refine zqn ?_ ?_ | refine zgd ?_ ?_ | refine zgn ?_ ?_ | refine zdd ?_ ?_ | refine zdn ?_ ?_) <;> (intro h; first | (exfalso; omega) | (simp only [h, decide_true, decide_false, not_false_eq_true]) | skip) | refine end_ret [] ?_; simp [go_sem, hlt, hkl, h0, h0l] | refine (hAB.next (i + 1) (Le.renSub [(50, 900), (900, 50)] [(900, 50), (50, 900)] (by simp [go_sem, hnx]) (by simp [go_sem, hnx]) (Le.sub4 rfl (by simp [go_sem, hnx]))) (by (try dsimp only); omega) ?_) | (fail_if_success with_reducible (refine Owe.mk ?_)); (simp (disch := omega) [go_sem, hlt, hkl, h0, h0l]) | refine And.intro (by omega) ?_ | refine And.intro (And.intro (by assumption) (by omega)) ?_ | refine awp_draw 16 mix (by decide +kernel) ?_ | (refine nbI fun bq => ?_) | (first | refine zqm ?_ ?_ | refine zgm ?_ ?_ | refine zdm ?_ ?_) <;> (intro h; simp only [h, Bool.not_true, Bool.not_false]) | (first | refine zqs ?_ ?_ | refine zgs ?_ ?_ | refine zds ?_ ?_) <;> (intro h; first | (exfalso; simp at h; omega) | ((try simp only [h]); (try simp at h))))
        all_goals (first | omega | skip)
        exact ⟨hlt⟩
  · obtain rfl : i = l.length := by omega
    rw [List.take_length, hR]
    cases own
    · simp only [Bool.false_eq_true, if_false]
      repeat' (first | (refine awK fun _ _ => ?_) | refine Hide.go (by assumption) ?_ | (first | refine zqd ?_ ?_ | refine zqn ?_ ?_ | refine zgd ?_ ?_ | refine zgn ?_ ?_ | refine zdd ?_ ?_ | refine zdn ?_ ?_) <;> (intro h; first | (exfalso; omega) | (simp only [h, decide_true, decide_false, not_false_eq_true]) | skip) | refine end_ret [900] ?_; simp [go_sem] | (fail_if_success with_reducible (refine Owe.mk ?_)); (simp (disch := omega) [go_sem]) | refine And.intro (by omega) ?_ | refine And.intro (And.intro (by assumption) (by omega)) ?_ | refine awp_draw 16 mix (by decide +kernel) ?_ | (refine nbI fun bq => ?_) | (first | refine zqm ?_ ?_ | refine zgm ?_ ?_ | refine zdm ?_ ?_) <;> (intro h; simp only [h, Bool.not_true, Bool.not_false]) | (first | refine zqs ?_ ?_ | refine zgs ?_ ?_ | refine zds ?_ ?_) <;> (intro h; first | (exfalso; simp at h; omega) | ((try simp only [h]); (try simp at h))))
    · simp only [if_true]
      repeat' (first | (refine awK fun _ _ => ?_) | refine Hide.go (by assumption) ?_ | (first | refine zqd ?_ ?_ | refine zqn ?_ ?_ | refine zgd ?_ ?_ | refine zgn ?_ ?_ | refine zdd ?_ ?_ | refine zdn ?_ ?_) <;> (intro h; first | (exfalso; omega) | (simp only [h, decide_true, decide_false, not_false_eq_true]) | skip) | refine end_ret [] ?_; simp [go_sem] | (fail_if_success with_reducible (refine Owe.mk ?_)); (simp (disch := omega) [go_sem]) | refine And.intro (by omega) ?_ | refine And.intro (And.intro (by assumption) (by omega)) ?_ | refine awp_draw 16 mix (by decide +kernel) ?_ | (refine nbI fun bq => ?_) | (first | refine zqm ?_ ?_ | refine zgm ?_ ?_ | refine zdm ?_ ?_) <;> (intro h; simp only [h, Bool.not_true, Bool.not_false]) | (first | refine zqs ?_ ?_ | refine zgs ?_ ?_ | refine zds ?_ ?_) <;> (intro h; first | (exfalso; simp at h; omega) | ((try simp only [h]); (try simp at h))))
theorem refSort_ok (l : List Tm) (le fu : Bool) (hb : l.length ≤ 1000000) : ACall Tryz.prog 39 [.list le fu (l.map eTm)] (fun r => r = .own 2 ((sortT l).map eTm)) := refSort_both l le fu true hb
theorem refSortF_ok (l : List Tm) (le fu : Bool) (hb : l.length ≤ 1000000) : ACall Tryz.prog 39 [.list le fu (l.map eTm)] (fun r => r = .list false false ((sortT l).map eTm)) := refSort_both l le fu false hb
theorem refState_ok (p : List Pr) (l : List Tm) (le fu lm fm : Bool) (hb : l.length ≤ 1000000) (hz : ∀ t ∈ l, t.size ≤ 1000000) : ACall Tryz.prog 15 [.list le fu (p.map ePr), .list lm fm (l.map eTm)] (fun r => r = .own 2 ((stF p l).map eTm)) := by
  have hso := fun le fu => refSort_ok (imL p l) le fu (by rw [imL_len]; exact hb)
  have hfold : sortT (imL p l) = stF p l := rfl
  rw [hfold] at hso
  refine acall_of_awp Tryz.func15 Tryz.call15 rfl (by simp [Tryz.ntmps15]) ?_; simp only [Tryz.ntmps15, Tryz.results15]
  repeat' (first | (refine awK fun _ _ => ?_) | refine Hide.go (by assumption) ?_ | (fail_if_success with_reducible (refine Owe.mk ?_)); (simp (disch := omega) [go_sem]))
  refine awp_for [0, 1] [900] (fun i : Nat => [(6, nt .i64 i), (5, .ref 900 0 (imL p (l.take i)).length)]) (fun i : Nat => [(900, ⟨true, false, false, 2, (imL p (l.take i)).map eTm, 0⟩)]) (fun i : Nat => l.length - i) (fun i : Nat => i ≤ l.length) (0) (by refine Le.trans ?_ (Le.nil (i := 5) (T := 900) (es := 2) rfl); exact (Le.sub4 rfl (by simp [go_sem, imL_nil, List.take_zero, List.map_nil]))) ⟨?_⟩ ?_
  · exact Nat.zero_le _
  intro i hi AA hAA; simp only [kL, Nat.reduceBEq, Nat.reduceEqDiff, if_true, if_false, List.cons_append, List.nil_append, List.append_nil]
  by_cases hlt : i < l.length
  · have hu := refTerm_ok p le fu l[i] (hz _ (List.getElem_mem hlt))
    have hnx := imL_next (p := p) hlt
    have hln : (imL p (l.take i)).length = i := by rw [imL_len, List.length_take]; omega
    generalize imL p (l.take i) = A at *
    generalize tmP p l[i] = x at *
    repeat' (first | (refine awK fun _ _ => ?_) | refine Hide.go (by assumption) ?_ | refine stepK_is rfl (hu) (by simp) ?_ | refine (hAA.next (i + 1) (Le.sub4 rfl (by simp [go_sem, hnx, hln])) (by (try dsimp only); omega) ?_) | (fail_if_success with_reducible (refine Owe.mk ?_)); (simp (disch := omega) [go_sem, hlt, hln]) | refine And.intro (by omega) ?_)
    all_goals (first | omega | skip)
    exact ⟨hlt⟩
  · obtain rfl : i = l.length := by omega
    rw [List.take_length]
    have hso := hso true false
    generalize imL p l = A at *
    generalize stF p l = B at *
    have hlenT : True := trivial
    repeat' (first | (refine awK fun _ _ => ?_) | refine Hide.go (by assumption) ?_ | refine end_ret [] ?_; simp [go_sem, hlenT] | refine stepK_is ?hl (hso) (by simp) ?_; (case hl => (simp [go_sem, hlenT]; done)) | (fail_if_success with_reducible (refine Owe.mk ?_)); (simp (disch := omega) [go_sem, hlenT]))
theorem stF_one (s : List Tm) : stF [] s = sortT s := by
  have h : ∀ t : Tm, tmP [] t = t := by
    refine tm_ind fun t ih => ?_
    obtain ⟨n, ts⟩ := t
    rw [tmP_mk]
    have : ts.map (tmP []) = ts := by
      simp only [args_mk] at ih
      exact (List.map_congr_left (g := id) fun x hx => ih x hx).trans (List.map_id _)
    rw [this]
    have : imgS [] n = n := rfl
    rw [this]
    simp
  unfold stF imL
  rw [(List.map_congr_left (g := id) fun x _ => h x).trans (List.map_id _)]
theorem equal_ok (a b : Tm) : ACall Tryz.prog 61 [eT a, eT b] (fun r => r = bl (decide (cmpT a b = 0))) := by
  have hc := Compare_ok a b
  generalize cmpT a b = c at *
  refine acall_of_awp Tryz.func61 Tryz.call61 rfl (by simp [Tryz.ntmps61]) ?_; simp only [Tryz.ntmps61, Tryz.results61]
  repeat' (first | (refine awK fun _ _ => ?_) | refine Hide.go (by assumption) ?_ | refine end_ret [] ?_; simp [go_sem] | refine stepK_is rfl (hc) (by simp) ?_ | (fail_if_success with_reducible (refine Owe.mk ?_)); (simp (disch := omega) [go_sem]))
theorem Fixing11_ok (p : List Pr) (t : Tm) (hz : t.size ≤ 1000000) : ACall Tryz.prog 60 [eT t, .iptr true [eG p] 0 0] (fun r => r = bl (!decide (cmpT (tmP p t) t = 0))) := by
  have h1 := Term_ok p false false t hz
  have h2 := equal_ok (tmP p t) t
  generalize decide (cmpT (tmP p t) t = 0) = b at *
  generalize tmP p t = u at *
  refine acall_of_awp Tryz.func60 Tryz.call60 rfl (by simp [Tryz.ntmps60]) ?_; simp only [Tryz.ntmps60, Tryz.results60]
  repeat' (first | (refine awK fun _ _ => ?_) | refine Hide.go (by assumption) ?_ | refine end_ret [] ?_; simp [go_sem, eG] | refine dstepK_is rfl (h1) rfl (by simp) ?_ | refine dstepK_is rfl (h2) rfl (by simp) ?_ | (fail_if_success with_reducible (refine Owe.mk ?_)); (simp (disch := omega) [go_sem, eG]) | refine awp_draw 7 mix (by decide +kernel) ?_)
theorem IdxFix_ok (l : List Tm) (le fu : Bool) (p : List Pr) (cf : Tm → Bool) (hcl : ∀ x ∈ l, ACall Tryz.prog 60 [eTm x, .iptr true [eG p] 0 0] (fun r => r = bl (cf x))) : ACall Tryz.prog 69 [.list le fu (l.map eTm), .clo 60 [.iptr true [eG p] 0 0]] (fun r => r = nt .i64 (idxB cf l)) := by
  refine ACall.bound (i := 0) rfl Tryz.call69 fun hb => ?_
  rw [List.length_map] at hb
  have hb : l.length ≤ 140737488355328 := hb
  generalize hR : idxB cf l = R
  refine acall_of_awp Tryz.func69 Tryz.call69 rfl (by simp [Tryz.ntmps69]) ?_; simp only [Tryz.ntmps69, Tryz.results69]
  repeat' (first | (refine awK fun _ _ => ?_) | refine Hide.go (by assumption) ?_ | (fail_if_success with_reducible (refine Owe.mk ?_)); (simp (disch := omega) [go_sem]))
  refine awp_for [0, 1, 7] [] (fun i : Nat => [(8, nt .i64 i)]) (fun i : Nat => []) (fun i : Nat => l.length - i) (fun i : Nat => i ≤ l.length ∧ ∀ (k : Nat) (hk : k < l.length), k < i → cf l[k] = false) (0) (Le.sub4 rfl (by simp [go_sem])) ⟨?_⟩ ?_
  · exact ⟨Nat.zero_le _, fun k _ hk => absurd hk (Nat.not_lt_zero _)⟩
  intro i ⟨hi, hn⟩ AA hAA; simp only [kL, Nat.reduceBEq, Nat.reduceEqDiff, if_true, if_false, List.cons_append, List.nil_append, List.append_nil]
  by_cases hlt : i < l.length
  · have hu := hcl l[i] (List.getElem_mem hlt)
    rw [eTm_eq] at hu
    cases hq : cf l[i]
    · rw [hq] at hu
      repeat' (first | (refine awK fun _ _ => ?_) | refine Hide.go (by assumption) ?_ | refine stepK_is rfl (hu) (by simp) ?_ | refine (hAA.next (i + 1) (Le.sub4 rfl (by simp [go_sem])) (by (try dsimp only); omega) ?_) | (fail_if_success with_reducible (refine Owe.mk ?_)); (simp (disch := omega) [go_sem, hlt]))
      all_goals (first | omega | skip)
      exact ⟨hlt, fun k hk hki => by rcases Nat.lt_or_eq_of_le (Nat.le_of_lt_succ hki) with h | rfl; exact hn k hk h; exact hq⟩
    · have he := idxB_at hlt hq hn
      rw [hR] at he
      subst he
      rw [hq] at hu
      repeat' (first | (refine awK fun _ _ => ?_) | refine Hide.go (by assumption) ?_ | refine end_ret [] ?_; simp [go_sem, hlt] | refine stepK_is rfl (hu) (by simp) ?_ | (fail_if_success with_reducible (refine Owe.mk ?_)); (simp (disch := omega) [go_sem, hlt]))
  · obtain rfl : i = l.length := by omega
    have he := idxB_none hn
    rw [hR] at he
    subst he
    repeat' (first | (refine awK fun _ _ => ?_) | refine Hide.go (by assumption) ?_ | refine end_ret [] ?_; simp [go_sem] | (fail_if_success with_reducible (refine Owe.mk ?_)); (simp (disch := omega) [go_sem]))
theorem ConFix_ok (l : List Tm) (le fu : Bool) (p : List Pr) (cf : Tm → Bool) (hcl : ∀ x ∈ l, ACall Tryz.prog 60 [eTm x, .iptr true [eG p] 0 0] (fun r => r = bl (cf x))) : ACall Tryz.prog 59 [.list le fu (l.map eTm), .clo 60 [.iptr true [eG p] 0 0]] (fun r => r = bl (l.any cf)) := by
  have h := IdxFix_ok l le fu p cf hcl
  have e := idxB_any (cf := cf) (l := l)
  generalize idxB cf l = x at *
  generalize l.any cf = b at *
  refine acall_of_awp Tryz.func59 Tryz.call59 rfl (by simp [Tryz.ntmps59]) ?_; simp only [Tryz.ntmps59, Tryz.results59]
  cases b
  · have e : ¬ 0 ≤ x := fun h => by have := e.1 h; cases this
    repeat' (first | (refine awK fun _ _ => ?_) | refine Hide.go (by assumption) ?_ | refine end_ret [] ?_; simp [go_sem, e] | refine stepK_is rfl (h) (by simp) ?_ | (fail_if_success with_reducible (refine Owe.mk ?_)); (simp (disch := omega) [go_sem, e]))
  · have e : 0 ≤ x := e.2 rfl
    repeat' (first | (refine awK fun _ _ => ?_) | refine Hide.go (by assumption) ?_ | refine end_ret [] ?_; simp [go_sem, e] | refine stepK_is rfl (h) (by simp) ?_ | (fail_if_success with_reducible (refine Owe.mk ?_)); (simp (disch := omega) [go_sem, e]))
def fixB (l : List Tm) (p : List Pr) : Bool := !l.any fun t => !decide (cmpT (tmP p t) t = 0)
theorem Fixing1_ok (p : List Pr) (l : List Tm) (le fu : Bool) (hz : ∀ t ∈ l, t.size ≤ 1000000) : ACall Tryz.prog 58 [eG p, .iptr true [.list le fu (l.map eTm)] 0 0] (fun r => r = bl (fixB l p)) := by
  have h := ConFix_ok l le fu p (fun t => !decide (cmpT (tmP p t) t = 0)) (fun x hx => by rw [eTm_eq]; exact Fixing11_ok p x (hz x hx))
  unfold fixB
  generalize (l.any fun t => !decide (cmpT (tmP p t) t = 0)) = b at *
  refine acall_of_awp Tryz.func58 Tryz.call58 rfl (by simp [Tryz.ntmps58]) ?_; simp only [Tryz.ntmps58, Tryz.results58]
  repeat' (first | (refine awK fun _ _ => ?_) | refine Hide.go (by assumption) ?_ | refine end_ret [] ?_; simp [go_sem, eG] | refine stepK_is rfl (h) (by simp) ?_ | (fail_if_success with_reducible (refine Owe.mk ?_)); (simp (disch := omega) [go_sem, eG]))
theorem filterFix_ok (g : List (List Pr)) (le fu : Bool) (hb : g.length ≤ 1000000) (l : List Tm) (fm : Bool) (cf : List Pr → Bool) (hcl : ∀ x ∈ g, ACall Tryz.prog 58 [eG x, .iptr true [.list false fm (l.map eTm)] 0 0] (fun r => r = bl (cf x))) : ACall Tryz.prog 56 [.list le fu (g.map eG), .clo 58 [.iptr true [.list false fm (l.map eTm)] 0 0]] (fun r => r = .own 1 ((g.filter cf).map eG)) := by
  have hz : (g.take 0).filter cf = [] := by simp
  refine acall_of_awp Tryz.func56 Tryz.call56 rfl (by simp [Tryz.ntmps56]) ?_; simp only [Tryz.ntmps56, Tryz.results56]
  repeat' (first | (refine awK fun _ _ => ?_) | refine Hide.go (by assumption) ?_ | (fail_if_success with_reducible (refine Owe.mk ?_)); (simp (disch := omega) [go_sem]))
  refine awp_for [1, 8, 9] [900] (fun i : Nat => [(10, nt .i64 i), (5, .ref 900 0 ((g.take i).filter cf).length)]) (fun i : Nat => [(900, ⟨true, false, false, 1, ((g.take i).filter cf).map eG, 0⟩)]) (fun i : Nat => g.length - i) (fun i : Nat => i ≤ g.length) (0) (by refine Le.trans ?_ (Le.nil (i := 5) (T := 900) (es := 1) rfl); exact (Le.sub4 rfl (by simp [go_sem, hz, List.take_zero, List.map_nil, List.filter_nil]))) ⟨?_⟩ ?_
  · exact Nat.zero_le _
  intro i hi AA hAA; simp only [kL, Nat.reduceBEq, Nat.reduceEqDiff, if_true, if_false, List.cons_append, List.nil_append, List.append_nil]
  by_cases hlt : i < g.length
  · have hu := hcl g[i] (List.getElem_mem hlt)
    have hnx := flt_next (cf := cf) hlt
    have hle : ((g.take i).filter cf).length ≤ i := Nat.le_trans (List.length_filter_le _ _) (by simp; omega)
    generalize (g.take i).filter cf = A at *
    cases hc : cf g[i]
    · rw [hc] at hu hnx
      simp only [Bool.false_eq_true, if_false, List.append_nil] at hnx
      repeat' (first | (refine awK fun _ _ => ?_) | refine Hide.go (by assumption) ?_ | refine stepK_is rfl (hu) (by simp) ?_ | refine (hAA.next (i + 1) (Le.sub4 rfl (by simp [go_sem, hnx])) (by (try dsimp only); omega) ?_) | (fail_if_success with_reducible (refine Owe.mk ?_)); (simp (disch := omega) [go_sem, hlt, eG]))
      all_goals (first | omega | skip)
      exact ⟨hlt⟩
    · rw [hc] at hu hnx
      simp only [if_true] at hnx
      repeat' (first | (refine awK fun _ _ => ?_) | refine Hide.go (by assumption) ?_ | refine stepK_is rfl (hu) (by simp) ?_ | refine (hAA.next (i + 1) (Le.sub4 rfl (by simp [go_sem, hnx, eG])) (by (try dsimp only); omega) ?_) | (fail_if_success with_reducible (refine Owe.mk ?_)); (simp (disch := omega) [go_sem, hlt, eG]) | refine And.intro (by omega) ?_)
      all_goals (first | omega | skip)
      exact ⟨hlt⟩
  · obtain rfl : i = g.length := by omega
    rw [List.take_length]
    repeat' (first | (refine awK fun _ _ => ?_) | refine Hide.go (by assumption) ?_ | refine end_ret [] ?_; simp [go_sem] | (fail_if_success with_reducible (refine Owe.mk ?_)); (simp (disch := omega) [go_sem]))
theorem Fixing_ok (g : List (List Pr)) (l : List Tm) (le fu fm : Bool) (hb : g.length ≤ 1000000) (hg : ∀ p ∈ g, p.length ≤ 1000000) (hz : ∀ t ∈ l, t.size ≤ 1000000) :
    ACall Tryz.prog 27 [.list le fu (g.map eG), .list false fm (l.map eTm)] (fun r => r = .own 1 ((g.filter (fixB l)).map eG)) := by
  have h1 := filterFix_ok g le fu hb l fm (fixB l) (fun x _ => Fixing1_ok x l false fm hz)
  have hsub : ∀ p ∈ g.filter (fixB l), p ∈ g := fun p hp => (List.mem_filter.1 hp).1
  have hle := List.length_filter_le (fixB l) g
  have h2 := copies_ok (g.filter (fixB l)) true false (by omega) (fun p hp => hg p (hsub p hp))
  generalize g.filter (fixB l) = F at *
  have hlenT : True := trivial
  refine acall_of_awp Tryz.func27 Tryz.call27 rfl (by simp [Tryz.ntmps27]) ?_; simp only [Tryz.ntmps27, Tryz.results27]
  repeat' (first | (refine awK fun _ _ => ?_) | refine Hide.go (by assumption) ?_ | refine end_ret [] ?_; simp [go_sem, hlenT] | refine stepK_is rfl (h1) (by simp) ?_ | refine stepK_is ?hl (h2) (by simp) ?_; (case hl => (simp [go_sem, hlenT]; done)) | (fail_if_success with_reducible (refine Owe.mk ?_)); (simp (disch := omega) [go_sem, hlenT]))
end Go.Proofs.YtmadpbpmcbdboaaGreat
