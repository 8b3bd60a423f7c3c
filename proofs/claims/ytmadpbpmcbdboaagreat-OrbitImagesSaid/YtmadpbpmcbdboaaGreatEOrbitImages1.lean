import Derived.Test.YtmadpbpmcbdboaaGreatS1
import Derived.Test.YtmadpbpmcbdboaaGreatA5
import Derived.Test.YtmadpbpmcbdboaaGreatS2
import Derived.Test.YtmadpbpmcbdboaaGreatS3
import Derived.Test.YtmadpbpmcbdboaaGreatA8
import Derived.Test.YtmadpbpmcbdboaaGreatS5
import Derived.Test.YtmadpbpmcbdboaaGreatS8
import Derived.Test.YtmadpbpmcbdboaaGreatS10
import Derived.Test.YtmadpbpmcbdboaaGreatS6
set_option linter.unusedSimpArgs false
set_option linter.unusedVariables false
namespace Go.Proofs.YtmadpbpmcbdboaaGreat
open Go.Ab
namespace Tm
end Tm
theorem depth_eq (t : Tm) : t.depth = depthL t.args + 1 := by cases t; rfl
open Go.Ab
set_option maxRecDepth 100000
set_option maxHeartbeats 4000000
mutual
def partsT (m : Int) : Int → Tm → Int
  | lv, .mk _ ts => if lv < 1 then m + 1 else partsL m (lv - 1) 1 ts
def partsL (m : Int) : Int → Int → List Tm → Int
  | _, n, [] => n
  | lv, n, t :: r => if n > m then n else partsL m lv (n + partsT m lv t) r
end
theorem parts_eq {m lv : Int} {t : Tm} : partsT m lv t = if lv < 1 then m + 1 else partsL m (lv - 1) 1 t.args := by cases t; rfl
theorem partsL_ge {m : Int} (hm : 0 ≤ m) : ∀ (t : Tm) (lv : Int), 1 ≤ partsT m lv t := by
  refine tm_ind fun t ih lv => ?_
  rw [parts_eq]
  split
  · omega
  · have key : ∀ (r : List Tm), (∀ u ∈ r, ∀ lv, 1 ≤ partsT m lv u) → ∀ n, 1 ≤ n → 1 ≤ partsL m (lv - 1) n r := by
      intro r
      induction r with
      | nil => intro _ n hn; simpa [partsL] using hn
      | cons u r ihr =>
        intro h n hn
        simp only [partsL]
        split
        · exact hn
        · have := h u (by simp) (lv - 1)
          exact ihr (fun v hv => h v (by simp [hv])) _ (by omega)
    exact key t.args ih 1 (by omega)
theorem parts_le {m : Int} (hm : 0 ≤ m) : ∀ (k : Nat) (t : Tm) (lv : Int), lv ≤ k → partsT m lv t ≤ (k + 1) * (m + 1) := by
  intro k
  induction k with
  | zero =>
    intro t lv h
    rw [parts_eq, if_pos (by omega)]
    simp
  | succ k ih =>
    intro t lv h
    rw [parts_eq]
    have e : ((k + 1 : Nat) + 1 : Int) * (m + 1) = ((k : Int) + 1) * (m + 1) + (m + 1) := by
      rw [show ((k + 1 : Nat) + 1 : Int) = ((k : Int) + 1) + 1 by omega, Int.add_mul, Int.one_mul]
    have hp : 0 ≤ ((k : Int) + 1) * (m + 1) := Int.mul_nonneg (by omega) (by omega)
    split
    · omega
    · have key : ∀ (r : List Tm) (n : Int), n ≤ ((k : Int) + 1) * (m + 1) + m + 1 → partsL m (lv - 1) n r ≤ ((k : Int) + 1) * (m + 1) + m + 1 := by
        intro r
        induction r with
        | nil => intro n hn; simpa [partsL] using hn
        | cons u r ihr =>
          intro n hn
          simp only [partsL]
          split
          · exact hn
          · have := ih u (lv - 1) (by omega)
            exact ihr _ (by omega)
      have h1 : 1 ≤ ((k : Int) + 1) * (m + 1) + m + 1 := by omega
      have := key t.args 1 h1
      omega
theorem parts_size {m : Int} (hm : 0 ≤ m) : ∀ (t : Tm) (lv : Int), partsT m lv t ≤ m → (partsT m lv t = t.size ∧ (t.depth : Int) ≤ lv) := by
  refine tm_ind fun t ih lv h => ?_
  rw [parts_eq] at *
  split at h
  · omega
  · rename_i hl
    rw [if_neg hl]
    have key : ∀ (r : List Tm), (∀ u ∈ r, u ∈ t.args) → ∀ n, 1 ≤ n → partsL m (lv - 1) n r ≤ m → partsL m (lv - 1) n r = n + sizeL r ∧ (depthL r : Int) ≤ lv - 1 := by
      intro r
      induction r with
      | nil => intro _ n hn _; simp [partsL, sizeL, depthL]; omega
      | cons u r ihr =>
        intro hr n hn hp
        simp only [partsL] at *
        split at hp
        · omega
        · rename_i hc
          rw [if_neg hc]
          have g := partsL_ge hm u (lv - 1)
          have hmono : ∀ (r : List Tm) (n : Int), n ≤ partsL m (lv - 1) n r := by
            intro r
            induction r with
            | nil => intro n; simp [partsL]
            | cons u r ihr =>
              intro n
              simp only [partsL]
              split
              · omega
              · have g := partsL_ge hm u (lv - 1)
                have := ihr (n + partsT m (lv - 1) u)
                omega
          have h2 := hmono r (n + partsT m (lv - 1) u)
          obtain ⟨a1, a2⟩ := ih u (hr u (by simp)) (lv - 1) (by omega)
          obtain ⟨b1, b2⟩ := ihr (fun v hv => hr v (by simp [hv])) (n + partsT m (lv - 1) u) (by omega) hp
          simp only [sizeL, depthL]
          omega
    obtain ⟨a1, a2⟩ := key t.args (fun u hu => hu) 1 (by omega) h
    rw [size_eq, depth_eq]
    omega
def smallT (m : Int) (t : Tm) : Bool := decide (partsT m m t ≤ m)
theorem smallT_size {m : Int} (hm : 0 ≤ m) {t : Tm} (h : smallT m t = true) : (t.size : Int) ≤ m := by
  have := of_decide_eq_true h
  have := (parts_size hm t m this).1
  omega
theorem parts_bd {m : Int} (hm : 0 ≤ m ∧ m ≤ 10000) (t : Tm) {lv : Int} (h : lv ≤ 10000) : 1 ≤ partsT m lv t ∧ partsT m lv t ≤ 100020001 := by
  refine ⟨partsL_ge hm.1 t lv, ?_⟩
  have h1 := parts_le hm.1 10000 t lv h
  omega
theorem parts_ok (m : Int) (hm : 0 ≤ m ∧ m ≤ 10000) : ∀ (t : Tm) (lv : Int), lv ≤ 10000 → -10000 ≤ lv → ACall Tryz.prog 65 [eT t, nt .i64 m, nt .i64 lv] (fun r => r = nt .i64 (partsT m lv t)) := by
  refine tm_ind fun t ih lv hlv hlv2 => ?_
  obtain ⟨s, ts⟩ := t
  rw [parts_eq]
  simp only [args_mk] at *
  by_cases hl : lv < 1
  · rw [if_pos hl]
    refine acall_of_awp Tryz.func65 Tryz.call65 rfl (by simp [Tryz.ntmps65]) ?_; simp only [Tryz.ntmps65, Tryz.results65]
    repeat' (first | (refine awK fun _ _ => ?_) | refine Hide.go (by assumption) ?_ | refine zqd ?_ ?_ <;> (intro h; first | (exfalso; omega) | (simp only [h, decide_true, decide_false, not_false_eq_true])) | refine end_ret [] ?_; simp [go_sem] | (fail_if_success with_reducible (refine Owe.mk ?_)); (simp (disch := omega) [go_sem]))
  · rw [if_neg hl]
    generalize hR : partsL m (lv - 1) 1 ts = R
    refine acall_of_awp Tryz.func65 Tryz.call65 rfl (by simp [Tryz.ntmps65]) ?_; simp only [Tryz.ntmps65, Tryz.results65]
    repeat' (first | (refine awK fun _ _ => ?_) | refine Hide.go (by assumption) ?_ | refine zqd ?_ ?_ <;> (intro h; first | (exfalso; omega) | (simp only [h, decide_true, decide_false, not_false_eq_true])) | (fail_if_success with_reducible (refine Owe.mk ?_)); (simp (disch := omega) [go_sem]))
    refine awp_for [1, 2, 3, 15] [] (fun x : Nat × Int => [(16, nt .i64 x.1), (7, nt .i64 x.2)]) (fun x : Nat × Int => []) (fun x : Nat × Int => ts.length - x.1) (fun x : Nat × Int => x.1 ≤ ts.length ∧ 1 + (x.1 : Int) ≤ x.2 ∧ x.2 ≤ 100040001 ∧ (x.1 < ts.length → x.1 ≤ 10000 ∨ x.2 > m) ∧ partsL m (lv - 1) x.2 (ts.drop x.1) = R) ((0, 1)) (Le.sub4 rfl (by simp [go_sem])) ⟨?_⟩ ?_
    · exact ⟨Nat.zero_le _, by simp, by simp, by simp, by simpa using hR⟩
    intro ⟨i, n⟩ ⟨hi, hn, hn2, hbd, hr⟩ AA hAA; simp only [kL, Nat.reduceBEq, Nat.reduceEqDiff, if_true, if_false, List.cons_append, List.nil_append, List.append_nil]
    dsimp only at *
    by_cases hlt : i < ts.length
    · have hu := ih ts[i] (List.getElem_mem hlt) (lv - 1) (by omega) (by omega)
      have hb := parts_bd hm ts[i] (lv := lv - 1) (by omega)
      have hd : ts.drop i = ts[i] :: ts.drop (i + 1) := List.drop_eq_getElem_cons hlt
      rw [hd] at hr
      simp only [partsL] at hr
      by_cases hc : n > m
      · rw [if_pos hc] at hr
        repeat' (first | (refine awK fun _ _ => ?_) | refine Hide.go (by assumption) ?_ | refine zqd ?_ ?_ <;> (intro h; first | (exfalso; omega) | (simp only [h, decide_true, decide_false, not_false_eq_true])) | refine end_ret [] ?_; simp [go_sem, hlt, hr] | (fail_if_success with_reducible (refine Owe.mk ?_)); (simp (disch := omega) [go_sem, hlt, hr]))
      · rw [if_neg hc] at hr
        repeat' (first | (refine awK fun _ _ => ?_) | refine Hide.go (by assumption) ?_ | refine zqd ?_ ?_ <;> (intro h; first | (exfalso; omega) | (simp only [h, decide_true, decide_false, not_false_eq_true])) | refine stepK_is rfl (hu) (by simp) ?_ | refine (hAA.next ((i + 1, n + partsT m (lv - 1) ts[i])) (Le.sub4 rfl (by simp [go_sem])) (by (try dsimp only); omega) ?_) | (fail_if_success with_reducible (refine Owe.mk ?_)); (simp (disch := omega) [go_sem, hlt]))
        exact ⟨⟨by omega, by omega, by omega, by omega, hr⟩⟩
    · obtain rfl : i = ts.length := by omega
      simp [partsL] at hr
      repeat' (first | (refine awK fun _ _ => ?_) | refine Hide.go (by assumption) ?_ | refine end_ret [] ?_; simp [go_sem] | (fail_if_success with_reducible (refine Owe.mk ?_)); (simp (disch := omega) [go_sem]))
      exact hr
theorem Small_ok (t : Tm) (m : Int) (hm : 0 ≤ m ∧ m ≤ 10000) : ACall Tryz.prog 31 [eT t, nt .i64 m] (fun r => r = bl (smallT m t)) := by
  have h := parts_ok m hm t m hm.2 (by omega)
  unfold smallT
  generalize partsT m m t = q at *
  refine acall_of_awp Tryz.func31 Tryz.call31 rfl (by simp [Tryz.ntmps31]) ?_; simp only [Tryz.ntmps31, Tryz.results31]
  repeat' (first | (refine awK fun _ _ => ?_) | refine Hide.go (by assumption) ?_ | refine end_ret [] ?_; simp [go_sem] | refine stepK_is rfl (h) (by simp) ?_ | (fail_if_success with_reducible (refine Owe.mk ?_)); (simp (disch := omega) [go_sem]))
def smallL (m : Int) (l : List Tm) : Bool := decide ((l.length : Int) ≤ m) && l.all (smallT m)
theorem SmallTerms_ok (l : List Tm) (lent full : Bool) (m : Int) (hm : 0 ≤ m ∧ m ≤ 10000) : ACall Tryz.prog 9 [.list lent full (l.map eTm), nt .i64 m] (fun r => r = bl (smallL m l)) := by
  by_cases hl : (l.length : Int) ≤ m
  · have e : smallL m l = l.all (smallT m) := by simp [smallL, hl]
    rw [e]
    refine acall_of_awp Tryz.func9 Tryz.call9 rfl (by simp [Tryz.ntmps9]) ?_; simp only [Tryz.ntmps9, Tryz.results9]
    repeat' (first | (refine awK fun _ _ => ?_) | refine Hide.go (by assumption) ?_ | refine zqd ?_ ?_ <;> (intro h; first | (exfalso; omega) | (simp only [h, decide_true, decide_false, not_false_eq_true])) | (fail_if_success with_reducible (refine Owe.mk ?_)); (simp (disch := omega) [go_sem]))
    refine awp_for [0, 1, 11] [] (fun i : Nat => [(12, nt .i64 i)]) (fun i : Nat => []) (fun i : Nat => l.length - i) (fun i : Nat => i ≤ l.length ∧ (l.take i).all (smallT m) = true) (0) (Le.sub4 rfl (by simp [go_sem])) ⟨?_⟩ ?_
    · exact ⟨Nat.zero_le _, rfl⟩
    intro i ⟨hi, hall⟩ AA hAA; simp only [kL, Nat.reduceBEq, Nat.reduceEqDiff, if_true, if_false, List.cons_append, List.nil_append, List.append_nil]
    by_cases hlt : i < l.length
    · have hu := Small_ok l[i] m hm
      have hn : (l.take (i + 1)).all (smallT m) = smallT m l[i] := by rw [take_next hlt, List.all_append, hall]; simp
      cases hq : smallT m l[i] with
      | true =>
        rw [hq] at hu hn
        repeat' (first | (refine awK fun _ _ => ?_) | refine Hide.go (by assumption) ?_ | refine stepK_is rfl (hu) (by simp) ?_ | refine (hAA.next (i + 1) (Le.sub4 rfl (by simp [go_sem])) (by (try dsimp only); omega) ?_) | (fail_if_success with_reducible (refine Owe.mk ?_)); (simp (disch := omega) [go_sem, hlt]))
        exact ⟨⟨hlt, hn⟩⟩
      | false =>
        rw [hq] at hu
        repeat' (first | (refine awK fun _ _ => ?_) | refine Hide.go (by assumption) ?_ | refine end_ret [] ?_; simp [go_sem, hlt] | refine stepK_is rfl (hu) (by simp) ?_ | (fail_if_success with_reducible (refine Owe.mk ?_)); (simp (disch := omega) [go_sem, hlt]))
        all_goals exact ⟨l[i], List.getElem_mem hlt, hq⟩
    · obtain rfl : i = l.length := by omega
      rw [List.take_length] at hall
      repeat' (first | (refine awK fun _ _ => ?_) | refine Hide.go (by assumption) ?_ | refine end_ret [] ?_; simp [go_sem, hall] | (fail_if_success with_reducible (refine Owe.mk ?_)); (simp (disch := omega) [go_sem, hall]))
  · have e : smallL m l = false := by simp [smallL]; intro h; omega
    rw [e]
    refine acall_of_awp Tryz.func9 Tryz.call9 rfl (by simp [Tryz.ntmps9]) ?_; simp only [Tryz.ntmps9, Tryz.results9]
    repeat' (first | (refine awK fun _ _ => ?_) | refine Hide.go (by assumption) ?_ | refine zqd ?_ ?_ <;> (intro h; first | (exfalso; omega) | (simp only [h, decide_true, decide_false, not_false_eq_true])) | refine end_ret [] ?_; simp [go_sem] | (fail_if_success with_reducible (refine Owe.mk ?_)); (simp (disch := omega) [go_sem]))
open Go.Ab
set_option maxRecDepth 100000
theorem sortT_next {l : List Tm} {i : Nat} (h : i < l.length) : sortT (l.take (i + 1)) = insT l[i] (sortT (l.take i)) := by
  unfold sortT
  rw [take_next h, List.foldl_append]; rfl
set_option maxHeartbeats 8000000
theorem refatom_of (p : List Pr) (le fu : Bool) (s : ByteArray) (ts : List Tm) (hb : ts.length ≤ 1000000) (ih : ∀ t ∈ ts, ACall Tryz.prog 36 [.list le fu (p.map ePr), eT t] (fun r => r = eT (tmP p t))) :
    ACall Tryz.prog 75 [.list le fu (p.map ePr), eT (.mk s ts)] (fun r => r = eT (.mk s (imL p ts))) := by
  have hl2 : (imL p ts).length = ts.length := imL_len
  refine ACall.loose (x := .agg [.sc (.string s), .list false (decide (ts.length = 0)) ((imL p ts).map eTm)]) rfl ?_
  refine acall_of_awp Tryz.func75 Tryz.call75 rfl (by simp [Tryz.ntmps75]) ?_; simp only [Tryz.ntmps75, Tryz.results75]
  repeat' (first | (refine awK fun _ _ => ?_) | refine Hide.go (by assumption) ?_ | (fail_if_success with_reducible (refine Owe.mk ?_)); (simp (disch := omega) [go_sem]))
  refine awp_for [0, 3, 4, 5] [5, 900] (fun i : Nat => [(6, nt .i64 i)]) (fun i : Nat => (5, ⟨false, false, false, 2, [.agg [.sc (.string s), if i = 0 then .list false true [] else .ref 900 0 i]], 0⟩) :: (if i = 0 then [] else [(900, ⟨true, false, false, 2, (imL p (ts.take i)).map eTm, 0⟩)])) (fun i : Nat => ts.length - i) (fun i : Nat => i ≤ ts.length) (0) (Le.sub4 rfl (by simp [go_sem])) ⟨?_⟩ ?_
  · exact Nat.zero_le _
  intro i hi AA hAA; simp only [kL, Nat.reduceBEq, Nat.reduceEqDiff, if_true, if_false, List.cons_append, List.nil_append, List.append_nil]
  have hln : (imL p (ts.take i)).length = i := by rw [imL_len, List.length_take]; omega
  by_cases hlt : i < ts.length
  · have hu := ih _ (List.getElem_mem hlt)
    have hnx := imL_next (p := p) hlt
    by_cases h0 : i = 0
    · subst h0
      generalize tmP p ts[0] = x at *
      repeat' (first | (refine awK fun _ _ => ?_) | refine Hide.go (by assumption) ?_ | refine dstepK_is rfl (hu) rfl (by simp) ?_ | refine (hAA.next (0 + 1) (Le.renSub [(27, 900)] [(900, 27)] (by simp [go_sem, hnx, imL_nil]) (by simp [go_sem, hnx, imL_nil]) (Le.sub4 rfl (by simp [go_sem, hnx, imL_nil]))) (by (try dsimp only); omega) ?_) | (fail_if_success with_reducible (refine Owe.mk ?_)); (simp (disch := omega) [go_sem, hlt]) | refine awp_draw 9 mix (by decide +kernel) ?_)
      all_goals (first | omega | skip)
      exact ⟨hlt⟩
    · generalize imL p (ts.take i) = A at *
      generalize tmP p ts[i] = x at *
      repeat' (first | (refine awK fun _ _ => ?_) | refine Hide.go (by assumption) ?_ | refine dstepK_is rfl (hu) rfl (by simp) ?_ | refine (hAA.next (i + 1) (Le.sub4 rfl (by simp [go_sem, hnx, hln])) (by (try dsimp only); omega) ?_) | (fail_if_success with_reducible (refine Owe.mk ?_)); (simp (disch := omega) [go_sem, hlt, h0, hln]) | refine And.intro (by omega) ?_ | refine awp_draw 9 mix (by decide +kernel) ?_)
      all_goals (first | omega | skip)
      exact ⟨hlt⟩
  · obtain rfl : i = ts.length := by omega
    rw [List.take_length] at *
    generalize imL p ts = A at *
    by_cases h0 : ts.length = 0
    · have h1 : A = [] := List.eq_nil_of_length_eq_zero (by omega)
      subst h1
      repeat' (first | (refine awK fun _ _ => ?_) | refine Hide.go (by assumption) ?_ | refine end_ret [] ?_; simp [go_sem, h0] | (fail_if_success with_reducible (refine Owe.mk ?_)); (simp (disch := omega) [go_sem, h0]))
    · repeat' (first | (refine awK fun _ _ => ?_) | refine Hide.go (by assumption) ?_ | refine end_ret [] ?_; simp [go_sem, h0, hl2] | (fail_if_success with_reducible (refine Owe.mk ?_)); (simp (disch := omega) [go_sem, h0, hl2]))
theorem refTerm_ok (p : List Pr) (le fu : Bool) : ∀ t : Tm, t.size ≤ 1000000 → ACall Tryz.prog 36 [.list le fu (p.map ePr), eT t] (fun r => r = eT (tmP p t)) := by
  refine tm_ind fun t ih hsz => ?_
  obtain ⟨s, ts⟩ := t
  simp only [args_mk] at ih
  rw [size_eq, args_mk] at hsz
  have hlen := length_le_sizeL ts
  have hat := refatom_of p le fu s ts (by omega) fun t ht => ih t ht (by obtain ⟨i, hi, rfl⟩ := List.mem_iff_getElem.1 ht; have := size_get hi; omega)
  have him := refimage_ok p s le fu
  have hco := constant29_ok (imgS p s)
  rw [tmP_mk]
  have hl2 : (imL p ts).length = ts.length := imL_len
  have hfold : ts.map (tmP p) = imL p ts := rfl
  rw [hfold]
  generalize imgS p s = q at *
  generalize imL p ts = A at *
  by_cases h0 : ts.length = 0
  · obtain rfl := List.eq_nil_of_length_eq_zero h0
    obtain rfl := List.eq_nil_of_length_eq_zero hl2
    refine acall_of_awp Tryz.func36 Tryz.call36 rfl (by simp [Tryz.ntmps36]) ?_; simp only [Tryz.ntmps36, Tryz.results36]
    repeat' (first | (refine awK fun _ _ => ?_) | refine Hide.go (by assumption) ?_ | refine end_ret [] ?_; simp [go_sem] | refine stepK_is rfl (him) (by simp) ?_ | refine stepK_is rfl (hco) (by simp) ?_ | (fail_if_success with_reducible (refine Owe.mk ?_)); (simp (disch := omega) [go_sem]))
  · rw [if_neg h0]
    refine acall_of_awp Tryz.func36 Tryz.call36 rfl (by simp [Tryz.ntmps36]) ?_; simp only [Tryz.ntmps36, Tryz.results36]
    repeat' (first | (refine awK fun _ _ => ?_) | refine Hide.go (by assumption) ?_ | refine end_ret [] ?_; simp [go_sem, h0] | refine stepK_is rfl (hat) (by simp) ?_ | (fail_if_success with_reducible (refine Owe.mk ?_)); (simp (disch := omega) [go_sem, h0]))
theorem insT_at {t : Tm} : ∀ {o : List Tm} {k : Nat}, k ≤ o.length → (∀ (j : Nat) (h : j < o.length), j < k → cmpT o[j] t < 0) → (∀ h : k < o.length, ¬ cmpT o[k] t < 0) →
    insT t o = if ∃ h : k < o.length, cmpT o[k] t = 0 then o else o.take k ++ t :: o.drop k
  | [], k, hk, _, _ => by
    obtain rfl : k = 0 := by simpa using hk
    simp [insT]
  | u :: r, 0, _, _, h2 => by
    have h3 := h2 (by simp)
    simp only [List.getElem_cons_zero] at h3
    unfold insT
    rw [if_neg h3]
    by_cases h4 : cmpT u t = 0
    · rw [if_pos h4, if_pos ⟨by simp, h4⟩]
    · rw [if_neg h4, if_neg (by rintro ⟨_, h⟩; exact h4 h)]; simp
  | u :: r, k + 1, hk, h1, h2 => by
    have h3 := h1 0 (by simp) (by omega)
    simp only [List.getElem_cons_zero] at h3
    unfold insT
    rw [if_pos h3, insT_at (k := k) (by simpa using hk) (fun j h hj => by have := h1 (j + 1) (by simpa using h) (by omega); simpa using this) (fun h => by have := h2 (by simpa using h); simpa using this)]
    by_cases h4 : ∃ h : k < r.length, cmpT r[k] t = 0
    · rw [if_pos h4, if_pos (by obtain ⟨h, e⟩ := h4; exact ⟨by simpa using h, by simpa using e⟩)]
    · rw [if_neg h4, if_neg (by rintro ⟨h, e⟩; exact h4 ⟨by simpa using h, by simpa using e⟩)]; simp
theorem cells_take {l : List Tm} {k : Nat} {y : AV} (h : y ∈ List.take k (l.map eTm)) : y.cells.length = 2 := by
  obtain ⟨t, _, rfl⟩ := List.mem_map.1 (List.mem_of_mem_take h)
  rw [eTm_eq]; rfl
theorem cells_drop {l : List Tm} {k : Nat} {y : AV} (h : y ∈ List.drop k (l.map eTm)) : y.cells.length = 2 := by
  obtain ⟨t, _, rfl⟩ := List.mem_map.1 (List.mem_of_mem_drop h)
  rw [eTm_eq]; rfl
theorem refSort_both (l : List Tm) (le fu own : Bool) (hb : l.length ≤ 1000000) : ACall Tryz.prog 39 [.list le fu (l.map eTm)] (fun r => r = if own = true then .own 2 ((sortT l).map eTm) else .list false false ((sortT l).map eTm)) := by
  have t0 : sortT [] = [] := rfl
  have hle : ∀ i, i ≤ l.length → (sortT (l.take i)).length ≤ i := fun i => by
    induction i with
    | zero => intro _; exact Nat.le_refl _
    | succ i ih =>
      intro hi
      have := ih (by omega)
      rw [sortT_next (by omega)]
      have hins : ∀ (t : Tm) (o : List Tm), (insT t o).length ≤ o.length + 1 := fun t o => by
        induction o with
        | nil => simp [insT]
        | cons u r ih => unfold insT; split <;> (try split) <;> simp <;> omega
      have := hins l[i] (sortT (l.take i))
      omega
  generalize hR : sortT l = R
  refine acall_of_awp Tryz.func39 Tryz.call39 rfl (by simp [Tryz.ntmps39]) ?_; simp only [Tryz.ntmps39, Tryz.results39]
  repeat' (first | (refine awK fun _ _ => ?_) | refine Hide.go (by assumption) ?_ | (first | refine zqd ?_ ?_ | refine zqn ?_ ?_ | refine zgd ?_ ?_ | refine zgn ?_ ?_ | refine zdd ?_ ?_ | refine zdn ?_ ?_) <;> (intro h; first | (exfalso; omega) | (simp only [h, decide_true, decide_false, not_false_eq_true]) | skip) | refine end_ret [] ?_; simp [go_sem] | (fail_if_success with_reducible (refine Owe.mk ?_)); (simp (disch := omega) [go_sem]) | refine And.intro (by omega) ?_ | refine And.intro (And.intro (by assumption) (by omega)) ?_ | refine awp_draw 16 mix (by decide +kernel) ?_ | (refine nbI fun bq => ?_) | (first | refine zqm ?_ ?_ | refine zgm ?_ ?_ | refine zdm ?_ ?_) <;> (intro h; simp only [h, Bool.not_true, Bool.not_false]) | (first | refine zqs ?_ ?_ | refine zgs ?_ ?_ | refine zds ?_ ?_) <;> (intro h; first | (exfalso; simp at h; omega) | ((try simp only [h]); (try simp at h))))
  refine awp_for [0, 8] [900] (fun i : Nat => [(9, nt .i64 i), (3, .ref 900 0 (sortT (l.take i)).length)]) (fun i : Nat => [(900, ⟨true, false, false, 2, (sortT (l.take i)).map eTm, 0⟩)]) (fun i : Nat => l.length - i) (fun i : Nat => i ≤ l.length) (0) (by refine Le.trans ?_ (Le.nil (i := 3) (T := 900) (es := 2) rfl); exact (Le.sub4 rfl (by simp [go_sem, t0, List.map_nil]))) ⟨?_⟩ ?_
  · exact Nat.zero_le _
  intro i hi AA hAA; simp only [kL, Nat.reduceBEq, Nat.reduceEqDiff, if_true, if_false, List.cons_append, List.nil_append, List.append_nil]
  have hdi := hle i hi
  by_cases hlt : i < l.length
  · have hnx := sortT_next hlt
    have hle2 := hle (i + 1) hlt
    generalize hO : sortT (l.take i) = O at *
    have hAB := hAA
    repeat' (first | (refine awK fun _ _ => ?_) | refine Hide.go (by assumption) ?_ | (first | refine zqd ?_ ?_ | refine zqn ?_ ?_ | refine zgd ?_ ?_ | refine zgn ?_ ?_ | refine zdd ?_ ?_ | refine zdn ?_ ?_) <;> (intro h; first | (exfalso; omega) | (simp only [h, decide_true, decide_false, not_false_eq_true]) | skip) | refine end_ret [] ?_; simp [go_sem] | (fail_if_success with_reducible (refine Owe.mk ?_)); (simp (disch := omega) [go_sem]) | refine And.intro (by omega) ?_ | refine And.intro (And.intro (by assumption) (by omega)) ?_ | refine awp_draw 16 mix (by decide +kernel) ?_ | (refine nbI fun bq => ?_) | (first | refine zqm ?_ ?_ | refine zgm ?_ ?_ | refine zdm ?_ ?_) <;> (intro h; simp only [h, Bool.not_true, Bool.not_false]) | (first | refine zqs ?_ ?_ | refine zgs ?_ ?_ | refine zds ?_ ?_) <;> (intro h; first | (exfalso; simp at h; omega) | ((try simp only [h]); (try simp at h))))
    refine awp_for [0, 3, 4, 8, 9] [] (fun k : Nat => [(5, nt .i64 k)]) (fun k : Nat => []) (fun k : Nat => O.length - k) (fun k : Nat => k ≤ O.length ∧ ∀ (j : Nat) (h : j < O.length), j < k → cmpT O[j] l[i] < 0) (0) (Le.sub4 rfl (by simp [go_sem])) ⟨?_⟩ ?_
    · exact ⟨Nat.zero_le _, fun j h hj => absurd hj (Nat.not_lt_zero _)⟩
    intro k ⟨hk, hall⟩ AA hAA; simp only [kL, Nat.reduceBEq, Nat.reduceEqDiff, if_true, if_false, List.cons_append, List.nil_append, List.append_nil]
    by_cases hkl : k < O.length
    · have hu := refCompare_ok O[k] l[i]
      by_cases hq : cmpT O[k] l[i] < 0
      · obtain ⟨c, hc⟩ : ∃ c, c = cmpT O[k] l[i] := ⟨_, rfl⟩
        rw [← hc] at hu hq
        repeat' (first | (refine awK fun _ _ => ?_) | refine Hide.go (by assumption) ?_ | (first | refine zqd ?_ ?_ | refine zqn ?_ ?_ | refine zgd ?_ ?_ | refine zgn ?_ ?_ | refine zdd ?_ ?_ | refine zdn ?_ ?_) <;> (intro h; first | (exfalso; omega) | (simp only [h, decide_true, decide_false, not_false_eq_true]) | skip) | refine end_ret [] ?_; simp [go_sem, hlt, hkl, hq] | refine stepK_is rfl (hu) (by simp) ?_ | refine dstepK_is rfl (hu) rfl (by simp) ?_ | refine (hAA.next (k + 1) (Le.sub4 rfl (by simp [go_sem])) (by (try dsimp only); omega) ?_) | (fail_if_success with_reducible (refine Owe.mk ?_)); (simp (disch := omega) [go_sem, hlt, hkl, hq]) | refine And.intro (by omega) ?_ | refine And.intro (And.intro (by assumption) (by omega)) ?_ | refine awp_draw 16 mix (by decide +kernel) ?_ | (refine nbI fun bq => ?_) | (first | refine zqm ?_ ?_ | refine zgm ?_ ?_ | refine zdm ?_ ?_) <;> (intro h; simp only [h, Bool.not_true, Bool.not_false]) | (first | refine zqs ?_ ?_ | refine zgs ?_ ?_ | refine zds ?_ ?_) <;> (intro h; first | (exfalso; simp at h; omega) | ((try simp only [h]); (try simp at h))))
        all_goals (first | omega | skip)
        exact ⟨⟨hkl, fun j h hj => by
          by_cases e : j = k
          · subst e; rw [← hc]; exact hq
          · exact hall j h (by omega)⟩⟩
      · have hin := insT_at hk hall (fun _ => hq)
        by_cases hz : cmpT O[k] l[i] = 0
        · rw [if_pos ⟨hkl, hz⟩] at hin
          rw [hin] at hnx
          rw [hz] at hu
          repeat' (first | (refine awK fun _ _ => ?_) | refine Hide.go (by assumption) ?_ | (first | refine zqd ?_ ?_ | refine zqn ?_ ?_ | refine zgd ?_ ?_ | refine zgn ?_ ?_ | refine zdd ?_ ?_ | refine zdn ?_ ?_) <;> (intro h; first | (exfalso; omega) | (simp only [h, decide_true, decide_false, not_false_eq_true]) | skip) | refine end_ret [] ?_; simp [go_sem, hlt, hkl] | refine stepK_is rfl (hu) (by simp) ?_ | refine dstepK_is rfl (hu) rfl (by simp) ?_ | refine (hAB.next (i + 1) (Le.sub4 rfl (by simp [go_sem, hnx])) (by (try dsimp only); omega) ?_) | (fail_if_success with_reducible (refine Owe.mk ?_)); (simp (disch := omega) [go_sem, hlt, hkl]) | refine And.intro (by omega) ?_ | refine And.intro (And.intro (by assumption) (by omega)) ?_ | refine awp_draw 16 mix (by decide +kernel) ?_ | (refine nbI fun bq => ?_) | (first | refine zqm ?_ ?_ | refine zgm ?_ ?_ | refine zdm ?_ ?_) <;> (intro h; simp only [h, Bool.not_true, Bool.not_false]) | (first | refine zqs ?_ ?_ | refine zgs ?_ ?_ | refine zds ?_ ?_) <;> (intro h; first | (exfalso; simp at h; omega) | ((try simp only [h]); (try simp at h))))
          all_goals (first | omega | skip)
          exact ⟨hlt⟩
        · rw [if_neg (by rintro ⟨_, h⟩; exact hz h)] at hin
          rw [hin] at hnx
          generalize cmpT O[k] l[i] = c at *
          have hkn : ¬ k = O.length := by omega
          have htd : List.take (O.length - k) (List.drop k (List.map eTm O)) = List.drop k (List.map eTm O) := List.take_of_length_le (by simp)
          by_cases hk0 : k = 0
          · subst hk0
            have h0l : ¬ 0 = O.length := by omega
            have hc1 : 1 + O.length = O.length + 1 := Nat.add_comm _ _
            repeat' (first | (refine awK fun _ _ => ?_) | refine Hide.go (by assumption) ?_ | (first | refine zqd ?_ ?_ | refine zqn ?_ ?_ | refine zgd ?_ ?_ | refine zgn ?_ ?_ | refine zdd ?_ ?_ | refine zdn ?_ ?_) <;> (intro h; first | (exfalso; omega) | (simp only [h, decide_true, decide_false, not_false_eq_true]) | skip) | refine end_ret [] ?_; simp [go_sem, hlt, hkl, hq, hz, h0l] | refine stepK_is rfl (hu) (by simp) ?_ | refine dstepK_is rfl (hu) rfl (by simp) ?_ | refine (hAB.next (i + 1) (Le.renSub [(50, 900), (900, 50)] [(900, 50), (50, 900)] (by simp [go_sem, hnx, hc1]) (by simp [go_sem, hnx, hc1]) (Le.sub4 rfl (by simp [go_sem, hnx, hc1]))) (by (try dsimp only); omega) ?_) | (fail_if_success with_reducible (refine Owe.mk ?_)); (simp (disch := omega) [go_sem, hlt, hkl, hq, hz, h0l]) | refine And.intro (by omega) ?_ | refine And.intro (And.intro (by assumption) (by omega)) ?_ | refine awp_draw 16 mix (by decide +kernel) ?_ | (refine nbI fun bq => ?_) | (first | refine zqm ?_ ?_ | refine zgm ?_ ?_ | refine zdm ?_ ?_) <;> (intro h; simp only [h, Bool.not_true, Bool.not_false]) | (first | refine zqs ?_ ?_ | refine zgs ?_ ?_ | refine zds ?_ ?_) <;> (intro h; first | (exfalso; simp at h; omega) | ((try simp only [h]); (try simp at h))))
            all_goals (first | omega | skip)
            exact ⟨hlt⟩
          · have hmn : min k O.length = k := Nat.min_eq_left hk
            have hkk : k + 1 + (O.length - k) = O.length + 1 := by omega
            have hkk2 : k + (O.length - k + 1) = O.length + 1 := by omega
            repeat' (first | (refine awK fun _ _ => ?_) | refine Hide.go (by assumption) ?_ | (first | refine zqd ?_ ?_ | refine zqn ?_ ?_ | refine zgd ?_ ?_ | refine zgn ?_ ?_ | refine zdd ?_ ?_ | refine zdn ?_ ?_) <;> (intro h; first | (exfalso; omega) | (simp only [h, decide_true, decide_false, not_false_eq_true]) | skip) | refine end_ret [] ?_; simp [go_sem, hlt, hkl, hq, hz, hkn, hk0, htd] | refine stepK_is rfl (hu) (by simp) ?_ | refine dstepK_is rfl (hu) rfl (by simp) ?_ | (fail_if_success with_reducible (refine Owe.mk ?_)); (simp (disch := omega) [go_sem, hlt, hkl, hq, hz, hkn, hk0, htd]) | refine And.intro (by omega) ?_ | refine And.intro (And.intro (by assumption) (by omega)) ?_ | refine awp_draw 16 mix (by decide +kernel) ?_ | (refine nbI fun bq => ?_) | (first | refine zqm ?_ ?_ | refine zgm ?_ ?_ | refine zdm ?_ ?_) <;> (intro h; simp only [h, Bool.not_true, Bool.not_false]) | (first | refine zqs ?_ ?_ | refine zgs ?_ ?_ | refine zds ?_ ?_) <;> (intro h; first | (exfalso; simp at h; omega) | ((try simp only [h]); (try simp at h))))
            refine ⟨⟨fun y hy => cells_take hy, by omega⟩, ?_⟩
            repeat' (first | (refine awK fun _ _ => ?_) | refine Hide.go (by assumption) ?_ | (first | refine zqd ?_ ?_ | refine zqn ?_ ?_ | refine zgd ?_ ?_ | refine zgn ?_ ?_ | refine zdd ?_ ?_ | refine zdn ?_ ?_) <;> (intro h; first | (exfalso; omega) | (simp only [h, decide_true, decide_false, not_false_eq_true]) | skip) | refine end_ret [] ?_; simp [go_sem, hlt, hkl, hq, hz, hkn, hk0, htd, hmn] | refine stepK_is rfl (hu) (by simp) ?_ | refine dstepK_is rfl (hu) rfl (by simp) ?_ | (fail_if_success with_reducible (refine Owe.mk ?_)); (simp (disch := omega) [go_sem, hlt, hkl, hq, hz, hkn, hk0, htd, hmn]) | refine And.intro (by omega) ?_ | refine And.intro (And.intro (by assumption) (by omega)) ?_ | refine awp_draw 16 mix (by decide +kernel) ?_ | (refine nbI fun bq => ?_) | (first | refine zqm ?_ ?_ | refine zgm ?_ ?_ | refine zdm ?_ ?_) <;> (intro h; simp only [h, Bool.not_true, Bool.not_false]) | (first | refine zqs ?_ ?_ | refine zgs ?_ ?_ | refine zds ?_ ?_) <;> (intro h; first | (exfalso; simp at h; omega) | ((try simp only [h]); (try simp at h))))
            all_goals (first | omega | skip)
            refine ⟨⟨fun y hy => cells_drop hy, by omega⟩, ?_⟩
            repeat' (first | (refine awK fun _ _ => ?_) | refine Hide.go (by assumption) ?_ | (first | refine zqd ?_ ?_ | refine zqn ?_ ?_ | refine zgd ?_ ?_ | refine zgn ?_ ?_ | refine zdd ?_ ?_ | refine zdn ?_ ?_) <;> (intro h; first | (exfalso; omega) | (simp only [h, decide_true, decide_false, not_false_eq_true]) | skip) | refine end_ret [] ?_; simp [go_sem, hlt, hkl, hq, hz, hkn, hk0, htd, hmn] | refine stepK_is rfl (hu) (by simp) ?_ | refine dstepK_is rfl (hu) rfl (by simp) ?_ | refine (hAB.next (i + 1) (Le.renSub [(50, 900), (900, 50)] [(900, 50), (50, 900)] (by simp [go_sem, hnx, hmn, hkk, hkk2]) (by simp [go_sem, hnx, hmn, hkk, hkk2]) (Le.sub4 rfl (by simp [go_sem, hnx, hmn, hkk, hkk2]))) (by (try dsimp only); omega) ?_) | (fail_if_success with_reducible (refine Owe.mk ?_)); (simp (disch := omega) [go_sem, hlt, hkl, hq, hz, hkn, hk0, htd, hmn]) | refine And.intro (by omega) ?_ | refine And.intro (And.intro (by assumption) (by omega)) ?_ | refine awp_draw 16 mix (by decide +kernel) ?_ | (refine nbI fun bq => ?_) | (first | refine zqm ?_ ?_ | refine zgm ?_ ?_ | refine zdm ?_ ?_) <;> (intro h; simp only [h, Bool.not_true, Bool.not_false]) | (first | refine zqs ?_ ?_ | refine zgs ?_ ?_ | refine zds ?_ ?_) <;> (intro h; first | (exfalso; simp at h; omega) | ((try simp only [h]); (try simp at h))))
            all_goals (first | omega | skip)
            exact ⟨hlt⟩
    · obtain rfl : k = O.length := by omega
      have hin := insT_at (Nat.le_refl _) hall (fun h => absurd h (Nat.lt_irrefl _))
      rw [if_neg (by rintro ⟨h, _⟩; exact Nat.lt_irrefl _ h)] at hin
      rw [hin] at hnx
      by_cases h0 : O = []
      · subst h0
        simp only [List.take_nil, List.drop_nil, List.nil_append, List.length_nil] at *
        repeat' (first | (refine awK fun _ _ => ?_) | refine Hide.go (by assumption) ?_ | (first | refine zqd ?_ ?_ | refine zqn ?_ ?_ | refine zgd ?_ ?_ | refine zgn ?_ ?_ | refine zdd ?_ ?_ | refine zdn ?_ ?_) <;> (intro h; first | (exfalso; omega) | (simp only [h, decide_true, decide_false, not_false_eq_true]) | skip) | refine end_ret [] ?_; simp [go_sem, hlt] | refine (hAB.next (i + 1) (Le.renSub [(50, 900), (900, 50)] [(900, 50), (50, 900)] (by simp [go_sem, hnx]) (by simp [go_sem, hnx]) (Le.sub4 rfl (by simp [go_sem, hnx]))) (by (try dsimp only); omega) ?_) | (fail_if_success with_reducible (refine Owe.mk ?_)); (simp (disch := omega) [go_sem, hlt]) | refine And.intro (by omega) ?_ | refine And.intro (And.intro (by assumption) (by omega)) ?_ | refine awp_draw 16 mix (by decide +kernel) ?_ | (refine nbI fun bq => ?_) | (first | refine zqm ?_ ?_ | refine zgm ?_ ?_ | refine zdm ?_ ?_) <;> (intro h; simp only [h, Bool.not_true, Bool.not_false]) | (first | refine zqs ?_ ?_ | refine zgs ?_ ?_ | refine zds ?_ ?_) <;> (intro h; first | (exfalso; simp at h; omega) | ((try simp only [h]); (try simp at h))))
        all_goals (first | omega | skip)
        exact ⟨hlt⟩
      · have h0l : ¬ O.length = 0 := fun h => h0 (List.eq_nil_of_length_eq_zero h)
        rw [List.take_length, List.drop_length] at hnx
        repeat' (first | (refine awK fun _ _ => ?_) | refine Hide.go (by assumption) ?_ | (first | refine zqd ?_ ?_ | refine zqn ?_ ?_ | refine zgd ?_ ?_ | refine zgn ?_ ?_ | refine zdd ?_ ?_ | refine zdn ?_ ?_) <;> (intro h; first | (exfalso; omega) | (simp only [h, decide_true, decide_false, not_false_eq_true]) | skip) | refine end_ret [] ?_; simp [go_sem, hlt, hkl, h0, h0l] | refine (hAB.next (i + 1) (Le.renSub [(50, 900), (900, 50)] [(900, 50), (50, 900)] (by simp [go_sem, hnx]) (by simp [go_sem, hnx]) (Le.sub4 rfl (by simp [go_sem, hnx]))) (by (try dsimp only); omega) ?_) | (fail_if_success with_reducible (refine Owe.mk ?_)); (simp (disch := omega) [go_sem, hlt, hkl, h0, h0l]) | refine And.intro (by omega) ?_ | refine And.intro (And.intro (by assumption) (by omega)) ?_ | refine awp_draw 16 mix (by decide +kernel) ?_ | (refine nbI fun bq => ?_) | (first | refine zqm ?_ ?_ | refine zgm ?_ ?_ | refine zdm ?_ ?_) <;> (intro h; simp only [h, Bool.not_true, Bool.not_false]) | (first | refine zqs ?_ ?_ | refine zgs ?_ ?_ | refine zds ?_ ?_) <;> (intro h; first | (exfalso; simp at h; omega) | ((try simp only [h]); (try simp at h))))
        all_goals (first | omega | skip)
        exact ⟨hlt⟩
  · obtain rfl : i = l.length := by omega
    rw [List.take_length, hR]
    cases own
    · simp only [Bool.false_eq_true, if_false]
      repeat' (first | (refine awK fun _ _ => ?_) | refine Hide.go (by assumption) ?_ | (first | refine zqd ?_ ?_ | refine zqn ?_ ?_ | refine zgd ?_ ?_ | refine zgn ?_ ?_ | refine zdd ?_ ?_ | refine zdn ?_ ?_) <;> (intro h; first | (exfalso; omega) | (simp only [h, decide_true, decide_false, not_false_eq_true]) | skip) | refine end_ret [900] ?_; simp [go_sem] | (fail_if_success with_reducible (refine Owe.mk ?_)); (simp (disch := omega) [go_sem]) | refine And.intro (by omega) ?_ | refine And.intro (And.intro (by assumption) (by omega)) ?_ | refine awp_draw 16 mix (by decide +kernel) ?_ | (refine nbI fun bq => ?_) | (first | refine zqm ?_ ?_ | refine zgm ?_ ?_ | refine zdm ?_ ?_) <;> (intro h; simp only [h, Bool.not_true, Bool.not_false]) | (first | refine zqs ?_ ?_ | refine zgs ?_ ?_ | refine zds ?_ ?_) <;> (intro h; first | (exfalso; simp at h; omega) | ((try simp only [h]); (try simp at h))))
    · simp only [if_true]
      repeat' (first | (refine awK fun _ _ => ?_) | refine Hide.go (by assumption) ?_ | (first | refine zqd ?_ ?_ | refine zqn ?_ ?_ | refine zgd ?_ ?_ | refine zgn ?_ ?_ | refine zdd ?_ ?_ | refine zdn ?_ ?_) <;> (intro h; first | (exfalso; omega) | (simp only [h, decide_true, decide_false, not_false_eq_true]) | skip) | refine end_ret [] ?_; simp [go_sem] | (fail_if_success with_reducible (refine Owe.mk ?_)); (simp (disch := omega) [go_sem]) | refine And.intro (by omega) ?_ | refine And.intro (And.intro (by assumption) (by omega)) ?_ | refine awp_draw 16 mix (by decide +kernel) ?_ | (refine nbI fun bq => ?_) | (first | refine zqm ?_ ?_ | refine zgm ?_ ?_ | refine zdm ?_ ?_) <;> (intro h; simp only [h, Bool.not_true, Bool.not_false]) | (first | refine zqs ?_ ?_ | refine zgs ?_ ?_ | refine zds ?_ ?_) <;> (intro h; first | (exfalso; simp at h; omega) | ((try simp only [h]); (try simp at h))))
theorem refSort_ok (l : List Tm) (le fu : Bool) (hb : l.length ≤ 1000000) : ACall Tryz.prog 39 [.list le fu (l.map eTm)] (fun r => r = .own 2 ((sortT l).map eTm)) := refSort_both l le fu true hb
theorem refState_ok (p : List Pr) (l : List Tm) (le fu lm fm : Bool) (hb : l.length ≤ 1000000) (hz : ∀ t ∈ l, t.size ≤ 1000000) : ACall Tryz.prog 15 [.list le fu (p.map ePr), .list lm fm (l.map eTm)] (fun r => r = .own 2 ((stF p l).map eTm)) := by
  have hso := fun le fu => refSort_ok (imL p l) le fu (by rw [imL_len]; exact hb)
  have hfold : sortT (imL p l) = stF p l := rfl
  rw [hfold] at hso
  refine acall_of_awp Tryz.func15 Tryz.call15 rfl (by simp [Tryz.ntmps15]) ?_; simp only [Tryz.ntmps15, Tryz.results15]
  repeat' (first | (refine awK fun _ _ => ?_) | refine Hide.go (by assumption) ?_ | (fail_if_success with_reducible (refine Owe.mk ?_)); (simp (disch := omega) [go_sem]))
  refine awp_for [0, 1] [900] (fun i : Nat => [(6, nt .i64 i), (5, .ref 900 0 (imL p (l.take i)).length)]) (fun i : Nat => [(900, ⟨true, false, false, 2, (imL p (l.take i)).map eTm, 0⟩)]) (fun i : Nat => l.length - i) (fun i : Nat => i ≤ l.length) (0) (by refine Le.trans ?_ (Le.nil (i := 5) (T := 900) (es := 2) rfl); exact (Le.sub4 rfl (by simp [go_sem, imL_nil, List.take_zero, List.map_nil]))) ⟨?_⟩ ?_
  · exact Nat.zero_le _
  intro i hi AA hAA; simp only [kL, Nat.reduceBEq, Nat.reduceEqDiff, if_true, if_false, List.cons_append, List.nil_append, List.append_nil]
  by_cases hlt : i < l.length
  · have hu := refTerm_ok p le fu l[i] (hz _ (List.getElem_mem hlt))
    have hnx := imL_next (p := p) hlt
    have hln : (imL p (l.take i)).length = i := by rw [imL_len, List.length_take]; omega
    generalize imL p (l.take i) = A at *
    generalize tmP p l[i] = x at *
    repeat' (first | (refine awK fun _ _ => ?_) | refine Hide.go (by assumption) ?_ | refine stepK_is rfl (hu) (by simp) ?_ | refine (hAA.next (i + 1) (Le.sub4 rfl (by simp [go_sem, hnx, hln])) (by (try dsimp only); omega) ?_) | (fail_if_success with_reducible (refine Owe.mk ?_)); (simp (disch := omega) [go_sem, hlt, hln]) | refine And.intro (by omega) ?_)
    all_goals (first | omega | skip)
    exact ⟨hlt⟩
  · obtain rfl : i = l.length := by omega
    rw [List.take_length]
    have hso := hso true false
    generalize imL p l = A at *
    generalize stF p l = B at *
    have hlenT : True := trivial
    repeat' (first | (refine awK fun _ _ => ?_) | refine Hide.go (by assumption) ?_ | refine end_ret [] ?_; simp [go_sem, hlenT] | refine stepK_is ?hl (hso) (by simp) ?_; (case hl => (simp [go_sem, hlenT]; done)) | (fail_if_success with_reducible (refine Owe.mk ?_)); (simp (disch := omega) [go_sem, hlenT]))
def bck (cf : Tm → Bool) (l : List Tm) (m : Nat) (a : Int) : Prop := (a = -1 ∧ ∀ (j : Nat) (h : j < l.length), m ≤ j → cf l[j] = false) ∨ ∃ (j : Nat) (h : j < l.length), a = j ∧ m ≤ j ∧ cf l[j] = true ∧ ∀ (k : Nat) (hk : k < l.length), m ≤ k → k < j → cf l[k] = false
theorem bck_end {cf : Tm → Bool} {l : List Tm} {a : Int} (h : bck cf l 0 a) : idxB cf l = a := by
  rcases h with ⟨rfl, h⟩ | ⟨j, hj, rfl, _, h1, h2⟩
  · exact idxB_none fun k hk _ => h k hk (Nat.zero_le _)
  · exact idxB_at hj h1 fun k hk hkj => h2 k hk (Nat.zero_le _) hkj
theorem bck_step {cf : Tm → Bool} {l : List Tm} {m : Nat} {a : Int} (hm : m < l.length) (h : bck cf l (m + 1) a) (hc : cf l[m] = false) : bck cf l m a := by
  have key : ∀ (j : Nat) (h : j < l.length), m ≤ j → (m + 1 ≤ j → cf l[j] = false) → cf l[j] = false := fun j hj h1 h2 => by
    rcases Nat.lt_or_eq_of_le h1 with h3 | rfl
    · exact h2 h3
    · exact hc
  rcases h with ⟨rfl, h⟩ | ⟨j, hj, rfl, h0, h1, h2⟩
  · exact .inl ⟨rfl, fun j hj hmj => key j hj hmj (h j hj)⟩
  · exact .inr ⟨j, hj, rfl, by omega, h1, fun k hk hmk hkj => key k hk hmk fun h => h2 k hk h hkj⟩
theorem bck_hit {cf : Tm → Bool} {l : List Tm} {m : Nat} (hm : m < l.length) (hc : cf l[m] = true) : bck cf l m m := .inr ⟨m, hm, rfl, Nat.le_refl _, hc, fun k _ h1 h2 => by omega⟩
theorem bck_none {cf : Tm → Bool} {l : List Tm} : bck cf l l.length (-1) := .inl ⟨rfl, fun j h h' => by omega⟩
theorem refRoles_ok (p : List Pr) (l : List Tm) (le fu lm fm : Bool) (hb : l.length ≤ 1000000) (hz : ∀ t ∈ l, t.size ≤ 1000000) :
    ACall Tryz.prog 35 [.list le fu (p.map ePr), .list lm fm (l.map eTm)] (fun r => r = rolV p l) := by
  unfold rolV
  have hz0 : (l.take 0).map (plc p l) = [] := by simp
  generalize hV : (if ∀ t ∈ l, 0 ≤ plc p l t then AV.tup [.list false false ((l.map (plc p l)).map eI), bl true] else .tup [.list false true [], bl false]) = V
  refine acall_of_awp Tryz.func35 Tryz.call35 rfl (by simp [Tryz.ntmps35]) ?_; simp only [Tryz.ntmps35, Tryz.results35]
  repeat' (first | (refine awK fun _ _ => ?_) | refine Hide.go (by assumption) ?_ | (fail_if_success with_reducible (refine Owe.mk ?_)); (simp (disch := omega) [go_sem]))
  refine awp_for [0, 1] [900] (fun i : Nat => [(7, nt .i64 i), (6, .ref 900 0 i)]) (fun i : Nat => [(900, ⟨true, false, false, 1, ((l.take i).map (plc p l)).map eI, 0⟩)]) (fun i : Nat => l.length - i) (fun i : Nat => i ≤ l.length ∧ ∀ t ∈ l.take i, 0 ≤ plc p l t) (0) (by refine Le.trans ?_ (Le.nil (i := 6) (T := 900) (es := 1) rfl); exact (Le.sub4 rfl (by simp [go_sem, hz0, List.take_zero, List.map_nil]))) ⟨?_⟩ ?_
  · exact ⟨Nat.zero_le _, by simp⟩
  intro i ⟨hi, hbe⟩ AA hAA; simp only [kL, Nat.reduceBEq, Nat.reduceEqDiff, if_true, if_false, List.cons_append, List.nil_append, List.append_nil]
  by_cases hlt : i < l.length
  · have hm := List.getElem_mem hlt
    have ht := refTerm_ok p le fu l[i] (hz _ hm)
    have hnx := rol_next (p := p) (L := l) hlt
    have hbn : 0 ≤ plc p l l[i] → ∀ t ∈ l.take (i + 1), 0 ≤ plc p l t := fun h t ht => by
      rw [List.take_add_one, List.getElem?_eq_getElem hlt] at ht
      rcases List.mem_append.1 ht with h' | h'
      · exact hbe t h'
      · simp at h'; subst h'; exact h
    have hneg : plc p l l[i] < 0 → V = .tup [.list false true [], bl false] := fun h => by
      rw [← hV, if_neg]
      intro hh
      have := hh _ hm
      omega
    have hln : ((l.take i).map (plc p l)).length = i := by simp; omega
    have hfold : idxB (fun x => decide (cmpT x (tmP p l[i]) = 0)) l = plc p l l[i] := rfl
    generalize plc p l l[i] = x at *
    generalize (l.take i).map (plc p l) = A at *
    generalize tmP p l[i] = u at *
    have hAB := hAA
    repeat' (first | (refine awK fun _ _ => ?_) | refine Hide.go (by assumption) ?_ | refine stepK_is rfl (ht) (by simp) ?_ | (fail_if_success with_reducible (refine Owe.mk ?_)); (simp (disch := omega) [go_sem, hlt, hln]))
    refine awp_for [0, 1, 6, 7, 8] [8, 900] (fun y : Nat × Int => [(10, nt .i64 ((y.1 : Int) - 1)), (9, nt .i64 y.2)]) (fun y : Nat × Int => [(8, ⟨false, false, false, 2, [eT u], 0⟩), (900, ⟨true, false, false, 1, A.map eI, 0⟩)]) (fun y : Nat × Int => y.1) (fun y : Nat × Int => y.1 ≤ l.length ∧ bck (fun x => decide (cmpT x u = 0)) l y.1 y.2) ((l.length, -1)) (Le.sub4 rfl (by simp [go_sem])) ⟨?_⟩ ?_
    · exact ⟨Nat.le_refl _, bck_none⟩
    intro ⟨m, a⟩ ⟨hml, hbk⟩ AA hAA; simp only [kL, Nat.reduceBEq, Nat.reduceEqDiff, if_true, if_false, List.cons_append, List.nil_append, List.append_nil]
    dsimp only at *
    cases m with
    | zero =>
      have hxa : x = a := hfold.symm.trans (bck_end hbk)
      subst hxa
      by_cases hp' : x < 0
      · repeat' (first | (refine awK fun _ _ => ?_) | refine Hide.go (by assumption) ?_ | refine end_ret [] ?_; simp [go_sem, hlt, hln, hp'] | (fail_if_success with_reducible (refine Owe.mk ?_)); (simp (disch := omega) [go_sem, hlt, hln, hp']))
        exact (hneg hp').symm
      · repeat' (first | (refine awK fun _ _ => ?_) | refine Hide.go (by assumption) ?_ | refine (hAB.next (i + 1) (Le.sub4 rfl (by simp [go_sem, hnx, hln])) (by (try dsimp only); omega) ?_) | (fail_if_success with_reducible (refine Owe.mk ?_)); (simp (disch := omega) [go_sem, hlt, hln, hp']) | refine And.intro (by omega) ?_)
        all_goals (first | omega | skip)
        exact ⟨hlt, hbn (by omega)⟩
    | succ m =>
      have hmm : m < l.length := by omega
      have hc := refCompare_ok l[m] u
      by_cases h0 : cmpT l[m] u = 0
      · have hbk' : bck (fun x => decide (cmpT x u = 0)) l m m := bck_hit hmm (by simpa using h0)
        rw [h0] at hc
        repeat' (first | (refine awK fun _ _ => ?_) | refine Hide.go (by assumption) ?_ | refine dstepK_is rfl (hc) rfl (by simp) ?_ | refine (hAA.next ((m, (m : Int))) (Le.sub4 rfl (by simp [go_sem])) (by (try dsimp only); omega) ?_) | (fail_if_success with_reducible (refine Owe.mk ?_)); (simp (disch := omega) [go_sem, hlt, hln, hmm]) | refine awp_draw 7 mix (by decide +kernel) ?_)
        all_goals (first | omega | skip)
        exact ⟨⟨by omega, hbk'⟩⟩
      · have hbk' := bck_step hmm hbk (by simpa using h0)
        generalize cmpT l[m] u = q at *
        repeat' (first | (refine awK fun _ _ => ?_) | refine Hide.go (by assumption) ?_ | refine dstepK_is rfl (hc) rfl (by simp) ?_ | refine (hAA.next ((m, a)) (Le.sub4 rfl (by simp [go_sem])) (by (try dsimp only); omega) ?_) | (fail_if_success with_reducible (refine Owe.mk ?_)); (simp (disch := omega) [go_sem, hlt, hln, hmm, h0]) | refine awp_draw 7 mix (by decide +kernel) ?_)
        all_goals (first | omega | skip)
        exact ⟨⟨by omega, hbk'⟩⟩
  · obtain rfl : i = l.length := by omega
    rw [List.take_length] at hbe
    rw [if_pos hbe] at hV
    subst hV
    rw [List.take_length]
    repeat' (first | (refine awK fun _ _ => ?_) | refine Hide.go (by assumption) ?_ | refine end_ret [900] ?_; simp [go_sem] | (fail_if_success with_reducible (refine Owe.mk ?_)); (simp (disch := omega) [go_sem]))
def fitB (g : List (List Pr)) (s : List Tm) : Bool := fewB g && (smallL 20 s && g.all validP)
theorem fit_ok (g : List (List Pr)) (s : List Tm) (le fu lm fm : Bool) : ACall Tryz.prog 8 [.list le fu (g.map eG), .list lm fm (s.map eTm)] (fun r => r = bl (fitB g s)) := by
  have h1 := few_ok g le fu
  have h2 := SmallTerms_ok s lm fm 20 (by decide)
  unfold fitB
  cases hf : fewB g
  · rw [hf] at h1
    refine acall_of_awp Tryz.func8 Tryz.call8 rfl (by simp [Tryz.ntmps8]) ?_; simp only [Tryz.ntmps8, Tryz.results8]
    repeat' (first | (refine awK fun _ _ => ?_) | refine Hide.go (by assumption) ?_ | refine end_ret [] ?_; simp [go_sem] | refine stepK_is rfl (h1) (by simp) ?_ | (fail_if_success with_reducible (refine Owe.mk ?_)); (simp (disch := omega) [go_sem]))
  · rw [hf] at h1
    obtain ⟨hl, hp⟩ := fewB_len hf
    cases hs : smallL 20 s
    · rw [hs] at h2
      refine acall_of_awp Tryz.func8 Tryz.call8 rfl (by simp [Tryz.ntmps8]) ?_; simp only [Tryz.ntmps8, Tryz.results8]
      repeat' (first | (refine awK fun _ _ => ?_) | refine Hide.go (by assumption) ?_ | refine end_ret [] ?_; simp [go_sem] | refine stepK_is rfl (h1) (by simp) ?_ | refine stepK_is rfl (h2) (by simp) ?_ | (fail_if_success with_reducible (refine Owe.mk ?_)); (simp (disch := omega) [go_sem]))
    · rw [hs] at h2
      simp only [Bool.true_and]
      generalize hV : g.all validP = V
      refine acall_of_awp Tryz.func8 Tryz.call8 rfl (by simp [Tryz.ntmps8]) ?_; simp only [Tryz.ntmps8, Tryz.results8]
      repeat' (first | (refine awK fun _ _ => ?_) | refine Hide.go (by assumption) ?_ | refine stepK_is rfl (h1) (by simp) ?_ | refine stepK_is rfl (h2) (by simp) ?_ | (fail_if_success with_reducible (refine Owe.mk ?_)); (simp (disch := omega) [go_sem]))
      refine awp_for [0] [] (fun i : Nat => [(5, nt .i64 i)]) (fun i : Nat => []) (fun i : Nat => g.length - i) (fun i : Nat => i ≤ g.length ∧ ∀ (k : Nat) (hk : k < g.length), k < i → validP g[k] = true) (0) (Le.sub4 rfl (by simp [go_sem])) ⟨?_⟩ ?_
      · exact ⟨Nat.zero_le _, fun k _ hk => absurd hk (Nat.not_lt_zero _)⟩
      intro i ⟨hi, hn⟩ AA hAA; simp only [kL, Nat.reduceBEq, Nat.reduceEqDiff, if_true, if_false, List.cons_append, List.nil_append, List.append_nil]
      by_cases hlt : i < g.length
      · have hv := refValid_ok g[i] false false (by have := hp _ (List.getElem_mem hlt); omega)
        cases hvi : validP g[i]
        · rw [hvi] at hv
          have hV0 : V = false := hV.symm.trans (all_bad hlt hvi)
          subst hV0
          repeat' (first | (refine awK fun _ _ => ?_) | refine Hide.go (by assumption) ?_ | refine end_ret [] ?_; simp [go_sem, hlt, eG] | refine stepK_is rfl (hv) (by simp) ?_ | (fail_if_success with_reducible (refine Owe.mk ?_)); (simp (disch := omega) [go_sem, hlt, eG]))
        · rw [hvi] at hv
          have hst := all_step hn hlt hvi
          repeat' (first | (refine awK fun _ _ => ?_) | refine Hide.go (by assumption) ?_ | refine stepK_is rfl (hv) (by simp) ?_ | refine (hAA.next (i + 1) (Le.sub4 rfl (by simp [go_sem])) (by (try dsimp only); omega) ?_) | (fail_if_success with_reducible (refine Owe.mk ?_)); (simp (disch := omega) [go_sem, hlt, eG]))
          all_goals (first | omega | skip)
          all_goals exact ⟨hlt, hst⟩
      · obtain rfl : i = g.length := by omega
        have hV1 : V = true := hV.symm.trans (all_good hn)
        subst hV1
        repeat' (first | (refine awK fun _ _ => ?_) | refine Hide.go (by assumption) ?_ | refine end_ret [] ?_; simp [go_sem] | (fail_if_success with_reducible (refine Owe.mk ?_)); (simp (disch := omega) [go_sem]))
theorem small20 {l : List Tm} (h : smallL 20 l = true) : l.length ≤ 20 ∧ ∀ t ∈ l, t.size ≤ 20 := by
  unfold smallL at h
  rw [Bool.and_eq_true, decide_eq_true_eq, List.all_eq_true] at h
  exact ⟨by omega, fun t ht => by have := smallT_size (by decide) (h.2 t ht); omega⟩
theorem fitB_facts {g : List (List Pr)} {s : List Tm} (h : fitB g s = true) : g.length ≤ 24 ∧ (∀ p ∈ g, p.length ≤ 8) ∧ s.length ≤ 20 ∧ (∀ t ∈ s, t.size ≤ 20) ∧ ∀ p ∈ g, validP p = true := by
  unfold fitB at h
  rw [Bool.and_eq_true, Bool.and_eq_true, List.all_eq_true] at h
  obtain ⟨h1, h2, h3⟩ := h
  exact ⟨(fewB_len h1).1, (fewB_len h1).2, (small20 h2).1, (small20 h2).2, h3⟩
end Go.Proofs.YtmadpbpmcbdboaaGreat
