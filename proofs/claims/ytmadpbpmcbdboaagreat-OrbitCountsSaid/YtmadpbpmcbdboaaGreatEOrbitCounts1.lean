import Derived.Test.YtmadpbpmcbdboaaGreatS1
import Derived.Test.YtmadpbpmcbdboaaGreatA5
import Derived.Test.YtmadpbpmcbdboaaGreatS2
import Derived.Test.YtmadpbpmcbdboaaGreatS3
import Derived.Test.YtmadpbpmcbdboaaGreatS5
import Derived.Test.YtmadpbpmcbdboaaGreatS10
import Derived.Test.YtmadpbpmcbdboaaGreatS6
import Derived.Test.YtmadpbpmcbdboaaGreatS8
import Derived.Test.YtmadpbpmcbdboaaGreatS11
import Derived.Test.YtmadpbpmcbdboaaGreatS7
set_option linter.unusedSimpArgs false
set_option linter.unusedVariables false
namespace Go.Proofs.YtmadpbpmcbdboaaGreat
open Go.Ab
namespace Tm
end Tm
theorem depth_eq (t : Tm) : t.depth = depthL t.args + 1 := by cases t; rfl
open Go.Ab
set_option maxRecDepth 100000
set_option maxHeartbeats 4000000
mutual
def partsT (m : Int) : Int → Tm → Int
  | lv, .mk _ ts => if lv < 1 then m + 1 else partsL m (lv - 1) 1 ts
def partsL (m : Int) : Int → Int → List Tm → Int
  | _, n, [] => n
  | lv, n, t :: r => if n > m then n else partsL m lv (n + partsT m lv t) r
end
theorem parts_eq {m lv : Int} {t : Tm} : partsT m lv t = if lv < 1 then m + 1 else partsL m (lv - 1) 1 t.args := by cases t; rfl
theorem partsL_ge {m : Int} (hm : 0 ≤ m) : ∀ (t : Tm) (lv : Int), 1 ≤ partsT m lv t := by
  refine tm_ind fun t ih lv => ?_
  rw [parts_eq]
  split
  · omega
  · have key : ∀ (r : List Tm), (∀ u ∈ r, ∀ lv, 1 ≤ partsT m lv u) → ∀ n, 1 ≤ n → 1 ≤ partsL m (lv - 1) n r := by
      intro r
      induction r with
      | nil => intro _ n hn; simpa [partsL] using hn
      | cons u r ihr =>
        intro h n hn
        simp only [partsL]
        split
        · exact hn
        · have := h u (by simp) (lv - 1)
          exact ihr (fun v hv => h v (by simp [hv])) _ (by omega)
    exact key t.args ih 1 (by omega)
theorem parts_le {m : Int} (hm : 0 ≤ m) : ∀ (k : Nat) (t : Tm) (lv : Int), lv ≤ k → partsT m lv t ≤ (k + 1) * (m + 1) := by
  intro k
  induction k with
  | zero =>
    intro t lv h
    rw [parts_eq, if_pos (by omega)]
    simp
  | succ k ih =>
    intro t lv h
    rw [parts_eq]
    have e : ((k + 1 : Nat) + 1 : Int) * (m + 1) = ((k : Int) + 1) * (m + 1) + (m + 1) := by
      rw [show ((k + 1 : Nat) + 1 : Int) = ((k : Int) + 1) + 1 by omega, Int.add_mul, Int.one_mul]
    have hp : 0 ≤ ((k : Int) + 1) * (m + 1) := Int.mul_nonneg (by omega) (by omega)
    split
    · omega
    · have key : ∀ (r : List Tm) (n : Int), n ≤ ((k : Int) + 1) * (m + 1) + m + 1 → partsL m (lv - 1) n r ≤ ((k : Int) + 1) * (m + 1) + m + 1 := by
        intro r
        induction r with
        | nil => intro n hn; simpa [partsL] using hn
        | cons u r ihr =>
          intro n hn
          simp only [partsL]
          split
          · exact hn
          · have := ih u (lv - 1) (by omega)
            exact ihr _ (by omega)
      have h1 : 1 ≤ ((k : Int) + 1) * (m + 1) + m + 1 := by omega
      have := key t.args 1 h1
      omega
theorem parts_size {m : Int} (hm : 0 ≤ m) : ∀ (t : Tm) (lv : Int), partsT m lv t ≤ m → (partsT m lv t = t.size ∧ (t.depth : Int) ≤ lv) := by
  refine tm_ind fun t ih lv h => ?_
  rw [parts_eq] at *
  split at h
  · omega
  · rename_i hl
    rw [if_neg hl]
    have key : ∀ (r : List Tm), (∀ u ∈ r, u ∈ t.args) → ∀ n, 1 ≤ n → partsL m (lv - 1) n r ≤ m → partsL m (lv - 1) n r = n + sizeL r ∧ (depthL r : Int) ≤ lv - 1 := by
      intro r
      induction r with
      | nil => intro _ n hn _; simp [partsL, sizeL, depthL]; omega
      | cons u r ihr =>
        intro hr n hn hp
        simp only [partsL] at *
        split at hp
        · omega
        · rename_i hc
          rw [if_neg hc]
          have g := partsL_ge hm u (lv - 1)
          have hmono : ∀ (r : List Tm) (n : Int), n ≤ partsL m (lv - 1) n r := by
            intro r
            induction r with
            | nil => intro n; simp [partsL]
            | cons u r ihr =>
              intro n
              simp only [partsL]
              split
              · omega
              · have g := partsL_ge hm u (lv - 1)
                have := ihr (n + partsT m (lv - 1) u)
                omega
          have h2 := hmono r (n + partsT m (lv - 1) u)
          obtain ⟨a1, a2⟩ := ih u (hr u (by simp)) (lv - 1) (by omega)
          obtain ⟨b1, b2⟩ := ihr (fun v hv => hr v (by simp [hv])) (n + partsT m (lv - 1) u) (by omega) hp
          simp only [sizeL, depthL]
          omega
    obtain ⟨a1, a2⟩ := key t.args (fun u hu => hu) 1 (by omega) h
    rw [size_eq, depth_eq]
    omega
def smallT (m : Int) (t : Tm) : Bool := decide (partsT m m t ≤ m)
theorem smallT_size {m : Int} (hm : 0 ≤ m) {t : Tm} (h : smallT m t = true) : (t.size : Int) ≤ m := by
  have := of_decide_eq_true h
  have := (parts_size hm t m this).1
  omega
theorem parts_bd {m : Int} (hm : 0 ≤ m ∧ m ≤ 10000) (t : Tm) {lv : Int} (h : lv ≤ 10000) : 1 ≤ partsT m lv t ∧ partsT m lv t ≤ 100020001 := by
  refine ⟨partsL_ge hm.1 t lv, ?_⟩
  have h1 := parts_le hm.1 10000 t lv h
  omega
theorem parts_ok (m : Int) (hm : 0 ≤ m ∧ m ≤ 10000) : ∀ (t : Tm) (lv : Int), lv ≤ 10000 → -10000 ≤ lv → ACall Tryz.prog 65 [eT t, nt .i64 m, nt .i64 lv] (fun r => r = nt .i64 (partsT m lv t)) := by
  refine tm_ind fun t ih lv hlv hlv2 => ?_
  obtain ⟨s, ts⟩ := t
  rw [parts_eq]
  simp only [args_mk] at *
  by_cases hl : lv < 1
  · rw [if_pos hl]
    refine acall_of_awp Tryz.func65 Tryz.call65 rfl (by simp [Tryz.ntmps65]) ?_; simp only [Tryz.ntmps65, Tryz.results65]
    repeat' (first | (refine awK fun _ _ => ?_) | refine Hide.go (by assumption) ?_ | refine zqd ?_ ?_ <;> (intro h; first | (exfalso; omega) | (simp only [h, decide_true, decide_false, not_false_eq_true])) | refine end_ret [] ?_; simp [go_sem] | (fail_if_success with_reducible (refine Owe.mk ?_)); (simp (disch := omega) [go_sem]))
  · rw [if_neg hl]
    generalize hR : partsL m (lv - 1) 1 ts = R
    refine acall_of_awp Tryz.func65 Tryz.call65 rfl (by simp [Tryz.ntmps65]) ?_; simp only [Tryz.ntmps65, Tryz.results65]
    repeat' (first | (refine awK fun _ _ => ?_) | refine Hide.go (by assumption) ?_ | refine zqd ?_ ?_ <;> (intro h; first | (exfalso; omega) | (simp only [h, decide_true, decide_false, not_false_eq_true])) | (fail_if_success with_reducible (refine Owe.mk ?_)); (simp (disch := omega) [go_sem]))
    refine awp_for [1, 2, 3, 15] [] (fun x : Nat × Int => [(16, nt .i64 x.1), (7, nt .i64 x.2)]) (fun x : Nat × Int => []) (fun x : Nat × Int => ts.length - x.1) (fun x : Nat × Int => x.1 ≤ ts.length ∧ 1 + (x.1 : Int) ≤ x.2 ∧ x.2 ≤ 100040001 ∧ (x.1 < ts.length → x.1 ≤ 10000 ∨ x.2 > m) ∧ partsL m (lv - 1) x.2 (ts.drop x.1) = R) ((0, 1)) (Le.sub4 rfl (by simp [go_sem])) ⟨?_⟩ ?_
    · exact ⟨Nat.zero_le _, by simp, by simp, by simp, by simpa using hR⟩
    intro ⟨i, n⟩ ⟨hi, hn, hn2, hbd, hr⟩ AA hAA; simp only [kL, Nat.reduceBEq, Nat.reduceEqDiff, if_true, if_false, List.cons_append, List.nil_append, List.append_nil]
    dsimp only at *
    by_cases hlt : i < ts.length
    · have hu := ih ts[i] (List.getElem_mem hlt) (lv - 1) (by omega) (by omega)
      have hb := parts_bd hm ts[i] (lv := lv - 1) (by omega)
      have hd : ts.drop i = ts[i] :: ts.drop (i + 1) := List.drop_eq_getElem_cons hlt
      rw [hd] at hr
      simp only [partsL] at hr
      by_cases hc : n > m
      · rw [if_pos hc] at hr
        repeat' (first | (refine awK fun _ _ => ?_) | refine Hide.go (by assumption) ?_ | refine zqd ?_ ?_ <;> (intro h; first | (exfalso; omega) | (simp only [h, decide_true, decide_false, not_false_eq_true])) | refine end_ret [] ?_; simp [go_sem, hlt, hr] | (fail_if_success with_reducible (refine Owe.mk ?_)); (simp (disch := omega) [go_sem, hlt, hr]))
      · rw [if_neg hc] at hr
        repeat' (first | (refine awK fun _ _ => ?_) | refine Hide.go (by assumption) ?_ | refine zqd ?_ ?_ <;> (intro h; first | (exfalso; omega) | (simp only [h, decide_true, decide_false, not_false_eq_true])) | refine stepK_is rfl (hu) (by simp) ?_ | refine (hAA.next ((i + 1, n + partsT m (lv - 1) ts[i])) (Le.sub4 rfl (by simp [go_sem])) (by (try dsimp only); omega) ?_) | (fail_if_success with_reducible (refine Owe.mk ?_)); (simp (disch := omega) [go_sem, hlt]))
        exact ⟨⟨by omega, by omega, by omega, by omega, hr⟩⟩
    · obtain rfl : i = ts.length := by omega
      simp [partsL] at hr
      repeat' (first | (refine awK fun _ _ => ?_) | refine Hide.go (by assumption) ?_ | refine end_ret [] ?_; simp [go_sem] | (fail_if_success with_reducible (refine Owe.mk ?_)); (simp (disch := omega) [go_sem]))
      exact hr
theorem Small_ok (t : Tm) (m : Int) (hm : 0 ≤ m ∧ m ≤ 10000) : ACall Tryz.prog 31 [eT t, nt .i64 m] (fun r => r = bl (smallT m t)) := by
  have h := parts_ok m hm t m hm.2 (by omega)
  unfold smallT
  generalize partsT m m t = q at *
  refine acall_of_awp Tryz.func31 Tryz.call31 rfl (by simp [Tryz.ntmps31]) ?_; simp only [Tryz.ntmps31, Tryz.results31]
  repeat' (first | (refine awK fun _ _ => ?_) | refine Hide.go (by assumption) ?_ | refine end_ret [] ?_; simp [go_sem] | refine stepK_is rfl (h) (by simp) ?_ | (fail_if_success with_reducible (refine Owe.mk ?_)); (simp (disch := omega) [go_sem]))
def smallL (m : Int) (l : List Tm) : Bool := decide ((l.length : Int) ≤ m) && l.all (smallT m)
theorem SmallTerms_ok (l : List Tm) (lent full : Bool) (m : Int) (hm : 0 ≤ m ∧ m ≤ 10000) : ACall Tryz.prog 9 [.list lent full (l.map eTm), nt .i64 m] (fun r => r = bl (smallL m l)) := by
  by_cases hl : (l.length : Int) ≤ m
  · have e : smallL m l = l.all (smallT m) := by simp [smallL, hl]
    rw [e]
    refine acall_of_awp Tryz.func9 Tryz.call9 rfl (by simp [Tryz.ntmps9]) ?_; simp only [Tryz.ntmps9, Tryz.results9]
    repeat' (first | (refine awK fun _ _ => ?_) | refine Hide.go (by assumption) ?_ | refine zqd ?_ ?_ <;> (intro h; first | (exfalso; omega) | (simp only [h, decide_true, decide_false, not_false_eq_true])) | (fail_if_success with_reducible (refine Owe.mk ?_)); (simp (disch := omega) [go_sem]))
    refine awp_for [0, 1, 11] [] (fun i : Nat => [(12, nt .i64 i)]) (fun i : Nat => []) (fun i : Nat => l.length - i) (fun i : Nat => i ≤ l.length ∧ (l.take i).all (smallT m) = true) (0) (Le.sub4 rfl (by simp [go_sem])) ⟨?_⟩ ?_
    · exact ⟨Nat.zero_le _, rfl⟩
    intro i ⟨hi, hall⟩ AA hAA; simp only [kL, Nat.reduceBEq, Nat.reduceEqDiff, if_true, if_false, List.cons_append, List.nil_append, List.append_nil]
    by_cases hlt : i < l.length
    · have hu := Small_ok l[i] m hm
      have hn : (l.take (i + 1)).all (smallT m) = smallT m l[i] := by rw [take_next hlt, List.all_append, hall]; simp
      cases hq : smallT m l[i] with
      | true =>
        rw [hq] at hu hn
        repeat' (first | (refine awK fun _ _ => ?_) | refine Hide.go (by assumption) ?_ | refine stepK_is rfl (hu) (by simp) ?_ | refine (hAA.next (i + 1) (Le.sub4 rfl (by simp [go_sem])) (by (try dsimp only); omega) ?_) | (fail_if_success with_reducible (refine Owe.mk ?_)); (simp (disch := omega) [go_sem, hlt]))
        exact ⟨⟨hlt, hn⟩⟩
      | false =>
        rw [hq] at hu
        repeat' (first | (refine awK fun _ _ => ?_) | refine Hide.go (by assumption) ?_ | refine end_ret [] ?_; simp [go_sem, hlt] | refine stepK_is rfl (hu) (by simp) ?_ | (fail_if_success with_reducible (refine Owe.mk ?_)); (simp (disch := omega) [go_sem, hlt]))
        all_goals exact ⟨l[i], List.getElem_mem hlt, hq⟩
    · obtain rfl : i = l.length := by omega
      rw [List.take_length] at hall
      repeat' (first | (refine awK fun _ _ => ?_) | refine Hide.go (by assumption) ?_ | refine end_ret [] ?_; simp [go_sem, hall] | (fail_if_success with_reducible (refine Owe.mk ?_)); (simp (disch := omega) [go_sem, hall]))
  · have e : smallL m l = false := by simp [smallL]; intro h; omega
    rw [e]
    refine acall_of_awp Tryz.func9 Tryz.call9 rfl (by simp [Tryz.ntmps9]) ?_; simp only [Tryz.ntmps9, Tryz.results9]
    repeat' (first | (refine awK fun _ _ => ?_) | refine Hide.go (by assumption) ?_ | refine zqd ?_ ?_ <;> (intro h; first | (exfalso; omega) | (simp only [h, decide_true, decide_false, not_false_eq_true])) | refine end_ret [] ?_; simp [go_sem] | (fail_if_success with_reducible (refine Owe.mk ?_)); (simp (disch := omega) [go_sem]))
open Go.Ab
set_option maxRecDepth 100000
theorem sort_self {s : List Tm} (h : Sasc s) : sortT s = s := asc_uniq (sort_asc s) h (sort_mem s)
set_option maxHeartbeats 8000000
theorem stF_len (p : List Pr) (l : List Tm) : (stF p l).length ≤ l.length := by
  have hins : ∀ (t : Tm) (o : List Tm), (insT t o).length ≤ o.length + 1 := fun t o => by
    induction o with
    | nil => simp [insT]
    | cons u r ih => unfold insT; split <;> (try split) <;> simp <;> omega
  have : ∀ (l o : List Tm), (l.foldl (fun o t => insT t o) o).length ≤ o.length + l.length := fun l => by
    induction l with
    | nil => intro o; simp
    | cons t r ih =>
      intro o
      have h1 := ih (insT t o)
      have h2 := hins t o
      simp only [List.foldl_cons, List.length_cons]
      omega
  have h := this (imL p l) []
  rw [imL_len] at h
  simpa [stF, sortT] using h
theorem canN_zero {g s} : canN g s 0 = (stF [] s, -1) := rfl
theorem stF_one (s : List Tm) : stF [] s = sortT s := by
  have h : ∀ t : Tm, tmP [] t = t := by
    refine tm_ind fun t ih => ?_
    obtain ⟨n, ts⟩ := t
    rw [tmP_mk]
    have : ts.map (tmP []) = ts := by
      simp only [args_mk] at ih
      exact (List.map_congr_left (g := id) fun x hx => ih x hx).trans (List.map_id _)
    rw [this]
    have : imgS [] n = n := rfl
    rw [this]
    simp
  unfold stF imL
  rw [(List.map_congr_left (g := id) fun x _ => h x).trans (List.map_id _)]
theorem Same29_ok (a b : List Pr) (le fu le' fu' : Bool) : ACall Tryz.prog 24 [.list le fu (a.map ePr), .list le' fu' (b.map ePr)] (fun r => r = bl (decide (a = b))) := by
  refine ACall.bound (i := 0) rfl Tryz.call24 fun hb => ?_
  rw [List.length_map] at hb
  have hb : a.length ≤ 140737488355328 := hb
  by_cases h0 : a.length = b.length
  · generalize hR : decide (a = b) = R
    have h0' : ¬ (a.length : Int) ≠ b.length := by omega
    refine acall_of_awp Tryz.func24 Tryz.call24 rfl (by simp [Tryz.ntmps24]) ?_; simp only [Tryz.ntmps24, Tryz.results24]
    repeat' (first | (refine awK fun _ _ => ?_) | refine Hide.go (by assumption) ?_ | (fail_if_success with_reducible (refine Owe.mk ?_)); (simp (disch := omega) [go_sem, h0]))
    all_goals (first | (exfalso; omega) | skip)
    refine awp_for [0, 1] [] (fun i : Nat => [(5, nt .i64 i)]) (fun i : Nat => []) (fun i : Nat => b.length - i) (fun i : Nat => i ≤ b.length ∧ ∀ (k : Nat) (hk : k < a.length) (hk' : k < b.length), k < i → a[k] = b[k]) (0) (Le.sub4 rfl (by simp [go_sem])) ⟨?_⟩ ?_
    · exact ⟨Nat.zero_le _, fun k _ _ hk => absurd hk (Nat.not_lt_zero _)⟩
    intro i ⟨hi, hn⟩ AA hAA; simp only [kL, Nat.reduceBEq, Nat.reduceEqDiff, if_true, if_false, List.cons_append, List.nil_append, List.append_nil]
    by_cases hlt : i < b.length
    · have hla : i < a.length := by omega
      by_cases hq : a[i] = b[i]
      · repeat' (first | (refine awK fun _ _ => ?_) | refine Hide.go (by assumption) ?_ | refine (hAA.next (i + 1) (Le.sub4 rfl (by simp [go_sem])) (by (try dsimp only); omega) ?_) | (fail_if_success with_reducible (refine Owe.mk ?_)); (simp (disch := omega) [go_sem, hlt, hla, ePr, hq]) | refine awp_draw 9 mix (by decide +kernel) ?_)
        all_goals (first | omega | skip)
        all_goals exact ⟨hlt, fun k hk hk' hki => by rcases Nat.lt_or_eq_of_le (Nat.le_of_lt_succ hki) with h | rfl; exact hn k hk hk' h; exact hq⟩
      · have hu : R = false := by
          rw [← hR, decide_eq_false_iff_not]
          intro h
          apply hq
          simp only [h]
        subst hu
        have hqq := pr_ne hq
        repeat' (first | (refine awK fun _ _ => ?_) | refine Hide.go (by assumption) ?_ | refine end_ret [] ?_; simp [go_sem, hlt, hla, ePr, hq, hqq] | (fail_if_success with_reducible (refine Owe.mk ?_)); (simp (disch := omega) [go_sem, hlt, hla, ePr, hq, hqq]) | refine awp_draw 9 mix (by decide +kernel) ?_)
    · obtain rfl : i = b.length := by omega
      have hu : R = true := by
        rw [← hR, decide_eq_true_eq]
        exact List.ext_getElem h0 fun k h1 h2 => hn k h1 h2 h2
      subst hu
      repeat' (first | (refine awK fun _ _ => ?_) | refine Hide.go (by assumption) ?_ | refine zqd ?_ ?_ <;> (intro h; first | (exfalso; omega) | (simp only [h, decide_true, decide_false, not_false_eq_true])) | refine end_ret [] ?_; simp [go_sem] | (fail_if_success with_reducible (refine Owe.mk ?_)); (simp (disch := omega) [go_sem]))
  · rw [decide_eq_false (fun h => h0 (by rw [h]))]
    refine acall_of_awp Tryz.func24 Tryz.call24 rfl (by simp [Tryz.ntmps24]) ?_; simp only [Tryz.ntmps24, Tryz.results24]
    repeat' (first | (refine awK fun _ _ => ?_) | refine Hide.go (by assumption) ?_ | refine zqn ?_ ?_ <;> (intro h; first | (exfalso; omega) | (simp only [h, decide_true, decide_false, not_false_eq_true])) | refine end_ret [] ?_; simp [go_sem, h0] | (fail_if_success with_reducible (refine Owe.mk ?_)); (simp (disch := omega) [go_sem, h0]))
    all_goals (first | (exfalso; omega) | skip)
theorem TermLists_ok (a b : List (List Tm)) (le fu le' fu' : Bool)  : ACall Tryz.prog 18 [.list le fu (a.map eLs), .list le' fu' (b.map eLs)] (fun r => r = bl (decide (a = b))) := by
  refine ACall.bound (i := 0) rfl Tryz.call18 fun hb => ?_
  rw [List.length_map] at hb
  have hb : a.length ≤ 140737488355328 := hb
  by_cases h0 : a.length = b.length
  · generalize hR : decide (a = b) = R
    have h0' : ¬ (a.length : Int) ≠ b.length := by omega
    refine acall_of_awp Tryz.func18 Tryz.call18 rfl (by simp [Tryz.ntmps18]) ?_; simp only [Tryz.ntmps18, Tryz.results18]
    repeat' (first | (refine awK fun _ _ => ?_) | refine Hide.go (by assumption) ?_ | (fail_if_success with_reducible (refine Owe.mk ?_)); (simp (disch := omega) [go_sem, h0]))
    all_goals (first | (exfalso; omega) | skip)
    refine awp_for [0, 1, 12] [] (fun i : Nat => [(13, nt .i64 i)]) (fun i : Nat => []) (fun i : Nat => b.length - i) (fun i : Nat => i ≤ b.length ∧ ∀ (k : Nat) (hk : k < a.length) (hk' : k < b.length), k < i → a[k] = b[k]) (0) (Le.sub4 rfl (by simp [go_sem])) ⟨?_⟩ ?_
    · exact ⟨Nat.zero_le _, fun k _ _ hk => absurd hk (Nat.not_lt_zero _)⟩
    intro i ⟨hi, hn⟩ AA hAA; simp only [kL, Nat.reduceBEq, Nat.reduceEqDiff, if_true, if_false, List.cons_append, List.nil_append, List.append_nil]
    by_cases hlt : i < b.length
    · have hla : i < a.length := by omega
      have hs := plainTermsD_ok a[i] b[i] false false false false
      by_cases hq : a[i] = b[i]
      · rw [decide_eq_true hq] at hs
        repeat' (first | (refine awK fun _ _ => ?_) | refine Hide.go (by assumption) ?_ | refine dstepK_is rfl (hs) rfl (by simp) ?_ | refine (hAA.next (i + 1) (Le.sub4 rfl (by simp [go_sem])) (by (try dsimp only); omega) ?_) | (fail_if_success with_reducible (refine Owe.mk ?_)); (simp (disch := omega) [go_sem, hlt, hla, eLs]) | refine awp_draw 10 mix (by decide +kernel) ?_)
        all_goals (first | omega | skip)
        all_goals exact ⟨hlt, fun k hk hk' hki => by rcases Nat.lt_or_eq_of_le (Nat.le_of_lt_succ hki) with h | rfl; exact hn k hk hk' h; exact hq⟩
      · have hu : R = false := by
          rw [← hR, decide_eq_false_iff_not]
          intro h
          apply hq
          simp only [h]
        subst hu
        rw [decide_eq_false hq] at hs
        repeat' (first | (refine awK fun _ _ => ?_) | refine Hide.go (by assumption) ?_ | refine end_ret [] ?_; simp [go_sem, hlt, hla, eLs] | refine dstepK_is rfl (hs) rfl (by simp) ?_ | (fail_if_success with_reducible (refine Owe.mk ?_)); (simp (disch := omega) [go_sem, hlt, hla, eLs]) | refine awp_draw 10 mix (by decide +kernel) ?_)
    · obtain rfl : i = b.length := by omega
      have hu : R = true := by
        rw [← hR, decide_eq_true_eq]
        exact List.ext_getElem h0 fun k h1 h2 => hn k h1 h2 h2
      subst hu
      repeat' (first | (refine awK fun _ _ => ?_) | refine Hide.go (by assumption) ?_ | refine end_ret [] ?_; simp [go_sem] | (fail_if_success with_reducible (refine Owe.mk ?_)); (simp (disch := omega) [go_sem]))
  · rw [decide_eq_false (fun h => h0 (by rw [h]))]
    refine acall_of_awp Tryz.func18 Tryz.call18 rfl (by simp [Tryz.ntmps18]) ?_; simp only [Tryz.ntmps18, Tryz.results18]
    repeat' (first | (refine awK fun _ _ => ?_) | refine Hide.go (by assumption) ?_ | refine zqn ?_ ?_ <;> (intro h; first | (exfalso; omega) | (simp only [h, decide_true, decide_false, not_false_eq_true])) | refine end_ret [] ?_; simp [go_sem, h0] | (fail_if_success with_reducible (refine Owe.mk ?_)); (simp (disch := omega) [go_sem, h0]))
    all_goals (first | (exfalso; omega) | skip)
def fitB (g : List (List Pr)) (s : List Tm) : Bool := fewB g && (smallL 20 s && g.all validP)
theorem fit_ok (g : List (List Pr)) (s : List Tm) (le fu lm fm : Bool) : ACall Tryz.prog 8 [.list le fu (g.map eG), .list lm fm (s.map eTm)] (fun r => r = bl (fitB g s)) := by
  have h1 := few_ok g le fu
  have h2 := SmallTerms_ok s lm fm 20 (by decide)
  unfold fitB
  cases hf : fewB g
  · rw [hf] at h1
    refine acall_of_awp Tryz.func8 Tryz.call8 rfl (by simp [Tryz.ntmps8]) ?_; simp only [Tryz.ntmps8, Tryz.results8]
    repeat' (first | (refine awK fun _ _ => ?_) | refine Hide.go (by assumption) ?_ | refine end_ret [] ?_; simp [go_sem] | refine stepK_is rfl (h1) (by simp) ?_ | (fail_if_success with_reducible (refine Owe.mk ?_)); (simp (disch := omega) [go_sem]))
  · rw [hf] at h1
    obtain ⟨hl, hp⟩ := fewB_len hf
    cases hs : smallL 20 s
    · rw [hs] at h2
      refine acall_of_awp Tryz.func8 Tryz.call8 rfl (by simp [Tryz.ntmps8]) ?_; simp only [Tryz.ntmps8, Tryz.results8]
      repeat' (first | (refine awK fun _ _ => ?_) | refine Hide.go (by assumption) ?_ | refine end_ret [] ?_; simp [go_sem] | refine stepK_is rfl (h1) (by simp) ?_ | refine stepK_is rfl (h2) (by simp) ?_ | (fail_if_success with_reducible (refine Owe.mk ?_)); (simp (disch := omega) [go_sem]))
    · rw [hs] at h2
      simp only [Bool.true_and]
      generalize hV : g.all validP = V
      refine acall_of_awp Tryz.func8 Tryz.call8 rfl (by simp [Tryz.ntmps8]) ?_; simp only [Tryz.ntmps8, Tryz.results8]
      repeat' (first | (refine awK fun _ _ => ?_) | refine Hide.go (by assumption) ?_ | refine stepK_is rfl (h1) (by simp) ?_ | refine stepK_is rfl (h2) (by simp) ?_ | (fail_if_success with_reducible (refine Owe.mk ?_)); (simp (disch := omega) [go_sem]))
      refine awp_for [0] [] (fun i : Nat => [(5, nt .i64 i)]) (fun i : Nat => []) (fun i : Nat => g.length - i) (fun i : Nat => i ≤ g.length ∧ ∀ (k : Nat) (hk : k < g.length), k < i → validP g[k] = true) (0) (Le.sub4 rfl (by simp [go_sem])) ⟨?_⟩ ?_
      · exact ⟨Nat.zero_le _, fun k _ hk => absurd hk (Nat.not_lt_zero _)⟩
      intro i ⟨hi, hn⟩ AA hAA; simp only [kL, Nat.reduceBEq, Nat.reduceEqDiff, if_true, if_false, List.cons_append, List.nil_append, List.append_nil]
      by_cases hlt : i < g.length
      · have hv := refValid_ok g[i] false false (by have := hp _ (List.getElem_mem hlt); omega)
        cases hvi : validP g[i]
        · rw [hvi] at hv
          have hV0 : V = false := hV.symm.trans (all_bad hlt hvi)
          subst hV0
          repeat' (first | (refine awK fun _ _ => ?_) | refine Hide.go (by assumption) ?_ | refine end_ret [] ?_; simp [go_sem, hlt, eG] | refine stepK_is rfl (hv) (by simp) ?_ | (fail_if_success with_reducible (refine Owe.mk ?_)); (simp (disch := omega) [go_sem, hlt, eG]))
        · rw [hvi] at hv
          have hst := all_step hn hlt hvi
          repeat' (first | (refine awK fun _ _ => ?_) | refine Hide.go (by assumption) ?_ | refine stepK_is rfl (hv) (by simp) ?_ | refine (hAA.next (i + 1) (Le.sub4 rfl (by simp [go_sem])) (by (try dsimp only); omega) ?_) | (fail_if_success with_reducible (refine Owe.mk ?_)); (simp (disch := omega) [go_sem, hlt, eG]))
          all_goals (first | omega | skip)
          all_goals exact ⟨hlt, hst⟩
      · obtain rfl : i = g.length := by omega
        have hV1 : V = true := hV.symm.trans (all_good hn)
        subst hV1
        repeat' (first | (refine awK fun _ _ => ?_) | refine Hide.go (by assumption) ?_ | refine end_ret [] ?_; simp [go_sem] | (fail_if_success with_reducible (refine Owe.mk ?_)); (simp (disch := omega) [go_sem]))
theorem small20 {l : List Tm} (h : smallL 20 l = true) : l.length ≤ 20 ∧ ∀ t ∈ l, t.size ≤ 20 := by
  unfold smallL at h
  rw [Bool.and_eq_true, decide_eq_true_eq, List.all_eq_true] at h
  exact ⟨by omega, fun t ht => by have := smallT_size (by decide) (h.2 t ht); omega⟩
theorem fitB_facts {g : List (List Pr)} {s : List Tm} (h : fitB g s = true) : g.length ≤ 24 ∧ (∀ p ∈ g, p.length ≤ 8) ∧ s.length ≤ 20 ∧ (∀ t ∈ s, t.size ≤ 20) ∧ ∀ p ∈ g, validP p = true := by
  unfold fitB at h
  rw [Bool.and_eq_true, Bool.and_eq_true, List.all_eq_true] at h
  obtain ⟨h1, h2, h3⟩ := h
  exact ⟨(fewB_len h1).1, (fewB_len h1).2, (small20 h2).1, (small20 h2).2, h3⟩
theorem tmP_cmp {p q : List Pr} (h : p.map Pr.fr = q.map Pr.fr) : ∀ t : Tm, tmP (p.map (cmpP q)) t = tmP q (tmP p t) := by
  refine tm_ind fun t ih => ?_
  obtain ⟨n, ts⟩ := t
  simp only [args_mk] at ih
  rw [tmP_mk, tmP_mk, tmP_mk, List.map_map, List.length_map]
  have e : ts.map (tmP (p.map (cmpP q))) = ts.map (tmP q ∘ tmP p) := List.map_congr_left fun t ht => ih t ht
  rw [e]
  by_cases h0 : ts.length = 0
  · simp only [if_pos h0, imgS_cmp p q h]
  · simp only [if_neg h0]
theorem tmP_back {p q : List Pr} (h : ∀ s, imgS q (imgS p s) = s) : ∀ t : Tm, tmP q (tmP p t) = t := by
  refine tm_ind fun t ih => ?_
  obtain ⟨n, ts⟩ := t
  simp only [args_mk] at ih
  have e : ts.map (tmP q ∘ tmP p) = ts := (List.map_congr_left (g := id) fun t ht => ih t ht).trans (List.map_id _)
  rw [tmP_mk, tmP_mk, List.map_map, e, List.length_map]
  by_cases h0 : ts.length = 0
  · simp only [if_pos h0, h]
  · simp only [if_neg h0]
theorem sort_congr {l m : List Tm} (h : ∀ x, x ∈ l ↔ x ∈ m) : sortT l = sortT m := asc_uniq (sort_asc l) (sort_asc m) fun x => by rw [sort_mem, sort_mem, h]
theorem stF_sort (p : List Pr) (l : List Tm) : stF p (sortT l) = stF p l := sort_congr fun x => by
  unfold imL
  simp only [List.mem_map, sort_mem]
theorem stF_cmp {p q : List Pr} (h : p.map Pr.fr = q.map Pr.fr) (s : List Tm) : stF (p.map (cmpP q)) s = stF q (stF p s) := by
  rw [show stF p s = sortT (imL p s) from rfl, stF_sort]
  unfold stF imL
  rw [List.map_map]
  congr 1
  exact List.map_congr_left fun t _ => tmP_cmp h t
theorem stF_back {p q : List Pr} (h : ∀ s, imgS q (imgS p s) = s) (s : List Tm) : stF q (stF p s) = sortT s := by
  rw [show stF p s = sortT (imL p s) from rfl, stF_sort]
  unfold stF imL
  rw [List.map_map]
  congr 1
  exact (List.map_congr_left (g := id) fun t _ => tmP_back h t).trans (List.map_id _)
theorem stF_self (p : List Pr) (s : List Tm) : sortT (stF p s) = stF p s := sort_self (sort_asc _)
theorem srt_uniq : ∀ {a b : List (List Tm)}, SrtL a → SrtL b → (∀ x, x ∈ a ↔ x ∈ b) → a = b
  | [], [], _, _, _ => rfl
  | [], y :: q, _, _, h => by have := (h y).2 (by simp); simp at this
  | x :: r, [], _, _, h => by have := (h x).1 (by simp); simp at this
  | x :: r, y :: q, ha, hb, h => by
    obtain ⟨a1, a2⟩ := List.pairwise_cons.1 ha
    obtain ⟨b1, b2⟩ := List.pairwise_cons.1 hb
    have self : ∀ z, cmpL z z = 0 := fun z => (cmpL_zero z z).2 rfl
    have hxy : x = y := by
      rcases List.mem_cons.1 ((h x).1 (by simp)) with e | e
      · exact e
      · rcases List.mem_cons.1 ((h y).2 (by simp)) with e' | e'
        · exact e'.symm
        · have h1 := b1 x e
          have h2 := a1 y e'
          have h3 := cmpL_neg x y
          omega
    subst hxy
    rw [srt_uniq a2 b2 fun z => ?_]
    constructor
    · intro hz
      rcases List.mem_cons.1 ((h z).1 (by simp [hz])) with e | e
      · subst e; have := a1 _ hz; rw [self] at this; omega
      · exact e
    · intro hz
      rcases List.mem_cons.1 ((h z).2 (by simp [hz])) with e | e
      · subst e; have := b1 _ hz; rw [self] at this; omega
      · exact e
theorem orbN_mem {g : List (List Pr)} {s y : List Tm} : ∀ {i : Nat}, y ∈ orbN g s i ↔ ∃ k, k < i ∧ y = stF (g.getD k []) s
  | 0 => by simp [orbN]
  | i + 1 => by
    rw [orbN, insL_mem, orbN_mem]
    constructor
    · rintro (h | ⟨k, hk, h⟩)
      · exact ⟨i, by omega, h⟩
      · exact ⟨k, by omega, h⟩
    · rintro ⟨k, hk, h⟩
      by_cases hki : k = i
      · subst hki; exact .inl h
      · exact .inr ⟨k, by omega, h⟩
theorem orbF_mem {g : List (List Pr)} {s y : List Tm} : y ∈ orbF g s ↔ ∃ p, p ∈ g ∧ y = stF p s := by
  unfold orbF
  rw [orbN_mem]
  constructor
  · rintro ⟨k, hk, h⟩
    rw [List.getD_eq_getElem?_getD, List.getElem?_eq_getElem hk, Option.getD_some] at h
    exact ⟨_, List.getElem_mem hk, h⟩
  · rintro ⟨p, hp, h⟩
    obtain ⟨k, hk, rfl⟩ := List.mem_iff_getElem.1 hp
    exact ⟨k, hk, by rw [List.getD_eq_getElem?_getD, List.getElem?_eq_getElem hk, Option.getD_some]; exact h⟩
theorem canN_least {g : List (List Pr)} {s : List Tm} : ∀ {i : Nat}, i ≤ g.length → 0 < i → 0 ≤ (canN g s i).2 ∧ (canN g s i).1 ∈ orbN g s i ∧ ∀ y ∈ orbN g s i, cmpL (canN g s i).1 y ≤ 0
  | 0, _, h => by omega
  | i + 1, hi, _ => by
    have hself : ∀ z, cmpL z z = 0 := fun z => (cmpL_zero z z).2 rfl
    rw [canN_next (by omega), orbN_next (by omega)]
    by_cases h0 : i = 0
    · subst h0
      rw [canN_zero, if_pos (.inl (show (-1 : Int) < 0 by decide))]
      refine ⟨show (0 : Int) ≤ ((0 : Nat) : Int) by decide, insL_mem.2 (.inl rfl), fun y hy => ?_⟩
      rcases insL_mem.1 hy with rfl | hy
      · rw [hself]; omega
      · simp [orbN] at hy
    · obtain ⟨h1, h2, h3⟩ := canN_least (g := g) (s := s) (i := i) (by omega) (by omega)
      split
      · rename_i hc
        have hc : cmpL (stF g[i] s) (canN g s i).1 < 0 := hc.resolve_left (by omega)
        refine ⟨by simp, insL_mem.2 (.inl rfl), fun y hy => ?_⟩
        rcases insL_mem.1 hy with rfl | hy
        · rw [hself]; omega
        · have a1 := h3 y hy
          have := cmpL_TR (stF g[i] s) (canN g s i).1 y (Int.le_of_lt hc) a1
          show cmpL (stF g[i] s) y ≤ 0
          omega
      · rename_i hc
        have hn := cmpL_neg (stF g[i] s) (canN g s i).1
        refine ⟨h1, insL_mem.2 (.inr h2), fun y hy => ?_⟩
        rcases insL_mem.1 hy with rfl | hy
        · omega
        · exact h3 y hy
theorem canF_head {g : List (List Pr)} {s : List Tm} (hg : 0 < g.length) : ∃ r, orbF g s = (canF g s).1 :: r := by
  obtain ⟨_, h2, h3⟩ := canN_least (g := g) (s := s) (Nat.le_refl _) hg
  have hs := orbN_srt (g := g) (s := s) g.length
  unfold orbF canF
  generalize orbN g s g.length = O at *
  cases O with
  | nil => simp at h2
  | cons x r =>
    refine ⟨r, ?_⟩
    rcases List.mem_cons.1 h2 with e | e
    · rw [e]
    · have a := h3 x (by simp)
      have b := (List.pairwise_cons.1 hs).1 _ e
      have c := cmpL_neg x (canN g s g.length).1
      omega
theorem Grp.orbit {G : List (List Pr)} (h : Grp G) {q : List Pr} (hq : q ∈ G) (s : List Tm) : orbF G (stF q s) = orbF G s := by
  refine srt_uniq (orbN_srt _) (orbN_srt _) fun y => ?_
  rw [orbF_mem, orbF_mem]
  constructor
  · rintro ⟨p, hp, rfl⟩
    exact ⟨_, h.closed q hq p hp, (stF_cmp (h.same q hq p hp) s).symm⟩
  · rintro ⟨r, hr, rfl⟩
    obtain ⟨b, hb, h1⟩ := h.back hq
    exact ⟨_, h.closed b hb r hr, by rw [stF_cmp (h.same b hb r hr), stF_back h1, stF_sort]⟩
theorem Grp.canon {G : List (List Pr)} (h : Grp G) {q : List Pr} (hq : q ∈ G) (s : List Tm) : (canF G (stF q s)).1 = (canF G s).1 := by
  have hg : 0 < G.length := List.length_pos_of_mem hq
  obtain ⟨r, h1⟩ := canF_head (s := stF q s) hg
  obtain ⟨r', h2⟩ := canF_head (s := s) hg
  rw [h.orbit hq, h2] at h1
  exact (List.cons.inj h1).1.symm
theorem stbB_iff {s : List Tm} {p : List Pr} : stbB s p = true ↔ stF p s = sortT s := by
  unfold stbB
  rw [decide_eq_true_eq, cmpL_zero, stF_one]
theorem count_classes {f : List Pr → List Tm} {c : Nat} : ∀ {O : List (List Tm)} {G : List (List Pr)}, O.Nodup → (∀ p ∈ G, f p ∈ O) → (∀ x ∈ O, G.countP (fun p => decide (f p = x)) = c) → G.length = O.length * c
  | [], G, _, hG, _ => by
    cases G with
    | nil => simp
    | cons p r => have := hG p (by simp); simp at this
  | x :: O, G, hn, hG, hc => by
    obtain ⟨n1, n2⟩ := List.nodup_cons.1 hn
    have ih := count_classes (f := f) (c := c) (G := G.filter fun p => !decide (f p = x)) n2 (fun p hp => by
      obtain ⟨a, b⟩ := List.mem_filter.1 hp
      rcases List.mem_cons.1 (hG p a) with e | e
      · simp [e] at b
      · exact e) (fun y hy => by
      rw [List.countP_filter, ← hc y (by simp [hy])]
      refine List.countP_congr fun p _ => ?_
      have : y ≠ x := by rintro rfl; exact n1 hy
      by_cases e : f p = y
      · simp [e, this]
      · simp [e])
    have e := List.length_eq_countP_add_countP (fun p => decide (f p = x)) (l := G)
    rw [hc x (by simp)] at e
    rw [← List.countP_eq_length_filter] at ih
    have e2 : G.countP (fun p => !decide (f p = x)) = G.countP (fun a => decide ¬(decide (f a = x) = true)) := by
      refine List.countP_congr fun p _ => ?_
      simp
    rw [List.length_cons, Nat.succ_mul, e, ← e2, ih, Nat.add_comm]
theorem Grp.counts {G : List (List Pr)} (h : Grp G) (s : List Tm) : G.length = (orbF G s).length * (G.filter (stbB s)).length := by
  refine count_classes (f := fun p => stF p s) ?_ (fun p hp => orbF_mem.2 ⟨p, hp, rfl⟩) fun x hx => ?_
  · exact (orbN_srt (g := G) (s := s) G.length).imp fun {a b} hab => by
      rintro rfl
      rw [(cmpL_zero a a).2 rfl] at hab; omega
  · obtain ⟨q, hq, rfl⟩ := orbF_mem.1 hx
    rw [← List.countP_eq_length_filter, (h.turn hq).countP_eq, List.countP_map]
    refine List.countP_congr fun p hp => ?_
    simp only [Function.comp, decide_eq_true_eq, stbB_iff]
    rw [stF_cmp (h.same p hp q hq)]
    obtain ⟨b, hb, h1⟩ := h.back hq
    constructor
    · intro he
      have := congrArg (stF b) he
      rw [stF_back h1, stF_back h1, stF_self] at this
      exact this
    · intro he
      rw [he, stF_sort]
def onceN (g : List (List Pr)) : Nat → List (List Pr)
  | 0 => []
  | i + 1 => if (g.take i).any (fun y => decide (g.getD i [] = y)) = true then onceN g i else onceN g i ++ [g.getD i []]
theorem onceN_mem {g : List (List Pr)} {x : List Pr} : ∀ {i : Nat}, i ≤ g.length → (x ∈ onceN g i ↔ x ∈ g.take i)
  | 0, _ => by simp [onceN]
  | i + 1, hi => by
    have ih := onceN_mem (g := g) (x := x) (i := i) (by omega)
    have ht : g.take (i + 1) = g.take i ++ [g.getD i []] := by rw [List.getD_eq_getElem?_getD, List.getElem?_eq_getElem (by omega), Option.getD_some, take_next (by omega)]
    rw [onceN, ht]
    split
    · rename_i hc
      rw [ih, List.mem_append, List.mem_singleton]
      refine ⟨.inl, fun h => h.elim id fun e => ?_⟩
      rw [List.any_eq_true] at hc
      obtain ⟨y, hy, e'⟩ := hc
      rw [e, of_decide_eq_true e']
      exact hy
    · rw [List.mem_append, List.mem_append, ih]
theorem onceN_nd {g : List (List Pr)} : ∀ {i : Nat}, i ≤ g.length → (onceN g i).Nodup
  | 0, _ => by simp [onceN]
  | i + 1, hi => by
    have ih := onceN_nd (g := g) (i := i) (by omega)
    rw [onceN]
    split
    · exact ih
    · rename_i hc
      refine List.nodup_append.2 ⟨ih, by simp, fun a ha b hb => ?_⟩
      rw [List.mem_singleton] at hb
      subst hb
      rintro rfl
      refine hc (List.any_eq_true.2 ⟨_, (onceN_mem (by omega)).1 ha, by simp⟩)
def onceF (g : List (List Pr)) : List (List Pr) := onceN g g.length
theorem onceF_mem {g : List (List Pr)} {x : List Pr} : x ∈ onceF g ↔ x ∈ g := by
  unfold onceF
  rw [onceN_mem (Nat.le_refl _), List.take_length]
theorem onceN_len {g : List (List Pr)} : ∀ {i : Nat}, (onceN g i).length ≤ i
  | 0 => Nat.le_refl _
  | i + 1 => by
    have := onceN_len (g := g) (i := i)
    rw [onceN]
    split
    · omega
    · rw [List.length_append]; simp; omega
theorem closed_grp {g : List (List Pr)} (h : closedF g = true) : Grp (onceF g) ∧ 0 < (onceF g).length := by
  unfold closedF at h
  rw [Bool.and_eq_true, Bool.and_eq_true, List.any_eq_true, List.all_eq_true, List.all_eq_true] at h
  obtain ⟨⟨e, he, h1⟩, h2, h3⟩ := h
  have hv : ∀ p ∈ g, validP p = true ∧ p.map Pr.fr = (g.getD 0 []).map Pr.fr := fun p hp => by
    have := h2 p hp
    unfold cl2 at this
    rw [Bool.and_eq_true, decide_eq_true_eq] at this
    exact this
  refine ⟨⟨onceN_nd (Nat.le_refl _), fun p hp => (hv p (onceF_mem.1 hp)).1, fun p hp q hq => ?_, fun p hp q hq => ?_, ⟨e, onceF_mem.2 he, fun s => ?_⟩⟩, List.length_pos_of_mem (onceF_mem.2 he)⟩
  · rw [(hv p (onceF_mem.1 hp)).2, (hv q (onceF_mem.1 hq)).2]
  · have hp' := onceF_mem.1 hp
    have hq' := onceF_mem.1 hq
    have h4 := List.all_eq_true.1 (h3 p hp') q hq'
    unfold cl3 cmpF at h4
    rw [if_pos ⟨(hv p hp').1, (hv q hq').1, by rw [(hv p hp').2, (hv q hq').2]⟩] at h4
    simp only [List.any_eq_true, decide_eq_true_eq] at h4
    obtain ⟨y, hy, h5⟩ := h4
    rw [h5]
    exact onceF_mem.2 hy
  · by_cases hs : s ∈ e.map Pr.fr
    · obtain ⟨x, hx, rfl⟩ := List.mem_map.1 hs
      rw [imgS_mem (valid_facts (hv e he).1).1 hx]
      have h5 := idB_iff.1 h1
      unfold idB at h1
      rw [Bool.not_eq_true', List.any_eq_false] at h1
      have := h1 x hx
      simp at this
      exact this.symm
    · exact imgS_out hs
def metN (g : List (List Pr)) (x : List Pr) (k : Nat) : Bool := (g.take k).any fun y => decide (x = y)
theorem metN_next {g : List (List Pr)} {x : List Pr} {k : Nat} (h : k < g.length) : metN g x (k + 1) = (metN g x k || decide (x = g[k])) := by
  unfold metN
  rw [take_next h, List.any_append]
  simp
theorem once_next {g : List (List Pr)} {i : Nat} (h : i < g.length) : onceN g (i + 1) = if metN g g[i] i = true then onceN g i else onceN g i ++ [g[i]] := by
  rw [onceN, List.getD_eq_getElem?_getD, List.getElem?_eq_getElem h, Option.getD_some]
  rfl
theorem OrbitCounts_of (hal : ACall Tryz.prog 10 [] (fun r => r = bl true)) (g : List (List Pr)) (s : List Tm) (fu fs : Bool) : ACall Tryz.prog 6 [.list false fu (g.map eG), .list false fs (s.map eTm)] (fun r => r = bl true) := by
  have h1 := fit_ok g s false fu false fs
  cases hf : fitB g s
  · rw [hf] at h1
    refine acall_of_awp Tryz.func6 Tryz.call6 rfl (by simp [Tryz.ntmps6]) ?_; simp only [Tryz.ntmps6, Tryz.results6]
    repeat' (first | (refine awK fun _ _ => ?_) | refine Hide.go (by assumption) ?_ | refine end_ret [] ?_; simp [go_sem] | refine stepK_is rfl (hal) (by simp) ?_ | refine stepK_is rfl (h1) (by simp) ?_ | (fail_if_success with_reducible (refine Owe.mk ?_)); (simp (disch := omega) [go_sem]))
  · rw [hf] at h1
    obtain ⟨g1, g2, g3, g4, g5⟩ := fitB_facts hf
    have h2 := Closed_ok g false fu (by omega) (fun p h => by have := g2 p h; omega)
    cases hC : closedF g
    · rw [hC] at h2
      refine acall_of_awp Tryz.func6 Tryz.call6 rfl (by simp [Tryz.ntmps6]) ?_; simp only [Tryz.ntmps6, Tryz.results6]
      repeat' (first | (refine awK fun _ _ => ?_) | refine Hide.go (by assumption) ?_ | refine end_ret [] ?_; simp [go_sem] | refine stepK_is rfl (hal) (by simp) ?_ | refine stepK_is rfl (h1) (by simp) ?_ | refine stepK_is rfl (h2) (by simp) ?_ | (fail_if_success with_reducible (refine Owe.mk ?_)); (simp (disch := omega) [go_sem]))
    · rw [hC] at h2
      obtain ⟨hG, hpos⟩ := closed_grp hC
      have hzs : ∀ t ∈ s, t.size ≤ 1000000 := fun t h => by have := g4 t h; omega
      have hz0 : onceN g 0 = [] := rfl
      clear hf hC
      refine acall_of_awp Tryz.func6 Tryz.call6 rfl (by simp [Tryz.ntmps6]) ?_; simp only [Tryz.ntmps6, Tryz.results6]
      repeat' (first | (refine awK fun _ _ => ?_) | refine Hide.go (by assumption) ?_ | refine stepK_is rfl (h1) (by simp) ?_ | refine stepK_is rfl (h2) (by simp) ?_ | (fail_if_success with_reducible (refine Owe.mk ?_)); (simp (disch := omega) [go_sem]))
      refine awp_for [0, 1] [900] (fun i : Nat => [(6, nt .i64 i), (5, .ref 900 0 (onceN g i).length)]) (fun i : Nat => [(900, ⟨true, false, false, 1, (onceN g i).map eG, 0⟩)]) (fun i : Nat => g.length - i) (fun i : Nat => i ≤ g.length) (0) (by refine Le.trans ?_ (Le.nil (i := 5) (T := 900) (es := 1) rfl); exact (Le.sub4 rfl (by simp [go_sem, hz0, List.map_nil]))) ⟨?_⟩ ?_
      · exact Nat.zero_le _
      intro i hi AA hAA; simp only [kL, Nat.reduceBEq, Nat.reduceEqDiff, if_true, if_false, List.cons_append, List.nil_append, List.append_nil]
      by_cases hlt : i < g.length
      · have hnx := once_next hlt
        have hle := onceN_len (g := g) (i := i)
        generalize onceN g i = A at *
        have hAB := hAA
        have hm0 : metN g g[i] 0 = false := by simp [metN]
        repeat' (first | (refine awK fun _ _ => ?_) | refine Hide.go (by assumption) ?_ | (fail_if_success with_reducible (refine Owe.mk ?_)); (simp (disch := omega) [go_sem, hlt]))
        refine awp_for [0, 1, 5, 6] [900] (fun k : Nat => [(8, nt .i64 k), (7, bl (metN g g[i] k))]) (fun k : Nat => [(900, ⟨true, false, false, 1, A.map eG, 0⟩)]) (fun k : Nat => i - k) (fun k : Nat => k ≤ i) (0) (Le.sub4 rfl (by simp [go_sem, hm0])) ⟨?_⟩ ?_
        · exact Nat.zero_le _
        intro k hk AA hAA; simp only [kL, Nat.reduceBEq, Nat.reduceEqDiff, if_true, if_false, List.cons_append, List.nil_append, List.append_nil]
        by_cases hkl : k < i
        · have hkg : k < g.length := by omega
          have h3 := Same29_ok g[i] g[k] false false false false
          have hn := metN_next (x := g[i]) hkg
          generalize decide (g[i] = g[k]) = c at *
          cases hF : metN g g[i] k
          · rw [hF, Bool.false_or] at hn
            repeat' (first | (refine awK fun _ _ => ?_) | refine Hide.go (by assumption) ?_ | refine dstepK_is rfl (h3) rfl (by simp) ?_ | refine (hAA.next (k + 1) (Le.sub4 rfl (by simp [go_sem, hn])) (by (try dsimp only); omega) ?_) | (fail_if_success with_reducible (refine Owe.mk ?_)); (simp (disch := omega) [go_sem, hlt, hkl, hkg, eG, hF]) | refine awp_draw 13 mix (by decide +kernel) ?_)
            all_goals (first | omega | skip)
            exact ⟨hkl⟩
          · rw [hF, Bool.true_or] at hn
            repeat' (first | (refine awK fun _ _ => ?_) | refine Hide.go (by assumption) ?_ | refine (hAA.next (k + 1) (Le.sub4 rfl (by simp [go_sem, hn])) (by (try dsimp only); omega) ?_) | (fail_if_success with_reducible (refine Owe.mk ?_)); (simp (disch := omega) [go_sem, hlt, hkl, hkg, eG, hF]) | refine awp_draw 13 mix (by decide +kernel) ?_)
            all_goals (first | omega | skip)
            exact ⟨hkl⟩
        · obtain rfl : k = i := by omega
          cases hF : metN g g[k] k
          · rw [hF] at hnx
            simp only [Bool.false_eq_true, if_false] at hnx
            repeat' (first | (refine awK fun _ _ => ?_) | refine Hide.go (by assumption) ?_ | refine (hAB.next (k + 1) (Le.sub4 rfl (by simp [go_sem, hnx, eG])) (by (try dsimp only); omega) ?_) | (fail_if_success with_reducible (refine Owe.mk ?_)); (simp (disch := omega) [go_sem, hlt, eG, hF]) | refine And.intro (by omega) ?_)
            all_goals (first | omega | skip)
            exact ⟨hlt⟩
          · rw [hF] at hnx
            simp only [if_true] at hnx
            repeat' (first | (refine awK fun _ _ => ?_) | refine Hide.go (by assumption) ?_ | refine (hAB.next (k + 1) (Le.sub4 rfl (by simp [go_sem, hnx])) (by (try dsimp only); omega) ?_) | (fail_if_success with_reducible (refine Owe.mk ?_)); (simp (disch := omega) [go_sem, hlt, eG, hF]))
            all_goals (first | omega | skip)
            exact ⟨hlt⟩
      · obtain rfl : i = g.length := by omega
        have hle := onceN_len (g := g) (i := g.length)
        rw [show onceN g g.length = onceF g from rfl] at *
        have hcnt := hG.counts s
        have hOl : (orbF (onceF g) s).length ≤ (onceF g).length := orbN_len _
        obtain ⟨r0, hhd⟩ := canF_head (s := s) hpos
        have hor : ∀ o ∈ orbF (onceF g) s, orbF (onceF g) o = orbF (onceF g) s ∧ (canF (onceF g) o).1 = (canF (onceF g) s).1 ∧ o.length ≤ s.length ∧ ∀ t ∈ o, t.size ≤ 1000000 := fun o ho => by
          obtain ⟨p, hp, rfl⟩ := orbF_mem.1 ho
          refine ⟨hG.orbit hp s, hG.canon hp s, stF_len p s, fun t ht => ?_⟩
          obtain ⟨u, hu, rfl⟩ := List.mem_map.1 ((sort_mem _ _).1 ht)
          rw [imL_size]
          exact hzs u hu
        have k1 := (Orbit_ok (onceF g) s true false false fs (by omega) (by omega) hzs).frz
        have k2 := Canon_ok (onceF g) s true false false fs (by omega) (by omega) hzs
        have kst := (Stabilizer_ok (onceF g) s true false fs (by omega) (fun p hp => by have := g2 p (onceF_mem.1 hp); omega) (by omega) hzs).frz
        have hca : ∀ o ∈ orbF (onceF g) s, _ := fun o ho => Canon_ok (onceF g) o true false false false (by omega) (by have := (hor o ho).2.2.1; omega) (hor o ho).2.2.2
        have hob : ∀ o ∈ orbF (onceF g) s, _ := fun o ho => (Orbit_ok (onceF g) o true false false false (by omega) (by have := (hor o ho).2.2.1; omega) (hor o ho).2.2.2).frz
        have k5 := TermLists_ok (orbF (onceF g) s) (orbF (onceF g) s) false false false false
        have k6 := plainTermsD_ok (canF (onceF g) s).1 (canF (onceF g) s).1 false false false false
        rw [decide_eq_true rfl] at k5 k6
        have hlenT : True := trivial
        generalize (onceF g).filter (stbB s) = T at *
        generalize hX : canF (onceF g) s = C at *
        generalize orbF (onceF g) s = O at *
        generalize onceF g = G at *
        obtain ⟨c, n⟩ := C
        dsimp only at *
        repeat' (first | (refine awK fun _ _ => ?_) | refine Hide.go (by assumption) ?_ | refine stepK_is ?hl (k1) (by simp) ?_; (case hl => (simp [go_sem, hlenT, eLs]; done)) | refine stepK_is ?hl (k2) (by simp) ?_; (case hl => (simp [go_sem, hlenT, eLs]; done)) | (fail_if_success with_reducible (refine Owe.mk ?_)); (simp (disch := omega) [go_sem, hlenT, eLs]))
        refine awp_for [1, 5, 9, 10] [900] (fun j : Nat => [(12, nt .i64 j)]) (fun j : Nat => [(900, ⟨true, false, false, 1, G.map eG, 0⟩)]) (fun j : Nat => O.length - j) (fun j : Nat => j ≤ O.length) (0) (Le.sub4 rfl (by simp [go_sem])) ⟨?_⟩ ?_
        · exact Nat.zero_le _
        intro j hj AA hAA; simp only [kL, Nat.reduceBEq, Nat.reduceEqDiff, if_true, if_false, List.cons_append, List.nil_append, List.append_nil]
        by_cases hjl : j < O.length
        · obtain ⟨q1, q2, -, -⟩ := hor O[j] (List.getElem_mem hjl)
          have k3 := hca O[j] (List.getElem_mem hjl)
          have k4 := hob O[j] (List.getElem_mem hjl)
          rw [q1] at k4
          generalize canF G O[j] = D at *
          obtain ⟨d, m⟩ := D
          dsimp only at *
          subst q2
          repeat' (first | (refine awK fun _ _ => ?_) | refine Hide.go (by assumption) ?_ | refine stepK_is rfl (k5) (by simp) ?_ | refine stepK_is rfl (k6) (by simp) ?_ | refine stepK_is ?hl (k3) (by simp) ?_; (case hl => (simp [go_sem, hlenT, hjl, eLs]; done)) | refine stepK_is ?hl (k4) (by simp) ?_; (case hl => (simp [go_sem, hlenT, hjl, eLs]; done)) | refine (hAA.next (j + 1) (Le.sub4 rfl (by simp [go_sem])) (by (try dsimp only); omega) ?_) | (fail_if_success with_reducible (refine Owe.mk ?_)); (simp (disch := omega) [go_sem, hlenT, hjl, eLs]))
          all_goals (first | omega | skip)
          exact ⟨hjl⟩
        · obtain rfl : j = O.length := by omega
          have hl0 : (0 : Int) < O.length := by rw [hhd]; simp only [List.length_cons]; omega
          have hcn : (O.length : Int) * T.length = G.length := by rw [hcnt]; exact (Int.natCast_mul _ _).symm
          have h00 : O[0]'(by omega) = c := by simp [hhd]
          repeat' (first | (refine awK fun _ _ => ?_) | refine Hide.go (by assumption) ?_ | refine zgd ?_ ?_ <;> (intro h; first | (exfalso; omega) | (simp only [h, decide_true, decide_false, not_false_eq_true])) | refine end_ret [] ?_; simp [go_sem, hlenT, hl0, hcn, h00, eLs] | refine stepK_is rfl (hal) (by simp) ?_ | refine stepK_is rfl (k6) (by simp) ?_ | refine stepK_is ?hl (kst) (by simp) ?_; (case hl => (simp [go_sem, hlenT, hl0, hcn, h00, eLs]; done)) | (fail_if_success with_reducible (refine Owe.mk ?_)); (simp (disch := omega) [go_sem, hlenT, hl0, hcn, h00, eLs]) | refine And.intro (by omega) ?_)
theorem OrbitCounts_ok (g : List (List Pr)) (s : List Tm) (_ _ : True) : ACall Tryz.prog 6 [.list false false (g.map eG), .list false false (s.map eTm)] (fun r => r = bl true) := OrbitCounts_of alive_ok g s false false
open Go.RowKit
section
variable {H : Type} {enc : TypeId × Value → H} {W : World}
theorem came_term_terms : ∀ n : Nat, Came enc Tryz.prog W n 48 eT (fun _ => True) ∧ Came enc Tryz.prog W n 24 (fun l : List Tm => .list false false (l.map eTm)) (fun _ => True)
  | 0 => ⟨Came.zero, Came.zero⟩
  | n + 1 => by
    obtain ⟨h1, h2⟩ := came_term_terms n
    refine ⟨(Came.struct Tryz.underlying48 rfl (by kernel_rfl) (CameF.cons 1 rfl (by kernel_rfl) (Came.string Tryz.underlying9) (CameF.cons 1 rfl (by kernel_rfl) h2 CameF.nil))).map (fun x => Tm.mk x.1 x.2.1) (fun x h => ⟨trivial, rfl⟩), ?_⟩
    refine (Came.slice Tryz.underlying24 (by decide +kernel) (by decide +kernel) h1).map (fun x => x) (fun x h => ⟨trivial, ?_⟩)
    congr 1
    exact List.map_congr_left fun t _ => eTm_eq t
theorem came_terms (n : Nat) : Came enc Tryz.prog W n 24 (fun l : List Tm => .list false false (l.map eTm)) (fun _ => True) := (came_term_terms n).2
end
end Go.Proofs.YtmadpbpmcbdboaaGreat
