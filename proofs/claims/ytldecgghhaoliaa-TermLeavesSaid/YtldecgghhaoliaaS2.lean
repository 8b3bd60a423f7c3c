import Derived.Test.YtldecgghhaoliaaS1
set_option linter.unusedSimpArgs false
set_option linter.unusedVariables false
namespace Go.Proofs.Ytldecgghhaoliaa
open Go.Ab
set_option maxRecDepth 100000
set_option maxHeartbeats 8000000
def eStr (s : ByteArray) : AV := .sc (.string s)
mutual
def lvs : Tm → List ByteArray
  | .mk s ts => if ts.length = 0 then [s] else lvsS ts
def lvsS : List Tm → List ByteArray
  | [] => []
  | t :: r => lvs t ++ lvsS r
end
theorem lvs_mk {s : ByteArray} {ts : List Tm} : lvs (.mk s ts) = if ts.length = 0 then [s] else lvsS ts := rfl
theorem lvsS_append : ∀ a b : List Tm, lvsS (a ++ b) = lvsS a ++ lvsS b
  | [], b => by simp [lvsS]
  | t :: r, b => by simp [lvsS, lvsS_append r b]
theorem lvsS_next {ts : List Tm} {i : Nat} (h : i < ts.length) : lvsS (ts.take (i + 1)) = lvsS (ts.take i) ++ lvs ts[i] := by
  rw [take_next h, lvsS_append]; simp [lvsS]
theorem lvsS_take_le (ts : List Tm) (i : Nat) : (lvsS (ts.take i)).length ≤ (lvsS ts).length := by
  have := lvsS_append (ts.take i) (ts.drop i)
  rw [List.take_append_drop] at this
  simp only [this, List.length_append]; omega
theorem lvs_pos : ∀ t : Tm, 0 < (lvs t).length := by
  refine tm_ind fun t ih => ?_
  obtain ⟨s, ts⟩ := t
  simp only [args_mk] at ih
  rw [lvs_mk]
  split
  · simp
  · cases ts with
    | nil => simp at *
    | cons u r =>
      have := ih u (by simp)
      simp only [lvsS, List.length_append]; omega
theorem lvsS_ge : ∀ ts : List Tm, ts.length ≤ (lvsS ts).length
  | [] => Nat.le_refl _
  | t :: r => by
    have := lvsS_ge r
    have := lvs_pos t
    simp only [lvsS, List.length_append, List.length_cons]; omega
theorem leaves_row : ∀ t : Tm, ∀ xs : List ByteArray, xs.length + (lvs t).length ≤ 1000000 → MCall Try.prog 65 [.ref 1000 0 xs.length, eT t] [(1000, ⟨true, false, true, 1, xs.map eStr, 0⟩)] (fun r o' => r = .ref 1001 0 (xs ++ lvs t).length ∧ o' = [(1001, ⟨true, false, false, 1, (xs ++ lvs t).map eStr, 0⟩)]) := by
  refine tm_ind fun t ih xs hb => ?_
  obtain ⟨s, ts⟩ := t
  simp only [args_mk, name_mk] at *
  rw [lvs_mk] at *
  by_cases h0 : ts.length = 0
  · rw [if_pos h0] at hb ⊢
    simp only [List.length_cons, List.length_nil] at hb
    refine mcall_of_awpL Try.func65 Try.call65 rfl (by simp [Try.ntmps65]) ?_; simp only [Try.ntmps65, Try.results65]
    repeat' (first | (refine awK fun _ _ => ?_) | refine Hide.go (by assumption) ?_ | (first | refine zqd ?_ ?_ | refine zqn ?_ ?_ | refine zgd ?_ ?_ | refine zgn ?_ ?_ | refine zdd ?_ ?_ | refine zdn ?_ ?_) <;> (intro h; first | (exfalso; omega) | (simp only [h, decide_true, decide_false, not_false_eq_true]) | skip) | refine end_ret [] ?_; simp [go_sem, h0] | (fail_if_success with_reducible (refine Owe.mk ?_)); (simp (disch := omega) [go_sem, h0]) | refine And.intro (by omega) ?_ | refine And.intro (And.intro (by assumption) (by omega)) ?_ | (refine nbI fun bq => ?_) | (first | refine zqm ?_ ?_ | refine zgm ?_ ?_ | refine zdm ?_ ?_) <;> (intro h; simp only [h, Bool.not_true, Bool.not_false]) | (first | refine zqs ?_ ?_ | refine zgs ?_ ?_ | refine zds ?_ ?_) <;> (intro h; first | (exfalso; simp at h; omega) | ((try simp only [h]); (try simp at h))))
    refine endL_ret ⟨28, [(4, .ref 1001 0 (xs ++ [s]).length)], [(1001, ⟨true, false, false, 1, (xs ++ [s]).map eStr, 0⟩)]⟩ [.ref 1001 0 (xs ++ [s]).length] (Le.renSub [(15, 1001)] [(1001, 15)] (by simp [go_sem, eStr]) (by simp [go_sem, eStr]) (Le.sub4 rfl (by simp [go_sem, eStr]))) (by simp [go_sem, eStr]) ⟨by simp [pack], by simp⟩
  · rw [if_neg h0] at hb ⊢
    have hle := lvsS_take_le ts
    have hge := lvsS_ge ts
    refine mcall_of_awpL Try.func65 Try.call65 rfl (by simp [Try.ntmps65]) ?_; simp only [Try.ntmps65, Try.results65]
    repeat' (first | (refine awK fun _ _ => ?_) | refine Hide.go (by assumption) ?_ | (first | refine zqd ?_ ?_ | refine zqn ?_ ?_ | refine zgd ?_ ?_ | refine zgn ?_ ?_ | refine zdd ?_ ?_ | refine zdn ?_ ?_) <;> (intro h; first | (exfalso; omega) | (simp only [h, decide_true, decide_false, not_false_eq_true]) | skip) | refine end_ret [] ?_; simp [go_sem, h0] | (fail_if_success with_reducible (refine Owe.mk ?_)); (simp (disch := omega) [go_sem, h0]) | refine And.intro (by omega) ?_ | refine And.intro (And.intro (by assumption) (by omega)) ?_ | (refine nbI fun bq => ?_) | (first | refine zqm ?_ ?_ | refine zgm ?_ ?_ | refine zdm ?_ ?_) <;> (intro h; simp only [h, Bool.not_true, Bool.not_false]) | (first | refine zqs ?_ ?_ | refine zgs ?_ ?_ | refine zds ?_ ?_) <;> (intro h; first | (exfalso; simp at h; omega) | ((try simp only [h]); (try simp at h))))
    refine awp_for [17, 18] [900, 1000] (fun i : Nat => [(19, nt .i64 i), (0, .ref 900 0 (xs ++ lvsS (ts.take i)).length)]) (fun i : Nat => [(900, ⟨true, false, false, 1, (xs ++ lvsS (ts.take i)).map eStr, 0⟩)]) (fun i : Nat => ts.length - i) (fun i : Nat => i ≤ ts.length) (0) (by refine Le.trans ?_ (Le.move (i := 0) (T := 1000) (T' := 900) rfl (by show (0 : Nat) ≠ 1; decide) rfl rfl rfl); exact (Le.sub4 rfl (by simp [go_sem, List.take_zero, lvsS]))) ⟨?_⟩ ?_
    · exact Nat.zero_le _
    intro i hi AA hAA; simp only [kL, Nat.reduceBEq, Nat.reduceEqDiff, if_true, if_false, List.cons_append, List.nil_append, List.append_nil]
    by_cases hlt : i < ts.length
    · have hn := lvsS_next hlt
      have hl1 := hle (i + 1)
      rw [hn] at hl1
      rw [List.length_append] at hl1
      have hu := ih ts[i] (List.getElem_mem hlt) (xs ++ lvsS (ts.take i)) (by rw [List.length_append]; omega)
      rw [List.append_assoc, ← hn] at hu
      generalize xs ++ lvsS (ts.take i) = A at *
      repeat' (first | (refine awK fun _ _ => ?_) | refine Hide.go (by assumption) ?_ | (first | refine zqd ?_ ?_ | refine zqn ?_ ?_ | refine zgd ?_ ?_ | refine zgn ?_ ?_ | refine zdd ?_ ?_ | refine zdn ?_ ?_) <;> (intro h; first | (exfalso; omega) | (simp only [h, decide_true, decide_false, not_false_eq_true]) | skip) | refine end_ret [] ?_; simp [go_sem, hlt] | (fail_if_success with_reducible (refine Owe.mk ?_)); (simp (disch := omega) [go_sem, hlt]) | refine And.intro (by omega) ?_ | refine And.intro (And.intro (by assumption) (by omega)) ?_ | (refine nbI fun bq => ?_) | (first | refine zqm ?_ ?_ | refine zgm ?_ ?_ | refine zdm ?_ ?_) <;> (intro h; simp only [h, Bool.not_true, Bool.not_false]) | (first | refine zqs ?_ ?_ | refine zgs ?_ ?_ | refine zds ?_ ?_) <;> (intro h; first | (exfalso; simp at h; omega) | ((try simp only [h]); (try simp at h))))
      refine stepK_fis [(1000, 900)] [(900, 1000)] 10000 _ _ (Fits.mk' (by simp [go_sem]) (by simp [go_sem])) (by simp [go_sem]) (by simp [go_sem]) (hu) (by simp [go_sem]) (by simp [go_sem]) ?_
      repeat' (first | (refine awK fun _ _ => ?_) | refine Hide.go (by assumption) ?_ | (first | refine zqd ?_ ?_ | refine zqn ?_ ?_ | refine zgd ?_ ?_ | refine zgn ?_ ?_ | refine zdd ?_ ?_ | refine zdn ?_ ?_) <;> (intro h; first | (exfalso; omega) | (simp only [h, decide_true, decide_false, not_false_eq_true]) | skip) | refine end_ret [] ?_; simp [go_sem, hlt] | refine (hAA.next (i + 1) (Le.renSub [(11001, 900)] [(900, 11001)] (by simp [go_sem]) (by simp [go_sem]) (Le.sub4 rfl (by simp [go_sem]))) (by (try dsimp only); omega) ?_) | (fail_if_success with_reducible (refine Owe.mk ?_)); (simp (disch := omega) [go_sem, hlt]) | refine And.intro (by omega) ?_ | refine And.intro (And.intro (by assumption) (by omega)) ?_ | (refine nbI fun bq => ?_) | (first | refine zqm ?_ ?_ | refine zgm ?_ ?_ | refine zdm ?_ ?_) <;> (intro h; simp only [h, Bool.not_true, Bool.not_false]) | (first | refine zqs ?_ ?_ | refine zgs ?_ ?_ | refine zds ?_ ?_) <;> (intro h; first | (exfalso; simp at h; omega) | ((try simp only [h]); (try simp at h))))
      all_goals (first | omega | skip)
      exact ⟨hlt⟩
    · obtain rfl : i = ts.length := by omega
      rw [List.take_length]
      repeat' (first | (refine awK fun _ _ => ?_) | refine Hide.go (by assumption) ?_ | (first | refine zqd ?_ ?_ | refine zqn ?_ ?_ | refine zgd ?_ ?_ | refine zgn ?_ ?_ | refine zdd ?_ ?_ | refine zdn ?_ ?_) <;> (intro h; first | (exfalso; omega) | (simp only [h, decide_true, decide_false, not_false_eq_true]) | skip) | refine end_ret [] ?_; simp [go_sem] | (fail_if_success with_reducible (refine Owe.mk ?_)); (simp (disch := omega) [go_sem]) | refine And.intro (by omega) ?_ | refine And.intro (And.intro (by assumption) (by omega)) ?_ | (refine nbI fun bq => ?_) | (first | refine zqm ?_ ?_ | refine zgm ?_ ?_ | refine zdm ?_ ?_) <;> (intro h; simp only [h, Bool.not_true, Bool.not_false]) | (first | refine zqs ?_ ?_ | refine zgs ?_ ?_ | refine zds ?_ ?_) <;> (intro h; first | (exfalso; simp at h; omega) | ((try simp only [h]); (try simp at h))))
      refine endL_ret ⟨28, [(4, .ref 1001 0 (xs ++ lvsS ts).length)], [(1001, ⟨true, false, false, 1, (xs ++ lvsS ts).map eStr, 0⟩)]⟩ [.ref 1001 0 (xs ++ lvsS ts).length] (Le.renSub [(900, 1001)] [(1001, 900)] (by simp [go_sem]) (by simp [go_sem]) (Le.sub4 rfl (by simp [go_sem]))) (by simp [go_sem]) ⟨by simp [pack], by simp⟩
theorem leaves_ok (t : Tm) (hb : (lvs t).length ≤ 1000000) : ACall Try.prog 65 [.list false true [], eT t] (fun r => r = .own 1 ((lvs t).map eStr)) := by
  obtain ⟨s, ts⟩ := t
  rw [lvs_mk] at *
  by_cases h0 : ts.length = 0
  · rw [if_pos h0] at hb ⊢
    refine acall_of_awp Try.func65 Try.call65 rfl (by simp [Try.ntmps65]) ?_; simp only [Try.ntmps65, Try.results65]
    repeat' (first | (refine awK fun _ _ => ?_) | refine Hide.go (by assumption) ?_ | (first | refine zqd ?_ ?_ | refine zqn ?_ ?_ | refine zgd ?_ ?_ | refine zgn ?_ ?_ | refine zdd ?_ ?_ | refine zdn ?_ ?_) <;> (intro h; first | (exfalso; omega) | (simp only [h, decide_true, decide_false, not_false_eq_true]) | skip) | refine end_ret [] ?_; simp [go_sem, h0, eStr] | (fail_if_success with_reducible (refine Owe.mk ?_)); (simp (disch := omega) [go_sem, h0, eStr]) | refine And.intro (by omega) ?_ | refine And.intro (And.intro (by assumption) (by omega)) ?_ | (refine nbI fun bq => ?_) | (first | refine zqm ?_ ?_ | refine zgm ?_ ?_ | refine zdm ?_ ?_) <;> (intro h; simp only [h, Bool.not_true, Bool.not_false]) | (first | refine zqs ?_ ?_ | refine zgs ?_ ?_ | refine zds ?_ ?_) <;> (intro h; first | (exfalso; simp at h; omega) | ((try simp only [h]); (try simp at h))))
  · rw [if_neg h0] at hb ⊢
    have hle := lvsS_take_le ts
    have hge := lvsS_ge ts
    refine acall_of_awp Try.func65 Try.call65 rfl (by simp [Try.ntmps65]) ?_; simp only [Try.ntmps65, Try.results65]
    repeat' (first | (refine awK fun _ _ => ?_) | refine Hide.go (by assumption) ?_ | (first | refine zqd ?_ ?_ | refine zqn ?_ ?_ | refine zgd ?_ ?_ | refine zgn ?_ ?_ | refine zdd ?_ ?_ | refine zdn ?_ ?_) <;> (intro h; first | (exfalso; omega) | (simp only [h, decide_true, decide_false, not_false_eq_true]) | skip) | refine end_ret [] ?_; simp [go_sem, h0] | (fail_if_success with_reducible (refine Owe.mk ?_)); (simp (disch := omega) [go_sem, h0]) | refine And.intro (by omega) ?_ | refine And.intro (And.intro (by assumption) (by omega)) ?_ | (refine nbI fun bq => ?_) | (first | refine zqm ?_ ?_ | refine zgm ?_ ?_ | refine zdm ?_ ?_) <;> (intro h; simp only [h, Bool.not_true, Bool.not_false]) | (first | refine zqs ?_ ?_ | refine zgs ?_ ?_ | refine zds ?_ ?_) <;> (intro h; first | (exfalso; simp at h; omega) | ((try simp only [h]); (try simp at h))))
    refine awp_for [17, 18] [900] (fun i : Nat => [(19, nt .i64 i), (0, .ref 900 0 (lvsS (ts.take i)).length)]) (fun i : Nat => [(900, ⟨true, false, false, 1, (lvsS (ts.take i)).map eStr, 0⟩)]) (fun i : Nat => ts.length - i) (fun i : Nat => i ≤ ts.length) (0) (by refine Le.trans ?_ (Le.nil (i := 0) (T := 900) (es := 1) rfl); exact (Le.sub4 rfl (by simp [go_sem, List.take_zero, lvsS]))) ⟨?_⟩ ?_
    · exact Nat.zero_le _
    intro i hi AA hAA; simp only [kL, Nat.reduceBEq, Nat.reduceEqDiff, if_true, if_false, List.cons_append, List.nil_append, List.append_nil]
    by_cases hlt : i < ts.length
    · have hn := lvsS_next hlt
      have hl1 := hle (i + 1)
      rw [hn] at hl1
      rw [List.length_append] at hl1
      have hu := leaves_row ts[i] (lvsS (ts.take i)) (by omega)
      rw [← hn] at hu
      generalize lvsS (ts.take i) = A at *
      repeat' (first | (refine awK fun _ _ => ?_) | refine Hide.go (by assumption) ?_ | (first | refine zqd ?_ ?_ | refine zqn ?_ ?_ | refine zgd ?_ ?_ | refine zgn ?_ ?_ | refine zdd ?_ ?_ | refine zdn ?_ ?_) <;> (intro h; first | (exfalso; omega) | (simp only [h, decide_true, decide_false, not_false_eq_true]) | skip) | refine end_ret [] ?_; simp [go_sem, hlt] | (fail_if_success with_reducible (refine Owe.mk ?_)); (simp (disch := omega) [go_sem, hlt]) | refine And.intro (by omega) ?_ | refine And.intro (And.intro (by assumption) (by omega)) ?_ | (refine nbI fun bq => ?_) | (first | refine zqm ?_ ?_ | refine zgm ?_ ?_ | refine zdm ?_ ?_) <;> (intro h; simp only [h, Bool.not_true, Bool.not_false]) | (first | refine zqs ?_ ?_ | refine zgs ?_ ?_ | refine zds ?_ ?_) <;> (intro h; first | (exfalso; simp at h; omega) | ((try simp only [h]); (try simp at h))))
      refine stepK_fis [(1000, 900)] [(900, 1000)] 10000 _ _ (Fits.mk' (by simp [go_sem]) (by simp [go_sem])) (by simp [go_sem]) (by simp [go_sem]) (hu) (by simp [go_sem]) (by simp [go_sem]) ?_
      repeat' (first | (refine awK fun _ _ => ?_) | refine Hide.go (by assumption) ?_ | (first | refine zqd ?_ ?_ | refine zqn ?_ ?_ | refine zgd ?_ ?_ | refine zgn ?_ ?_ | refine zdd ?_ ?_ | refine zdn ?_ ?_) <;> (intro h; first | (exfalso; omega) | (simp only [h, decide_true, decide_false, not_false_eq_true]) | skip) | refine end_ret [] ?_; simp [go_sem, hlt] | refine (hAA.next (i + 1) (Le.renSub [(11001, 900)] [(900, 11001)] (by simp [go_sem]) (by simp [go_sem]) (Le.sub4 rfl (by simp [go_sem]))) (by (try dsimp only); omega) ?_) | (fail_if_success with_reducible (refine Owe.mk ?_)); (simp (disch := omega) [go_sem, hlt]) | refine And.intro (by omega) ?_ | refine And.intro (And.intro (by assumption) (by omega)) ?_ | (refine nbI fun bq => ?_) | (first | refine zqm ?_ ?_ | refine zgm ?_ ?_ | refine zdm ?_ ?_) <;> (intro h; simp only [h, Bool.not_true, Bool.not_false]) | (first | refine zqs ?_ ?_ | refine zgs ?_ ?_ | refine zds ?_ ?_) <;> (intro h; first | (exfalso; simp at h; omega) | ((try simp only [h]); (try simp at h))))
      all_goals (first | omega | skip)
      exact ⟨hlt⟩
    · obtain rfl : i = ts.length := by omega
      rw [List.take_length]
      repeat' (first | (refine awK fun _ _ => ?_) | refine Hide.go (by assumption) ?_ | (first | refine zqd ?_ ?_ | refine zqn ?_ ?_ | refine zgd ?_ ?_ | refine zgn ?_ ?_ | refine zdd ?_ ?_ | refine zdn ?_ ?_) <;> (intro h; first | (exfalso; omega) | (simp only [h, decide_true, decide_false, not_false_eq_true]) | skip) | refine end_ret [] ?_; simp [go_sem] | (fail_if_success with_reducible (refine Owe.mk ?_)); (simp (disch := omega) [go_sem]) | refine And.intro (by omega) ?_ | refine And.intro (And.intro (by assumption) (by omega)) ?_ | (refine nbI fun bq => ?_) | (first | refine zqm ?_ ?_ | refine zgm ?_ ?_ | refine zdm ?_ ?_) <;> (intro h; simp only [h, Bool.not_true, Bool.not_false]) | (first | refine zqs ?_ ?_ | refine zgs ?_ ?_ | refine zds ?_ ?_) <;> (intro h; first | (exfalso; simp at h; omega) | ((try simp only [h]); (try simp at h))))
open Go.Ab
set_option maxRecDepth 100000
set_option maxHeartbeats 4000000
mutual
def partsT (m : Int) : Int → Tm → Int
  | lv, .mk _ ts => if lv < 1 then m + 1 else partsL m (lv - 1) 1 ts
def partsL (m : Int) : Int → Int → List Tm → Int
  | _, n, [] => n
  | lv, n, t :: r => if n > m then n else partsL m lv (n + partsT m lv t) r
end
theorem parts_eq {m lv : Int} {t : Tm} : partsT m lv t = if lv < 1 then m + 1 else partsL m (lv - 1) 1 t.args := by cases t; rfl
theorem partsL_ge {m : Int} (hm : 0 ≤ m) : ∀ (t : Tm) (lv : Int), 1 ≤ partsT m lv t := by
  refine tm_ind fun t ih lv => ?_
  rw [parts_eq]
  split
  · omega
  · have key : ∀ (r : List Tm), (∀ u ∈ r, ∀ lv, 1 ≤ partsT m lv u) → ∀ n, 1 ≤ n → 1 ≤ partsL m (lv - 1) n r := by
      intro r
      induction r with
      | nil => intro _ n hn; simpa [partsL] using hn
      | cons u r ihr =>
        intro h n hn
        simp only [partsL]
        split
        · exact hn
        · have := h u (by simp) (lv - 1)
          exact ihr (fun v hv => h v (by simp [hv])) _ (by omega)
    exact key t.args ih 1 (by omega)
theorem parts_le {m : Int} (hm : 0 ≤ m) : ∀ (k : Nat) (t : Tm) (lv : Int), lv ≤ k → partsT m lv t ≤ (k + 1) * (m + 1) := by
  intro k
  induction k with
  | zero =>
    intro t lv h
    rw [parts_eq, if_pos (by omega)]
    simp
  | succ k ih =>
    intro t lv h
    rw [parts_eq]
    have e : ((k + 1 : Nat) + 1 : Int) * (m + 1) = ((k : Int) + 1) * (m + 1) + (m + 1) := by
      rw [show ((k + 1 : Nat) + 1 : Int) = ((k : Int) + 1) + 1 by omega, Int.add_mul, Int.one_mul]
    have hp : 0 ≤ ((k : Int) + 1) * (m + 1) := Int.mul_nonneg (by omega) (by omega)
    split
    · omega
    · have key : ∀ (r : List Tm) (n : Int), n ≤ ((k : Int) + 1) * (m + 1) + m + 1 → partsL m (lv - 1) n r ≤ ((k : Int) + 1) * (m + 1) + m + 1 := by
        intro r
        induction r with
        | nil => intro n hn; simpa [partsL] using hn
        | cons u r ihr =>
          intro n hn
          simp only [partsL]
          split
          · exact hn
          · have := ih u (lv - 1) (by omega)
            exact ihr _ (by omega)
      have h1 : 1 ≤ ((k : Int) + 1) * (m + 1) + m + 1 := by omega
      have := key t.args 1 h1
      omega
theorem parts_size {m : Int} (hm : 0 ≤ m) : ∀ (t : Tm) (lv : Int), partsT m lv t ≤ m → (partsT m lv t = t.size ∧ (t.depth : Int) ≤ lv) := by
  refine tm_ind fun t ih lv h => ?_
  rw [parts_eq] at *
  split at h
  · omega
  · rename_i hl
    rw [if_neg hl]
    have key : ∀ (r : List Tm), (∀ u ∈ r, u ∈ t.args) → ∀ n, 1 ≤ n → partsL m (lv - 1) n r ≤ m → partsL m (lv - 1) n r = n + sizeL r ∧ (depthL r : Int) ≤ lv - 1 := by
      intro r
      induction r with
      | nil => intro _ n hn _; simp [partsL, sizeL, depthL]; omega
      | cons u r ihr =>
        intro hr n hn hp
        simp only [partsL] at *
        split at hp
        · omega
        · rename_i hc
          rw [if_neg hc]
          have g := partsL_ge hm u (lv - 1)
          have hmono : ∀ (r : List Tm) (n : Int), n ≤ partsL m (lv - 1) n r := by
            intro r
            induction r with
            | nil => intro n; simp [partsL]
            | cons u r ihr =>
              intro n
              simp only [partsL]
              split
              · omega
              · have g := partsL_ge hm u (lv - 1)
                have := ihr (n + partsT m (lv - 1) u)
                omega
          have h2 := hmono r (n + partsT m (lv - 1) u)
          obtain ⟨a1, a2⟩ := ih u (hr u (by simp)) (lv - 1) (by omega)
          obtain ⟨b1, b2⟩ := ihr (fun v hv => hr v (by simp [hv])) (n + partsT m (lv - 1) u) (by omega) hp
          simp only [sizeL, depthL]
          omega
    obtain ⟨a1, a2⟩ := key t.args (fun u hu => hu) 1 (by omega) h
    rw [size_eq, depth_eq]
    omega
def smallT (m : Int) (t : Tm) : Bool := decide (partsT m m t ≤ m)
theorem smallT_size {m : Int} (hm : 0 ≤ m) {t : Tm} (h : smallT m t = true) : (t.size : Int) ≤ m := by
  have := of_decide_eq_true h
  have := (parts_size hm t m this).1
  omega
theorem parts_bd {m : Int} (hm : 0 ≤ m ∧ m ≤ 10000) (t : Tm) {lv : Int} (h : lv ≤ 10000) : 1 ≤ partsT m lv t ∧ partsT m lv t ≤ 100020001 := by
  refine ⟨partsL_ge hm.1 t lv, ?_⟩
  have h1 := parts_le hm.1 10000 t lv h
  omega
theorem parts_ok (m : Int) (hm : 0 ≤ m ∧ m ≤ 10000) : ∀ (t : Tm) (lv : Int), lv ≤ 10000 → -10000 ≤ lv → ACall Try.prog 48 [eT t, nt .i64 m, nt .i64 lv] (fun r => r = nt .i64 (partsT m lv t)) := by
  refine tm_ind fun t ih lv hlv hlv2 => ?_
  obtain ⟨s, ts⟩ := t
  rw [parts_eq]
  simp only [args_mk] at *
  by_cases hl : lv < 1
  · rw [if_pos hl]
    refine acall_of_awp Try.func48 Try.call48 rfl (by simp [Try.ntmps48]) ?_; simp only [Try.ntmps48, Try.results48]
    repeat' (first | (refine awK fun _ _ => ?_) | refine Hide.go (by assumption) ?_ | refine zqd ?_ ?_ <;> (intro h; first | (exfalso; omega) | (simp only [h, decide_true, decide_false, not_false_eq_true])) | refine end_ret [] ?_; simp [go_sem] | (fail_if_success with_reducible (refine Owe.mk ?_)); (simp (disch := omega) [go_sem]))
  · rw [if_neg hl]
    generalize hR : partsL m (lv - 1) 1 ts = R
    refine acall_of_awp Try.func48 Try.call48 rfl (by simp [Try.ntmps48]) ?_; simp only [Try.ntmps48, Try.results48]
    repeat' (first | (refine awK fun _ _ => ?_) | refine Hide.go (by assumption) ?_ | refine zqd ?_ ?_ <;> (intro h; first | (exfalso; omega) | (simp only [h, decide_true, decide_false, not_false_eq_true])) | (fail_if_success with_reducible (refine Owe.mk ?_)); (simp (disch := omega) [go_sem]))
    refine awp_for [1, 2, 3, 15] [] (fun x : Nat × Int => [(16, nt .i64 x.1), (7, nt .i64 x.2)]) (fun x : Nat × Int => []) (fun x : Nat × Int => ts.length - x.1) (fun x : Nat × Int => x.1 ≤ ts.length ∧ 1 + (x.1 : Int) ≤ x.2 ∧ x.2 ≤ 100040001 ∧ (x.1 < ts.length → x.1 ≤ 10000 ∨ x.2 > m) ∧ partsL m (lv - 1) x.2 (ts.drop x.1) = R) ((0, 1)) (Le.sub4 rfl (by simp [go_sem])) ⟨?_⟩ ?_
    · exact ⟨Nat.zero_le _, by simp, by simp, by simp, by simpa using hR⟩
    intro ⟨i, n⟩ ⟨hi, hn, hn2, hbd, hr⟩ AA hAA; simp only [kL, Nat.reduceBEq, Nat.reduceEqDiff, if_true, if_false, List.cons_append, List.nil_append, List.append_nil]
    dsimp only at *
    by_cases hlt : i < ts.length
    · have hu := ih ts[i] (List.getElem_mem hlt) (lv - 1) (by omega) (by omega)
      have hb := parts_bd hm ts[i] (lv := lv - 1) (by omega)
      have hd : ts.drop i = ts[i] :: ts.drop (i + 1) := List.drop_eq_getElem_cons hlt
      rw [hd] at hr
      simp only [partsL] at hr
      by_cases hc : n > m
      · rw [if_pos hc] at hr
        repeat' (first | (refine awK fun _ _ => ?_) | refine Hide.go (by assumption) ?_ | refine zqd ?_ ?_ <;> (intro h; first | (exfalso; omega) | (simp only [h, decide_true, decide_false, not_false_eq_true])) | refine end_ret [] ?_; simp [go_sem, hlt, hr] | (fail_if_success with_reducible (refine Owe.mk ?_)); (simp (disch := omega) [go_sem, hlt, hr]))
      · rw [if_neg hc] at hr
        repeat' (first | (refine awK fun _ _ => ?_) | refine Hide.go (by assumption) ?_ | refine zqd ?_ ?_ <;> (intro h; first | (exfalso; omega) | (simp only [h, decide_true, decide_false, not_false_eq_true])) | refine stepK_is rfl (hu) (by simp) ?_ | refine (hAA.next ((i + 1, n + partsT m (lv - 1) ts[i])) (Le.sub4 rfl (by simp [go_sem])) (by (try dsimp only); omega) ?_) | (fail_if_success with_reducible (refine Owe.mk ?_)); (simp (disch := omega) [go_sem, hlt]))
        exact ⟨⟨by omega, by omega, by omega, by omega, hr⟩⟩
    · obtain rfl : i = ts.length := by omega
      simp [partsL] at hr
      repeat' (first | (refine awK fun _ _ => ?_) | refine Hide.go (by assumption) ?_ | refine end_ret [] ?_; simp [go_sem] | (fail_if_success with_reducible (refine Owe.mk ?_)); (simp (disch := omega) [go_sem]))
      exact hr
theorem Small_ok (t : Tm) (m : Int) (hm : 0 ≤ m ∧ m ≤ 10000) : ACall Try.prog 17 [eT t, nt .i64 m] (fun r => r = bl (smallT m t)) := by
  have h := parts_ok m hm t m hm.2 (by omega)
  unfold smallT
  generalize partsT m m t = q at *
  refine acall_of_awp Try.func17 Try.call17 rfl (by simp [Try.ntmps17]) ?_; simp only [Try.ntmps17, Try.results17]
  repeat' (first | (refine awK fun _ _ => ?_) | refine Hide.go (by assumption) ?_ | refine end_ret [] ?_; simp [go_sem] | refine stepK_is rfl (h) (by simp) ?_ | (fail_if_success with_reducible (refine Owe.mk ?_)); (simp (disch := omega) [go_sem]))
def smallL (m : Int) (l : List Tm) : Bool := decide ((l.length : Int) ≤ m) && l.all (smallT m)
theorem SmallTerms_ok (l : List Tm) (lent full : Bool) (m : Int) (hm : 0 ≤ m ∧ m ≤ 10000) : ACall Try.prog 53 [.list lent full (l.map eTm), nt .i64 m] (fun r => r = bl (smallL m l)) := by
  by_cases hl : (l.length : Int) ≤ m
  · have e : smallL m l = l.all (smallT m) := by simp [smallL, hl]
    rw [e]
    refine acall_of_awp Try.func53 Try.call53 rfl (by simp [Try.ntmps53]) ?_; simp only [Try.ntmps53, Try.results53]
    repeat' (first | (refine awK fun _ _ => ?_) | refine Hide.go (by assumption) ?_ | refine zqd ?_ ?_ <;> (intro h; first | (exfalso; omega) | (simp only [h, decide_true, decide_false, not_false_eq_true])) | (fail_if_success with_reducible (refine Owe.mk ?_)); (simp (disch := omega) [go_sem]))
    refine awp_for [0, 1, 11] [] (fun i : Nat => [(12, nt .i64 i)]) (fun i : Nat => []) (fun i : Nat => l.length - i) (fun i : Nat => i ≤ l.length ∧ (l.take i).all (smallT m) = true) (0) (Le.sub4 rfl (by simp [go_sem])) ⟨?_⟩ ?_
    · exact ⟨Nat.zero_le _, rfl⟩
    intro i ⟨hi, hall⟩ AA hAA; simp only [kL, Nat.reduceBEq, Nat.reduceEqDiff, if_true, if_false, List.cons_append, List.nil_append, List.append_nil]
    by_cases hlt : i < l.length
    · have hu := Small_ok l[i] m hm
      have hn : (l.take (i + 1)).all (smallT m) = smallT m l[i] := by rw [take_next hlt, List.all_append, hall]; simp
      cases hq : smallT m l[i] with
      | true =>
        rw [hq] at hu hn
        repeat' (first | (refine awK fun _ _ => ?_) | refine Hide.go (by assumption) ?_ | refine stepK_is rfl (hu) (by simp) ?_ | refine (hAA.next (i + 1) (Le.sub4 rfl (by simp [go_sem])) (by (try dsimp only); omega) ?_) | (fail_if_success with_reducible (refine Owe.mk ?_)); (simp (disch := omega) [go_sem, hlt]))
        exact ⟨⟨hlt, hn⟩⟩
      | false =>
        rw [hq] at hu
        repeat' (first | (refine awK fun _ _ => ?_) | refine Hide.go (by assumption) ?_ | refine end_ret [] ?_; simp [go_sem, hlt] | refine stepK_is rfl (hu) (by simp) ?_ | (fail_if_success with_reducible (refine Owe.mk ?_)); (simp (disch := omega) [go_sem, hlt]))
        all_goals exact ⟨l[i], List.getElem_mem hlt, hq⟩
    · obtain rfl : i = l.length := by omega
      rw [List.take_length] at hall
      repeat' (first | (refine awK fun _ _ => ?_) | refine Hide.go (by assumption) ?_ | refine end_ret [] ?_; simp [go_sem, hall] | (fail_if_success with_reducible (refine Owe.mk ?_)); (simp (disch := omega) [go_sem, hall]))
  · have e : smallL m l = false := by simp [smallL]; intro h; omega
    rw [e]
    refine acall_of_awp Try.func53 Try.call53 rfl (by simp [Try.ntmps53]) ?_; simp only [Try.ntmps53, Try.results53]
    repeat' (first | (refine awK fun _ _ => ?_) | refine Hide.go (by assumption) ?_ | refine zqd ?_ ?_ <;> (intro h; first | (exfalso; omega) | (simp only [h, decide_true, decide_false, not_false_eq_true])) | refine end_ret [] ?_; simp [go_sem] | (fail_if_success with_reducible (refine Owe.mk ?_)); (simp (disch := omega) [go_sem]))
open Go.Ab
set_option maxRecDepth 100000
def eSpan (p : Int × Int) : AV := .agg [nt .u8 p.1, nt .u8 p.2]
def inS (c : Int) (l : List (Int × Int)) : Bool := l.any fun p => decide (p.1 ≤ c) && decide (c ≤ p.2)
theorem in_ok (c : Int) (l f : Bool) (ss : List (Int × Int)) (hl : ss.length ≤ 1000) : ACall Try.prog 74 [nt .u8 c, .list l f (ss.map eSpan)] (fun r => r = bl (inS c ss)) := by
  refine acall_of_awp Try.func74 Try.call74 rfl (by simp [Try.ntmps74]) ?_; simp only [Try.ntmps74, Try.results74]
  repeat' (first | (refine awK fun _ _ => ?_) | refine Hide.go (by assumption) ?_ | (fail_if_success with_reducible (refine Owe.mk ?_)); (simp (disch := omega) [go_sem]))
  refine awp_loop (fun n s => ∃ i : Nat, i ≤ ss.length ∧ n = ss.length - i ∧ inS c (ss.take i) = false ∧ s = { n := 24, t := [(0, nt .u8 c), (7, .list l f (ss.map eSpan)), (8, nt .i64 ss.length), (9, nt .i64 i), (4, bl false)], o := [] })
    ss.length { n := 24, t := [(0, nt .u8 c), (7, .list l f (ss.map eSpan)), (8, nt .i64 ss.length), (9, nt .i64 0), (4, bl false)], o := [] } (Le.sub4 rfl (by simp [go_sem])) ⟨0, Nat.zero_le _, rfl, rfl, rfl⟩ ?_
  rintro _ _ ⟨i, hi, rfl, hin, rfl⟩
  by_cases hlt : i < ss.length
  · have hs : inS c (ss.take (i + 1)) = (decide (ss[i].1 ≤ c) && decide (c ≤ ss[i].2)) := by
      rw [List.take_add_one, List.getElem?_eq_getElem hlt]; unfold inS at *; rw [List.any_append, hin]; simp
    repeat' (first | (refine awK fun _ _ => ?_) | refine Hide.go (by assumption) ?_ | (first | refine zqd ?_ ?_ | refine zgd ?_ ?_) <;> (intro h; (simp only [h, decide_true, decide_false, not_false_eq_true])) | refine end_ret [] ?_; simp [go_sem, hlt, eSpan] | refine Again.mk (ss.length - (i + 1)) { n := 24, t := [(0, nt .u8 c), (7, .list l f (ss.map eSpan)), (8, nt .i64 ss.length), (9, nt .i64 (i + 1 : Nat)), (4, bl false)], o := [] } (by omega) (Le.sub4 rfl (by simp [go_sem])) ⟨i + 1, by omega, rfl, by rw [hs]; simp [*], rfl⟩ | (fail_if_success with_reducible (refine Owe.mk ?_)); (simp (disch := omega) [go_sem, hlt, eSpan]))
    unfold inS
    rw [List.any_eq_true]
    exact ⟨ss[i], List.getElem_mem hlt, by simp [*]⟩
  · obtain rfl : i = ss.length := by omega
    rw [List.take_length] at hin
    repeat' (first | (refine awK fun _ _ => ?_) | refine Hide.go (by assumption) ?_ | refine end_ret [] ?_; simp [go_sem, hin] | (fail_if_success with_reducible (refine Owe.mk ?_)); (simp (disch := omega) [go_sem, hin]))
def allS (s : ByteArray) (p q r : Int × Int) (n : Nat) : Bool := (List.range n).all fun i => inS (bt s i) [p, q, r]
theorem allS_succ (s : ByteArray) (p q r : Int × Int) (n : Nat) : allS s p q r (n + 1) = (allS s p q r n && inS (bt s n) [p, q, r]) := by
  simp [allS, List.range_succ, List.all_append]
def spellS (s : ByteArray) (p q r : Int × Int) : Bool := decide (1 ≤ s.size) && decide (s.size ≤ 16) && inS (bt s 0) [p] && allS s p q r s.size
theorem allS_false {s : ByteArray} {p q r : Int × Int} {i : Nat} (h : inS (bt s i) [p, q, r] = false) {n : Nat} (hn : i < n) : allS s p q r n = false := by
  unfold allS; rw [List.all_eq_false]; exact ⟨i, by simpa using hn, by simp [h]⟩
theorem spelled_ok (s : ByteArray) (p q r : Int × Int) : ACall Try.prog 45 [.sc (.string s), .agg [nt .u8 p.1, nt .u8 p.2, nt .u8 q.1, nt .u8 q.2, nt .u8 r.1, nt .u8 r.2]] (fun x => x = bl (spellS s p q r)) := by
  have h1 : ACall Try.prog 74 [nt .u8 (bt s 0), .list true false [.agg [nt .u8 p.1, nt .u8 p.2]]] (fun x => x = bl (inS (bt s 0) [p])) := in_ok (bt s 0) true false [p] (by simp)
  have h3 : ∀ i, ACall Try.prog 74 [nt .u8 (bt s i), .list true false [.agg [nt .u8 p.1, nt .u8 p.2], .agg [nt .u8 q.1, nt .u8 q.2], .agg [nt .u8 r.1, nt .u8 r.2]]] (fun x => x = bl (inS (bt s i) [p, q, r])) := fun i => in_ok (bt s i) true false [p, q, r] (by simp)
  by_cases a1 : 1 ≤ s.size ∧ s.size ≤ 16
  · by_cases a2 : inS (bt s 0) [p] = true
    · have e : spellS s p q r = allS s p q r s.size := by simp [spellS, a1, a2]
      rw [e]
      rw [a2] at h1
      refine acall_of_awp Try.func45 Try.call45 rfl (by simp [Try.ntmps45]) ?_; simp only [Try.ntmps45, Try.results45]
      repeat' (first | (refine awK fun _ _ => ?_) | refine Hide.go (by assumption) ?_ | refine zdd ?_ ?_ <;> (intro h; first | (exfalso; omega) | (simp only [h, decide_true, decide_false, not_false_eq_true])) | refine dstepK_is rfl (h1) rfl (by simp) ?_ | (fail_if_success with_reducible (refine Owe.mk ?_)); (simp (disch := omega) [go_sem]) | refine And.intro (by omega) ?_ | refine awp_draw 15 mix (by decide +kernel) ?_)
      refine awp_loop (fun nn ss_ => ∃ i : Nat, i ≤ s.size ∧ nn = s.size - i ∧ (allS s p q r i = true) ∧ ss_ = { n := 33, t := [(0, .sc (.string s)), (3, .ptr 3 0 0), (5, nt .i64 (i))], o := [(3, { arr := false, fz := false, pin := false, es := 6, xs := [.agg [nt .u8 p.1, nt .u8 p.2, nt .u8 q.1, nt .u8 q.2, nt .u8 r.1, nt .u8 r.2]] })] }) (s.size) { n := 33, t := [(0, .sc (.string s)), (3, .ptr 3 0 0), (5, nt .i64 (0))], o := [(3, { arr := false, fz := false, pin := false, es := 6, xs := [.agg [nt .u8 p.1, nt .u8 p.2, nt .u8 q.1, nt .u8 q.2, nt .u8 r.1, nt .u8 r.2]] })] } (Le.sub4 rfl (by simp [go_sem])) ⟨0, Nat.zero_le _, rfl, rfl, rfl⟩ ?_; rintro _ _ ⟨i, hi, rfl, hin, rfl⟩
      have hb := h3 i
      by_cases hlt : i < s.size
      · cases hz : inS (bt s i) [p, q, r] with
        | false =>
          rw [hz] at hb
          repeat' (first | (refine awK fun _ _ => ?_) | refine Hide.go (by assumption) ?_ | refine end_ret [] ?_; simp [go_sem, hlt] | refine dstepK_is rfl (hb) rfl (by simp) ?_ | (fail_if_success with_reducible (refine Owe.mk ?_)); (simp (disch := omega) [go_sem, hlt]) | refine awp_draw 6 mix (by decide +kernel) ?_)
          all_goals exact allS_false hz hlt
        | true =>
          rw [hz] at hb
          have hs : allS s p q r (i + 1) = true := by rw [allS_succ, hin, hz]; rfl
          repeat' (first | (refine awK fun _ _ => ?_) | refine Hide.go (by assumption) ?_ | refine dstepK_is rfl (hb) rfl (by simp) ?_ | refine Again.mk (s.size - (i + 1)) { n := 33, t := [(0, .sc (.string s)), (3, .ptr 3 0 0), (5, nt .i64 ((i + 1 : Nat)))], o := [(3, { arr := false, fz := false, pin := false, es := 6, xs := [.agg [nt .u8 p.1, nt .u8 p.2, nt .u8 q.1, nt .u8 q.2, nt .u8 r.1, nt .u8 r.2]] })] } (by omega) (Le.sub4 rfl (by simp [go_sem])) ⟨i + 1, by omega, rfl, hs, rfl⟩ | (fail_if_success with_reducible (refine Owe.mk ?_)); (simp (disch := omega) [go_sem, hlt]) | refine awp_draw 6 mix (by decide +kernel) ?_)
      · obtain rfl : i = s.size := by omega
        repeat' (first | (refine awK fun _ _ => ?_) | refine Hide.go (by assumption) ?_ | refine end_ret [] ?_; simp [go_sem, hin] | (fail_if_success with_reducible (refine Owe.mk ?_)); (simp (disch := omega) [go_sem, hin]))
    · have e : spellS s p q r = false := by simp [spellS, a2]
      rw [e]
      simp only [Bool.not_eq_true] at a2
      rw [a2] at h1
      refine acall_of_awp Try.func45 Try.call45 rfl (by simp [Try.ntmps45]) ?_; simp only [Try.ntmps45, Try.results45]
      repeat' (first | (refine awK fun _ _ => ?_) | refine Hide.go (by assumption) ?_ | refine zdd ?_ ?_ <;> (intro h; first | (exfalso; omega) | (simp only [h, decide_true, decide_false, not_false_eq_true])) | refine end_ret [] ?_; simp [go_sem] | refine dstepK_is rfl (h1) rfl (by simp) ?_ | (fail_if_success with_reducible (refine Owe.mk ?_)); (simp (disch := omega) [go_sem]) | refine And.intro (by omega) ?_ | refine awp_draw 15 mix (by decide +kernel) ?_)
  · have e : spellS s p q r = false := by simp [spellS]; omega
    rw [e]
    refine acall_of_awp Try.func45 Try.call45 rfl (by simp [Try.ntmps45]) ?_; simp only [Try.ntmps45, Try.results45]
    repeat' (first | (refine awK fun _ _ => ?_) | refine Hide.go (by assumption) ?_ | refine zdd ?_ ?_ <;> (intro h; first | (exfalso; omega) | (simp only [h, decide_true, decide_false, not_false_eq_true])) | refine end_ret [] ?_; simp [go_sem] | (fail_if_success with_reducible (refine Owe.mk ?_)); (simp (disch := omega) [go_sem]) | refine awp_draw 15 mix (by decide +kernel) ?_)
abbrev sIf : ByteArray := ByteArray.mk #[105, 102]
abbrev sAnd : ByteArray := ByteArray.mk #[97, 110, 100]
abbrev sNot : ByteArray := ByteArray.mk #[110, 111, 116]
theorem in3 (c : Int) (p q r : Int × Int) : inS c [p, q, r] = decide ((p.1 ≤ c ∧ c ≤ p.2) ∨ (q.1 ≤ c ∧ c ≤ q.2) ∨ (r.1 ≤ c ∧ c ≤ r.2)) := by
  rw [Bool.eq_iff_iff]; simp [inS]
theorem in1 (c : Int) (p : Int × Int) : inS c [p] = decide (p.1 ≤ c ∧ c ≤ p.2) := by
  rw [Bool.eq_iff_iff]; simp [inS]
def nameS (s : ByteArray) : Bool := spellS s (97, 122) (48, 57) (45, 45) && !decide (s = sIf) && !decide (s = sAnd) && !decide (s = sNot)
theorem Name_ok (s : ByteArray) : ACall Try.prog 13 [.sc (.string s)] (fun r => r = bl (nameS s)) := by
  have h1 := spelled_ok s (97, 122) (48, 57) (45, 45)
  simp only [nameS]
  generalize spellS s (97, 122) (48, 57) (45, 45) = b at *
  refine acall_of_awp Try.func13 Try.call13 rfl (by simp [Try.ntmps13]) ?_; simp only [Try.ntmps13, Try.results13]
  cases b
  · repeat' (first | (refine awK fun _ _ => ?_) | refine Hide.go (by assumption) ?_ | refine end_ret [] ?_; simp [go_sem] | refine stepK_is rfl (h1) (by simp) ?_ | (fail_if_success with_reducible (refine Owe.mk ?_)); (simp (disch := omega) [go_sem]))
  · repeat' (first | (refine awK fun _ _ => ?_) | refine Hide.go (by assumption) ?_ | refine zgn ?_ ?_ <;> (intro h; (simp only [h, decide_true, decide_false, not_false_eq_true])) | refine end_ret [] ?_; simp [go_sem] | refine stepK_is rfl (h1) (by simp) ?_ | (fail_if_success with_reducible (refine Owe.mk ?_)); (simp (disch := omega) [go_sem]))
    all_goals (simp_all [sIf, sAnd, sNot] <;> (rw [Bool.eq_iff_iff]; simp))
def varS (s : ByteArray) : Bool := spellS s (65, 90) (97, 122) (48, 57)
theorem Variable_ok (s : ByteArray) : ACall Try.prog 15 [.sc (.string s)] (fun r => r = bl (varS s)) := by
  have h1 := spelled_ok s (65, 90) (97, 122) (48, 57)
  simp only [varS]
  generalize spellS s (65, 90) (97, 122) (48, 57) = b at *
  refine acall_of_awp Try.func15 Try.call15 rfl (by simp [Try.ntmps15]) ?_; simp only [Try.ntmps15, Try.results15]
  repeat' (first | (refine awK fun _ _ => ?_) | refine Hide.go (by assumption) ?_ | refine end_ret [] ?_; simp [go_sem] | refine stepK_is rfl (h1) (by simp) ?_ | (fail_if_success with_reducible (refine Owe.mk ?_)); (simp (disch := omega) [go_sem]))
theorem lower_ok (c : Int) : ACall Try.prog 46 [nt .u8 c] (fun r => r = bl (decide (97 ≤ c ∧ c ≤ 122))) := by
  refine acall_of_awp Try.func46 Try.call46 rfl (by simp [Try.ntmps46]) ?_; simp only [Try.ntmps46, Try.results46]
  repeat' (first | (refine awK fun _ _ => ?_) | refine Hide.go (by assumption) ?_ | refine zgd ?_ ?_ <;> (intro h; (simp only [h, decide_true, decide_false, not_false_eq_true])) | refine end_ret [] ?_; simp [go_sem] | (fail_if_success with_reducible (refine Owe.mk ?_)); (simp (disch := omega) [go_sem]))
  all_goals (first | omega | (rw [Bool.eq_iff_iff]; simp; omega))
theorem upper_ok (c : Int) : ACall Try.prog 47 [nt .u8 c] (fun r => r = bl (decide (65 ≤ c ∧ c ≤ 90))) := by
  refine acall_of_awp Try.func47 Try.call47 rfl (by simp [Try.ntmps47]) ?_; simp only [Try.ntmps47, Try.results47]
  repeat' (first | (refine awK fun _ _ => ?_) | refine Hide.go (by assumption) ?_ | refine zgd ?_ ?_ <;> (intro h; (simp only [h, decide_true, decide_false, not_false_eq_true])) | refine end_ret [] ?_; simp [go_sem] | (fail_if_success with_reducible (refine Owe.mk ?_)); (simp (disch := omega) [go_sem]))
  all_goals (first | omega | (rw [Bool.eq_iff_iff]; simp; omega))
theorem digit_ok (c : Int) : ACall Try.prog 44 [nt .u8 c] (fun r => r = bl (decide (48 ≤ c ∧ c ≤ 57))) := by
  refine acall_of_awp Try.func44 Try.call44 rfl (by simp [Try.ntmps44]) ?_; simp only [Try.ntmps44, Try.results44]
  repeat' (first | (refine awK fun _ _ => ?_) | refine Hide.go (by assumption) ?_ | refine zgd ?_ ?_ <;> (intro h; (simp only [h, decide_true, decide_false, not_false_eq_true])) | refine end_ret [] ?_; simp [go_sem] | (fail_if_success with_reducible (refine Owe.mk ?_)); (simp (disch := omega) [go_sem]))
  all_goals (first | omega | (rw [Bool.eq_iff_iff]; simp; omega))
theorem refName_ok (s : ByteArray) : ACall Try.prog 14 [.sc (.string s)] (fun r => r = bl (nameS s)) := by
  have h1 := lower_ok (bt s 0)
  by_cases a1 : 1 ≤ s.size ∧ s.size ≤ 16 ∧ (97 ≤ bt s 0 ∧ bt s 0 ≤ 122) ∧ s ≠ sIf ∧ s ≠ sAnd ∧ s ≠ sNot
  · have e : nameS s = allS s (97, 122) (48, 57) (45, 45) s.size := by simp [nameS, spellS, a1, in1]
    rw [e]
    obtain ⟨b1, b2, b3, b4, b5, b6⟩ := a1
    unfold sIf at b4
    unfold sAnd at b5
    unfold sNot at b6
    refine acall_of_awp Try.func14 Try.call14 rfl (by simp [Try.ntmps14]) ?_; simp only [Try.ntmps14, Try.results14]
    repeat' (first | (refine awK fun _ _ => ?_) | refine Hide.go (by assumption) ?_ | refine zgd ?_ ?_ <;> (intro h; first | (exfalso; omega) | (simp only [h, decide_true, decide_false, not_false_eq_true])) | refine stepK_is rfl (h1) (by simp) ?_ | (fail_if_success with_reducible (refine Owe.mk ?_)); (simp (disch := omega) [go_sem, b4, b5, b6]) | refine And.intro (by omega) ?_ | refine zgs ?_ ?_ <;> (intro h; first | (exfalso; simp at h; omega) | ((try simp only [h]); (try simp at h))))
    refine awp_loop (fun nn ss_ => ∃ i : Nat, i ≤ s.size ∧ nn = s.size - i ∧ (allS s (97, 122) (48, 57) (45, 45) i = true) ∧ ss_ = { n := 54, t := [(0, .sc (.string s)), (31, nt .i64 s.size), (32, nt .i64 (i))], o := [] }) (s.size) { n := 54, t := [(0, .sc (.string s)), (31, nt .i64 s.size), (32, nt .i64 (0))], o := [] } (Le.sub4 rfl (by simp [go_sem])) ⟨0, Nat.zero_le _, rfl, rfl, rfl⟩ ?_; rintro _ _ ⟨i, hi, rfl, hin, rfl⟩
    have hl := lower_ok (bt s i)
    have hd := digit_ok (bt s i)
    by_cases hlt : i < s.size
    · have hs := allS_succ s (97, 122) (48, 57) (45, 45) i
      rw [in3, hin, Bool.true_and] at hs
      dsimp only at hs
      repeat' (first | (refine awK fun _ _ => ?_) | refine Hide.go (by assumption) ?_ | refine zqn ?_ ?_ <;> (intro h; (simp only [h, decide_true, decide_false, not_false_eq_true])) | refine end_ret [] ?_; simp [go_sem, hlt] | refine stepK_is rfl (hl) (by simp) ?_ | refine stepK_is rfl (hd) (by simp) ?_ | refine Again.mk (s.size - (i + 1)) { n := 54, t := [(0, .sc (.string s)), (31, nt .i64 s.size), (32, nt .i64 ((i + 1 : Nat)))], o := [] } (by omega) (Le.sub4 rfl (by simp [go_sem])) ⟨i + 1, by omega, rfl, by rw [hs]; exact decide_eq_true (by omega), rfl⟩ | (fail_if_success with_reducible (refine Owe.mk ?_)); (simp (disch := omega) [go_sem, hlt]) | refine zgs ?_ ?_ <;> (intro h; ((try simp only [h]); (try simp at h))))
      all_goals exact allS_false (i := i) (by rw [in3]; exact decide_eq_false (by dsimp only; omega)) hlt
    · obtain rfl : i = s.size := by omega
      repeat' (first | (refine awK fun _ _ => ?_) | refine Hide.go (by assumption) ?_ | refine end_ret [] ?_; simp [go_sem, hin] | (fail_if_success with_reducible (refine Owe.mk ?_)); (simp (disch := omega) [go_sem, hin]))
  · have e : nameS s = false := by
      rw [Bool.eq_false_iff]
      intro h
      simp [nameS, spellS, in1] at h
      exact a1 (by simp [h])
    rw [e]
    unfold sIf sAnd sNot at a1
    refine acall_of_awp Try.func14 Try.call14 rfl (by simp [Try.ntmps14]) ?_; simp only [Try.ntmps14, Try.results14]
    repeat' (first | (refine awK fun _ _ => ?_) | refine Hide.go (by assumption) ?_ | (first | refine zqd ?_ ?_ | refine zgd ?_ ?_) <;> (intro h; (simp only [h, decide_true, decide_false, not_false_eq_true])) | refine end_ret [] ?_; simp [go_sem] | refine stepK_is rfl (h1) (by simp) ?_ | (fail_if_success with_reducible (refine Owe.mk ?_)); (simp (disch := omega) [go_sem]) | refine And.intro (by omega) ?_ | refine zgs ?_ ?_ <;> (intro h; ((try simp only [h]); (try simp at h))))
    all_goals (exfalso; apply a1; refine ⟨by omega, by omega, by omega, ?_, ?_, ?_⟩ <;> assumption)
theorem refVariable_ok (s : ByteArray) : ACall Try.prog 16 [.sc (.string s)] (fun r => r = bl (varS s)) := by
  have h1 := upper_ok (bt s 0)
  by_cases a1 : 1 ≤ s.size ∧ s.size ≤ 16 ∧ (65 ≤ bt s 0 ∧ bt s 0 ≤ 90)
  · have e : varS s = allS s (65, 90) (97, 122) (48, 57) s.size := by simp [varS, spellS, a1, in1]
    rw [e]
    obtain ⟨b1, b2, b3⟩ := a1
    refine acall_of_awp Try.func16 Try.call16 rfl (by simp [Try.ntmps16]) ?_; simp only [Try.ntmps16, Try.results16]
    repeat' (first | (refine awK fun _ _ => ?_) | refine Hide.go (by assumption) ?_ | refine zgd ?_ ?_ <;> (intro h; first | (exfalso; omega) | (simp only [h, decide_true, decide_false, not_false_eq_true])) | refine stepK_is rfl (h1) (by simp) ?_ | (fail_if_success with_reducible (refine Owe.mk ?_)); (simp (disch := omega) [go_sem]) | refine And.intro (by omega) ?_ | refine zqs ?_ ?_ <;> (intro h; first | (exfalso; simp at h; omega) | ((try simp only [h]); (try simp at h))))
    refine awp_loop (fun nn ss_ => ∃ i : Nat, i ≤ s.size ∧ nn = s.size - i ∧ (allS s (65, 90) (97, 122) (48, 57) i = true) ∧ ss_ = { n := 43, t := [(0, .sc (.string s)), (19, nt .i64 s.size), (20, nt .i64 (i))], o := [] }) (s.size) { n := 43, t := [(0, .sc (.string s)), (19, nt .i64 s.size), (20, nt .i64 (0))], o := [] } (Le.sub4 rfl (by simp [go_sem])) ⟨0, Nat.zero_le _, rfl, rfl, rfl⟩ ?_; rintro _ _ ⟨i, hi, rfl, hin, rfl⟩
    have hl := lower_ok (bt s i)
    have hu := upper_ok (bt s i)
    have hd := digit_ok (bt s i)
    by_cases hlt : i < s.size
    · have hs := allS_succ s (65, 90) (97, 122) (48, 57) i
      rw [in3, hin, Bool.true_and] at hs
      dsimp only at hs
      repeat' (first | (refine awK fun _ _ => ?_) | refine Hide.go (by assumption) ?_ | refine end_ret [] ?_; simp [go_sem, hlt] | refine stepK_is rfl (hl) (by simp) ?_ | refine stepK_is rfl (hd) (by simp) ?_ | refine stepK_is rfl (hu) (by simp) ?_ | refine Again.mk (s.size - (i + 1)) { n := 43, t := [(0, .sc (.string s)), (19, nt .i64 s.size), (20, nt .i64 ((i + 1 : Nat)))], o := [] } (by omega) (Le.sub4 rfl (by simp [go_sem])) ⟨i + 1, by omega, rfl, by rw [hs]; exact decide_eq_true (by omega), rfl⟩ | (fail_if_success with_reducible (refine Owe.mk ?_)); (simp (disch := omega) [go_sem, hlt]) | (first | refine zqs ?_ ?_ | refine zgs ?_ ?_) <;> (intro h; ((try simp only [h]); (try simp at h))))
      all_goals exact allS_false (i := i) (by rw [in3]; exact decide_eq_false (by dsimp only; omega)) hlt
    · obtain rfl : i = s.size := by omega
      repeat' (first | (refine awK fun _ _ => ?_) | refine Hide.go (by assumption) ?_ | refine end_ret [] ?_; simp [go_sem, hin] | (fail_if_success with_reducible (refine Owe.mk ?_)); (simp (disch := omega) [go_sem, hin]))
  · have e : varS s = false := by
      rw [Bool.eq_false_iff]
      intro h
      simp [varS, spellS, in1] at h
      exact a1 (by simp [h])
    rw [e]
    refine acall_of_awp Try.func16 Try.call16 rfl (by simp [Try.ntmps16]) ?_; simp only [Try.ntmps16, Try.results16]
    repeat' (first | (refine awK fun _ _ => ?_) | refine Hide.go (by assumption) ?_ | refine zgd ?_ ?_ <;> (intro h; (simp only [h, decide_true, decide_false, not_false_eq_true])) | refine end_ret [] ?_; simp [go_sem] | refine stepK_is rfl (h1) (by simp) ?_ | (fail_if_success with_reducible (refine Owe.mk ?_)); (simp (disch := omega) [go_sem]) | refine And.intro (by omega) ?_ | refine zqs ?_ ?_ <;> (intro h; first | (exfalso; simp at h; omega) | ((try simp only [h]); (try simp at h))))
    all_goals (exfalso; apply a1; omega)
end Go.Proofs.Ytldecgghhaoliaa
