/-
  Term2: whether a term is small.
-/
import Derived.Test.YtldecgghhaoliaaTerm1
namespace Go.Proofs.Ytldecgghhaoliaa
open Go.Ab
set_option linter.unusedSimpArgs false
set_option maxRecDepth 100000
set_option maxHeartbeats 4000000
mutual
/-- The count of parts that stops early. -/
def partsT (m : Int) : Int → Tm → Int
  | lv, .mk _ ts => if lv < 1 then m + 1 else partsL m (lv - 1) 1 ts
def partsL (m : Int) : Int → Int → List Tm → Int
  | _, n, [] => n
  | lv, n, t :: r => if n > m then n else partsL m lv (n + partsT m lv t) r
end
theorem parts_eq {m lv : Int} {t : Tm} : partsT m lv t = if lv < 1 then m + 1 else partsL m (lv - 1) 1 t.args := by cases t; rfl
theorem partsL_ge {m : Int} (hm : 0 ≤ m) : ∀ (t : Tm) (lv : Int), 1 ≤ partsT m lv t := by
  refine tm_ind fun t ih lv => ?_
  rw [parts_eq]
  split
  · omega
  · have key : ∀ (r : List Tm), (∀ u ∈ r, ∀ lv, 1 ≤ partsT m lv u) → ∀ n, 1 ≤ n → 1 ≤ partsL m (lv - 1) n r := by
      intro r
      induction r with
      | nil => intro _ n hn; simpa [partsL] using hn
      | cons u r ihr =>
        intro h n hn
        simp only [partsL]
        split
        · exact hn
        · have := h u (by simp) (lv - 1)
          exact ihr (fun v hv => h v (by simp [hv])) _ (by omega)
    exact key t.args ih 1 (by omega)
/-- It is never much more than most. -/
theorem parts_le {m : Int} (hm : 0 ≤ m) : ∀ (k : Nat) (t : Tm) (lv : Int), lv ≤ k → partsT m lv t ≤ (k + 1) * (m + 1) := by
  intro k
  induction k with
  | zero =>
    intro t lv h
    rw [parts_eq, if_pos (by omega)]
    simp
  | succ k ih =>
    intro t lv h
    rw [parts_eq]
    have e : ((k + 1 : Nat) + 1 : Int) * (m + 1) = ((k : Int) + 1) * (m + 1) + (m + 1) := by
      rw [show ((k + 1 : Nat) + 1 : Int) = ((k : Int) + 1) + 1 by omega, Int.add_mul, Int.one_mul]
    have hp : 0 ≤ ((k : Int) + 1) * (m + 1) := Int.mul_nonneg (by omega) (by omega)
    split
    · omega
    · have key : ∀ (r : List Tm) (n : Int), n ≤ ((k : Int) + 1) * (m + 1) + m + 1 → partsL m (lv - 1) n r ≤ ((k : Int) + 1) * (m + 1) + m + 1 := by
        intro r
        induction r with
        | nil => intro n hn; simpa [partsL] using hn
        | cons u r ihr =>
          intro n hn
          simp only [partsL]
          split
          · exact hn
          · have := ih u (lv - 1) (by omega)
            exact ihr _ (by omega)
      have h1 : 1 ≤ ((k : Int) + 1) * (m + 1) + m + 1 := by omega
      have := key t.args 1 h1
      omega
/-- Where it is at most most, it is the size, and the depth fits. -/
theorem parts_size {m : Int} (hm : 0 ≤ m) : ∀ (t : Tm) (lv : Int), partsT m lv t ≤ m → (partsT m lv t = t.size ∧ (t.depth : Int) ≤ lv) := by
  refine tm_ind fun t ih lv h => ?_
  rw [parts_eq] at *
  split at h
  · omega
  · rename_i hl
    rw [if_neg hl]
    have key : ∀ (r : List Tm), (∀ u ∈ r, u ∈ t.args) → ∀ n, 1 ≤ n → partsL m (lv - 1) n r ≤ m → partsL m (lv - 1) n r = n + sizeL r ∧ (depthL r : Int) ≤ lv - 1 := by
      intro r
      induction r with
      | nil => intro _ n hn _; simp [partsL, sizeL, depthL]; omega
      | cons u r ihr =>
        intro hr n hn hp
        simp only [partsL] at *
        split at hp
        · omega
        · rename_i hc
          rw [if_neg hc]
          have g := partsL_ge hm u (lv - 1)
          have hmono : ∀ (r : List Tm) (n : Int), n ≤ partsL m (lv - 1) n r := by
            intro r
            induction r with
            | nil => intro n; simp [partsL]
            | cons u r ihr =>
              intro n
              simp only [partsL]
              split
              · omega
              · have g := partsL_ge hm u (lv - 1)
                have := ihr (n + partsT m (lv - 1) u)
                omega
          have h2 := hmono r (n + partsT m (lv - 1) u)
          obtain ⟨a1, a2⟩ := ih u (hr u (by simp)) (lv - 1) (by omega)
          obtain ⟨b1, b2⟩ := ihr (fun v hv => hr v (by simp [hv])) (n + partsT m (lv - 1) u) (by omega) hp
          simp only [sizeL, depthL]
          omega
    obtain ⟨a1, a2⟩ := key t.args (fun u hu => hu) 1 (by omega) h
    rw [size_eq, depth_eq]
    omega
def smallT (m : Int) (t : Tm) : Bool := decide (partsT m m t ≤ m)
theorem smallT_size {m : Int} (hm : 0 ≤ m) {t : Tm} (h : smallT m t = true) : (t.size : Int) ≤ m := by
  have := of_decide_eq_true h
  have := (parts_size hm t m this).1
  omega
theorem parts_bd {m : Int} (hm : 0 ≤ m ∧ m ≤ 10000) (t : Tm) {lv : Int} (h : lv ≤ 10000) : 1 ≤ partsT m lv t ∧ partsT m lv t ≤ 100020001 := by
  refine ⟨partsL_ge hm.1 t lv, ?_⟩
  have h1 := parts_le hm.1 10000 t lv h
  omega
theorem partsL_stop {m lv n : Int} : ∀ {r : List Tm}, n > m → partsL m lv n r = n
  | [], _ => rfl
  | t :: r, h => by simp only [partsL]; rw [if_pos h]
theorem parts_ok (m : Int) (hm : 0 ≤ m ∧ m ≤ 10000) : ∀ (t : Tm) (lv : Int), lv ≤ 10000 → -10000 ≤ lv → ACall Try.prog 48 [eT t, nt .i64 m, nt .i64 lv] (fun r => r = nt .i64 (partsT m lv t)) := by
  refine tm_ind fun t ih lv hlv hlv2 => ?_
  obtain ⟨s, ts⟩ := t
  rw [parts_eq]
  simp only [args_mk] at *
  by_cases hl : lv < 1
  · rw [if_pos hl]
    refine acall_of_awp Try.func48 Try.call48 rfl (by simp [Try.ntmps48]) ?_; simp only [Try.ntmps48, Try.results48]
    repeat' (first
    | (refine awp_seqK (fun K hK => ?_))
    | (refine Hide.go (by assumption) ?_)
    | ((first | refine zqd ?_ ?_ | refine zqn ?_ ?_ | refine zgd ?_ ?_ | refine zgn ?_ ?_ | refine zdd ?_ ?_ | refine zdn ?_ ?_) <;> (intro h; first | (exfalso; omega) | (simp only [h, decide_true, decide_false, not_false_eq_true]) | skip))
    | (refine end_ret [] ?_; simp [go_sem])
    | ((fail_if_success with_reducible (refine Owe.mk ?_)); (simp (disch := omega) [go_sem]))
    | (refine And.intro (by omega) ?_)
    | (refine nbI fun bq => ?_)
    | ((first | refine zqm ?_ ?_ | refine zgm ?_ ?_ | refine zdm ?_ ?_) <;> (intro h; simp only [h, Bool.not_true, Bool.not_false]))
    | ((first | refine zqs ?_ ?_ | refine zgs ?_ ?_ | refine zds ?_ ?_) <;> (intro h; first | (exfalso; simp at h; omega) | ((try simp only [h]); (try simp at h))))
    | fail)
  · rw [if_neg hl]
    generalize hR : partsL m (lv - 1) 1 ts = R
    refine acall_of_awp Try.func48 Try.call48 rfl (by simp [Try.ntmps48]) ?_; simp only [Try.ntmps48, Try.results48]
    repeat' (first
    | (refine awp_seqK (fun K hK => ?_))
    | (refine Hide.go (by assumption) ?_)
    | ((first | refine zqd ?_ ?_ | refine zqn ?_ ?_ | refine zgd ?_ ?_ | refine zgn ?_ ?_ | refine zdd ?_ ?_ | refine zdn ?_ ?_) <;> (intro h; first | (exfalso; omega) | (simp only [h, decide_true, decide_false, not_false_eq_true]) | skip))
    | (refine end_ret [] ?_; simp [go_sem])
    | ((fail_if_success with_reducible (refine Owe.mk ?_)); (simp (disch := omega) [go_sem]))
    | (refine And.intro (by omega) ?_)
    | (refine nbI fun bq => ?_)
    | ((first | refine zqm ?_ ?_ | refine zgm ?_ ?_ | refine zdm ?_ ?_) <;> (intro h; simp only [h, Bool.not_true, Bool.not_false]))
    | ((first | refine zqs ?_ ?_ | refine zgs ?_ ?_ | refine zds ?_ ?_) <;> (intro h; first | (exfalso; simp at h; omega) | ((try simp only [h]); (try simp at h))))
    | fail)
    refine awp_for [1, 2, 3, 15] [] (fun x : Nat × Int => [(16, nt .i64 x.1), (7, nt .i64 x.2)]) (fun x : Nat × Int => []) (fun x : Nat × Int => ts.length - x.1) (fun x : Nat × Int => x.1 ≤ ts.length ∧ 1 + (x.1 : Int) ≤ x.2 ∧ x.2 ≤ 100040001 ∧ (x.1 < ts.length → x.1 ≤ 10000 ∨ x.2 > m) ∧ partsL m (lv - 1) x.2 (ts.drop x.1) = R) ((0, 1)) (Le.sub4 rfl (by simp [go_sem])) ⟨?_⟩ ?_
    · exact ⟨Nat.zero_le _, by simp, by simp, by simp, by simpa using hR⟩
    intro ⟨i, n⟩ ⟨hi, hn, hn2, hbd, hr⟩ AA hAA; simp only [Go.Ab.keepT_nil, Go.Ab.keepT_cons, Go.Ab.dropO_nil, Go.Ab.dropO_cons, List.contains_cons, List.contains_nil, List.elem_cons, List.elem_nil, Nat.reduceBEq, beq_self_eq_true, Nat.reduceEqDiff, Bool.or_false, Bool.false_or, Bool.or_true, Bool.true_or, Bool.false_eq_true, if_true, if_false, List.cons_append, List.nil_append, List.append_nil]
    dsimp only at *
    by_cases hlt : i < ts.length
    · have hu := ih ts[i] (List.getElem_mem hlt) (lv - 1) (by omega) (by omega)
      have hb := parts_bd hm ts[i] (lv := lv - 1) (by omega)
      have hd : ts.drop i = ts[i] :: ts.drop (i + 1) := List.drop_eq_getElem_cons hlt
      rw [hd] at hr
      simp only [partsL] at hr
      by_cases hc : n > m
      · rw [if_pos hc] at hr
        repeat' (first
    | (refine awp_seqK (fun K hK => ?_))
    | (refine Hide.go (by assumption) ?_)
    | ((first | refine zqd ?_ ?_ | refine zqn ?_ ?_ | refine zgd ?_ ?_ | refine zgn ?_ ?_ | refine zdd ?_ ?_ | refine zdn ?_ ?_) <;> (intro h; first | (exfalso; omega) | (simp only [h, decide_true, decide_false, not_false_eq_true]) | skip))
    | (refine end_ret [] ?_; simp [go_sem, hlt, hr])
    | ((fail_if_success with_reducible (refine Owe.mk ?_)); (simp (disch := omega) [go_sem, hlt, hr]))
    | (refine And.intro (by omega) ?_)
    | (refine nbI fun bq => ?_)
    | ((first | refine zqm ?_ ?_ | refine zgm ?_ ?_ | refine zdm ?_ ?_) <;> (intro h; simp only [h, Bool.not_true, Bool.not_false]))
    | ((first | refine zqs ?_ ?_ | refine zgs ?_ ?_ | refine zds ?_ ?_) <;> (intro h; first | (exfalso; simp at h; omega) | ((try simp only [h]); (try simp at h))))
    | fail)
      · rw [if_neg hc] at hr
        repeat' (first
    | (refine awp_seqK (fun K hK => ?_))
    | (refine Hide.go (by assumption) ?_)
    | ((first | refine zqd ?_ ?_ | refine zqn ?_ ?_ | refine zgd ?_ ?_ | refine zgn ?_ ?_ | refine zdd ?_ ?_ | refine zdn ?_ ?_) <;> (intro h; first | (exfalso; omega) | (simp only [h, decide_true, decide_false, not_false_eq_true]) | skip))
    | (refine end_ret [] ?_; simp [go_sem, hlt])
    | (refine stepK_is rfl (hu) (by simp) ?_)
    | (refine dstepK_is rfl (hu) rfl (by simp) ?_)
    | (refine (hAA.next ((i + 1, n + partsT m (lv - 1) ts[i])) (Le.sub4 rfl (by simp [go_sem])) (by (try dsimp only); omega) ?_))
    | ((fail_if_success with_reducible (refine Owe.mk ?_)); (simp (disch := omega) [go_sem, hlt]))
    | (refine And.intro (by omega) ?_)
    | (refine nbI fun bq => ?_)
    | ((first | refine zqm ?_ ?_ | refine zgm ?_ ?_ | refine zdm ?_ ?_) <;> (intro h; simp only [h, Bool.not_true, Bool.not_false]))
    | ((first | refine zqs ?_ ?_ | refine zgs ?_ ?_ | refine zds ?_ ?_) <;> (intro h; first | (exfalso; simp at h; omega) | ((try simp only [h]); (try simp at h))))
    | fail)
        exact ⟨⟨by omega, by omega, by omega, by omega, hr⟩⟩
    · obtain rfl : i = ts.length := by omega
      simp [partsL] at hr
      repeat' (first
    | (refine awp_seqK (fun K hK => ?_))
    | (refine Hide.go (by assumption) ?_)
    | ((first | refine zqd ?_ ?_ | refine zqn ?_ ?_ | refine zgd ?_ ?_ | refine zgn ?_ ?_ | refine zdd ?_ ?_ | refine zdn ?_ ?_) <;> (intro h; first | (exfalso; omega) | (simp only [h, decide_true, decide_false, not_false_eq_true]) | skip))
    | (refine end_ret [] ?_; simp [go_sem])
    | ((fail_if_success with_reducible (refine Owe.mk ?_)); (simp (disch := omega) [go_sem]))
    | (refine And.intro (by omega) ?_)
    | (refine nbI fun bq => ?_)
    | ((first | refine zqm ?_ ?_ | refine zgm ?_ ?_ | refine zdm ?_ ?_) <;> (intro h; simp only [h, Bool.not_true, Bool.not_false]))
    | ((first | refine zqs ?_ ?_ | refine zgs ?_ ?_ | refine zds ?_ ?_) <;> (intro h; first | (exfalso; simp at h; omega) | ((try simp only [h]); (try simp at h))))
    | fail)
      exact hr
theorem Small_ok (t : Tm) (m : Int) (hm : 0 ≤ m ∧ m ≤ 10000) : ACall Try.prog 17 [eT t, nt .i64 m] (fun r => r = bl (smallT m t)) := by
  have h := parts_ok m hm t m hm.2 (by omega)
  unfold smallT
  generalize partsT m m t = q at *
  refine acall_of_awp Try.func17 Try.call17 rfl (by simp [Try.ntmps17]) ?_; simp only [Try.ntmps17, Try.results17]
  repeat' (first
    | (refine awp_seqK (fun K hK => ?_))
    | (refine Hide.go (by assumption) ?_)
    | ((first | refine zqd ?_ ?_ | refine zqn ?_ ?_ | refine zgd ?_ ?_ | refine zgn ?_ ?_ | refine zdd ?_ ?_ | refine zdn ?_ ?_) <;> (intro h; first | (exfalso; omega) | (simp only [h, decide_true, decide_false, not_false_eq_true]) | skip))
    | (refine end_ret [] ?_; simp [go_sem])
    | (refine stepK_is rfl (h) (by simp) ?_)
    | (refine dstepK_is rfl (h) rfl (by simp) ?_)
    | ((fail_if_success with_reducible (refine Owe.mk ?_)); (simp (disch := omega) [go_sem]))
    | (refine And.intro (by omega) ?_)
    | (refine nbI fun bq => ?_)
    | ((first | refine zqm ?_ ?_ | refine zgm ?_ ?_ | refine zdm ?_ ?_) <;> (intro h; simp only [h, Bool.not_true, Bool.not_false]))
    | ((first | refine zqs ?_ ?_ | refine zgs ?_ ?_ | refine zds ?_ ?_) <;> (intro h; first | (exfalso; simp at h; omega) | ((try simp only [h]); (try simp at h))))
    | fail)
def smallL (m : Int) (l : List Tm) : Bool := decide ((l.length : Int) ≤ m) && l.all (smallT m)
theorem SmallTerms_ok (l : List Tm) (lent full : Bool) (m : Int) (hm : 0 ≤ m ∧ m ≤ 10000) : ACall Try.prog 53 [.list lent full (l.map eTm), nt .i64 m] (fun r => r = bl (smallL m l)) := by
  by_cases hl : (l.length : Int) ≤ m
  · have e : smallL m l = l.all (smallT m) := by simp [smallL, hl]
    rw [e]
    refine acall_of_awp Try.func53 Try.call53 rfl (by simp [Try.ntmps53]) ?_; simp only [Try.ntmps53, Try.results53]
    repeat' (first
    | (refine awp_seqK (fun K hK => ?_))
    | (refine Hide.go (by assumption) ?_)
    | ((first | refine zqd ?_ ?_ | refine zqn ?_ ?_ | refine zgd ?_ ?_ | refine zgn ?_ ?_ | refine zdd ?_ ?_ | refine zdn ?_ ?_) <;> (intro h; first | (exfalso; omega) | (simp only [h, decide_true, decide_false, not_false_eq_true]) | skip))
    | (refine end_ret [] ?_; simp [go_sem])
    | ((fail_if_success with_reducible (refine Owe.mk ?_)); (simp (disch := omega) [go_sem]))
    | (refine And.intro (by omega) ?_)
    | (refine nbI fun bq => ?_)
    | ((first | refine zqm ?_ ?_ | refine zgm ?_ ?_ | refine zdm ?_ ?_) <;> (intro h; simp only [h, Bool.not_true, Bool.not_false]))
    | ((first | refine zqs ?_ ?_ | refine zgs ?_ ?_ | refine zds ?_ ?_) <;> (intro h; first | (exfalso; simp at h; omega) | ((try simp only [h]); (try simp at h))))
    | fail)
    refine awp_for [0, 1, 11] [] (fun i : Nat => [(12, nt .i64 i)]) (fun i : Nat => []) (fun i : Nat => l.length - i) (fun i : Nat => i ≤ l.length ∧ (l.take i).all (smallT m) = true) (0) (Le.sub4 rfl (by simp [go_sem])) ⟨?_⟩ ?_
    · exact ⟨Nat.zero_le _, rfl⟩
    intro i ⟨hi, hall⟩ AA hAA; simp only [Go.Ab.keepT_nil, Go.Ab.keepT_cons, Go.Ab.dropO_nil, Go.Ab.dropO_cons, List.contains_cons, List.contains_nil, List.elem_cons, List.elem_nil, Nat.reduceBEq, beq_self_eq_true, Nat.reduceEqDiff, Bool.or_false, Bool.false_or, Bool.or_true, Bool.true_or, Bool.false_eq_true, if_true, if_false, List.cons_append, List.nil_append, List.append_nil]
    by_cases hlt : i < l.length
    · have hu := Small_ok l[i] m hm
      have hn : (l.take (i + 1)).all (smallT m) = smallT m l[i] := by rw [take_next hlt, List.all_append, hall]; simp
      cases hq : smallT m l[i] with
      | true =>
        rw [hq] at hu hn
        repeat' (first
    | (refine awp_seqK (fun K hK => ?_))
    | (refine Hide.go (by assumption) ?_)
    | ((first | refine zqd ?_ ?_ | refine zqn ?_ ?_ | refine zgd ?_ ?_ | refine zgn ?_ ?_ | refine zdd ?_ ?_ | refine zdn ?_ ?_) <;> (intro h; first | (exfalso; omega) | (simp only [h, decide_true, decide_false, not_false_eq_true]) | skip))
    | (refine end_ret [] ?_; simp [go_sem, hlt])
    | (refine stepK_is rfl (hu) (by simp) ?_)
    | (refine dstepK_is rfl (hu) rfl (by simp) ?_)
    | (refine (hAA.next (i + 1) (Le.sub4 rfl (by simp [go_sem])) (by (try dsimp only); omega) ?_))
    | ((fail_if_success with_reducible (refine Owe.mk ?_)); (simp (disch := omega) [go_sem, hlt]))
    | (refine And.intro (by omega) ?_)
    | (refine nbI fun bq => ?_)
    | ((first | refine zqm ?_ ?_ | refine zgm ?_ ?_ | refine zdm ?_ ?_) <;> (intro h; simp only [h, Bool.not_true, Bool.not_false]))
    | ((first | refine zqs ?_ ?_ | refine zgs ?_ ?_ | refine zds ?_ ?_) <;> (intro h; first | (exfalso; simp at h; omega) | ((try simp only [h]); (try simp at h))))
    | fail)
        exact ⟨⟨hlt, hn⟩⟩
      | false =>
        rw [hq] at hu
        repeat' (first
    | (refine awp_seqK (fun K hK => ?_))
    | (refine Hide.go (by assumption) ?_)
    | ((first | refine zqd ?_ ?_ | refine zqn ?_ ?_ | refine zgd ?_ ?_ | refine zgn ?_ ?_ | refine zdd ?_ ?_ | refine zdn ?_ ?_) <;> (intro h; first | (exfalso; omega) | (simp only [h, decide_true, decide_false, not_false_eq_true]) | skip))
    | (refine end_ret [] ?_; simp [go_sem, hlt])
    | (refine stepK_is rfl (hu) (by simp) ?_)
    | (refine dstepK_is rfl (hu) rfl (by simp) ?_)
    | ((fail_if_success with_reducible (refine Owe.mk ?_)); (simp (disch := omega) [go_sem, hlt]))
    | (refine And.intro (by omega) ?_)
    | (refine nbI fun bq => ?_)
    | ((first | refine zqm ?_ ?_ | refine zgm ?_ ?_ | refine zdm ?_ ?_) <;> (intro h; simp only [h, Bool.not_true, Bool.not_false]))
    | ((first | refine zqs ?_ ?_ | refine zgs ?_ ?_ | refine zds ?_ ?_) <;> (intro h; first | (exfalso; simp at h; omega) | ((try simp only [h]); (try simp at h))))
    | fail)
        all_goals exact ⟨l[i], List.getElem_mem hlt, hq⟩
    · obtain rfl : i = l.length := by omega
      rw [List.take_length] at hall
      repeat' (first
    | (refine awp_seqK (fun K hK => ?_))
    | (refine Hide.go (by assumption) ?_)
    | ((first | refine zqd ?_ ?_ | refine zqn ?_ ?_ | refine zgd ?_ ?_ | refine zgn ?_ ?_ | refine zdd ?_ ?_ | refine zdn ?_ ?_) <;> (intro h; first | (exfalso; omega) | (simp only [h, decide_true, decide_false, not_false_eq_true]) | skip))
    | (refine end_ret [] ?_; simp [go_sem, hall])
    | ((fail_if_success with_reducible (refine Owe.mk ?_)); (simp (disch := omega) [go_sem, hall]))
    | (refine And.intro (by omega) ?_)
    | (refine nbI fun bq => ?_)
    | ((first | refine zqm ?_ ?_ | refine zgm ?_ ?_ | refine zdm ?_ ?_) <;> (intro h; simp only [h, Bool.not_true, Bool.not_false]))
    | ((first | refine zqs ?_ ?_ | refine zgs ?_ ?_ | refine zds ?_ ?_) <;> (intro h; first | (exfalso; simp at h; omega) | ((try simp only [h]); (try simp at h))))
    | fail)
  · have e : smallL m l = false := by simp [smallL]; intro h; omega
    rw [e]
    refine acall_of_awp Try.func53 Try.call53 rfl (by simp [Try.ntmps53]) ?_; simp only [Try.ntmps53, Try.results53]
    repeat' (first
    | (refine awp_seqK (fun K hK => ?_))
    | (refine Hide.go (by assumption) ?_)
    | ((first | refine zqd ?_ ?_ | refine zqn ?_ ?_ | refine zgd ?_ ?_ | refine zgn ?_ ?_ | refine zdd ?_ ?_ | refine zdn ?_ ?_) <;> (intro h; first | (exfalso; omega) | (simp only [h, decide_true, decide_false, not_false_eq_true]) | skip))
    | (refine end_ret [] ?_; simp [go_sem])
    | ((fail_if_success with_reducible (refine Owe.mk ?_)); (simp (disch := omega) [go_sem]))
    | (refine And.intro (by omega) ?_)
    | (refine nbI fun bq => ?_)
    | ((first | refine zqm ?_ ?_ | refine zgm ?_ ?_ | refine zdm ?_ ?_) <;> (intro h; simp only [h, Bool.not_true, Bool.not_false]))
    | ((first | refine zqs ?_ ?_ | refine zgs ?_ ?_ | refine zds ?_ ?_) <;> (intro h; first | (exfalso; simp at h; omega) | ((try simp only [h]); (try simp at h))))
    | fail)
end Go.Proofs.Ytldecgghhaoliaa
