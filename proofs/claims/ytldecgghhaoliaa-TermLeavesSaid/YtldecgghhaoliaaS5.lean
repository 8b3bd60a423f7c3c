import Derived.Test.YtldecgghhaoliaaS1
import Derived.Test.YtldecgghhaoliaaA5
import Derived.Lib.Strings
import Derived.Lib.Slices
import Derived.Lib.Walk
import Derived.Lib.Bytealg
import Derived.Test.YtldecgghhaoliaaS3
set_option linter.unusedSimpArgs false
set_option linter.unusedVariables false
namespace Go.Proofs.Ytldecgghhaoliaa
open Go.Ab Go.RowKit
set_option maxRecDepth 100000
set_option maxHeartbeats 4000000
theorem cmpStr_calls (a b : ByteArray) (w : World) :
    Calls Try.prog 78 #[.string a, .string b] w fun e w' => e = .returned (.int .i64 (Lib.compareBytes a.data.toList b.data.toList)) ∧ w' = w := by
  go_enter Try.func78, Try.ntmps78
  go_wp2
  rw [run_callFunc_extern Try.func85 (by kernel_rfl) (by kernel_rfl) (by kernel_rfl) (e := Extern.BytealgCompare.compare) (by kernel_rfl), Lib.run_compareString]
  simp only [Result.andThen]
  rw [Oper.upon_value]
  go_wp2
  go_ret
  exact ⟨rfl, rfl⟩
theorem APost.refl {F : Bool → Facts} {w : World} (h : Fok F w) : APost F w F w := ⟨h, FLe.refl _, fun _ _ _ h => .inl h, fun _ _ _ h => .inl h, Fr.refl _ _⟩
def strC (a b : ByteArray) : Int := Lib.compareBytes a.data.toList b.data.toList
theorem cmpStr_ok (a b : ByteArray) : ACall Try.prog 78 [.sc (.string a), .sc (.string b)] (fun r => r = nt .i64 (strC a b)) := by
  refine ⟨Try.call78, fun w F cargs h1 h2 h3 => ?_⟩
  obtain ⟨l⟩ := cargs
  match l, h2, h3 with
  | [v0, v1], _, h3 =>
    have g0 := h3 0 _ v0 rfl rfl
    have g1 := h3 1 _ v1 rfl rfl
    cases g0
    cases g1
    exact (cmpStr_calls a b w).mono fun e w' ⟨he, hw⟩ => by
      subst hw
      exact ⟨_, nt .i64 (strC a b), F, he, rfl, APost.refl h1, none, rfl, .sc rfl⟩
theorem strCompare_ok (a b : ByteArray) : ACall Try.prog 57 [.sc (.string a), .sc (.string b)] (fun r => r = nt .i64 (strC a b)) := by
  have h := cmpStr_ok a b
  generalize strC a b = c at *
  refine acall_of_awp Try.func57 Try.call57 rfl (by simp [Try.ntmps57]) ?_; simp only [Try.ntmps57, Try.results57]
  repeat' (first | (refine awK fun _ _ => ?_) | refine Hide.go (by assumption) ?_ | refine end_ret [] ?_; simp [go_sem] | refine stepK_is rfl (h) (by simp) ?_ | (fail_if_success with_reducible (refine Owe.mk ?_)); (simp (disch := omega) [go_sem]))
theorem cb_range : ∀ a b : List UInt8, Lib.compareBytes a b = -1 ∨ Lib.compareBytes a b = 0 ∨ Lib.compareBytes a b = 1
  | [], [] => by simp [Lib.compareBytes]
  | [], _ :: _ => by simp [Lib.compareBytes]
  | _ :: _, [] => by simp [Lib.compareBytes]
  | a :: xs, b :: bs => by
    simp only [Lib.compareBytes]
    split
    · simp
    · split
      · simp
      · exact cb_range xs bs
theorem cb_zero : ∀ a b : List UInt8, Lib.compareBytes a b = 0 ↔ a = b
  | [], [] => by simp [Lib.compareBytes]
  | [], _ :: _ => by simp [Lib.compareBytes]
  | _ :: _, [] => by simp [Lib.compareBytes]
  | a :: xs, b :: bs => by
    simp only [Lib.compareBytes]
    split
    · rename_i h
      have : a ≠ b := fun e => by subst e; exact UInt8.lt_irrefl _ h
      simp [this]
    · split
      · rename_i h
        have : a ≠ b := fun e => by subst e; exact UInt8.lt_irrefl _ h
        simp [this]
      · rename_i h1 h2
        have : a = b := UInt8.le_antisymm (UInt8.not_lt.1 h2) (UInt8.not_lt.1 h1)
        subst this
        rw [cb_zero xs bs]; simp
theorem cb_neg : ∀ a b : List UInt8, Lib.compareBytes b a = -Lib.compareBytes a b
  | [], [] => by simp [Lib.compareBytes]
  | [], _ :: _ => by simp [Lib.compareBytes]
  | _ :: _, [] => by simp [Lib.compareBytes]
  | a :: xs, b :: bs => by
    simp only [Lib.compareBytes]
    by_cases h1 : a < b
    · have h2 : ¬ b < a := fun h => UInt8.lt_irrefl _ (UInt8.lt_trans h h1)
      simp [h1, h2]
    · by_cases h2 : b < a
      · simp [h1, h2]
      · simp [h1, h2, cb_neg xs bs]
theorem cb_trans : ∀ a b c : List UInt8, Lib.compareBytes a b ≤ 0 → Lib.compareBytes b c ≤ 0 → Lib.compareBytes a c ≤ 0
  | [], _, [], _, _ => by simp [Lib.compareBytes]
  | [], _, _ :: _, _, _ => by simp [Lib.compareBytes]
  | a :: xs, [], _, h, _ => by simp [Lib.compareBytes] at h
  | a :: xs, b :: bs, [], _, h => by simp [Lib.compareBytes] at h
  | a :: xs, b :: bs, c :: cs, h1, h2 => by
    simp only [Lib.compareBytes] at *
    by_cases hac : a < c
    · simp [hac]
    · by_cases hab : a < b
      · have hcb : c < b := Nat.lt_of_le_of_lt (UInt8.not_lt.1 hac) hab
        have hbc : ¬ b < c := fun h => UInt8.lt_irrefl _ (UInt8.lt_trans h hcb)
        rw [if_neg hbc, if_pos hcb] at h2
        omega
      · rw [if_neg hab] at h1
        by_cases hba : b < a
        · rw [if_pos hba] at h1; omega
        · rw [if_neg hba] at h1
          have e : a = b := UInt8.le_antisymm (UInt8.not_lt.1 hba) (UInt8.not_lt.1 hab)
          subst e
          rw [if_neg hac] at h2
          by_cases hca : c < a
          · rw [if_pos hca] at h2; omega
          · rw [if_neg hca] at h2
            rw [if_neg hac, if_neg hca]
            exact cb_trans xs bs cs h1 h2
theorem cb_less : ∀ a b : List UInt8, Op.bytesLess a b = decide (Lib.compareBytes a b < 0)
  | [], [] => by simp [Lib.compareBytes, Op.bytesLess]
  | [], _ :: _ => by simp [Lib.compareBytes, Op.bytesLess]
  | _ :: _, [] => by simp [Lib.compareBytes, Op.bytesLess]
  | a :: xs, b :: bs => by
    simp only [Lib.compareBytes, Op.bytesLess]
    by_cases h1 : a < b
    · simp [h1]
    · by_cases h2 : b < a
      · have : a ≠ b := fun e => by subst e; exact UInt8.lt_irrefl _ h2
        simp [h1, h2, this]
      · have : a = b := UInt8.le_antisymm (UInt8.not_lt.1 h2) (UInt8.not_lt.1 h1)
        subst this
        simp [UInt8.lt_irrefl, cb_less xs bs]
theorem strC_range (a b : ByteArray) : strC a b = -1 ∨ strC a b = 0 ∨ strC a b = 1 := cb_range _ _
theorem strC_zero {a b : ByteArray} : strC a b = 0 ↔ a = b := by
  unfold strC
  rw [cb_zero]
  constructor
  · intro h
    obtain ⟨⟨a⟩⟩ := a; obtain ⟨⟨b⟩⟩ := b
    simp only at h; subst h; rfl
  · rintro rfl; rfl
theorem strC_neg (a b : ByteArray) : strC b a = -strC a b := cb_neg _ _
theorem strC_trans {a b c : ByteArray} (h1 : strC a b ≤ 0) (h2 : strC b c ≤ 0) : strC a c ≤ 0 := cb_trans _ _ _ h1 h2
theorem toList_data (a : ByteArray) : a.toList = a.data.toList := Lib.toList_data a
theorem less_strC (a b : ByteArray) : Op.bytesLess a.toList b.toList = decide (strC a b < 0) := by
  rw [toList_data, toList_data, cb_less]; rfl
theorem strC_self (a : ByteArray) : strC a a = 0 := strC_zero.2 rfl
def ord (a b : Int) : Int := if a < b then -1 else if b < a then 1 else 0
theorem order_ok (a b : Int) : ACall Try.prog 54 [nt .i64 a, nt .i64 b] (fun r => r = nt .i64 (ord a b)) := by
  unfold ord
  refine acall_of_awp Try.func54 Try.call54 rfl (by simp [Try.ntmps54]) ?_; simp only [Try.ntmps54, Try.results54]
  repeat' (first | (refine awK fun _ _ => ?_) | refine Hide.go (by assumption) ?_ | refine zqd ?_ ?_ <;> (intro h; (simp only [h, decide_true, decide_false, not_false_eq_true])) | refine end_ret [] ?_; simp [go_sem] | (fail_if_success with_reducible (refine Owe.mk ?_)); (simp (disch := omega) [go_sem]))
  all_goals (first | omega | simp [*])
theorem sign_ok (a b : Int) : ACall Try.prog 55 [nt .i64 a, nt .i64 b] (fun r => r = nt .i64 (ord a b)) := by
  unfold ord
  refine acall_of_awp Try.func55 Try.call55 rfl (by simp [Try.ntmps55]) ?_; simp only [Try.ntmps55, Try.results55]
  repeat' (first | (refine awK fun _ _ => ?_) | refine Hide.go (by assumption) ?_ | refine zqd ?_ ?_ <;> (intro h; (simp only [h, decide_true, decide_false, not_false_eq_true])) | refine end_ret [] ?_; simp [go_sem] | (fail_if_success with_reducible (refine Owe.mk ?_)); (simp (disch := omega) [go_sem]))
  all_goals (first | omega | simp [*])
theorem refStrings_ok (a b : ByteArray) : ACall Try.prog 60 [.sc (.string a), .sc (.string b)] (fun r => r = nt .i64 (strC a b)) := by
  have hr := strC_range a b
  have hz := strC_zero (a := a) (b := b)
  have hs := less_strC a b
  generalize strC a b = c at *
  by_cases he : a = b
  · subst he
    have : c = 0 := hz.2 rfl
    subst this
    simp at hs
    refine acall_of_awp Try.func60 Try.call60 rfl (by simp [Try.ntmps60]) ?_; simp only [Try.ntmps60, Try.results60]
    repeat' (first | (refine awK fun _ _ => ?_) | refine Hide.go (by assumption) ?_ | refine end_ret [] ?_; simp [go_sem, hs] | (fail_if_success with_reducible (refine Owe.mk ?_)); (simp (disch := omega) [go_sem, hs]))
  · have hc : c ≠ 0 := fun h => he (hz.1 h)
    refine acall_of_awp Try.func60 Try.call60 rfl (by simp [Try.ntmps60]) ?_; simp only [Try.ntmps60, Try.results60]
    repeat' (first | (refine awK fun _ _ => ?_) | refine Hide.go (by assumption) ?_ | (first | refine zqd ?_ ?_ | refine zqn ?_ ?_) <;> (intro h; first | (exfalso; omega) | (simp only [h, decide_true, decide_false, not_false_eq_true])) | refine end_ret [] ?_; simp [go_sem, hs, he] | (fail_if_success with_reducible (refine Owe.mk ?_)); (simp (disch := omega) [go_sem, hs, he]))
    all_goals omega
def kd (t : Tm) : Int × Int × Int × ByteArray :=
  if 0 < t.args.length then (3, 0, t.args.length, t.name)
  else if (numS t.name).2 = true then (0, (numS t.name).1, 0, ByteArray.mk #[])
  else if varS t.name = true then (2, 0, 0, t.name)
  else (1, 0, 0, t.name)
abbrev eK (k : Int × Int × Int × ByteArray) : AV := .agg [nt .i64 k.1, nt .i64 k.2.1, nt .i64 k.2.2.1, .sc (.string k.2.2.2)]
theorem kindOf_ok (t : Tm) : ACall Try.prog 56 [eT t] (fun r => r = eK (kd t)) := by
  have h1 := Number_ok t.name
  have h2 := Variable_ok t.name
  unfold kd
  by_cases h0 : 0 < t.args.length
  · rw [if_pos h0]
    have h0' : (0 : Int) < t.args.length := by omega
    refine acall_of_awp Try.func56 Try.call56 rfl (by simp [Try.ntmps56]) ?_; simp only [Try.ntmps56, Try.results56]
    repeat' (first | (refine awK fun _ _ => ?_) | refine Hide.go (by assumption) ?_ | refine end_ret [] ?_; simp [go_sem, h0] | (fail_if_success with_reducible (refine Owe.mk ?_)); (simp (disch := omega) [go_sem, h0]))
  · rw [if_neg h0]
    generalize numS t.name = q at *
    obtain ⟨v, b⟩ := q
    dsimp only at *
    cases b
    · generalize varS t.name = c at *
      cases c
      · refine acall_of_awp Try.func56 Try.call56 rfl (by simp [Try.ntmps56]) ?_; simp only [Try.ntmps56, Try.results56]
        repeat' (first | (refine awK fun _ _ => ?_) | refine Hide.go (by assumption) ?_ | refine end_ret [] ?_; simp [go_sem, h0] | refine stepK_is rfl (h1) (by simp) ?_ | refine stepK_is rfl (h2) (by simp) ?_ | (fail_if_success with_reducible (refine Owe.mk ?_)); (simp (disch := omega) [go_sem, h0]))
      · refine acall_of_awp Try.func56 Try.call56 rfl (by simp [Try.ntmps56]) ?_; simp only [Try.ntmps56, Try.results56]
        repeat' (first | (refine awK fun _ _ => ?_) | refine Hide.go (by assumption) ?_ | refine end_ret [] ?_; simp [go_sem, h0] | refine stepK_is rfl (h1) (by simp) ?_ | refine stepK_is rfl (h2) (by simp) ?_ | (fail_if_success with_reducible (refine Owe.mk ?_)); (simp (disch := omega) [go_sem, h0]))
    · refine acall_of_awp Try.func56 Try.call56 rfl (by simp [Try.ntmps56]) ?_; simp only [Try.ntmps56, Try.results56]
      repeat' (first | (refine awK fun _ _ => ?_) | refine Hide.go (by assumption) ?_ | refine end_ret [] ?_; simp [go_sem, h0] | refine stepK_is rfl (h1) (by simp) ?_ | (fail_if_success with_reducible (refine Owe.mk ?_)); (simp (disch := omega) [go_sem, h0]))
mutual
def cmpT : Tm → Tm → Int
  | .mk s ts, b =>
    let x := kd (.mk s ts)
    let y := kd b
    if x = y then cmpL ts b.args
    else if x.1 ≠ y.1 then ord x.1 y.1
    else if x.2.1 ≠ y.2.1 then ord x.2.1 y.2.1
    else if x.2.2.1 ≠ y.2.2.1 then ord x.2.2.1 y.2.2.1
    else strC x.2.2.2 y.2.2.2
def cmpL : List Tm → List Tm → Int
  | [], [] => 0
  | [], _ :: _ => -1
  | _ :: _, [] => 1
  | t :: r, u :: q => if cmpT t u ≠ 0 then cmpT t u else cmpL r q
end
theorem cmpT_eq {a b : Tm} : cmpT a b = if kd a = kd b then cmpL a.args b.args
    else if (kd a).1 ≠ (kd b).1 then ord (kd a).1 (kd b).1
    else if (kd a).2.1 ≠ (kd b).2.1 then ord (kd a).2.1 (kd b).2.1
    else if (kd a).2.2.1 ≠ (kd b).2.2.1 then ord (kd a).2.2.1 (kd b).2.2.1
    else strC (kd a).2.2.2 (kd b).2.2.2 := by cases a; rfl
theorem compareList_of (ts us : List Tm) (l f l' f' : Bool) (h : ∀ t ∈ ts, ∀ u, ACall Try.prog 31 [eT t, eT u] (fun r => r = nt .i64 (cmpT t u))) :
    ACall Try.prog 29 [.list l f (ts.map eTm), .list l' f' (us.map eTm)] (fun r => r = nt .i64 (cmpL ts us)) := by
  refine ACall.bound (i := 0) rfl Try.call29 fun hb => ?_
  rw [List.length_map] at hb
  have hb : ts.length ≤ 140737488355328 := hb
  have ho := order_ok ts.length us.length
  generalize hR : cmpL ts us = R
  refine acall_of_awp Try.func29 Try.call29 rfl (by simp [Try.ntmps29]) ?_; simp only [Try.ntmps29, Try.results29]
  repeat' (first | (refine awK fun _ _ => ?_) | refine Hide.go (by assumption) ?_ | (fail_if_success with_reducible (refine Owe.mk ?_)); (simp (disch := omega) [go_sem]))
  refine awp_for [0, 1] [] (fun i : Nat => [(5, nt .i64 i)]) (fun i : Nat => []) (fun i : Nat => ts.length - i) (fun i : Nat => i ≤ ts.length ∧ i ≤ us.length ∧ cmpL (ts.drop i) (us.drop i) = R) (0) (Le.sub4 rfl (by simp [go_sem])) ⟨?_⟩ ?_
  · exact ⟨Nat.zero_le _, Nat.zero_le _, by simpa using hR⟩
  intro i ⟨hi, hi2, hc⟩ AA hAA; simp only [kL, Nat.reduceBEq, Nat.reduceEqDiff, if_true, if_false, List.cons_append, List.nil_append, List.append_nil]
  by_cases h1 : i < ts.length
  · by_cases h2 : i < us.length
    · have hu := h ts[i] (List.getElem_mem h1) us[i]
      rw [List.drop_eq_getElem_cons h1, List.drop_eq_getElem_cons h2] at hc
      simp only [cmpL] at hc
      generalize cmpT ts[i] us[i] = c at *
      by_cases hz : c = 0
      · subst hz
        simp at hc
        repeat' (first | (refine awK fun _ _ => ?_) | refine Hide.go (by assumption) ?_ | refine dstepK_is rfl (hu) rfl (by simp) ?_ | refine (hAA.next (i + 1) (Le.sub4 rfl (by simp [go_sem])) (by (try dsimp only); omega) ?_) | (fail_if_success with_reducible (refine Owe.mk ?_)); (simp (disch := omega) [go_sem, h1, h2]) | refine awp_draw 10 mix (by decide +kernel) ?_)
        exact ⟨⟨h1, h2, hc⟩⟩
      · simp only [ne_eq, hz, not_false_eq_true, if_true] at hc
        repeat' (first | (refine awK fun _ _ => ?_) | refine Hide.go (by assumption) ?_ | refine zqn ?_ ?_ <;> (intro h; first | (exfalso; omega) | (simp only [h, decide_true, decide_false, not_false_eq_true])) | refine end_ret [] ?_; simp [go_sem, h1, h2, hz, hc] | refine dstepK_is rfl (hu) rfl (by simp) ?_ | (fail_if_success with_reducible (refine Owe.mk ?_)); (simp (disch := omega) [go_sem, h1, h2, hz, hc]) | refine awp_draw 10 mix (by decide +kernel) ?_)
    · have e1 : us.drop i = [] := List.drop_of_length_le (by omega)
      rw [List.drop_eq_getElem_cons h1, e1] at hc
      simp only [cmpL] at hc
      have e2 : ord ts.length us.length = 1 := by unfold ord; rw [if_neg (by omega), if_pos (by omega)]
      rw [e2] at ho
      repeat' (first | (refine awK fun _ _ => ?_) | refine Hide.go (by assumption) ?_ | refine end_ret [] ?_; simp [go_sem, h1, h2, hc] | refine stepK_is rfl (ho) (by simp) ?_ | (fail_if_success with_reducible (refine Owe.mk ?_)); (simp (disch := omega) [go_sem, h1, h2, hc]))
  · have e1 : ts.drop i = [] := List.drop_of_length_le (by omega)
    by_cases h2 : i < us.length
    · rw [List.drop_eq_getElem_cons h2, e1] at hc
      simp only [cmpL] at hc
      have e2 : ord ts.length us.length = -1 := by unfold ord; rw [if_pos (by omega)]
      rw [e2] at ho
      repeat' (first | (refine awK fun _ _ => ?_) | refine Hide.go (by assumption) ?_ | refine end_ret [] ?_; simp [go_sem, h1, h2, hc] | refine stepK_is rfl (ho) (by simp) ?_ | (fail_if_success with_reducible (refine Owe.mk ?_)); (simp (disch := omega) [go_sem, h1, h2, hc]))
    · have e3 : us.drop i = [] := List.drop_of_length_le (by omega)
      rw [e1, e3] at hc
      simp only [cmpL] at hc
      have e2 : ord ts.length us.length = 0 := by unfold ord; rw [if_neg (by omega), if_neg (by omega)]
      rw [e2] at ho
      repeat' (first | (refine awK fun _ _ => ?_) | refine Hide.go (by assumption) ?_ | refine end_ret [] ?_; simp [go_sem, h1, h2, hc] | refine stepK_is rfl (ho) (by simp) ?_ | (fail_if_success with_reducible (refine Owe.mk ?_)); (simp (disch := omega) [go_sem, h1, h2, hc]))
theorem Compare_ok : ∀ a b : Tm, ACall Try.prog 31 [eT a, eT b] (fun r => r = nt .i64 (cmpT a b)) := by
  refine tm_ind fun a ih b => ?_
  have h1 := kindOf_ok a
  have h2 := kindOf_ok b
  have h3 := compareList_of a.args b.args false false false false ih
  rw [cmpT_eq]
  have ho1 := order_ok (kd a).1 (kd b).1
  have ho2 := order_ok (kd a).2.1 (kd b).2.1
  have ho3 := order_ok (kd a).2.2.1 (kd b).2.2.1
  have ho4 := strCompare_ok (kd a).2.2.2 (kd b).2.2.2
  generalize cmpL a.args b.args = c at *
  generalize kd a = x at *
  generalize kd b = y at *
  obtain ⟨x1, x2, x3, x4⟩ := x
  obtain ⟨y1, y2, y3, y4⟩ := y
  dsimp only at *
  generalize ord x1 y1 = o1 at *
  generalize ord x2 y2 = o2 at *
  generalize ord x3 y3 = o3 at *
  generalize strC x4 y4 = o4 at *
  refine acall_of_awp Try.func31 Try.call31 rfl (by simp [Try.ntmps31]) ?_; simp only [Try.ntmps31, Try.results31]
  by_cases q1 : x1 = y1
  · by_cases q2 : x2 = y2
    · by_cases q3 : x3 = y3
      · by_cases q4 : x4 = y4
        · subst q1; subst q2; subst q3; subst q4
          repeat' (first | (refine awK fun _ _ => ?_) | refine Hide.go (by assumption) ?_ | refine end_ret [] ?_; simp [go_sem] | refine dstepK_is rfl (h1) rfl (by simp) ?_ | refine dstepK_is rfl (h2) rfl (by simp) ?_ | refine stepK_is rfl (h3) (by simp) ?_ | (fail_if_success with_reducible (refine Owe.mk ?_)); (simp (disch := omega) [go_sem]) | refine awp_draw 6 mix (by decide +kernel) ?_)
        · subst q1; subst q2; subst q3
          repeat' (first | (refine awK fun _ _ => ?_) | refine Hide.go (by assumption) ?_ | refine end_ret [] ?_; simp [go_sem, q4] | refine dstepK_is rfl (h1) rfl (by simp) ?_ | refine dstepK_is rfl (h2) rfl (by simp) ?_ | refine stepK_is rfl (ho4) (by simp) ?_ | (fail_if_success with_reducible (refine Owe.mk ?_)); (simp (disch := omega) [go_sem, q4]) | refine awp_draw 6 mix (by decide +kernel) ?_)
      · subst q1; subst q2
        repeat' (first | (refine awK fun _ _ => ?_) | refine Hide.go (by assumption) ?_ | refine end_ret [] ?_; simp [go_sem, q3] | refine dstepK_is rfl (h1) rfl (by simp) ?_ | refine dstepK_is rfl (h2) rfl (by simp) ?_ | refine stepK_is rfl (ho3) (by simp) ?_ | (fail_if_success with_reducible (refine Owe.mk ?_)); (simp (disch := omega) [go_sem, q3]) | refine awp_draw 6 mix (by decide +kernel) ?_)
    · subst q1
      repeat' (first | (refine awK fun _ _ => ?_) | refine Hide.go (by assumption) ?_ | refine end_ret [] ?_; simp [go_sem, q2] | refine dstepK_is rfl (h1) rfl (by simp) ?_ | refine dstepK_is rfl (h2) rfl (by simp) ?_ | refine stepK_is rfl (ho2) (by simp) ?_ | (fail_if_success with_reducible (refine Owe.mk ?_)); (simp (disch := omega) [go_sem, q2]) | refine awp_draw 6 mix (by decide +kernel) ?_)
  · repeat' (first | (refine awK fun _ _ => ?_) | refine Hide.go (by assumption) ?_ | refine end_ret [] ?_; simp [go_sem, q1] | refine dstepK_is rfl (h1) rfl (by simp) ?_ | refine dstepK_is rfl (h2) rfl (by simp) ?_ | refine stepK_is rfl (ho1) (by simp) ?_ | (fail_if_success with_reducible (refine Owe.mk ?_)); (simp (disch := omega) [go_sem, q1]) | refine awp_draw 6 mix (by decide +kernel) ?_)
open Go.Ab
set_option maxRecDepth 100000
set_option maxHeartbeats 4000000
theorem refCompareList_of (ts us : List Tm) (l f l' f' : Bool) (h : ∀ t ∈ ts, ∀ u, ACall Try.prog 32 [eT t, eT u] (fun r => r = nt .i64 (cmpT t u))) :
    ACall Try.prog 30 [.list l f (ts.map eTm), .list l' f' (us.map eTm)] (fun r => r = nt .i64 (cmpL ts us)) := by
  refine ACall.bound (i := 0) rfl Try.call30 fun hb => ?_
  rw [List.length_map] at hb
  have hb : ts.length ≤ 140737488355328 := hb
  have ho := sign_ok ts.length us.length
  generalize hR : cmpL ts us = R
  refine acall_of_awp Try.func30 Try.call30 rfl (by simp [Try.ntmps30]) ?_; simp only [Try.ntmps30, Try.results30]
  repeat' (first | (refine awK fun _ _ => ?_) | refine Hide.go (by assumption) ?_ | (fail_if_success with_reducible (refine Owe.mk ?_)); (simp (disch := omega) [go_sem]))
  refine awp_for [0, 1] [] (fun i : Nat => [(5, nt .i64 i)]) (fun i : Nat => []) (fun i : Nat => ts.length - i) (fun i : Nat => i ≤ ts.length ∧ i ≤ us.length ∧ cmpL (ts.drop i) (us.drop i) = R) (0) (Le.sub4 rfl (by simp [go_sem])) ⟨?_⟩ ?_
  · exact ⟨Nat.zero_le _, Nat.zero_le _, by simpa using hR⟩
  intro i ⟨hi, hi2, hc⟩ AA hAA; simp only [kL, Nat.reduceBEq, Nat.reduceEqDiff, if_true, if_false, List.cons_append, List.nil_append, List.append_nil]
  by_cases h1 : i < ts.length
  · by_cases h2 : i < us.length
    · have hu := h ts[i] (List.getElem_mem h1) us[i]
      rw [List.drop_eq_getElem_cons h1, List.drop_eq_getElem_cons h2] at hc
      simp only [cmpL] at hc
      generalize cmpT ts[i] us[i] = c at *
      by_cases hz : c = 0
      · subst hz
        simp at hc
        repeat' (first | (refine awK fun _ _ => ?_) | refine Hide.go (by assumption) ?_ | refine dstepK_is rfl (hu) rfl (by simp) ?_ | refine (hAA.next (i + 1) (Le.sub4 rfl (by simp [go_sem])) (by (try dsimp only); omega) ?_) | (fail_if_success with_reducible (refine Owe.mk ?_)); (simp (disch := omega) [go_sem, h1, h2]) | refine awp_draw 10 mix (by decide +kernel) ?_)
        exact ⟨⟨h1, h2, hc⟩⟩
      · simp only [ne_eq, hz, not_false_eq_true, if_true] at hc
        repeat' (first | (refine awK fun _ _ => ?_) | refine Hide.go (by assumption) ?_ | refine zqn ?_ ?_ <;> (intro h; first | (exfalso; omega) | (simp only [h, decide_true, decide_false, not_false_eq_true])) | refine end_ret [] ?_; simp [go_sem, h1, h2, hz, hc] | refine dstepK_is rfl (hu) rfl (by simp) ?_ | (fail_if_success with_reducible (refine Owe.mk ?_)); (simp (disch := omega) [go_sem, h1, h2, hz, hc]) | refine awp_draw 10 mix (by decide +kernel) ?_)
    · have e1 : us.drop i = [] := List.drop_of_length_le (by omega)
      rw [List.drop_eq_getElem_cons h1, e1] at hc
      simp only [cmpL] at hc
      have e2 : ord ts.length us.length = 1 := by unfold ord; rw [if_neg (by omega), if_pos (by omega)]
      rw [e2] at ho
      repeat' (first | (refine awK fun _ _ => ?_) | refine Hide.go (by assumption) ?_ | refine end_ret [] ?_; simp [go_sem, h1, h2, hc] | refine stepK_is rfl (ho) (by simp) ?_ | (fail_if_success with_reducible (refine Owe.mk ?_)); (simp (disch := omega) [go_sem, h1, h2, hc]))
  · have e1 : ts.drop i = [] := List.drop_of_length_le (by omega)
    by_cases h2 : i < us.length
    · rw [List.drop_eq_getElem_cons h2, e1] at hc
      simp only [cmpL] at hc
      have e2 : ord ts.length us.length = -1 := by unfold ord; rw [if_pos (by omega)]
      rw [e2] at ho
      repeat' (first | (refine awK fun _ _ => ?_) | refine Hide.go (by assumption) ?_ | refine end_ret [] ?_; simp [go_sem, h1, h2, hc] | refine stepK_is rfl (ho) (by simp) ?_ | (fail_if_success with_reducible (refine Owe.mk ?_)); (simp (disch := omega) [go_sem, h1, h2, hc]))
    · have e3 : us.drop i = [] := List.drop_of_length_le (by omega)
      rw [e1, e3] at hc
      simp only [cmpL] at hc
      have e2 : ord ts.length us.length = 0 := by unfold ord; rw [if_neg (by omega), if_neg (by omega)]
      rw [e2] at ho
      repeat' (first | (refine awK fun _ _ => ?_) | refine Hide.go (by assumption) ?_ | refine end_ret [] ?_; simp [go_sem, h1, h2, hc] | refine stepK_is rfl (ho) (by simp) ?_ | (fail_if_success with_reducible (refine Owe.mk ?_)); (simp (disch := omega) [go_sem, h1, h2, hc]))
theorem class_ok (t : Tm) : ACall Try.prog 58 [eT t] (fun r => r = nt .i64 (kd t).1) := by
  have h1 := refIsNumber_ok t.name
  have h2 := refVariable_ok t.name
  unfold kd
  generalize (numS t.name).2 = b at *
  generalize varS t.name = c at *
  by_cases h0 : 0 < t.args.length
  · rw [if_pos h0]
    have h0' : (0 : Int) < t.args.length := by omega
    refine acall_of_awp Try.func58 Try.call58 rfl (by simp [Try.ntmps58]) ?_; simp only [Try.ntmps58, Try.results58]
    repeat' (first | (refine awK fun _ _ => ?_) | refine Hide.go (by assumption) ?_ | refine end_ret [] ?_; simp [go_sem, h0] | (fail_if_success with_reducible (refine Owe.mk ?_)); (simp (disch := omega) [go_sem, h0]))
  · rw [if_neg h0]
    cases b
    · cases c
      · refine acall_of_awp Try.func58 Try.call58 rfl (by simp [Try.ntmps58]) ?_; simp only [Try.ntmps58, Try.results58]
        repeat' (first | (refine awK fun _ _ => ?_) | refine Hide.go (by assumption) ?_ | refine end_ret [] ?_; simp [go_sem, h0] | refine stepK_is rfl (h1) (by simp) ?_ | refine stepK_is rfl (h2) (by simp) ?_ | (fail_if_success with_reducible (refine Owe.mk ?_)); (simp (disch := omega) [go_sem, h0]))
      · refine acall_of_awp Try.func58 Try.call58 rfl (by simp [Try.ntmps58]) ?_; simp only [Try.ntmps58, Try.results58]
        repeat' (first | (refine awK fun _ _ => ?_) | refine Hide.go (by assumption) ?_ | refine end_ret [] ?_; simp [go_sem, h0] | refine stepK_is rfl (h1) (by simp) ?_ | refine stepK_is rfl (h2) (by simp) ?_ | (fail_if_success with_reducible (refine Owe.mk ?_)); (simp (disch := omega) [go_sem, h0]))
    · refine acall_of_awp Try.func58 Try.call58 rfl (by simp [Try.ntmps58]) ?_; simp only [Try.ntmps58, Try.results58]
      repeat' (first | (refine awK fun _ _ => ?_) | refine Hide.go (by assumption) ?_ | refine end_ret [] ?_; simp [go_sem, h0] | refine stepK_is rfl (h1) (by simp) ?_ | (fail_if_success with_reducible (refine Owe.mk ?_)); (simp (disch := omega) [go_sem, h0]))
theorem value_ok (s : ByteArray) : ACall Try.prog 59 [.sc (.string s)] (fun r => r = nt .i64 (numS s).1) := by
  have hc := refNumber_ok s
  generalize numS s = q at *
  obtain ⟨v, b⟩ := q
  dsimp only at *
  refine acall_of_awp Try.func59 Try.call59 rfl (by simp [Try.ntmps59]) ?_; simp only [Try.ntmps59, Try.results59]
  repeat' (first | (refine awK fun _ _ => ?_) | refine Hide.go (by assumption) ?_ | refine end_ret [] ?_; simp [go_sem] | refine stepK_is rfl (hc) (by simp) ?_ | (fail_if_success with_reducible (refine Owe.mk ?_)); (simp (disch := omega) [go_sem]))
theorem kd_cases (t : Tm) : (t.args = [] ∧ (numS t.name).2 = true ∧ kd t = (0, (numS t.name).1, 0, ByteArray.mk #[])) ∨ ((kd t).1 ≠ 0 ∧ kd t = ((kd t).1, 0, (t.args.length : Int), t.name)) := by
  unfold kd
  by_cases h0 : 0 < t.args.length
  · rw [if_pos h0]; right; simp
  · rw [if_neg h0]
    have e : t.args = [] := List.eq_nil_of_length_eq_zero (by omega)
    by_cases h1 : (numS t.name).2 = true
    · rw [if_pos h1]; left; exact ⟨e, h1, rfl⟩
    · rw [if_neg h1]
      split <;> (right; simp [e])
theorem refCompare_ok : ∀ a b : Tm, ACall Try.prog 32 [eT a, eT b] (fun r => r = nt .i64 (cmpT a b)) := by
  refine tm_ind fun a ih b => ?_
  have h1 := class_ok a
  have h2 := class_ok b
  have ho1 := sign_ok (kd a).1 (kd b).1
  rw [cmpT_eq]
  by_cases q1 : (kd a).1 = (kd b).1
  · have e1 : ord (kd a).1 (kd b).1 = 0 := by unfold ord; rw [if_neg (by omega), if_neg (by omega)]
    rw [e1] at ho1
    rcases kd_cases a with ⟨a1, a2, a3⟩ | ⟨a1, a2⟩
    · rcases kd_cases b with ⟨b1, b2, b3⟩ | ⟨b1, b2⟩
      · have hv1 := value_ok a.name
        have hv2 := value_ok b.name
        have ho2 := sign_ok (numS a.name).1 (numS b.name).1
        rw [a3] at h1 ho1 ⊢
        rw [b3] at h2 ho1 ⊢
        rw [a1, b1]
        dsimp only at *
        generalize (numS a.name).1 = u at *
        generalize (numS b.name).1 = v at *
        have e : (if ((0 : Int), u, (0 : Int), ByteArray.mk #[]) = (0, v, 0, ByteArray.mk #[]) then cmpL [] [] else if (0 : Int) ≠ 0 then ord 0 0 else if u ≠ v then ord u v else if (0 : Int) ≠ 0 then ord 0 0 else strC (ByteArray.mk #[]) (ByteArray.mk #[])) = ord u v := by
          by_cases h : u = v
          · subst h; simp [cmpL, ord]
          · simp [h]
        rw [e]
        generalize ord u v = o at *
        clear a1 b1 a2 b2 a3 b3 ih
        refine acall_of_awp Try.func32 Try.call32 rfl (by simp [Try.ntmps32]) ?_; simp only [Try.ntmps32, Try.results32]
        repeat' (first | (refine awK fun _ _ => ?_) | refine Hide.go (by assumption) ?_ | refine end_ret [] ?_; simp [go_sem] | refine stepK_is rfl (h1) (by simp) ?_ | refine dstepK_is rfl (h1) rfl (by simp) ?_ | refine dstepK_is rfl (h2) rfl (by simp) ?_ | refine dstepK_is rfl (ho1) rfl (by simp) ?_ | refine dstepK_is rfl (hv1) rfl (by simp) ?_ | refine dstepK_is rfl (hv2) rfl (by simp) ?_ | refine stepK_is rfl (ho2) (by simp) ?_ | (fail_if_success with_reducible (refine Owe.mk ?_)); (simp (disch := omega) [go_sem]) | refine awp_draw 6 mix (by decide +kernel) ?_)
      · exact absurd (by rw [← q1, a3]) b1
    · rcases kd_cases b with ⟨b1, b2, b3⟩ | ⟨b1, b2⟩
      · exact absurd (by rw [q1, b3]) a1
      · have h3 := refCompareList_of a.args b.args false false false false ih
        have ho2 := sign_ok a.args.length b.args.length
        have ho3 := refStrings_ok a.name b.name
        have hz := strC_zero (a := a.name) (b := b.name)
        generalize cmpL a.args b.args = w at *
        rw [a2, b2]
        dsimp only
        rw [← q1] at h2 ho1 ⊢
        generalize (kd a).1 = k at *
        clear a2 b2 ih
        by_cases q2 : (a.args.length : Int) = b.args.length
        · by_cases q3 : a.name = b.name
          · have q4 : strC a.name b.name = 0 := hz.2 q3
            rw [q4] at ho3
            simp only [q2, q3, if_true]
            refine acall_of_awp Try.func32 Try.call32 rfl (by simp [Try.ntmps32]) ?_; simp only [Try.ntmps32, Try.results32]
            repeat' (first | (refine awK fun _ _ => ?_) | refine Hide.go (by assumption) ?_ | refine end_ret [] ?_; simp [go_sem, a1, q2] | refine stepK_is rfl (h1) (by simp) ?_ | refine dstepK_is rfl (h1) rfl (by simp) ?_ | refine dstepK_is rfl (h2) rfl (by simp) ?_ | refine dstepK_is rfl (ho1) rfl (by simp) ?_ | refine stepK_is rfl (ho3) (by simp) ?_ | refine stepK_is rfl (h3) (by simp) ?_ | (fail_if_success with_reducible (refine Owe.mk ?_)); (simp (disch := omega) [go_sem, a1, q2]) | refine awp_draw 6 mix (by decide +kernel) ?_)
          · have q4 : strC a.name b.name ≠ 0 := fun h => q3 (hz.1 h)
            have e : (if (k, (0 : Int), (a.args.length : Int), a.name) = (k, 0, (b.args.length : Int), b.name) then w else if k ≠ k then ord k k else if (0 : Int) ≠ 0 then ord 0 0 else if (a.args.length : Int) ≠ b.args.length then ord a.args.length b.args.length else strC a.name b.name) = strC a.name b.name := by
              simp [q2, q3]
            rw [e]
            generalize strC a.name b.name = o at *
            refine acall_of_awp Try.func32 Try.call32 rfl (by simp [Try.ntmps32]) ?_; simp only [Try.ntmps32, Try.results32]
            repeat' (first | (refine awK fun _ _ => ?_) | refine Hide.go (by assumption) ?_ | refine end_ret [] ?_; simp [go_sem, a1, q2, q4] | refine stepK_is rfl (h1) (by simp) ?_ | refine dstepK_is rfl (h1) rfl (by simp) ?_ | refine dstepK_is rfl (h2) rfl (by simp) ?_ | refine dstepK_is rfl (ho1) rfl (by simp) ?_ | refine stepK_is rfl (ho3) (by simp) ?_ | (fail_if_success with_reducible (refine Owe.mk ?_)); (simp (disch := omega) [go_sem, a1, q2, q4]) | refine awp_draw 6 mix (by decide +kernel) ?_)
        · have e : (if (k, (0 : Int), (a.args.length : Int), a.name) = (k, 0, (b.args.length : Int), b.name) then w else if k ≠ k then ord k k else if (0 : Int) ≠ 0 then ord 0 0 else if (a.args.length : Int) ≠ b.args.length then ord a.args.length b.args.length else strC a.name b.name) = ord a.args.length b.args.length := by
            simp [q2]
          rw [e]
          generalize ord a.args.length b.args.length = o at *
          refine acall_of_awp Try.func32 Try.call32 rfl (by simp [Try.ntmps32]) ?_; simp only [Try.ntmps32, Try.results32]
          repeat' (first | (refine awK fun _ _ => ?_) | refine Hide.go (by assumption) ?_ | refine end_ret [] ?_; simp [go_sem, a1, q2] | refine stepK_is rfl (h1) (by simp) ?_ | refine dstepK_is rfl (h1) rfl (by simp) ?_ | refine dstepK_is rfl (h2) rfl (by simp) ?_ | refine dstepK_is rfl (ho1) rfl (by simp) ?_ | refine stepK_is rfl (ho2) (by simp) ?_ | (fail_if_success with_reducible (refine Owe.mk ?_)); (simp (disch := omega) [go_sem, a1, q2]) | refine awp_draw 6 mix (by decide +kernel) ?_)
  · have e1 : ord (kd a).1 (kd b).1 ≠ 0 := by unfold ord; split <;> (try split) <;> omega
    have e : (if kd a = kd b then cmpL a.args b.args else if (kd a).1 ≠ (kd b).1 then ord (kd a).1 (kd b).1 else if (kd a).2.1 ≠ (kd b).2.1 then ord (kd a).2.1 (kd b).2.1 else if (kd a).2.2.1 ≠ (kd b).2.2.1 then ord (kd a).2.2.1 (kd b).2.2.1 else strC (kd a).2.2.2 (kd b).2.2.2) = ord (kd a).1 (kd b).1 := by
      rw [if_neg (fun h => q1 (by rw [h])), if_pos q1]
    rw [e]
    generalize ord (kd a).1 (kd b).1 = o at *
    generalize (kd a).1 = x at *
    generalize (kd b).1 = y at *
    refine acall_of_awp Try.func32 Try.call32 rfl (by simp [Try.ntmps32]) ?_; simp only [Try.ntmps32, Try.results32]
    repeat' (first | (refine awK fun _ _ => ?_) | refine Hide.go (by assumption) ?_ | refine end_ret [] ?_; simp [go_sem, e1] | refine dstepK_is rfl (h1) rfl (by simp) ?_ | refine dstepK_is rfl (h2) rfl (by simp) ?_ | refine dstepK_is rfl (ho1) rfl (by simp) ?_ | (fail_if_success with_reducible (refine Owe.mk ?_)); (simp (disch := omega) [go_sem, e1]) | refine awp_draw 6 mix (by decide +kernel) ?_)
mutual
def eqT : Tm → Tm → Bool
  | .mk s ts, b => decide (s = b.name) && eqL ts b.args
def eqL : List Tm → List Tm → Bool
  | [], [] => true
  | t :: r, u :: q => eqT t u && eqL r q
  | _, _ => false
end
theorem eqT_eq {a b : Tm} : eqT a b = (decide (a.name = b.name) && eqL a.args b.args) := by cases a; rfl
theorem tm_eta (t : Tm) : t = .mk t.name t.args := by cases t; rfl
theorem eqL_of {ts us : List Tm} (h : ∀ t ∈ ts, ∀ u, eqT t u = true ↔ t = u) : eqL ts us = true ↔ ts = us := by
  induction ts generalizing us with
  | nil => cases us <;> simp [eqL]
  | cons t r ih =>
    cases us with
    | nil => simp [eqL]
    | cons u q =>
      simp only [eqL, Bool.and_eq_true, List.cons.injEq]
      rw [h t (by simp), ih (fun v hv => h v (by simp [hv]))]
theorem eqT_iff : ∀ a b : Tm, eqT a b = true ↔ a = b := by
  refine tm_ind fun a ih b => ?_
  rw [eqT_eq, Bool.and_eq_true, decide_eq_true_eq, eqL_of ih]
  constructor
  · rintro ⟨h1, h2⟩; rw [tm_eta a, tm_eta b, h1, h2]
  · rintro rfl; exact ⟨rfl, rfl⟩
def thn (x y : Int) : Int := if x ≠ 0 then x else y
def TR (ab bc ac : Int) : Prop := ab ≤ 0 → bc ≤ 0 → ac ≤ 0 ∧ (ac = 0 → ab = 0 ∧ bc = 0)
theorem thn_TR {a b c x y z : Int} (h : TR a b c) (k : TR x y z) : TR (thn a x) (thn b y) (thn c z) := by
  unfold TR thn at *
  intro h1 h2
  have ha : a ≤ 0 := by split at h1 <;> omega
  have hb : b ≤ 0 := by split at h2 <;> omega
  have hh := h ha hb
  by_cases hc : c = 0
  · have := hh.2 hc
    simp only [this, hc] at *
    simpa using k (by simpa using h1) (by simpa using h2)
  · rw [if_pos hc]
    exact ⟨hh.1, fun e => absurd e hc⟩
theorem ord_zero {a b : Int} : ord a b = 0 ↔ a = b := by unfold ord; split <;> (try split) <;> simp <;> omega
theorem ord_neg (a b : Int) : ord b a = -ord a b := by unfold ord; split <;> split <;> (try split) <;> omega
theorem ord_TR (a b c : Int) : TR (ord a b) (ord b c) (ord a c) := by
  unfold TR ord
  intro h1 h2
  split <;> (try split) <;> (split at h1 <;> (try split at h1)) <;> (split at h2 <;> (try split at h2)) <;> (try split) <;> (try split) <;> (try split) <;> (try split) <;> simp <;> omega
theorem strC_TR (a b c : ByteArray) : TR (strC a b) (strC b c) (strC a c) := by
  intro h1 h2
  refine ⟨strC_trans h1 h2, fun h => ?_⟩
  have e := strC_zero.1 h
  subst e
  have := strC_neg a b
  have hz : strC a b = 0 := by omega
  exact ⟨hz, by omega⟩
theorem cmpT_thn (a b : Tm) : cmpT a b = thn (ord (kd a).1 (kd b).1) (thn (ord (kd a).2.1 (kd b).2.1) (thn (ord (kd a).2.2.1 (kd b).2.2.1) (thn (strC (kd a).2.2.2 (kd b).2.2.2) (cmpL a.args b.args)))) := by
  rw [cmpT_eq]
  generalize kd a = x
  generalize kd b = y
  obtain ⟨x1, x2, x3, x4⟩ := x
  obtain ⟨y1, y2, y3, y4⟩ := y
  dsimp only
  by_cases q1 : x1 = y1
  · subst q1
    have e1 : ord x1 x1 = 0 := ord_zero.2 rfl
    by_cases q2 : x2 = y2
    · subst q2
      have e2 : ord x2 x2 = 0 := ord_zero.2 rfl
      by_cases q3 : x3 = y3
      · subst q3
        have e3 : ord x3 x3 = 0 := ord_zero.2 rfl
        by_cases q4 : x4 = y4
        · subst q4; simp [thn, e1, e2, e3, strC_self]
        · have : strC x4 y4 ≠ 0 := fun h => q4 (strC_zero.1 h)
          simp [thn, e1, e2, e3, q4, this]
      · have : ord x3 y3 ≠ 0 := fun h => q3 (ord_zero.1 h)
        simp [thn, e1, e2, q3, this]
    · have : ord x2 y2 ≠ 0 := fun h => q2 (ord_zero.1 h)
      simp [thn, e1, q2, this]
  · have : ord x1 y1 ≠ 0 := fun h => q1 (ord_zero.1 h)
    simp [thn, q1, this]
theorem cmpL_cons (t u : Tm) (r q : List Tm) : cmpL (t :: r) (u :: q) = thn (cmpT t u) (cmpL r q) := rfl
theorem thn_neg {x y x' y' : Int} (h : x' = -x) (k : y' = -y) : thn x' y' = -thn x y := by
  unfold thn; subst h; subst k; split <;> split <;> omega
theorem thn_zero {x y : Int} : thn x y = 0 ↔ x = 0 ∧ y = 0 := by unfold thn; split <;> omega
theorem cmpL_neg_of {ts : List Tm} : ∀ {us : List Tm}, (∀ t ∈ ts, ∀ u, cmpT u t = -cmpT t u) → cmpL us ts = -cmpL ts us := by
  induction ts with
  | nil => intro us _; cases us <;> simp [cmpL]
  | cons t r ih =>
    intro us h
    cases us with
    | nil => simp [cmpL]
    | cons u q => rw [cmpL_cons, cmpL_cons]; exact thn_neg (h t (by simp) u) (ih fun v hv => h v (by simp [hv]))
theorem cmp_neg : ∀ a b : Tm, cmpT b a = -cmpT a b := by
  refine tm_ind fun a ih b => ?_
  rw [cmpT_thn, cmpT_thn a b]
  exact thn_neg (ord_neg _ _) (thn_neg (ord_neg _ _) (thn_neg (ord_neg _ _) (thn_neg (strC_neg _ _) (cmpL_neg_of ih))))
theorem cmpL_TR_of {ts : List Tm} : ∀ {us vs : List Tm}, (∀ t ∈ ts, ∀ u v, TR (cmpT t u) (cmpT u v) (cmpT t v)) → TR (cmpL ts us) (cmpL us vs) (cmpL ts vs) := by
  induction ts with
  | nil =>
    intro us vs _
    cases us <;> cases vs <;> simp [cmpL, TR]
  | cons t r ih =>
    intro us vs h
    cases us with
    | nil => intro h1; simp [cmpL] at h1
    | cons u q =>
      cases vs with
      | nil => intro _ h1; simp [cmpL] at h1
      | cons v p =>
        simp only [cmpL_cons]
        exact thn_TR (h t (by simp) u v) (ih fun w hw => h w (by simp [hw]))
theorem cmp_TR : ∀ a b c : Tm, TR (cmpT a b) (cmpT b c) (cmpT a c) := by
  refine tm_ind fun a ih b c => ?_
  rw [cmpT_thn, cmpT_thn b c, cmpT_thn a c]
  exact thn_TR (ord_TR _ _ _) (thn_TR (ord_TR _ _ _) (thn_TR (ord_TR _ _ _) (thn_TR (strC_TR _ _ _) (cmpL_TR_of ih))))
theorem bytes_ext {a b : ByteArray} (h : a.size = b.size) (k : ∀ i, i < a.size → bt a i = bt b i) : a = b := by
  obtain ⟨⟨a⟩⟩ := a
  obtain ⟨⟨b⟩⟩ := b
  have hl : a.length = b.length := h
  congr 2
  refine List.ext_getElem hl fun i h1 h2 => ?_
  have := k i h1
  simp only [bt, List.getD_eq_getElem?_getD, List.getElem?_eq_getElem h1, List.getElem?_eq_getElem h2, Option.getD_some] at this
  exact UInt8.toNat_inj.1 (by omega)
theorem numS_inj {s s' : ByteArray} (h1 : (numS s).2 = true) (h2 : (numS s').2 = true) (h : (numS s).1 = (numS s').1) : s = s' := by
  unfold numS at *
  split at h1
  · rename_i c1
    split at h2
    · rename_i c2
      rw [if_pos c1, if_pos c2] at h
      obtain ⟨⟨a1, a2, a3⟩, a4⟩ := c1
      obtain ⟨⟨b1, b2, b3⟩, b4⟩ := c2
      simp only at h
      have d1 : ∀ i, i < s.size → 48 ≤ bt s i ∧ bt s i ≤ 57 := fun i hi => by
        have := List.all_eq_true.1 a4 i (by simpa using hi); simpa using this
      have d2 : ∀ i, i < s'.size → 48 ≤ bt s' i ∧ bt s' i ≤ 57 := fun i hi => by
        have := List.all_eq_true.1 b4 i (by simpa using hi); simpa using this
      have p0 := d1 0 (by omega)
      have q0 := d2 0 (by omega)
      have n1 : s.size = 1 ∨ s.size = 2 ∨ s.size = 3 ∨ s.size = 4 := by omega
      have n2 : s'.size = 1 ∨ s'.size = 2 ∨ s'.size = 3 ∨ s'.size = 4 := by omega
      have key : s.size = s'.size ∧ ∀ i, i < s.size → bt s i = bt s' i := by
        rcases n1 with e1 | e1 | e1 | e1 <;> rcases n2 with e2 | e2 | e2 | e2 <;> rw [e1, e2] at h <;> simp only [valS] at h
        all_goals
          have p1 := fun hh => d1 1 hh
          have p2 := fun hh => d1 2 hh
          have p3 := fun hh => d1 3 hh
          have q1 := fun hh => d2 1 hh
          have q2 := fun hh => d2 2 hh
          have q3 := fun hh => d2 3 hh
          rw [e1] at p1 p2 p3
          rw [e2] at q1 q2 q3
          simp only [Nat.reduceLT, Nat.lt_irrefl, forall_const, false_implies, implies_true] at p1 p2 p3 q1 q2 q3
          refine ⟨by omega, fun i hi => ?_⟩
          have hi4 : i = 0 ∨ i = 1 ∨ i = 2 ∨ i = 3 := by omega
          rcases hi4 with rfl | rfl | rfl | rfl <;> omega
      exact bytes_ext key.1 key.2
    · simp at h2
  · simp at h1
theorem cmpL_zero_of {ts : List Tm} : ∀ {us : List Tm}, (∀ t ∈ ts, ∀ u, cmpT t u = 0 ↔ t = u) → (cmpL ts us = 0 ↔ ts = us) := by
  induction ts with
  | nil => intro us _; cases us <;> simp [cmpL]
  | cons t r ih =>
    intro us h
    cases us with
    | nil => simp [cmpL]
    | cons u q => rw [cmpL_cons, thn_zero, h t (by simp) u, ih fun v hv => h v (by simp [hv])]; simp
theorem cmp_zero : ∀ a b : Tm, cmpT a b = 0 ↔ a = b := by
  refine tm_ind fun a ih b => ?_
  rw [cmpT_thn]
  simp only [thn_zero, ord_zero, strC_zero, cmpL_zero_of ih]
  constructor
  · rintro ⟨h1, h2, h3, h4, h5⟩
    have hn : a.name = b.name := by
      rcases kd_cases a with ⟨a1, a2, a3⟩ | ⟨a1, a2⟩
      · rcases kd_cases b with ⟨b1, b2, b3⟩ | ⟨b1, b2⟩
        · rw [a3, b3] at h2
          exact numS_inj a2 b2 h2
        · exact absurd (by rw [← h1, a3]) b1
      · rcases kd_cases b with ⟨b1, b2, b3⟩ | ⟨b1, b2⟩
        · exact absurd (by rw [h1, b3]) a1
        · rw [a2, b2] at h4; exact h4
    rw [tm_eta a, tm_eta b, hn, h5]
  · rintro rfl; simp
theorem cmp_self (a : Tm) : cmpT a a = 0 := (cmp_zero a a).2 rfl
open Go.Ab
set_option maxRecDepth 100000
def Sasc (l : List Tm) : Prop := l.Pairwise fun a b => cmpT a b < 0
theorem cmp_lt_le {a b c : Tm} (h : cmpT a b < 0) (k : cmpT b c ≤ 0) : cmpT a c < 0 := by
  have := cmp_TR a b c (by omega) k
  omega
theorem cmp_le_lt {a b c : Tm} (h : cmpT a b ≤ 0) (k : cmpT b c < 0) : cmpT a c < 0 := by
  have := cmp_TR a b c h (by omega)
  omega
theorem cmp_pre : Pre cmpT := ⟨fun x y z h k => (cmp_TR x y z h k).1, fun x y h => by rw [cmp_neg x y]; omega⟩
theorem asc_uniq : ∀ {a b : List Tm}, Sasc a → Sasc b → (∀ t, t ∈ a ↔ t ∈ b) → a = b
  | [], [], _, _, _ => rfl
  | [], u :: r, _, _, h => absurd ((h u).2 List.mem_cons_self) (by simp)
  | t :: q, [], _, _, h => absurd ((h t).1 List.mem_cons_self) (by simp)
  | t :: q, u :: r, ha, hb, h => by
    obtain ⟨a1, a2⟩ := List.pairwise_cons.1 ha
    obtain ⟨b1, b2⟩ := List.pairwise_cons.1 hb
    have htu : t = u := by
      rcases List.mem_cons.1 ((h t).1 List.mem_cons_self) with e | e
      · exact e
      · rcases List.mem_cons.1 ((h u).2 List.mem_cons_self) with e2 | e2
        · exact e2.symm
        · have h1 := a1 _ e2
          have h2 := b1 _ e
          rw [cmp_neg t u] at h2
          omega
    subst htu
    congr 1
    refine asc_uniq a2 b2 fun x => ?_
    constructor
    · intro hx
      rcases List.mem_cons.1 ((h x).1 (List.mem_cons_of_mem _ hx)) with e | e
      · subst e; have := a1 _ hx; rw [cmp_self] at this; omega
      · exact e
    · intro hx
      rcases List.mem_cons.1 ((h x).2 (List.mem_cons_of_mem _ hx)) with e | e
      · subst e; have := b1 _ hx; rw [cmp_self] at this; omega
      · exact e
def insT (t : Tm) : List Tm → List Tm
  | [] => [t]
  | u :: r => if cmpT u t < 0 then u :: insT t r else if cmpT u t = 0 then u :: r else t :: u :: r
def sortT (l : List Tm) : List Tm := l.foldl (fun o t => insT t o) []
theorem mem_insT {t x : Tm} : ∀ {o : List Tm}, x ∈ insT t o ↔ x = t ∨ x ∈ o
  | [] => by simp [insT]
  | u :: r => by
    unfold insT
    split
    · simp only [List.mem_cons, mem_insT (o := r)]
      constructor <;> (intro h; rcases h with h | h | h <;> simp [h])
    · split
      · rename_i h0
        have : u = t := (cmp_zero _ _).1 h0
        subst this
        simp
      · simp only [List.mem_cons]
theorem asc_insT {t : Tm} : ∀ {o : List Tm}, Sasc o → Sasc (insT t o)
  | [], _ => by simp [insT, Sasc]
  | u :: r, h => by
    obtain ⟨h1, h2⟩ := List.pairwise_cons.1 h
    unfold insT
    split
    · rename_i hu
      refine List.pairwise_cons.2 ⟨fun x hx => ?_, asc_insT h2⟩
      rcases mem_insT.1 hx with e | e
      · rw [e]; exact hu
      · exact h1 x e
    · split
      · exact h
      · rename_i n1 n2
        have hut : cmpT t u < 0 := by rw [cmp_neg u t]; omega
        refine List.pairwise_cons.2 ⟨fun x hx => ?_, h⟩
        rcases List.mem_cons.1 hx with e | e
        · rw [e]; exact hut
        · exact cmp_lt_le hut (Int.le_of_lt (h1 x e))
theorem foldl_ins : ∀ (l o : List Tm), Sasc o → Sasc (l.foldl (fun o t => insT t o) o) ∧ ∀ x, x ∈ l.foldl (fun o t => insT t o) o ↔ x ∈ l ∨ x ∈ o
  | [], o, h => ⟨h, fun x => by simp⟩
  | t :: r, o, h => by
    obtain ⟨h1, h2⟩ := foldl_ins r (insT t o) (asc_insT h)
    refine ⟨h1, fun x => ?_⟩
    rw [List.foldl_cons, h2, mem_insT, List.mem_cons]
    constructor
    · rintro (a | a | a) <;> simp [a]
    · rintro ((a | a) | a) <;> simp [a]
theorem sort_asc (l : List Tm) : Sasc (sortT l) := (foldl_ins l [] List.Pairwise.nil).1
theorem sort_mem (l : List Tm) (x : Tm) : x ∈ sortT l ↔ x ∈ l := by
  have := (foldl_ins l [] List.Pairwise.nil).2 x
  simpa [sortT] using this
theorem sortT_next {l : List Tm} {i : Nat} (h : i < l.length) : sortT (l.take (i + 1)) = insT l[i] (sortT (l.take i)) := by
  unfold sortT
  rw [take_next h, List.foldl_append]; rfl
def ddP (l : List Tm) : Nat → List Tm
  | 0 => []
  | i + 1 => match l[i]? with
    | some t => if i = 0 ∨ cmpT (l.getD (i - 1) t) t ≠ 0 then ddP l i ++ [t] else ddP l i
    | none => ddP l i
theorem ddP_next {l : List Tm} {i : Nat} (h : i < l.length) : ddP l (i + 1) = if i = 0 ∨ cmpT (l.getD (i - 1) l[i]) l[i] ≠ 0 then ddP l i ++ [l[i]] else ddP l i := by
  rw [ddP, List.getElem?_eq_getElem h]
theorem ddP_facts {l : List Tm} (hs : SrtOn cmpT l 0 l.length) : ∀ i, i ≤ l.length → Sasc (ddP l i) ∧ ∀ x, x ∈ ddP l i ↔ x ∈ l.take i
  | 0, _ => ⟨List.Pairwise.nil, fun x => by simp [ddP]⟩
  | i + 1, hi => by
    have hlt : i < l.length := by omega
    obtain ⟨h1, h2⟩ := ddP_facts hs i (by omega)
    rw [ddP_next hlt, take_next hlt]
    split
    · rename_i hc
      refine ⟨List.pairwise_append.2 ⟨h1, by simp, fun x hx y hy => ?_⟩, fun x => by simp only [List.mem_append, List.mem_singleton, h2]⟩
      simp only [List.mem_singleton] at hy
      subst hy
      rcases hc with rfl | hc
      · simp [ddP] at hx
      · rw [h2, List.mem_take_iff_getElem] at hx
        obtain ⟨k, hk, rfl⟩ := hx
        have hi0 : i - 1 < l.length := by omega
        have hd : l.getD (i - 1) l[i] = l[i - 1] := by rw [List.getD_eq_getElem?_getD, List.getElem?_eq_getElem hi0]; rfl
        rw [hd] at hc
        have h3 := hs (i - 1) i _ _ (Nat.zero_le _) (by omega) hlt (List.getElem?_eq_getElem hi0) (List.getElem?_eq_getElem hlt)
        have h4 : cmpT l[k] l[i - 1] ≤ 0 := by
          by_cases e : k = i - 1
          · subst e; rw [cmp_self]; exact Int.le_refl _
          · exact hs k (i - 1) _ _ (Nat.zero_le _) (by omega) hi0 (List.getElem?_eq_getElem (by omega)) (List.getElem?_eq_getElem hi0)
        exact cmp_le_lt h4 (by omega)
    · rename_i hc
      simp only [not_or, Decidable.not_not] at hc
      refine ⟨h1, fun x => ?_⟩
      rw [h2]
      simp only [List.mem_append, List.mem_singleton]
      constructor
      · exact .inl
      · rintro (h | rfl)
        · exact h
        · have hi0 : i - 1 < l.length := by omega
          have hd : l.getD (i - 1) l[i] = l[i - 1] := by rw [List.getD_eq_getElem?_getD, List.getElem?_eq_getElem hi0]; rfl
          rw [hd] at hc
          have e := (cmp_zero _ _).1 hc.2
          rw [← e, List.mem_take_iff_getElem]
          exact ⟨i - 1, by omega, rfl⟩
theorem ddP_sort {l m : List Tm} (hp : m.Perm l) (hs : SrtOn cmpT m 0 l.length) : ddP m m.length = sortT l := by
  rw [← hp.length_eq] at hs
  obtain ⟨h1, h2⟩ := ddP_facts hs m.length (Nat.le_refl _)
  refine asc_uniq h1 (sort_asc l) fun x => ?_
  rw [h2, List.take_length, sort_mem, hp.mem_iff]
instance : DecidableEq Tm := fun a b => decidable_of_iff (eqT a b = true) (eqT_iff a b)
end Go.Proofs.Ytldecgghhaoliaa
