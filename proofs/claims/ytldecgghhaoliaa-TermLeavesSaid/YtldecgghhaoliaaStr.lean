/-
  Str: the order of strings.
-/
import Derived.Test.YtldecgghhaoliaaTy
import Derived.Test.YtldecgghhaoliaaA5
import Derived.Lib.Strings
import Derived.Lib.Slices
import Derived.Lib.Walk
import Derived.Lib.Bytealg
namespace Go.Proofs.Ytldecgghhaoliaa
open Go.Ab Go.RowKit
set_option linter.unusedSimpArgs false
set_option maxRecDepth 100000
set_option maxHeartbeats 4000000
theorem cmpStr_calls (a b : ByteArray) (w : World) :
    Calls Try.prog 78 #[.string a, .string b] w fun e w' => e = .returned (.int .i64 (Lib.compareBytes a.data.toList b.data.toList)) ∧ w' = w := by
  go_enter Try.func78, Try.ntmps78
  go_wp2
  rw [run_callFunc_extern Try.func85 (by kernel_rfl) (by kernel_rfl) (by kernel_rfl) (e := Extern.BytealgCompare.compare) (by kernel_rfl), Lib.run_compareString]
  simp only [Result.andThen]
  rw [Oper.upon_value]
  go_wp2
  go_ret
  exact ⟨rfl, rfl⟩
theorem APost.refl {F : Bool → Facts} {w : World} (h : Fok F w) : APost F w F w := ⟨h, FLe.refl _, fun _ _ _ h => .inl h, fun _ _ _ h => .inl h, Fr.refl _ _⟩
def strC (a b : ByteArray) : Int := Lib.compareBytes a.data.toList b.data.toList
theorem cmpStr_ok (a b : ByteArray) : ACall Try.prog 78 [.sc (.string a), .sc (.string b)] (fun r => r = nt .i64 (strC a b)) := by
  refine ⟨Try.call78, fun w F cargs h1 h2 h3 => ?_⟩
  obtain ⟨l⟩ := cargs
  match l, h2, h3 with
  | [v0, v1], _, h3 =>
    have g0 := h3 0 _ v0 rfl rfl
    have g1 := h3 1 _ v1 rfl rfl
    cases g0
    cases g1
    exact (cmpStr_calls a b w).mono fun e w' ⟨he, hw⟩ => by
      subst hw
      exact ⟨_, nt .i64 (strC a b), F, he, rfl, APost.refl h1, none, rfl, .sc rfl⟩
theorem strCompare_ok (a b : ByteArray) : ACall Try.prog 57 [.sc (.string a), .sc (.string b)] (fun r => r = nt .i64 (strC a b)) := by
  have h := cmpStr_ok a b
  generalize strC a b = c at *
  refine acall_of_awp Try.func57 Try.call57 rfl (by simp [Try.ntmps57]) ?_; simp only [Try.ntmps57, Try.results57]
  repeat' (first
    | (refine awp_seqK (fun K hK => ?_))
    | (refine Hide.go (by assumption) ?_)
    | ((first | refine zqd ?_ ?_ | refine zqn ?_ ?_ | refine zgd ?_ ?_ | refine zgn ?_ ?_ | refine zdd ?_ ?_ | refine zdn ?_ ?_) <;> (intro h; first | (exfalso; omega) | (simp only [h, decide_true, decide_false, not_false_eq_true]) | skip))
    | (refine end_ret [] ?_; simp [go_sem])
    | (refine stepK_is rfl (h) (by simp) ?_)
    | (refine dstepK_is rfl (h) rfl (by simp) ?_)
    | ((fail_if_success with_reducible (refine Owe.mk ?_)); (simp (disch := omega) [go_sem]))
    | (refine And.intro (by omega) ?_)
    | (refine nbI fun bq => ?_)
    | ((first | refine zqm ?_ ?_ | refine zgm ?_ ?_ | refine zdm ?_ ?_) <;> (intro h; simp only [h, Bool.not_true, Bool.not_false]))
    | ((first | refine zqs ?_ ?_ | refine zgs ?_ ?_ | refine zds ?_ ?_) <;> (intro h; first | (exfalso; simp at h; omega) | ((try simp only [h]); (try simp at h))))
    | fail)
/- The order of bytes, plainly. -/
theorem cb_range : ∀ a b : List UInt8, Lib.compareBytes a b = -1 ∨ Lib.compareBytes a b = 0 ∨ Lib.compareBytes a b = 1
  | [], [] => by simp [Lib.compareBytes]
  | [], _ :: _ => by simp [Lib.compareBytes]
  | _ :: _, [] => by simp [Lib.compareBytes]
  | a :: xs, b :: bs => by
    simp only [Lib.compareBytes]
    split
    · simp
    · split
      · simp
      · exact cb_range xs bs
theorem cb_zero : ∀ a b : List UInt8, Lib.compareBytes a b = 0 ↔ a = b
  | [], [] => by simp [Lib.compareBytes]
  | [], _ :: _ => by simp [Lib.compareBytes]
  | _ :: _, [] => by simp [Lib.compareBytes]
  | a :: xs, b :: bs => by
    simp only [Lib.compareBytes]
    split
    · rename_i h
      have : a ≠ b := fun e => by subst e; exact UInt8.lt_irrefl _ h
      simp [this]
    · split
      · rename_i h
        have : a ≠ b := fun e => by subst e; exact UInt8.lt_irrefl _ h
        simp [this]
      · rename_i h1 h2
        have : a = b := UInt8.le_antisymm (UInt8.not_lt.1 h2) (UInt8.not_lt.1 h1)
        subst this
        rw [cb_zero xs bs]; simp
theorem cb_neg : ∀ a b : List UInt8, Lib.compareBytes b a = -Lib.compareBytes a b
  | [], [] => by simp [Lib.compareBytes]
  | [], _ :: _ => by simp [Lib.compareBytes]
  | _ :: _, [] => by simp [Lib.compareBytes]
  | a :: xs, b :: bs => by
    simp only [Lib.compareBytes]
    by_cases h1 : a < b
    · have h2 : ¬ b < a := fun h => UInt8.lt_irrefl _ (UInt8.lt_trans h h1)
      simp [h1, h2]
    · by_cases h2 : b < a
      · simp [h1, h2]
      · simp [h1, h2, cb_neg xs bs]
theorem cb_trans : ∀ a b c : List UInt8, Lib.compareBytes a b ≤ 0 → Lib.compareBytes b c ≤ 0 → Lib.compareBytes a c ≤ 0
  | [], _, [], _, _ => by simp [Lib.compareBytes]
  | [], _, _ :: _, _, _ => by simp [Lib.compareBytes]
  | a :: xs, [], _, h, _ => by simp [Lib.compareBytes] at h
  | a :: xs, b :: bs, [], _, h => by simp [Lib.compareBytes] at h
  | a :: xs, b :: bs, c :: cs, h1, h2 => by
    simp only [Lib.compareBytes] at *
    by_cases hac : a < c
    · simp [hac]
    · by_cases hab : a < b
      · have hcb : c < b := Nat.lt_of_le_of_lt (UInt8.not_lt.1 hac) hab
        have hbc : ¬ b < c := fun h => UInt8.lt_irrefl _ (UInt8.lt_trans h hcb)
        rw [if_neg hbc, if_pos hcb] at h2
        omega
      · rw [if_neg hab] at h1
        by_cases hba : b < a
        · rw [if_pos hba] at h1; omega
        · rw [if_neg hba] at h1
          have e : a = b := UInt8.le_antisymm (UInt8.not_lt.1 hba) (UInt8.not_lt.1 hab)
          subst e
          rw [if_neg hac] at h2
          by_cases hca : c < a
          · rw [if_pos hca] at h2; omega
          · rw [if_neg hca] at h2
            rw [if_neg hac, if_neg hca]
            exact cb_trans xs bs cs h1 h2
theorem cb_less : ∀ a b : List UInt8, Op.bytesLess a b = decide (Lib.compareBytes a b < 0)
  | [], [] => by simp [Lib.compareBytes, Op.bytesLess]
  | [], _ :: _ => by simp [Lib.compareBytes, Op.bytesLess]
  | _ :: _, [] => by simp [Lib.compareBytes, Op.bytesLess]
  | a :: xs, b :: bs => by
    simp only [Lib.compareBytes, Op.bytesLess]
    by_cases h1 : a < b
    · simp [h1]
    · by_cases h2 : b < a
      · have : a ≠ b := fun e => by subst e; exact UInt8.lt_irrefl _ h2
        simp [h1, h2, this]
      · have : a = b := UInt8.le_antisymm (UInt8.not_lt.1 h2) (UInt8.not_lt.1 h1)
        subst this
        simp [UInt8.lt_irrefl, cb_less xs bs]
theorem strC_range (a b : ByteArray) : strC a b = -1 ∨ strC a b = 0 ∨ strC a b = 1 := cb_range _ _
theorem strC_zero {a b : ByteArray} : strC a b = 0 ↔ a = b := by
  unfold strC
  rw [cb_zero]
  constructor
  · intro h
    obtain ⟨⟨a⟩⟩ := a; obtain ⟨⟨b⟩⟩ := b
    simp only at h; subst h; rfl
  · rintro rfl; rfl
theorem strC_neg (a b : ByteArray) : strC b a = -strC a b := cb_neg _ _
theorem strC_trans {a b c : ByteArray} (h1 : strC a b ≤ 0) (h2 : strC b c ≤ 0) : strC a c ≤ 0 := cb_trans _ _ _ h1 h2
theorem toList_data (a : ByteArray) : a.toList = a.data.toList := Lib.toList_data a
theorem less_strC (a b : ByteArray) : Op.bytesLess a.toList b.toList = decide (strC a b < 0) := by
  rw [toList_data, toList_data, cb_less]; rfl
theorem strC_self (a : ByteArray) : strC a a = 0 := strC_zero.2 rfl
end Go.Proofs.Ytldecgghhaoliaa
