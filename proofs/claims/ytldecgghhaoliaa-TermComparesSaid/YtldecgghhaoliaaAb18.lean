/-
  Ab18: the weakest precondition over abstract states.
-/
import Derived.Test.YtldecgghhaoliaaAb18b
import Derived.Deep.LoopGhost
namespace Go.Ab
open Go.RowKit
set_option linter.unusedVariables false
set_option linter.unusedSimpArgs false

/-- What stands behind the first of two pieces of code; in a block; in a loop. -/
def thenQ (K : ASt → Prop) (Q : Exit → ASt → Prop) : Exit → ASt → Prop
  | .normal, s => K s
  | e, s => Q e s
def blockQ (id : Nat) (Q : Exit → ASt → Prop) : Exit → ASt → Prop
  | .exit id', s => if id' = id then Q .normal s else Q (.exit id') s
  | e, s => Q e s
/-- A round's end: the relation at a smaller number. -/
def Again (I : Nat → ASt → Prop) (n : Nat) (s : ASt) : Prop := ∃ n' s0, n' < n ∧ Le s0 s ∧ I n' s0
/-- The weakest precondition, reckoned. -/
def awp (P : Program) : Code → (Exit → ASt → Prop) → ASt → Prop
  | .skip, Q, s => Q .normal s
  | .region _ ops draw, Q, s => match draw with
    | false => arun P ops ops.toList (Q .normal) s
    | true => P.follows .mixedOrders = true ∧ ∃ m, drawOK ops m = true ∧ darun P ops m ops.toList (Q .normal) s
  | .seq a b, Q, s => awp P a (thenQ (awp P b Q) Q) s
  | .cond c x y, Q, s => match ev s.t c with
    | some (.sc (.bool b)) => (b = true → awp P x Q s) ∧ (b = false → awp P y Q s)
    | _ => False
  | .block id b, Q, s => awp P b (blockQ id Q) s
  | .loop b, Q, s => ∃ (I : Nat → ASt → Prop), (∃ n s0, Le s0 s ∧ I n s0) ∧ ∀ n s, I n s → awp P b (thenQ (Again I n) Q) s
  | .exit id, Q, s => Q (.exit id) s
  | .ret, Q, s => Q .ret s
  | _, _, _ => False

theorem awp_sound {P : Program} : ∀ (c : Code) (Q : Exit → ASt → Prop) (s : ASt), awp P c Q s → AWp P c Q s
  | .skip, Q, s, h => fun C F μ a w hs => wp_skip ⟨F, μ, s, h, hs⟩
  | .region id ops draw, Q, s, h => by
    intro C F μ a w hs
    cases draw with
    | false =>
      refine wp_region ?_
      have := arun_sound (Q := fun e a' w' => ∃ F' μ' s', Q e s' ∧ SR C F' μ' s' a' w') ops.toList 0 _ s h (fun j => by simp) C F μ a w hs (fun a' w' s' F' μ' hk hs' => ⟨F', μ', s', hk, hs'⟩)
      simpa [List.range_eq_range'] using this
    | true =>
      obtain ⟨hm, m, hok, h⟩ := h
      exact draw_sound hm hok h C F μ a w hs (fun a' w' s' F' μ' hk hs' => ⟨F', μ', s', hk, hs'⟩)
  | .seq x y, Q, s, h => fun C F μ a w hs => by
    refine wp_seq (wp_mono (awp_sound x _ s h C F μ a w hs) ?_)
    rintro e a' w' ⟨F', μ', s', hq, hs'⟩
    cases e with
    | normal => exact awp_sound y Q s' hq C F' μ' a' w' hs'
    | _ => exact ⟨F', μ', s', hq, hs'⟩
  | .cond c x y, Q, s, h => fun C F μ a w hs => by
    simp only [awp] at h
    split at h
    · rename_i b hb
      have hrv := evs hs c _ hb
      generalize hv : a.eval c = v at hrv
      cases hrv
      cases b with
      | true => exact wp_cond_true hv (awp_sound x Q s (h.1 rfl) C F μ a w hs)
      | false => exact wp_cond_false hv (awp_sound y Q s (h.2 rfl) C F μ a w hs)
    · exact h.elim
  | .block id b, Q, s, h => fun C F μ a w hs => by
    refine wp_block (wp_mono (awp_sound b _ s h C F μ a w hs) ?_)
    rintro e a' w' ⟨F', μ', s', hq, hs'⟩
    cases e with
    | exit id' =>
      simp only [Exit.inBlock]
      simp only [blockQ] at hq
      split
      · rename_i hid; rw [if_pos hid] at hq; exact ⟨F', μ', s', hq, hs'⟩
      · rename_i hid; rw [if_neg hid] at hq; exact ⟨F', μ', s', hq, hs'⟩
    | _ => exact ⟨F', μ', s', hq, hs'⟩
  | .loop b, Q, s, h => fun C F μ a w hs => by
    obtain ⟨I, ⟨n, s0, hle, hI⟩, hround⟩ := h
    obtain ⟨F0, μ0, hs0⟩ := hle C F μ a w hs
    refine wp_loop_ghost (fun n a w => ∃ F μ s, I n s ∧ SR C F μ s a w) n ⟨F0, μ0, s0, hI, hs0⟩ ?_
    rintro n a w ⟨F, μ, s, hI, hs⟩
    refine wp_mono (awp_sound b _ s (hround n s hI) C F μ a w hs) ?_
    rintro e a' w' ⟨F', μ', s', hq, hs'⟩
    cases e with
    | normal =>
      obtain ⟨n', s1, hlt, hle', hI'⟩ := hq
      obtain ⟨F2, μ2, hs2⟩ := hle' C F' μ' a' w' hs'
      exact ⟨n', hlt, F2, μ2, s1, hI', hs2⟩
    | _ => exact ⟨F', μ', s', hq, hs'⟩
  | .exit id, Q, s, h => fun C F μ a w hs => wp_exit ⟨F, μ, s, h, hs⟩
  | .ret, Q, s, h => fun C F μ a w hs => wp_ret ⟨F, μ, s, h, hs⟩
  | .rangeFunc .., Q, s, h => h.elim
  | .scope _, Q, s, h => h.elim
  | .label _, Q, s, h => h.elim
  | .goto _, Q, s, h => h.elim
  | .refuse _, Q, s, h => h.elim

end Go.Ab
