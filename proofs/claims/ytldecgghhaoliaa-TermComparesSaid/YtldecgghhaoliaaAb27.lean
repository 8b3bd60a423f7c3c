/-
  Ab27: loops whose state is a list of slots that turn and the rest as it was.
-/
import Derived.Test.YtldecgghhaoliaaAb26
namespace Go.Ab
open Go.RowKit
set_option linter.unusedVariables false
set_option linter.unusedSimpArgs false

/-- The slots that are still read. -/
def keepT (live : List Nat) : List (Nat × AV) → List (Nat × AV)
  | [] => []
  | p :: r => if live.contains p.1 = true then p :: keepT live r else keepT live r
/-- The objects but for some. -/
def dropO (out : List Nat) : Objs → Objs
  | [] => []
  | p :: r => if out.contains p.1 = true then dropO out r else p :: dropO out r
theorem keepT_nil {live : List Nat} : keepT live [] = [] := rfl
theorem keepT_cons {live : List Nat} {p : Nat × AV} {r : List (Nat × AV)} : keepT live (p :: r) = if live.contains p.1 = true then p :: keepT live r else keepT live r := rfl
theorem dropO_nil {out : List Nat} : dropO out [] = [] := rfl
theorem dropO_cons {out : List Nat} {p : Nat × AObj} {r : Objs} : dropO out (p :: r) = if out.contains p.1 = true then dropO out r else p :: dropO out r := rfl

/-- A round's end, kept out of sight while the round is walked: the state at another value of the ghost, with a smaller measure. -/
structure HideA {α : Type} (A : ASt → Prop) (S : α → ASt) (meas : α → Nat) (inv : α → Prop) (x : α) : Prop where
  go : ∀ s y, Le (S y) s → meas y < meas x → inv y → A s
/-- What is owed aside of the walk: the walk's own simp leaves it alone. -/
structure Owe (p : Prop) : Prop where
  it : p
theorem HideA.next {α : Type} {A : ASt → Prop} {S : α → ASt} {meas : α → Nat} {inv : α → Prop} {x : α} {s : ASt} (h : HideA A S meas inv x) (y : α) (hl : Le (S y) s) (hm : meas y < meas x) (hi : Owe (inv y)) : A s := h.go s y hl hm hi.it
/-- A loop with a ghost: what turns is f x in slots and g x in objects. -/
theorem awp_for {α : Type} {P : Program} {b : Code} {Q : Exit → ASt → Prop} {n : Nat} {t : List (Nat × AV)} {o : Objs} (live out : List Nat) (f : α → List (Nat × AV)) (g : α → Objs) (meas : α → Nat) (inv : α → Prop) (x0 : α)
    (h0 : Le ⟨n, f x0 ++ keepT live t, g x0 ++ dropO out o⟩ ⟨n, t, o⟩) (hi : Owe (inv x0))
    (hr : ∀ x, inv x → ∀ A, HideA A (fun x => ⟨n, f x ++ keepT live t, g x ++ dropO out o⟩) meas inv x → awp P b (thenQ A Q) ⟨n, f x ++ keepT live t, g x ++ dropO out o⟩) : awp P (.loop b) Q ⟨n, t, o⟩ := by
  refine ⟨fun m s => ∃ x, m = meas x ∧ inv x ∧ s = ⟨n, f x ++ keepT live t, g x ++ dropO out o⟩, ⟨meas x0, _, h0, x0, rfl, hi.it, rfl⟩, ?_⟩
  rintro m s ⟨x, rfl, hx, rfl⟩
  exact hr x hx _ ⟨fun s y hl hm hi => ⟨meas y, _, hm, hl, y, rfl, hi, rfl⟩⟩
end Go.Ab
