/-
  DERIVED. GIVEN WITH THE SEED: THE CARDS: each row of YtbgckcdddlmiaaaDoorRows.lean that lists a variable, with what it lists TIED to the program's text (the seventh form; the later family's looks); each row that meets fmt, with fmt's text TOLD by the authors' own Lean function (tested against real Go, not proved from fmt's source: count such statements apart). THE CARD IS WHAT COUNTS. Prove the row's statement (the work); the ties are given (YtbgckcdddlmiaaaDoorTie.lean); close each card by the builder's one call (the guide's Derived/Test/ToyasCard.lean, 'card_holds'). Laid BY PROGRAM, IN A SANDBOX (cutbox-door.mjs). By AI agents, Wed Nov 11 2026. No macro, syntax, notation, axiom, sorry.
-/
import Derived.Test.YtbgckcdddlmiaaaDoorRows
import GoSem.ClaimSeven
namespace Go.Proofs.YtbgckcdddlmiaaaDoor
namespace Rows

/-- THE TIED CARD OF 'gameplayerlaw53.MutateChanges'. -/
def mutateChangesCard : Claim7 := { stood := { row := mutateChangesRow, standIns := [], harness := (true, "957208de6864fb29aa662904a9da02d300d0f5f93e8e48a648637e3bed16e979"), looks := false }, kinds := [], alts := [], laidByText := true, laidKinds := [.data, .data, .data, .data], laidTests := true, laidLooks := .later }
def MutateChangesCardSaid : Prop := Claim7.holds Tryd.pinned (.plain (OpenSpec.ofChange mutateChangesSpec)) mutateChangesCard

/-- THE TIED CARD OF 'gameplayerlaw53.MutateBack'. -/
def mutateBackCard : Claim7 := { stood := { row := mutateBackRow, standIns := [], harness := (true, "957208de6864fb29aa662904a9da02d300d0f5f93e8e48a648637e3bed16e979"), looks := false }, kinds := [], alts := [], laidByText := true, laidKinds := [.data, .data, .data, .data], laidTests := true, laidLooks := .later }
def MutateBackCardSaid : Prop := Claim7.holds Tryd.pinned (.plain (OpenSpec.ofChange mutateBackSpec)) mutateBackCard

/-- THE TIED CARD OF 'gameplayerlaw53.MutateOnce'. -/
def mutateOnceCard : Claim7 := { stood := { row := mutateOnceRow, standIns := [], harness := (true, "957208de6864fb29aa662904a9da02d300d0f5f93e8e48a648637e3bed16e979"), looks := false }, kinds := [], alts := [], laidByText := true, laidKinds := [.data, .data, .data, .data], laidTests := true, laidLooks := .later }
def MutateOnceCardSaid : Prop := Claim7.holds Tryd.pinned (.plain (OpenSpec.ofChange mutateOnceSpec)) mutateOnceCard

/-- THE SECOND FORM's CARD OF 'gameplayerlaw53.MutateChanges'. -/
def mutateChangesUptoCard : Claim7 := { stood := { row := mutateChangesUptoRow, standIns := [], harness := (true, "957208de6864fb29aa662904a9da02d300d0f5f93e8e48a648637e3bed16e979"), looks := false }, kinds := [], alts := [], laidByText := true, laidKinds := [.data, .data, .data, .data], laidTests := true, laidLooks := .later }
def MutateChangesUptoCardSaid : Prop := Claim7.holds Tryd.pinned (.plain (OpenSpec.upto mutateChangesSpec)) mutateChangesUptoCard

/-- THE SECOND FORM's CARD OF 'gameplayerlaw53.MutateBack'. -/
def mutateBackUptoCard : Claim7 := { stood := { row := mutateBackUptoRow, standIns := [], harness := (true, "957208de6864fb29aa662904a9da02d300d0f5f93e8e48a648637e3bed16e979"), looks := false }, kinds := [], alts := [], laidByText := true, laidKinds := [.data, .data, .data, .data], laidTests := true, laidLooks := .later }
def MutateBackUptoCardSaid : Prop := Claim7.holds Tryd.pinned (.plain (OpenSpec.upto mutateBackSpec)) mutateBackUptoCard

/-- THE SECOND FORM's CARD OF 'gameplayerlaw53.MutateOnce'. -/
def mutateOnceUptoCard : Claim7 := { stood := { row := mutateOnceUptoRow, standIns := [], harness := (true, "957208de6864fb29aa662904a9da02d300d0f5f93e8e48a648637e3bed16e979"), looks := false }, kinds := [], alts := [], laidByText := true, laidKinds := [.data, .data, .data, .data], laidTests := true, laidLooks := .later }
def MutateOnceUptoCardSaid : Prop := Claim7.holds Tryd.pinned (.plain (OpenSpec.upto mutateOnceSpec)) mutateOnceUptoCard
end Rows
end Go.Proofs.YtbgckcdddlmiaaaDoor
