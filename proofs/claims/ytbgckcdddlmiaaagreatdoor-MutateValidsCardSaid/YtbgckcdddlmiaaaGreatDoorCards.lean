/-
  DERIVED. GIVEN WITH THE SEED: THE CARDS: each row of YtbgckcdddlmiaaaGreatDoorRows.lean that lists a variable, with what it lists TIED to the program's text (the seventh form; the later family's looks); each row that meets fmt, with fmt's text TOLD by the authors' own Lean function (tested against real Go, not proved from fmt's source: count such statements apart). THE CARD IS WHAT COUNTS. Prove the row's statement (the work); the ties are given (YtbgckcdddlmiaaaGreatDoorTie.lean); close each card by the builder's one call (the guide's Derived/Test/ToyasCard.lean, 'card_holds'). Laid BY PROGRAM, IN A SANDBOX (cutbox-door.mjs). By AI agents, Wed Nov 11 2026. No macro, syntax, notation, axiom, sorry.
-/
import Derived.Test.YtbgckcdddlmiaaaGreatDoorRows
import GoSem.ClaimSeven
namespace Go.Proofs.YtbgckcdddlmiaaaGreatDoor
namespace Rows

/-- THE TIED CARD OF 'gameplayerlaw53.MutateAlls'. -/
def mutateAllsCard : Claim7 := { stood := { row := mutateAllsRow, standIns := [], harness := (true, "4880d31eaca1151033396a598fe222721f1a3bcfde771b0010e92efbe0b732b7"), looks := false }, kinds := [], alts := [], laidByText := true, laidKinds := [.data, .data, .data, .data], laidTests := true, laidLooks := .later }
def MutateAllsCardSaid : Prop := Claim7.holds Tryz.pinned (.plain (OpenSpec.ofChange mutateAllsSpec)) mutateAllsCard

/-- THE TIED CARD OF 'gameplayerlaw53.MutateApplies'. -/
def mutateAppliesCard : Claim7 := { stood := { row := mutateAppliesRow, standIns := [], harness := (true, "4880d31eaca1151033396a598fe222721f1a3bcfde771b0010e92efbe0b732b7"), looks := false }, kinds := [], alts := [], laidByText := true, laidKinds := [.data, .data, .data, .data], laidTests := true, laidLooks := .later }
def MutateAppliesCardSaid : Prop := Claim7.holds Tryz.pinned (.plain (OpenSpec.ofChange mutateAppliesSpec)) mutateAppliesCard

/-- THE TIED CARD OF 'gameplayerlaw53.MutateValids'. -/
def mutateValidsCard : Claim7 := { stood := { row := mutateValidsRow, standIns := [], harness := (true, "4880d31eaca1151033396a598fe222721f1a3bcfde771b0010e92efbe0b732b7"), looks := false }, kinds := [], alts := [], laidByText := true, laidKinds := [.data, .data, .data, .widerDeep, .data], laidTests := true, laidLooks := .later }
def MutateValidsCardSaid : Prop := Claim7.holds Tryz.pinned (.plain (OpenSpec.ofChange mutateValidsSpec)) mutateValidsCard

/-- THE SECOND FORM's CARD OF 'gameplayerlaw53.MutateAlls'. -/
def mutateAllsUptoCard : Claim7 := { stood := { row := mutateAllsUptoRow, standIns := [], harness := (true, "4880d31eaca1151033396a598fe222721f1a3bcfde771b0010e92efbe0b732b7"), looks := false }, kinds := [], alts := [], laidByText := true, laidKinds := [.data, .data, .data, .data], laidTests := true, laidLooks := .later }
def MutateAllsUptoCardSaid : Prop := Claim7.holds Tryz.pinned (.plain (OpenSpec.upto mutateAllsSpec)) mutateAllsUptoCard

/-- THE SECOND FORM's CARD OF 'gameplayerlaw53.MutateApplies'. -/
def mutateAppliesUptoCard : Claim7 := { stood := { row := mutateAppliesUptoRow, standIns := [], harness := (true, "4880d31eaca1151033396a598fe222721f1a3bcfde771b0010e92efbe0b732b7"), looks := false }, kinds := [], alts := [], laidByText := true, laidKinds := [.data, .data, .data, .data], laidTests := true, laidLooks := .later }
def MutateAppliesUptoCardSaid : Prop := Claim7.holds Tryz.pinned (.plain (OpenSpec.upto mutateAppliesSpec)) mutateAppliesUptoCard

/-- THE SECOND FORM's CARD OF 'gameplayerlaw53.MutateValids'. -/
def mutateValidsUptoCard : Claim7 := { stood := { row := mutateValidsUptoRow, standIns := [], harness := (true, "4880d31eaca1151033396a598fe222721f1a3bcfde771b0010e92efbe0b732b7"), looks := false }, kinds := [], alts := [], laidByText := true, laidKinds := [.data, .data, .data, .widerDeep, .data], laidTests := true, laidLooks := .later }
def MutateValidsUptoCardSaid : Prop := Claim7.holds Tryz.pinned (.plain (OpenSpec.upto mutateValidsSpec)) mutateValidsUptoCard
end Rows
end Go.Proofs.YtbgckcdddlmiaaaGreatDoor
