/-
  DERIVED. GIVEN WITH THE SEED: THE CARDS: each row of YtgmibdiofkmmbaaGreatDoorRows.lean that lists a variable, with what it lists TIED to the program's text (the seventh form; the later family's looks); each row that meets fmt, with fmt's text TOLD by the authors' own Lean function (tested against real Go, not proved from fmt's source: count such statements apart). THE CARD IS WHAT COUNTS. Prove the row's statement (the work); the ties are given (YtgmibdiofkmmbaaGreatDoorTie.lean); close each card by the builder's one call (the guide's Derived/Test/ToyasCard.lean, 'card_holds'). Laid BY PROGRAM, IN A SANDBOX (cutbox-door.mjs). By AI agents, Wed Nov 11 2026. No macro, syntax, notation, axiom, sorry.
-/
import Derived.Test.YtgmibdiofkmmbaaGreatDoorRows
import GoSem.ClaimSeven
namespace Go.Proofs.YtgmibdiofkmmbaaGreatDoor
namespace Rows

/-- THE TIED CARD OF 'gameplayerlaw12.RelaxRounds'. -/
def relaxRoundsCard : Claim7 := { stood := { row := relaxRoundsRow, standIns := [], harness := (true, "fbdb34ee7caa52d57fb4aa350029e9539158c94a87a8121db73005d499e4158a"), looks := false }, kinds := [], alts := [], laidByText := true, laidKinds := [.widerDeep], laidTests := true, laidLooks := .later }
def RelaxRoundsCardSaid : Prop := Claim7.holds Tryz.pinned (.plain (OpenSpec.ofChange relaxRoundsSpec)) relaxRoundsCard

/-- THE TIED CARD OF 'gameplayerlaw12.RelaxAtoms'. -/
def relaxAtomsCard : Claim7 := { stood := { row := relaxAtomsRow, standIns := [], harness := (true, "fbdb34ee7caa52d57fb4aa350029e9539158c94a87a8121db73005d499e4158a"), looks := false }, kinds := [], alts := [], laidByText := true, laidKinds := [.widerDeep], laidTests := true, laidLooks := .later }
def RelaxAtomsCardSaid : Prop := Claim7.holds Tryz.pinned (.plain (OpenSpec.ofChange relaxAtomsSpec)) relaxAtomsCard

/-- THE TIED CARD OF 'gameplayerlaw12.RelaxParts'. -/
def relaxPartsCard : Claim7 := { stood := { row := relaxPartsRow, standIns := [], harness := (true, "fbdb34ee7caa52d57fb4aa350029e9539158c94a87a8121db73005d499e4158a"), looks := false }, kinds := [], alts := [], laidByText := true, laidKinds := [.widerDeep], laidTests := true, laidLooks := .later }
def RelaxPartsCardSaid : Prop := Claim7.holds Tryz.pinned (.plain (OpenSpec.ofChange relaxPartsSpec)) relaxPartsCard

/-- THE TIED CARD OF 'gameplayerlaw12.RelaxClosed'. -/
def relaxClosedCard : Claim7 := { stood := { row := relaxClosedRow, standIns := [], harness := (true, "fbdb34ee7caa52d57fb4aa350029e9539158c94a87a8121db73005d499e4158a"), looks := false }, kinds := [], alts := [], laidByText := true, laidKinds := [.widerDeep], laidTests := true, laidLooks := .later }
def RelaxClosedCardSaid : Prop := Claim7.holds Tryz.pinned (.plain (OpenSpec.ofChange relaxClosedSpec)) relaxClosedCard

/-- THE TIED CARD OF 'gameplayerlaw12.RelaxGrows'. -/
def relaxGrowsCard : Claim7 := { stood := { row := relaxGrowsRow, standIns := [], harness := (true, "fbdb34ee7caa52d57fb4aa350029e9539158c94a87a8121db73005d499e4158a"), looks := false }, kinds := [], alts := [], laidByText := true, laidKinds := [.widerDeep], laidTests := true, laidLooks := .later }
def RelaxGrowsCardSaid : Prop := Claim7.holds Tryz.pinned (.plain (OpenSpec.ofChange relaxGrowsSpec)) relaxGrowsCard

/-- THE TIED CARD OF 'gameplayerlaw12.RelaxNegations'. -/
def relaxNegationsCard : Claim7 := { stood := { row := relaxNegationsRow, standIns := [], harness := (true, "fbdb34ee7caa52d57fb4aa350029e9539158c94a87a8121db73005d499e4158a"), looks := false }, kinds := [], alts := [], laidByText := true, laidKinds := [.widerDeep], laidTests := true, laidLooks := .later }
def RelaxNegationsCardSaid : Prop := Claim7.holds Tryz.pinned (.plain (OpenSpec.ofChange relaxNegationsSpec)) relaxNegationsCard

/-- THE SECOND FORM's CARD OF 'gameplayerlaw12.RelaxRounds'. -/
def relaxRoundsUptoCard : Claim7 := { stood := { row := relaxRoundsUptoRow, standIns := [], harness := (true, "fbdb34ee7caa52d57fb4aa350029e9539158c94a87a8121db73005d499e4158a"), looks := false }, kinds := [], alts := [], laidByText := true, laidKinds := [.widerDeep], laidTests := true, laidLooks := .later }
def RelaxRoundsUptoCardSaid : Prop := Claim7.holds Tryz.pinned (.plain (OpenSpec.upto relaxRoundsSpec)) relaxRoundsUptoCard

/-- THE SECOND FORM's CARD OF 'gameplayerlaw12.RelaxAtoms'. -/
def relaxAtomsUptoCard : Claim7 := { stood := { row := relaxAtomsUptoRow, standIns := [], harness := (true, "fbdb34ee7caa52d57fb4aa350029e9539158c94a87a8121db73005d499e4158a"), looks := false }, kinds := [], alts := [], laidByText := true, laidKinds := [.widerDeep], laidTests := true, laidLooks := .later }
def RelaxAtomsUptoCardSaid : Prop := Claim7.holds Tryz.pinned (.plain (OpenSpec.upto relaxAtomsSpec)) relaxAtomsUptoCard

/-- THE SECOND FORM's CARD OF 'gameplayerlaw12.RelaxParts'. -/
def relaxPartsUptoCard : Claim7 := { stood := { row := relaxPartsUptoRow, standIns := [], harness := (true, "fbdb34ee7caa52d57fb4aa350029e9539158c94a87a8121db73005d499e4158a"), looks := false }, kinds := [], alts := [], laidByText := true, laidKinds := [.widerDeep], laidTests := true, laidLooks := .later }
def RelaxPartsUptoCardSaid : Prop := Claim7.holds Tryz.pinned (.plain (OpenSpec.upto relaxPartsSpec)) relaxPartsUptoCard

/-- THE SECOND FORM's CARD OF 'gameplayerlaw12.RelaxClosed'. -/
def relaxClosedUptoCard : Claim7 := { stood := { row := relaxClosedUptoRow, standIns := [], harness := (true, "fbdb34ee7caa52d57fb4aa350029e9539158c94a87a8121db73005d499e4158a"), looks := false }, kinds := [], alts := [], laidByText := true, laidKinds := [.widerDeep], laidTests := true, laidLooks := .later }
def RelaxClosedUptoCardSaid : Prop := Claim7.holds Tryz.pinned (.plain (OpenSpec.upto relaxClosedSpec)) relaxClosedUptoCard

/-- THE SECOND FORM's CARD OF 'gameplayerlaw12.RelaxGrows'. -/
def relaxGrowsUptoCard : Claim7 := { stood := { row := relaxGrowsUptoRow, standIns := [], harness := (true, "fbdb34ee7caa52d57fb4aa350029e9539158c94a87a8121db73005d499e4158a"), looks := false }, kinds := [], alts := [], laidByText := true, laidKinds := [.widerDeep], laidTests := true, laidLooks := .later }
def RelaxGrowsUptoCardSaid : Prop := Claim7.holds Tryz.pinned (.plain (OpenSpec.upto relaxGrowsSpec)) relaxGrowsUptoCard

/-- THE SECOND FORM's CARD OF 'gameplayerlaw12.RelaxNegations'. -/
def relaxNegationsUptoCard : Claim7 := { stood := { row := relaxNegationsUptoRow, standIns := [], harness := (true, "fbdb34ee7caa52d57fb4aa350029e9539158c94a87a8121db73005d499e4158a"), looks := false }, kinds := [], alts := [], laidByText := true, laidKinds := [.widerDeep], laidTests := true, laidLooks := .later }
def RelaxNegationsUptoCardSaid : Prop := Claim7.holds Tryz.pinned (.plain (OpenSpec.upto relaxNegationsSpec)) relaxNegationsUptoCard
end Rows
end Go.Proofs.YtgmibdiofkmmbaaGreatDoor
