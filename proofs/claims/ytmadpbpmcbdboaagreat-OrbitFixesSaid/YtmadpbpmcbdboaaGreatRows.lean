/-
  NARROWER THAN 'FOR EVERY INPUT', by the rows' own cells (each row's printed sentence says how): OrbitImages: loops · OrbitCanons: loops · OrbitCounts: loops · OrbitFixes: loops.
  DERIVED. THE GIVEN ROWS OF THIS SEAT. 5 by the template 'for every input the law returns true; each argument reads behind the call as it read before'; 0 by the template 'total and deterministic' (their statements: YtmadpbpmcbdboaaGreatTotals.lean).
  GIVEN WITH THE SEED: the statements are not yours to turn. If you find one false, say at which input.
  Laid BY PROGRAM, IN A SANDBOX (cutbox-rows.mjs): the forced cells as the released guide's own fill.sh prints them over the translation 35aa16012bda4989… (all of the seat's roots in one cut). By AI agents, Wed Nov 11 2026. No macro, syntax, notation, axiom, sorry.
-/
import Derived.Test.YtmadpbpmcbdboaaGreatChecked
import GoSem.Claim
import GoSem.ClaimJoined
import GoSem.ClaimMapViews
import Derived.JoinedTies
import Derived.KernelRfl
namespace Go.Proofs.YtmadpbpmcbdboaaGreat
/- THE CELL 'sum', in the pinned program and in every row, IS THE sha256 OF THE DUMP (.gsa) THAT YtmadpbpmcbdboaaGreatProg.lean LOADS. Nothing in Lean hashes anything: it is a label: what it is worth is what the hold of that sum in a sandbox is worth. -/
noncomputable def Tryz.pinned : Pinned := { name := "ytmadpbpmcbdboaagreat", sum := "35aa16012bda49899b5a77939e1eff9a24db79b329b08fa880e6573145265488", checked := Tryz.checked }
namespace Rows
def none {H : Type} : Left H := { results := [], args := [] }

/-- 'gameplayerlaw30.OrbitImages': WHATEVER THE INPUT: true; the input reads as it did. -/
def orbitImagesSpec : ChangeSpec := { name := "orbitImages", fn := fun _ => fun
  | [d1, d2, d3] => { results := [.lit (.bool true)], args := [d1, d2, d3] }
  | _ => none }
def orbitImagesRow : OpenClaim := { program := "ytmadpbpmcbdboaagreat", sum := "35aa16012bda49899b5a77939e1eff9a24db79b329b08fa880e6573145265488", func := "gameplayer/gameplayerlaw30.OrbitImages", spec := "orbitImages", inPlace := ["internal/bytealg.abigen_runtime_cmpstring", "slices.overlaps[[]gameplayer/api.Term]"], unfollowed := true, recurses := true, loops := true, apart := false }
def OrbitImagesSaid : Prop := orbitImagesRow.holds Tryz.pinned (OpenSpec.ofChange orbitImagesSpec)

/-- ITS FALSE NEIGHBOUR: 'it returns false'. Refute it at one input. -/
def orbitImagesWrong : ChangeSpec := { name := "orbitImages", fn := fun _ => fun
  | [d1, d2, d3] => { results := [.lit (.bool false)], args := [d1, d2, d3] }
  | _ => none }
def OrbitImagesWrongFalsely : Prop := orbitImagesRow.holds Tryz.pinned (OpenSpec.ofChange orbitImagesWrong)

/-- 'gameplayerlaw30.OrbitCanons': WHATEVER THE INPUT: true; the input reads as it did. -/
def orbitCanonsSpec : ChangeSpec := { name := "orbitCanons", fn := fun _ => fun
  | [d1, d2] => { results := [.lit (.bool true)], args := [d1, d2] }
  | _ => none }
def orbitCanonsRow : OpenClaim := { program := "ytmadpbpmcbdboaagreat", sum := "35aa16012bda49899b5a77939e1eff9a24db79b329b08fa880e6573145265488", func := "gameplayer/gameplayerlaw30.OrbitCanons", spec := "orbitCanons", inPlace := ["internal/bytealg.abigen_runtime_cmpstring", "slices.overlaps[[]gameplayer/api.Term]"], unfollowed := true, recurses := true, loops := true, apart := false }
def OrbitCanonsSaid : Prop := orbitCanonsRow.holds Tryz.pinned (OpenSpec.ofChange orbitCanonsSpec)

/-- ITS FALSE NEIGHBOUR: 'it returns false'. Refute it at one input. -/
def orbitCanonsWrong : ChangeSpec := { name := "orbitCanons", fn := fun _ => fun
  | [d1, d2] => { results := [.lit (.bool false)], args := [d1, d2] }
  | _ => none }
def OrbitCanonsWrongFalsely : Prop := orbitCanonsRow.holds Tryz.pinned (OpenSpec.ofChange orbitCanonsWrong)

/-- 'gameplayerlaw30.OrbitClosed': WHATEVER THE INPUT: true; the input reads as it did. -/
def orbitClosedSpec : ChangeSpec := { name := "orbitClosed", fn := fun _ => fun
  | [d] => { results := [.lit (.bool true)], args := [d] }
  | _ => none }
def orbitClosedRow : OpenClaim := { program := "ytmadpbpmcbdboaagreat", sum := "35aa16012bda49899b5a77939e1eff9a24db79b329b08fa880e6573145265488", func := "gameplayer/gameplayerlaw30.OrbitClosed", spec := "orbitClosed", inPlace := ["internal/bytealg.abigen_runtime_cmpstring", "slices.overlaps[[]gameplayer/api.Term]"], unfollowed := true, recurses := true, apart := false }
def OrbitClosedSaid : Prop := orbitClosedRow.holds Tryz.pinned (OpenSpec.ofChange orbitClosedSpec)

/-- ITS FALSE NEIGHBOUR: 'it returns false'. Refute it at one input. -/
def orbitClosedWrong : ChangeSpec := { name := "orbitClosed", fn := fun _ => fun
  | [d] => { results := [.lit (.bool false)], args := [d] }
  | _ => none }
def OrbitClosedWrongFalsely : Prop := orbitClosedRow.holds Tryz.pinned (OpenSpec.ofChange orbitClosedWrong)

/-- 'gameplayerlaw30.OrbitCounts': WHATEVER THE INPUT: true; the input reads as it did. -/
def orbitCountsSpec : ChangeSpec := { name := "orbitCounts", fn := fun _ => fun
  | [d1, d2] => { results := [.lit (.bool true)], args := [d1, d2] }
  | _ => none }
def orbitCountsRow : OpenClaim := { program := "ytmadpbpmcbdboaagreat", sum := "35aa16012bda49899b5a77939e1eff9a24db79b329b08fa880e6573145265488", func := "gameplayer/gameplayerlaw30.OrbitCounts", spec := "orbitCounts", inPlace := ["internal/bytealg.abigen_runtime_cmpstring", "slices.overlaps[[]gameplayer/api.Term]"], unfollowed := true, recurses := true, loops := true, apart := false }
def OrbitCountsSaid : Prop := orbitCountsRow.holds Tryz.pinned (OpenSpec.ofChange orbitCountsSpec)

/-- ITS FALSE NEIGHBOUR: 'it returns false'. Refute it at one input. -/
def orbitCountsWrong : ChangeSpec := { name := "orbitCounts", fn := fun _ => fun
  | [d1, d2] => { results := [.lit (.bool false)], args := [d1, d2] }
  | _ => none }
def OrbitCountsWrongFalsely : Prop := orbitCountsRow.holds Tryz.pinned (OpenSpec.ofChange orbitCountsWrong)

/-- 'gameplayerlaw30.OrbitFixes': WHATEVER THE INPUT: true; the input reads as it did. -/
def orbitFixesSpec : ChangeSpec := { name := "orbitFixes", fn := fun _ => fun
  | [d1, d2, d3] => { results := [.lit (.bool true)], args := [d1, d2, d3] }
  | _ => none }
def orbitFixesRow : OpenClaim := { program := "ytmadpbpmcbdboaagreat", sum := "35aa16012bda49899b5a77939e1eff9a24db79b329b08fa880e6573145265488", func := "gameplayer/gameplayerlaw30.OrbitFixes", spec := "orbitFixes", inPlace := ["internal/bytealg.abigen_runtime_cmpstring", "slices.overlaps[[]gameplayer/api.Term]"], unfollowed := true, recurses := true, loops := true, apart := false }
def OrbitFixesSaid : Prop := orbitFixesRow.holds Tryz.pinned (OpenSpec.ofChange orbitFixesSpec)

/-- ITS FALSE NEIGHBOUR: 'it returns false'. Refute it at one input. -/
def orbitFixesWrong : ChangeSpec := { name := "orbitFixes", fn := fun _ => fun
  | [d1, d2, d3] => { results := [.lit (.bool false)], args := [d1, d2, d3] }
  | _ => none }
def OrbitFixesWrongFalsely : Prop := orbitFixesRow.holds Tryz.pinned (OpenSpec.ofChange orbitFixesWrong)

/- THE SECOND FORM. 'bulk': how many values and letters a reading holds, each counted each time it is reached (what is shared counts as often as it is met; a slice's spare places count too). A statement '..UptoSaid' is the law's where the arguments, and the package variables that the reading takes, are together of bulk at most 1048576: NARROWER than '..Said'. Prove '..Said' where nothing that the law and all that it calls make is longer than what came in: it says more and counts as full. Else prove '..UptoSaid'. A law counts once. -/
mutual
def uptoBulk {H : Type} : DataW H → Nat
  | .lit (.string bytes) => bytes.length + 1
  | .lit _ => 1
  | .nil => 1
  | .ptr d => uptoBulk d + 1
  | .slice elems spare => uptoBulkAll elems + uptoBulkAll spare + 1
  | .agg parts => uptoBulkAll parts + 1
  | .iface _ d => uptoBulk d + 1
  | .map entries => uptoBulkEntries entries + 1
  | .held _ => 1
def uptoBulkAll {H : Type} : List (DataW H) → Nat
  | [] => 0
  | d :: r => uptoBulk d + uptoBulkAll r
def uptoBulkEntries {H : Type} : List (Lit × DataW H) → Nat
  | [] => 0
  | x :: r => uptoBulkEntry x + uptoBulkEntries r
def uptoBulkEntry {H : Type} : Lit × DataW H → Nat
  | (.string bytes, d) => bytes.length + uptoBulk d + 1
  | (_, d) => uptoBulk d + 1
 end
def uptoSmall : (H : Type) → List (DataW H) → Bool := fun _ ds => decide (uptoBulkAll ds ≤ 1048576)
def OpenSpec.upto (s : _root_.Go.ChangeSpec) : _root_.Go.OpenSpec := { _root_.Go.OpenSpec.ofChange s with cond := some uptoSmall }

/-- 'gameplayerlaw30.OrbitImages', WHERE WHAT IT READS IS OF BULK AT MOST 1048576: true; the input reads as it did. -/
def orbitImagesUptoRow : OpenClaim := { program := "ytmadpbpmcbdboaagreat", sum := "35aa16012bda49899b5a77939e1eff9a24db79b329b08fa880e6573145265488", func := "gameplayer/gameplayerlaw30.OrbitImages", spec := "orbitImages", inPlace := ["internal/bytealg.abigen_runtime_cmpstring", "slices.overlaps[[]gameplayer/api.Term]"], unfollowed := true, recurses := true, loops := true, apart := false, narrowed := true }
def OrbitImagesUptoSaid : Prop := orbitImagesUptoRow.holds Tryz.pinned (OpenSpec.upto orbitImagesSpec)

/-- 'gameplayerlaw30.OrbitCanons', WHERE WHAT IT READS IS OF BULK AT MOST 1048576: true; the input reads as it did. -/
def orbitCanonsUptoRow : OpenClaim := { program := "ytmadpbpmcbdboaagreat", sum := "35aa16012bda49899b5a77939e1eff9a24db79b329b08fa880e6573145265488", func := "gameplayer/gameplayerlaw30.OrbitCanons", spec := "orbitCanons", inPlace := ["internal/bytealg.abigen_runtime_cmpstring", "slices.overlaps[[]gameplayer/api.Term]"], unfollowed := true, recurses := true, loops := true, apart := false, narrowed := true }
def OrbitCanonsUptoSaid : Prop := orbitCanonsUptoRow.holds Tryz.pinned (OpenSpec.upto orbitCanonsSpec)

/-- 'gameplayerlaw30.OrbitClosed', WHERE WHAT IT READS IS OF BULK AT MOST 1048576: true; the input reads as it did. -/
def orbitClosedUptoRow : OpenClaim := { program := "ytmadpbpmcbdboaagreat", sum := "35aa16012bda49899b5a77939e1eff9a24db79b329b08fa880e6573145265488", func := "gameplayer/gameplayerlaw30.OrbitClosed", spec := "orbitClosed", inPlace := ["internal/bytealg.abigen_runtime_cmpstring", "slices.overlaps[[]gameplayer/api.Term]"], unfollowed := true, recurses := true, apart := false, narrowed := true }
def OrbitClosedUptoSaid : Prop := orbitClosedUptoRow.holds Tryz.pinned (OpenSpec.upto orbitClosedSpec)

/-- 'gameplayerlaw30.OrbitCounts', WHERE WHAT IT READS IS OF BULK AT MOST 1048576: true; the input reads as it did. -/
def orbitCountsUptoRow : OpenClaim := { program := "ytmadpbpmcbdboaagreat", sum := "35aa16012bda49899b5a77939e1eff9a24db79b329b08fa880e6573145265488", func := "gameplayer/gameplayerlaw30.OrbitCounts", spec := "orbitCounts", inPlace := ["internal/bytealg.abigen_runtime_cmpstring", "slices.overlaps[[]gameplayer/api.Term]"], unfollowed := true, recurses := true, loops := true, apart := false, narrowed := true }
def OrbitCountsUptoSaid : Prop := orbitCountsUptoRow.holds Tryz.pinned (OpenSpec.upto orbitCountsSpec)

/-- 'gameplayerlaw30.OrbitFixes', WHERE WHAT IT READS IS OF BULK AT MOST 1048576: true; the input reads as it did. -/
def orbitFixesUptoRow : OpenClaim := { program := "ytmadpbpmcbdboaagreat", sum := "35aa16012bda49899b5a77939e1eff9a24db79b329b08fa880e6573145265488", func := "gameplayer/gameplayerlaw30.OrbitFixes", spec := "orbitFixes", inPlace := ["internal/bytealg.abigen_runtime_cmpstring", "slices.overlaps[[]gameplayer/api.Term]"], unfollowed := true, recurses := true, loops := true, apart := false, narrowed := true }
def OrbitFixesUptoSaid : Prop := orbitFixesUptoRow.holds Tryz.pinned (OpenSpec.upto orbitFixesSpec)

end Rows
end Go.Proofs.YtmadpbpmcbdboaaGreat
