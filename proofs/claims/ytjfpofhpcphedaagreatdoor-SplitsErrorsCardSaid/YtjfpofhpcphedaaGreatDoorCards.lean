/-
  DERIVED. GIVEN WITH THE SEED: THE CARDS: each row of YtjfpofhpcphedaaGreatDoorRows.lean that lists a variable, with what it lists TIED to the program's text (the seventh form; the later family's looks); each row that meets fmt, with fmt's text TOLD by the authors' own Lean function (tested against real Go, not proved from fmt's source: count such statements apart). THE CARD IS WHAT COUNTS. Prove the row's statement (the work); the ties are given (YtjfpofhpcphedaaGreatDoorTie.lean); close each card by the builder's one call (the guide's Derived/Test/ToyasCard.lean, 'card_holds'). Laid BY PROGRAM, IN A SANDBOX (cutbox-door.mjs). By AI agents, Wed Nov 11 2026. No macro, syntax, notation, axiom, sorry.
-/
import Derived.Test.YtjfpofhpcphedaaGreatDoorRows
import GoSem.ClaimSeven
namespace Go.Proofs.YtjfpofhpcphedaaGreatDoor
namespace Rows

/-- THE TIED CARD OF 'plugboardlaw22.SplitsErrors'. -/
def splitsErrorsCard : Claim7 := { stood := { row := splitsErrorsRow, standIns := [], harness := (true, "5c695bc995b9f3428f9ef97bc4a584da43af536fe3fffbc22c61f5274457e5b6"), looks := true }, kinds := [], alts := [], laidByText := true, laidKinds := [.data, .pinned], laidTests := true, laidLooks := .later }
def SplitsErrorsCardSaid : Prop := Claim7.holds Tryz.pinned (.plain (OpenSpec.ofChange splitsErrorsSpec)) splitsErrorsCard

/-- THE SECOND FORM's CARD OF 'plugboardlaw22.SplitsErrors'. -/
def splitsErrorsUptoCard : Claim7 := { stood := { row := splitsErrorsUptoRow, standIns := [], harness := (true, "5c695bc995b9f3428f9ef97bc4a584da43af536fe3fffbc22c61f5274457e5b6"), looks := true }, kinds := [], alts := [], laidByText := true, laidKinds := [.data, .pinned], laidTests := true, laidLooks := .later }
def SplitsErrorsUptoCardSaid : Prop := Claim7.holds Tryz.pinned (.plain (OpenSpec.upto splitsErrorsSpec)) splitsErrorsUptoCard
end Rows
end Go.Proofs.YtjfpofhpcphedaaGreatDoor
