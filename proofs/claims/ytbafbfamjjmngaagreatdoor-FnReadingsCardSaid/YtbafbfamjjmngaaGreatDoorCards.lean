/-
  DERIVED. GIVEN WITH THE SEED: THE CARDS: each row of YtbafbfamjjmngaaGreatDoorRows.lean that lists a variable, with what it lists TIED to the program's text (the seventh form; the later family's looks); each row that meets fmt, with fmt's text TOLD by the authors' own Lean function (tested against real Go, not proved from fmt's source: count such statements apart). THE CARD IS WHAT COUNTS. Prove the row's statement (the work); the ties are given (YtbafbfamjjmngaaGreatDoorTie.lean); close each card by the builder's one call (the guide's Derived/Test/ToyasCard.lean, 'card_holds'). Laid BY PROGRAM, IN A SANDBOX (cutbox-door.mjs). By AI agents, Wed Nov 11 2026. No macro, syntax, notation, axiom, sorry.
-/
import Derived.Test.YtbafbfamjjmngaaGreatDoorRows
import GoSem.ClaimSeven
namespace Go.Proofs.YtbafbfamjjmngaaGreatDoor
namespace Rows

/-- THE TIED CARD OF 'laws.FnReadings'. -/
def fnReadingsCard : Claim7 := { stood := { row := fnReadingsRow, standIns := [], harness := (true, "7c926703466e9928d77f870389900d42b20f3a6be7f1516fdea2d5eb0302157d"), looks := true }, kinds := [], alts := [], laidByText := true, laidKinds := [.data, .data, .data, .data, .sentinel, .sentinel, .pinned], laidTests := true, laidLooks := .later }
def FnReadingsCardSaid : Prop := Claim7.holds Tryz.pinned (.plain (OpenSpec.ofChange fnReadingsSpec)) fnReadingsCard

/-- THE SECOND FORM's CARD OF 'laws.FnReadings'. -/
def fnReadingsUptoCard : Claim7 := { stood := { row := fnReadingsUptoRow, standIns := [], harness := (true, "7c926703466e9928d77f870389900d42b20f3a6be7f1516fdea2d5eb0302157d"), looks := true }, kinds := [], alts := [], laidByText := true, laidKinds := [.data, .data, .data, .data, .sentinel, .sentinel, .pinned], laidTests := true, laidLooks := .later }
def FnReadingsUptoCardSaid : Prop := Claim7.holds Tryz.pinned (.plain (OpenSpec.upto fnReadingsSpec)) fnReadingsUptoCard
end Rows
end Go.Proofs.YtbafbfamjjmngaaGreatDoor
