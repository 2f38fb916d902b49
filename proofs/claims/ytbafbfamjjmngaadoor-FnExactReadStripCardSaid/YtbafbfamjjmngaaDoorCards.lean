/-
  DERIVED. GIVEN WITH THE SEED: THE CARDS: each row of YtbafbfamjjmngaaDoorRows.lean that lists a variable, with what it lists TIED to the program's text (the seventh form; the later family's looks); each row that meets fmt, with fmt's text TOLD by the authors' own Lean function (tested against real Go, not proved from fmt's source: count such statements apart). THE CARD IS WHAT COUNTS. Prove the row's statement (the work); the ties are given (YtbafbfamjjmngaaDoorTie.lean); close each card by the builder's one call (the guide's Derived/Test/ToyasCard.lean, 'card_holds'). Laid BY PROGRAM, IN A SANDBOX (cutbox-door.mjs). By AI agents, Wed Nov 11 2026. No macro, syntax, notation, axiom, sorry.
-/
import Derived.Test.YtbafbfamjjmngaaDoorRows
import GoSem.ClaimSeven
namespace Go.Proofs.YtbafbfamjjmngaaDoor
namespace Rows

/-- THE TIED CARD OF 'laws.FnExactReadStrip'. -/
def fnExactReadStripCard : Claim7 := { stood := { row := fnExactReadStripRow, standIns := [], harness := (true, "b3faa85f3d2a22978e8e6f06a0fa3a0e27bc07a1cc2373dbd7a2ec3e88206e19"), looks := true }, kinds := [], alts := [], laidByText := true, laidKinds := [.data, .data, .data, .data, .sentinel, .sentinel, .pinned], laidTests := true, laidLooks := .later }
def FnExactReadStripCardSaid : Prop := Claim7.holds Tryd.pinned (.plain (OpenSpec.ofChange fnExactReadStripSpec)) fnExactReadStripCard

/-- THE SECOND FORM's CARD OF 'laws.FnExactReadStrip'. -/
def fnExactReadStripUptoCard : Claim7 := { stood := { row := fnExactReadStripUptoRow, standIns := [], harness := (true, "b3faa85f3d2a22978e8e6f06a0fa3a0e27bc07a1cc2373dbd7a2ec3e88206e19"), looks := true }, kinds := [], alts := [], laidByText := true, laidKinds := [.data, .data, .data, .data, .sentinel, .sentinel, .pinned], laidTests := true, laidLooks := .later }
def FnExactReadStripUptoCardSaid : Prop := Claim7.holds Tryd.pinned (.plain (OpenSpec.upto fnExactReadStripSpec)) fnExactReadStripUptoCard
end Rows
end Go.Proofs.YtbafbfamjjmngaaDoor
