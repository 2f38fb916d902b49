/-
  DERIVED. GIVEN WITH THE SEED: THE CARDS: each row of YtpapmplmldfhpaaDoorRows.lean that lists a variable, with what it lists TIED to the program's text (the seventh form; the later family's looks); each row that meets fmt, with fmt's text TOLD by the authors' own Lean function (tested against real Go, not proved from fmt's source: count such statements apart). THE CARD IS WHAT COUNTS. Prove the row's statement (the work); the ties are given (YtpapmplmldfhpaaDoorTie.lean); close each card by the builder's one call (the guide's Derived/Test/ToyasCard.lean, 'card_holds'). Laid BY PROGRAM, IN A SANDBOX (cutbox-door.mjs). By AI agents, Wed Nov 11 2026. No macro, syntax, notation, axiom, sorry.
-/
import Derived.Test.YtpapmplmldfhpaaDoorRows
import GoSem.ClaimSeven
namespace Go.Proofs.YtpapmplmldfhpaaDoor
namespace Rows

/-- THE TIED CARD OF 'laws.FnExactBestOfCopies'. -/
def fnExactBestOfCopiesCard : Claim7 := { stood := { row := fnExactBestOfCopiesRow, standIns := [], harness := (true, "f91c78748a28d0c8d3202adb28093f15241109ea545b28bc7f03d797bfdb2cd8"), looks := false }, kinds := [], alts := [], laidByText := true, laidKinds := [.data], laidTests := true, laidLooks := .later }
def FnExactBestOfCopiesCardSaid : Prop := Claim7.holds Tryd.pinned (.plain (OpenSpec.ofChange fnExactBestOfCopiesSpec)) fnExactBestOfCopiesCard

/-- THE TIED CARD OF 'laws.FnExactFewestCopies'. -/
def fnExactFewestCopiesCard : Claim7 := { stood := { row := fnExactFewestCopiesRow, standIns := [], harness := (true, "f91c78748a28d0c8d3202adb28093f15241109ea545b28bc7f03d797bfdb2cd8"), looks := false }, kinds := [], alts := [], laidByText := true, laidKinds := [.data], laidTests := true, laidLooks := .later }
def FnExactFewestCopiesCardSaid : Prop := Claim7.holds Tryd.pinned (.plain (OpenSpec.ofChange fnExactFewestCopiesSpec)) fnExactFewestCopiesCard

/-- THE SECOND FORM's CARD OF 'laws.FnExactBestOfCopies'. -/
def fnExactBestOfCopiesUptoCard : Claim7 := { stood := { row := fnExactBestOfCopiesUptoRow, standIns := [], harness := (true, "f91c78748a28d0c8d3202adb28093f15241109ea545b28bc7f03d797bfdb2cd8"), looks := false }, kinds := [], alts := [], laidByText := true, laidKinds := [.data], laidTests := true, laidLooks := .later }
def FnExactBestOfCopiesUptoCardSaid : Prop := Claim7.holds Tryd.pinned (.plain (OpenSpec.upto fnExactBestOfCopiesSpec)) fnExactBestOfCopiesUptoCard

/-- THE SECOND FORM's CARD OF 'laws.FnExactFewestCopies'. -/
def fnExactFewestCopiesUptoCard : Claim7 := { stood := { row := fnExactFewestCopiesUptoRow, standIns := [], harness := (true, "f91c78748a28d0c8d3202adb28093f15241109ea545b28bc7f03d797bfdb2cd8"), looks := false }, kinds := [], alts := [], laidByText := true, laidKinds := [.data], laidTests := true, laidLooks := .later }
def FnExactFewestCopiesUptoCardSaid : Prop := Claim7.holds Tryd.pinned (.plain (OpenSpec.upto fnExactFewestCopiesSpec)) fnExactFewestCopiesUptoCard
end Rows
end Go.Proofs.YtpapmplmldfhpaaDoor
