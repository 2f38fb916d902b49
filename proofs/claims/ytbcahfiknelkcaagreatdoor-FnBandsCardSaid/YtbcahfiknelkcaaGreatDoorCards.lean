/-
  DERIVED. GIVEN WITH THE SEED: THE CARDS: each row of YtbcahfiknelkcaaGreatDoorRows.lean that lists a variable, with what it lists TIED to the program's text (the seventh form; the later family's looks); each row that meets fmt, with fmt's text TOLD by the authors' own Lean function (tested against real Go, not proved from fmt's source: count such statements apart). THE CARD IS WHAT COUNTS. Prove the row's statement (the work); the ties are given (YtbcahfiknelkcaaGreatDoorTie.lean); close each card by the builder's one call (the guide's Derived/Test/ToyasCard.lean, 'card_holds'). Laid BY PROGRAM, IN A SANDBOX (cutbox-door.mjs). By AI agents, Wed Nov 11 2026. No macro, syntax, notation, axiom, sorry.
-/
import Derived.Test.YtbcahfiknelkcaaGreatDoorRows
import GoSem.ClaimSeven
namespace Go.Proofs.YtbcahfiknelkcaaGreatDoor
namespace Rows

/-- THE TIED CARD OF 'laws.FnBands'. -/
def fnBandsCard : Claim7 := { stood := { row := fnBandsRow, standIns := [], harness := (true, "d98e67ddb006382f8a48d72e3bb4b806702cb94c7e33978700cfca3b9d0b38ac"), looks := true }, kinds := [], alts := [], laidByText := true, laidKinds := [.data, .data, .data, .data, .sentinel, .sentinel, .pinned], laidTests := true, laidLooks := .later }
def FnBandsCardSaid : Prop := Claim7.holds Tryz.pinned (.plain (OpenSpec.ofChange fnBandsSpec)) fnBandsCard

/-- THE TIED CARD OF 'laws.FnTop'. -/
def fnTopCard : Claim7 := { stood := { row := fnTopRow, standIns := [], harness := (true, "d98e67ddb006382f8a48d72e3bb4b806702cb94c7e33978700cfca3b9d0b38ac"), looks := true }, kinds := [], alts := [], laidByText := true, laidKinds := [.data, .data, .data, .data, .sentinel, .sentinel, .pinned], laidTests := true, laidLooks := .later }
def FnTopCardSaid : Prop := Claim7.holds Tryz.pinned (.plain (OpenSpec.ofChange fnTopSpec)) fnTopCard

/-- THE SECOND FORM's CARD OF 'laws.FnBands'. -/
def fnBandsUptoCard : Claim7 := { stood := { row := fnBandsUptoRow, standIns := [], harness := (true, "d98e67ddb006382f8a48d72e3bb4b806702cb94c7e33978700cfca3b9d0b38ac"), looks := true }, kinds := [], alts := [], laidByText := true, laidKinds := [.data, .data, .data, .data, .sentinel, .sentinel, .pinned], laidTests := true, laidLooks := .later }
def FnBandsUptoCardSaid : Prop := Claim7.holds Tryz.pinned (.plain (OpenSpec.upto fnBandsSpec)) fnBandsUptoCard

/-- THE SECOND FORM's CARD OF 'laws.FnTop'. -/
def fnTopUptoCard : Claim7 := { stood := { row := fnTopUptoRow, standIns := [], harness := (true, "d98e67ddb006382f8a48d72e3bb4b806702cb94c7e33978700cfca3b9d0b38ac"), looks := true }, kinds := [], alts := [], laidByText := true, laidKinds := [.data, .data, .data, .data, .sentinel, .sentinel, .pinned], laidTests := true, laidLooks := .later }
def FnTopUptoCardSaid : Prop := Claim7.holds Tryz.pinned (.plain (OpenSpec.upto fnTopSpec)) fnTopUptoCard
end Rows
end Go.Proofs.YtbcahfiknelkcaaGreatDoor
