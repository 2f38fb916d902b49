/-
  DERIVED. GIVEN WITH THE SEED: THE CARDS: each row of YtmnidldpkkpeoaaDoorRows.lean that lists a variable, with what it lists TIED to the program's text (the seventh form; the later family's looks); each row that meets fmt, with fmt's text TOLD by the authors' own Lean function (tested against real Go, not proved from fmt's source: count such statements apart). THE CARD IS WHAT COUNTS. Prove the row's statement (the work); the ties are given (YtmnidldpkkpeoaaDoorTie.lean); close each card by the builder's one call (the guide's Derived/Test/ToyasCard.lean, 'card_holds'). Laid BY PROGRAM, IN A SANDBOX (cutbox-door.mjs). By AI agents, Wed Nov 11 2026. No macro, syntax, notation, axiom, sorry.
-/
import Derived.Test.YtmnidldpkkpeoaaDoorRows
import GoSem.ClaimSeven
namespace Go.Proofs.YtmnidldpkkpeoaaDoor
namespace Rows

/-- THE TIED CARD OF 'laws.FnExactGrowMask'. -/
def fnExactGrowMaskCard : Claim7 := { stood := { row := fnExactGrowMaskRow, standIns := [], harness := (true, "03299c06b03f8fe54f59049534214ce941adb34464e2d5f741aa8e661e9ed3b1"), looks := false }, kinds := [], alts := [], laidByText := true, laidKinds := [.data], laidTests := true, laidLooks := .later }
def FnExactGrowMaskCardSaid : Prop := Claim7.holds Tryd.pinned (.plain (OpenSpec.ofChange fnExactGrowMaskSpec)) fnExactGrowMaskCard

/-- THE TIED CARD OF 'laws.FnExactSpotsOf'. -/
def fnExactSpotsOfCard : Claim7 := { stood := { row := fnExactSpotsOfRow, standIns := [], harness := (true, "03299c06b03f8fe54f59049534214ce941adb34464e2d5f741aa8e661e9ed3b1"), looks := false }, kinds := [], alts := [], laidByText := true, laidKinds := [.data], laidTests := true, laidLooks := .later }
def FnExactSpotsOfCardSaid : Prop := Claim7.holds Tryd.pinned (.plain (OpenSpec.ofChange fnExactSpotsOfSpec)) fnExactSpotsOfCard

/-- THE TIED CARD OF 'laws.FnExactRoundsFor'. -/
def fnExactRoundsForCard : Claim7 := { stood := { row := fnExactRoundsForRow, standIns := [], harness := (true, "03299c06b03f8fe54f59049534214ce941adb34464e2d5f741aa8e661e9ed3b1"), looks := false }, kinds := [], alts := [], laidByText := true, laidKinds := [.data], laidTests := true, laidLooks := .later }
def FnExactRoundsForCardSaid : Prop := Claim7.holds Tryd.pinned (.plain (OpenSpec.ofChange fnExactRoundsForSpec)) fnExactRoundsForCard

/-- THE TIED CARD OF 'laws.FnExactGreatestSpot'. -/
def fnExactGreatestSpotCard : Claim7 := { stood := { row := fnExactGreatestSpotRow, standIns := [], harness := (true, "03299c06b03f8fe54f59049534214ce941adb34464e2d5f741aa8e661e9ed3b1"), looks := false }, kinds := [], alts := [], laidByText := true, laidKinds := [.data], laidTests := true, laidLooks := .later }
def FnExactGreatestSpotCardSaid : Prop := Claim7.holds Tryd.pinned (.plain (OpenSpec.ofChange fnExactGreatestSpotSpec)) fnExactGreatestSpotCard

/-- THE TIED CARD OF 'laws.FnExactRepairCells'. -/
def fnExactRepairCellsCard : Claim7 := { stood := { row := fnExactRepairCellsRow, standIns := [], harness := (true, "03299c06b03f8fe54f59049534214ce941adb34464e2d5f741aa8e661e9ed3b1"), looks := false }, kinds := [], alts := [], laidByText := true, laidKinds := [.data], laidTests := true, laidLooks := .later }
def FnExactRepairCellsCardSaid : Prop := Claim7.holds Tryd.pinned (.plain (OpenSpec.ofChange fnExactRepairCellsSpec)) fnExactRepairCellsCard

/-- THE TIED CARD OF 'laws.FnSpots'. -/
def fnSpotsCard : Claim7 := { stood := { row := fnSpotsRow, standIns := [], harness := (true, "03299c06b03f8fe54f59049534214ce941adb34464e2d5f741aa8e661e9ed3b1"), looks := false }, kinds := [], alts := [], laidByText := true, laidKinds := [.data], laidTests := true, laidLooks := .later }
def FnSpotsCardSaid : Prop := Claim7.holds Tryd.pinned (.plain (OpenSpec.ofChange fnSpotsSpec)) fnSpotsCard

/-- THE TIED CARD OF 'laws.FnExactSceneText'. -/
def fnExactSceneTextCard : Claim7 := { stood := { row := fnExactSceneTextRow, standIns := [], harness := (true, "03299c06b03f8fe54f59049534214ce941adb34464e2d5f741aa8e661e9ed3b1"), looks := false }, kinds := [], alts := [], laidByText := true, laidKinds := [.data, .data, .data], laidTests := true, laidLooks := .later }
def FnExactSceneTextCardSaid : Prop := Claim7.holds Tryd.pinned (.plain (OpenSpec.ofChange fnExactSceneTextSpec)) fnExactSceneTextCard

/-- THE SECOND FORM's CARD OF 'laws.FnExactGrowMask'. -/
def fnExactGrowMaskUptoCard : Claim7 := { stood := { row := fnExactGrowMaskUptoRow, standIns := [], harness := (true, "03299c06b03f8fe54f59049534214ce941adb34464e2d5f741aa8e661e9ed3b1"), looks := false }, kinds := [], alts := [], laidByText := true, laidKinds := [.data], laidTests := true, laidLooks := .later }
def FnExactGrowMaskUptoCardSaid : Prop := Claim7.holds Tryd.pinned (.plain (OpenSpec.upto fnExactGrowMaskSpec)) fnExactGrowMaskUptoCard

/-- THE SECOND FORM's CARD OF 'laws.FnExactSpotsOf'. -/
def fnExactSpotsOfUptoCard : Claim7 := { stood := { row := fnExactSpotsOfUptoRow, standIns := [], harness := (true, "03299c06b03f8fe54f59049534214ce941adb34464e2d5f741aa8e661e9ed3b1"), looks := false }, kinds := [], alts := [], laidByText := true, laidKinds := [.data], laidTests := true, laidLooks := .later }
def FnExactSpotsOfUptoCardSaid : Prop := Claim7.holds Tryd.pinned (.plain (OpenSpec.upto fnExactSpotsOfSpec)) fnExactSpotsOfUptoCard

/-- THE SECOND FORM's CARD OF 'laws.FnExactRoundsFor'. -/
def fnExactRoundsForUptoCard : Claim7 := { stood := { row := fnExactRoundsForUptoRow, standIns := [], harness := (true, "03299c06b03f8fe54f59049534214ce941adb34464e2d5f741aa8e661e9ed3b1"), looks := false }, kinds := [], alts := [], laidByText := true, laidKinds := [.data], laidTests := true, laidLooks := .later }
def FnExactRoundsForUptoCardSaid : Prop := Claim7.holds Tryd.pinned (.plain (OpenSpec.upto fnExactRoundsForSpec)) fnExactRoundsForUptoCard

/-- THE SECOND FORM's CARD OF 'laws.FnExactGreatestSpot'. -/
def fnExactGreatestSpotUptoCard : Claim7 := { stood := { row := fnExactGreatestSpotUptoRow, standIns := [], harness := (true, "03299c06b03f8fe54f59049534214ce941adb34464e2d5f741aa8e661e9ed3b1"), looks := false }, kinds := [], alts := [], laidByText := true, laidKinds := [.data], laidTests := true, laidLooks := .later }
def FnExactGreatestSpotUptoCardSaid : Prop := Claim7.holds Tryd.pinned (.plain (OpenSpec.upto fnExactGreatestSpotSpec)) fnExactGreatestSpotUptoCard

/-- THE SECOND FORM's CARD OF 'laws.FnExactRepairCells'. -/
def fnExactRepairCellsUptoCard : Claim7 := { stood := { row := fnExactRepairCellsUptoRow, standIns := [], harness := (true, "03299c06b03f8fe54f59049534214ce941adb34464e2d5f741aa8e661e9ed3b1"), looks := false }, kinds := [], alts := [], laidByText := true, laidKinds := [.data], laidTests := true, laidLooks := .later }
def FnExactRepairCellsUptoCardSaid : Prop := Claim7.holds Tryd.pinned (.plain (OpenSpec.upto fnExactRepairCellsSpec)) fnExactRepairCellsUptoCard

/-- THE SECOND FORM's CARD OF 'laws.FnSpots'. -/
def fnSpotsUptoCard : Claim7 := { stood := { row := fnSpotsUptoRow, standIns := [], harness := (true, "03299c06b03f8fe54f59049534214ce941adb34464e2d5f741aa8e661e9ed3b1"), looks := false }, kinds := [], alts := [], laidByText := true, laidKinds := [.data], laidTests := true, laidLooks := .later }
def FnSpotsUptoCardSaid : Prop := Claim7.holds Tryd.pinned (.plain (OpenSpec.upto fnSpotsSpec)) fnSpotsUptoCard

/-- THE SECOND FORM's CARD OF 'laws.FnExactSceneText'. -/
def fnExactSceneTextUptoCard : Claim7 := { stood := { row := fnExactSceneTextUptoRow, standIns := [], harness := (true, "03299c06b03f8fe54f59049534214ce941adb34464e2d5f741aa8e661e9ed3b1"), looks := false }, kinds := [], alts := [], laidByText := true, laidKinds := [.data, .data, .data], laidTests := true, laidLooks := .later }
def FnExactSceneTextUptoCardSaid : Prop := Claim7.holds Tryd.pinned (.plain (OpenSpec.upto fnExactSceneTextSpec)) fnExactSceneTextUptoCard
end Rows
end Go.Proofs.YtmnidldpkkpeoaaDoor
