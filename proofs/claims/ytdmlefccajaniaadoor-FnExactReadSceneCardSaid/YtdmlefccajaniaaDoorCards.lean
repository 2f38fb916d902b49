/-
  DERIVED. GIVEN WITH THE SEED: THE CARDS: each row of YtdmlefccajaniaaDoorRows.lean that lists a variable, with what it lists TIED to the program's text (the seventh form; the later family's looks); each row that meets fmt, with fmt's text TOLD by the authors' own Lean function (tested against real Go, not proved from fmt's source: count such statements apart). THE CARD IS WHAT COUNTS. Prove the row's statement (the work); the ties are given (YtdmlefccajaniaaDoorTie.lean); close each card by the builder's one call (the guide's Derived/Test/ToyasCard.lean, 'card_holds'). Laid BY PROGRAM, IN A SANDBOX (cutbox-door.mjs). By AI agents, Wed Nov 11 2026. No macro, syntax, notation, axiom, sorry.
-/
import Derived.Test.YtdmlefccajaniaaDoorRows
import GoSem.ClaimSeven
namespace Go.Proofs.YtdmlefccajaniaaDoor
namespace Rows

/-- THE TIED CARD OF 'laws.FnSpots'. -/
def fnSpotsCard : Claim7 := { stood := { row := fnSpotsRow, standIns := [], harness := (true, "68c54b7c36a9d1c647960da39e1e4e51d4436caa5fc2960a7a51409935adeee6"), looks := true }, kinds := [], alts := [], laidByText := true, laidKinds := [.data], laidTests := true, laidLooks := .later }
def FnSpotsCardSaid : Prop := Claim7.holds Tryd.pinned (.plain (OpenSpec.ofChange fnSpotsSpec)) fnSpotsCard

/-- THE TIED CARD OF 'laws.FnDust'. -/
def fnDustCard : Claim7 := { stood := { row := fnDustRow, standIns := [], harness := (true, "68c54b7c36a9d1c647960da39e1e4e51d4436caa5fc2960a7a51409935adeee6"), looks := true }, kinds := [], alts := [], laidByText := true, laidKinds := [.data], laidTests := true, laidLooks := .later }
def FnDustCardSaid : Prop := Claim7.holds Tryd.pinned (.plain (OpenSpec.ofChange fnDustSpec)) fnDustCard

/-- THE TIED CARD OF 'laws.FnExactSceneText'. -/
def fnExactSceneTextCard : Claim7 := { stood := { row := fnExactSceneTextRow, standIns := [], harness := (true, "68c54b7c36a9d1c647960da39e1e4e51d4436caa5fc2960a7a51409935adeee6"), looks := true }, kinds := [], alts := [], laidByText := true, laidKinds := [.data, .data, .data], laidTests := true, laidLooks := .later }
def FnExactSceneTextCardSaid : Prop := Claim7.holds Tryd.pinned (.plain (OpenSpec.ofChange fnExactSceneTextSpec)) fnExactSceneTextCard

/-- THE TIED CARD OF 'laws.FnExactReadScene'. -/
def fnExactReadSceneCard : Claim7 := { stood := { row := fnExactReadSceneRow, standIns := [], harness := (true, "68c54b7c36a9d1c647960da39e1e4e51d4436caa5fc2960a7a51409935adeee6"), looks := true }, kinds := [], alts := [], laidByText := true, laidKinds := [.data, .data, .data, .data, .sentinel, .sentinel, .pinned], laidTests := true, laidLooks := .later }
def FnExactReadSceneCardSaid : Prop := Claim7.holds Tryd.pinned (.plain (OpenSpec.ofChange fnExactReadSceneSpec)) fnExactReadSceneCard

/-- THE SECOND FORM's CARD OF 'laws.FnSpots'. -/
def fnSpotsUptoCard : Claim7 := { stood := { row := fnSpotsUptoRow, standIns := [], harness := (true, "68c54b7c36a9d1c647960da39e1e4e51d4436caa5fc2960a7a51409935adeee6"), looks := true }, kinds := [], alts := [], laidByText := true, laidKinds := [.data], laidTests := true, laidLooks := .later }
def FnSpotsUptoCardSaid : Prop := Claim7.holds Tryd.pinned (.plain (OpenSpec.upto fnSpotsSpec)) fnSpotsUptoCard

/-- THE SECOND FORM's CARD OF 'laws.FnDust'. -/
def fnDustUptoCard : Claim7 := { stood := { row := fnDustUptoRow, standIns := [], harness := (true, "68c54b7c36a9d1c647960da39e1e4e51d4436caa5fc2960a7a51409935adeee6"), looks := true }, kinds := [], alts := [], laidByText := true, laidKinds := [.data], laidTests := true, laidLooks := .later }
def FnDustUptoCardSaid : Prop := Claim7.holds Tryd.pinned (.plain (OpenSpec.upto fnDustSpec)) fnDustUptoCard

/-- THE SECOND FORM's CARD OF 'laws.FnExactSceneText'. -/
def fnExactSceneTextUptoCard : Claim7 := { stood := { row := fnExactSceneTextUptoRow, standIns := [], harness := (true, "68c54b7c36a9d1c647960da39e1e4e51d4436caa5fc2960a7a51409935adeee6"), looks := true }, kinds := [], alts := [], laidByText := true, laidKinds := [.data, .data, .data], laidTests := true, laidLooks := .later }
def FnExactSceneTextUptoCardSaid : Prop := Claim7.holds Tryd.pinned (.plain (OpenSpec.upto fnExactSceneTextSpec)) fnExactSceneTextUptoCard

/-- THE SECOND FORM's CARD OF 'laws.FnExactReadScene'. -/
def fnExactReadSceneUptoCard : Claim7 := { stood := { row := fnExactReadSceneUptoRow, standIns := [], harness := (true, "68c54b7c36a9d1c647960da39e1e4e51d4436caa5fc2960a7a51409935adeee6"), looks := true }, kinds := [], alts := [], laidByText := true, laidKinds := [.data, .data, .data, .data, .sentinel, .sentinel, .pinned], laidTests := true, laidLooks := .later }
def FnExactReadSceneUptoCardSaid : Prop := Claim7.holds Tryd.pinned (.plain (OpenSpec.upto fnExactReadSceneSpec)) fnExactReadSceneUptoCard
end Rows
end Go.Proofs.YtdmlefccajaniaaDoor
