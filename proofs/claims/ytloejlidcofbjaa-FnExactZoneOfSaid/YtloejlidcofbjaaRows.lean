/-
  No cell of these rows narrows 'for every input' (looked for: loops, veiled, ifaces, maps, wideKeys, modest, calm, conditions, laid).
  DERIVED. THE GIVEN ROWS OF THIS SEAT. 11 by the template 'for every input the law returns true; each argument reads behind the call as it read before'; 0 by the template 'total and deterministic' (their statements: YtloejlidcofbjaaTotals.lean).
  GIVEN WITH THE SEED: the statements are not yours to turn. If you find one false, say at which input.
  Laid BY PROGRAM, IN A SANDBOX (cutbox-rows.mjs): the forced cells as the released guide's own fill.sh prints them over the translation a2ffde7bdd422cd6… (all of the seat's roots in one cut). By AI agents, Wed Nov 11 2026. No macro, syntax, notation, axiom, sorry.
-/
import Derived.Test.YtloejlidcofbjaaChecked
import GoSem.Claim
import GoSem.ClaimJoined
import GoSem.ClaimMapViews
import Derived.JoinedTies
import Derived.KernelRfl
namespace Go.Proofs.Ytloejlidcofbjaa
/- THE CELL 'sum', in the pinned program and in every row, IS THE sha256 OF THE DUMP (.gsa) THAT YtloejlidcofbjaaProg.lean LOADS. Nothing in Lean hashes anything: it is a label: what it is worth is what the hold of that sum in a sandbox is worth. -/
noncomputable def Try.pinned : Pinned := { name := "ytloejlidcofbjaa", sum := "a2ffde7bdd422cd6bfd213e6c82d9f96c5baf953106ced760243d6e76e021fe4", checked := Try.checked }
namespace Rows
def none {H : Type} : Left H := { results := [], args := [] }

/-- 'laws.FnExactMaskText': WHATEVER THE INPUT: true; the input reads as it did. -/
def fnExactMaskTextSpec : ChangeSpec := { name := "fnExactMaskText", fn := fun _ => fun
  | [d] => { results := [.lit (.bool true)], args := [d] }
  | _ => none }
def fnExactMaskTextRow : OpenClaim := { program := "ytloejlidcofbjaa", sum := "a2ffde7bdd422cd6bfd213e6c82d9f96c5baf953106ced760243d6e76e021fe4", func := "loop.example/g01301/laws.FnExactMaskText", spec := "fnExactMaskText", apart := false }
def FnExactMaskTextSaid : Prop := fnExactMaskTextRow.holds Try.pinned (OpenSpec.ofChange fnExactMaskTextSpec)

/-- ITS FALSE NEIGHBOUR: 'it returns false'. Refute it at one input. -/
def fnExactMaskTextWrong : ChangeSpec := { name := "fnExactMaskText", fn := fun _ => fun
  | [d] => { results := [.lit (.bool false)], args := [d] }
  | _ => none }
def FnExactMaskTextWrongFalsely : Prop := fnExactMaskTextRow.holds Try.pinned (OpenSpec.ofChange fnExactMaskTextWrong)

/-- 'laws.FnExactPlaceFor': WHATEVER THE INPUT: true; the input reads as it did. -/
def fnExactPlaceForSpec : ChangeSpec := { name := "fnExactPlaceFor", fn := fun _ => fun
  | [d1, d2] => { results := [.lit (.bool true)], args := [d1, d2] }
  | _ => none }
def fnExactPlaceForRow : OpenClaim := { program := "ytloejlidcofbjaa", sum := "a2ffde7bdd422cd6bfd213e6c82d9f96c5baf953106ced760243d6e76e021fe4", func := "loop.example/g01301/laws.FnExactPlaceFor", spec := "fnExactPlaceFor", apart := false }
def FnExactPlaceForSaid : Prop := fnExactPlaceForRow.holds Try.pinned (OpenSpec.ofChange fnExactPlaceForSpec)

/-- ITS FALSE NEIGHBOUR: 'it returns false'. Refute it at one input. -/
def fnExactPlaceForWrong : ChangeSpec := { name := "fnExactPlaceFor", fn := fun _ => fun
  | [d1, d2] => { results := [.lit (.bool false)], args := [d1, d2] }
  | _ => none }
def FnExactPlaceForWrongFalsely : Prop := fnExactPlaceForRow.holds Try.pinned (OpenSpec.ofChange fnExactPlaceForWrong)

/-- 'laws.FnExactExposureThirds': WHATEVER THE INPUT: true; the input reads as it did. -/
def fnExactExposureThirdsSpec : ChangeSpec := { name := "fnExactExposureThirds", fn := fun _ => fun
  | [d] => { results := [.lit (.bool true)], args := [d] }
  | _ => none }
def fnExactExposureThirdsRow : OpenClaim := { program := "ytloejlidcofbjaa", sum := "a2ffde7bdd422cd6bfd213e6c82d9f96c5baf953106ced760243d6e76e021fe4", func := "loop.example/g01301/laws.FnExactExposureThirds", spec := "fnExactExposureThirds", apart := false }
def FnExactExposureThirdsSaid : Prop := fnExactExposureThirdsRow.holds Try.pinned (OpenSpec.ofChange fnExactExposureThirdsSpec)

/-- ITS FALSE NEIGHBOUR: 'it returns false'. Refute it at one input. -/
def fnExactExposureThirdsWrong : ChangeSpec := { name := "fnExactExposureThirds", fn := fun _ => fun
  | [d] => { results := [.lit (.bool false)], args := [d] }
  | _ => none }
def FnExactExposureThirdsWrongFalsely : Prop := fnExactExposureThirdsRow.holds Try.pinned (OpenSpec.ofChange fnExactExposureThirdsWrong)

/-- 'laws.FnExactValidScene': WHATEVER THE INPUT: true; the input reads as it did. -/
def fnExactValidSceneSpec : ChangeSpec := { name := "fnExactValidScene", fn := fun _ => fun
  | [d] => { results := [.lit (.bool true)], args := [d] }
  | _ => none }
def fnExactValidSceneRow : OpenClaim := { program := "ytloejlidcofbjaa", sum := "a2ffde7bdd422cd6bfd213e6c82d9f96c5baf953106ced760243d6e76e021fe4", func := "loop.example/g01301/laws.FnExactValidScene", spec := "fnExactValidScene", unfollowed := true, recurses := true, apart := false }
def FnExactValidSceneSaid : Prop := fnExactValidSceneRow.holds Try.pinned (OpenSpec.ofChange fnExactValidSceneSpec)

/-- ITS FALSE NEIGHBOUR: 'it returns false'. Refute it at one input. -/
def fnExactValidSceneWrong : ChangeSpec := { name := "fnExactValidScene", fn := fun _ => fun
  | [d] => { results := [.lit (.bool false)], args := [d] }
  | _ => none }
def FnExactValidSceneWrongFalsely : Prop := fnExactValidSceneRow.holds Try.pinned (OpenSpec.ofChange fnExactValidSceneWrong)

/-- 'laws.FnExactReadingAt': WHATEVER THE INPUT: true; the input reads as it did. -/
def fnExactReadingAtSpec : ChangeSpec := { name := "fnExactReadingAt", fn := fun _ => fun
  | [d1, d2, d3] => { results := [.lit (.bool true)], args := [d1, d2, d3] }
  | _ => none }
def fnExactReadingAtRow : OpenClaim := { program := "ytloejlidcofbjaa", sum := "a2ffde7bdd422cd6bfd213e6c82d9f96c5baf953106ced760243d6e76e021fe4", func := "loop.example/g01301/laws.FnExactReadingAt", spec := "fnExactReadingAt", unfollowed := true, recurses := true, apart := false }
def FnExactReadingAtSaid : Prop := fnExactReadingAtRow.holds Try.pinned (OpenSpec.ofChange fnExactReadingAtSpec)

/-- ITS FALSE NEIGHBOUR: 'it returns false'. Refute it at one input. -/
def fnExactReadingAtWrong : ChangeSpec := { name := "fnExactReadingAt", fn := fun _ => fun
  | [d1, d2, d3] => { results := [.lit (.bool false)], args := [d1, d2, d3] }
  | _ => none }
def FnExactReadingAtWrongFalsely : Prop := fnExactReadingAtRow.holds Try.pinned (OpenSpec.ofChange fnExactReadingAtWrong)

/-- 'laws.FnExactSamePlacing': WHATEVER THE INPUT: true; the input reads as it did. -/
def fnExactSamePlacingSpec : ChangeSpec := { name := "fnExactSamePlacing", fn := fun _ => fun
  | [d1, d2] => { results := [.lit (.bool true)], args := [d1, d2] }
  | _ => none }
def fnExactSamePlacingRow : OpenClaim := { program := "ytloejlidcofbjaa", sum := "a2ffde7bdd422cd6bfd213e6c82d9f96c5baf953106ced760243d6e76e021fe4", func := "loop.example/g01301/laws.FnExactSamePlacing", spec := "fnExactSamePlacing", apart := false }
def FnExactSamePlacingSaid : Prop := fnExactSamePlacingRow.holds Try.pinned (OpenSpec.ofChange fnExactSamePlacingSpec)

/-- ITS FALSE NEIGHBOUR: 'it returns false'. Refute it at one input. -/
def fnExactSamePlacingWrong : ChangeSpec := { name := "fnExactSamePlacing", fn := fun _ => fun
  | [d1, d2] => { results := [.lit (.bool false)], args := [d1, d2] }
  | _ => none }
def FnExactSamePlacingWrongFalsely : Prop := fnExactSamePlacingRow.holds Try.pinned (OpenSpec.ofChange fnExactSamePlacingWrong)

/-- 'laws.FnExactZoneOf': WHATEVER THE INPUT: true; the input reads as it did. -/
def fnExactZoneOfSpec : ChangeSpec := { name := "fnExactZoneOf", fn := fun _ => fun
  | [d1, d2] => { results := [.lit (.bool true)], args := [d1, d2] }
  | _ => none }
def fnExactZoneOfRow : OpenClaim := { program := "ytloejlidcofbjaa", sum := "a2ffde7bdd422cd6bfd213e6c82d9f96c5baf953106ced760243d6e76e021fe4", func := "loop.example/g01301/laws.FnExactZoneOf", spec := "fnExactZoneOf", apart := false }
def FnExactZoneOfSaid : Prop := fnExactZoneOfRow.holds Try.pinned (OpenSpec.ofChange fnExactZoneOfSpec)

/-- ITS FALSE NEIGHBOUR: 'it returns false'. Refute it at one input. -/
def fnExactZoneOfWrong : ChangeSpec := { name := "fnExactZoneOf", fn := fun _ => fun
  | [d1, d2] => { results := [.lit (.bool false)], args := [d1, d2] }
  | _ => none }
def FnExactZoneOfWrongFalsely : Prop := fnExactZoneOfRow.holds Try.pinned (OpenSpec.ofChange fnExactZoneOfWrong)

/-- 'laws.FnExactReadMask': WHATEVER THE INPUT: true; the input reads as it did. -/
def fnExactReadMaskSpec : ChangeSpec := { name := "fnExactReadMask", fn := fun _ => fun
  | [d] => { results := [.lit (.bool true)], args := [d] }
  | _ => none }
def fnExactReadMaskRow : OpenClaim := { program := "ytloejlidcofbjaa", sum := "a2ffde7bdd422cd6bfd213e6c82d9f96c5baf953106ced760243d6e76e021fe4", func := "loop.example/g01301/laws.FnExactReadMask", spec := "fnExactReadMask", apart := false }
def FnExactReadMaskSaid : Prop := fnExactReadMaskRow.holds Try.pinned (OpenSpec.ofChange fnExactReadMaskSpec)

/-- ITS FALSE NEIGHBOUR: 'it returns false'. Refute it at one input. -/
def fnExactReadMaskWrong : ChangeSpec := { name := "fnExactReadMask", fn := fun _ => fun
  | [d] => { results := [.lit (.bool false)], args := [d] }
  | _ => none }
def FnExactReadMaskWrongFalsely : Prop := fnExactReadMaskRow.holds Try.pinned (OpenSpec.ofChange fnExactReadMaskWrong)

/-- 'laws.FnExactMeanReading': WHATEVER THE INPUT: true; the input reads as it did. -/
def fnExactMeanReadingSpec : ChangeSpec := { name := "fnExactMeanReading", fn := fun _ => fun
  | [d] => { results := [.lit (.bool true)], args := [d] }
  | _ => none }
def fnExactMeanReadingRow : OpenClaim := { program := "ytloejlidcofbjaa", sum := "a2ffde7bdd422cd6bfd213e6c82d9f96c5baf953106ced760243d6e76e021fe4", func := "loop.example/g01301/laws.FnExactMeanReading", spec := "fnExactMeanReading", unfollowed := true, recurses := true, apart := false }
def FnExactMeanReadingSaid : Prop := fnExactMeanReadingRow.holds Try.pinned (OpenSpec.ofChange fnExactMeanReadingSpec)

/-- ITS FALSE NEIGHBOUR: 'it returns false'. Refute it at one input. -/
def fnExactMeanReadingWrong : ChangeSpec := { name := "fnExactMeanReading", fn := fun _ => fun
  | [d] => { results := [.lit (.bool false)], args := [d] }
  | _ => none }
def FnExactMeanReadingWrongFalsely : Prop := fnExactMeanReadingRow.holds Try.pinned (OpenSpec.ofChange fnExactMeanReadingWrong)

/-- 'laws.FnExactWeightedReading': WHATEVER THE INPUT: true; the input reads as it did. -/
def fnExactWeightedReadingSpec : ChangeSpec := { name := "fnExactWeightedReading", fn := fun _ => fun
  | [d] => { results := [.lit (.bool true)], args := [d] }
  | _ => none }
def fnExactWeightedReadingRow : OpenClaim := { program := "ytloejlidcofbjaa", sum := "a2ffde7bdd422cd6bfd213e6c82d9f96c5baf953106ced760243d6e76e021fe4", func := "loop.example/g01301/laws.FnExactWeightedReading", spec := "fnExactWeightedReading", unfollowed := true, recurses := true, apart := false }
def FnExactWeightedReadingSaid : Prop := fnExactWeightedReadingRow.holds Try.pinned (OpenSpec.ofChange fnExactWeightedReadingSpec)

/-- ITS FALSE NEIGHBOUR: 'it returns false'. Refute it at one input. -/
def fnExactWeightedReadingWrong : ChangeSpec := { name := "fnExactWeightedReading", fn := fun _ => fun
  | [d] => { results := [.lit (.bool false)], args := [d] }
  | _ => none }
def FnExactWeightedReadingWrongFalsely : Prop := fnExactWeightedReadingRow.holds Try.pinned (OpenSpec.ofChange fnExactWeightedReadingWrong)

/-- 'laws.FnExactSceneRange': WHATEVER THE INPUT: true; the input reads as it did. -/
def fnExactSceneRangeSpec : ChangeSpec := { name := "fnExactSceneRange", fn := fun _ => fun
  | [d] => { results := [.lit (.bool true)], args := [d] }
  | _ => none }
def fnExactSceneRangeRow : OpenClaim := { program := "ytloejlidcofbjaa", sum := "a2ffde7bdd422cd6bfd213e6c82d9f96c5baf953106ced760243d6e76e021fe4", func := "loop.example/g01301/laws.FnExactSceneRange", spec := "fnExactSceneRange", unfollowed := true, recurses := true, apart := false }
def FnExactSceneRangeSaid : Prop := fnExactSceneRangeRow.holds Try.pinned (OpenSpec.ofChange fnExactSceneRangeSpec)

/-- ITS FALSE NEIGHBOUR: 'it returns false'. Refute it at one input. -/
def fnExactSceneRangeWrong : ChangeSpec := { name := "fnExactSceneRange", fn := fun _ => fun
  | [d] => { results := [.lit (.bool false)], args := [d] }
  | _ => none }
def FnExactSceneRangeWrongFalsely : Prop := fnExactSceneRangeRow.holds Try.pinned (OpenSpec.ofChange fnExactSceneRangeWrong)

/- THE SECOND FORM. 'bulk': how many values and letters a reading holds, each counted each time it is reached (what is shared counts as often as it is met; a slice's spare places count too). A statement '..UptoSaid' is the law's where the arguments, and the package variables that the reading takes, are together of bulk at most 1048576: NARROWER than '..Said'. Prove '..Said' where nothing that the law and all that it calls make is longer than what came in: it says more and counts as full. Else prove '..UptoSaid'. A law counts once. -/
mutual
def uptoBulk {H : Type} : DataW H → Nat
  | .lit (.string bytes) => bytes.length + 1
  | .lit _ => 1
  | .nil => 1
  | .ptr d => uptoBulk d + 1
  | .slice elems spare => uptoBulkAll elems + uptoBulkAll spare + 1
  | .agg parts => uptoBulkAll parts + 1
  | .iface _ d => uptoBulk d + 1
  | .map entries => uptoBulkEntries entries + 1
  | .held _ => 1
def uptoBulkAll {H : Type} : List (DataW H) → Nat
  | [] => 0
  | d :: r => uptoBulk d + uptoBulkAll r
def uptoBulkEntries {H : Type} : List (Lit × DataW H) → Nat
  | [] => 0
  | x :: r => uptoBulkEntry x + uptoBulkEntries r
def uptoBulkEntry {H : Type} : Lit × DataW H → Nat
  | (.string bytes, d) => bytes.length + uptoBulk d + 1
  | (_, d) => uptoBulk d + 1
 end
def uptoSmall : (H : Type) → List (DataW H) → Bool := fun _ ds => decide (uptoBulkAll ds ≤ 1048576)
def OpenSpec.upto (s : _root_.Go.ChangeSpec) : _root_.Go.OpenSpec := { _root_.Go.OpenSpec.ofChange s with cond := some uptoSmall }

/-- 'laws.FnExactMaskText', WHERE WHAT IT READS IS OF BULK AT MOST 1048576: true; the input reads as it did. -/
def fnExactMaskTextUptoRow : OpenClaim := { program := "ytloejlidcofbjaa", sum := "a2ffde7bdd422cd6bfd213e6c82d9f96c5baf953106ced760243d6e76e021fe4", func := "loop.example/g01301/laws.FnExactMaskText", spec := "fnExactMaskText", apart := false, narrowed := true }
def FnExactMaskTextUptoSaid : Prop := fnExactMaskTextUptoRow.holds Try.pinned (OpenSpec.upto fnExactMaskTextSpec)

/-- 'laws.FnExactPlaceFor', WHERE WHAT IT READS IS OF BULK AT MOST 1048576: true; the input reads as it did. -/
def fnExactPlaceForUptoRow : OpenClaim := { program := "ytloejlidcofbjaa", sum := "a2ffde7bdd422cd6bfd213e6c82d9f96c5baf953106ced760243d6e76e021fe4", func := "loop.example/g01301/laws.FnExactPlaceFor", spec := "fnExactPlaceFor", apart := false, narrowed := true }
def FnExactPlaceForUptoSaid : Prop := fnExactPlaceForUptoRow.holds Try.pinned (OpenSpec.upto fnExactPlaceForSpec)

/-- 'laws.FnExactExposureThirds', WHERE WHAT IT READS IS OF BULK AT MOST 1048576: true; the input reads as it did. -/
def fnExactExposureThirdsUptoRow : OpenClaim := { program := "ytloejlidcofbjaa", sum := "a2ffde7bdd422cd6bfd213e6c82d9f96c5baf953106ced760243d6e76e021fe4", func := "loop.example/g01301/laws.FnExactExposureThirds", spec := "fnExactExposureThirds", apart := false, narrowed := true }
def FnExactExposureThirdsUptoSaid : Prop := fnExactExposureThirdsUptoRow.holds Try.pinned (OpenSpec.upto fnExactExposureThirdsSpec)

/-- 'laws.FnExactValidScene', WHERE WHAT IT READS IS OF BULK AT MOST 1048576: true; the input reads as it did. -/
def fnExactValidSceneUptoRow : OpenClaim := { program := "ytloejlidcofbjaa", sum := "a2ffde7bdd422cd6bfd213e6c82d9f96c5baf953106ced760243d6e76e021fe4", func := "loop.example/g01301/laws.FnExactValidScene", spec := "fnExactValidScene", unfollowed := true, recurses := true, apart := false, narrowed := true }
def FnExactValidSceneUptoSaid : Prop := fnExactValidSceneUptoRow.holds Try.pinned (OpenSpec.upto fnExactValidSceneSpec)

/-- 'laws.FnExactReadingAt', WHERE WHAT IT READS IS OF BULK AT MOST 1048576: true; the input reads as it did. -/
def fnExactReadingAtUptoRow : OpenClaim := { program := "ytloejlidcofbjaa", sum := "a2ffde7bdd422cd6bfd213e6c82d9f96c5baf953106ced760243d6e76e021fe4", func := "loop.example/g01301/laws.FnExactReadingAt", spec := "fnExactReadingAt", unfollowed := true, recurses := true, apart := false, narrowed := true }
def FnExactReadingAtUptoSaid : Prop := fnExactReadingAtUptoRow.holds Try.pinned (OpenSpec.upto fnExactReadingAtSpec)

/-- 'laws.FnExactSamePlacing', WHERE WHAT IT READS IS OF BULK AT MOST 1048576: true; the input reads as it did. -/
def fnExactSamePlacingUptoRow : OpenClaim := { program := "ytloejlidcofbjaa", sum := "a2ffde7bdd422cd6bfd213e6c82d9f96c5baf953106ced760243d6e76e021fe4", func := "loop.example/g01301/laws.FnExactSamePlacing", spec := "fnExactSamePlacing", apart := false, narrowed := true }
def FnExactSamePlacingUptoSaid : Prop := fnExactSamePlacingUptoRow.holds Try.pinned (OpenSpec.upto fnExactSamePlacingSpec)

/-- 'laws.FnExactZoneOf', WHERE WHAT IT READS IS OF BULK AT MOST 1048576: true; the input reads as it did. -/
def fnExactZoneOfUptoRow : OpenClaim := { program := "ytloejlidcofbjaa", sum := "a2ffde7bdd422cd6bfd213e6c82d9f96c5baf953106ced760243d6e76e021fe4", func := "loop.example/g01301/laws.FnExactZoneOf", spec := "fnExactZoneOf", apart := false, narrowed := true }
def FnExactZoneOfUptoSaid : Prop := fnExactZoneOfUptoRow.holds Try.pinned (OpenSpec.upto fnExactZoneOfSpec)

/-- 'laws.FnExactReadMask', WHERE WHAT IT READS IS OF BULK AT MOST 1048576: true; the input reads as it did. -/
def fnExactReadMaskUptoRow : OpenClaim := { program := "ytloejlidcofbjaa", sum := "a2ffde7bdd422cd6bfd213e6c82d9f96c5baf953106ced760243d6e76e021fe4", func := "loop.example/g01301/laws.FnExactReadMask", spec := "fnExactReadMask", apart := false, narrowed := true }
def FnExactReadMaskUptoSaid : Prop := fnExactReadMaskUptoRow.holds Try.pinned (OpenSpec.upto fnExactReadMaskSpec)

/-- 'laws.FnExactMeanReading', WHERE WHAT IT READS IS OF BULK AT MOST 1048576: true; the input reads as it did. -/
def fnExactMeanReadingUptoRow : OpenClaim := { program := "ytloejlidcofbjaa", sum := "a2ffde7bdd422cd6bfd213e6c82d9f96c5baf953106ced760243d6e76e021fe4", func := "loop.example/g01301/laws.FnExactMeanReading", spec := "fnExactMeanReading", unfollowed := true, recurses := true, apart := false, narrowed := true }
def FnExactMeanReadingUptoSaid : Prop := fnExactMeanReadingUptoRow.holds Try.pinned (OpenSpec.upto fnExactMeanReadingSpec)

/-- 'laws.FnExactWeightedReading', WHERE WHAT IT READS IS OF BULK AT MOST 1048576: true; the input reads as it did. -/
def fnExactWeightedReadingUptoRow : OpenClaim := { program := "ytloejlidcofbjaa", sum := "a2ffde7bdd422cd6bfd213e6c82d9f96c5baf953106ced760243d6e76e021fe4", func := "loop.example/g01301/laws.FnExactWeightedReading", spec := "fnExactWeightedReading", unfollowed := true, recurses := true, apart := false, narrowed := true }
def FnExactWeightedReadingUptoSaid : Prop := fnExactWeightedReadingUptoRow.holds Try.pinned (OpenSpec.upto fnExactWeightedReadingSpec)

/-- 'laws.FnExactSceneRange', WHERE WHAT IT READS IS OF BULK AT MOST 1048576: true; the input reads as it did. -/
def fnExactSceneRangeUptoRow : OpenClaim := { program := "ytloejlidcofbjaa", sum := "a2ffde7bdd422cd6bfd213e6c82d9f96c5baf953106ced760243d6e76e021fe4", func := "loop.example/g01301/laws.FnExactSceneRange", spec := "fnExactSceneRange", unfollowed := true, recurses := true, apart := false, narrowed := true }
def FnExactSceneRangeUptoSaid : Prop := fnExactSceneRangeUptoRow.holds Try.pinned (OpenSpec.upto fnExactSceneRangeSpec)

end Rows
end Go.Proofs.Ytloejlidcofbjaa
