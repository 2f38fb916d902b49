/-
  No cell of these rows narrows 'for every input' (looked for: loops, veiled, ifaces, maps, wideKeys, modest, calm, conditions, laid).
  DERIVED. THE GIVEN ROWS OF THIS SEAT. 23 by the template 'for every input the law returns true; each argument reads behind the call as it read before'; 0 by the template 'total and deterministic' (their statements: YtejkdiinohndiaaTotals.lean).
  GIVEN WITH THE SEED: the statements are not yours to turn. If you find one false, say at which input.
  Laid BY PROGRAM, IN A SANDBOX (cutbox-rows.mjs): the forced cells as the released guide's own fill.sh prints them over the translation 08f1ec1aae88a1dc… (all of the seat's roots in one cut). By AI agents, Wed Nov 11 2026. No macro, syntax, notation, axiom, sorry.
-/
import Derived.Test.YtejkdiinohndiaaChecked
import GoSem.Claim
import GoSem.ClaimJoined
import GoSem.ClaimMapViews
import Derived.JoinedTies
import Derived.KernelRfl
namespace Go.Proofs.Ytejkdiinohndiaa
/- THE CELL 'sum', in the pinned program and in every row, IS THE sha256 OF THE DUMP (.gsa) THAT YtejkdiinohndiaaProg.lean LOADS. Nothing in Lean hashes anything: it is a label: what it is worth is what the hold of that sum in a sandbox is worth. -/
noncomputable def Try.pinned : Pinned := { name := "ytejkdiinohndiaa", sum := "08f1ec1aae88a1dc39eaf9a693c1336b2f171edb09e9266499115d4f84db59f6", checked := Try.checked }
namespace Rows
def none {H : Type} : Left H := { results := [], args := [] }

/-- 'laws.FnExactPlaceFor': WHATEVER THE INPUT: true; the input reads as it did. -/
def fnExactPlaceForSpec : ChangeSpec := { name := "fnExactPlaceFor", fn := fun _ => fun
  | [d1, d2] => { results := [.lit (.bool true)], args := [d1, d2] }
  | _ => none }
def fnExactPlaceForRow : OpenClaim := { program := "ytejkdiinohndiaa", sum := "08f1ec1aae88a1dc39eaf9a693c1336b2f171edb09e9266499115d4f84db59f6", func := "loop.example/g01301/laws.FnExactPlaceFor", spec := "fnExactPlaceFor", apart := false }
def FnExactPlaceForSaid : Prop := fnExactPlaceForRow.holds Try.pinned (OpenSpec.ofChange fnExactPlaceForSpec)

/-- ITS FALSE NEIGHBOUR: 'it returns false'. Refute it at one input. -/
def fnExactPlaceForWrong : ChangeSpec := { name := "fnExactPlaceFor", fn := fun _ => fun
  | [d1, d2] => { results := [.lit (.bool false)], args := [d1, d2] }
  | _ => none }
def FnExactPlaceForWrongFalsely : Prop := fnExactPlaceForRow.holds Try.pinned (OpenSpec.ofChange fnExactPlaceForWrong)

/-- 'laws.FnExactExposureThirds': WHATEVER THE INPUT: true; the input reads as it did. -/
def fnExactExposureThirdsSpec : ChangeSpec := { name := "fnExactExposureThirds", fn := fun _ => fun
  | [d] => { results := [.lit (.bool true)], args := [d] }
  | _ => none }
def fnExactExposureThirdsRow : OpenClaim := { program := "ytejkdiinohndiaa", sum := "08f1ec1aae88a1dc39eaf9a693c1336b2f171edb09e9266499115d4f84db59f6", func := "loop.example/g01301/laws.FnExactExposureThirds", spec := "fnExactExposureThirds", apart := false }
def FnExactExposureThirdsSaid : Prop := fnExactExposureThirdsRow.holds Try.pinned (OpenSpec.ofChange fnExactExposureThirdsSpec)

/-- ITS FALSE NEIGHBOUR: 'it returns false'. Refute it at one input. -/
def fnExactExposureThirdsWrong : ChangeSpec := { name := "fnExactExposureThirds", fn := fun _ => fun
  | [d] => { results := [.lit (.bool false)], args := [d] }
  | _ => none }
def FnExactExposureThirdsWrongFalsely : Prop := fnExactExposureThirdsRow.holds Try.pinned (OpenSpec.ofChange fnExactExposureThirdsWrong)

/-- 'laws.FnExactValidScene': WHATEVER THE INPUT: true; the input reads as it did. -/
def fnExactValidSceneSpec : ChangeSpec := { name := "fnExactValidScene", fn := fun _ => fun
  | [d] => { results := [.lit (.bool true)], args := [d] }
  | _ => none }
def fnExactValidSceneRow : OpenClaim := { program := "ytejkdiinohndiaa", sum := "08f1ec1aae88a1dc39eaf9a693c1336b2f171edb09e9266499115d4f84db59f6", func := "loop.example/g01301/laws.FnExactValidScene", spec := "fnExactValidScene", unfollowed := true, recurses := true, apart := false }
def FnExactValidSceneSaid : Prop := fnExactValidSceneRow.holds Try.pinned (OpenSpec.ofChange fnExactValidSceneSpec)

/-- ITS FALSE NEIGHBOUR: 'it returns false'. Refute it at one input. -/
def fnExactValidSceneWrong : ChangeSpec := { name := "fnExactValidScene", fn := fun _ => fun
  | [d] => { results := [.lit (.bool false)], args := [d] }
  | _ => none }
def FnExactValidSceneWrongFalsely : Prop := fnExactValidSceneRow.holds Try.pinned (OpenSpec.ofChange fnExactValidSceneWrong)

/-- 'laws.FnExactReadingAt': WHATEVER THE INPUT: true; the input reads as it did. -/
def fnExactReadingAtSpec : ChangeSpec := { name := "fnExactReadingAt", fn := fun _ => fun
  | [d1, d2, d3] => { results := [.lit (.bool true)], args := [d1, d2, d3] }
  | _ => none }
def fnExactReadingAtRow : OpenClaim := { program := "ytejkdiinohndiaa", sum := "08f1ec1aae88a1dc39eaf9a693c1336b2f171edb09e9266499115d4f84db59f6", func := "loop.example/g01301/laws.FnExactReadingAt", spec := "fnExactReadingAt", unfollowed := true, recurses := true, apart := false }
def FnExactReadingAtSaid : Prop := fnExactReadingAtRow.holds Try.pinned (OpenSpec.ofChange fnExactReadingAtSpec)

/-- ITS FALSE NEIGHBOUR: 'it returns false'. Refute it at one input. -/
def fnExactReadingAtWrong : ChangeSpec := { name := "fnExactReadingAt", fn := fun _ => fun
  | [d1, d2, d3] => { results := [.lit (.bool false)], args := [d1, d2, d3] }
  | _ => none }
def FnExactReadingAtWrongFalsely : Prop := fnExactReadingAtRow.holds Try.pinned (OpenSpec.ofChange fnExactReadingAtWrong)

/-- 'laws.FnExactSamePlacing': WHATEVER THE INPUT: true; the input reads as it did. -/
def fnExactSamePlacingSpec : ChangeSpec := { name := "fnExactSamePlacing", fn := fun _ => fun
  | [d1, d2] => { results := [.lit (.bool true)], args := [d1, d2] }
  | _ => none }
def fnExactSamePlacingRow : OpenClaim := { program := "ytejkdiinohndiaa", sum := "08f1ec1aae88a1dc39eaf9a693c1336b2f171edb09e9266499115d4f84db59f6", func := "loop.example/g01301/laws.FnExactSamePlacing", spec := "fnExactSamePlacing", apart := false }
def FnExactSamePlacingSaid : Prop := fnExactSamePlacingRow.holds Try.pinned (OpenSpec.ofChange fnExactSamePlacingSpec)

/-- ITS FALSE NEIGHBOUR: 'it returns false'. Refute it at one input. -/
def fnExactSamePlacingWrong : ChangeSpec := { name := "fnExactSamePlacing", fn := fun _ => fun
  | [d1, d2] => { results := [.lit (.bool false)], args := [d1, d2] }
  | _ => none }
def FnExactSamePlacingWrongFalsely : Prop := fnExactSamePlacingRow.holds Try.pinned (OpenSpec.ofChange fnExactSamePlacingWrong)

/-- 'laws.FnExactZoneOf': WHATEVER THE INPUT: true; the input reads as it did. -/
def fnExactZoneOfSpec : ChangeSpec := { name := "fnExactZoneOf", fn := fun _ => fun
  | [d1, d2] => { results := [.lit (.bool true)], args := [d1, d2] }
  | _ => none }
def fnExactZoneOfRow : OpenClaim := { program := "ytejkdiinohndiaa", sum := "08f1ec1aae88a1dc39eaf9a693c1336b2f171edb09e9266499115d4f84db59f6", func := "loop.example/g01301/laws.FnExactZoneOf", spec := "fnExactZoneOf", apart := false }
def FnExactZoneOfSaid : Prop := fnExactZoneOfRow.holds Try.pinned (OpenSpec.ofChange fnExactZoneOfSpec)

/-- ITS FALSE NEIGHBOUR: 'it returns false'. Refute it at one input. -/
def fnExactZoneOfWrong : ChangeSpec := { name := "fnExactZoneOf", fn := fun _ => fun
  | [d1, d2] => { results := [.lit (.bool false)], args := [d1, d2] }
  | _ => none }
def FnExactZoneOfWrongFalsely : Prop := fnExactZoneOfRow.holds Try.pinned (OpenSpec.ofChange fnExactZoneOfWrong)

/-- 'laws.FnExactMeanReading': WHATEVER THE INPUT: true; the input reads as it did. -/
def fnExactMeanReadingSpec : ChangeSpec := { name := "fnExactMeanReading", fn := fun _ => fun
  | [d] => { results := [.lit (.bool true)], args := [d] }
  | _ => none }
def fnExactMeanReadingRow : OpenClaim := { program := "ytejkdiinohndiaa", sum := "08f1ec1aae88a1dc39eaf9a693c1336b2f171edb09e9266499115d4f84db59f6", func := "loop.example/g01301/laws.FnExactMeanReading", spec := "fnExactMeanReading", unfollowed := true, recurses := true, apart := false }
def FnExactMeanReadingSaid : Prop := fnExactMeanReadingRow.holds Try.pinned (OpenSpec.ofChange fnExactMeanReadingSpec)

/-- ITS FALSE NEIGHBOUR: 'it returns false'. Refute it at one input. -/
def fnExactMeanReadingWrong : ChangeSpec := { name := "fnExactMeanReading", fn := fun _ => fun
  | [d] => { results := [.lit (.bool false)], args := [d] }
  | _ => none }
def FnExactMeanReadingWrongFalsely : Prop := fnExactMeanReadingRow.holds Try.pinned (OpenSpec.ofChange fnExactMeanReadingWrong)

/-- 'laws.FnExactWeightedReading': WHATEVER THE INPUT: true; the input reads as it did. -/
def fnExactWeightedReadingSpec : ChangeSpec := { name := "fnExactWeightedReading", fn := fun _ => fun
  | [d] => { results := [.lit (.bool true)], args := [d] }
  | _ => none }
def fnExactWeightedReadingRow : OpenClaim := { program := "ytejkdiinohndiaa", sum := "08f1ec1aae88a1dc39eaf9a693c1336b2f171edb09e9266499115d4f84db59f6", func := "loop.example/g01301/laws.FnExactWeightedReading", spec := "fnExactWeightedReading", unfollowed := true, recurses := true, apart := false }
def FnExactWeightedReadingSaid : Prop := fnExactWeightedReadingRow.holds Try.pinned (OpenSpec.ofChange fnExactWeightedReadingSpec)

/-- ITS FALSE NEIGHBOUR: 'it returns false'. Refute it at one input. -/
def fnExactWeightedReadingWrong : ChangeSpec := { name := "fnExactWeightedReading", fn := fun _ => fun
  | [d] => { results := [.lit (.bool false)], args := [d] }
  | _ => none }
def FnExactWeightedReadingWrongFalsely : Prop := fnExactWeightedReadingRow.holds Try.pinned (OpenSpec.ofChange fnExactWeightedReadingWrong)

/-- 'laws.FnExactSceneRange': WHATEVER THE INPUT: true; the input reads as it did. -/
def fnExactSceneRangeSpec : ChangeSpec := { name := "fnExactSceneRange", fn := fun _ => fun
  | [d] => { results := [.lit (.bool true)], args := [d] }
  | _ => none }
def fnExactSceneRangeRow : OpenClaim := { program := "ytejkdiinohndiaa", sum := "08f1ec1aae88a1dc39eaf9a693c1336b2f171edb09e9266499115d4f84db59f6", func := "loop.example/g01301/laws.FnExactSceneRange", spec := "fnExactSceneRange", unfollowed := true, recurses := true, apart := false }
def FnExactSceneRangeSaid : Prop := fnExactSceneRangeRow.holds Try.pinned (OpenSpec.ofChange fnExactSceneRangeSpec)

/-- ITS FALSE NEIGHBOUR: 'it returns false'. Refute it at one input. -/
def fnExactSceneRangeWrong : ChangeSpec := { name := "fnExactSceneRange", fn := fun _ => fun
  | [d] => { results := [.lit (.bool false)], args := [d] }
  | _ => none }
def FnExactSceneRangeWrongFalsely : Prop := fnExactSceneRangeRow.holds Try.pinned (OpenSpec.ofChange fnExactSceneRangeWrong)

/-- 'laws.FnExactFieldMean': WHATEVER THE INPUT: true; the input reads as it did. -/
def fnExactFieldMeanSpec : ChangeSpec := { name := "fnExactFieldMean", fn := fun _ => fun
  | [d1, d2] => { results := [.lit (.bool true)], args := [d1, d2] }
  | _ => none }
def fnExactFieldMeanRow : OpenClaim := { program := "ytejkdiinohndiaa", sum := "08f1ec1aae88a1dc39eaf9a693c1336b2f171edb09e9266499115d4f84db59f6", func := "loop.example/g01301/laws.FnExactFieldMean", spec := "fnExactFieldMean", unfollowed := true, recurses := true, apart := false }
def FnExactFieldMeanSaid : Prop := fnExactFieldMeanRow.holds Try.pinned (OpenSpec.ofChange fnExactFieldMeanSpec)

/-- ITS FALSE NEIGHBOUR: 'it returns false'. Refute it at one input. -/
def fnExactFieldMeanWrong : ChangeSpec := { name := "fnExactFieldMean", fn := fun _ => fun
  | [d1, d2] => { results := [.lit (.bool false)], args := [d1, d2] }
  | _ => none }
def FnExactFieldMeanWrongFalsely : Prop := fnExactFieldMeanRow.holds Try.pinned (OpenSpec.ofChange fnExactFieldMeanWrong)

/-- 'laws.FnEverySetting': WHATEVER THE INPUT: true; the input reads as it did. -/
def fnEverySettingSpec : ChangeSpec := { name := "fnEverySetting", fn := fun _ => fun
  | [d1, d2, d3] => { results := [.lit (.bool true)], args := [d1, d2, d3] }
  | _ => none }
def fnEverySettingRow : OpenClaim := { program := "ytejkdiinohndiaa", sum := "08f1ec1aae88a1dc39eaf9a693c1336b2f171edb09e9266499115d4f84db59f6", func := "loop.example/g01301/laws.FnEverySetting", spec := "fnEverySetting", apart := false }
def FnEverySettingSaid : Prop := fnEverySettingRow.holds Try.pinned (OpenSpec.ofChange fnEverySettingSpec)

/-- ITS FALSE NEIGHBOUR: 'it returns false'. Refute it at one input. -/
def fnEverySettingWrong : ChangeSpec := { name := "fnEverySetting", fn := fun _ => fun
  | [d1, d2, d3] => { results := [.lit (.bool false)], args := [d1, d2, d3] }
  | _ => none }
def FnEverySettingWrongFalsely : Prop := fnEverySettingRow.holds Try.pinned (OpenSpec.ofChange fnEverySettingWrong)

/-- 'laws.FnExactSettingFor': WHATEVER THE INPUT: true; the input reads as it did. -/
def fnExactSettingForSpec : ChangeSpec := { name := "fnExactSettingFor", fn := fun _ => fun
  | [d1, d2, d3] => { results := [.lit (.bool true)], args := [d1, d2, d3] }
  | _ => none }
def fnExactSettingForRow : OpenClaim := { program := "ytejkdiinohndiaa", sum := "08f1ec1aae88a1dc39eaf9a693c1336b2f171edb09e9266499115d4f84db59f6", func := "loop.example/g01301/laws.FnExactSettingFor", spec := "fnExactSettingFor", apart := false }
def FnExactSettingForSaid : Prop := fnExactSettingForRow.holds Try.pinned (OpenSpec.ofChange fnExactSettingForSpec)

/-- ITS FALSE NEIGHBOUR: 'it returns false'. Refute it at one input. -/
def fnExactSettingForWrong : ChangeSpec := { name := "fnExactSettingFor", fn := fun _ => fun
  | [d1, d2, d3] => { results := [.lit (.bool false)], args := [d1, d2, d3] }
  | _ => none }
def FnExactSettingForWrongFalsely : Prop := fnExactSettingForRow.holds Try.pinned (OpenSpec.ofChange fnExactSettingForWrong)

/-- 'laws.FnExactZonesOf': WHATEVER THE INPUT: true; the input reads as it did. -/
def fnExactZonesOfSpec : ChangeSpec := { name := "fnExactZonesOf", fn := fun _ => fun
  | [d1, d2] => { results := [.lit (.bool true)], args := [d1, d2] }
  | _ => none }
def fnExactZonesOfRow : OpenClaim := { program := "ytejkdiinohndiaa", sum := "08f1ec1aae88a1dc39eaf9a693c1336b2f171edb09e9266499115d4f84db59f6", func := "loop.example/g01301/laws.FnExactZonesOf", spec := "fnExactZonesOf", unfollowed := true, recurses := true, apart := false }
def FnExactZonesOfSaid : Prop := fnExactZonesOfRow.holds Try.pinned (OpenSpec.ofChange fnExactZonesOfSpec)

/-- ITS FALSE NEIGHBOUR: 'it returns false'. Refute it at one input. -/
def fnExactZonesOfWrong : ChangeSpec := { name := "fnExactZonesOf", fn := fun _ => fun
  | [d1, d2] => { results := [.lit (.bool false)], args := [d1, d2] }
  | _ => none }
def FnExactZonesOfWrongFalsely : Prop := fnExactZonesOfRow.holds Try.pinned (OpenSpec.ofChange fnExactZonesOfWrong)

/-- 'laws.FnExactDevelopBy': WHATEVER THE INPUT: true; the input reads as it did. -/
def fnExactDevelopBySpec : ChangeSpec := { name := "fnExactDevelopBy", fn := fun _ => fun
  | [d1, d2, d3] => { results := [.lit (.bool true)], args := [d1, d2, d3] }
  | _ => none }
def fnExactDevelopByRow : OpenClaim := { program := "ytejkdiinohndiaa", sum := "08f1ec1aae88a1dc39eaf9a693c1336b2f171edb09e9266499115d4f84db59f6", func := "loop.example/g01301/laws.FnExactDevelopBy", spec := "fnExactDevelopBy", unfollowed := true, recurses := true, apart := false }
def FnExactDevelopBySaid : Prop := fnExactDevelopByRow.holds Try.pinned (OpenSpec.ofChange fnExactDevelopBySpec)

/-- ITS FALSE NEIGHBOUR: 'it returns false'. Refute it at one input. -/
def fnExactDevelopByWrong : ChangeSpec := { name := "fnExactDevelopBy", fn := fun _ => fun
  | [d1, d2, d3] => { results := [.lit (.bool false)], args := [d1, d2, d3] }
  | _ => none }
def FnExactDevelopByWrongFalsely : Prop := fnExactDevelopByRow.holds Try.pinned (OpenSpec.ofChange fnExactDevelopByWrong)

/-- 'laws.FnExactOffScale': WHATEVER THE INPUT: true; the input reads as it did. -/
def fnExactOffScaleSpec : ChangeSpec := { name := "fnExactOffScale", fn := fun _ => fun
  | [d1, d2] => { results := [.lit (.bool true)], args := [d1, d2] }
  | _ => none }
def fnExactOffScaleRow : OpenClaim := { program := "ytejkdiinohndiaa", sum := "08f1ec1aae88a1dc39eaf9a693c1336b2f171edb09e9266499115d4f84db59f6", func := "loop.example/g01301/laws.FnExactOffScale", spec := "fnExactOffScale", unfollowed := true, recurses := true, apart := false }
def FnExactOffScaleSaid : Prop := fnExactOffScaleRow.holds Try.pinned (OpenSpec.ofChange fnExactOffScaleSpec)

/-- ITS FALSE NEIGHBOUR: 'it returns false'. Refute it at one input. -/
def fnExactOffScaleWrong : ChangeSpec := { name := "fnExactOffScale", fn := fun _ => fun
  | [d1, d2] => { results := [.lit (.bool false)], args := [d1, d2] }
  | _ => none }
def FnExactOffScaleWrongFalsely : Prop := fnExactOffScaleRow.holds Try.pinned (OpenSpec.ofChange fnExactOffScaleWrong)

/-- 'laws.FnExactBrighterField': WHATEVER THE INPUT: true; the input reads as it did. -/
def fnExactBrighterFieldSpec : ChangeSpec := { name := "fnExactBrighterField", fn := fun _ => fun
  | [d1, d2, d3] => { results := [.lit (.bool true)], args := [d1, d2, d3] }
  | _ => none }
def fnExactBrighterFieldRow : OpenClaim := { program := "ytejkdiinohndiaa", sum := "08f1ec1aae88a1dc39eaf9a693c1336b2f171edb09e9266499115d4f84db59f6", func := "loop.example/g01301/laws.FnExactBrighterField", spec := "fnExactBrighterField", unfollowed := true, recurses := true, apart := false }
def FnExactBrighterFieldSaid : Prop := fnExactBrighterFieldRow.holds Try.pinned (OpenSpec.ofChange fnExactBrighterFieldSpec)

/-- ITS FALSE NEIGHBOUR: 'it returns false'. Refute it at one input. -/
def fnExactBrighterFieldWrong : ChangeSpec := { name := "fnExactBrighterField", fn := fun _ => fun
  | [d1, d2, d3] => { results := [.lit (.bool false)], args := [d1, d2, d3] }
  | _ => none }
def FnExactBrighterFieldWrongFalsely : Prop := fnExactBrighterFieldRow.holds Try.pinned (OpenSpec.ofChange fnExactBrighterFieldWrong)

/-- 'laws.FnExactBestPlacement': WHATEVER THE INPUT: true; the input reads as it did. -/
def fnExactBestPlacementSpec : ChangeSpec := { name := "fnExactBestPlacement", fn := fun _ => fun
  | [d] => { results := [.lit (.bool true)], args := [d] }
  | _ => none }
def fnExactBestPlacementRow : OpenClaim := { program := "ytejkdiinohndiaa", sum := "08f1ec1aae88a1dc39eaf9a693c1336b2f171edb09e9266499115d4f84db59f6", func := "loop.example/g01301/laws.FnExactBestPlacement", spec := "fnExactBestPlacement", unfollowed := true, recurses := true, apart := false }
def FnExactBestPlacementSaid : Prop := fnExactBestPlacementRow.holds Try.pinned (OpenSpec.ofChange fnExactBestPlacementSpec)

/-- ITS FALSE NEIGHBOUR: 'it returns false'. Refute it at one input. -/
def fnExactBestPlacementWrong : ChangeSpec := { name := "fnExactBestPlacement", fn := fun _ => fun
  | [d] => { results := [.lit (.bool false)], args := [d] }
  | _ => none }
def FnExactBestPlacementWrongFalsely : Prop := fnExactBestPlacementRow.holds Try.pinned (OpenSpec.ofChange fnExactBestPlacementWrong)

/-- 'laws.FnExactCountZones': WHATEVER THE INPUT: true; the input reads as it did. -/
def fnExactCountZonesSpec : ChangeSpec := { name := "fnExactCountZones", fn := fun _ => fun
  | [d1, d2] => { results := [.lit (.bool true)], args := [d1, d2] }
  | _ => none }
def fnExactCountZonesRow : OpenClaim := { program := "ytejkdiinohndiaa", sum := "08f1ec1aae88a1dc39eaf9a693c1336b2f171edb09e9266499115d4f84db59f6", func := "loop.example/g01301/laws.FnExactCountZones", spec := "fnExactCountZones", unfollowed := true, recurses := true, apart := false }
def FnExactCountZonesSaid : Prop := fnExactCountZonesRow.holds Try.pinned (OpenSpec.ofChange fnExactCountZonesSpec)

/-- ITS FALSE NEIGHBOUR: 'it returns false'. Refute it at one input. -/
def fnExactCountZonesWrong : ChangeSpec := { name := "fnExactCountZones", fn := fun _ => fun
  | [d1, d2] => { results := [.lit (.bool false)], args := [d1, d2] }
  | _ => none }
def FnExactCountZonesWrongFalsely : Prop := fnExactCountZonesRow.holds Try.pinned (OpenSpec.ofChange fnExactCountZonesWrong)

/-- 'laws.FnExactAlikeFields': WHATEVER THE INPUT: true; the input reads as it did. -/
def fnExactAlikeFieldsSpec : ChangeSpec := { name := "fnExactAlikeFields", fn := fun _ => fun
  | [d1, d2] => { results := [.lit (.bool true)], args := [d1, d2] }
  | _ => none }
def fnExactAlikeFieldsRow : OpenClaim := { program := "ytejkdiinohndiaa", sum := "08f1ec1aae88a1dc39eaf9a693c1336b2f171edb09e9266499115d4f84db59f6", func := "loop.example/g01301/laws.FnExactAlikeFields", spec := "fnExactAlikeFields", unfollowed := true, recurses := true, apart := false }
def FnExactAlikeFieldsSaid : Prop := fnExactAlikeFieldsRow.holds Try.pinned (OpenSpec.ofChange fnExactAlikeFieldsSpec)

/-- ITS FALSE NEIGHBOUR: 'it returns false'. Refute it at one input. -/
def fnExactAlikeFieldsWrong : ChangeSpec := { name := "fnExactAlikeFields", fn := fun _ => fun
  | [d1, d2] => { results := [.lit (.bool false)], args := [d1, d2] }
  | _ => none }
def FnExactAlikeFieldsWrongFalsely : Prop := fnExactAlikeFieldsRow.holds Try.pinned (OpenSpec.ofChange fnExactAlikeFieldsWrong)

/-- 'laws.FnContrast': WHATEVER THE INPUT: true; the input reads as it did. -/
def fnContrastSpec : ChangeSpec := { name := "fnContrast", fn := fun _ => fun
  | [d1, d2] => { results := [.lit (.bool true)], args := [d1, d2] }
  | _ => none }
def fnContrastRow : OpenClaim := { program := "ytejkdiinohndiaa", sum := "08f1ec1aae88a1dc39eaf9a693c1336b2f171edb09e9266499115d4f84db59f6", func := "loop.example/g01301/laws.FnContrast", spec := "fnContrast", unfollowed := true, recurses := true, apart := false }
def FnContrastSaid : Prop := fnContrastRow.holds Try.pinned (OpenSpec.ofChange fnContrastSpec)

/-- ITS FALSE NEIGHBOUR: 'it returns false'. Refute it at one input. -/
def fnContrastWrong : ChangeSpec := { name := "fnContrast", fn := fun _ => fun
  | [d1, d2] => { results := [.lit (.bool false)], args := [d1, d2] }
  | _ => none }
def FnContrastWrongFalsely : Prop := fnContrastRow.holds Try.pinned (OpenSpec.ofChange fnContrastWrong)

/-- 'laws.FnZones': WHATEVER THE INPUT: true; the input reads as it did. -/
def fnZonesSpec : ChangeSpec := { name := "fnZones", fn := fun _ => fun
  | [d1, d2] => { results := [.lit (.bool true)], args := [d1, d2] }
  | _ => none }
def fnZonesRow : OpenClaim := { program := "ytejkdiinohndiaa", sum := "08f1ec1aae88a1dc39eaf9a693c1336b2f171edb09e9266499115d4f84db59f6", func := "loop.example/g01301/laws.FnZones", spec := "fnZones", unfollowed := true, recurses := true, apart := false }
def FnZonesSaid : Prop := fnZonesRow.holds Try.pinned (OpenSpec.ofChange fnZonesSpec)

/-- ITS FALSE NEIGHBOUR: 'it returns false'. Refute it at one input. -/
def fnZonesWrong : ChangeSpec := { name := "fnZones", fn := fun _ => fun
  | [d1, d2] => { results := [.lit (.bool false)], args := [d1, d2] }
  | _ => none }
def FnZonesWrongFalsely : Prop := fnZonesRow.holds Try.pinned (OpenSpec.ofChange fnZonesWrong)

/-- 'laws.FnExactMedianReading': WHATEVER THE INPUT: true; the input reads as it did. -/
def fnExactMedianReadingSpec : ChangeSpec := { name := "fnExactMedianReading", fn := fun _ => fun
  | [d] => { results := [.lit (.bool true)], args := [d] }
  | _ => none }
def fnExactMedianReadingRow : OpenClaim := { program := "ytejkdiinohndiaa", sum := "08f1ec1aae88a1dc39eaf9a693c1336b2f171edb09e9266499115d4f84db59f6", func := "loop.example/g01301/laws.FnExactMedianReading", spec := "fnExactMedianReading", unfollowed := true, recurses := true, apart := false }
def FnExactMedianReadingSaid : Prop := fnExactMedianReadingRow.holds Try.pinned (OpenSpec.ofChange fnExactMedianReadingSpec)

/-- ITS FALSE NEIGHBOUR: 'it returns false'. Refute it at one input. -/
def fnExactMedianReadingWrong : ChangeSpec := { name := "fnExactMedianReading", fn := fun _ => fun
  | [d] => { results := [.lit (.bool false)], args := [d] }
  | _ => none }
def FnExactMedianReadingWrongFalsely : Prop := fnExactMedianReadingRow.holds Try.pinned (OpenSpec.ofChange fnExactMedianReadingWrong)

/-- 'laws.FnExactContrastOf': WHATEVER THE INPUT: true; the input reads as it did. -/
def fnExactContrastOfSpec : ChangeSpec := { name := "fnExactContrastOf", fn := fun _ => fun
  | [d1, d2, d3] => { results := [.lit (.bool true)], args := [d1, d2, d3] }
  | _ => none }
def fnExactContrastOfRow : OpenClaim := { program := "ytejkdiinohndiaa", sum := "08f1ec1aae88a1dc39eaf9a693c1336b2f171edb09e9266499115d4f84db59f6", func := "loop.example/g01301/laws.FnExactContrastOf", spec := "fnExactContrastOf", unfollowed := true, recurses := true, apart := false }
def FnExactContrastOfSaid : Prop := fnExactContrastOfRow.holds Try.pinned (OpenSpec.ofChange fnExactContrastOfSpec)

/-- ITS FALSE NEIGHBOUR: 'it returns false'. Refute it at one input. -/
def fnExactContrastOfWrong : ChangeSpec := { name := "fnExactContrastOf", fn := fun _ => fun
  | [d1, d2, d3] => { results := [.lit (.bool false)], args := [d1, d2, d3] }
  | _ => none }
def FnExactContrastOfWrongFalsely : Prop := fnExactContrastOfRow.holds Try.pinned (OpenSpec.ofChange fnExactContrastOfWrong)

/- THE SECOND FORM. 'bulk': how many values and letters a reading holds, each counted each time it is reached (what is shared counts as often as it is met; a slice's spare places count too). A statement '..UptoSaid' is the law's where the arguments, and the package variables that the reading takes, are together of bulk at most 1048576: NARROWER than '..Said'. Prove '..Said' where nothing that the law and all that it calls make is longer than what came in: it says more and counts as full. Else prove '..UptoSaid'. A law counts once. -/
mutual
def uptoBulk {H : Type} : DataW H → Nat
  | .lit (.string bytes) => bytes.length + 1
  | .lit _ => 1
  | .nil => 1
  | .ptr d => uptoBulk d + 1
  | .slice elems spare => uptoBulkAll elems + uptoBulkAll spare + 1
  | .agg parts => uptoBulkAll parts + 1
  | .iface _ d => uptoBulk d + 1
  | .map entries => uptoBulkEntries entries + 1
  | .held _ => 1
def uptoBulkAll {H : Type} : List (DataW H) → Nat
  | [] => 0
  | d :: r => uptoBulk d + uptoBulkAll r
def uptoBulkEntries {H : Type} : List (Lit × DataW H) → Nat
  | [] => 0
  | x :: r => uptoBulkEntry x + uptoBulkEntries r
def uptoBulkEntry {H : Type} : Lit × DataW H → Nat
  | (.string bytes, d) => bytes.length + uptoBulk d + 1
  | (_, d) => uptoBulk d + 1
 end
def uptoSmall : (H : Type) → List (DataW H) → Bool := fun _ ds => decide (uptoBulkAll ds ≤ 1048576)
def OpenSpec.upto (s : _root_.Go.ChangeSpec) : _root_.Go.OpenSpec := { _root_.Go.OpenSpec.ofChange s with cond := some uptoSmall }

/-- 'laws.FnExactPlaceFor', WHERE WHAT IT READS IS OF BULK AT MOST 1048576: true; the input reads as it did. -/
def fnExactPlaceForUptoRow : OpenClaim := { program := "ytejkdiinohndiaa", sum := "08f1ec1aae88a1dc39eaf9a693c1336b2f171edb09e9266499115d4f84db59f6", func := "loop.example/g01301/laws.FnExactPlaceFor", spec := "fnExactPlaceFor", apart := false, narrowed := true }
def FnExactPlaceForUptoSaid : Prop := fnExactPlaceForUptoRow.holds Try.pinned (OpenSpec.upto fnExactPlaceForSpec)

/-- 'laws.FnExactExposureThirds', WHERE WHAT IT READS IS OF BULK AT MOST 1048576: true; the input reads as it did. -/
def fnExactExposureThirdsUptoRow : OpenClaim := { program := "ytejkdiinohndiaa", sum := "08f1ec1aae88a1dc39eaf9a693c1336b2f171edb09e9266499115d4f84db59f6", func := "loop.example/g01301/laws.FnExactExposureThirds", spec := "fnExactExposureThirds", apart := false, narrowed := true }
def FnExactExposureThirdsUptoSaid : Prop := fnExactExposureThirdsUptoRow.holds Try.pinned (OpenSpec.upto fnExactExposureThirdsSpec)

/-- 'laws.FnExactValidScene', WHERE WHAT IT READS IS OF BULK AT MOST 1048576: true; the input reads as it did. -/
def fnExactValidSceneUptoRow : OpenClaim := { program := "ytejkdiinohndiaa", sum := "08f1ec1aae88a1dc39eaf9a693c1336b2f171edb09e9266499115d4f84db59f6", func := "loop.example/g01301/laws.FnExactValidScene", spec := "fnExactValidScene", unfollowed := true, recurses := true, apart := false, narrowed := true }
def FnExactValidSceneUptoSaid : Prop := fnExactValidSceneUptoRow.holds Try.pinned (OpenSpec.upto fnExactValidSceneSpec)

/-- 'laws.FnExactReadingAt', WHERE WHAT IT READS IS OF BULK AT MOST 1048576: true; the input reads as it did. -/
def fnExactReadingAtUptoRow : OpenClaim := { program := "ytejkdiinohndiaa", sum := "08f1ec1aae88a1dc39eaf9a693c1336b2f171edb09e9266499115d4f84db59f6", func := "loop.example/g01301/laws.FnExactReadingAt", spec := "fnExactReadingAt", unfollowed := true, recurses := true, apart := false, narrowed := true }
def FnExactReadingAtUptoSaid : Prop := fnExactReadingAtUptoRow.holds Try.pinned (OpenSpec.upto fnExactReadingAtSpec)

/-- 'laws.FnExactSamePlacing', WHERE WHAT IT READS IS OF BULK AT MOST 1048576: true; the input reads as it did. -/
def fnExactSamePlacingUptoRow : OpenClaim := { program := "ytejkdiinohndiaa", sum := "08f1ec1aae88a1dc39eaf9a693c1336b2f171edb09e9266499115d4f84db59f6", func := "loop.example/g01301/laws.FnExactSamePlacing", spec := "fnExactSamePlacing", apart := false, narrowed := true }
def FnExactSamePlacingUptoSaid : Prop := fnExactSamePlacingUptoRow.holds Try.pinned (OpenSpec.upto fnExactSamePlacingSpec)

/-- 'laws.FnExactZoneOf', WHERE WHAT IT READS IS OF BULK AT MOST 1048576: true; the input reads as it did. -/
def fnExactZoneOfUptoRow : OpenClaim := { program := "ytejkdiinohndiaa", sum := "08f1ec1aae88a1dc39eaf9a693c1336b2f171edb09e9266499115d4f84db59f6", func := "loop.example/g01301/laws.FnExactZoneOf", spec := "fnExactZoneOf", apart := false, narrowed := true }
def FnExactZoneOfUptoSaid : Prop := fnExactZoneOfUptoRow.holds Try.pinned (OpenSpec.upto fnExactZoneOfSpec)

/-- 'laws.FnExactMeanReading', WHERE WHAT IT READS IS OF BULK AT MOST 1048576: true; the input reads as it did. -/
def fnExactMeanReadingUptoRow : OpenClaim := { program := "ytejkdiinohndiaa", sum := "08f1ec1aae88a1dc39eaf9a693c1336b2f171edb09e9266499115d4f84db59f6", func := "loop.example/g01301/laws.FnExactMeanReading", spec := "fnExactMeanReading", unfollowed := true, recurses := true, apart := false, narrowed := true }
def FnExactMeanReadingUptoSaid : Prop := fnExactMeanReadingUptoRow.holds Try.pinned (OpenSpec.upto fnExactMeanReadingSpec)

/-- 'laws.FnExactWeightedReading', WHERE WHAT IT READS IS OF BULK AT MOST 1048576: true; the input reads as it did. -/
def fnExactWeightedReadingUptoRow : OpenClaim := { program := "ytejkdiinohndiaa", sum := "08f1ec1aae88a1dc39eaf9a693c1336b2f171edb09e9266499115d4f84db59f6", func := "loop.example/g01301/laws.FnExactWeightedReading", spec := "fnExactWeightedReading", unfollowed := true, recurses := true, apart := false, narrowed := true }
def FnExactWeightedReadingUptoSaid : Prop := fnExactWeightedReadingUptoRow.holds Try.pinned (OpenSpec.upto fnExactWeightedReadingSpec)

/-- 'laws.FnExactSceneRange', WHERE WHAT IT READS IS OF BULK AT MOST 1048576: true; the input reads as it did. -/
def fnExactSceneRangeUptoRow : OpenClaim := { program := "ytejkdiinohndiaa", sum := "08f1ec1aae88a1dc39eaf9a693c1336b2f171edb09e9266499115d4f84db59f6", func := "loop.example/g01301/laws.FnExactSceneRange", spec := "fnExactSceneRange", unfollowed := true, recurses := true, apart := false, narrowed := true }
def FnExactSceneRangeUptoSaid : Prop := fnExactSceneRangeUptoRow.holds Try.pinned (OpenSpec.upto fnExactSceneRangeSpec)

/-- 'laws.FnExactFieldMean', WHERE WHAT IT READS IS OF BULK AT MOST 1048576: true; the input reads as it did. -/
def fnExactFieldMeanUptoRow : OpenClaim := { program := "ytejkdiinohndiaa", sum := "08f1ec1aae88a1dc39eaf9a693c1336b2f171edb09e9266499115d4f84db59f6", func := "loop.example/g01301/laws.FnExactFieldMean", spec := "fnExactFieldMean", unfollowed := true, recurses := true, apart := false, narrowed := true }
def FnExactFieldMeanUptoSaid : Prop := fnExactFieldMeanUptoRow.holds Try.pinned (OpenSpec.upto fnExactFieldMeanSpec)

/-- 'laws.FnEverySetting', WHERE WHAT IT READS IS OF BULK AT MOST 1048576: true; the input reads as it did. -/
def fnEverySettingUptoRow : OpenClaim := { program := "ytejkdiinohndiaa", sum := "08f1ec1aae88a1dc39eaf9a693c1336b2f171edb09e9266499115d4f84db59f6", func := "loop.example/g01301/laws.FnEverySetting", spec := "fnEverySetting", apart := false, narrowed := true }
def FnEverySettingUptoSaid : Prop := fnEverySettingUptoRow.holds Try.pinned (OpenSpec.upto fnEverySettingSpec)

/-- 'laws.FnExactSettingFor', WHERE WHAT IT READS IS OF BULK AT MOST 1048576: true; the input reads as it did. -/
def fnExactSettingForUptoRow : OpenClaim := { program := "ytejkdiinohndiaa", sum := "08f1ec1aae88a1dc39eaf9a693c1336b2f171edb09e9266499115d4f84db59f6", func := "loop.example/g01301/laws.FnExactSettingFor", spec := "fnExactSettingFor", apart := false, narrowed := true }
def FnExactSettingForUptoSaid : Prop := fnExactSettingForUptoRow.holds Try.pinned (OpenSpec.upto fnExactSettingForSpec)

/-- 'laws.FnExactZonesOf', WHERE WHAT IT READS IS OF BULK AT MOST 1048576: true; the input reads as it did. -/
def fnExactZonesOfUptoRow : OpenClaim := { program := "ytejkdiinohndiaa", sum := "08f1ec1aae88a1dc39eaf9a693c1336b2f171edb09e9266499115d4f84db59f6", func := "loop.example/g01301/laws.FnExactZonesOf", spec := "fnExactZonesOf", unfollowed := true, recurses := true, apart := false, narrowed := true }
def FnExactZonesOfUptoSaid : Prop := fnExactZonesOfUptoRow.holds Try.pinned (OpenSpec.upto fnExactZonesOfSpec)

/-- 'laws.FnExactDevelopBy', WHERE WHAT IT READS IS OF BULK AT MOST 1048576: true; the input reads as it did. -/
def fnExactDevelopByUptoRow : OpenClaim := { program := "ytejkdiinohndiaa", sum := "08f1ec1aae88a1dc39eaf9a693c1336b2f171edb09e9266499115d4f84db59f6", func := "loop.example/g01301/laws.FnExactDevelopBy", spec := "fnExactDevelopBy", unfollowed := true, recurses := true, apart := false, narrowed := true }
def FnExactDevelopByUptoSaid : Prop := fnExactDevelopByUptoRow.holds Try.pinned (OpenSpec.upto fnExactDevelopBySpec)

/-- 'laws.FnExactOffScale', WHERE WHAT IT READS IS OF BULK AT MOST 1048576: true; the input reads as it did. -/
def fnExactOffScaleUptoRow : OpenClaim := { program := "ytejkdiinohndiaa", sum := "08f1ec1aae88a1dc39eaf9a693c1336b2f171edb09e9266499115d4f84db59f6", func := "loop.example/g01301/laws.FnExactOffScale", spec := "fnExactOffScale", unfollowed := true, recurses := true, apart := false, narrowed := true }
def FnExactOffScaleUptoSaid : Prop := fnExactOffScaleUptoRow.holds Try.pinned (OpenSpec.upto fnExactOffScaleSpec)

/-- 'laws.FnExactBrighterField', WHERE WHAT IT READS IS OF BULK AT MOST 1048576: true; the input reads as it did. -/
def fnExactBrighterFieldUptoRow : OpenClaim := { program := "ytejkdiinohndiaa", sum := "08f1ec1aae88a1dc39eaf9a693c1336b2f171edb09e9266499115d4f84db59f6", func := "loop.example/g01301/laws.FnExactBrighterField", spec := "fnExactBrighterField", unfollowed := true, recurses := true, apart := false, narrowed := true }
def FnExactBrighterFieldUptoSaid : Prop := fnExactBrighterFieldUptoRow.holds Try.pinned (OpenSpec.upto fnExactBrighterFieldSpec)

/-- 'laws.FnExactBestPlacement', WHERE WHAT IT READS IS OF BULK AT MOST 1048576: true; the input reads as it did. -/
def fnExactBestPlacementUptoRow : OpenClaim := { program := "ytejkdiinohndiaa", sum := "08f1ec1aae88a1dc39eaf9a693c1336b2f171edb09e9266499115d4f84db59f6", func := "loop.example/g01301/laws.FnExactBestPlacement", spec := "fnExactBestPlacement", unfollowed := true, recurses := true, apart := false, narrowed := true }
def FnExactBestPlacementUptoSaid : Prop := fnExactBestPlacementUptoRow.holds Try.pinned (OpenSpec.upto fnExactBestPlacementSpec)

/-- 'laws.FnExactCountZones', WHERE WHAT IT READS IS OF BULK AT MOST 1048576: true; the input reads as it did. -/
def fnExactCountZonesUptoRow : OpenClaim := { program := "ytejkdiinohndiaa", sum := "08f1ec1aae88a1dc39eaf9a693c1336b2f171edb09e9266499115d4f84db59f6", func := "loop.example/g01301/laws.FnExactCountZones", spec := "fnExactCountZones", unfollowed := true, recurses := true, apart := false, narrowed := true }
def FnExactCountZonesUptoSaid : Prop := fnExactCountZonesUptoRow.holds Try.pinned (OpenSpec.upto fnExactCountZonesSpec)

/-- 'laws.FnExactAlikeFields', WHERE WHAT IT READS IS OF BULK AT MOST 1048576: true; the input reads as it did. -/
def fnExactAlikeFieldsUptoRow : OpenClaim := { program := "ytejkdiinohndiaa", sum := "08f1ec1aae88a1dc39eaf9a693c1336b2f171edb09e9266499115d4f84db59f6", func := "loop.example/g01301/laws.FnExactAlikeFields", spec := "fnExactAlikeFields", unfollowed := true, recurses := true, apart := false, narrowed := true }
def FnExactAlikeFieldsUptoSaid : Prop := fnExactAlikeFieldsUptoRow.holds Try.pinned (OpenSpec.upto fnExactAlikeFieldsSpec)

/-- 'laws.FnContrast', WHERE WHAT IT READS IS OF BULK AT MOST 1048576: true; the input reads as it did. -/
def fnContrastUptoRow : OpenClaim := { program := "ytejkdiinohndiaa", sum := "08f1ec1aae88a1dc39eaf9a693c1336b2f171edb09e9266499115d4f84db59f6", func := "loop.example/g01301/laws.FnContrast", spec := "fnContrast", unfollowed := true, recurses := true, apart := false, narrowed := true }
def FnContrastUptoSaid : Prop := fnContrastUptoRow.holds Try.pinned (OpenSpec.upto fnContrastSpec)

/-- 'laws.FnZones', WHERE WHAT IT READS IS OF BULK AT MOST 1048576: true; the input reads as it did. -/
def fnZonesUptoRow : OpenClaim := { program := "ytejkdiinohndiaa", sum := "08f1ec1aae88a1dc39eaf9a693c1336b2f171edb09e9266499115d4f84db59f6", func := "loop.example/g01301/laws.FnZones", spec := "fnZones", unfollowed := true, recurses := true, apart := false, narrowed := true }
def FnZonesUptoSaid : Prop := fnZonesUptoRow.holds Try.pinned (OpenSpec.upto fnZonesSpec)

/-- 'laws.FnExactMedianReading', WHERE WHAT IT READS IS OF BULK AT MOST 1048576: true; the input reads as it did. -/
def fnExactMedianReadingUptoRow : OpenClaim := { program := "ytejkdiinohndiaa", sum := "08f1ec1aae88a1dc39eaf9a693c1336b2f171edb09e9266499115d4f84db59f6", func := "loop.example/g01301/laws.FnExactMedianReading", spec := "fnExactMedianReading", unfollowed := true, recurses := true, apart := false, narrowed := true }
def FnExactMedianReadingUptoSaid : Prop := fnExactMedianReadingUptoRow.holds Try.pinned (OpenSpec.upto fnExactMedianReadingSpec)

/-- 'laws.FnExactContrastOf', WHERE WHAT IT READS IS OF BULK AT MOST 1048576: true; the input reads as it did. -/
def fnExactContrastOfUptoRow : OpenClaim := { program := "ytejkdiinohndiaa", sum := "08f1ec1aae88a1dc39eaf9a693c1336b2f171edb09e9266499115d4f84db59f6", func := "loop.example/g01301/laws.FnExactContrastOf", spec := "fnExactContrastOf", unfollowed := true, recurses := true, apart := false, narrowed := true }
def FnExactContrastOfUptoSaid : Prop := fnExactContrastOfUptoRow.holds Try.pinned (OpenSpec.upto fnExactContrastOfSpec)

end Rows
end Go.Proofs.Ytejkdiinohndiaa
