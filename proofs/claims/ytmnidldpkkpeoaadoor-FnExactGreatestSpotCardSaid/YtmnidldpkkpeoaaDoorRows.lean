/-
  NARROWER THAN 'FOR EVERY INPUT', by the rows' own cells (each row's printed sentence says how): FnExactGrowMask: laid · FnExactSpotsOf: laid · FnExactRoundsFor: laid · FnExactGreatestSpot: laid · FnExactRepairCells: laid · FnSpots: laid · FnExactSceneText: laid.
  DERIVED. THE GIVEN ROWS OF THIS SEAT. 7 by the template 'for every input the law returns true; each argument reads behind the call as it read before'; 0 by the template 'total and deterministic' (their statements: YtmnidldpkkpeoaaDoorTotals.lean).
  GIVEN WITH THE SEED: the statements are not yours to turn. If you find one false, say at which input.
  Laid BY PROGRAM, IN A SANDBOX (cutbox-rows.mjs): the forced cells as the released guide's own fill.sh prints them over the translation bae8f220f04f9be6… (all of the seat's roots in one cut). By AI agents, Wed Nov 11 2026. No macro, syntax, notation, axiom, sorry.
-/
import Derived.Test.YtmnidldpkkpeoaaDoorChecked
import GoSem.Claim
import GoSem.ClaimJoined
import GoSem.ClaimMapViews
import Derived.JoinedTies
import Derived.KernelRfl
namespace Go.Proofs.YtmnidldpkkpeoaaDoor
/- THE CELL 'sum', in the pinned program and in every row, IS THE sha256 OF THE DUMP (.gsa) THAT YtmnidldpkkpeoaaDoorProg.lean LOADS. Nothing in Lean hashes anything: it is a label: what it is worth is what the hold of that sum in a sandbox is worth. -/
noncomputable def Tryd.pinned : Pinned := { name := "ytmnidldpkkpeoaadoor", sum := "bae8f220f04f9be63b5229a4ddc03547e0be78ed5795356a5baf8c898b1cf7f8", checked := Tryd.checked }
namespace Rows
def none {H : Type} : Left H := { results := [], args := [] }

/- WHAT THE LISTED PACKAGE-LEVEL VARIABLES READ AS WHEN THE CALL BEGINS. Each datum BY PROGRAM (the guide's laid-datum.mjs) off the statement by which the dump's own 'gosem.cut.vars' lays the variable. In a bare row this is a premise. The card (YtmnidldpkkpeoaaDoorCards.lean) ties it to the program's text. -/
def laid_math_bits_deBruijn64tab {H : Type} : DataW H := .agg [.lit (.int .u8 0), .lit (.int .u8 1), .lit (.int .u8 56), .lit (.int .u8 2), .lit (.int .u8 57), .lit (.int .u8 49), .lit (.int .u8 28), .lit (.int .u8 3), .lit (.int .u8 61), .lit (.int .u8 58), .lit (.int .u8 42), .lit (.int .u8 50), .lit (.int .u8 38), .lit (.int .u8 29), .lit (.int .u8 17), .lit (.int .u8 4), .lit (.int .u8 62), .lit (.int .u8 47), .lit (.int .u8 59), .lit (.int .u8 36), .lit (.int .u8 45), .lit (.int .u8 43), .lit (.int .u8 51), .lit (.int .u8 22), .lit (.int .u8 53), .lit (.int .u8 39), .lit (.int .u8 33), .lit (.int .u8 30), .lit (.int .u8 24), .lit (.int .u8 18), .lit (.int .u8 12), .lit (.int .u8 5), .lit (.int .u8 63), .lit (.int .u8 55), .lit (.int .u8 48), .lit (.int .u8 27), .lit (.int .u8 60), .lit (.int .u8 41), .lit (.int .u8 37), .lit (.int .u8 16), .lit (.int .u8 46), .lit (.int .u8 35), .lit (.int .u8 44), .lit (.int .u8 21), .lit (.int .u8 52), .lit (.int .u8 32), .lit (.int .u8 23), .lit (.int .u8 11), .lit (.int .u8 54), .lit (.int .u8 26), .lit (.int .u8 40), .lit (.int .u8 15), .lit (.int .u8 34), .lit (.int .u8 20), .lit (.int .u8 31), .lit (.int .u8 10), .lit (.int .u8 25), .lit (.int .u8 14), .lit (.int .u8 19), .lit (.int .u8 9), .lit (.int .u8 13), .lit (.int .u8 8), .lit (.int .u8 7), .lit (.int .u8 6)]
def laid_math_bits_deBruijn32tab {H : Type} : DataW H := .agg [.lit (.int .u8 0), .lit (.int .u8 1), .lit (.int .u8 28), .lit (.int .u8 2), .lit (.int .u8 29), .lit (.int .u8 14), .lit (.int .u8 24), .lit (.int .u8 3), .lit (.int .u8 30), .lit (.int .u8 22), .lit (.int .u8 20), .lit (.int .u8 15), .lit (.int .u8 25), .lit (.int .u8 17), .lit (.int .u8 4), .lit (.int .u8 8), .lit (.int .u8 31), .lit (.int .u8 27), .lit (.int .u8 13), .lit (.int .u8 23), .lit (.int .u8 21), .lit (.int .u8 19), .lit (.int .u8 16), .lit (.int .u8 7), .lit (.int .u8 26), .lit (.int .u8 12), .lit (.int .u8 18), .lit (.int .u8 6), .lit (.int .u8 11), .lit (.int .u8 5), .lit (.int .u8 10), .lit (.int .u8 9)]
def laid_internal_strconv_uint64pow10 {H : Type} : DataW H := .agg [.lit (.int .u64 1), .lit (.int .u64 10), .lit (.int .u64 100), .lit (.int .u64 1000), .lit (.int .u64 10000), .lit (.int .u64 100000), .lit (.int .u64 1000000), .lit (.int .u64 10000000), .lit (.int .u64 100000000), .lit (.int .u64 1000000000), .lit (.int .u64 10000000000), .lit (.int .u64 100000000000), .lit (.int .u64 1000000000000), .lit (.int .u64 10000000000000), .lit (.int .u64 100000000000000), .lit (.int .u64 1000000000000000), .lit (.int .u64 10000000000000000), .lit (.int .u64 100000000000000000), .lit (.int .u64 1000000000000000000), .lit (.int .u64 10000000000000000000)]

/-- 'laws.FnExactGrowMask': WHATEVER THE INPUT: true; the input reads as it did. -/
def fnExactGrowMaskSpec : ChangeSpec := { name := "fnExactGrowMask", fn := fun _ => fun
  | [d] => { results := [.lit (.bool true)], args := [d] }
  | _ => none }
def fnExactGrowMaskRow : OpenClaim := { program := "ytmnidldpkkpeoaadoor", sum := "bae8f220f04f9be63b5229a4ddc03547e0be78ed5795356a5baf8c898b1cf7f8", func := "loop.example/g01301/laws.FnExactGrowMask", spec := "fnExactGrowMask", named := ["math/bits.deBruijn64tab"], apart := false, laid := [("math/bits.deBruijn64tab", laid_math_bits_deBruijn64tab)] }
def FnExactGrowMaskSaid : Prop := fnExactGrowMaskRow.holds Tryd.pinned (OpenSpec.ofChange fnExactGrowMaskSpec)

/-- ITS FALSE NEIGHBOUR: 'it returns false'. Refute it at one input. -/
def fnExactGrowMaskWrong : ChangeSpec := { name := "fnExactGrowMask", fn := fun _ => fun
  | [d] => { results := [.lit (.bool false)], args := [d] }
  | _ => none }
def FnExactGrowMaskWrongFalsely : Prop := fnExactGrowMaskRow.holds Tryd.pinned (OpenSpec.ofChange fnExactGrowMaskWrong)

/-- 'laws.FnExactSpotsOf': WHATEVER THE INPUT: true; the input reads as it did. -/
def fnExactSpotsOfSpec : ChangeSpec := { name := "fnExactSpotsOf", fn := fun _ => fun
  | [d] => { results := [.lit (.bool true)], args := [d] }
  | _ => none }
def fnExactSpotsOfRow : OpenClaim := { program := "ytmnidldpkkpeoaadoor", sum := "bae8f220f04f9be63b5229a4ddc03547e0be78ed5795356a5baf8c898b1cf7f8", func := "loop.example/g01301/laws.FnExactSpotsOf", spec := "fnExactSpotsOf", named := ["math/bits.deBruijn64tab"], apart := false, laid := [("math/bits.deBruijn64tab", laid_math_bits_deBruijn64tab)] }
def FnExactSpotsOfSaid : Prop := fnExactSpotsOfRow.holds Tryd.pinned (OpenSpec.ofChange fnExactSpotsOfSpec)

/-- ITS FALSE NEIGHBOUR: 'it returns false'. Refute it at one input. -/
def fnExactSpotsOfWrong : ChangeSpec := { name := "fnExactSpotsOf", fn := fun _ => fun
  | [d] => { results := [.lit (.bool false)], args := [d] }
  | _ => none }
def FnExactSpotsOfWrongFalsely : Prop := fnExactSpotsOfRow.holds Tryd.pinned (OpenSpec.ofChange fnExactSpotsOfWrong)

/-- 'laws.FnExactRoundsFor': WHATEVER THE INPUT: true; the input reads as it did. -/
def fnExactRoundsForSpec : ChangeSpec := { name := "fnExactRoundsFor", fn := fun _ => fun
  | [d] => { results := [.lit (.bool true)], args := [d] }
  | _ => none }
def fnExactRoundsForRow : OpenClaim := { program := "ytmnidldpkkpeoaadoor", sum := "bae8f220f04f9be63b5229a4ddc03547e0be78ed5795356a5baf8c898b1cf7f8", func := "loop.example/g01301/laws.FnExactRoundsFor", spec := "fnExactRoundsFor", named := ["math/bits.deBruijn64tab"], apart := false, laid := [("math/bits.deBruijn64tab", laid_math_bits_deBruijn64tab)] }
def FnExactRoundsForSaid : Prop := fnExactRoundsForRow.holds Tryd.pinned (OpenSpec.ofChange fnExactRoundsForSpec)

/-- ITS FALSE NEIGHBOUR: 'it returns false'. Refute it at one input. -/
def fnExactRoundsForWrong : ChangeSpec := { name := "fnExactRoundsFor", fn := fun _ => fun
  | [d] => { results := [.lit (.bool false)], args := [d] }
  | _ => none }
def FnExactRoundsForWrongFalsely : Prop := fnExactRoundsForRow.holds Tryd.pinned (OpenSpec.ofChange fnExactRoundsForWrong)

/-- 'laws.FnExactGreatestSpot': WHATEVER THE INPUT: true; the input reads as it did. -/
def fnExactGreatestSpotSpec : ChangeSpec := { name := "fnExactGreatestSpot", fn := fun _ => fun
  | [d] => { results := [.lit (.bool true)], args := [d] }
  | _ => none }
def fnExactGreatestSpotRow : OpenClaim := { program := "ytmnidldpkkpeoaadoor", sum := "bae8f220f04f9be63b5229a4ddc03547e0be78ed5795356a5baf8c898b1cf7f8", func := "loop.example/g01301/laws.FnExactGreatestSpot", spec := "fnExactGreatestSpot", named := ["math/bits.deBruijn64tab"], apart := false, laid := [("math/bits.deBruijn64tab", laid_math_bits_deBruijn64tab)] }
def FnExactGreatestSpotSaid : Prop := fnExactGreatestSpotRow.holds Tryd.pinned (OpenSpec.ofChange fnExactGreatestSpotSpec)

/-- ITS FALSE NEIGHBOUR: 'it returns false'. Refute it at one input. -/
def fnExactGreatestSpotWrong : ChangeSpec := { name := "fnExactGreatestSpot", fn := fun _ => fun
  | [d] => { results := [.lit (.bool false)], args := [d] }
  | _ => none }
def FnExactGreatestSpotWrongFalsely : Prop := fnExactGreatestSpotRow.holds Tryd.pinned (OpenSpec.ofChange fnExactGreatestSpotWrong)

/-- 'laws.FnExactRepairCells': WHATEVER THE INPUT: true; the input reads as it did. -/
def fnExactRepairCellsSpec : ChangeSpec := { name := "fnExactRepairCells", fn := fun _ => fun
  | [d1, d2] => { results := [.lit (.bool true)], args := [d1, d2] }
  | _ => none }
def fnExactRepairCellsRow : OpenClaim := { program := "ytmnidldpkkpeoaadoor", sum := "bae8f220f04f9be63b5229a4ddc03547e0be78ed5795356a5baf8c898b1cf7f8", func := "loop.example/g01301/laws.FnExactRepairCells", spec := "fnExactRepairCells", named := ["math/bits.deBruijn64tab"], apart := false, laid := [("math/bits.deBruijn64tab", laid_math_bits_deBruijn64tab)] }
def FnExactRepairCellsSaid : Prop := fnExactRepairCellsRow.holds Tryd.pinned (OpenSpec.ofChange fnExactRepairCellsSpec)

/-- ITS FALSE NEIGHBOUR: 'it returns false'. Refute it at one input. -/
def fnExactRepairCellsWrong : ChangeSpec := { name := "fnExactRepairCells", fn := fun _ => fun
  | [d1, d2] => { results := [.lit (.bool false)], args := [d1, d2] }
  | _ => none }
def FnExactRepairCellsWrongFalsely : Prop := fnExactRepairCellsRow.holds Tryd.pinned (OpenSpec.ofChange fnExactRepairCellsWrong)

/-- 'laws.FnSpots': WHATEVER THE INPUT: true; the input reads as it did. -/
def fnSpotsSpec : ChangeSpec := { name := "fnSpots", fn := fun _ => fun
  | [d1, d2] => { results := [.lit (.bool true)], args := [d1, d2] }
  | _ => none }
def fnSpotsRow : OpenClaim := { program := "ytmnidldpkkpeoaadoor", sum := "bae8f220f04f9be63b5229a4ddc03547e0be78ed5795356a5baf8c898b1cf7f8", func := "loop.example/g01301/laws.FnSpots", spec := "fnSpots", named := ["math/bits.deBruijn64tab"], apart := false, laid := [("math/bits.deBruijn64tab", laid_math_bits_deBruijn64tab)] }
def FnSpotsSaid : Prop := fnSpotsRow.holds Tryd.pinned (OpenSpec.ofChange fnSpotsSpec)

/-- ITS FALSE NEIGHBOUR: 'it returns false'. Refute it at one input. -/
def fnSpotsWrong : ChangeSpec := { name := "fnSpots", fn := fun _ => fun
  | [d1, d2] => { results := [.lit (.bool false)], args := [d1, d2] }
  | _ => none }
def FnSpotsWrongFalsely : Prop := fnSpotsRow.holds Tryd.pinned (OpenSpec.ofChange fnSpotsWrong)

/-- 'laws.FnExactSceneText': WHATEVER THE INPUT: true; the input reads as it did. -/
def fnExactSceneTextSpec : ChangeSpec := { name := "fnExactSceneText", fn := fun _ => fun
  | [d] => { results := [.lit (.bool true)], args := [d] }
  | _ => none }
def fnExactSceneTextRow : OpenClaim := { program := "ytmnidldpkkpeoaadoor", sum := "bae8f220f04f9be63b5229a4ddc03547e0be78ed5795356a5baf8c898b1cf7f8", func := "loop.example/g01301/laws.FnExactSceneText", spec := "fnExactSceneText", inPlace := ["internal/abi.NoEscape", "internal/bytealg.MakeNoZero"], unfollowed := true, recurses := true, named := ["internal/strconv.uint64pow10", "math/bits.deBruijn32tab", "math/bits.deBruijn64tab"], apart := false, laid := [("math/bits.deBruijn32tab", laid_math_bits_deBruijn32tab), ("math/bits.deBruijn64tab", laid_math_bits_deBruijn64tab), ("internal/strconv.uint64pow10", laid_internal_strconv_uint64pow10)] }
def FnExactSceneTextSaid : Prop := fnExactSceneTextRow.holds Tryd.pinned (OpenSpec.ofChange fnExactSceneTextSpec)

/-- ITS FALSE NEIGHBOUR: 'it returns false'. Refute it at one input. -/
def fnExactSceneTextWrong : ChangeSpec := { name := "fnExactSceneText", fn := fun _ => fun
  | [d] => { results := [.lit (.bool false)], args := [d] }
  | _ => none }
def FnExactSceneTextWrongFalsely : Prop := fnExactSceneTextRow.holds Tryd.pinned (OpenSpec.ofChange fnExactSceneTextWrong)

/- THE SECOND FORM. 'bulk': how many values and letters a reading holds, each counted each time it is reached (what is shared counts as often as it is met; a slice's spare places count too). A statement '..UptoSaid' is the law's where the arguments, and the package variables that the reading takes, are together of bulk at most 1048576: NARROWER than '..Said'. Prove '..Said' where nothing that the law and all that it calls make is longer than what came in: it says more and counts as full. Else prove '..UptoSaid'. A law counts once. -/
mutual
def uptoBulk {H : Type} : DataW H → Nat
  | .lit (.string bytes) => bytes.length + 1
  | .lit _ => 1
  | .nil => 1
  | .ptr d => uptoBulk d + 1
  | .slice elems spare => uptoBulkAll elems + uptoBulkAll spare + 1
  | .agg parts => uptoBulkAll parts + 1
  | .iface _ d => uptoBulk d + 1
  | .map entries => uptoBulkEntries entries + 1
  | .held _ => 1
def uptoBulkAll {H : Type} : List (DataW H) → Nat
  | [] => 0
  | d :: r => uptoBulk d + uptoBulkAll r
def uptoBulkEntries {H : Type} : List (Lit × DataW H) → Nat
  | [] => 0
  | x :: r => uptoBulkEntry x + uptoBulkEntries r
def uptoBulkEntry {H : Type} : Lit × DataW H → Nat
  | (.string bytes, d) => bytes.length + uptoBulk d + 1
  | (_, d) => uptoBulk d + 1
 end
def uptoSmall : (H : Type) → List (DataW H) → Bool := fun _ ds => decide (uptoBulkAll ds ≤ 1048576)
def OpenSpec.upto (s : _root_.Go.ChangeSpec) : _root_.Go.OpenSpec := { _root_.Go.OpenSpec.ofChange s with cond := some uptoSmall }

/-- 'laws.FnExactGrowMask', WHERE WHAT IT READS IS OF BULK AT MOST 1048576: true; the input reads as it did. -/
def fnExactGrowMaskUptoRow : OpenClaim := { program := "ytmnidldpkkpeoaadoor", sum := "bae8f220f04f9be63b5229a4ddc03547e0be78ed5795356a5baf8c898b1cf7f8", func := "loop.example/g01301/laws.FnExactGrowMask", spec := "fnExactGrowMask", named := ["math/bits.deBruijn64tab"], apart := false, laid := [("math/bits.deBruijn64tab", laid_math_bits_deBruijn64tab)], narrowed := true }
def FnExactGrowMaskUptoSaid : Prop := fnExactGrowMaskUptoRow.holds Tryd.pinned (OpenSpec.upto fnExactGrowMaskSpec)

/-- 'laws.FnExactSpotsOf', WHERE WHAT IT READS IS OF BULK AT MOST 1048576: true; the input reads as it did. -/
def fnExactSpotsOfUptoRow : OpenClaim := { program := "ytmnidldpkkpeoaadoor", sum := "bae8f220f04f9be63b5229a4ddc03547e0be78ed5795356a5baf8c898b1cf7f8", func := "loop.example/g01301/laws.FnExactSpotsOf", spec := "fnExactSpotsOf", named := ["math/bits.deBruijn64tab"], apart := false, laid := [("math/bits.deBruijn64tab", laid_math_bits_deBruijn64tab)], narrowed := true }
def FnExactSpotsOfUptoSaid : Prop := fnExactSpotsOfUptoRow.holds Tryd.pinned (OpenSpec.upto fnExactSpotsOfSpec)

/-- 'laws.FnExactRoundsFor', WHERE WHAT IT READS IS OF BULK AT MOST 1048576: true; the input reads as it did. -/
def fnExactRoundsForUptoRow : OpenClaim := { program := "ytmnidldpkkpeoaadoor", sum := "bae8f220f04f9be63b5229a4ddc03547e0be78ed5795356a5baf8c898b1cf7f8", func := "loop.example/g01301/laws.FnExactRoundsFor", spec := "fnExactRoundsFor", named := ["math/bits.deBruijn64tab"], apart := false, laid := [("math/bits.deBruijn64tab", laid_math_bits_deBruijn64tab)], narrowed := true }
def FnExactRoundsForUptoSaid : Prop := fnExactRoundsForUptoRow.holds Tryd.pinned (OpenSpec.upto fnExactRoundsForSpec)

/-- 'laws.FnExactGreatestSpot', WHERE WHAT IT READS IS OF BULK AT MOST 1048576: true; the input reads as it did. -/
def fnExactGreatestSpotUptoRow : OpenClaim := { program := "ytmnidldpkkpeoaadoor", sum := "bae8f220f04f9be63b5229a4ddc03547e0be78ed5795356a5baf8c898b1cf7f8", func := "loop.example/g01301/laws.FnExactGreatestSpot", spec := "fnExactGreatestSpot", named := ["math/bits.deBruijn64tab"], apart := false, laid := [("math/bits.deBruijn64tab", laid_math_bits_deBruijn64tab)], narrowed := true }
def FnExactGreatestSpotUptoSaid : Prop := fnExactGreatestSpotUptoRow.holds Tryd.pinned (OpenSpec.upto fnExactGreatestSpotSpec)

/-- 'laws.FnExactRepairCells', WHERE WHAT IT READS IS OF BULK AT MOST 1048576: true; the input reads as it did. -/
def fnExactRepairCellsUptoRow : OpenClaim := { program := "ytmnidldpkkpeoaadoor", sum := "bae8f220f04f9be63b5229a4ddc03547e0be78ed5795356a5baf8c898b1cf7f8", func := "loop.example/g01301/laws.FnExactRepairCells", spec := "fnExactRepairCells", named := ["math/bits.deBruijn64tab"], apart := false, laid := [("math/bits.deBruijn64tab", laid_math_bits_deBruijn64tab)], narrowed := true }
def FnExactRepairCellsUptoSaid : Prop := fnExactRepairCellsUptoRow.holds Tryd.pinned (OpenSpec.upto fnExactRepairCellsSpec)

/-- 'laws.FnSpots', WHERE WHAT IT READS IS OF BULK AT MOST 1048576: true; the input reads as it did. -/
def fnSpotsUptoRow : OpenClaim := { program := "ytmnidldpkkpeoaadoor", sum := "bae8f220f04f9be63b5229a4ddc03547e0be78ed5795356a5baf8c898b1cf7f8", func := "loop.example/g01301/laws.FnSpots", spec := "fnSpots", named := ["math/bits.deBruijn64tab"], apart := false, laid := [("math/bits.deBruijn64tab", laid_math_bits_deBruijn64tab)], narrowed := true }
def FnSpotsUptoSaid : Prop := fnSpotsUptoRow.holds Tryd.pinned (OpenSpec.upto fnSpotsSpec)

/-- 'laws.FnExactSceneText', WHERE WHAT IT READS IS OF BULK AT MOST 1048576: true; the input reads as it did. -/
def fnExactSceneTextUptoRow : OpenClaim := { program := "ytmnidldpkkpeoaadoor", sum := "bae8f220f04f9be63b5229a4ddc03547e0be78ed5795356a5baf8c898b1cf7f8", func := "loop.example/g01301/laws.FnExactSceneText", spec := "fnExactSceneText", inPlace := ["internal/abi.NoEscape", "internal/bytealg.MakeNoZero"], unfollowed := true, recurses := true, named := ["internal/strconv.uint64pow10", "math/bits.deBruijn32tab", "math/bits.deBruijn64tab"], apart := false, laid := [("math/bits.deBruijn32tab", laid_math_bits_deBruijn32tab), ("math/bits.deBruijn64tab", laid_math_bits_deBruijn64tab), ("internal/strconv.uint64pow10", laid_internal_strconv_uint64pow10)], narrowed := true }
def FnExactSceneTextUptoSaid : Prop := fnExactSceneTextUptoRow.holds Tryd.pinned (OpenSpec.upto fnExactSceneTextSpec)

end Rows
end Go.Proofs.YtmnidldpkkpeoaaDoor
