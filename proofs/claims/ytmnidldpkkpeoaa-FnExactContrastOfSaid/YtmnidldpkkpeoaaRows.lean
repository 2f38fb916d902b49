/-
  No cell of these rows narrows 'for every input' (looked for: loops, veiled, ifaces, maps, wideKeys, modest, calm, conditions, laid).
  DERIVED. THE GIVEN ROWS OF THIS SEAT. 5 by the template 'for every input the law returns true; each argument reads behind the call as it read before'; 0 by the template 'total and deterministic' (their statements: YtmnidldpkkpeoaaTotals.lean).
  GIVEN WITH THE SEED: the statements are not yours to turn. If you find one false, say at which input.
  Laid BY PROGRAM, IN A SANDBOX (cutbox-rows.mjs): the forced cells as the released guide's own fill.sh prints them over the translation 343e16c8c7a60469… (all of the seat's roots in one cut). By AI agents, Wed Nov 11 2026. No macro, syntax, notation, axiom, sorry.
-/
import Derived.Test.YtmnidldpkkpeoaaChecked
import GoSem.Claim
import GoSem.ClaimJoined
import GoSem.ClaimMapViews
import Derived.JoinedTies
import Derived.KernelRfl
namespace Go.Proofs.Ytmnidldpkkpeoaa
/- THE CELL 'sum', in the pinned program and in every row, IS THE sha256 OF THE DUMP (.gsa) THAT YtmnidldpkkpeoaaProg.lean LOADS. Nothing in Lean hashes anything: it is a label: what it is worth is what the hold of that sum in a sandbox is worth. -/
noncomputable def Try.pinned : Pinned := { name := "ytmnidldpkkpeoaa", sum := "343e16c8c7a60469686ce4e980b9a000db1491decd0cc772ce314bf25bddd5ab", checked := Try.checked }
namespace Rows
def none {H : Type} : Left H := { results := [], args := [] }

/-- 'laws.FnExactAlikeFields': WHATEVER THE INPUT: true; the input reads as it did. -/
def fnExactAlikeFieldsSpec : ChangeSpec := { name := "fnExactAlikeFields", fn := fun _ => fun
  | [d1, d2] => { results := [.lit (.bool true)], args := [d1, d2] }
  | _ => none }
def fnExactAlikeFieldsRow : OpenClaim := { program := "ytmnidldpkkpeoaa", sum := "343e16c8c7a60469686ce4e980b9a000db1491decd0cc772ce314bf25bddd5ab", func := "loop.example/g01301/laws.FnExactAlikeFields", spec := "fnExactAlikeFields", unfollowed := true, recurses := true, apart := false }
def FnExactAlikeFieldsSaid : Prop := fnExactAlikeFieldsRow.holds Try.pinned (OpenSpec.ofChange fnExactAlikeFieldsSpec)

/-- ITS FALSE NEIGHBOUR: 'it returns false'. Refute it at one input. -/
def fnExactAlikeFieldsWrong : ChangeSpec := { name := "fnExactAlikeFields", fn := fun _ => fun
  | [d1, d2] => { results := [.lit (.bool false)], args := [d1, d2] }
  | _ => none }
def FnExactAlikeFieldsWrongFalsely : Prop := fnExactAlikeFieldsRow.holds Try.pinned (OpenSpec.ofChange fnExactAlikeFieldsWrong)

/-- 'laws.FnContrast': WHATEVER THE INPUT: true; the input reads as it did. -/
def fnContrastSpec : ChangeSpec := { name := "fnContrast", fn := fun _ => fun
  | [d1, d2] => { results := [.lit (.bool true)], args := [d1, d2] }
  | _ => none }
def fnContrastRow : OpenClaim := { program := "ytmnidldpkkpeoaa", sum := "343e16c8c7a60469686ce4e980b9a000db1491decd0cc772ce314bf25bddd5ab", func := "loop.example/g01301/laws.FnContrast", spec := "fnContrast", unfollowed := true, recurses := true, apart := false }
def FnContrastSaid : Prop := fnContrastRow.holds Try.pinned (OpenSpec.ofChange fnContrastSpec)

/-- ITS FALSE NEIGHBOUR: 'it returns false'. Refute it at one input. -/
def fnContrastWrong : ChangeSpec := { name := "fnContrast", fn := fun _ => fun
  | [d1, d2] => { results := [.lit (.bool false)], args := [d1, d2] }
  | _ => none }
def FnContrastWrongFalsely : Prop := fnContrastRow.holds Try.pinned (OpenSpec.ofChange fnContrastWrong)

/-- 'laws.FnZones': WHATEVER THE INPUT: true; the input reads as it did. -/
def fnZonesSpec : ChangeSpec := { name := "fnZones", fn := fun _ => fun
  | [d1, d2] => { results := [.lit (.bool true)], args := [d1, d2] }
  | _ => none }
def fnZonesRow : OpenClaim := { program := "ytmnidldpkkpeoaa", sum := "343e16c8c7a60469686ce4e980b9a000db1491decd0cc772ce314bf25bddd5ab", func := "loop.example/g01301/laws.FnZones", spec := "fnZones", unfollowed := true, recurses := true, apart := false }
def FnZonesSaid : Prop := fnZonesRow.holds Try.pinned (OpenSpec.ofChange fnZonesSpec)

/-- ITS FALSE NEIGHBOUR: 'it returns false'. Refute it at one input. -/
def fnZonesWrong : ChangeSpec := { name := "fnZones", fn := fun _ => fun
  | [d1, d2] => { results := [.lit (.bool false)], args := [d1, d2] }
  | _ => none }
def FnZonesWrongFalsely : Prop := fnZonesRow.holds Try.pinned (OpenSpec.ofChange fnZonesWrong)

/-- 'laws.FnExactMedianReading': WHATEVER THE INPUT: true; the input reads as it did. -/
def fnExactMedianReadingSpec : ChangeSpec := { name := "fnExactMedianReading", fn := fun _ => fun
  | [d] => { results := [.lit (.bool true)], args := [d] }
  | _ => none }
def fnExactMedianReadingRow : OpenClaim := { program := "ytmnidldpkkpeoaa", sum := "343e16c8c7a60469686ce4e980b9a000db1491decd0cc772ce314bf25bddd5ab", func := "loop.example/g01301/laws.FnExactMedianReading", spec := "fnExactMedianReading", unfollowed := true, recurses := true, apart := false }
def FnExactMedianReadingSaid : Prop := fnExactMedianReadingRow.holds Try.pinned (OpenSpec.ofChange fnExactMedianReadingSpec)

/-- ITS FALSE NEIGHBOUR: 'it returns false'. Refute it at one input. -/
def fnExactMedianReadingWrong : ChangeSpec := { name := "fnExactMedianReading", fn := fun _ => fun
  | [d] => { results := [.lit (.bool false)], args := [d] }
  | _ => none }
def FnExactMedianReadingWrongFalsely : Prop := fnExactMedianReadingRow.holds Try.pinned (OpenSpec.ofChange fnExactMedianReadingWrong)

/-- 'laws.FnExactContrastOf': WHATEVER THE INPUT: true; the input reads as it did. -/
def fnExactContrastOfSpec : ChangeSpec := { name := "fnExactContrastOf", fn := fun _ => fun
  | [d1, d2, d3] => { results := [.lit (.bool true)], args := [d1, d2, d3] }
  | _ => none }
def fnExactContrastOfRow : OpenClaim := { program := "ytmnidldpkkpeoaa", sum := "343e16c8c7a60469686ce4e980b9a000db1491decd0cc772ce314bf25bddd5ab", func := "loop.example/g01301/laws.FnExactContrastOf", spec := "fnExactContrastOf", unfollowed := true, recurses := true, apart := false }
def FnExactContrastOfSaid : Prop := fnExactContrastOfRow.holds Try.pinned (OpenSpec.ofChange fnExactContrastOfSpec)

/-- ITS FALSE NEIGHBOUR: 'it returns false'. Refute it at one input. -/
def fnExactContrastOfWrong : ChangeSpec := { name := "fnExactContrastOf", fn := fun _ => fun
  | [d1, d2, d3] => { results := [.lit (.bool false)], args := [d1, d2, d3] }
  | _ => none }
def FnExactContrastOfWrongFalsely : Prop := fnExactContrastOfRow.holds Try.pinned (OpenSpec.ofChange fnExactContrastOfWrong)

/- THE SECOND FORM. 'bulk': how many values and letters a reading holds, each counted each time it is reached (what is shared counts as often as it is met; a slice's spare places count too). A statement '..UptoSaid' is the law's where the arguments, and the package variables that the reading takes, are together of bulk at most 1048576: NARROWER than '..Said'. Prove '..Said' where nothing that the law and all that it calls make is longer than what came in: it says more and counts as full. Else prove '..UptoSaid'. A law counts once. -/
mutual
def uptoBulk {H : Type} : DataW H → Nat
  | .lit (.string bytes) => bytes.length + 1
  | .lit _ => 1
  | .nil => 1
  | .ptr d => uptoBulk d + 1
  | .slice elems spare => uptoBulkAll elems + uptoBulkAll spare + 1
  | .agg parts => uptoBulkAll parts + 1
  | .iface _ d => uptoBulk d + 1
  | .map entries => uptoBulkEntries entries + 1
  | .held _ => 1
def uptoBulkAll {H : Type} : List (DataW H) → Nat
  | [] => 0
  | d :: r => uptoBulk d + uptoBulkAll r
def uptoBulkEntries {H : Type} : List (Lit × DataW H) → Nat
  | [] => 0
  | x :: r => uptoBulkEntry x + uptoBulkEntries r
def uptoBulkEntry {H : Type} : Lit × DataW H → Nat
  | (.string bytes, d) => bytes.length + uptoBulk d + 1
  | (_, d) => uptoBulk d + 1
 end
def uptoSmall : (H : Type) → List (DataW H) → Bool := fun _ ds => decide (uptoBulkAll ds ≤ 1048576)
def OpenSpec.upto (s : _root_.Go.ChangeSpec) : _root_.Go.OpenSpec := { _root_.Go.OpenSpec.ofChange s with cond := some uptoSmall }

/-- 'laws.FnExactAlikeFields', WHERE WHAT IT READS IS OF BULK AT MOST 1048576: true; the input reads as it did. -/
def fnExactAlikeFieldsUptoRow : OpenClaim := { program := "ytmnidldpkkpeoaa", sum := "343e16c8c7a60469686ce4e980b9a000db1491decd0cc772ce314bf25bddd5ab", func := "loop.example/g01301/laws.FnExactAlikeFields", spec := "fnExactAlikeFields", unfollowed := true, recurses := true, apart := false, narrowed := true }
def FnExactAlikeFieldsUptoSaid : Prop := fnExactAlikeFieldsUptoRow.holds Try.pinned (OpenSpec.upto fnExactAlikeFieldsSpec)

/-- 'laws.FnContrast', WHERE WHAT IT READS IS OF BULK AT MOST 1048576: true; the input reads as it did. -/
def fnContrastUptoRow : OpenClaim := { program := "ytmnidldpkkpeoaa", sum := "343e16c8c7a60469686ce4e980b9a000db1491decd0cc772ce314bf25bddd5ab", func := "loop.example/g01301/laws.FnContrast", spec := "fnContrast", unfollowed := true, recurses := true, apart := false, narrowed := true }
def FnContrastUptoSaid : Prop := fnContrastUptoRow.holds Try.pinned (OpenSpec.upto fnContrastSpec)

/-- 'laws.FnZones', WHERE WHAT IT READS IS OF BULK AT MOST 1048576: true; the input reads as it did. -/
def fnZonesUptoRow : OpenClaim := { program := "ytmnidldpkkpeoaa", sum := "343e16c8c7a60469686ce4e980b9a000db1491decd0cc772ce314bf25bddd5ab", func := "loop.example/g01301/laws.FnZones", spec := "fnZones", unfollowed := true, recurses := true, apart := false, narrowed := true }
def FnZonesUptoSaid : Prop := fnZonesUptoRow.holds Try.pinned (OpenSpec.upto fnZonesSpec)

/-- 'laws.FnExactMedianReading', WHERE WHAT IT READS IS OF BULK AT MOST 1048576: true; the input reads as it did. -/
def fnExactMedianReadingUptoRow : OpenClaim := { program := "ytmnidldpkkpeoaa", sum := "343e16c8c7a60469686ce4e980b9a000db1491decd0cc772ce314bf25bddd5ab", func := "loop.example/g01301/laws.FnExactMedianReading", spec := "fnExactMedianReading", unfollowed := true, recurses := true, apart := false, narrowed := true }
def FnExactMedianReadingUptoSaid : Prop := fnExactMedianReadingUptoRow.holds Try.pinned (OpenSpec.upto fnExactMedianReadingSpec)

/-- 'laws.FnExactContrastOf', WHERE WHAT IT READS IS OF BULK AT MOST 1048576: true; the input reads as it did. -/
def fnExactContrastOfUptoRow : OpenClaim := { program := "ytmnidldpkkpeoaa", sum := "343e16c8c7a60469686ce4e980b9a000db1491decd0cc772ce314bf25bddd5ab", func := "loop.example/g01301/laws.FnExactContrastOf", spec := "fnExactContrastOf", unfollowed := true, recurses := true, apart := false, narrowed := true }
def FnExactContrastOfUptoSaid : Prop := fnExactContrastOfUptoRow.holds Try.pinned (OpenSpec.upto fnExactContrastOfSpec)

end Rows
end Go.Proofs.Ytmnidldpkkpeoaa
