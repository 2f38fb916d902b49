/-
  No cell of these rows narrows 'for every input' (looked for: loops, veiled, ifaces, maps, wideKeys, modest, calm, conditions, laid).
  DERIVED. THE GIVEN ROWS OF THIS SEAT. 11 by the template 'for every input the law returns true; each argument reads behind the call as it read before'; 0 by the template 'total and deterministic' (their statements: YtnbbbmnjbfehmaaTotals.lean).
  GIVEN WITH THE SEED: the statements are not yours to turn. If you find one false, say at which input.
  Laid BY PROGRAM, IN A SANDBOX (cutbox-rows.mjs): the forced cells as the released guide's own fill.sh prints them over the translation b7546c973ea4e036… (all of the seat's roots in one cut). By AI agents, Wed Nov 11 2026. No macro, syntax, notation, axiom, sorry.
-/
import Derived.Test.YtnbbbmnjbfehmaaChecked
import GoSem.Claim
import GoSem.ClaimJoined
import GoSem.ClaimMapViews
import Derived.JoinedTies
import Derived.KernelRfl
namespace Go.Proofs.Ytnbbbmnjbfehmaa
/- THE CELL 'sum', in the pinned program and in every row, IS THE sha256 OF THE DUMP (.gsa) THAT YtnbbbmnjbfehmaaProg.lean LOADS. Nothing in Lean hashes anything: it is a label: what it is worth is what the hold of that sum in a sandbox is worth. -/
noncomputable def Try.pinned : Pinned := { name := "ytnbbbmnjbfehmaa", sum := "b7546c973ea4e0362922e091f99f093f2624faf498443c1df2658491a80d341f", checked := Try.checked }
namespace Rows
def none {H : Type} : Left H := { results := [], args := [] }

/-- 'laws.FnExactSameSheet': WHATEVER THE INPUT: true; the input reads as it did. -/
def fnExactSameSheetSpec : ChangeSpec := { name := "fnExactSameSheet", fn := fun _ => fun
  | [d1, d2] => { results := [.lit (.bool true)], args := [d1, d2] }
  | _ => none }
def fnExactSameSheetRow : OpenClaim := { program := "ytnbbbmnjbfehmaa", sum := "b7546c973ea4e0362922e091f99f093f2624faf498443c1df2658491a80d341f", func := "loop.example/g01301/laws.FnExactSameSheet", spec := "fnExactSameSheet", apart := false }
def FnExactSameSheetSaid : Prop := fnExactSameSheetRow.holds Try.pinned (OpenSpec.ofChange fnExactSameSheetSpec)

/-- ITS FALSE NEIGHBOUR: 'it returns false'. Refute it at one input. -/
def fnExactSameSheetWrong : ChangeSpec := { name := "fnExactSameSheet", fn := fun _ => fun
  | [d1, d2] => { results := [.lit (.bool false)], args := [d1, d2] }
  | _ => none }
def FnExactSameSheetWrongFalsely : Prop := fnExactSameSheetRow.holds Try.pinned (OpenSpec.ofChange fnExactSameSheetWrong)

/-- 'laws.FnExactValidSheet': WHATEVER THE INPUT: true; the input reads as it did. -/
def fnExactValidSheetSpec : ChangeSpec := { name := "fnExactValidSheet", fn := fun _ => fun
  | [d] => { results := [.lit (.bool true)], args := [d] }
  | _ => none }
def fnExactValidSheetRow : OpenClaim := { program := "ytnbbbmnjbfehmaa", sum := "b7546c973ea4e0362922e091f99f093f2624faf498443c1df2658491a80d341f", func := "loop.example/g01301/laws.FnExactValidSheet", spec := "fnExactValidSheet", unfollowed := true, recurses := true, apart := false }
def FnExactValidSheetSaid : Prop := fnExactValidSheetRow.holds Try.pinned (OpenSpec.ofChange fnExactValidSheetSpec)

/-- ITS FALSE NEIGHBOUR: 'it returns false'. Refute it at one input. -/
def fnExactValidSheetWrong : ChangeSpec := { name := "fnExactValidSheet", fn := fun _ => fun
  | [d] => { results := [.lit (.bool false)], args := [d] }
  | _ => none }
def FnExactValidSheetWrongFalsely : Prop := fnExactValidSheetRow.holds Try.pinned (OpenSpec.ofChange fnExactValidSheetWrong)

/-- 'laws.FnExactRowsOf': WHATEVER THE INPUT: true; the input reads as it did. -/
def fnExactRowsOfSpec : ChangeSpec := { name := "fnExactRowsOf", fn := fun _ => fun
  | [d] => { results := [.lit (.bool true)], args := [d] }
  | _ => none }
def fnExactRowsOfRow : OpenClaim := { program := "ytnbbbmnjbfehmaa", sum := "b7546c973ea4e0362922e091f99f093f2624faf498443c1df2658491a80d341f", func := "loop.example/g01301/laws.FnExactRowsOf", spec := "fnExactRowsOf", unfollowed := true, recurses := true, apart := false }
def FnExactRowsOfSaid : Prop := fnExactRowsOfRow.holds Try.pinned (OpenSpec.ofChange fnExactRowsOfSpec)

/-- ITS FALSE NEIGHBOUR: 'it returns false'. Refute it at one input. -/
def fnExactRowsOfWrong : ChangeSpec := { name := "fnExactRowsOf", fn := fun _ => fun
  | [d] => { results := [.lit (.bool false)], args := [d] }
  | _ => none }
def FnExactRowsOfWrongFalsely : Prop := fnExactRowsOfRow.holds Try.pinned (OpenSpec.ofChange fnExactRowsOfWrong)

/-- 'laws.FnExactFrameAt': WHATEVER THE INPUT: true; the input reads as it did. -/
def fnExactFrameAtSpec : ChangeSpec := { name := "fnExactFrameAt", fn := fun _ => fun
  | [d1, d2, d3] => { results := [.lit (.bool true)], args := [d1, d2, d3] }
  | _ => none }
def fnExactFrameAtRow : OpenClaim := { program := "ytnbbbmnjbfehmaa", sum := "b7546c973ea4e0362922e091f99f093f2624faf498443c1df2658491a80d341f", func := "loop.example/g01301/laws.FnExactFrameAt", spec := "fnExactFrameAt", unfollowed := true, recurses := true, apart := false }
def FnExactFrameAtSaid : Prop := fnExactFrameAtRow.holds Try.pinned (OpenSpec.ofChange fnExactFrameAtSpec)

/-- ITS FALSE NEIGHBOUR: 'it returns false'. Refute it at one input. -/
def fnExactFrameAtWrong : ChangeSpec := { name := "fnExactFrameAt", fn := fun _ => fun
  | [d1, d2, d3] => { results := [.lit (.bool false)], args := [d1, d2, d3] }
  | _ => none }
def FnExactFrameAtWrongFalsely : Prop := fnExactFrameAtRow.holds Try.pinned (OpenSpec.ofChange fnExactFrameAtWrong)

/-- 'laws.FnExactScratchIn': WHATEVER THE INPUT: true; the input reads as it did. -/
def fnExactScratchInSpec : ChangeSpec := { name := "fnExactScratchIn", fn := fun _ => fun
  | [d1, d2, d3] => { results := [.lit (.bool true)], args := [d1, d2, d3] }
  | _ => none }
def fnExactScratchInRow : OpenClaim := { program := "ytnbbbmnjbfehmaa", sum := "b7546c973ea4e0362922e091f99f093f2624faf498443c1df2658491a80d341f", func := "loop.example/g01301/laws.FnExactScratchIn", spec := "fnExactScratchIn", unfollowed := true, recurses := true, apart := false }
def FnExactScratchInSaid : Prop := fnExactScratchInRow.holds Try.pinned (OpenSpec.ofChange fnExactScratchInSpec)

/-- ITS FALSE NEIGHBOUR: 'it returns false'. Refute it at one input. -/
def fnExactScratchInWrong : ChangeSpec := { name := "fnExactScratchIn", fn := fun _ => fun
  | [d1, d2, d3] => { results := [.lit (.bool false)], args := [d1, d2, d3] }
  | _ => none }
def FnExactScratchInWrongFalsely : Prop := fnExactScratchInRow.holds Try.pinned (OpenSpec.ofChange fnExactScratchInWrong)

/-- 'laws.FnExactPlaceOf': WHATEVER THE INPUT: true; the input reads as it did. -/
def fnExactPlaceOfSpec : ChangeSpec := { name := "fnExactPlaceOf", fn := fun _ => fun
  | [d1, d2] => { results := [.lit (.bool true)], args := [d1, d2] }
  | _ => none }
def fnExactPlaceOfRow : OpenClaim := { program := "ytnbbbmnjbfehmaa", sum := "b7546c973ea4e0362922e091f99f093f2624faf498443c1df2658491a80d341f", func := "loop.example/g01301/laws.FnExactPlaceOf", spec := "fnExactPlaceOf", unfollowed := true, recurses := true, apart := false }
def FnExactPlaceOfSaid : Prop := fnExactPlaceOfRow.holds Try.pinned (OpenSpec.ofChange fnExactPlaceOfSpec)

/-- ITS FALSE NEIGHBOUR: 'it returns false'. Refute it at one input. -/
def fnExactPlaceOfWrong : ChangeSpec := { name := "fnExactPlaceOf", fn := fun _ => fun
  | [d1, d2] => { results := [.lit (.bool false)], args := [d1, d2] }
  | _ => none }
def FnExactPlaceOfWrongFalsely : Prop := fnExactPlaceOfRow.holds Try.pinned (OpenSpec.ofChange fnExactPlaceOfWrong)

/-- 'laws.FnExactDarkestFrame': WHATEVER THE INPUT: true; the input reads as it did. -/
def fnExactDarkestFrameSpec : ChangeSpec := { name := "fnExactDarkestFrame", fn := fun _ => fun
  | [d] => { results := [.lit (.bool true)], args := [d] }
  | _ => none }
def fnExactDarkestFrameRow : OpenClaim := { program := "ytnbbbmnjbfehmaa", sum := "b7546c973ea4e0362922e091f99f093f2624faf498443c1df2658491a80d341f", func := "loop.example/g01301/laws.FnExactDarkestFrame", spec := "fnExactDarkestFrame", unfollowed := true, recurses := true, apart := false }
def FnExactDarkestFrameSaid : Prop := fnExactDarkestFrameRow.holds Try.pinned (OpenSpec.ofChange fnExactDarkestFrameSpec)

/-- ITS FALSE NEIGHBOUR: 'it returns false'. Refute it at one input. -/
def fnExactDarkestFrameWrong : ChangeSpec := { name := "fnExactDarkestFrame", fn := fun _ => fun
  | [d] => { results := [.lit (.bool false)], args := [d] }
  | _ => none }
def FnExactDarkestFrameWrongFalsely : Prop := fnExactDarkestFrameRow.holds Try.pinned (OpenSpec.ofChange fnExactDarkestFrameWrong)

/-- 'laws.FnExactSwapFrames': WHATEVER THE INPUT: true; the input reads as it did. -/
def fnExactSwapFramesSpec : ChangeSpec := { name := "fnExactSwapFrames", fn := fun _ => fun
  | [d1, d2, d3] => { results := [.lit (.bool true)], args := [d1, d2, d3] }
  | _ => none }
def fnExactSwapFramesRow : OpenClaim := { program := "ytnbbbmnjbfehmaa", sum := "b7546c973ea4e0362922e091f99f093f2624faf498443c1df2658491a80d341f", func := "loop.example/g01301/laws.FnExactSwapFrames", spec := "fnExactSwapFrames", unfollowed := true, recurses := true, apart := false }
def FnExactSwapFramesSaid : Prop := fnExactSwapFramesRow.holds Try.pinned (OpenSpec.ofChange fnExactSwapFramesSpec)

/-- ITS FALSE NEIGHBOUR: 'it returns false'. Refute it at one input. -/
def fnExactSwapFramesWrong : ChangeSpec := { name := "fnExactSwapFrames", fn := fun _ => fun
  | [d1, d2, d3] => { results := [.lit (.bool false)], args := [d1, d2, d3] }
  | _ => none }
def FnExactSwapFramesWrongFalsely : Prop := fnExactSwapFramesRow.holds Try.pinned (OpenSpec.ofChange fnExactSwapFramesWrong)

/-- 'laws.FnExactDropFrame': WHATEVER THE INPUT: true; the input reads as it did. -/
def fnExactDropFrameSpec : ChangeSpec := { name := "fnExactDropFrame", fn := fun _ => fun
  | [d1, d2] => { results := [.lit (.bool true)], args := [d1, d2] }
  | _ => none }
def fnExactDropFrameRow : OpenClaim := { program := "ytnbbbmnjbfehmaa", sum := "b7546c973ea4e0362922e091f99f093f2624faf498443c1df2658491a80d341f", func := "loop.example/g01301/laws.FnExactDropFrame", spec := "fnExactDropFrame", unfollowed := true, recurses := true, apart := false }
def FnExactDropFrameSaid : Prop := fnExactDropFrameRow.holds Try.pinned (OpenSpec.ofChange fnExactDropFrameSpec)

/-- ITS FALSE NEIGHBOUR: 'it returns false'. Refute it at one input. -/
def fnExactDropFrameWrong : ChangeSpec := { name := "fnExactDropFrame", fn := fun _ => fun
  | [d1, d2] => { results := [.lit (.bool false)], args := [d1, d2] }
  | _ => none }
def FnExactDropFrameWrongFalsely : Prop := fnExactDropFrameRow.holds Try.pinned (OpenSpec.ofChange fnExactDropFrameWrong)

/-- 'laws.FnExactPickFrames': WHATEVER THE INPUT: true; the input reads as it did. -/
def fnExactPickFramesSpec : ChangeSpec := { name := "fnExactPickFrames", fn := fun _ => fun
  | [d1, d2] => { results := [.lit (.bool true)], args := [d1, d2] }
  | _ => none }
def fnExactPickFramesRow : OpenClaim := { program := "ytnbbbmnjbfehmaa", sum := "b7546c973ea4e0362922e091f99f093f2624faf498443c1df2658491a80d341f", func := "loop.example/g01301/laws.FnExactPickFrames", spec := "fnExactPickFrames", unfollowed := true, recurses := true, apart := false }
def FnExactPickFramesSaid : Prop := fnExactPickFramesRow.holds Try.pinned (OpenSpec.ofChange fnExactPickFramesSpec)

/-- ITS FALSE NEIGHBOUR: 'it returns false'. Refute it at one input. -/
def fnExactPickFramesWrong : ChangeSpec := { name := "fnExactPickFrames", fn := fun _ => fun
  | [d1, d2] => { results := [.lit (.bool false)], args := [d1, d2] }
  | _ => none }
def FnExactPickFramesWrongFalsely : Prop := fnExactPickFramesRow.holds Try.pinned (OpenSpec.ofChange fnExactPickFramesWrong)

/-- 'laws.FnFrames': WHATEVER THE INPUT: true; the input reads as it did. -/
def fnFramesSpec : ChangeSpec := { name := "fnFrames", fn := fun _ => fun
  | [d1, d2] => { results := [.lit (.bool true)], args := [d1, d2] }
  | _ => none }
def fnFramesRow : OpenClaim := { program := "ytnbbbmnjbfehmaa", sum := "b7546c973ea4e0362922e091f99f093f2624faf498443c1df2658491a80d341f", func := "loop.example/g01301/laws.FnFrames", spec := "fnFrames", unfollowed := true, recurses := true, apart := false }
def FnFramesSaid : Prop := fnFramesRow.holds Try.pinned (OpenSpec.ofChange fnFramesSpec)

/-- ITS FALSE NEIGHBOUR: 'it returns false'. Refute it at one input. -/
def fnFramesWrong : ChangeSpec := { name := "fnFrames", fn := fun _ => fun
  | [d1, d2] => { results := [.lit (.bool false)], args := [d1, d2] }
  | _ => none }
def FnFramesWrongFalsely : Prop := fnFramesRow.holds Try.pinned (OpenSpec.ofChange fnFramesWrong)

/- THE SECOND FORM. 'bulk': how many values and letters a reading holds, each counted each time it is reached (what is shared counts as often as it is met; a slice's spare places count too). A statement '..UptoSaid' is the law's where the arguments, and the package variables that the reading takes, are together of bulk at most 1048576: NARROWER than '..Said'. Prove '..Said' where nothing that the law and all that it calls make is longer than what came in: it says more and counts as full. Else prove '..UptoSaid'. A law counts once. -/
mutual
def uptoBulk {H : Type} : DataW H → Nat
  | .lit (.string bytes) => bytes.length + 1
  | .lit _ => 1
  | .nil => 1
  | .ptr d => uptoBulk d + 1
  | .slice elems spare => uptoBulkAll elems + uptoBulkAll spare + 1
  | .agg parts => uptoBulkAll parts + 1
  | .iface _ d => uptoBulk d + 1
  | .map entries => uptoBulkEntries entries + 1
  | .held _ => 1
def uptoBulkAll {H : Type} : List (DataW H) → Nat
  | [] => 0
  | d :: r => uptoBulk d + uptoBulkAll r
def uptoBulkEntries {H : Type} : List (Lit × DataW H) → Nat
  | [] => 0
  | x :: r => uptoBulkEntry x + uptoBulkEntries r
def uptoBulkEntry {H : Type} : Lit × DataW H → Nat
  | (.string bytes, d) => bytes.length + uptoBulk d + 1
  | (_, d) => uptoBulk d + 1
 end
def uptoSmall : (H : Type) → List (DataW H) → Bool := fun _ ds => decide (uptoBulkAll ds ≤ 1048576)
def OpenSpec.upto (s : _root_.Go.ChangeSpec) : _root_.Go.OpenSpec := { _root_.Go.OpenSpec.ofChange s with cond := some uptoSmall }

/-- 'laws.FnExactSameSheet', WHERE WHAT IT READS IS OF BULK AT MOST 1048576: true; the input reads as it did. -/
def fnExactSameSheetUptoRow : OpenClaim := { program := "ytnbbbmnjbfehmaa", sum := "b7546c973ea4e0362922e091f99f093f2624faf498443c1df2658491a80d341f", func := "loop.example/g01301/laws.FnExactSameSheet", spec := "fnExactSameSheet", apart := false, narrowed := true }
def FnExactSameSheetUptoSaid : Prop := fnExactSameSheetUptoRow.holds Try.pinned (OpenSpec.upto fnExactSameSheetSpec)

/-- 'laws.FnExactValidSheet', WHERE WHAT IT READS IS OF BULK AT MOST 1048576: true; the input reads as it did. -/
def fnExactValidSheetUptoRow : OpenClaim := { program := "ytnbbbmnjbfehmaa", sum := "b7546c973ea4e0362922e091f99f093f2624faf498443c1df2658491a80d341f", func := "loop.example/g01301/laws.FnExactValidSheet", spec := "fnExactValidSheet", unfollowed := true, recurses := true, apart := false, narrowed := true }
def FnExactValidSheetUptoSaid : Prop := fnExactValidSheetUptoRow.holds Try.pinned (OpenSpec.upto fnExactValidSheetSpec)

/-- 'laws.FnExactRowsOf', WHERE WHAT IT READS IS OF BULK AT MOST 1048576: true; the input reads as it did. -/
def fnExactRowsOfUptoRow : OpenClaim := { program := "ytnbbbmnjbfehmaa", sum := "b7546c973ea4e0362922e091f99f093f2624faf498443c1df2658491a80d341f", func := "loop.example/g01301/laws.FnExactRowsOf", spec := "fnExactRowsOf", unfollowed := true, recurses := true, apart := false, narrowed := true }
def FnExactRowsOfUptoSaid : Prop := fnExactRowsOfUptoRow.holds Try.pinned (OpenSpec.upto fnExactRowsOfSpec)

/-- 'laws.FnExactFrameAt', WHERE WHAT IT READS IS OF BULK AT MOST 1048576: true; the input reads as it did. -/
def fnExactFrameAtUptoRow : OpenClaim := { program := "ytnbbbmnjbfehmaa", sum := "b7546c973ea4e0362922e091f99f093f2624faf498443c1df2658491a80d341f", func := "loop.example/g01301/laws.FnExactFrameAt", spec := "fnExactFrameAt", unfollowed := true, recurses := true, apart := false, narrowed := true }
def FnExactFrameAtUptoSaid : Prop := fnExactFrameAtUptoRow.holds Try.pinned (OpenSpec.upto fnExactFrameAtSpec)

/-- 'laws.FnExactScratchIn', WHERE WHAT IT READS IS OF BULK AT MOST 1048576: true; the input reads as it did. -/
def fnExactScratchInUptoRow : OpenClaim := { program := "ytnbbbmnjbfehmaa", sum := "b7546c973ea4e0362922e091f99f093f2624faf498443c1df2658491a80d341f", func := "loop.example/g01301/laws.FnExactScratchIn", spec := "fnExactScratchIn", unfollowed := true, recurses := true, apart := false, narrowed := true }
def FnExactScratchInUptoSaid : Prop := fnExactScratchInUptoRow.holds Try.pinned (OpenSpec.upto fnExactScratchInSpec)

/-- 'laws.FnExactPlaceOf', WHERE WHAT IT READS IS OF BULK AT MOST 1048576: true; the input reads as it did. -/
def fnExactPlaceOfUptoRow : OpenClaim := { program := "ytnbbbmnjbfehmaa", sum := "b7546c973ea4e0362922e091f99f093f2624faf498443c1df2658491a80d341f", func := "loop.example/g01301/laws.FnExactPlaceOf", spec := "fnExactPlaceOf", unfollowed := true, recurses := true, apart := false, narrowed := true }
def FnExactPlaceOfUptoSaid : Prop := fnExactPlaceOfUptoRow.holds Try.pinned (OpenSpec.upto fnExactPlaceOfSpec)

/-- 'laws.FnExactDarkestFrame', WHERE WHAT IT READS IS OF BULK AT MOST 1048576: true; the input reads as it did. -/
def fnExactDarkestFrameUptoRow : OpenClaim := { program := "ytnbbbmnjbfehmaa", sum := "b7546c973ea4e0362922e091f99f093f2624faf498443c1df2658491a80d341f", func := "loop.example/g01301/laws.FnExactDarkestFrame", spec := "fnExactDarkestFrame", unfollowed := true, recurses := true, apart := false, narrowed := true }
def FnExactDarkestFrameUptoSaid : Prop := fnExactDarkestFrameUptoRow.holds Try.pinned (OpenSpec.upto fnExactDarkestFrameSpec)

/-- 'laws.FnExactSwapFrames', WHERE WHAT IT READS IS OF BULK AT MOST 1048576: true; the input reads as it did. -/
def fnExactSwapFramesUptoRow : OpenClaim := { program := "ytnbbbmnjbfehmaa", sum := "b7546c973ea4e0362922e091f99f093f2624faf498443c1df2658491a80d341f", func := "loop.example/g01301/laws.FnExactSwapFrames", spec := "fnExactSwapFrames", unfollowed := true, recurses := true, apart := false, narrowed := true }
def FnExactSwapFramesUptoSaid : Prop := fnExactSwapFramesUptoRow.holds Try.pinned (OpenSpec.upto fnExactSwapFramesSpec)

/-- 'laws.FnExactDropFrame', WHERE WHAT IT READS IS OF BULK AT MOST 1048576: true; the input reads as it did. -/
def fnExactDropFrameUptoRow : OpenClaim := { program := "ytnbbbmnjbfehmaa", sum := "b7546c973ea4e0362922e091f99f093f2624faf498443c1df2658491a80d341f", func := "loop.example/g01301/laws.FnExactDropFrame", spec := "fnExactDropFrame", unfollowed := true, recurses := true, apart := false, narrowed := true }
def FnExactDropFrameUptoSaid : Prop := fnExactDropFrameUptoRow.holds Try.pinned (OpenSpec.upto fnExactDropFrameSpec)

/-- 'laws.FnExactPickFrames', WHERE WHAT IT READS IS OF BULK AT MOST 1048576: true; the input reads as it did. -/
def fnExactPickFramesUptoRow : OpenClaim := { program := "ytnbbbmnjbfehmaa", sum := "b7546c973ea4e0362922e091f99f093f2624faf498443c1df2658491a80d341f", func := "loop.example/g01301/laws.FnExactPickFrames", spec := "fnExactPickFrames", unfollowed := true, recurses := true, apart := false, narrowed := true }
def FnExactPickFramesUptoSaid : Prop := fnExactPickFramesUptoRow.holds Try.pinned (OpenSpec.upto fnExactPickFramesSpec)

/-- 'laws.FnFrames', WHERE WHAT IT READS IS OF BULK AT MOST 1048576: true; the input reads as it did. -/
def fnFramesUptoRow : OpenClaim := { program := "ytnbbbmnjbfehmaa", sum := "b7546c973ea4e0362922e091f99f093f2624faf498443c1df2658491a80d341f", func := "loop.example/g01301/laws.FnFrames", spec := "fnFrames", unfollowed := true, recurses := true, apart := false, narrowed := true }
def FnFramesUptoSaid : Prop := fnFramesUptoRow.holds Try.pinned (OpenSpec.upto fnFramesSpec)

end Rows
end Go.Proofs.Ytnbbbmnjbfehmaa
