/-
  No cell of these rows narrows 'for every input' (looked for: loops, veiled, ifaces, maps, wideKeys, modest, calm, conditions, laid).
  DERIVED. THE GIVEN ROWS OF THIS SEAT. 6 by the template 'for every input the law returns true; each argument reads behind the call as it read before'; 0 by the template 'total and deterministic' (their statements: YtpapmplmldfhpaaTotals.lean).
  GIVEN WITH THE SEED: the statements are not yours to turn. If you find one false, say at which input.
  Laid BY PROGRAM, IN A SANDBOX (cutbox-rows.mjs): the forced cells as the released guide's own fill.sh prints them over the translation 559eb32fba92f5d3… (all of the seat's roots in one cut). By AI agents, Wed Nov 11 2026. No macro, syntax, notation, axiom, sorry.
-/
import Derived.Test.YtpapmplmldfhpaaChecked
import GoSem.Claim
import GoSem.ClaimJoined
import GoSem.ClaimMapViews
import Derived.JoinedTies
import Derived.KernelRfl
namespace Go.Proofs.Ytpapmplmldfhpaa
/- THE CELL 'sum', in the pinned program and in every row, IS THE sha256 OF THE DUMP (.gsa) THAT YtpapmplmldfhpaaProg.lean LOADS. Nothing in Lean hashes anything: it is a label: what it is worth is what the hold of that sum in a sandbox is worth. -/
noncomputable def Try.pinned : Pinned := { name := "ytpapmplmldfhpaa", sum := "559eb32fba92f5d317b23db0865e304e718d149f88ef8a964530baca0175c215", checked := Try.checked }
namespace Rows
def none {H : Type} : Left H := { results := [], args := [] }

/-- 'laws.FnExactSwapFrames': WHATEVER THE INPUT: true; the input reads as it did. -/
def fnExactSwapFramesSpec : ChangeSpec := { name := "fnExactSwapFrames", fn := fun _ => fun
  | [d1, d2, d3] => { results := [.lit (.bool true)], args := [d1, d2, d3] }
  | _ => none }
def fnExactSwapFramesRow : OpenClaim := { program := "ytpapmplmldfhpaa", sum := "559eb32fba92f5d317b23db0865e304e718d149f88ef8a964530baca0175c215", func := "loop.example/g01301/laws.FnExactSwapFrames", spec := "fnExactSwapFrames", unfollowed := true, recurses := true, apart := false }
def FnExactSwapFramesSaid : Prop := fnExactSwapFramesRow.holds Try.pinned (OpenSpec.ofChange fnExactSwapFramesSpec)

/-- ITS FALSE NEIGHBOUR: 'it returns false'. Refute it at one input. -/
def fnExactSwapFramesWrong : ChangeSpec := { name := "fnExactSwapFrames", fn := fun _ => fun
  | [d1, d2, d3] => { results := [.lit (.bool false)], args := [d1, d2, d3] }
  | _ => none }
def FnExactSwapFramesWrongFalsely : Prop := fnExactSwapFramesRow.holds Try.pinned (OpenSpec.ofChange fnExactSwapFramesWrong)

/-- 'laws.FnExactDropFrame': WHATEVER THE INPUT: true; the input reads as it did. -/
def fnExactDropFrameSpec : ChangeSpec := { name := "fnExactDropFrame", fn := fun _ => fun
  | [d1, d2] => { results := [.lit (.bool true)], args := [d1, d2] }
  | _ => none }
def fnExactDropFrameRow : OpenClaim := { program := "ytpapmplmldfhpaa", sum := "559eb32fba92f5d317b23db0865e304e718d149f88ef8a964530baca0175c215", func := "loop.example/g01301/laws.FnExactDropFrame", spec := "fnExactDropFrame", unfollowed := true, recurses := true, apart := false }
def FnExactDropFrameSaid : Prop := fnExactDropFrameRow.holds Try.pinned (OpenSpec.ofChange fnExactDropFrameSpec)

/-- ITS FALSE NEIGHBOUR: 'it returns false'. Refute it at one input. -/
def fnExactDropFrameWrong : ChangeSpec := { name := "fnExactDropFrame", fn := fun _ => fun
  | [d1, d2] => { results := [.lit (.bool false)], args := [d1, d2] }
  | _ => none }
def FnExactDropFrameWrongFalsely : Prop := fnExactDropFrameRow.holds Try.pinned (OpenSpec.ofChange fnExactDropFrameWrong)

/-- 'laws.FnExactPickFrames': WHATEVER THE INPUT: true; the input reads as it did. -/
def fnExactPickFramesSpec : ChangeSpec := { name := "fnExactPickFrames", fn := fun _ => fun
  | [d1, d2] => { results := [.lit (.bool true)], args := [d1, d2] }
  | _ => none }
def fnExactPickFramesRow : OpenClaim := { program := "ytpapmplmldfhpaa", sum := "559eb32fba92f5d317b23db0865e304e718d149f88ef8a964530baca0175c215", func := "loop.example/g01301/laws.FnExactPickFrames", spec := "fnExactPickFrames", unfollowed := true, recurses := true, apart := false }
def FnExactPickFramesSaid : Prop := fnExactPickFramesRow.holds Try.pinned (OpenSpec.ofChange fnExactPickFramesSpec)

/-- ITS FALSE NEIGHBOUR: 'it returns false'. Refute it at one input. -/
def fnExactPickFramesWrong : ChangeSpec := { name := "fnExactPickFrames", fn := fun _ => fun
  | [d1, d2] => { results := [.lit (.bool false)], args := [d1, d2] }
  | _ => none }
def FnExactPickFramesWrongFalsely : Prop := fnExactPickFramesRow.holds Try.pinned (OpenSpec.ofChange fnExactPickFramesWrong)

/-- 'laws.FnExactMedianPrint': WHATEVER THE INPUT: true; the input reads as it did. -/
def fnExactMedianPrintSpec : ChangeSpec := { name := "fnExactMedianPrint", fn := fun _ => fun
  | [d] => { results := [.lit (.bool true)], args := [d] }
  | _ => none }
def fnExactMedianPrintRow : OpenClaim := { program := "ytpapmplmldfhpaa", sum := "559eb32fba92f5d317b23db0865e304e718d149f88ef8a964530baca0175c215", func := "loop.example/g01301/laws.FnExactMedianPrint", spec := "fnExactMedianPrint", unfollowed := true, recurses := true, apart := false }
def FnExactMedianPrintSaid : Prop := fnExactMedianPrintRow.holds Try.pinned (OpenSpec.ofChange fnExactMedianPrintSpec)

/-- ITS FALSE NEIGHBOUR: 'it returns false'. Refute it at one input. -/
def fnExactMedianPrintWrong : ChangeSpec := { name := "fnExactMedianPrint", fn := fun _ => fun
  | [d] => { results := [.lit (.bool false)], args := [d] }
  | _ => none }
def FnExactMedianPrintWrongFalsely : Prop := fnExactMedianPrintRow.holds Try.pinned (OpenSpec.ofChange fnExactMedianPrintWrong)

/-- 'laws.FnExactDustIn': WHATEVER THE INPUT: true; the input reads as it did. -/
def fnExactDustInSpec : ChangeSpec := { name := "fnExactDustIn", fn := fun _ => fun
  | [d1, d2, d3] => { results := [.lit (.bool true)], args := [d1, d2, d3] }
  | _ => none }
def fnExactDustInRow : OpenClaim := { program := "ytpapmplmldfhpaa", sum := "559eb32fba92f5d317b23db0865e304e718d149f88ef8a964530baca0175c215", func := "loop.example/g01301/laws.FnExactDustIn", spec := "fnExactDustIn", unfollowed := true, recurses := true, apart := false }
def FnExactDustInSaid : Prop := fnExactDustInRow.holds Try.pinned (OpenSpec.ofChange fnExactDustInSpec)

/-- ITS FALSE NEIGHBOUR: 'it returns false'. Refute it at one input. -/
def fnExactDustInWrong : ChangeSpec := { name := "fnExactDustIn", fn := fun _ => fun
  | [d1, d2, d3] => { results := [.lit (.bool false)], args := [d1, d2, d3] }
  | _ => none }
def FnExactDustInWrongFalsely : Prop := fnExactDustInRow.holds Try.pinned (OpenSpec.ofChange fnExactDustInWrong)

/-- 'laws.FnExactCleanestCopy': WHATEVER THE INPUT: true; the input reads as it did. -/
def fnExactCleanestCopySpec : ChangeSpec := { name := "fnExactCleanestCopy", fn := fun _ => fun
  | [d1, d2] => { results := [.lit (.bool true)], args := [d1, d2] }
  | _ => none }
def fnExactCleanestCopyRow : OpenClaim := { program := "ytpapmplmldfhpaa", sum := "559eb32fba92f5d317b23db0865e304e718d149f88ef8a964530baca0175c215", func := "loop.example/g01301/laws.FnExactCleanestCopy", spec := "fnExactCleanestCopy", unfollowed := true, recurses := true, apart := false }
def FnExactCleanestCopySaid : Prop := fnExactCleanestCopyRow.holds Try.pinned (OpenSpec.ofChange fnExactCleanestCopySpec)

/-- ITS FALSE NEIGHBOUR: 'it returns false'. Refute it at one input. -/
def fnExactCleanestCopyWrong : ChangeSpec := { name := "fnExactCleanestCopy", fn := fun _ => fun
  | [d1, d2] => { results := [.lit (.bool false)], args := [d1, d2] }
  | _ => none }
def FnExactCleanestCopyWrongFalsely : Prop := fnExactCleanestCopyRow.holds Try.pinned (OpenSpec.ofChange fnExactCleanestCopyWrong)

/- THE SECOND FORM. 'bulk': how many values and letters a reading holds, each counted each time it is reached (what is shared counts as often as it is met; a slice's spare places count too). A statement '..UptoSaid' is the law's where the arguments, and the package variables that the reading takes, are together of bulk at most 1048576: NARROWER than '..Said'. Prove '..Said' where nothing that the law and all that it calls make is longer than what came in: it says more and counts as full. Else prove '..UptoSaid'. A law counts once. -/
mutual
def uptoBulk {H : Type} : DataW H → Nat
  | .lit (.string bytes) => bytes.length + 1
  | .lit _ => 1
  | .nil => 1
  | .ptr d => uptoBulk d + 1
  | .slice elems spare => uptoBulkAll elems + uptoBulkAll spare + 1
  | .agg parts => uptoBulkAll parts + 1
  | .iface _ d => uptoBulk d + 1
  | .map entries => uptoBulkEntries entries + 1
  | .held _ => 1
def uptoBulkAll {H : Type} : List (DataW H) → Nat
  | [] => 0
  | d :: r => uptoBulk d + uptoBulkAll r
def uptoBulkEntries {H : Type} : List (Lit × DataW H) → Nat
  | [] => 0
  | x :: r => uptoBulkEntry x + uptoBulkEntries r
def uptoBulkEntry {H : Type} : Lit × DataW H → Nat
  | (.string bytes, d) => bytes.length + uptoBulk d + 1
  | (_, d) => uptoBulk d + 1
 end
def uptoSmall : (H : Type) → List (DataW H) → Bool := fun _ ds => decide (uptoBulkAll ds ≤ 1048576)
def OpenSpec.upto (s : _root_.Go.ChangeSpec) : _root_.Go.OpenSpec := { _root_.Go.OpenSpec.ofChange s with cond := some uptoSmall }

/-- 'laws.FnExactSwapFrames', WHERE WHAT IT READS IS OF BULK AT MOST 1048576: true; the input reads as it did. -/
def fnExactSwapFramesUptoRow : OpenClaim := { program := "ytpapmplmldfhpaa", sum := "559eb32fba92f5d317b23db0865e304e718d149f88ef8a964530baca0175c215", func := "loop.example/g01301/laws.FnExactSwapFrames", spec := "fnExactSwapFrames", unfollowed := true, recurses := true, apart := false, narrowed := true }
def FnExactSwapFramesUptoSaid : Prop := fnExactSwapFramesUptoRow.holds Try.pinned (OpenSpec.upto fnExactSwapFramesSpec)

/-- 'laws.FnExactDropFrame', WHERE WHAT IT READS IS OF BULK AT MOST 1048576: true; the input reads as it did. -/
def fnExactDropFrameUptoRow : OpenClaim := { program := "ytpapmplmldfhpaa", sum := "559eb32fba92f5d317b23db0865e304e718d149f88ef8a964530baca0175c215", func := "loop.example/g01301/laws.FnExactDropFrame", spec := "fnExactDropFrame", unfollowed := true, recurses := true, apart := false, narrowed := true }
def FnExactDropFrameUptoSaid : Prop := fnExactDropFrameUptoRow.holds Try.pinned (OpenSpec.upto fnExactDropFrameSpec)

/-- 'laws.FnExactPickFrames', WHERE WHAT IT READS IS OF BULK AT MOST 1048576: true; the input reads as it did. -/
def fnExactPickFramesUptoRow : OpenClaim := { program := "ytpapmplmldfhpaa", sum := "559eb32fba92f5d317b23db0865e304e718d149f88ef8a964530baca0175c215", func := "loop.example/g01301/laws.FnExactPickFrames", spec := "fnExactPickFrames", unfollowed := true, recurses := true, apart := false, narrowed := true }
def FnExactPickFramesUptoSaid : Prop := fnExactPickFramesUptoRow.holds Try.pinned (OpenSpec.upto fnExactPickFramesSpec)

/-- 'laws.FnExactMedianPrint', WHERE WHAT IT READS IS OF BULK AT MOST 1048576: true; the input reads as it did. -/
def fnExactMedianPrintUptoRow : OpenClaim := { program := "ytpapmplmldfhpaa", sum := "559eb32fba92f5d317b23db0865e304e718d149f88ef8a964530baca0175c215", func := "loop.example/g01301/laws.FnExactMedianPrint", spec := "fnExactMedianPrint", unfollowed := true, recurses := true, apart := false, narrowed := true }
def FnExactMedianPrintUptoSaid : Prop := fnExactMedianPrintUptoRow.holds Try.pinned (OpenSpec.upto fnExactMedianPrintSpec)

/-- 'laws.FnExactDustIn', WHERE WHAT IT READS IS OF BULK AT MOST 1048576: true; the input reads as it did. -/
def fnExactDustInUptoRow : OpenClaim := { program := "ytpapmplmldfhpaa", sum := "559eb32fba92f5d317b23db0865e304e718d149f88ef8a964530baca0175c215", func := "loop.example/g01301/laws.FnExactDustIn", spec := "fnExactDustIn", unfollowed := true, recurses := true, apart := false, narrowed := true }
def FnExactDustInUptoSaid : Prop := fnExactDustInUptoRow.holds Try.pinned (OpenSpec.upto fnExactDustInSpec)

/-- 'laws.FnExactCleanestCopy', WHERE WHAT IT READS IS OF BULK AT MOST 1048576: true; the input reads as it did. -/
def fnExactCleanestCopyUptoRow : OpenClaim := { program := "ytpapmplmldfhpaa", sum := "559eb32fba92f5d317b23db0865e304e718d149f88ef8a964530baca0175c215", func := "loop.example/g01301/laws.FnExactCleanestCopy", spec := "fnExactCleanestCopy", unfollowed := true, recurses := true, apart := false, narrowed := true }
def FnExactCleanestCopyUptoSaid : Prop := fnExactCleanestCopyUptoRow.holds Try.pinned (OpenSpec.upto fnExactCleanestCopySpec)

end Rows
end Go.Proofs.Ytpapmplmldfhpaa
