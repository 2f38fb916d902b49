/-
  No cell of these rows narrows 'for every input' (looked for: loops, veiled, ifaces, maps, wideKeys, modest, calm, conditions, laid).
  DERIVED. THE GIVEN ROWS OF THIS SEAT. 19 by the template 'for every input the law returns true; each argument reads behind the call as it read before'; 0 by the template 'total and deterministic' (their statements: YtjmkehcdffpliaaTotals.lean).
  GIVEN WITH THE SEED: the statements are not yours to turn. If you find one false, say at which input.
  Laid BY PROGRAM, IN A SANDBOX (cutbox-rows.mjs): the forced cells as the released guide's own fill.sh prints them over the translation 58a2bffb76cd3971… (all of the seat's roots in one cut). By AI agents, Wed Nov 11 2026. No macro, syntax, notation, axiom, sorry.
-/
import Derived.Test.YtjmkehcdffpliaaChecked
import GoSem.Claim
import GoSem.ClaimJoined
import GoSem.ClaimMapViews
import Derived.JoinedTies
import Derived.KernelRfl
namespace Go.Proofs.Ytjmkehcdffpliaa
/- THE CELL 'sum', in the pinned program and in every row, IS THE sha256 OF THE DUMP (.gsa) THAT YtjmkehcdffpliaaProg.lean LOADS. Nothing in Lean hashes anything: it is a label: what it is worth is what the hold of that sum in a sandbox is worth. -/
noncomputable def Try.pinned : Pinned := { name := "ytjmkehcdffpliaa", sum := "58a2bffb76cd3971a59fa4276c90890030382d89d5826592e9ba142fb7ebbce4", checked := Try.checked }
namespace Rows
def none {H : Type} : Left H := { results := [], args := [] }

/-- 'laws.FnExactMaskText': WHATEVER THE INPUT: true; the input reads as it did. -/
def fnExactMaskTextSpec : ChangeSpec := { name := "fnExactMaskText", fn := fun _ => fun
  | [d] => { results := [.lit (.bool true)], args := [d] }
  | _ => none }
def fnExactMaskTextRow : OpenClaim := { program := "ytjmkehcdffpliaa", sum := "58a2bffb76cd3971a59fa4276c90890030382d89d5826592e9ba142fb7ebbce4", func := "loop.example/g01301/laws.FnExactMaskText", spec := "fnExactMaskText", apart := false }
def FnExactMaskTextSaid : Prop := fnExactMaskTextRow.holds Try.pinned (OpenSpec.ofChange fnExactMaskTextSpec)

/-- ITS FALSE NEIGHBOUR: 'it returns false'. Refute it at one input. -/
def fnExactMaskTextWrong : ChangeSpec := { name := "fnExactMaskText", fn := fun _ => fun
  | [d] => { results := [.lit (.bool false)], args := [d] }
  | _ => none }
def FnExactMaskTextWrongFalsely : Prop := fnExactMaskTextRow.holds Try.pinned (OpenSpec.ofChange fnExactMaskTextWrong)

/-- 'laws.FnExactReadMask': WHATEVER THE INPUT: true; the input reads as it did. -/
def fnExactReadMaskSpec : ChangeSpec := { name := "fnExactReadMask", fn := fun _ => fun
  | [d] => { results := [.lit (.bool true)], args := [d] }
  | _ => none }
def fnExactReadMaskRow : OpenClaim := { program := "ytjmkehcdffpliaa", sum := "58a2bffb76cd3971a59fa4276c90890030382d89d5826592e9ba142fb7ebbce4", func := "loop.example/g01301/laws.FnExactReadMask", spec := "fnExactReadMask", apart := false }
def FnExactReadMaskSaid : Prop := fnExactReadMaskRow.holds Try.pinned (OpenSpec.ofChange fnExactReadMaskSpec)

/-- ITS FALSE NEIGHBOUR: 'it returns false'. Refute it at one input. -/
def fnExactReadMaskWrong : ChangeSpec := { name := "fnExactReadMask", fn := fun _ => fun
  | [d] => { results := [.lit (.bool false)], args := [d] }
  | _ => none }
def FnExactReadMaskWrongFalsely : Prop := fnExactReadMaskRow.holds Try.pinned (OpenSpec.ofChange fnExactReadMaskWrong)

/-- 'laws.FnExactSameSheet': WHATEVER THE INPUT: true; the input reads as it did. -/
def fnExactSameSheetSpec : ChangeSpec := { name := "fnExactSameSheet", fn := fun _ => fun
  | [d1, d2] => { results := [.lit (.bool true)], args := [d1, d2] }
  | _ => none }
def fnExactSameSheetRow : OpenClaim := { program := "ytjmkehcdffpliaa", sum := "58a2bffb76cd3971a59fa4276c90890030382d89d5826592e9ba142fb7ebbce4", func := "loop.example/g01301/laws.FnExactSameSheet", spec := "fnExactSameSheet", apart := false }
def FnExactSameSheetSaid : Prop := fnExactSameSheetRow.holds Try.pinned (OpenSpec.ofChange fnExactSameSheetSpec)

/-- ITS FALSE NEIGHBOUR: 'it returns false'. Refute it at one input. -/
def fnExactSameSheetWrong : ChangeSpec := { name := "fnExactSameSheet", fn := fun _ => fun
  | [d1, d2] => { results := [.lit (.bool false)], args := [d1, d2] }
  | _ => none }
def FnExactSameSheetWrongFalsely : Prop := fnExactSameSheetRow.holds Try.pinned (OpenSpec.ofChange fnExactSameSheetWrong)

/-- 'laws.FnExactValidSheet': WHATEVER THE INPUT: true; the input reads as it did. -/
def fnExactValidSheetSpec : ChangeSpec := { name := "fnExactValidSheet", fn := fun _ => fun
  | [d] => { results := [.lit (.bool true)], args := [d] }
  | _ => none }
def fnExactValidSheetRow : OpenClaim := { program := "ytjmkehcdffpliaa", sum := "58a2bffb76cd3971a59fa4276c90890030382d89d5826592e9ba142fb7ebbce4", func := "loop.example/g01301/laws.FnExactValidSheet", spec := "fnExactValidSheet", unfollowed := true, recurses := true, apart := false }
def FnExactValidSheetSaid : Prop := fnExactValidSheetRow.holds Try.pinned (OpenSpec.ofChange fnExactValidSheetSpec)

/-- ITS FALSE NEIGHBOUR: 'it returns false'. Refute it at one input. -/
def fnExactValidSheetWrong : ChangeSpec := { name := "fnExactValidSheet", fn := fun _ => fun
  | [d] => { results := [.lit (.bool false)], args := [d] }
  | _ => none }
def FnExactValidSheetWrongFalsely : Prop := fnExactValidSheetRow.holds Try.pinned (OpenSpec.ofChange fnExactValidSheetWrong)

/-- 'laws.FnExactRowsOf': WHATEVER THE INPUT: true; the input reads as it did. -/
def fnExactRowsOfSpec : ChangeSpec := { name := "fnExactRowsOf", fn := fun _ => fun
  | [d] => { results := [.lit (.bool true)], args := [d] }
  | _ => none }
def fnExactRowsOfRow : OpenClaim := { program := "ytjmkehcdffpliaa", sum := "58a2bffb76cd3971a59fa4276c90890030382d89d5826592e9ba142fb7ebbce4", func := "loop.example/g01301/laws.FnExactRowsOf", spec := "fnExactRowsOf", unfollowed := true, recurses := true, apart := false }
def FnExactRowsOfSaid : Prop := fnExactRowsOfRow.holds Try.pinned (OpenSpec.ofChange fnExactRowsOfSpec)

/-- ITS FALSE NEIGHBOUR: 'it returns false'. Refute it at one input. -/
def fnExactRowsOfWrong : ChangeSpec := { name := "fnExactRowsOf", fn := fun _ => fun
  | [d] => { results := [.lit (.bool false)], args := [d] }
  | _ => none }
def FnExactRowsOfWrongFalsely : Prop := fnExactRowsOfRow.holds Try.pinned (OpenSpec.ofChange fnExactRowsOfWrong)

/-- 'laws.FnExactFrameAt': WHATEVER THE INPUT: true; the input reads as it did. -/
def fnExactFrameAtSpec : ChangeSpec := { name := "fnExactFrameAt", fn := fun _ => fun
  | [d1, d2, d3] => { results := [.lit (.bool true)], args := [d1, d2, d3] }
  | _ => none }
def fnExactFrameAtRow : OpenClaim := { program := "ytjmkehcdffpliaa", sum := "58a2bffb76cd3971a59fa4276c90890030382d89d5826592e9ba142fb7ebbce4", func := "loop.example/g01301/laws.FnExactFrameAt", spec := "fnExactFrameAt", unfollowed := true, recurses := true, apart := false }
def FnExactFrameAtSaid : Prop := fnExactFrameAtRow.holds Try.pinned (OpenSpec.ofChange fnExactFrameAtSpec)

/-- ITS FALSE NEIGHBOUR: 'it returns false'. Refute it at one input. -/
def fnExactFrameAtWrong : ChangeSpec := { name := "fnExactFrameAt", fn := fun _ => fun
  | [d1, d2, d3] => { results := [.lit (.bool false)], args := [d1, d2, d3] }
  | _ => none }
def FnExactFrameAtWrongFalsely : Prop := fnExactFrameAtRow.holds Try.pinned (OpenSpec.ofChange fnExactFrameAtWrong)

/-- 'laws.FnExactScratchIn': WHATEVER THE INPUT: true; the input reads as it did. -/
def fnExactScratchInSpec : ChangeSpec := { name := "fnExactScratchIn", fn := fun _ => fun
  | [d1, d2, d3] => { results := [.lit (.bool true)], args := [d1, d2, d3] }
  | _ => none }
def fnExactScratchInRow : OpenClaim := { program := "ytjmkehcdffpliaa", sum := "58a2bffb76cd3971a59fa4276c90890030382d89d5826592e9ba142fb7ebbce4", func := "loop.example/g01301/laws.FnExactScratchIn", spec := "fnExactScratchIn", unfollowed := true, recurses := true, apart := false }
def FnExactScratchInSaid : Prop := fnExactScratchInRow.holds Try.pinned (OpenSpec.ofChange fnExactScratchInSpec)

/-- ITS FALSE NEIGHBOUR: 'it returns false'. Refute it at one input. -/
def fnExactScratchInWrong : ChangeSpec := { name := "fnExactScratchIn", fn := fun _ => fun
  | [d1, d2, d3] => { results := [.lit (.bool false)], args := [d1, d2, d3] }
  | _ => none }
def FnExactScratchInWrongFalsely : Prop := fnExactScratchInRow.holds Try.pinned (OpenSpec.ofChange fnExactScratchInWrong)

/-- 'laws.FnExactPlaceOf': WHATEVER THE INPUT: true; the input reads as it did. -/
def fnExactPlaceOfSpec : ChangeSpec := { name := "fnExactPlaceOf", fn := fun _ => fun
  | [d1, d2] => { results := [.lit (.bool true)], args := [d1, d2] }
  | _ => none }
def fnExactPlaceOfRow : OpenClaim := { program := "ytjmkehcdffpliaa", sum := "58a2bffb76cd3971a59fa4276c90890030382d89d5826592e9ba142fb7ebbce4", func := "loop.example/g01301/laws.FnExactPlaceOf", spec := "fnExactPlaceOf", unfollowed := true, recurses := true, apart := false }
def FnExactPlaceOfSaid : Prop := fnExactPlaceOfRow.holds Try.pinned (OpenSpec.ofChange fnExactPlaceOfSpec)

/-- ITS FALSE NEIGHBOUR: 'it returns false'. Refute it at one input. -/
def fnExactPlaceOfWrong : ChangeSpec := { name := "fnExactPlaceOf", fn := fun _ => fun
  | [d1, d2] => { results := [.lit (.bool false)], args := [d1, d2] }
  | _ => none }
def FnExactPlaceOfWrongFalsely : Prop := fnExactPlaceOfRow.holds Try.pinned (OpenSpec.ofChange fnExactPlaceOfWrong)

/-- 'laws.FnExactDarkestFrame': WHATEVER THE INPUT: true; the input reads as it did. -/
def fnExactDarkestFrameSpec : ChangeSpec := { name := "fnExactDarkestFrame", fn := fun _ => fun
  | [d] => { results := [.lit (.bool true)], args := [d] }
  | _ => none }
def fnExactDarkestFrameRow : OpenClaim := { program := "ytjmkehcdffpliaa", sum := "58a2bffb76cd3971a59fa4276c90890030382d89d5826592e9ba142fb7ebbce4", func := "loop.example/g01301/laws.FnExactDarkestFrame", spec := "fnExactDarkestFrame", unfollowed := true, recurses := true, apart := false }
def FnExactDarkestFrameSaid : Prop := fnExactDarkestFrameRow.holds Try.pinned (OpenSpec.ofChange fnExactDarkestFrameSpec)

/-- ITS FALSE NEIGHBOUR: 'it returns false'. Refute it at one input. -/
def fnExactDarkestFrameWrong : ChangeSpec := { name := "fnExactDarkestFrame", fn := fun _ => fun
  | [d] => { results := [.lit (.bool false)], args := [d] }
  | _ => none }
def FnExactDarkestFrameWrongFalsely : Prop := fnExactDarkestFrameRow.holds Try.pinned (OpenSpec.ofChange fnExactDarkestFrameWrong)

/-- 'laws.FnExactSwapFrames': WHATEVER THE INPUT: true; the input reads as it did. -/
def fnExactSwapFramesSpec : ChangeSpec := { name := "fnExactSwapFrames", fn := fun _ => fun
  | [d1, d2, d3] => { results := [.lit (.bool true)], args := [d1, d2, d3] }
  | _ => none }
def fnExactSwapFramesRow : OpenClaim := { program := "ytjmkehcdffpliaa", sum := "58a2bffb76cd3971a59fa4276c90890030382d89d5826592e9ba142fb7ebbce4", func := "loop.example/g01301/laws.FnExactSwapFrames", spec := "fnExactSwapFrames", unfollowed := true, recurses := true, apart := false }
def FnExactSwapFramesSaid : Prop := fnExactSwapFramesRow.holds Try.pinned (OpenSpec.ofChange fnExactSwapFramesSpec)

/-- ITS FALSE NEIGHBOUR: 'it returns false'. Refute it at one input. -/
def fnExactSwapFramesWrong : ChangeSpec := { name := "fnExactSwapFrames", fn := fun _ => fun
  | [d1, d2, d3] => { results := [.lit (.bool false)], args := [d1, d2, d3] }
  | _ => none }
def FnExactSwapFramesWrongFalsely : Prop := fnExactSwapFramesRow.holds Try.pinned (OpenSpec.ofChange fnExactSwapFramesWrong)

/-- 'laws.FnExactDropFrame': WHATEVER THE INPUT: true; the input reads as it did. -/
def fnExactDropFrameSpec : ChangeSpec := { name := "fnExactDropFrame", fn := fun _ => fun
  | [d1, d2] => { results := [.lit (.bool true)], args := [d1, d2] }
  | _ => none }
def fnExactDropFrameRow : OpenClaim := { program := "ytjmkehcdffpliaa", sum := "58a2bffb76cd3971a59fa4276c90890030382d89d5826592e9ba142fb7ebbce4", func := "loop.example/g01301/laws.FnExactDropFrame", spec := "fnExactDropFrame", unfollowed := true, recurses := true, apart := false }
def FnExactDropFrameSaid : Prop := fnExactDropFrameRow.holds Try.pinned (OpenSpec.ofChange fnExactDropFrameSpec)

/-- ITS FALSE NEIGHBOUR: 'it returns false'. Refute it at one input. -/
def fnExactDropFrameWrong : ChangeSpec := { name := "fnExactDropFrame", fn := fun _ => fun
  | [d1, d2] => { results := [.lit (.bool false)], args := [d1, d2] }
  | _ => none }
def FnExactDropFrameWrongFalsely : Prop := fnExactDropFrameRow.holds Try.pinned (OpenSpec.ofChange fnExactDropFrameWrong)

/-- 'laws.FnExactPickFrames': WHATEVER THE INPUT: true; the input reads as it did. -/
def fnExactPickFramesSpec : ChangeSpec := { name := "fnExactPickFrames", fn := fun _ => fun
  | [d1, d2] => { results := [.lit (.bool true)], args := [d1, d2] }
  | _ => none }
def fnExactPickFramesRow : OpenClaim := { program := "ytjmkehcdffpliaa", sum := "58a2bffb76cd3971a59fa4276c90890030382d89d5826592e9ba142fb7ebbce4", func := "loop.example/g01301/laws.FnExactPickFrames", spec := "fnExactPickFrames", unfollowed := true, recurses := true, apart := false }
def FnExactPickFramesSaid : Prop := fnExactPickFramesRow.holds Try.pinned (OpenSpec.ofChange fnExactPickFramesSpec)

/-- ITS FALSE NEIGHBOUR: 'it returns false'. Refute it at one input. -/
def fnExactPickFramesWrong : ChangeSpec := { name := "fnExactPickFrames", fn := fun _ => fun
  | [d1, d2] => { results := [.lit (.bool false)], args := [d1, d2] }
  | _ => none }
def FnExactPickFramesWrongFalsely : Prop := fnExactPickFramesRow.holds Try.pinned (OpenSpec.ofChange fnExactPickFramesWrong)

/-- 'laws.FnExactBestGrade': WHATEVER THE INPUT: true; the input reads as it did. -/
def fnExactBestGradeSpec : ChangeSpec := { name := "fnExactBestGrade", fn := fun _ => fun
  | [d1, d2, d3, d4, d5] => { results := [.lit (.bool true)], args := [d1, d2, d3, d4, d5] }
  | _ => none }
def fnExactBestGradeRow : OpenClaim := { program := "ytjmkehcdffpliaa", sum := "58a2bffb76cd3971a59fa4276c90890030382d89d5826592e9ba142fb7ebbce4", func := "loop.example/g01301/laws.FnExactBestGrade", spec := "fnExactBestGrade", unfollowed := true, recurses := true, apart := false }
def FnExactBestGradeSaid : Prop := fnExactBestGradeRow.holds Try.pinned (OpenSpec.ofChange fnExactBestGradeSpec)

/-- ITS FALSE NEIGHBOUR: 'it returns false'. Refute it at one input. -/
def fnExactBestGradeWrong : ChangeSpec := { name := "fnExactBestGrade", fn := fun _ => fun
  | [d1, d2, d3, d4, d5] => { results := [.lit (.bool false)], args := [d1, d2, d3, d4, d5] }
  | _ => none }
def FnExactBestGradeWrongFalsely : Prop := fnExactBestGradeRow.holds Try.pinned (OpenSpec.ofChange fnExactBestGradeWrong)

/-- 'laws.FnFrames': WHATEVER THE INPUT: true; the input reads as it did. -/
def fnFramesSpec : ChangeSpec := { name := "fnFrames", fn := fun _ => fun
  | [d1, d2] => { results := [.lit (.bool true)], args := [d1, d2] }
  | _ => none }
def fnFramesRow : OpenClaim := { program := "ytjmkehcdffpliaa", sum := "58a2bffb76cd3971a59fa4276c90890030382d89d5826592e9ba142fb7ebbce4", func := "loop.example/g01301/laws.FnFrames", spec := "fnFrames", unfollowed := true, recurses := true, apart := false }
def FnFramesSaid : Prop := fnFramesRow.holds Try.pinned (OpenSpec.ofChange fnFramesSpec)

/-- ITS FALSE NEIGHBOUR: 'it returns false'. Refute it at one input. -/
def fnFramesWrong : ChangeSpec := { name := "fnFrames", fn := fun _ => fun
  | [d1, d2] => { results := [.lit (.bool false)], args := [d1, d2] }
  | _ => none }
def FnFramesWrongFalsely : Prop := fnFramesRow.holds Try.pinned (OpenSpec.ofChange fnFramesWrong)

/-- 'laws.FnExactOrderGrades': WHATEVER THE INPUT: true; the input reads as it did. -/
def fnExactOrderGradesSpec : ChangeSpec := { name := "fnExactOrderGrades", fn := fun _ => fun
  | [d1, d2, d3] => { results := [.lit (.bool true)], args := [d1, d2, d3] }
  | _ => none }
def fnExactOrderGradesRow : OpenClaim := { program := "ytjmkehcdffpliaa", sum := "58a2bffb76cd3971a59fa4276c90890030382d89d5826592e9ba142fb7ebbce4", func := "loop.example/g01301/laws.FnExactOrderGrades", spec := "fnExactOrderGrades", unfollowed := true, recurses := true, apart := false }
def FnExactOrderGradesSaid : Prop := fnExactOrderGradesRow.holds Try.pinned (OpenSpec.ofChange fnExactOrderGradesSpec)

/-- ITS FALSE NEIGHBOUR: 'it returns false'. Refute it at one input. -/
def fnExactOrderGradesWrong : ChangeSpec := { name := "fnExactOrderGrades", fn := fun _ => fun
  | [d1, d2, d3] => { results := [.lit (.bool false)], args := [d1, d2, d3] }
  | _ => none }
def FnExactOrderGradesWrongFalsely : Prop := fnExactOrderGradesRow.holds Try.pinned (OpenSpec.ofChange fnExactOrderGradesWrong)

/-- 'laws.FnExactMedianPrint': WHATEVER THE INPUT: true; the input reads as it did. -/
def fnExactMedianPrintSpec : ChangeSpec := { name := "fnExactMedianPrint", fn := fun _ => fun
  | [d] => { results := [.lit (.bool true)], args := [d] }
  | _ => none }
def fnExactMedianPrintRow : OpenClaim := { program := "ytjmkehcdffpliaa", sum := "58a2bffb76cd3971a59fa4276c90890030382d89d5826592e9ba142fb7ebbce4", func := "loop.example/g01301/laws.FnExactMedianPrint", spec := "fnExactMedianPrint", unfollowed := true, recurses := true, apart := false }
def FnExactMedianPrintSaid : Prop := fnExactMedianPrintRow.holds Try.pinned (OpenSpec.ofChange fnExactMedianPrintSpec)

/-- ITS FALSE NEIGHBOUR: 'it returns false'. Refute it at one input. -/
def fnExactMedianPrintWrong : ChangeSpec := { name := "fnExactMedianPrint", fn := fun _ => fun
  | [d] => { results := [.lit (.bool false)], args := [d] }
  | _ => none }
def FnExactMedianPrintWrongFalsely : Prop := fnExactMedianPrintRow.holds Try.pinned (OpenSpec.ofChange fnExactMedianPrintWrong)

/-- 'laws.FnExactDustIn': WHATEVER THE INPUT: true; the input reads as it did. -/
def fnExactDustInSpec : ChangeSpec := { name := "fnExactDustIn", fn := fun _ => fun
  | [d1, d2, d3] => { results := [.lit (.bool true)], args := [d1, d2, d3] }
  | _ => none }
def fnExactDustInRow : OpenClaim := { program := "ytjmkehcdffpliaa", sum := "58a2bffb76cd3971a59fa4276c90890030382d89d5826592e9ba142fb7ebbce4", func := "loop.example/g01301/laws.FnExactDustIn", spec := "fnExactDustIn", unfollowed := true, recurses := true, apart := false }
def FnExactDustInSaid : Prop := fnExactDustInRow.holds Try.pinned (OpenSpec.ofChange fnExactDustInSpec)

/-- ITS FALSE NEIGHBOUR: 'it returns false'. Refute it at one input. -/
def fnExactDustInWrong : ChangeSpec := { name := "fnExactDustIn", fn := fun _ => fun
  | [d1, d2, d3] => { results := [.lit (.bool false)], args := [d1, d2, d3] }
  | _ => none }
def FnExactDustInWrongFalsely : Prop := fnExactDustInRow.holds Try.pinned (OpenSpec.ofChange fnExactDustInWrong)

/-- 'laws.FnExactCleanestCopy': WHATEVER THE INPUT: true; the input reads as it did. -/
def fnExactCleanestCopySpec : ChangeSpec := { name := "fnExactCleanestCopy", fn := fun _ => fun
  | [d1, d2] => { results := [.lit (.bool true)], args := [d1, d2] }
  | _ => none }
def fnExactCleanestCopyRow : OpenClaim := { program := "ytjmkehcdffpliaa", sum := "58a2bffb76cd3971a59fa4276c90890030382d89d5826592e9ba142fb7ebbce4", func := "loop.example/g01301/laws.FnExactCleanestCopy", spec := "fnExactCleanestCopy", unfollowed := true, recurses := true, apart := false }
def FnExactCleanestCopySaid : Prop := fnExactCleanestCopyRow.holds Try.pinned (OpenSpec.ofChange fnExactCleanestCopySpec)

/-- ITS FALSE NEIGHBOUR: 'it returns false'. Refute it at one input. -/
def fnExactCleanestCopyWrong : ChangeSpec := { name := "fnExactCleanestCopy", fn := fun _ => fun
  | [d1, d2] => { results := [.lit (.bool false)], args := [d1, d2] }
  | _ => none }
def FnExactCleanestCopyWrongFalsely : Prop := fnExactCleanestCopyRow.holds Try.pinned (OpenSpec.ofChange fnExactCleanestCopyWrong)

/-- 'laws.FnGrades': WHATEVER THE INPUT: true; the input reads as it did. -/
def fnGradesSpec : ChangeSpec := { name := "fnGrades", fn := fun _ => fun
  | [d1, d2] => { results := [.lit (.bool true)], args := [d1, d2] }
  | _ => none }
def fnGradesRow : OpenClaim := { program := "ytjmkehcdffpliaa", sum := "58a2bffb76cd3971a59fa4276c90890030382d89d5826592e9ba142fb7ebbce4", func := "loop.example/g01301/laws.FnGrades", spec := "fnGrades", unfollowed := true, recurses := true, apart := false }
def FnGradesSaid : Prop := fnGradesRow.holds Try.pinned (OpenSpec.ofChange fnGradesSpec)

/-- ITS FALSE NEIGHBOUR: 'it returns false'. Refute it at one input. -/
def fnGradesWrong : ChangeSpec := { name := "fnGrades", fn := fun _ => fun
  | [d1, d2] => { results := [.lit (.bool false)], args := [d1, d2] }
  | _ => none }
def FnGradesWrongFalsely : Prop := fnGradesRow.holds Try.pinned (OpenSpec.ofChange fnGradesWrong)

/- THE SECOND FORM. 'bulk': how many values and letters a reading holds, each counted each time it is reached (what is shared counts as often as it is met; a slice's spare places count too). A statement '..UptoSaid' is the law's where the arguments, and the package variables that the reading takes, are together of bulk at most 1048576: NARROWER than '..Said'. Prove '..Said' where nothing that the law and all that it calls make is longer than what came in: it says more and counts as full. Else prove '..UptoSaid'. A law counts once. -/
mutual
def uptoBulk {H : Type} : DataW H → Nat
  | .lit (.string bytes) => bytes.length + 1
  | .lit _ => 1
  | .nil => 1
  | .ptr d => uptoBulk d + 1
  | .slice elems spare => uptoBulkAll elems + uptoBulkAll spare + 1
  | .agg parts => uptoBulkAll parts + 1
  | .iface _ d => uptoBulk d + 1
  | .map entries => uptoBulkEntries entries + 1
  | .held _ => 1
def uptoBulkAll {H : Type} : List (DataW H) → Nat
  | [] => 0
  | d :: r => uptoBulk d + uptoBulkAll r
def uptoBulkEntries {H : Type} : List (Lit × DataW H) → Nat
  | [] => 0
  | x :: r => uptoBulkEntry x + uptoBulkEntries r
def uptoBulkEntry {H : Type} : Lit × DataW H → Nat
  | (.string bytes, d) => bytes.length + uptoBulk d + 1
  | (_, d) => uptoBulk d + 1
 end
def uptoSmall : (H : Type) → List (DataW H) → Bool := fun _ ds => decide (uptoBulkAll ds ≤ 1048576)
def OpenSpec.upto (s : _root_.Go.ChangeSpec) : _root_.Go.OpenSpec := { _root_.Go.OpenSpec.ofChange s with cond := some uptoSmall }

/-- 'laws.FnExactMaskText', WHERE WHAT IT READS IS OF BULK AT MOST 1048576: true; the input reads as it did. -/
def fnExactMaskTextUptoRow : OpenClaim := { program := "ytjmkehcdffpliaa", sum := "58a2bffb76cd3971a59fa4276c90890030382d89d5826592e9ba142fb7ebbce4", func := "loop.example/g01301/laws.FnExactMaskText", spec := "fnExactMaskText", apart := false, narrowed := true }
def FnExactMaskTextUptoSaid : Prop := fnExactMaskTextUptoRow.holds Try.pinned (OpenSpec.upto fnExactMaskTextSpec)

/-- 'laws.FnExactReadMask', WHERE WHAT IT READS IS OF BULK AT MOST 1048576: true; the input reads as it did. -/
def fnExactReadMaskUptoRow : OpenClaim := { program := "ytjmkehcdffpliaa", sum := "58a2bffb76cd3971a59fa4276c90890030382d89d5826592e9ba142fb7ebbce4", func := "loop.example/g01301/laws.FnExactReadMask", spec := "fnExactReadMask", apart := false, narrowed := true }
def FnExactReadMaskUptoSaid : Prop := fnExactReadMaskUptoRow.holds Try.pinned (OpenSpec.upto fnExactReadMaskSpec)

/-- 'laws.FnExactSameSheet', WHERE WHAT IT READS IS OF BULK AT MOST 1048576: true; the input reads as it did. -/
def fnExactSameSheetUptoRow : OpenClaim := { program := "ytjmkehcdffpliaa", sum := "58a2bffb76cd3971a59fa4276c90890030382d89d5826592e9ba142fb7ebbce4", func := "loop.example/g01301/laws.FnExactSameSheet", spec := "fnExactSameSheet", apart := false, narrowed := true }
def FnExactSameSheetUptoSaid : Prop := fnExactSameSheetUptoRow.holds Try.pinned (OpenSpec.upto fnExactSameSheetSpec)

/-- 'laws.FnExactValidSheet', WHERE WHAT IT READS IS OF BULK AT MOST 1048576: true; the input reads as it did. -/
def fnExactValidSheetUptoRow : OpenClaim := { program := "ytjmkehcdffpliaa", sum := "58a2bffb76cd3971a59fa4276c90890030382d89d5826592e9ba142fb7ebbce4", func := "loop.example/g01301/laws.FnExactValidSheet", spec := "fnExactValidSheet", unfollowed := true, recurses := true, apart := false, narrowed := true }
def FnExactValidSheetUptoSaid : Prop := fnExactValidSheetUptoRow.holds Try.pinned (OpenSpec.upto fnExactValidSheetSpec)

/-- 'laws.FnExactRowsOf', WHERE WHAT IT READS IS OF BULK AT MOST 1048576: true; the input reads as it did. -/
def fnExactRowsOfUptoRow : OpenClaim := { program := "ytjmkehcdffpliaa", sum := "58a2bffb76cd3971a59fa4276c90890030382d89d5826592e9ba142fb7ebbce4", func := "loop.example/g01301/laws.FnExactRowsOf", spec := "fnExactRowsOf", unfollowed := true, recurses := true, apart := false, narrowed := true }
def FnExactRowsOfUptoSaid : Prop := fnExactRowsOfUptoRow.holds Try.pinned (OpenSpec.upto fnExactRowsOfSpec)

/-- 'laws.FnExactFrameAt', WHERE WHAT IT READS IS OF BULK AT MOST 1048576: true; the input reads as it did. -/
def fnExactFrameAtUptoRow : OpenClaim := { program := "ytjmkehcdffpliaa", sum := "58a2bffb76cd3971a59fa4276c90890030382d89d5826592e9ba142fb7ebbce4", func := "loop.example/g01301/laws.FnExactFrameAt", spec := "fnExactFrameAt", unfollowed := true, recurses := true, apart := false, narrowed := true }
def FnExactFrameAtUptoSaid : Prop := fnExactFrameAtUptoRow.holds Try.pinned (OpenSpec.upto fnExactFrameAtSpec)

/-- 'laws.FnExactScratchIn', WHERE WHAT IT READS IS OF BULK AT MOST 1048576: true; the input reads as it did. -/
def fnExactScratchInUptoRow : OpenClaim := { program := "ytjmkehcdffpliaa", sum := "58a2bffb76cd3971a59fa4276c90890030382d89d5826592e9ba142fb7ebbce4", func := "loop.example/g01301/laws.FnExactScratchIn", spec := "fnExactScratchIn", unfollowed := true, recurses := true, apart := false, narrowed := true }
def FnExactScratchInUptoSaid : Prop := fnExactScratchInUptoRow.holds Try.pinned (OpenSpec.upto fnExactScratchInSpec)

/-- 'laws.FnExactPlaceOf', WHERE WHAT IT READS IS OF BULK AT MOST 1048576: true; the input reads as it did. -/
def fnExactPlaceOfUptoRow : OpenClaim := { program := "ytjmkehcdffpliaa", sum := "58a2bffb76cd3971a59fa4276c90890030382d89d5826592e9ba142fb7ebbce4", func := "loop.example/g01301/laws.FnExactPlaceOf", spec := "fnExactPlaceOf", unfollowed := true, recurses := true, apart := false, narrowed := true }
def FnExactPlaceOfUptoSaid : Prop := fnExactPlaceOfUptoRow.holds Try.pinned (OpenSpec.upto fnExactPlaceOfSpec)

/-- 'laws.FnExactDarkestFrame', WHERE WHAT IT READS IS OF BULK AT MOST 1048576: true; the input reads as it did. -/
def fnExactDarkestFrameUptoRow : OpenClaim := { program := "ytjmkehcdffpliaa", sum := "58a2bffb76cd3971a59fa4276c90890030382d89d5826592e9ba142fb7ebbce4", func := "loop.example/g01301/laws.FnExactDarkestFrame", spec := "fnExactDarkestFrame", unfollowed := true, recurses := true, apart := false, narrowed := true }
def FnExactDarkestFrameUptoSaid : Prop := fnExactDarkestFrameUptoRow.holds Try.pinned (OpenSpec.upto fnExactDarkestFrameSpec)

/-- 'laws.FnExactSwapFrames', WHERE WHAT IT READS IS OF BULK AT MOST 1048576: true; the input reads as it did. -/
def fnExactSwapFramesUptoRow : OpenClaim := { program := "ytjmkehcdffpliaa", sum := "58a2bffb76cd3971a59fa4276c90890030382d89d5826592e9ba142fb7ebbce4", func := "loop.example/g01301/laws.FnExactSwapFrames", spec := "fnExactSwapFrames", unfollowed := true, recurses := true, apart := false, narrowed := true }
def FnExactSwapFramesUptoSaid : Prop := fnExactSwapFramesUptoRow.holds Try.pinned (OpenSpec.upto fnExactSwapFramesSpec)

/-- 'laws.FnExactDropFrame', WHERE WHAT IT READS IS OF BULK AT MOST 1048576: true; the input reads as it did. -/
def fnExactDropFrameUptoRow : OpenClaim := { program := "ytjmkehcdffpliaa", sum := "58a2bffb76cd3971a59fa4276c90890030382d89d5826592e9ba142fb7ebbce4", func := "loop.example/g01301/laws.FnExactDropFrame", spec := "fnExactDropFrame", unfollowed := true, recurses := true, apart := false, narrowed := true }
def FnExactDropFrameUptoSaid : Prop := fnExactDropFrameUptoRow.holds Try.pinned (OpenSpec.upto fnExactDropFrameSpec)

/-- 'laws.FnExactPickFrames', WHERE WHAT IT READS IS OF BULK AT MOST 1048576: true; the input reads as it did. -/
def fnExactPickFramesUptoRow : OpenClaim := { program := "ytjmkehcdffpliaa", sum := "58a2bffb76cd3971a59fa4276c90890030382d89d5826592e9ba142fb7ebbce4", func := "loop.example/g01301/laws.FnExactPickFrames", spec := "fnExactPickFrames", unfollowed := true, recurses := true, apart := false, narrowed := true }
def FnExactPickFramesUptoSaid : Prop := fnExactPickFramesUptoRow.holds Try.pinned (OpenSpec.upto fnExactPickFramesSpec)

/-- 'laws.FnExactBestGrade', WHERE WHAT IT READS IS OF BULK AT MOST 1048576: true; the input reads as it did. -/
def fnExactBestGradeUptoRow : OpenClaim := { program := "ytjmkehcdffpliaa", sum := "58a2bffb76cd3971a59fa4276c90890030382d89d5826592e9ba142fb7ebbce4", func := "loop.example/g01301/laws.FnExactBestGrade", spec := "fnExactBestGrade", unfollowed := true, recurses := true, apart := false, narrowed := true }
def FnExactBestGradeUptoSaid : Prop := fnExactBestGradeUptoRow.holds Try.pinned (OpenSpec.upto fnExactBestGradeSpec)

/-- 'laws.FnFrames', WHERE WHAT IT READS IS OF BULK AT MOST 1048576: true; the input reads as it did. -/
def fnFramesUptoRow : OpenClaim := { program := "ytjmkehcdffpliaa", sum := "58a2bffb76cd3971a59fa4276c90890030382d89d5826592e9ba142fb7ebbce4", func := "loop.example/g01301/laws.FnFrames", spec := "fnFrames", unfollowed := true, recurses := true, apart := false, narrowed := true }
def FnFramesUptoSaid : Prop := fnFramesUptoRow.holds Try.pinned (OpenSpec.upto fnFramesSpec)

/-- 'laws.FnExactOrderGrades', WHERE WHAT IT READS IS OF BULK AT MOST 1048576: true; the input reads as it did. -/
def fnExactOrderGradesUptoRow : OpenClaim := { program := "ytjmkehcdffpliaa", sum := "58a2bffb76cd3971a59fa4276c90890030382d89d5826592e9ba142fb7ebbce4", func := "loop.example/g01301/laws.FnExactOrderGrades", spec := "fnExactOrderGrades", unfollowed := true, recurses := true, apart := false, narrowed := true }
def FnExactOrderGradesUptoSaid : Prop := fnExactOrderGradesUptoRow.holds Try.pinned (OpenSpec.upto fnExactOrderGradesSpec)

/-- 'laws.FnExactMedianPrint', WHERE WHAT IT READS IS OF BULK AT MOST 1048576: true; the input reads as it did. -/
def fnExactMedianPrintUptoRow : OpenClaim := { program := "ytjmkehcdffpliaa", sum := "58a2bffb76cd3971a59fa4276c90890030382d89d5826592e9ba142fb7ebbce4", func := "loop.example/g01301/laws.FnExactMedianPrint", spec := "fnExactMedianPrint", unfollowed := true, recurses := true, apart := false, narrowed := true }
def FnExactMedianPrintUptoSaid : Prop := fnExactMedianPrintUptoRow.holds Try.pinned (OpenSpec.upto fnExactMedianPrintSpec)

/-- 'laws.FnExactDustIn', WHERE WHAT IT READS IS OF BULK AT MOST 1048576: true; the input reads as it did. -/
def fnExactDustInUptoRow : OpenClaim := { program := "ytjmkehcdffpliaa", sum := "58a2bffb76cd3971a59fa4276c90890030382d89d5826592e9ba142fb7ebbce4", func := "loop.example/g01301/laws.FnExactDustIn", spec := "fnExactDustIn", unfollowed := true, recurses := true, apart := false, narrowed := true }
def FnExactDustInUptoSaid : Prop := fnExactDustInUptoRow.holds Try.pinned (OpenSpec.upto fnExactDustInSpec)

/-- 'laws.FnExactCleanestCopy', WHERE WHAT IT READS IS OF BULK AT MOST 1048576: true; the input reads as it did. -/
def fnExactCleanestCopyUptoRow : OpenClaim := { program := "ytjmkehcdffpliaa", sum := "58a2bffb76cd3971a59fa4276c90890030382d89d5826592e9ba142fb7ebbce4", func := "loop.example/g01301/laws.FnExactCleanestCopy", spec := "fnExactCleanestCopy", unfollowed := true, recurses := true, apart := false, narrowed := true }
def FnExactCleanestCopyUptoSaid : Prop := fnExactCleanestCopyUptoRow.holds Try.pinned (OpenSpec.upto fnExactCleanestCopySpec)

/-- 'laws.FnGrades', WHERE WHAT IT READS IS OF BULK AT MOST 1048576: true; the input reads as it did. -/
def fnGradesUptoRow : OpenClaim := { program := "ytjmkehcdffpliaa", sum := "58a2bffb76cd3971a59fa4276c90890030382d89d5826592e9ba142fb7ebbce4", func := "loop.example/g01301/laws.FnGrades", spec := "fnGrades", unfollowed := true, recurses := true, apart := false, narrowed := true }
def FnGradesUptoSaid : Prop := fnGradesUptoRow.holds Try.pinned (OpenSpec.upto fnGradesSpec)

end Rows
end Go.Proofs.Ytjmkehcdffpliaa
