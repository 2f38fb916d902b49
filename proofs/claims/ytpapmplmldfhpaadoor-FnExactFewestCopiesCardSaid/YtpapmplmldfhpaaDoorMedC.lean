/- MedianPrint: the reference and the program. -/
import Derived.Test.YtpapmplmldfhpaaDoorMedI
import Derived.Test.YtpapmplmldfhpaaDoorScratch
namespace Go.Proofs.YtpapmplmldfhpaaDoor
open Go.RowKit Go.Lib
def mpV (l : List (List Int)) : List Int × Int := if cpV l true = 0 then (medP l, 0) else (Z64, cpV l true)
theorem mpV_len (l : List (List Int)) : (mpV l).1.length = 64 := by
  unfold mpV; split
  · exact medP_length l
  · exact Z64_length
theorem cpV_zero_len {l : List (List Int)} {f : Bool} (h : cpV l f = 0) : 0 < l.length ∧ l.length ≤ 8 := by
  obtain ⟨_, h1, h2, _⟩ := cpV_zero h
  exact ⟨h1, h2⟩
end Go.Proofs.YtpapmplmldfhpaaDoor
