/- Placements. -/
import Derived.Test.YtbafbfamjjmngaaGreatDoorInts
namespace Go.Proofs.YtbafbfamjjmngaaGreatDoor
open Go.RowKit
def plV (r z : Int) : Value := .agg #[.int .i8 r, .int .i8 z]
def plB (r z : Int) : Bool := rdB r && znB z
theorem plB_iff (r z : Int) : plB r z = true ↔ (0 ≤ r ∧ r ≤ 60) ∧ 0 ≤ z ∧ z ≤ 10 := by simp [plB, rdB_iff, znB_iff]
theorem tdiv3_neg (n : Int) (h : n < 0) : n.tdiv 3 = -((-n) / 3) := by
  rw [← Int.tdiv_eq_ediv_of_nonneg (by omega : 0 ≤ -n), Int.neg_tdiv]; omega
theorem tmod3 (n : Int) : n.tmod 3 = n - 3 * n.tdiv 3 := by
  have := Int.tmod_add_mul_tdiv n 3; omega
def znV (r z n : Int) : Int := z + (n - r + 1) / 3
end Go.Proofs.YtbafbfamjjmngaaGreatDoor
