/- The small functions on numbers and placements. -/
import Derived.Test.YtbafbfamjjmngaaDoorBase
namespace Go.Proofs.YtbafbfamjjmngaaDoor
open Go.RowKit
theorem l00In_c (n a b : Int) (w : World) :
    Calls Tryd.prog 15 #[.int .i64 n, .int .i64 a, .int .i64 b] w fun e w' => e = .returned (.bool (decide (a ≤ n) && decide (n ≤ b))) ∧ w = w' := by
  by_cases h1 : a ≤ n
  · go_enter Tryd.func15, Tryd.ntmps15
    go_wp2
    go_ret
    exact ⟨by simp [h1], rfl⟩
  · have h1' : n < a := by omega
    go_enter Tryd.func15, Tryd.ntmps15
    go_wp2
    go_ret
    exact ⟨by simp; omega, rfl⟩
theorem within_c (n a b : Int) (w : World) :
    Calls Tryd.prog 20 #[.int .i64 n, .int .i64 a, .int .i64 b] w fun e w' => e = .returned (.bool (decide (a ≤ n) && decide (n ≤ b))) ∧ w = w' := by
  by_cases h1 : a ≤ n
  · go_enter Tryd.func20, Tryd.ntmps20
    go_wp2
    go_ret
    exact ⟨by simp [h1], rfl⟩
  · have h1' : n < a := by omega
    go_enter Tryd.func20, Tryd.ntmps20
    go_wp2
    go_ret
    exact ⟨by simp; omega, rfl⟩
def rdB (n : Int) : Bool := decide (0 ≤ n) && decide (n ≤ 60)
def znB (n : Int) : Bool := decide (0 ≤ n) && decide (n ≤ 10)
theorem rdB_iff (n : Int) : rdB n = true ↔ 0 ≤ n ∧ n ≤ 60 := by simp [rdB]
theorem znB_iff (n : Int) : znB n = true ↔ 0 ≤ n ∧ n ≤ 10 := by simp [znB]
end Go.Proofs.YtbafbfamjjmngaaDoor
