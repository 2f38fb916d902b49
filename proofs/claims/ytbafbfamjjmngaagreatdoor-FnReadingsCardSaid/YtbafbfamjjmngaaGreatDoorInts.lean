/- The small functions on numbers and placements. -/
import Derived.Test.YtbafbfamjjmngaaGreatDoorBase
namespace Go.Proofs.YtbafbfamjjmngaaGreatDoor
open Go.RowKit
theorem l00In_c (n a b : Int) (w : World) :
    Calls Tryz.prog 37 #[.int .i64 n, .int .i64 a, .int .i64 b] w fun e w' => e = .returned (.bool (decide (a ≤ n) && decide (n ≤ b))) ∧ w = w' := by
  by_cases h1 : a ≤ n
  · go_enter Tryz.func37, Tryz.ntmps37
    go_wp2
    go_ret
    exact ⟨by simp [h1], rfl⟩
  · have h1' : n < a := by omega
    go_enter Tryz.func37, Tryz.ntmps37
    go_wp2
    go_ret
    exact ⟨by simp; omega, rfl⟩
theorem within_c (n a b : Int) (w : World) :
    Calls Tryz.prog 34 #[.int .i64 n, .int .i64 a, .int .i64 b] w fun e w' => e = .returned (.bool (decide (a ≤ n) && decide (n ≤ b))) ∧ w = w' := by
  by_cases h1 : a ≤ n
  · go_enter Tryz.func34, Tryz.ntmps34
    go_wp2
    go_ret
    exact ⟨by simp [h1], rfl⟩
  · have h1' : n < a := by omega
    go_enter Tryz.func34, Tryz.ntmps34
    go_wp2
    go_ret
    exact ⟨by simp; omega, rfl⟩
def rdB (n : Int) : Bool := decide (0 ≤ n) && decide (n ≤ 60)
def znB (n : Int) : Bool := decide (0 ≤ n) && decide (n ≤ 10)
theorem rdB_iff (n : Int) : rdB n = true ↔ 0 ≤ n ∧ n ≤ 60 := by simp [rdB]
theorem znB_iff (n : Int) : znB n = true ↔ 0 ≤ n ∧ n ≤ 10 := by simp [znB]
theorem l06Reading_c (n : Int) (w : World) :
    Calls Tryz.prog 46 #[.int .i64 n] w fun e w' => e = .returned (.bool (rdB n)) ∧ w = w' := by
  go_enter Tryz.func46, Tryz.ntmps46
  go_wp2_with (go_at_call 37; refine (l00In_c _ _ _ _).mono ?_; rintro e w' ⟨rfl, rfl⟩)
  go_ret
  exact ⟨rfl, rfl⟩
theorem isReading_c (n : Int) (w : World) :
    Calls Tryz.prog 41 #[.int .i64 n] w fun e w' => e = .returned (.bool (rdB n)) ∧ w = w' := by
  go_enter Tryz.func41, Tryz.ntmps41
  go_wp2_with (go_at_call 34; refine (within_c _ _ _ _).mono ?_; rintro e w' ⟨rfl, rfl⟩)
  go_ret
  exact ⟨rfl, rfl⟩
end Go.Proofs.YtbafbfamjjmngaaGreatDoor
