/- FrameAt. -/
import Derived.Test.YtpapmplmldfhpaaRowsOf
namespace Go.Proofs.Ytpapmplmldfhpaa
open Go.RowKit
def frAt (a : Int) (n : Nat) (x y : Int) : Bool := ((decide (0 ≤ x) && decide (x ≤ a - 1)) && (decide (0 ≤ y) && decide (y ≤ 12))) && decide (y * a + x < n)
def frV (a : Int) (l : List (List Int)) (x y : Int) : Int × Int := if shB a l then (if frAt a l.length x y then (y * a + x, 0) else (0, 6)) else (0, 1)
theorem mul_in (y a : Int) (h0 : 0 ≤ y) (h1 : y ≤ 12) (h2 : 1 ≤ a) (h3 : a ≤ 12) : 0 ≤ y * a ∧ y * a ≤ 144 := by
  constructor
  · exact Int.mul_nonneg h0 (by omega)
  · exact Int.le_trans (Int.mul_le_mul h1 h3 (by omega) (by omega)) (by omega)
theorem isFrame_c (a : Int) (p : Option Addr) (n c : Nat) (i : Int) (w : World) (hn : n ≤ 1048576) :
    Calls Try.prog 56 #[.agg #[.int .i8 a, .slice p n c], .int .i64 i] w fun e w' => e = .returned (.bool (decide (0 ≤ i) && decide (i ≤ (n : Int) - 1))) ∧ Below w.heap.size w w' := by
  go_enter Try.func56, Try.ntmps56
  go_wp2_with (first
    | (go_at_call 49; refine (length_c _ _ _ _ hn).mono ?_; rintro e w' ⟨rfl, rfl⟩)
    | (go_at_call 60; refine (within_c _ _ _ _).mono ?_; rintro e w' ⟨rfl, rfl⟩))
  go_ret
  exact ⟨rfl, bl1 _ _⟩
end Go.Proofs.Ytpapmplmldfhpaa
