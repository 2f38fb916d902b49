/- The library's sort at int8, walked: Walk0. -/
import Derived.Sort.Walk0
import Derived.RowKit
import Derived.Test.YtmnidldpkkpeoaaProg
namespace Go.Proofs.Ytmnidldpkkpeoaa
open Go.RowKit Go.Sort
set_option maxHeartbeats 1000000 in
theorem S8.cmp_isNaN_int (x : Int) (w : World) : Calls Try.prog 106 #[.int .i8 x] w fun e w' => e = .returned (.bool false) ∧ w' = w := by
  go_enter Try.func106, Try.ntmps106
  go_wp2
  go_ret
  exact ⟨by simp, rfl⟩

set_option maxHeartbeats 1000000 in
theorem S8.cmp_Less_int (x y : Int) (w : World) : Calls Try.prog 96 #[.int .i8 x, .int .i8 y] w fun e w' => e = .returned (.bool (Sort.ltInt x y)) ∧ w' = w := by
  go_enter Try.func96, Try.ntmps96
  go_wp2_with (go_at_call 106; refine (S8.cmp_isNaN_int _ _).mono ?_; rintro e w' ⟨rfl, rfl⟩)
  go_ret
  exact ⟨rfl, rfl⟩

end Go.Proofs.Ytmnidldpkkpeoaa
