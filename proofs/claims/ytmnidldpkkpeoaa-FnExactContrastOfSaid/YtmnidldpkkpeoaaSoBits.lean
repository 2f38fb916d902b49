/- The library's sort at int8, walked: Bits. -/
import Derived.Test.YtmnidldpkkpeoaaSoBits64
import Derived.Ground.So_math_bits_Len
import Derived.RowKit
import Derived.Test.YtmnidldpkkpeoaaProg
namespace Go.Proofs.Ytmnidldpkkpeoaa
open Go.RowKit
theorem S8.bits_Len (x : Int) (w : World) (h0 : 0 ≤ x) (h1 : x ≤ 18446744073709551615) :
    Calls Try.prog 86 #[.int .u64 x] w fun e w' => e = .returned (.int .i64 (Lib.bitLen x.toNat)) ∧ w' = w := by
  go_enter Try.func86, Try.ntmps86
  go_wp2_with (go_at_call 100; refine (S8.bits_Len64 x _ h0 h1).mono ?_; rintro e w' ⟨rfl, rfl⟩)
  go_ret
  exact ⟨rfl, rfl⟩

end Go.Proofs.Ytmnidldpkkpeoaa
