/- FnSpots: a mask's text tells the mask. -/
import Derived.Test.YtdmlefccajaniaaDoorReadMask
namespace Go.Proofs.YtdmlefccajaniaaDoor
open Go.RowKit
theorem rmP_mtS (m j : Nat) (hj : j < 64) : rmP (mtS m) j = m.testBit j := by
  unfold rmP
  rw [mtS_bAt m _ (by omega), byteAt, if_neg (by omega), show (j / 8 * 9 + j % 8) / 9 * 8 + (j / 8 * 9 + j % 8) % 9 = j by omega]
  cases m.testBit j <;> rfl
theorem rmV_mtS {m : Nat} (hm : m < 2 ^ 64) : rmV (mtS m) = (m, 0) := by
  rw [rmV_yes ⟨mtS_size m, fun i hi => mtS_ok m i hi⟩]
  have : maskOf (rmP (mtS m)) 64 = m := by
    apply Nat.eq_of_testBit_eq
    intro j
    rw [maskOf_bit]
    by_cases hj : j < 64
    · rw [rmP_mtS m j hj]; simp [hj]
    · rw [Nat.testBit_lt_two_pow (Nat.lt_of_lt_of_le hm (Nat.pow_le_pow_right (by omega) (by omega)))]; simp [hj]
  rw [this]
end Go.Proofs.YtdmlefccajaniaaDoor
