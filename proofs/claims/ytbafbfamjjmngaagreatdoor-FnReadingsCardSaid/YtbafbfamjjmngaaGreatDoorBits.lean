/- Operations on bits, on numbers that are not less than 0. -/
import Derived.Test.YtbafbfamjjmngaaGreatDoorBase
namespace Go.Proofs.YtbafbfamjjmngaaGreatDoor
open Go.RowKit
theorem wr_u32 (n : Int) (h0 : 0 ≤ n) (h1 : n < 2 ^ 32) : IntKind.u32.wrap n = n := by simp [IntKind.wrap, IntKind.bits, IntKind.signed]; omega
theorem wr_u64 (n : Int) (h0 : 0 ≤ n) (h1 : n < 2 ^ 64) : IntKind.u64.wrap n = n := by simp [IntKind.wrap, IntKind.bits, IntKind.signed]; omega
theorem and32 (a b : Nat) (ha : a < 2 ^ 32) (hb : b < 2 ^ 32) : bits .and .u32 a b = ((a &&& b : Nat) : Int) := (bits_nat .u32 32 (by decide) wr_u32 a b ha hb).1
theorem or32 (a b : Nat) (ha : a < 2 ^ 32) (hb : b < 2 ^ 32) : bits .or .u32 a b = ((a ||| b : Nat) : Int) := (bits_nat .u32 32 (by decide) wr_u32 a b ha hb).2
theorem and64 (a b : Nat) (ha : a < 2 ^ 64) (hb : b < 2 ^ 64) : bits .and .u64 a b = ((a &&& b : Nat) : Int) := (bits_nat .u64 64 (by decide) wr_u64 a b ha hb).1
theorem or64 (a b : Nat) (ha : a < 2 ^ 64) (hb : b < 2 ^ 64) : bits .or .u64 a b = ((a ||| b : Nat) : Int) := (bits_nat .u64 64 (by decide) wr_u64 a b ha hb).2
theorem and32_one (f : Int) (hf : 0 ≤ f ∧ f ≤ 4294967295) : bits .and .u32 f 1 = f % 2 := by
  obtain ⟨n, rfl⟩ := Int.eq_ofNat_of_zero_le hf.1
  have := and32 n 1 (by omega) (by decide)
  rw [show ((1 : Nat) : Int) = 1 from rfl] at this
  rw [this, Nat.and_one_is_mod]
  omega
theorem shr_bd (f : Int) (i : Nat) (hf : 0 ≤ f ∧ f ≤ 4294967295) : 0 ≤ f / 2 ^ i ∧ f / 2 ^ i ≤ 4294967295 := by
  have hp : (0 : Int) < 2 ^ i := Int.pow_pos (by omega)
  have h1 : (1 : Int) ≤ 2 ^ i := hp
  refine ⟨Int.ediv_nonneg hf.1 (by omega), ?_⟩
  have := Int.ediv_le_self (2 ^ i) hf.1
  omega
end Go.Proofs.YtbafbfamjjmngaaGreatDoor
