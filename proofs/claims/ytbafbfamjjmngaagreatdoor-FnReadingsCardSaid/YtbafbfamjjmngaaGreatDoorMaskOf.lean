/- Masks as numbers: the bits of a test (the plain part of Pop, for a seat without Pop's functions). -/
import Derived.Test.YtbafbfamjjmngaaGreatDoorBits
namespace Go.Proofs.YtbafbfamjjmngaaGreatDoor
open Go.RowKit
def maskOf (p : Nat → Bool) : Nat → Nat
  | 0 => 0
  | k + 1 => maskOf p k ||| (if p k then 2 ^ k else 0)
theorem maskOf_bit (p : Nat → Bool) (k i : Nat) : (maskOf p k).testBit i = (decide (i < k) && p i) := by
  induction k with
  | zero => simp [maskOf]
  | succ k ih =>
    simp only [maskOf, Nat.testBit_or, ih]
    by_cases hk : p k
    · simp only [hk, if_true, Nat.testBit_two_pow]
      by_cases e : k = i
      · subst e; simp [hk]
      · by_cases h : i < k
        · simp [h, show i < k + 1 by omega, e]
        · simp [h, show ¬ i < k + 1 by omega, e]
    · simp only [hk]
      by_cases e : k = i
      · subst e; simp [hk]
      · by_cases h : i < k
        · simp [h, show i < k + 1 by omega]
        · simp [h, show ¬ i < k + 1 by omega]
theorem maskOf_lt (p : Nat → Bool) (k : Nat) : maskOf p k < 2 ^ k :=
  Nat.lt_pow_two_of_testBit _ fun i hi => by rw [maskOf_bit]; simp; omega
theorem maskOf_or (p q : Nat → Bool) (k : Nat) : maskOf p k ||| maskOf q k = maskOf (fun i => p i || q i) k := by
  apply Nat.eq_of_testBit_eq
  intro i
  rw [Nat.testBit_or, maskOf_bit, maskOf_bit, maskOf_bit]
  cases decide (i < k) <;> simp
theorem maskOf_congr {p q : Nat → Bool} (k : Nat) (h : ∀ i, i < k → p i = q i) : maskOf p k = maskOf q k := by
  induction k with
  | zero => rfl
  | succ k ih => simp only [maskOf]; rw [ih (fun i hi => h i (by omega)), h k (by omega)]
theorem maskOf_add (p : Nat → Bool) (k : Nat) : maskOf p (k + 1) = maskOf p k + if p k then 2 ^ k else 0 := by
  simp only [maskOf]
  by_cases h : p k
  · have := Nat.two_pow_add_eq_or_of_lt (maskOf_lt p k) 1
    simp only [h, if_true, Nat.mul_one] at this ⊢
    rw [Nat.or_comm, ← this, Nat.add_comm]
  · simp [h]
end Go.Proofs.YtbafbfamjjmngaaGreatDoor
