/- Masks of 64 cells: what they are, bit by bit. -/
import Derived.Test.YtdmlefccajaniaaDoorMaskOf
import Derived.Laws.BitsAllLaws
namespace Go.Proofs.YtdmlefccajaniaaDoor
open Go.RowKit
def isM (D : Nat) (pr : Nat → Bool) : Prop := D < 2 ^ 64 ∧ ∀ j, j < 64 → D.testBit j = pr j
theorem isM_eq {D : Nat} {pr : Nat → Bool} (h : isM D pr) : D = maskOf pr 64 := by
  apply Nat.eq_of_testBit_eq
  intro j
  rw [maskOf_bit]
  by_cases hj : j < 64
  · simp [hj, h.2 j hj]
  · rw [Nat.testBit_lt_two_pow (Nat.lt_of_lt_of_le h.1 (Nat.pow_le_pow_right (by omega) (by omega)))]; simp [hj]
theorem isM_mask (pr : Nat → Bool) : isM (maskOf pr 64) pr := ⟨maskOf_lt pr 64, fun j hj => by rw [maskOf_bit]; simp [hj]⟩
theorem isM_all : isM 18446744073709551615 (fun _ => true) := ⟨by decide, fun j hj => by
  have := Nat.testBit_two_pow_sub_one 64 j
  rw [show 2 ^ 64 - 1 = 18446744073709551615 from rfl] at this
  rw [this]; simp [hj]⟩
theorem isM_congr {D : Nat} {pr qr : Nat → Bool} (h : isM D pr) (e : ∀ j, j < 64 → pr j = qr j) : isM D qr := ⟨h.1, fun j hj => (h.2 j hj).trans (e j hj)⟩
theorem testBit_not (b j : Nat) (hb : b < 2 ^ 64) (hj : j < 64) : (18446744073709551615 - b).testBit j = !b.testBit j := by
  have := Nat.testBit_two_pow_sub_succ hb j
  rw [show 2 ^ 64 - (b + 1) = 18446744073709551615 - b by omega] at this
  rw [this]; simp [hj]
/-- A mask without one cell; without another mask. -/
def clr (D i : Nat) : Nat := D &&& (18446744073709551615 - 2 ^ i)
def dif64 (D E : Nat) : Nat := D &&& (18446744073709551615 - E)
theorem isM_clear {D : Nat} {pr : Nat → Bool} (h : isM D pr) (i : Nat) (hi : i < 64) : isM (clr D i) (fun j => pr j && decide (j ≠ i)) := by
  unfold clr
  refine ⟨Nat.lt_of_le_of_lt Nat.and_le_left h.1, fun j hj => ?_⟩
  rw [Nat.testBit_and, h.2 j hj, testBit_not _ _ (Nat.pow_lt_pow_right (by omega) (by omega)) hj, Nat.testBit_two_pow]
  congr 1
  by_cases e : i = j
  · subst e; simp
  · simp [e, Ne.symm e]
theorem isM_and {D E : Nat} {pr qr : Nat → Bool} (h : isM D pr) (k : isM E qr) : isM (D &&& E) (fun j => pr j && qr j) :=
  ⟨Nat.lt_of_le_of_lt Nat.and_le_left h.1, fun j hj => by rw [Nat.testBit_and, h.2 j hj, k.2 j hj]⟩
theorem isM_or {D E : Nat} {pr qr : Nat → Bool} (h : isM D pr) (k : isM E qr) : isM (D ||| E) (fun j => pr j || qr j) :=
  ⟨Nat.or_lt_two_pow h.1 k.1, fun j hj => by rw [Nat.testBit_or, h.2 j hj, k.2 j hj]⟩
theorem isM_andNot {D E : Nat} {pr qr : Nat → Bool} (h : isM D pr) (k : isM E qr) : isM (dif64 D E) (fun j => pr j && !qr j) := by
  unfold dif64
  exact ⟨Nat.lt_of_le_of_lt Nat.and_le_left h.1, fun j hj => by rw [Nat.testBit_and, h.2 j hj, testBit_not _ _ k.1 hj, k.2 j hj]⟩
theorem pow64 (k : Nat) (hk : k < 64) : IntKind.u64.wrap ((2 : Int) ^ k) = 2 ^ k := by
  have : ∀ k : Fin 64, (0 : Int) ≤ 2 ^ k.val ∧ (2 : Int) ^ k.val < 2 ^ 64 := by decide
  exact wr_u64 _ (this ⟨k, hk⟩).1 (this ⟨k, hk⟩).2
theorem clear_int (D i : Nat) (hD : D < 2 ^ 64) (hi : i < 64) : bits .andNot .u64 (D : Int) (IntKind.u64.wrap ((2 : Int) ^ i)) = ((clr D i : Nat) : Int) := by
  unfold clr
  have := u64_andNot_nat D (2 ^ i) hD (Nat.pow_lt_pow_right (by omega) (by omega) : 2 ^ i < 2 ^ 64)
  rw [pow64 i hi, ← this]; simp
theorem set_int (D i : Nat) (hD : D < 2 ^ 64) (hi : i < 64) : bits .or .u64 (D : Int) (IntKind.u64.wrap ((2 : Int) ^ i)) = ((D ||| 2 ^ i : Nat) : Int) := by
  have := or64 D (2 ^ i) hD (Nat.pow_lt_pow_right (by omega) (by omega))
  rw [pow64 i hi, ← this]; simp
theorem isM_set {D : Nat} {pr : Nat → Bool} (h : isM D pr) (i : Nat) (hi : i < 64) : isM (D ||| 2 ^ i) (fun j => pr j || decide (j = i)) := by
  refine ⟨Nat.or_lt_two_pow h.1 (Nat.pow_lt_pow_right (by omega) (by omega)), fun j hj => ?_⟩
  rw [Nat.testBit_or, h.2 j hj, Nat.testBit_two_pow]
  congr 1
  by_cases e : i = j
  · subst e; simp
  · simp [e, Ne.symm e]
theorem andNot_int (D E : Nat) (hD : D < 2 ^ 64) (hE : E < 2 ^ 64) : bits .andNot .u64 (D : Int) (E : Int) = ((dif64 D E : Nat) : Int) := u64_andNot_nat D E hD hE
end Go.Proofs.YtdmlefccajaniaaDoor
