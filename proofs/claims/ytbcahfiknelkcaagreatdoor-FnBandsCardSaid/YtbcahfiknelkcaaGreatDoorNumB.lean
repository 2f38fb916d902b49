/- A number read from a text (the reference). -/
import Derived.Test.YtbcahfiknelkcaaGreatDoorBase
import Derived.Laws.IdiomStrings
namespace Go.Proofs.YtbcahfiknelkcaaGreatDoor
open Go.RowKit
/-- The byte of a text at a place. -/
def bU (s : ByteArray) (i : Nat) : Nat := (s.data[i]?.getD 0).toNat
theorem bU_lt (s : ByteArray) (i : Nat) : bU s i < 256 := UInt8.toNat_lt _
theorem bU_get (s : ByteArray) (i : Nat) (h : i < s.size) : (s[i]'h).toNat = bU s i := by unfold bU; rw [Array.getElem?_eq_getElem h]; rfl
def isD (b : Nat) : Bool := decide (48 ≤ b) && decide (b ≤ 57)
/-- The first k bytes are digits. -/
def digT (s : ByteArray) : Nat → Bool
  | 0 => true
  | k + 1 => digT s k && isD (bU s k)
def numF (s : ByteArray) : Nat → Nat
  | 0 => 0
  | k + 1 => 10 * numF s k + (bU s k - 48)
theorem digT_at {s : ByteArray} : ∀ {n : Nat}, digT s n = true → ∀ k, k < n → isD (bU s k) = true
  | 0, _, k, hk => absurd hk (Nat.not_lt_zero _)
  | n + 1, h, k, hk => by
    unfold digT at h
    rw [Bool.and_eq_true] at h
    by_cases e : k = n
    · subst e; exact h.2
    · exact digT_at h.1 k (by omega)
theorem numF_lt {s : ByteArray} : ∀ n, digT s n = true → numF s n < 10 ^ n
  | 0, _ => Nat.one_pos
  | n + 1, h => by
    unfold digT at h
    rw [Bool.and_eq_true] at h
    have ih := numF_lt n h.1
    have hd := h.2
    simp only [isD, Bool.and_eq_true, decide_eq_true_eq] at hd
    unfold numF
    rw [Nat.pow_succ]
    omega
def numV (s : ByteArray) : Nat × Bool := if s.size = 0 ∨ 9 < s.size ∨ (bU s 0 = 48 ∧ 1 < s.size) ∨ digT s s.size = false then (0, false) else (numF s s.size, true)
theorem numV_no {s : ByteArray} (h : s.size = 0 ∨ 9 < s.size ∨ (bU s 0 = 48 ∧ 1 < s.size) ∨ digT s s.size = false) : numV s = (0, false) := by unfold numV; rw [if_pos h]
theorem numV_yes {s : ByteArray} (h : ¬ (s.size = 0 ∨ 9 < s.size ∨ (bU s 0 = 48 ∧ 1 < s.size) ∨ digT s s.size = false)) : numV s = (numF s s.size, true) := by unfold numV; rw [if_neg h]
theorem digT_le {s : ByteArray} {k n : Nat} (h : k ≤ n) (hd : digT s k = false) : digT s n = false := by
  cases e : digT s n
  · rfl
  · have : ∀ m, m ≤ n → digT s m = true := by
      intro m
      induction m with
      | zero => intro _; rfl
      | succ m ih =>
        intro hm
        unfold digT
        rw [ih (by omega), digT_at e m (by omega)]; rfl
    rw [this k h] at hd; cases hd
end Go.Proofs.YtbcahfiknelkcaaGreatDoor
