/- The text of a scene: the reference's. -/
import Derived.Test.YtbcahfiknelkcaaGreatDoorScene
import Derived.Test.YtbcahfiknelkcaaGreatDoorDec
namespace Go.Proofs.YtbcahfiknelkcaaGreatDoor
open Go.RowKit
def dgI (x : Int) : ByteArray := dgS x.toNat
theorem dgS_size {n : Nat} (h : n < 100) : (dgS n).size ≤ 2 := by
  by_cases h1 : n < 10
  · unfold dgS; rw [dg_one h1]; show (1 : Nat) ≤ 2; omega
  · unfold dgS; rw [dg_two h1, dg_one (show n / 10 < 10 by omega)]; show (2 : Nat) ≤ 2; omega
def sepB (k : Nat) : ByteArray := if k = 0 then ⟨#[]⟩ else if k % 6 = 0 then ⟨#[47]⟩ else ⟨#[32]⟩
/-- The text of the first k cells. -/
def scT (xs : List Int) : Nat → ByteArray
  | 0 => ⟨#[]⟩
  | k + 1 => (scT xs k ++ sepB k) ++ dgI (xs.getD k 0)
theorem scT_size (xs : List Int) (h : ∀ k, 0 ≤ xs.getD k 0 ∧ xs.getD k 0 ≤ 60) : ∀ k, (scT xs k).size ≤ 3 * k
  | 0 => Nat.le_refl _
  | k + 1 => by
    have ih := scT_size xs h k
    have hd := dgS_size (n := (xs.getD k 0).toNat) (by have := h k; omega)
    have hs : (sepB k).size ≤ 1 := by
      unfold sepB; split
      · decide
      · split <;> decide
    show ((scT xs k ++ sepB k) ++ dgS (xs.getD k 0).toNat).size ≤ _
    rw [ByteArray.size_append, ByteArray.size_append]
    omega
theorem okS_all {xs : List Int} (h : okS xs = true) (k : Nat) : 0 ≤ xs.getD k 0 ∧ xs.getD k 0 ≤ 60 := okS_get h k
end Go.Proofs.YtbcahfiknelkcaaGreatDoor
