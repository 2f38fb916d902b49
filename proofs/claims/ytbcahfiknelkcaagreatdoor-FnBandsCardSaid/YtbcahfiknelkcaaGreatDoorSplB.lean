/- A text split at a byte (the reference). -/
import Derived.Test.YtbcahfiknelkcaaGreatDoorNumB
import Derived.Test.YtbcahfiknelkcaaGreatDoorSceneI
namespace Go.Proofs.YtbcahfiknelkcaaGreatDoor
open Go.RowKit
/-- The pieces that are complete within the first i bytes, and where the next one begins. -/
def spO (s : ByteArray) (c : Nat) : Nat → List ByteArray × Nat
  | 0 => ([], 0)
  | i + 1 => if bU s i = c then ((spO s c i).1 ++ [s.extract (spO s c i).2 i], i + 1) else spO s c i
theorem spO_le (s : ByteArray) (c : Nat) : ∀ i, (spO s c i).2 ≤ i ∧ (spO s c i).1.length ≤ i
  | 0 => ⟨Nat.le_refl _, Nat.le_refl _⟩
  | i + 1 => by
    have ih := spO_le s c i
    unfold spO
    split
    · exact ⟨Nat.le_refl _, by simp; omega⟩
    · omega
def spL (s : ByteArray) (c : Nat) : List ByteArray := (spO s c s.size).1 ++ [s.extract (spO s c s.size).2 s.size]
end Go.Proofs.YtbcahfiknelkcaaGreatDoor
