/- Zones of all cells, and the masks of those off the scale. -/
import Derived.Test.YtbafbfamjjmngaaGreatDoorScene
import Derived.Test.YtbafbfamjjmngaaGreatDoorBits
import Derived.Test.YtbafbfamjjmngaaGreatDoorPlac
import Derived.Deep.RegionHeld3
namespace Go.Proofs.YtbafbfamjjmngaaGreatDoor
open Go.RowKit
def zonesL (xs : List Int) (r z : Int) : List Int := xs.map (znV r z)
theorem zonesL_len (xs : List Int) (r z : Int) : (zonesL xs r z).length = xs.length := by simp [zonesL]
theorem zonesL_get (xs : List Int) (r z : Int) (k : Nat) (h : k < xs.length) : (zonesL xs r z).getD k 0 = znV r z (xs.getD k 0) := by
  simp [zonesL, List.getD_eq_getElem?_getD, h]
/-- A valid placement. -/
def Pl (r z : Int) : Prop := (0 ≤ r ∧ r ≤ 60) ∧ 0 ≤ z ∧ z ≤ 10
theorem zn_bd {r z n : Int} (hp : Pl r z) (hn : 0 ≤ n ∧ n ≤ 60) : -20 ≤ znV r z n ∧ znV r z n ≤ 30 := by
  obtain ⟨⟨h1, h2⟩, h3, h4⟩ := hp
  unfold znV; omega
end Go.Proofs.YtbafbfamjjmngaaGreatDoor
