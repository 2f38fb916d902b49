/- Lists of whole numbers: how the laws compare, mark and read them again. -/
import Derived.Test.YtbafbfamjjmngaaGreatDoorRow
import Derived.Test.YtbafbfamjjmngaaGreatDoorStoreArr
namespace Go.Proofs.YtbafbfamjjmngaaGreatDoor
open Go.RowKit
/-- Where a list lies, below a block. -/
def PB_u32 (w : World) (B : Nat) (p : Option Addr) (xs : List Int) : Prop := xs ≠ [] → ∃ b o, p = some ⟨b, o, none⟩ ∧ b < B ∧ ∀ i, i < xs.length → w.cell? ⟨b, o + i, none⟩ = some (.int .u32 (xs.getD i 0))
theorem PB_u32_below {w w1 : World} {B : Nat} {p : Option Addr} {xs : List Int} (hb : Below B w w1) (h : PB_u32 w B p xs) : PB_u32 w1 B p xs := fun hne => by
  obtain ⟨b, o, h1, h2, h3⟩ := h hne
  exact ⟨b, o, h1, h2, fun i hi => by rw [hb.cell (p := ⟨b, o + i, none⟩) h2]; exact h3 i hi⟩
theorem PB_u32_row {w : World} {base : Nat} {v : Value} {xs : List Int} (h : Row w base 36 .u32 v xs) : ∃ p cap, v = .slice p xs.length cap ∧ PB_u32 w w.heap.size p xs := by
  by_cases hne : xs = []
  · subst hne
    obtain ⟨_, h2⟩ := h
    rcases h2 with ⟨h2, _⟩ | ⟨g, cap, cur, hv, _⟩
    · exact ⟨none, 0, h2, fun h => absurd rfl h⟩
    · exact ⟨_, cap, hv, fun h => absurd rfl h⟩
  · obtain ⟨g, cap, hv, _, hg, _, _, hc⟩ := row_shape h hne
    exact ⟨_, cap, hv, fun _ => ⟨g, 0, rfl, hg, fun i hi => by rw [Nat.zero_add]; exact hc i hi⟩⟩
theorem neL_of_lt_u32 {l : List Int} {k : Nat} (h : k < l.length) : l ≠ [] := by rintro rfl; simp at h
/-- The marks. -/
def mkL_u32 (k0 : Int) (n : Nat) : List Int := (List.range n).map fun (t : Nat) => k0 + (t : Int)
theorem mkL_u32_len (k0 : Int) (n : Nat) : (mkL_u32 k0 n).length = n := by simp [mkL_u32]
theorem mkL_u32_get (k0 : Int) (n j : Nat) (h : j < n) : (mkL_u32 k0 n).getD j 0 = k0 + (j : Int) := by
  simp [mkL_u32, List.getD_eq_getElem?_getD, h]
theorem mkL_u32_succ (k0 : Int) (n : Nat) : mkL_u32 k0 (n + 1) = mkL_u32 k0 n ++ [k0 + (n : Int)] := by
  simp [mkL_u32, List.range_succ]
theorem mk_step_u32 (k0 : Int) (xs : List Int) (j : Nat) (h : j < xs.length) : (mkL_u32 k0 j ++ xs.drop j).set j (k0 + (j : Int)) = mkL_u32 k0 (j + 1) ++ xs.drop (j + 1) := by
  rw [List.set_append_right _ _ (by rw [mkL_u32_len]; exact Nat.le_refl _), mkL_u32_len, Nat.sub_self, List.drop_eq_getElem_cons h, List.set_cons_zero, mkL_u32_succ, List.append_assoc]
  rfl
end Go.Proofs.YtbafbfamjjmngaaGreatDoor

