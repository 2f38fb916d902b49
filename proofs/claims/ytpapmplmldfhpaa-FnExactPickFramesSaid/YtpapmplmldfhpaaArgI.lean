/- Arguments that are lists of whole numbers: opened. -/
import Derived.Test.YtpapmplmldfhpaaArgS
import Derived.Test.YtpapmplmldfhpaaSheetCode
import Derived.ChangeSlices
namespace Go.Proofs.Ytpapmplmldfhpaa
open Go.RowKit Go.Deep
section
variable {H : Type} {enc : TypeId × Value → H} {P : Program} {w : World} {base : Nat} {spare : Nat → Bool} {held : Bool}
theorem open_i64sV {t e : TypeId} (ht : P.underlying t = some (.slice e)) (he : P.underlying e = some (.int .i64)) (hC : P.cellsOf e = 1)
    {r : Reach} {b0 : Nat} {v : Value} {d : DataW H} {pl : List MemPlace} (hv : Value.okWide P w r b0 t v) (h : DataW.Trod enc P w base spare held t v d pl) :
    ∃ (p : Option Addr) (n c : Nat) (fs : List Int), v = .slice p n c ∧ n = fs.length ∧ PI w p fs ∧ n ≤ 9223372036854775807 := by
  have hv' : Cell.okWide P w r b0 t v := by simpa only [Value.okWide, ht] using hv
  obtain ⟨fuel, hf⟩ := h
  have hc : v.cells.toList = [v] := by
    simp only [Cell.okWide, ht, Cell.ok] at hv'
    cases v <;> first | rfl | simp at hv'
  rw [hc] at hf
  rcases ChangeShapes.open_ints ht he hC hf with ⟨hcs, _⟩ | ⟨a, len, cap, zs, hcs, _, hl, hm, hz, _, hcell, _⟩
  · simp only [List.cons.injEq, and_true] at hcs
    subst hcs
    exact ⟨none, 0, 0, [], rfl, rfl, fun h => absurd rfl h, by omega⟩
  · simp only [List.cons.injEq, and_true] at hcs
    subst hcs
    have hs : a.spot = none := by
      simp only [Cell.okWide, ht, Cell.ok] at hv'
      exact hv'.2.2.2.1
    obtain ⟨b, o, sp⟩ := a
    simp only at hs
    subst hs
    have hle : len ≤ zs.length := by rw [hz]; split <;> omega
    refine ⟨_, len, cap, zs.take len, rfl, by rw [List.length_take]; omega, fun hne => ⟨b, o, rfl, ?_, fun i hi => ?_⟩, by simp [maxLen] at hm; omega⟩
    · have h0 : 0 < zs.length := by
        rcases Nat.eq_zero_or_pos zs.length with h0 | h0
        · rw [List.length_eq_zero_iff.1 h0] at hne; simp at hne
        · exact h0
      have := hcell 0 h0
      rw [Addr.add_mid] at this
      exact World.block_lt_of_cell? w _ this
    · rw [List.length_take] at hi
      have h1 := hcell i (by omega)
      rw [Addr.add_mid] at h1
      rw [h1]
      have : i < len := by omega
      simp [List.getD_eq_getElem?_getD, this]
end
end Go.Proofs.Ytpapmplmldfhpaa
