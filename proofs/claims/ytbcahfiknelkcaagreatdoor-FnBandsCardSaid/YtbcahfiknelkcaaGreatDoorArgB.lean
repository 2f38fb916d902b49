/- Arguments that are slices of bytes: opened. -/
import Derived.Test.YtbcahfiknelkcaaGreatDoorSrc
import Derived.ChangeSlices
import Derived.OpenShut
import Derived.Deep.MidRow
namespace Go.Proofs.YtbcahfiknelkcaaGreatDoor
open Go.RowKit
section
variable {H : Type} {enc : TypeId × Value → H} {P : Program} {w : World} {base : Nat} {spare : Nat → Bool} {held : Bool}
theorem open_bytesV {t e : TypeId} (ht : P.underlying t = some (.slice e)) (he : P.underlying e = some (.int .u8)) (hC : P.cellsOf e = 1)
    {r : Reach} {b0 : Nat} {v : Value} {d : DataW H} {pl : List MemPlace} (hv : Value.okWide P w r b0 t v) (h : DataW.Trod enc P w base spare held t v d pl) :
    ∃ n : Nat, Bytes w v n := by
  have hv' : Cell.okWide P w r b0 t v := by simpa only [Value.okWide, ht] using hv
  obtain ⟨fuel, hf⟩ := h
  have hc : v.cells.toList = [v] := by
    simp only [Cell.okWide, ht, Cell.ok] at hv'
    cases v <;> first | rfl | simp at hv'
  rw [hc] at hf
  rcases ChangeShapes.open_ints ht he hC hf with ⟨hcs, _⟩ | ⟨a, len, cap, zs, hcs, _, hl, hm, hz, _, hcell, hwf⟩
  · simp only [List.cons.injEq, and_true] at hcs
    subst hcs
    exact ⟨0, Or.inl ⟨rfl, rfl⟩⟩
  · simp only [List.cons.injEq, and_true] at hcs
    subst hcs
    have hs : a.spot = none := by
      simp only [Cell.okWide, ht, Cell.ok] at hv'
      exact hv'.2.2.2.1
    obtain ⟨b, o, sp⟩ := a
    simp only at hs
    subst hs
    have hle : len ≤ zs.length := by rw [hz]; split <;> omega
    refine ⟨len, Or.inr ⟨b, o, cap, zs.take len, rfl, by simp [maxLen] at hm; omega, by rw [List.length_take]; omega, fun h0 => ?_, fun i => ?_, fun i hi => ?_⟩⟩
    · have := hcell 0 (by omega)
      rw [Addr.add_mid] at this
      exact World.block_lt_of_cell? w _ this
    · by_cases hi : i < (zs.take len).length
      · have hm2 : (zs.take len).getD i 0 ∈ zs := by
          rw [List.getD_eq_getElem?_getD, List.getElem?_eq_getElem hi]
          exact List.mem_of_mem_take (List.getElem_mem hi)
        have := hwf _ hm2
        have hb := bounds_u8 this
        omega
      · rw [List.getD_eq_getElem?_getD, List.getElem?_eq_none (by omega)]; simp
    · have h1 := hcell i (by omega)
      rw [Addr.add_mid] at h1
      rw [h1]
      simp [List.getD_eq_getElem?_getD, hi]
end
end Go.Proofs.YtbcahfiknelkcaaGreatDoor
