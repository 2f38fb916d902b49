/- ReadStrip: the reference. -/
import Derived.Test.YtbcahfiknelkcaaGreatDoorStK
import Derived.Test.YtbcahfiknelkcaaGreatDoorRdS
namespace Go.Proofs.YtbcahfiknelkcaaGreatDoor
open Go.RowKit
theorem sr_bad {t : ByteArray} {n0 n1 n2 : Nat} {b0 b1 b2 : Bool} (e0 : numV (wdT t 0) = (n0, b0)) (e1 : numV (wdT t 1) = (n1, b1)) (e2 : numV (wdT t 2) = (n2, b2))
    (hb : ¬ (b0 = true ∧ b1 = true ∧ b2 = true ∧ n0 ≤ 100 ∧ n1 ≤ 100 ∧ n2 ≤ 100 ∧ srB n0 n1 n2 = true)) : srV t = ((0, 0, 0), 5) := srV_no fun h => hb (by
  have a0 := h.num 0 (by omega)
  have a1 := h.num 1 (by omega)
  have a2 := h.num 2 (by omega)
  have s0 := srOk_small h 0 (by omega)
  have s1 := srOk_small h 1 (by omega)
  have s2 := srOk_small h 2 (by omega)
  have ho := h.ok
  unfold nW at s0 s1 s2 ho
  rw [e0] at a0 s0 ho
  rw [e1] at a1 s1 ho
  rw [e2] at a2 s2 ho
  simp only at a0 a1 a2 s0 s1 s2 ho
  exact ⟨a0, a1, a2, by omega, by omega, by omega, ho⟩)
theorem sr_good {t : ByteArray} {n0 n1 n2 : Nat} (hl : (spL t 32).length = 3) (e0 : numV (wdT t 0) = (n0, true)) (e1 : numV (wdT t 1) = (n1, true)) (e2 : numV (wdT t 2) = (n2, true))
    (hb : srB n0 n1 n2 = true) : srV t = (((n0 : Int), (n1 : Int), (n2 : Int)), 0) := by
  have w0 : nW t 0 = n0 := by unfold nW; rw [e0]
  have w1 : nW t 1 = n1 := by unfold nW; rw [e1]
  have w2 : nW t 2 = n2 := by unfold nW; rw [e2]
  have : SrOk t := ⟨hl, fun i hi => by
    rcases (show i = 0 ∨ i = 1 ∨ i = 2 by omega) with e | e | e <;> subst e
    · rw [e0]
    · rw [e1]
    · rw [e2], by rw [w0, w1, w2]; exact hb⟩
  rw [srV_yes this, w0, w1, w2]
theorem wd_at {t : ByteArray} (h : (spL t 32).length = 3) (i : Nat) (hi : i < 3) : (spL t 32)[i]? = some (wdT t i) := by
  unfold wdT
  rw [List.getD_eq_getElem?_getD, List.getElem?_eq_getElem (by omega)]; rfl
end Go.Proofs.YtbcahfiknelkcaaGreatDoor
