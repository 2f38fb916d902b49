/- Numbers read by the library: plain. -/
import Derived.Test.YtbcahfiknelkcaaGreatDoorRdI
import Derived.Laws.Closers25b
namespace Go.Proofs.YtbcahfiknelkcaaGreatDoor
open Go.RowKit
def pI (s : ByteArray) : Option Int := match Lib.parseIntB 8 s.data.toList with
  | .ok v => some v
  | _ => none
def i8w (v : Int) : Int := IntKind.i8.wrap v
theorem i8w_bd (v : Int) : -128 ≤ i8w v ∧ i8w v ≤ 127 := by have h := wrap_within .i8 v; exact ⟨h.1, h.2⟩
theorem pI_dg {x : Int} (h : 0 ≤ x ∧ x ≤ 60) : pI (dgI x) = some x := by
  unfold pI dgI
  rw [parse_dg (n := x.toNat) (by omega)]
  show some (x.toNat : Int) = _
  rw [Int.toNat_of_nonneg h.1]
end Go.Proofs.YtbcahfiknelkcaaGreatDoor
