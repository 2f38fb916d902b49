/- Prints: what VSheet does not say. -/
import Derived.Test.YtdmlefccajaniaaDoorVSheet
namespace Go.Proofs.YtdmlefccajaniaaDoor
open Go.RowKit
theorem rangeAt_arr {w : World} {g : Nat} {xs : List Int} {t : TypeId} {fr : Nat × Nat} (h : w.heap[g]? = some (.cells (arr .i16 xs) t fr)) : w.rangeAt g 0 (cellsP xs) := fun j v hv => by
  rw [cell_of_row w g _ _ t fr h, Nat.zero_add, arr, List.getElem?_toArray]; exact hv
end Go.Proofs.YtdmlefccajaniaaDoor
