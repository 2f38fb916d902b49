/- SettingFor: the law. -/
import Derived.Test.YtmnidldpkkpeoaaSetFor
import Derived.Deep.DeepCutAuto
namespace Go.Proofs.Ytmnidldpkkpeoaa
open Go.RowKit
theorem bal {w0 w : World} (h : Below w0.heap.size w0 w) (o : Obj) : Below w0.heap.size w0 (w.alloc o) := h.alloc h.size o
theorem bst3 {w0 w v : World} (h : Below w0.heap.size w0 w) (k : Below w0.heap.size w0 v) (x y z : Value) :
    Below w0.heap.size w0 (((w.setCell ⟨v.heap.size, 0, none⟩ x).setCell ⟨v.heap.size, 1, none⟩ y).setCell ⟨v.heap.size, 2, none⟩ z) := below3 h k.size x y z
end Go.Proofs.Ytmnidldpkkpeoaa
