/- Stores of whole arrays in a statement whose order is open. -/
import Derived.Test.YtbcahfiknelkcaaGreatDoorBase
import Derived.Deep.RegionHeld3
import Derived.Deep.DeepCutAuto
namespace Go.Proofs.YtbcahfiknelkcaaGreatDoor
open Go.RowKit
theorem bal {w0 w : World} (h : Below w0.heap.size w0 w) (o : Obj) : Below w0.heap.size w0 (w.alloc o) := h.alloc h.size o
theorem there_of {w : World} {g : Nat} {cs : Array Value} {t : TypeId} (h : w.heap[g]? = some (.cells cs t (0, 0))) (n : Nat) (hn : cs.size = n) : w.there g 0 n := fun j hj => by
  refine ⟨?_, frozen_of_row _ _ _ _ _ h⟩
  rw [Nat.zero_add, cell_of_row _ _ _ _ _ _ h]
  simp [hn, hj]
theorem setCells_eq : ∀ (vs : List Value) (w : World) (g i : Nat) (cur : Array Value) (t : TypeId) (fr : Nat × Nat), w.heap[g]? = some (.cells cur t fr) → i + vs.length = cur.size → w.setCells g i vs = w.setRow g (cur.toList.take i ++ vs).toArray
  | [], w, g, i, cur, t, fr, h, hl => by
    have e : (cur.toList.take i ++ []).toArray = cur := by
      rw [List.append_nil, List.take_of_length_le (by simp at hl ⊢; omega)]
    rw [e]
    have hlt : g < w.heap.size := (Array.getElem?_eq_some_iff.1 h).1
    have hv : w.heap[g] = .cells cur t fr := (Array.getElem?_eq_some_iff.1 h).2
    have e2 : (w.setRow g cur).heap = w.heap := by
      unfold World.setRow
      apply Array.ext
      · simp
      · intro k h1 h2
        simp only [Array.getElem_modify]
        split
        · rename_i hk; subst hk; simp [hv]
        · rfl
    have e3 : w.setRow g cur = { w with heap := (w.setRow g cur).heap } := rfl
    rw [e3, e2]; rfl
  | v :: r, w, g, i, cur, t, fr, h, hl => by
    have hi : i < cur.size := by simp at hl; omega
    simp only [World.setCells]
    rw [setCell_eq_setRow w g i cur t fr v h, setCells_eq r _ g (i + 1) (cur.setIfInBounds i v) t fr (setRow_heap _ _ _ _ _ _ h) (by simp at hl ⊢; omega), setRow_setRow]
    congr 2
    simp only [Array.toList_setIfInBounds, List.take_set]
    rw [List.take_succ_eq_append_getElem (by simpa using hi), List.set_append_right _ _ (by simp [Nat.min_le_left]), List.append_assoc]
    simp [Nat.min_eq_left (Nat.le_of_lt hi)]
theorem setCells_heap {w : World} {g : Nat} {cur : Array Value} {t : TypeId} (vs : List Value) (h : w.heap[g]? = some (.cells cur t (0, 0))) (hl : vs.length = cur.size) : (w.setCells g 0 vs).heap[g]? = some (.cells vs.toArray t (0, 0)) := by
  rw [setCells_eq vs w g 0 cur t (0, 0) h (by omega)]
  have := setRow_heap w g cur (cur.toList.take 0 ++ vs).toArray t (0, 0) h
  simpa using this
theorem bsc {w0 : World} {g : Nat} (hg : w0.heap.size ≤ g) : ∀ (vs : List Value) (w : World) (i : Nat), Below w0.heap.size w0 w → Below w0.heap.size w0 (w.setCells g i vs)
  | [], _, _, h => h
  | v :: r, _, i, h => bsc hg r _ (i + 1) (h.setCell (p := ⟨g, i, none⟩) hg v)
theorem bsa {w0 w v : World} (h : Below w0.heap.size w0 w) (k : Below w0.heap.size w0 v) (vs : List Value) : Below w0.heap.size w0 (w.setCells v.heap.size 0 vs) := bsc k.size vs w 0 h
theorem bst3 {w0 w v : World} (h : Below w0.heap.size w0 w) (k : Below w0.heap.size w0 v) (x y z : Value) :
    Below w0.heap.size w0 (((w.setCell ⟨v.heap.size, 0, none⟩ x).setCell ⟨v.heap.size, 1, none⟩ y).setCell ⟨v.heap.size, 2, none⟩ z) := below3 h k.size x y z
/-- The block made last, written whole. -/
theorem new_store {v : World} {cs : Array Value} {t : TypeId} (vs : List Value) (hl : vs.length = cs.size) : ((v.alloc (.cells cs t)).setCells v.heap.size 0 vs).heap[v.heap.size]? = some (.cells vs.toArray t (0, 0)) :=
  setCells_heap vs (al1_0 v (.cells cs t)) hl
end Go.Proofs.YtbcahfiknelkcaaGreatDoor
