/- slices.Sort at int8 on a block of one's own. -/
import Derived.Test.YtmnidldpkkpeoaaSort8
import Derived.Test.YtmnidldpkkpeoaaBase
namespace Go.Proofs.Ytmnidldpkkpeoaa
open Go.RowKit Go.Sort
def srt (xs : List Int) : List Int := xs.mergeSort fun x y => decide (x ≤ y)
theorem srt_len (xs : List Int) : (srt xs).length = xs.length := by simp [srt]
theorem holds_arr {w : World} {g : Nat} {xs : List Int} {t : TypeId} (hb : w.heap[g]? = some (.cells (arr .i8 xs) t (0, 0))) : Holds encB w g 0 xs.toArray := by
  intro j hj
  have hj' : j < xs.length := by simpa using hj
  refine ⟨?_, frozen_of_row _ _ _ _ _ hb⟩
  rw [Nat.zero_add, arr_cell hb j hj']
  congr 2
  simp [List.getD_eq_getElem?_getD, hj']
theorem heap_putRow_arr {w : World} {g : Nat} {xs ys : List Int} {t : TypeId} (hb : w.heap[g]? = some (.cells (arr .i8 xs) t (0, 0))) (hl : ys.length = xs.length) : (putRow encB w g 0 ys.toArray).heap[g]? = some (.cells (arr .i8 ys) t (0, 0)) := by
  unfold putRow mapBlock
  simp only [Array.getElem?_modify, if_true, hb, Option.map_some, onCells]
  congr 2
  unfold putCells
  apply Array.ext
  · simp [arr_size, hl]
  · intro k h1 h2
    have hk : k < ys.length := by simpa [arr_size] using h2
    have := arr_get .i8 ys k hk
    rw [Array.getElem?_eq_getElem h2] at this
    simp only [Option.some.injEq] at this
    rw [this]
    simp [hk, List.getD_eq_getElem?_getD]
theorem heap_putRow_other {w : World} {g b : Nat} {ys : List Int} (hne : b ≠ g) : (putRow encB w g 0 ys.toArray).heap[b]? = w.heap[b]? := by
  unfold putRow mapBlock
  simp only [Array.getElem?_modify]
  rw [if_neg (Ne.symm hne)]
theorem heap_grow_old {w : World} {os : Array Obj} {k : Nat} (h : k < w.heap.size) : (grow w os).heap[k]? = w.heap[k]? := by
  show (w.heap ++ os)[k]? = _
  rw [Array.getElem?_append_left h]
theorem below_sorted {w : World} {g n : Nat} {ys : List Int} {os : Array Obj} (hg : g < w.heap.size) : Below g w (grow (putRow encB (Sort.ahead w n) g 0 ys.toArray) os) := by
  refine ⟨rfl, rfl, rfl, by simp, fun k hk => ?_⟩
  have hz : (putRow encB (Sort.ahead w n) g 0 ys.toArray).heap.size = w.heap.size := by rw [size_putRow]; rfl
  rw [heap_grow_old (by rw [hz]; omega), heap_putRow_other (by omega)]
  rfl
/-- The numbers of a block, sorted. -/
theorem sort8_c (xs : List Int) (g n c : Nat) (t : TypeId) (hn : n = xs.length) (hm : n ≤ 1048576) (w : World) (hb : w.heap[g]? = some (.cells (arr .i8 xs) t (0, 0))) :
    Calls Try.prog 74 #[.slice (some ⟨g, 0, none⟩) n c] w fun e w' => e = .returned (.tuple #[]) ∧ w'.heap[g]? = some (.cells (arr .i8 (srt xs)) t (0, 0)) ∧ Below g w w' := by
  subst hn
  have hg := lt_of_heap hb
  have := sort8_arr g 0 c xs.toArray w (holds_arr hb) hg (by simp; omega)
  rw [sort8_eq] at this
  simp only [List.size_toArray] at this
  refine this.mono ?_
  rintro e w' ⟨rfl, k, os, rfl⟩
  refine ⟨rfl, ?_, below_sorted hg⟩
  have hz : (putRow encB (Sort.ahead w k) g 0 (srt xs).toArray).heap.size = w.heap.size := by rw [size_putRow]; rfl
  show (grow (putRow encB (Sort.ahead w k) g 0 (srt xs).toArray) os).heap[g]? = _
  rw [heap_grow_old (by rw [hz]; exact hg)]
  exact heap_putRow_arr (w := Sort.ahead w k) hb (srt_len xs)
end Go.Proofs.Ytmnidldpkkpeoaa
