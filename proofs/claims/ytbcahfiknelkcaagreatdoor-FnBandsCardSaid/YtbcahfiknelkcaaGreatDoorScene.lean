/- Scenes: 24 readings: valid or not. -/
import Derived.Test.YtbcahfiknelkcaaGreatDoorInts
namespace Go.Proofs.YtbcahfiknelkcaaGreatDoor
open Go.RowKit
theorem szScene : (Tryz.prog.info? 49).map (·.size) = some 24 := by kernel_rfl
theorem szA24 : (Tryz.prog.info? 48).map (·.size) = some 24 := by kernel_rfl
/-- 24 numbers of eight bits. -/
def Sc (xs : List Int) : Prop := xs.length = 24 ∧ I8 xs
def okS (xs : List Int) : Bool := xs.all rdB
theorem okS_take (xs : List Int) (k : Nat) (h : k < xs.length) : okS (xs.take (k + 1)) = (okS (xs.take k) && rdB (xs.getD k 0)) := by
  unfold okS
  rw [take_snoc xs k h, List.all_append]; simp
theorem okS_bad (xs : List Int) (k : Nat) (h : k < xs.length) (hb : rdB (xs.getD k 0) = false) : okS xs = false := by
  unfold okS
  rw [List.all_eq_false]
  refine ⟨xs[k], List.getElem_mem h, ?_⟩
  rw [List.getD_eq_getElem?_getD, List.getElem?_eq_getElem h] at hb
  simpa using hb
theorem okS_get {xs : List Int} (h : okS xs = true) (i : Nat) : 0 ≤ xs.getD i 0 ∧ xs.getD i 0 ≤ 60 := by
  by_cases hi : i < xs.length
  · have := List.all_eq_true.1 h _ (List.getElem_mem hi)
    rw [List.getD_eq_getElem?_getD, List.getElem?_eq_getElem hi]
    exact (rdB_iff _).1 this
  · rw [List.getD_eq_getElem?_getD, List.getElem?_eq_none (by omega)]; simp
theorem okS_full {xs : List Int} (k : Nat) (h : xs.length = 24) (hk : ¬ k < 24) (ht : okS (xs.take k) = true) : okS xs = true := by
  rwa [List.take_of_length_le (by omega)] at ht
/-- A place of a number that is no reading, or -1. -/
def BadAt (xs : List Int) (e : Ending) : Prop := ∃ v : Int, e = .returned (.int .i64 v) ∧ decide (0 ≤ v) = !okS xs
end Go.Proofs.YtbcahfiknelkcaaGreatDoor
