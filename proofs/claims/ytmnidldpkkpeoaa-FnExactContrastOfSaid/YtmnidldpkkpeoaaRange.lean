/- SceneRange: the program's and the reference's. -/
import Derived.Test.YtmnidldpkkpeoaaSorted
namespace Go.Proofs.Ytmnidldpkkpeoaa
open Go.RowKit
/-- The least and the greatest of the first numbers. -/
def minK (xs : List Int) : Nat → Int
  | 0 => xs.getD 0 0
  | k + 1 => if xs.getD k 0 < minK xs k then xs.getD k 0 else minK xs k
def maxK (xs : List Int) : Nat → Int
  | 0 => xs.getD 0 0
  | k + 1 => if maxK xs k < xs.getD k 0 then xs.getD k 0 else maxK xs k
theorem minK_one (xs : List Int) : minK xs 1 = xs.getD 0 0 := by simp [minK]
theorem maxK_one (xs : List Int) : maxK xs 1 = xs.getD 0 0 := by simp [maxK]
theorem minK_le (xs : List Int) (k i : Nat) (h : i < k) : minK xs k ≤ xs.getD i 0 := by
  induction k with
  | zero => omega
  | succ k ih =>
    simp only [minK]
    by_cases e : i = k
    · subst e; split <;> omega
    · have := ih (by omega); split <;> omega
theorem le_maxK (xs : List Int) (k i : Nat) (h : i < k) : xs.getD i 0 ≤ maxK xs k := by
  induction k with
  | zero => omega
  | succ k ih =>
    simp only [maxK]
    by_cases e : i = k
    · subst e; split <;> omega
    · have := ih (by omega); split <;> omega
theorem minK_at (xs : List Int) (k : Nat) (h : 0 < k) : ∃ i, i < k ∧ minK xs k = xs.getD i 0 := by
  induction k with
  | zero => omega
  | succ k ih =>
    simp only [minK]
    by_cases e : k = 0
    · subst e; exact ⟨0, by omega, by simp [minK]⟩
    · obtain ⟨i, hi, he⟩ := ih (by omega)
      split
      · exact ⟨k, by omega, rfl⟩
      · exact ⟨i, by omega, he⟩
theorem maxK_at (xs : List Int) (k : Nat) (h : 0 < k) : ∃ i, i < k ∧ maxK xs k = xs.getD i 0 := by
  induction k with
  | zero => omega
  | succ k ih =>
    simp only [maxK]
    by_cases e : k = 0
    · subst e; exact ⟨0, by omega, by simp [maxK]⟩
    · obtain ⟨i, hi, he⟩ := ih (by omega)
      split
      · exact ⟨k, by omega, rfl⟩
      · exact ⟨i, by omega, he⟩
/-- The sorted readings are the readings, in ascending order. -/
theorem sortN_count (xs : List Int) (v : Int) (n : Nat) : (sortN xs n).count v = if 0 ≤ v ∧ v < n then xs.count v else 0 := by
  induction n with
  | zero => simp [sortN]; omega
  | succ n ih =>
    simp only [sortN, List.count_append, ih]
    by_cases e : v = n
    · subst e
      rw [if_neg (by omega), if_pos (by omega), List.count_filter (by simp)]; omega
    · have : (xs.filter (fun x : Int => decide (x = (n : Int)))).count v = 0 := by
        rw [List.count_eq_zero]; intro h; simp at h; exact e h.2
      rw [this, Nat.add_zero]
      by_cases h : 0 ≤ v ∧ v < n
      · rw [if_pos h, if_pos (by omega)]
      · rw [if_neg h, if_neg (by omega)]
theorem sortN_perm (xs : List Int) (hok : okS xs = true) : (sortN xs 61).Perm xs := by
  rw [List.perm_iff_count]
  intro v
  rw [sortN_count]
  by_cases h : 0 ≤ v ∧ v < (61 : Nat)
  · rw [if_pos h]
  · rw [if_neg h]
    symm
    rw [List.count_eq_zero]
    intro hm
    have := (rdB_iff v).1 (List.all_eq_true.1 hok v hm)
    omega
theorem sortN_mem (xs : List Int) (n : Nat) (v : Int) (h : v ∈ sortN xs n) : v < n := by
  induction n with
  | zero => simp [sortN] at h
  | succ n ih =>
    simp only [sortN, List.mem_append, List.mem_filter, decide_eq_true_eq] at h
    rcases h with h | h
    · have := ih h; omega
    · omega
theorem sortN_sorted (xs : List Int) (n : Nat) : (sortN xs n).Pairwise (· ≤ ·) := by
  induction n with
  | zero => simp [sortN]
  | succ n ih =>
    simp only [sortN]
    rw [List.pairwise_append]
    refine ⟨ih, ?_, ?_⟩
    · apply List.Pairwise.imp_of_mem (R := fun _ _ => True)
      · intro a b ha hb _
        simp at ha hb; omega
      · exact List.pairwise_of_forall (fun _ _ => trivial)
    · intro a ha b hb
      have := sortN_mem xs n a ha
      simp at hb; omega
theorem sortN_len24 (xs : List Int) (hl : xs.length = 24) (hok : okS xs = true) : (sortN xs 61).length = 24 := by
  rw [(sortN_perm xs hok).length_eq, hl]
theorem mem_getD {l : List Int} {v : Int} (h : v ∈ l) : ∃ i, i < l.length ∧ l.getD i 0 = v := by
  obtain ⟨i, hi, he⟩ := List.mem_iff_getElem.1 h
  exact ⟨i, hi, by rw [List.getD_eq_getElem?_getD, List.getElem?_eq_getElem hi]; exact he⟩
theorem getD_mem {l : List Int} {i : Nat} (h : i < l.length) : l.getD i 0 ∈ l := by
  rw [List.getD_eq_getElem?_getD, List.getElem?_eq_getElem h]; exact List.getElem_mem h
theorem sorted_getD {l : List Int} (h : l.Pairwise (· ≤ ·)) (i j : Nat) (hij : i ≤ j) (hj : j < l.length) : l.getD i 0 ≤ l.getD j 0 := by
  by_cases e : i = j
  · subst e; exact Int.le_refl _
  · have := List.pairwise_iff_getElem.1 h i j (by omega) hj (by omega)
    rw [List.getD_eq_getElem?_getD, List.getD_eq_getElem?_getD, List.getElem?_eq_getElem hj, List.getElem?_eq_getElem (by omega : i < l.length)]
    exact this
theorem sort_first (xs : List Int) (hl : xs.length = 24) (hok : okS xs = true) : (sortN xs 61).getD 0 0 = minK xs 24 := by
  have hp := sortN_perm xs hok
  have hlen := sortN_len24 xs hl hok
  apply Int.le_antisymm
  · obtain ⟨i, hi, he⟩ := minK_at xs 24 (by omega)
    have hm : minK xs 24 ∈ sortN xs 61 := hp.mem_iff.2 (by rw [he]; exact getD_mem (by omega))
    obtain ⟨j, hj, hje⟩ := mem_getD hm
    rw [← hje]
    exact sorted_getD (sortN_sorted xs 61) 0 j (by omega) hj
  · have hm : (sortN xs 61).getD 0 0 ∈ xs := hp.mem_iff.1 (getD_mem (by omega))
    obtain ⟨j, hj, hje⟩ := mem_getD hm
    rw [← hje]
    exact minK_le xs 24 j (by omega)
theorem sort_last (xs : List Int) (hl : xs.length = 24) (hok : okS xs = true) : (sortN xs 61).getD 23 0 = maxK xs 24 := by
  have hp := sortN_perm xs hok
  have hlen := sortN_len24 xs hl hok
  apply Int.le_antisymm
  · have hm : (sortN xs 61).getD 23 0 ∈ xs := hp.mem_iff.1 (getD_mem (by omega))
    obtain ⟨j, hj, hje⟩ := mem_getD hm
    rw [← hje]
    exact le_maxK xs 24 j (by omega)
  · obtain ⟨i, hi, he⟩ := maxK_at xs 24 (by omega)
    have hm : maxK xs 24 ∈ sortN xs 61 := hp.mem_iff.2 (by rw [he]; exact getD_mem (by omega))
    obtain ⟨j, hj, hje⟩ := mem_getD hm
    rw [← hje]
    exact sorted_getD (sortN_sorted xs 61) j 23 (by omega) (by omega)
def rangeV (xs : List Int) : Int × Int × Int := if okS xs then (minK xs 24, maxK xs 24, 0) else (0, 0, 1)
theorem minK_bd {xs : List Int} (hok : okS xs = true) (k : Nat) : 0 ≤ minK xs k ∧ minK xs k ≤ 60 := by
  induction k with
  | zero => exact okS_get hok 0
  | succ k ih => have := okS_get hok k; simp only [minK]; split <;> omega
theorem maxK_bd {xs : List Int} (hok : okS xs = true) (k : Nat) : 0 ≤ maxK xs k ∧ maxK xs k ≤ 60 := by
  induction k with
  | zero => exact okS_get hok 0
  | succ k ih => have := okS_get hok k; simp only [maxK]; split <;> omega
end Go.Proofs.Ytmnidldpkkpeoaa
