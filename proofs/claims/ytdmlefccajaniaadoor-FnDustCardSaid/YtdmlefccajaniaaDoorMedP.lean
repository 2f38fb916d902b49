/- Sorting by insertion, and the median of lists of numbers: plain facts. -/
import Derived.Test.YtdmlefccajaniaaDoorPrs
namespace Go.Proofs.YtdmlefccajaniaaDoor
open Go.RowKit
def insO (x : Int) : List Int → List Int
  | [] => [x]
  | y :: l => if x < y then x :: y :: l else y :: insO x l
theorem insO_length (x : Int) : ∀ l, (insO x l).length = l.length + 1
  | [] => rfl
  | y :: l => by
    unfold insO; split
    · simp
    · simp [insO_length x l]
theorem insO_mem (x z : Int) : ∀ l, z ∈ insO x l ↔ z = x ∨ z ∈ l
  | [] => by simp [insO]
  | y :: l => by
    unfold insO; split
    · simp
    · simp only [List.mem_cons, insO_mem x z l]
      constructor
      · rintro (h | h | h) <;> simp [h]
      · rintro (h | h | h) <;> simp [h]
def Asc (l : List Int) : Prop := l.Pairwise (· ≤ ·)
theorem insO_asc (x : Int) : ∀ l, Asc l → Asc (insO x l)
  | [], _ => by simp [insO, Asc]
  | y :: l, h => by
    have h1 := List.pairwise_cons.1 h
    unfold insO; split
    · rename_i hlt
      refine List.pairwise_cons.2 ⟨fun z hz => ?_, h⟩
      rcases List.mem_cons.1 hz with rfl | hz
      · omega
      · have := h1.1 z hz; omega
    · rename_i hge
      refine List.pairwise_cons.2 ⟨fun z hz => ?_, insO_asc x l h1.2⟩
      rcases (insO_mem x z l).1 hz with rfl | hz
      · omega
      · exact h1.1 z hz
def isort : List Int → List Int := fun xs => xs.foldl (fun l x => insO x l) []
theorem isort_snoc (xs : List Int) (x : Int) : isort (xs ++ [x]) = insO x (isort xs) := by simp [isort]
theorem isort_take (xs : List Int) (i : Nat) (h : i < xs.length) : isort (xs.take (i + 1)) = insO (xs.getD i 0) (isort (xs.take i)) := by
  rw [take_snoc xs i h, isort_snoc]
theorem isort_length_take (xs : List Int) : ∀ i, i ≤ xs.length → (isort (xs.take i)).length = i
  | 0, _ => by simp [isort]
  | i + 1, h => by rw [isort_take xs i (by omega), insO_length, isort_length_take xs i (by omega)]
theorem isort_length (xs : List Int) : (isort xs).length = xs.length := by
  have := isort_length_take xs xs.length (Nat.le_refl _)
  rwa [List.take_length] at this
theorem isort_asc_take (xs : List Int) : ∀ i, i ≤ xs.length → Asc (isort (xs.take i))
  | 0, _ => by simp [isort, Asc]
  | i + 1, h => by rw [isort_take xs i (by omega)]; exact insO_asc _ _ (isort_asc_take xs i (by omega))
theorem isort_mem_take (xs : List Int) (z : Int) : ∀ i, i ≤ xs.length → (z ∈ isort (xs.take i) ↔ z ∈ xs.take i)
  | 0, _ => by simp [isort]
  | i + 1, h => by
    rw [isort_take xs i (by omega), insO_mem, isort_mem_take xs z i (by omega), take_snoc xs i (by omega), List.mem_append, List.mem_singleton]
    exact or_comm
theorem isort_mem (xs : List Int) (z : Int) : z ∈ isort xs ↔ z ∈ xs := by
  have := isort_mem_take xs z xs.length (Nat.le_refl _)
  rwa [List.take_length] at this
/-- One number on its way down in a list that is in order. -/
def stL (S : List Int) (j : Nat) (x : Int) (R : List Int) : List Int := S.take j ++ x :: (S.drop j ++ R)
theorem stL_length (S : List Int) (j : Nat) (x : Int) (R : List Int) (_ : j ≤ S.length) : (stL S j x R).length = S.length + 1 + R.length := by
  simp only [stL, List.length_append, List.length_take, List.length_cons, List.length_drop]; omega
theorem stL_at (S : List Int) (j : Nat) (x : Int) (R : List Int) (h : j ≤ S.length) : (stL S j x R).getD j 0 = x := by
  simp [stL, List.getD_eq_getElem?_getD, Nat.min_eq_left h]
theorem stL_pred (S : List Int) (j : Nat) (x : Int) (R : List Int) (h : j < S.length) : (stL S (j + 1) x R).getD j 0 = S.getD j 0 := by
  rw [stL, List.getD_eq_getElem?_getD, List.getElem?_append_left (by simp; omega), List.getD_eq_getElem?_getD, List.getElem?_take_of_lt (by omega)]
theorem stL_set (S : List Int) (j : Nat) (x y : Int) (R : List Int) (h : j ≤ S.length) : (stL S j x R).set j y = stL S j y R := by
  have hl : (S.take j).length = j := by simp; omega
  rw [stL, List.set_append_right _ _ (by omega), hl, Nat.sub_self]
  rfl
theorem stL_shift (S : List Int) (j : Nat) (R : List Int) (h : j < S.length) : stL S (j + 1) (S.getD j 0) R = stL S j (S.getD j 0) (R) := by
  have e : S.drop j = S.getD j 0 :: S.drop (j + 1) := by rw [List.drop_eq_getElem_cons h, List.getD_eq_getElem?_getD, List.getElem?_eq_getElem h]; rfl
  rw [stL, stL, take_snoc S j h, List.append_assoc, e]
  rfl
theorem stL_swap (S : List Int) (j : Nat) (x : Int) (R : List Int) (h : j < S.length) : ((stL S (j + 1) x R).set (j + 1) (S.getD j 0)).set j x = stL S j x R := by
  rw [stL_set _ _ _ _ _ (by omega), stL_shift _ _ _ h, stL_set _ _ _ _ _ (by omega)]
theorem stL_last (S : List Int) (x : Int) (R : List Int) : stL S S.length x R = S ++ x :: R := by simp [stL]
theorem stL_start (xs : List Int) (i : Nat) (h : i < xs.length) (S : List Int) (hS : S.length = i) : S ++ xs.drop i = stL S i (xs.getD i 0) (xs.drop (i + 1)) := by
  subst hS
  rw [stL_last, List.drop_eq_getElem_cons h]
  simp [List.getD_eq_getElem?_getD, h]
theorem insO_at (x : Int) : ∀ (S : List Int) (j : Nat), Asc S → j ≤ S.length → (∀ y ∈ S.drop j, x < y) → (j = 0 ∨ S.getD (j - 1) 0 ≤ x) → S.take j ++ x :: S.drop j = insO x S
  | [], j, _, _, _, _ => by simp [insO]
  | y :: l, 0, _, _, hb, _ => by
    have := hb y (by simp)
    simp [insO, this]
  | y :: l, j + 1, ha, hj, hb, hp => by
    have h1 := List.pairwise_cons.1 ha
    have hj' : j ≤ l.length := by simpa using hj
    have hp' : (y :: l).getD j 0 ≤ x := by rcases hp with h | h; cases h; simpa using h
    have hyx : y ≤ x := by
      cases j with
      | zero => simpa using hp'
      | succ j =>
        have hjl : j < l.length := by omega
        have e : (y :: l).getD (j + 1) 0 = l[j] := by simp [List.getD_eq_getElem?_getD, hjl]
        have := h1.1 l[j] (List.getElem_mem hjl)
        omega
    have ih := insO_at x l j h1.2 hj' (fun z hz => hb z (by simpa using hz)) (by
      cases j with
      | zero => exact Or.inl rfl
      | succ j => exact Or.inr (by simpa using hp'))
    rw [insO, if_neg (by omega), List.take_succ_cons, List.drop_succ_cons, List.cons_append, ih]
theorem stL_end (x : Int) (S : List Int) (j : Nat) (R : List Int) (ha : Asc S) (hj : j ≤ S.length) (hb : ∀ y ∈ S.drop j, x < y) (hp : j = 0 ∨ S.getD (j - 1) 0 ≤ x) : stL S j x R = insO x S ++ R := by
  rw [← insO_at x S j ha hj hb hp, stL]; simp
theorem drop_lt {S : List Int} {j : Nat} {x : Int} (hj : j < S.length) (hb : ∀ y ∈ S.drop (j + 1), x < y) (h : x < S.getD j 0) : ∀ y ∈ S.drop j, x < y := by
  intro y hy
  rw [List.drop_eq_getElem_cons hj] at hy
  rcases List.mem_cons.1 hy with rfl | hy
  · simpa [List.getD_eq_getElem?_getD, hj] using h
  · exact hb y hy
/-- The numbers of one cell in all prints. -/
def colP (l : List (List Int)) (k : Nat) : List Int := l.map fun p => p.getD k 0
theorem colP_length (l : List (List Int)) (k : Nat) : (colP l k).length = l.length := by simp [colP]
theorem colP_get (l : List (List Int)) (k i : Nat) (h : i < l.length) : (colP l k).getD i 0 = (l.getD i []).getD k 0 := by
  simp [colP, List.getD_eq_getElem?_getD, h]
def medI (l : List (List Int)) (k : Nat) : Int := (isort (colP l k)).getD ((l.length - 1) / 2) 0
def medP (l : List (List Int)) : List Int := (List.range 64).map (medI l)
theorem medP_length (l : List (List Int)) : (medP l).length = 64 := by simp [medP]
theorem medP_get (l : List (List Int)) (k : Nat) (h : k < 64) : (medP l).getD k 0 = medI l k := by
  simp [medP, List.getD_eq_getElem?_getD, h]
theorem medI_mem (l : List (List Int)) (k : Nat) (h : 0 < l.length) : ∃ i, i < l.length ∧ medI l k = (l.getD i []).getD k 0 := by
  have hl := isort_length (colP l k)
  rw [colP_length] at hl
  have hi : (l.length - 1) / 2 < (isort (colP l k)).length := by omega
  have hm : medI l k ∈ isort (colP l k) := by
    rw [medI, List.getD_eq_getElem?_getD, List.getElem?_eq_getElem hi]; exact List.getElem_mem hi
  rw [isort_mem, colP, List.mem_map] at hm
  obtain ⟨p, hp, he⟩ := hm
  obtain ⟨i, hi2, hpe⟩ := List.getElem_of_mem hp
  exact ⟨i, hi2, by rw [← he, List.getD_eq_getElem?_getD (l := l), List.getElem?_eq_getElem hi2, hpe]; rfl⟩
end Go.Proofs.YtdmlefccajaniaaDoor
namespace Go.Proofs.YtdmlefccajaniaaDoor
theorem insO_perm (x : Int) : ∀ l, (insO x l).Perm (x :: l)
  | [] => by simp [insO]
  | y :: l => by
    unfold insO
    split
    · exact List.Perm.refl _
    · exact (List.Perm.cons y (insO_perm x l)).trans (List.Perm.swap x y l)
theorem isort_perm_go : ∀ (xs acc : List Int), (xs.foldl (fun l x => insO x l) acc).Perm (xs ++ acc)
  | [], _ => List.Perm.refl _
  | x :: xs, acc => by
    rw [List.foldl_cons]
    refine (isort_perm_go xs (insO x acc)).trans ?_
    refine (List.Perm.append_left xs (insO_perm x acc)).trans ?_
    rw [List.cons_append]
    exact List.perm_middle
theorem isort_perm (xs : List Int) : (isort xs).Perm xs := by
  have := isort_perm_go xs []
  rwa [List.append_nil] at this
theorem count_low {S : List Int} (ha : Asc S) (t : Nat) (ht : t < S.length) : S.countP (fun y => decide (y < S.getD t 0)) ≤ t := by
  have e : S = S.take t ++ S.drop t := (List.take_append_drop t S).symm
  have hm : S.getD t 0 = S[t] := by rw [List.getD_eq_getElem?_getD, List.getElem?_eq_getElem ht]; rfl
  have hz : (S.drop t).countP (fun y => decide (y < S.getD t 0)) = 0 := by
    rw [List.countP_eq_zero]
    intro y hy
    obtain ⟨i, hi, rfl⟩ := List.mem_iff_getElem.1 hy
    rw [List.getElem_drop, hm]
    rw [List.length_drop] at hi
    unfold Asc at ha
    rw [List.pairwise_iff_getElem] at ha
    by_cases h0 : i = 0
    · subst h0; simp
    · have := ha t (t + i) ht (by omega) (by omega)
      simp; omega
  have h1 : S.countP (fun y => decide (y < S.getD t 0)) = (S.take t).countP (fun y => decide (y < S.getD t 0)) + (S.drop t).countP (fun y => decide (y < S.getD t 0)) := by
    rw [← List.countP_append, List.take_append_drop]
  have h2 : (S.take t).countP (fun y => decide (y < S.getD t 0)) ≤ (S.take t).length := List.countP_le_length
  rw [List.length_take] at h2
  omega
theorem count_high {S : List Int} (ha : Asc S) (t : Nat) (ht : t < S.length) : S.countP (fun y => decide (S.getD t 0 < y)) ≤ S.length - 1 - t := by
  have hm : S.getD t 0 = S[t] := by rw [List.getD_eq_getElem?_getD, List.getElem?_eq_getElem ht]; rfl
  have hz : (S.take (t + 1)).countP (fun y => decide (S.getD t 0 < y)) = 0 := by
    rw [List.countP_eq_zero]
    intro y hy
    obtain ⟨i, hi, rfl⟩ := List.mem_iff_getElem.1 hy
    rw [List.length_take] at hi
    rw [List.getElem_take, hm]
    unfold Asc at ha
    rw [List.pairwise_iff_getElem] at ha
    by_cases h0 : i = t
    · subst h0; simp
    · have := ha i t (by omega) ht (by omega)
      simp; omega
  have h1 : S.countP (fun y => decide (S.getD t 0 < y)) = (S.take (t + 1)).countP (fun y => decide (S.getD t 0 < y)) + (S.drop (t + 1)).countP (fun y => decide (S.getD t 0 < y)) := by
    rw [← List.countP_append, List.take_append_drop]
  have h2 : (S.drop (t + 1)).countP (fun y => decide (S.getD t 0 < y)) ≤ (S.drop (t + 1)).length := List.countP_le_length
  rw [List.length_drop] at h2
  omega
/-- No more than half of a column lies below its median, and no more than half above. -/
theorem med_half (l : List (List Int)) (k : Nat) (h : 0 < l.length) : 2 * (colP l k).countP (fun y => decide (y < medI l k)) ≤ l.length ∧ 2 * (colP l k).countP (fun y => decide (medI l k < y)) ≤ l.length := by
  have hp := isort_perm (colP l k)
  have hl : (isort (colP l k)).length = l.length := by rw [isort_length, colP_length]
  have ha : Asc (isort (colP l k)) := by
    have := isort_asc_take (colP l k) (colP l k).length (Nat.le_refl _)
    rwa [List.take_length] at this
  have ht : (l.length - 1) / 2 < (isort (colP l k)).length := by omega
  have h1 := count_low ha _ ht
  have h2 := count_high ha _ ht
  rw [hp.countP_eq] at h1 h2
  unfold medI
  omega
end Go.Proofs.YtdmlefccajaniaaDoor
