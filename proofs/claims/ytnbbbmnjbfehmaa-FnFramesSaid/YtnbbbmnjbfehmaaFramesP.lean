/- FnFrames: the plain laws (places of frames, frames exchanged twice, frames left out). -/
import Derived.Test.YtnbbbmnjbfehmaaRowsOf
import Derived.Test.YtnbbbmnjbfehmaaFrameAt
import Derived.Test.YtnbbbmnjbfehmaaPlaceOf
import Derived.Test.YtnbbbmnjbfehmaaDark
import Derived.Test.YtnbbbmnjbfehmaaSwapI
import Derived.Test.YtnbbbmnjbfehmaaDropI
import Derived.Test.YtnbbbmnjbfehmaaPickI
namespace Go.Proofs.Ytnbbbmnjbfehmaa
theorem okL_iff {l : List (List Int)} : okL l = true ↔ ∀ p ∈ l, okP p = true := by simp [okL, List.all_eq_true]
theorem getP_mem {l : List (List Int)} {i : Nat} (h : i < l.length) : l.getD i [] ∈ l := by
  rw [List.getD_eq_getElem?_getD, List.getElem?_eq_getElem h]; exact List.getElem_mem h
theorem swL_len (l : List (List Int)) (i k : Nat) : (swL l i k).length = l.length := by simp [swL]
theorem swL_mem {l : List (List Int)} {i k : Nat} (hi : i < l.length) (hk : k < l.length) {p : List Int} (h : p ∈ swL l i k) : p ∈ l := by
  unfold swL at h
  rcases List.mem_or_eq_of_mem_set h with h | h
  · rcases List.mem_or_eq_of_mem_set h with h | h
    · exact h
    · subst h; exact getP_mem hk
  · subst h; exact getP_mem hi
theorem okL_swL {l : List (List Int)} {i k : Nat} (hi : i < l.length) (hk : k < l.length) (h : okL l = true) : okL (swL l i k) = true :=
  okL_iff.2 fun p hp => okL_iff.1 h p (swL_mem hi hk hp)
theorem prs_iff {l : List (List Int)} : Prs l ↔ ∀ p ∈ l, Pr p := by
  constructor
  · intro h p hp
    obtain ⟨i, hi, rfl⟩ := List.getElem_of_mem hp
    have := h i hi
    rwa [List.getD_eq_getElem?_getD, List.getElem?_eq_getElem hi] at this
  · intro h i hi
    exact h _ (getP_mem hi)
theorem prs_swL {l : List (List Int)} {i k : Nat} (hi : i < l.length) (hk : k < l.length) (h : Prs l) : Prs (swL l i k) :=
  prs_iff.2 fun p hp => prs_iff.1 h p (swL_mem hi hk hp)
theorem swL_swL (l : List (List Int)) (i k : Nat) (hi : i < l.length) (hk : k < l.length) : swL (swL l i k) i k = l := by
  apply List.ext_getElem
  · simp [swL]
  · intro j h1 h2
    simp only [swL, List.getElem_set, List.getD_eq_getElem?_getD, List.getElem?_set, List.length_set]
    by_cases e1 : k = j
    · subst e1
      by_cases e2 : i = k
      · subst e2; simp [h2]
      · simp [Ne.symm e2, hi, hk]
    · by_cases e2 : i = j
      · subst e2
        simp [e1, hk, hi]
      · simp [e1, e2]
/-- All indices below j but i. -/
def skL (i : Nat) : Nat → List Int
  | 0 => []
  | j + 1 => if j = i then skL i j else skL i j ++ [(j : Int)]
theorem skL_step_ne {i j : Nat} (h : ¬ j = i) : skL i (j + 1) = skL i j ++ [(j : Int)] := by simp [skL, h]
theorem skL_step_eq {i j : Nat} (h : j = i) : skL i (j + 1) = skL i j := by simp [skL, h]
theorem skL_len (i : Nat) : ∀ j, (skL i j).length ≤ j
  | 0 => Nat.le_refl _
  | j + 1 => by
    have := skL_len i j
    unfold skL
    split
    · omega
    · simp; omega
theorem skL_in (i : Nat) : ∀ j x, x ∈ skL i j → 0 ≤ x ∧ x < j
  | 0, x, h => by simp [skL] at h
  | j + 1, x, h => by
    have ih := skL_in i j x
    unfold skL at h
    split at h
    · have := ih h; omega
    · rcases List.mem_append.1 h with h | h
      · have := ih h; omega
      · simp at h; omega
theorem okI_skL (i n : Nat) : okI n (skL i n) = true := by
  unfold okI
  rw [List.all_eq_true]
  intro x hx
  exact (inF_iff _ _).2 (skL_in i n x hx)
theorem pickL_app (l : List (List Int)) (fs gs : List Int) : pickL l (fs ++ gs) = pickL l fs ++ pickL l gs := by simp [pickL]
theorem pick_skL (l : List (List Int)) (i : Nat) : ∀ j, j ≤ l.length → pickL l (skL i j) = if j ≤ i then l.take j else l.take i ++ (l.take j).drop (i + 1)
  | 0, _ => by simp [skL, pickL]
  | j + 1, h => by
    have ih := pick_skL l i j (by omega)
    by_cases e : j = i
    · rw [skL_step_eq e, ih, if_pos (by omega), if_neg (by omega)]
      subst e
      rw [List.drop_of_length_le (by simp; omega)]; simp
    · rw [skL_step_ne e, pickL_app, ih]
      have e1 : pickL l [(j : Int)] = [l.getD j []] := by simp [pickL]
      rw [e1, takeP_snoc l j (by omega)]
      by_cases h2 : j ≤ i
      · rw [if_pos h2, if_pos (by omega)]
      · rw [if_neg h2, if_neg (by omega), List.drop_append_of_le_length (by simp; omega), List.append_assoc]
theorem pick_all (l : List (List Int)) (i : Nat) (hi : i < l.length) : pickL l (skL i l.length) = drL l i := by
  rw [pick_skL l i l.length (Nat.le_refl _), if_neg (by omega)]
  simp [drL]
theorem rows_law (n a : Int) (h1 : 1 ≤ a) : n ≤ (n + a - 1) / a * a ∧ (0 < n → ((n + a - 1) / a - 1) * a < n) := by
  have h2 := Int.emod_add_mul_ediv (n + a - 1) a
  have h3 := Int.emod_nonneg (n + a - 1) (show a ≠ 0 by omega)
  have h4 := Int.emod_lt_of_pos (n + a - 1) (show 0 < a by omega)
  have h5 : a * ((n + a - 1) / a) = (n + a - 1) / a * a := Int.mul_comm _ _
  have h6 : ((n + a - 1) / a - 1) * a = (n + a - 1) / a * a - a := by rw [Int.sub_mul]; omega
  omega
theorem place_law (n a i : Int) (h0 : 0 ≤ i) (hn : i < n) (h1 : 1 ≤ a) : 0 ≤ i % a ∧ i % a < a ∧ 0 ≤ i / a ∧ i / a < (n + a - 1) / a ∧ i / a * a + i % a = i := by
  have h2 := Int.emod_nonneg i (show a ≠ 0 by omega)
  have h3 := Int.emod_lt_of_pos i (show 0 < a by omega)
  have h4 := Int.emod_add_mul_ediv i a
  have h5 : a * (i / a) = i / a * a := Int.mul_comm _ _
  have h6 : 0 ≤ i / a := Int.ediv_nonneg h0 (by omega)
  refine ⟨h2, h3, h6, ?_, by omega⟩
  rw [Int.lt_iff_add_one_le]
  have : (i + a) / a = i / a + 1 := by rw [Int.add_ediv_of_dvd_right (Int.dvd_refl a), Int.ediv_self (by omega)]
  rw [← this]
  exact Int.ediv_le_ediv (by omega) (by omega)
end Go.Proofs.Ytnbbbmnjbfehmaa
