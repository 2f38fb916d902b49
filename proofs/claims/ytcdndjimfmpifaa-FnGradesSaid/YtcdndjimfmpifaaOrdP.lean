/- Sorting by insertion, by a key: plain facts. -/
import Derived.Test.YtcdndjimfmpifaaBase
namespace Go.Proofs.Ytcdndjimfmpifaa
def insK (f : Int → Int) (x : Int) : List Int → List Int
  | [] => [x]
  | y :: l => if f x < f y then x :: y :: l else y :: insK f x l
theorem insK_length (f : Int → Int) (x : Int) : ∀ l, (insK f x l).length = l.length + 1
  | [] => rfl
  | y :: l => by
    unfold insK; split
    · simp
    · simp [insK_length f x l]
theorem insK_mem (f : Int → Int) (x z : Int) : ∀ l, z ∈ insK f x l ↔ z = x ∨ z ∈ l
  | [] => by simp [insK]
  | y :: l => by
    unfold insK; split
    · simp
    · simp only [List.mem_cons, insK_mem f x z l]
      constructor
      · rintro (h | h | h) <;> simp [h]
      · rintro (h | h | h) <;> simp [h]
def AscK (f : Int → Int) (l : List Int) : Prop := l.Pairwise (fun a b => f a ≤ f b)
theorem insK_asc (f : Int → Int) (x : Int) : ∀ l, AscK f l → AscK f (insK f x l)
  | [], _ => by simp [insK, AscK]
  | y :: l, h => by
    have h1 := List.pairwise_cons.1 h
    unfold insK; split
    · rename_i hlt
      refine List.pairwise_cons.2 ⟨fun z hz => ?_, h⟩
      rcases List.mem_cons.1 hz with rfl | hz
      · omega
      · have := h1.1 z hz; omega
    · rename_i hge
      refine List.pairwise_cons.2 ⟨fun z hz => ?_, insK_asc f x l h1.2⟩
      rcases (insK_mem f x z l).1 hz with rfl | hz
      · omega
      · exact h1.1 z hz
def isortK (f : Int → Int) : List Int → List Int := fun xs => xs.foldl (fun l x => insK f x l) []
theorem isortK_snoc (f : Int → Int) (xs : List Int) (x : Int) : isortK f (xs ++ [x]) = insK f x (isortK f xs) := by simp [isortK]
theorem isortK_take (f : Int → Int) (xs : List Int) (i : Nat) (h : i < xs.length) : isortK f (xs.take (i + 1)) = insK f (xs.getD i 0) (isortK f (xs.take i)) := by
  rw [take_snoc xs i h, isortK_snoc f]
theorem isortK_length_take (f : Int → Int) (xs : List Int) : ∀ i, i ≤ xs.length → (isortK f (xs.take i)).length = i
  | 0, _ => by simp [isortK]
  | i + 1, h => by rw [isortK_take f xs i (by omega), insK_length f, isortK_length_take f xs i (by omega)]
theorem isortK_length (f : Int → Int) (xs : List Int) : (isortK f xs).length = xs.length := by
  have := isortK_length_take f xs xs.length (Nat.le_refl _)
  rwa [List.take_length] at this
theorem isortK_asc_take (f : Int → Int) (xs : List Int) : ∀ i, i ≤ xs.length → AscK f (isortK f (xs.take i))
  | 0, _ => by simp [isortK, AscK]
  | i + 1, h => by rw [isortK_take f xs i (by omega)]; exact insK_asc f _ _ (isortK_asc_take f xs i (by omega))
theorem isortK_mem_take (f : Int → Int) (xs : List Int) (z : Int) : ∀ i, i ≤ xs.length → (z ∈ isortK f (xs.take i) ↔ z ∈ xs.take i)
  | 0, _ => by simp [isortK]
  | i + 1, h => by
    rw [isortK_take f xs i (by omega), insK_mem f, isortK_mem_take f xs z i (by omega), take_snoc xs i (by omega), List.mem_append, List.mem_singleton]
    exact or_comm
theorem isortK_mem (f : Int → Int) (xs : List Int) (z : Int) : z ∈ isortK f xs ↔ z ∈ xs := by
  have := isortK_mem_take f xs z xs.length (Nat.le_refl _)
  rwa [List.take_length] at this
/-- One number on its way down in a list that is in order. -/
def stK (S : List Int) (j : Nat) (x : Int) (R : List Int) : List Int := S.take j ++ x :: (S.drop j ++ R)
theorem stK_length (S : List Int) (j : Nat) (x : Int) (R : List Int) (_ : j ≤ S.length) : (stK S j x R).length = S.length + 1 + R.length := by
  simp only [stK, List.length_append, List.length_take, List.length_cons, List.length_drop]; omega
theorem stK_at (S : List Int) (j : Nat) (x : Int) (R : List Int) (h : j ≤ S.length) : (stK S j x R).getD j 0 = x := by
  simp [stK, List.getD_eq_getElem?_getD, Nat.min_eq_left h]
theorem stK_pred (S : List Int) (j : Nat) (x : Int) (R : List Int) (h : j < S.length) : (stK S (j + 1) x R).getD j 0 = S.getD j 0 := by
  rw [stK, List.getD_eq_getElem?_getD, List.getElem?_append_left (by simp; omega), List.getD_eq_getElem?_getD, List.getElem?_take_of_lt (by omega)]
theorem stK_set (S : List Int) (j : Nat) (x y : Int) (R : List Int) (h : j ≤ S.length) : (stK S j x R).set j y = stK S j y R := by
  have hl : (S.take j).length = j := by simp; omega
  rw [stK, List.set_append_right _ _ (by omega), hl, Nat.sub_self]
  rfl
theorem stK_shift (S : List Int) (j : Nat) (R : List Int) (h : j < S.length) : stK S (j + 1) (S.getD j 0) R = stK S j (S.getD j 0) (R) := by
  have e : S.drop j = S.getD j 0 :: S.drop (j + 1) := by rw [List.drop_eq_getElem_cons h, List.getD_eq_getElem?_getD, List.getElem?_eq_getElem h]; rfl
  rw [stK, stK, take_snoc S j h, List.append_assoc, e]
  rfl
theorem stK_swap (S : List Int) (j : Nat) (x : Int) (R : List Int) (h : j < S.length) : ((stK S (j + 1) x R).set (j + 1) (S.getD j 0)).set j x = stK S j x R := by
  rw [stK_set _ _ _ _ _ (by omega), stK_shift _ _ _ h, stK_set _ _ _ _ _ (by omega)]
theorem stK_last (S : List Int) (x : Int) (R : List Int) : stK S S.length x R = S ++ x :: R := by simp [stK]
theorem stK_start (xs : List Int) (i : Nat) (h : i < xs.length) (S : List Int) (hS : S.length = i) : S ++ xs.drop i = stK S i (xs.getD i 0) (xs.drop (i + 1)) := by
  subst hS
  rw [stK_last, List.drop_eq_getElem_cons h]
  simp [List.getD_eq_getElem?_getD, h]
theorem insK_at (f : Int → Int) (x : Int) : ∀ (S : List Int) (j : Nat), AscK f S → j ≤ S.length → (∀ y ∈ S.drop j, f x < f y) → (j = 0 ∨ f (S.getD (j - 1) 0) ≤ f x) → S.take j ++ x :: S.drop j = insK f x S
  | [], j, _, _, _, _ => by simp [insK]
  | y :: l, 0, _, _, hb, _ => by
    have := hb y (by simp)
    simp [insK, this]
  | y :: l, j + 1, ha, hj, hb, hp => by
    have h1 := List.pairwise_cons.1 ha
    have hj' : j ≤ l.length := by simpa using hj
    have hp' : f ((y :: l).getD j 0) ≤ f x := by rcases hp with h | h; cases h; simpa using h
    have hyx : f y ≤ f x := by
      cases j with
      | zero => simpa using hp'
      | succ j =>
        have hjl : j < l.length := by omega
        have e : (y :: l).getD (j + 1) 0 = l[j] := by simp [List.getD_eq_getElem?_getD, hjl]
        have := h1.1 l[j] (List.getElem_mem hjl)
        rw [e] at hp'
        omega
    have ih := insK_at f x l j h1.2 hj' (fun z hz => hb z (by simpa using hz)) (by
      cases j with
      | zero => exact Or.inl rfl
      | succ j => exact Or.inr (by simpa using hp'))
    rw [insK, if_neg (by omega), List.take_succ_cons, List.drop_succ_cons, List.cons_append, ih]
theorem stK_end (f : Int → Int) (x : Int) (S : List Int) (j : Nat) (R : List Int) (ha : AscK f S) (hj : j ≤ S.length) (hb : ∀ y ∈ S.drop j, f x < f y) (hp : j = 0 ∨ f (S.getD (j - 1) 0) ≤ f x) : stK S j x R = insK f x S ++ R := by
  rw [← insK_at f x S j ha hj hb hp, stK]; simp
theorem dropK_lt (f : Int → Int) {S : List Int} {j : Nat} {x : Int} (hj : j < S.length) (hb : ∀ y ∈ S.drop (j + 1), f x < f y) (h : f x < f (S.getD j 0)) : ∀ y ∈ S.drop j, f x < f y := by
  intro y hy
  rw [List.drop_eq_getElem_cons hj] at hy
  rcases List.mem_cons.1 hy with rfl | hy
  · simpa [List.getD_eq_getElem?_getD, hj] using h
  · exact hb y hy
end Go.Proofs.Ytcdndjimfmpifaa
