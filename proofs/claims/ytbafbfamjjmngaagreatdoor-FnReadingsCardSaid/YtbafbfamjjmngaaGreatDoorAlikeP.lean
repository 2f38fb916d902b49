/- Fields of cells that are alike: what is reached from a cell; plain facts. -/
import Derived.Test.YtbafbfamjjmngaaGreatDoorMaskOf
namespace Go.Proofs.YtbafbfamjjmngaaGreatDoor
open Go.RowKit
def bes (i j : Nat) : Bool := (decide (0 < i % 6) && decide (j + 1 = i)) || (decide (i % 6 < 5) && decide (j = i + 1)) || (decide (6 ≤ i) && decide (j + 6 = i)) || (decide (i < 18) && decide (j = i + 6))
theorem bes_iff (i j : Nat) : bes i j = true ↔ (0 < i % 6 ∧ j + 1 = i) ∨ (i % 6 < 5 ∧ j = i + 1) ∨ (6 ≤ i ∧ j + 6 = i) ∨ (i < 18 ∧ j = i + 6) := by
  simp only [bes, Bool.or_eq_true, Bool.and_eq_true, decide_eq_true_eq]
  constructor
  · rintro (((h | h) | h) | h) <;> simp [h]
  · rintro (h | h | h | h) <;> simp [h]
theorem bes_symm {i j : Nat} (hi : i < 24) (_ : j < 24) (h : bes i j = true) : bes j i = true := by
  rw [bes_iff] at h ⊢
  rcases h with ⟨h1, h2⟩ | ⟨h1, h2⟩ | ⟨h1, h2⟩ | ⟨h1, h2⟩
  · exact Or.inr (Or.inl ⟨by omega, by omega⟩)
  · exact Or.inl ⟨by omega, by omega⟩
  · exact Or.inr (Or.inr (Or.inr ⟨by omega, by omega⟩))
  · exact Or.inr (Or.inr (Or.inl ⟨by omega, by omega⟩))
/-- Two cells that lie beside each other, and whose readings are alike. -/
def alk (xs : List Int) (wi : Int) (i j : Nat) : Bool := bes i j && (decide (xs.getD j 0 - xs.getD i 0 ≤ wi) && decide (xs.getD i 0 - xs.getD j 0 ≤ wi))
theorem alk_symm {xs : List Int} {wi : Int} {i j : Nat} (hi : i < 24) (hj : j < 24) (h : alk xs wi i j = true) : alk xs wi j i = true := by
  simp only [alk, Bool.and_eq_true] at h ⊢
  exact ⟨bes_symm hi hj h.1, h.2.2, h.2.1⟩
inductive Rch (xs : List Int) (wi : Int) (i : Nat) : Nat → Prop
  | base : Rch xs wi i i
  | step {j k : Nat} : Rch xs wi i j → k < 24 → alk xs wi j k = true → Rch xs wi i k
theorem Rch.lt {xs : List Int} {wi : Int} {i j : Nat} (hi : i < 24) (h : Rch xs wi i j) : j < 24 := by
  cases h
  · exact hi
  · assumption
open Classical in
noncomputable def fieldOf (xs : List Int) (wi : Int) (i : Nat) : Nat := maskOf (fun j => decide (Rch xs wi i j)) 24
theorem fieldOf_bit (xs : List Int) (wi : Int) (i j : Nat) : (fieldOf xs wi i).testBit j = true ↔ j < 24 ∧ Rch xs wi i j := by
  unfold fieldOf; rw [maskOf_bit]; simp
theorem fieldOf_lt (xs : List Int) (wi : Int) (i : Nat) : fieldOf xs wi i < 2 ^ 24 := maskOf_lt _ 24
/-- The queue while a field grows: F is the cells of Q; those ahead of k have all that is alike beside them in Q. -/
structure QI (xs : List Int) (wi : Int) (i : Nat) (F : Nat) (Q : List Nat) (k : Nat) : Prop where
  hF : F < 2 ^ 24
  mem : ∀ j, F.testBit j = true ↔ j ∈ Q
  rch : ∀ j, j ∈ Q → j < 24 ∧ Rch xs wi i j
  root : i ∈ Q
  cnt : Q.length = ((List.range 24).filter fun j => F.testBit j).length
  dn : ∀ n, n < k → ∀ j, j < 24 → alk xs wi (Q.getD n 0) j = true → j ∈ Q
theorem QI.field {xs : List Int} {wi : Int} {i F k : Nat} {Q : List Nat} (h : QI xs wi i F Q k) (hk : ¬ k < Q.length) : F = fieldOf xs wi i := by
  apply Nat.eq_of_testBit_eq
  intro j
  rw [Bool.eq_iff_iff, fieldOf_bit, h.mem]
  constructor
  · exact fun hj => h.rch j hj
  · rintro ⟨hlt, hr⟩
    clear hlt
    induction hr with
    | base => exact h.root
    | @step a b _ hb hal ih =>
      have ha := ih
      obtain ⟨n, hn, he⟩ := List.getElem_of_mem ha
      exact h.dn n (by omega) b hb (by rw [List.getD_eq_getElem?_getD, List.getElem?_eq_getElem hn]; simpa [he] using hal)
theorem filter_set (F c : Nat) (hc : F.testBit c = false) : ∀ n, ((List.range n).filter fun j => (F ||| 2 ^ c).testBit j).length = ((List.range n).filter fun j => F.testBit j).length + if c < n then 1 else 0
  | 0 => by simp
  | n + 1 => by
    rw [List.range_succ, List.filter_append, List.filter_append, List.length_append, List.length_append, filter_set F c hc n]
    by_cases h : c = n
    · subst h; simp [hc]
    · by_cases hl : c < n
      · cases hb : F.testBit n <;> simp [h, hb, hl, show c < n + 1 by omega]
      · cases hb : F.testBit n <;> simp [h, hb, hl, show ¬ c < n + 1 by omega]
theorem QI.len {xs : List Int} {wi : Int} {i F k : Nat} {Q : List Nat} (h : QI xs wi i F Q k) : Q.length ≤ 24 := by
  rw [h.cnt]
  exact Nat.le_trans (List.length_filter_le _ _) (by simp)
theorem QI.start (xs : List Int) (wi : Int) (i : Nat) (hi : i < 24) : QI xs wi i (2 ^ i) [i] 0 where
  hF := Nat.pow_lt_pow_right (by omega) hi
  mem j := by rw [Nat.testBit_two_pow]; simp [eq_comm]
  rch j hj := by
    have : j = i := by simpa using hj
    subst this; exact ⟨hi, .base⟩
  root := by simp
  cnt := by
    have := filter_set 0 i (by simp) 24
    simp only [Nat.zero_or] at this
    rw [this]; simp [hi]
  dn n hn := absurd hn (by omega)
theorem QI.add {xs : List Int} {wi : Int} {i F k : Nat} {Q : List Nat} (h : QI xs wi i F Q k) (hk : k < Q.length) {c : Nat} (hc : c < 24) (ha : alk xs wi (Q.getD k 0) c = true) (hn : F.testBit c = false) : QI xs wi i (F ||| 2 ^ c) (Q ++ [c]) k where
  hF := Nat.or_lt_two_pow h.hF (Nat.pow_lt_pow_right (by omega) hc)
  mem j := by
    rw [Nat.testBit_or, Nat.testBit_two_pow, Bool.or_eq_true, h.mem, decide_eq_true_eq, List.mem_append, List.mem_singleton]
    exact or_congr Iff.rfl eq_comm
  rch j hj := by
    rcases List.mem_append.1 hj with hj | hj
    · exact h.rch j hj
    · have : j = c := by simpa using hj
      subst this
      have hq : Q.getD k 0 ∈ Q := by rw [List.getD_eq_getElem?_getD, List.getElem?_eq_getElem hk]; exact List.getElem_mem hk
      exact ⟨hc, .step (h.rch _ hq).2 hc ha⟩
  root := List.mem_append.2 (Or.inl h.root)
  cnt := by rw [filter_set F c hn, if_pos hc, ← h.cnt]; simp
  dn n hn j hj hal := by
    refine List.mem_append.2 (Or.inl (h.dn n hn j hj ?_))
    rwa [List.getD_eq_getElem?_getD, List.getElem?_append_left (by omega), ← List.getD_eq_getElem?_getD] at hal
theorem QI.next {xs : List Int} {wi : Int} {i F k : Nat} {Q : List Nat} (h : QI xs wi i F Q k) (hd : ∀ j, j < 24 → alk xs wi (Q.getD k 0) j = true → j ∈ Q) : QI xs wi i F Q (k + 1) :=
  ⟨h.hF, h.mem, h.rch, h.root, h.cnt, by
    intro n hn j hj hal
    by_cases e : n = k
    · subst e; exact hd j hj hal
    · exact h.dn n (by omega) j hj hal⟩
/-- All fields from the first k cells on: what has been met, and the fields. -/
noncomputable def alS (xs : List Int) (wi : Int) : Nat → Nat × List Int
  | 0 => (0, [])
  | k + 1 => if (alS xs wi k).1.testBit k then alS xs wi k else ((alS xs wi k).1 ||| fieldOf xs wi k, (alS xs wi k).2 ++ [((fieldOf xs wi k : Nat) : Int)])
theorem fieldOf_closed (xs : List Int) (wi : Int) (i j c : Nat) (h : (fieldOf xs wi i).testBit j = true) (hc : c < 24) (ha : alk xs wi j c = true) : (fieldOf xs wi i).testBit c = true := by
  rw [fieldOf_bit] at h ⊢
  exact ⟨hc, .step h.2 hc ha⟩
theorem alS_lt (xs : List Int) (wi : Int) : ∀ k, (alS xs wi k).1 < 2 ^ 24
  | 0 => by simp [alS]
  | k + 1 => by
    unfold alS; split
    · exact alS_lt xs wi k
    · exact Nat.or_lt_two_pow (alS_lt xs wi k) (fieldOf_lt xs wi k)
theorem alS_closed (xs : List Int) (wi : Int) : ∀ k j c, (alS xs wi k).1.testBit j = true → c < 24 → alk xs wi j c = true → (alS xs wi k).1.testBit c = true
  | 0, j, c, h, _, _ => by simp [alS] at h
  | k + 1, j, c, h, hc, ha => by
    unfold alS at h ⊢
    split at h
    · rename_i hk
      rw [if_pos hk]; exact alS_closed xs wi k j c h hc ha
    · rename_i hk
      rw [if_neg hk]
      rw [Nat.testBit_or, Bool.or_eq_true] at h ⊢
      rcases h with h | h
      · exact Or.inl (alS_closed xs wi k j c h hc ha)
      · exact Or.inr (fieldOf_closed xs wi k j c h hc ha)
/-- What is reached from a cell that has not been met has not been met. -/
theorem alS_apart {xs : List Int} {wi : Int} {k i j : Nat} (hi : i < 24) (h : (alS xs wi k).1.testBit i = false) (hr : Rch xs wi i j) : (alS xs wi k).1.testBit j = false := by
  induction hr with
  | base => exact h
  | @step a b hra hb hal ih =>
    cases hb' : (alS xs wi k).1.testBit b
    · rfl
    · have := alS_closed xs wi k b a hb' (hra.lt hi) (alk_symm (hra.lt hi) hb hal)
      rw [ih] at this; cases this
theorem alS_len (xs : List Int) (wi : Int) : ∀ k, (alS xs wi k).2.length ≤ k
  | 0 => by simp [alS]
  | k + 1 => by
    have := alS_len xs wi k
    unfold alS; split
    · omega
    · simp; omega
end Go.Proofs.YtbafbfamjjmngaaGreatDoor
