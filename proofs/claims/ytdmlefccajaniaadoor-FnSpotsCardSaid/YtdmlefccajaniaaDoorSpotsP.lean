/- FnSpots: the plain laws of spots. -/
import Derived.Test.YtdmlefccajaniaaDoorSpotQ
namespace Go.Proofs.YtdmlefccajaniaaDoor
def orL (l : List Nat) : Nat := l.foldl (fun a b => a ||| b) 0
theorem orL_snoc (l : List Nat) (x : Nat) : orL (l ++ [x]) = orL l ||| x := by simp [orL]
theorem orL_take (l : List Nat) (k : Nat) (h : k < l.length) : orL (l.take (k + 1)) = orL (l.take k) ||| l.getD k 0 := by
  rw [List.take_succ_eq_append_getElem h, orL_snoc]
  simp [List.getD_eq_getElem?_getD, h]
theorem orL_bit (l : List Nat) (j : Nat) : ∀ a, (l.foldl (fun a b => a ||| b) a).testBit j = (a.testBit j || l.any (·.testBit j)) := by
  induction l with
  | nil => intro a; simp
  | cons x l ih => intro a; rw [List.foldl_cons, ih, Nat.testBit_or, List.any_cons, Bool.or_assoc]
theorem orL_has (l : List Nat) (j : Nat) : (orL l).testBit j = true ↔ ∃ s, s ∈ l ∧ s.testBit j = true := by
  unfold orL
  rw [orL_bit, Nat.zero_testBit, Bool.false_or, List.any_eq_true]
theorem dif_bit {L s : Nat} (hL : L < 2 ^ 64) (hs : s < 2 ^ 64) (j : Nat) : (dif64 L s).testBit j = true ↔ L.testBit j = true ∧ s.testBit j = false := by
  by_cases hj : j < 64
  · rw [(isM_andNot (isM_self L hL) (isM_self s hs)).2 j hj]; simp
  · constructor
    · intro h
      exact absurd (lt64_of (isM_andNot (isM_self L hL) (isM_self s hs)).1 h) hj
    · rintro ⟨h, _⟩
      exact absurd (lt64_of hL h) hj
/-- All that is told of the spots of a part M of m that no neighbour leaves. -/
theorem spL_law {m : Nat} (hm : m < 2 ^ 64) : ∀ M, M < 2 ^ 64 → sub M m → clo m M → (∀ s, s ∈ spL M → sub s M ∧ nx m s = s ∧ s ≠ 0) ∧ (spL M).Pairwise (fun s t => ∀ j, s.testBit j = true → t.testBit j = false) ∧ ∀ j, M.testBit j = true → ∃ s, s ∈ spL M ∧ s.testBit j = true := by
  intro M
  induction M using Nat.strongRecOn with
  | ind M ih =>
    intro hM hs hc
    by_cases h0 : M = 0
    · subst h0
      rw [spL_zero]
      exact ⟨fun s h => absurd h (by simp), List.Pairwise.nil, fun j h => by simp at h⟩
    · have hd := dif_lt h0 hM
      obtain ⟨f1, f2, f3, f4⟩ := spot_facts h0 hM
      obtain ⟨c1, c2⟩ := clo_diff hm hs hc f1 f2 f3
      obtain ⟨i1, i2, i3⟩ := ih _ hd (by omega) c2 c1
      rw [spL_cons h0 hM]
      refine ⟨fun s h => ?_, List.pairwise_cons.2 ⟨fun t ht j hj => ?_, i2⟩, fun j hj => ?_⟩
      · rcases List.mem_cons.1 h with rfl | h
        · exact ⟨f2, (nx_clo f1 hs hc f2).trans f3, fun e => by rw [e] at f4; simp at f4⟩
        · obtain ⟨a1, a2, a3⟩ := i1 s h
          exact ⟨sub_trans a1 fun j hj => ((dif_bit hM f1 j).1 hj).1, a2, a3⟩
      · cases h : t.testBit j
        · rfl
        · have := ((dif_bit hM f1 j).1 ((i1 t ht).1 j h)).2
          rw [hj] at this; cases this
      · cases h : (spot M).testBit j
        · obtain ⟨s, h1, h2⟩ := i3 j ((dif_bit hM f1 j).2 ⟨hj, h⟩)
          exact ⟨s, List.mem_cons.2 (Or.inr h1), h2⟩
        · exact ⟨_, List.mem_cons_self, h⟩
theorem spots_all {m : Nat} (hm : m < 2 ^ 64) : (∀ s, s ∈ spL m → sub s m ∧ nx m s = s ∧ s ≠ 0) ∧ (spL m).Pairwise (fun s t => ∀ j, s.testBit j = true → t.testBit j = false) ∧ ∀ j, m.testBit j = true → ∃ s, s ∈ spL m ∧ s.testBit j = true :=
  spL_law hm m hm (sub_refl m) (fun _ _ _ _ h _ => h)
theorem spots_or {m : Nat} (hm : m < 2 ^ 64) : orL (spL m) = m := by
  obtain ⟨h1, _, h3⟩ := spots_all hm
  apply Nat.eq_of_testBit_eq
  intro j
  rw [Bool.eq_iff_iff, orL_has]
  exact ⟨fun ⟨s, hs, hj⟩ => (h1 s hs).1 j hj, h3 j⟩
theorem spots_apart {m : Nat} (hm : m < 2 ^ 64) {k : Nat} (hk : k < (spL m).length) : orL ((spL m).take k) &&& (spL m).getD k 0 = 0 := by
  obtain ⟨_, h2, _⟩ := spots_all hm
  apply Nat.eq_of_testBit_eq
  intro j
  rw [Nat.testBit_and, Nat.zero_testBit]
  cases ho : (orL ((spL m).take k)).testBit j
  · rfl
  · obtain ⟨s, hs, hj⟩ := (orL_has _ _).1 ho
    obtain ⟨i, hi, hs⟩ := List.mem_iff_getElem.1 hs
    rw [List.getElem_take] at hs
    rw [List.length_take] at hi
    rw [List.pairwise_iff_getElem] at h2
    have := h2 i k (by omega) hk (by omega) j (by rw [hs]; exact hj)
    rw [List.getD_eq_getElem?_getD, List.getElem?_eq_getElem hk]
    simpa using this
theorem spots_get {m : Nat} (hm : m < 2 ^ 64) {k : Nat} (hk : k < (spL m).length) : (spL m).getD k 0 < 2 ^ 64 ∧ (spL m).getD k 0 ≠ 0 ∧ gr ((spL m).getD k 0) &&& m = (spL m).getD k 0 := by
  have e : (spL m).getD k 0 = (spL m)[k] := by rw [List.getD_eq_getElem?_getD, List.getElem?_eq_getElem hk]; rfl
  rw [e]
  obtain ⟨_, h2, h3⟩ := (spots_all hm).1 _ (List.getElem_mem hk)
  exact ⟨spL_lt m hm _ (List.getElem_mem hk), h3, h2⟩
theorem gr_and {m : Nat} (hm : m < 2 ^ 64) : gr m &&& m = m := by
  show nx m m = m
  apply Nat.eq_of_testBit_eq
  intro j
  rw [Bool.eq_iff_iff]
  exact ⟨nx_sub m m j, sub_nx hm (sub_refl m) j⟩
end Go.Proofs.YtdmlefccajaniaaDoor
