/- The greatest spot: plain facts. -/
import Derived.Test.YtdmlefccajaniaaDoorSpotS
namespace Go.Proofs.YtdmlefccajaniaaDoor
open Go.RowKit Go.Lib
theorem spL_ne : ∀ M, M < 2 ^ 64 → ∀ s, s ∈ spL M → s ≠ 0 := by
  intro M
  induction M using Nat.strongRecOn with
  | ind M ih =>
    intro hM s hs
    by_cases h0 : M = 0
    · subst h0; simp [spL_zero] at hs
    · have hd := dif_lt h0 hM
      rw [spL_cons h0 hM, List.mem_cons] at hs
      rcases hs with rfl | hs
      · intro e
        have := (spot_facts h0 hM).2.2.2
        rw [e, Nat.zero_testBit] at this
        cases this
      · exact ih _ hd (by omega) s hs
theorem cnt_pos' {D : Nat} (hD : D < 2 ^ 64) (h : D ≠ 0) : 0 < cnt D := by
  have h2 : sub 0 D := fun j hj => by simp at hj
  have h3 := cnt_lt (S := 0) (T := D) (by decide) hD h2 (Ne.symm h)
  omega
def better (b s : Nat) : Nat := if cnt b < cnt s then s else b
def gb (l : List Nat) (k : Nat) : Nat := (l.take k).foldl better 0
theorem gb_step (l : List Nat) (k : Nat) (h : k < l.length) : gb l (k + 1) = better (gb l k) (l.getD k 0) := by
  unfold gb
  rw [List.take_succ_eq_append_getElem h, List.foldl_append]
  simp [List.getD_eq_getElem?_getD, h]
theorem cnt_0 : cnt 0 = 0 := by decide
theorem gb_one (l : List Nat) (h : 0 < l.length) (hp : 0 < cnt (l.getD 0 0)) : gb l 1 = l.getD 0 0 := by
  rw [gb_step l 0 h, better, if_pos]
  show cnt 0 < _
  rw [cnt_0]; exact hp
theorem gb_all (l : List Nat) (h : ∀ j, j < l.length → l.getD j 0 < 2 ^ 64 ∧ 0 < cnt (l.getD j 0)) : ∀ k, k ≤ l.length → gb l k < 2 ^ 64 ∧ (0 < k → 0 < cnt (gb l k))
  | 0, _ => ⟨by show (0 : Nat) < 2 ^ 64; decide, fun h => absurd h (Nat.lt_irrefl 0)⟩
  | k + 1, hk => by
    have ih := gb_all l h k (by omega)
    have h1 := h k (by omega)
    rw [gb_step l k (by omega), better]
    split
    · exact ⟨h1.1, fun _ => h1.2⟩
    · exact ⟨ih.1, fun _ => by omega⟩
theorem sp_all (M : Nat) (hM : M < 2 ^ 64) : ∀ j, j < (spL M).length → (spL M).getD j 0 < 2 ^ 64 ∧ 0 < cnt ((spL M).getD j 0) := fun j hj => by
  have hm : (spL M).getD j 0 ∈ spL M := by
    rw [List.getD_eq_getElem?_getD, List.getElem?_eq_getElem hj]; simp
  have h1 := spL_lt M hM _ hm
  exact ⟨h1, cnt_pos' h1 (spL_ne M hM _ hm)⟩
def gV (M : Nat) : Nat × Int := if (spL M).length = 0 then (0, 6) else (gb (spL M) (spL M).length, 0)
theorem spI_get (M k : Nat) (h : k < (spL M).length) : (spI M).getD k 0 = (((spL M).getD k 0 : Nat) : Int) := by
  simp [spI, List.getD_eq_getElem?_getD, h]
theorem gV_none {M : Nat} (h : (spL M).length = 0) : gV M = (0, 6) := by simp [gV, h]
theorem gV_some {M : Nat} (h : (spL M).length ≠ 0) : gV M = (gb (spL M) (spL M).length, 0) := by simp [gV, h]
theorem sp_64 (M : Nat) (hM : M < 2 ^ 64) : (spL M).length ≤ 64 := by have := spI_le M hM; rwa [spI_len] at this
/-- Where the spots lie. -/
def PU (w : World) (v : Value) (xs : List Int) : Prop := ∃ p cap, v = .slice p xs.length cap ∧ (xs ≠ [] → ∃ b o, p = some ⟨b, o, none⟩ ∧ b < w.heap.size ∧ ∀ i, i < xs.length → w.cell? ⟨b, o + i, none⟩ = some (.int .u64 (xs.getD i 0)))
theorem row_PU {w : World} {base : Nat} {e : TypeId} {v : Value} {xs : List Int} (h : Row w base e .u64 v xs) : PU w v xs := by
  by_cases hne : xs = []
  · subst hne
    obtain ⟨_, h2⟩ := h
    rcases h2 with ⟨h2, _⟩ | ⟨g, cap, cur, hv, _⟩
    · exact ⟨none, 0, h2, fun h => absurd rfl h⟩
    · exact ⟨_, cap, hv, fun h => absurd rfl h⟩
  · obtain ⟨g, cap, hv, _, hg, _, _, hc⟩ := row_shape h hne
    exact ⟨_, cap, hv, fun _ => ⟨g, 0, rfl, hg, fun i hi => by rw [Nat.zero_add]; exact hc i hi⟩⟩
end Go.Proofs.YtdmlefccajaniaaDoor
