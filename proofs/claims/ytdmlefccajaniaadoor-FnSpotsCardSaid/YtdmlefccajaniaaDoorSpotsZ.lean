/- FnSpots: what the walk asks of the spots, of the greatest one and of repaired cells. -/
import Derived.Test.YtdmlefccajaniaaDoorSpotsP
import Derived.Test.YtdmlefccajaniaaDoorSpotsR
import Derived.Test.YtdmlefccajaniaaDoorGreatP
import Derived.Test.YtdmlefccajaniaaDoorRepC
import Derived.Test.YtdmlefccajaniaaDoorRepD
namespace Go.Proofs.YtdmlefccajaniaaDoor
open Go.RowKit Go.Lib
def gbR (l : List Nat) (k : Nat) : Nat := (l.take k).foldl (fun b s => if cnt b < cnt s then s else b) 0
theorem gbR_step (l : List Nat) (k : Nat) (h : k < l.length) : gbR l (k + 1) = if cnt (gbR l k) < cnt (l.getD k 0) then l.getD k 0 else gbR l k := by
  unfold gbR
  rw [List.take_succ_eq_append_getElem h, List.foldl_append]
  simp [List.getD_eq_getElem?_getD, h]
theorem gbR_max (l : List Nat) : ∀ k, k ≤ l.length → ∀ j, j < k → cnt (l.getD j 0) ≤ cnt (gbR l k)
  | 0, _, j, hj => absurd hj (Nat.not_lt_zero _)
  | k + 1, hk, j, hj => by
    have ih := gbR_max l k (by omega)
    rw [gbR_step l k (by omega)]
    split
    · by_cases e : j = k
      · subst e; exact Nat.le_refl _
      · have := ih j (by omega); omega
    · by_cases e : j = k
      · subst e; omega
      · exact ih j (by omega)
theorem gbR_mem (l : List Nat) (hp : ∀ j, j < l.length → 0 < cnt (l.getD j 0)) : ∀ k, k ≤ l.length → 0 < k → ∃ j, j < k ∧ gbR l k = l.getD j 0
  | 0, _, h => absurd h (by omega)
  | k + 1, hk, _ => by
    rw [gbR_step l k (by omega)]
    split
    · exact ⟨k, by omega, rfl⟩
    · rename_i hn
      rcases Nat.eq_zero_or_pos k with h0 | h0
      · subst h0
        have h1 := hp 0 (by omega)
        have : cnt (gbR l 0) = 0 := by show cnt 0 = 0; decide
        omega
      · obtain ⟨j, hj, e⟩ := gbR_mem l hp k (by omega) h0
        exact ⟨j, by omega, e⟩
theorem PB_u64_keep {w w1 : World} {p : Option Addr} {xs : List Int} (hb : Below w.heap.size w w1) (h : PB_u64 w w.heap.size p xs) : PB_u64 w1 w1.heap.size p xs := fun hne => by
  obtain ⟨b, o, h1, h2, h3⟩ := PB_u64_below hb h hne
  exact ⟨b, o, h1, Nat.lt_of_lt_of_le h2 hb.size, h3⟩
structure SpF (M : Nat) (xs : List Int) (L : List Nat) (n G : Nat) (c : Int) : Prop where
  m : M < 2 ^ 64
  len : n = xs.length
  len2 : n = L.length
  le : n ≤ 64
  at_ : ∀ k, k < n → xs.getD k 0 = ((L.getD k 0 : Nat) : Int)
  get : ∀ k, k < n → L.getD k 0 < 2 ^ 64 ∧ L.getD k 0 ≠ 0 ∧ gr (L.getD k 0) &&& M = L.getD k 0
  apart : ∀ k, k < n → orL (L.take k) &&& L.getD k 0 = 0
  most : ∀ k, k < n → cnt (L.getD k 0) ≤ cnt G
  great : G < 2 ^ 64
  code : (c == 0) = (((M : Int)) != 0)
  all : orL L = M
  mem : M = 0 ∨ ∃ j, j < n ∧ L.getD j 0 = G
theorem spF {M : Nat} (hM : M < 2 ^ 64) : SpF M (spI M) (spL M) (spI M).length (gV M).1 (gV M).2 := by
  have hl := spI_len M
  have h0 : (spL M).length = 0 ↔ M = 0 := by
    constructor
    · intro h
      have := spots_or hM
      rw [List.eq_nil_of_length_eq_zero h] at this
      exact this.symm
    · rintro rfl; rw [spL_zero]; rfl
  have hcp : ∀ j, j < (spL M).length → 0 < cnt ((spL M).getD j 0) := fun j hj => (sp_all M hM j hj).2
  have hgv : (gV M).1 = gbR (spL M) (spL M).length := by
    by_cases hz : (spL M).length = 0
    · rw [gV_none hz, hz]; rfl
    · rw [gV_some hz]; rfl
  refine ⟨hM, rfl, hl, by have := spI_le M hM; omega, fun k hk => spI_get M k (by omega), fun k hk => spots_get hM (by omega), fun k hk => spots_apart hM (by omega), fun k hk => ?_, ?_, ?_, spots_or hM, ?_⟩
  · rw [hgv]; exact gbR_max (spL M) _ (Nat.le_refl _) k (by omega)
  · by_cases hz : (spL M).length = 0
    · rw [gV_none hz]; decide
    · rw [gV_some hz]; exact (gb_all _ (sp_all M hM) _ (Nat.le_refl _)).1
  · by_cases hz : (spL M).length = 0
    · have := h0.1 hz
      subst this
      rw [gV_none hz]; decide
    · have : M ≠ 0 := fun h => hz (h0.2 h)
      rw [gV_some hz]
      have h1 : ((M : Int) != 0) = true := by simp; omega
      rw [h1]; rfl
  · by_cases hz : (spL M).length = 0
    · exact Or.inl (h0.1 hz)
    · obtain ⟨j, hj, e⟩ := gbR_mem (spL M) hcp (spL M).length (Nat.le_refl _) (by omega)
      exact Or.inr ⟨j, by omega, by rw [hgv]; exact e.symm⟩
/-- The greatest spot has been met. -/
def metB (M : Nat) (L : List Nat) (G k : Nat) : Bool := decide ((M : Int) = 0) || (L.take k).any (fun s => s == G)
theorem metB_succ (M : Nat) (L : List Nat) (G k : Nat) (h : k < L.length) : metB M L G (k + 1) = (metB M L G k || (L.getD k 0 == G)) := by
  unfold metB
  rw [List.take_succ_eq_append_getElem h, List.any_append]
  simp [List.getD_eq_getElem?_getD, h, Bool.or_assoc]
theorem metB_all {M : Nat} {xs : List Int} {L : List Nat} {n G : Nat} {c : Int} (h : SpF M xs L n G c) : metB M L G n = true := by
  unfold metB
  rcases h.mem with h0 | ⟨j, hj, e⟩
  · simp [h0]
  · have hl := h.len2
    rw [List.take_of_length_le (by omega), Bool.or_eq_true, List.any_eq_true]
    refine Or.inr ⟨L.getD j 0, ?_, beq_iff_eq.2 e⟩
    rw [List.getD_eq_getElem?_getD, List.getElem?_eq_getElem (by omega)]
    exact List.getElem_mem _
/-- The rounds do not depend on the print. -/
theorem ra_cnt : ∀ (f : Nat) (p q : List Int) (M r : Nat), (ra f p M r).2 = (ra f q M r).2
  | 0, _, _, _, _ => rfl
  | f + 1, p, q, M, r => by
    by_cases h : M = 0
    · subst h; rw [ra_zero, ra_zero]
    · rw [ra_step f p M r h, ra_step f q M r h]; exact ra_cnt f _ _ _ _
theorem ra_raR : ∀ (f : Nat) (p : List Int) (M r : Nat), ra f p M r = raR f p M r
  | 0, _, _, _ => rfl
  | f + 1, p, M, r => by
    by_cases h : M = 0
    · subst h; rw [ra_zero]; simp [raR]
    · rw [ra_step f p M r h, ra_raR f]; simp [raR, h]
/-- What is repaired. -/
structure RpF (p : List Int) (M : Nat) (P : List Int) (r : Nat) : Prop where
  pr : Pr P
  rounds : rmN M r = 0
  some : ∀ k, k < r → rmN M k ≠ 0
  keep : ∀ j, j < 64 → M.testBit j = false → P.getD j 0 = p.getD j 0
  bet : ∀ lo hi, Bet p M lo hi → ∀ j, j < 64 → lo ≤ P.getD j 0 ∧ P.getD j 0 ≤ hi
  r64 : r ≤ 65
theorem rmN_lt {M : Nat} (hM : M < 2 ^ 64) : ∀ k, rmN M k < 2 ^ 64
  | 0 => hM
  | _ + 1 => rm_lt _
theorem rpF {p : List Int} {M : Nat} (hp : Pr p) (ho : okP p = true) (hM : M < 2 ^ 64) (hf : M ≠ 18446744073709551615) : rcV p M = ((ra 65 p M 0).1, (ra 65 p M 0).2, 0) ∧ rcV Z64 M = ((ra 65 Z64 M 0).1, (ra 65 p M 0).2, 0) ∧ RpF p M (ra 65 p M 0).1 (ra 65 p M 0).2 := by
  have hz : okP Z64 = true := by simp [okP, Z64, dnB]
  have hc := cnt_le M
  have hb0 : Bet p M 0 400 := fun j hj _ => okP_get ho j
  obtain ⟨_, a2, n, a3, a4, a5⟩ := raR_law 65 p M 0 0 400 hM hf (by omega) hb0
  have hR := RA_start hp (okP_get ho) hM hf
  refine ⟨rcV_ok ho hf, by rw [rcV_ok hz hf, ra_cnt 65 Z64 p M 0], ra_Pr 65 p M 0 hp (okP_get ho), ?_, ?_, ?_, ?_, ?_⟩
  · rw [ra_raR, a3, Nat.zero_add]; exact a4
  · intro k hk
    rw [ra_raR, a3, Nat.zero_add] at hk; exact a5 k hk
  · rw [ra_raR]; exact a2
  · intro lo hi hb
    rw [ra_raR]
    exact (raR_law 65 p M 0 lo hi hM hf (by omega) hb).1
  · have : ∀ (f : Nat) (q : List Int) (N r : Nat), (ra f q N r).2 ≤ r + f := by
      intro f
      induction f with
      | zero => intro q N r; exact Nat.le_refl _
      | succ f ih =>
        intro q N r
        by_cases h : N = 0
        · subst h; rw [ra_zero]; exact Nat.le_add_right _ _
        · rw [ra_step f q N r h]; have := ih (rp q N) (rm N) (r + 1); omega
    have := this 65 p M 0
    omega
/-- Both repairs of a mask: of a print, and of an empty one. -/
theorem rcBoth {p : List Int} {M : Nat} (hp : Pr p) (ho : okP p = true) (hM : M < 2 ^ 64) : ∃ R r cc Q, rcV p M = (R, r, cc) ∧ rcV Z64 M = (Q, r, cc) ∧ Pr R ∧ ((cc = 6 ∧ M = 18446744073709551615) ∨ (cc = 0 ∧ RpF p M R r)) := by
  by_cases hf : M = 18446744073709551615
  · subst hf
    have hz : okP Z64 = true := by simp [okP, Z64, dnB]
    exact ⟨Z64, 0, 6, Z64, rcV_full ho, rcV_full hz, Z64_Pr, Or.inl ⟨rfl, rfl⟩⟩
  · obtain ⟨h1, h2, h3⟩ := rpF hp ho hM hf
    exact ⟨_, _, _, _, h1, h2, h3.pr, Or.inr ⟨rfl, h3⟩⟩
theorem xor_not {m : Nat} (hm : m < 2 ^ 64) : 18446744073709551615 ^^^ m = 18446744073709551615 - m := by
  apply Nat.eq_of_testBit_eq
  intro j
  rw [Nat.testBit_xor, nt_bit hm, show (18446744073709551615 : Nat) = 2 ^ 64 - 1 by decide, Nat.testBit_two_pow_sub_one]
  by_cases hj : j < 64
  · simp [hj]
  · rw [Nat.testBit_lt_two_pow (Nat.lt_of_lt_of_le hm (Nat.pow_le_pow_right (by omega) (by omega)))]; simp [hj]
theorem xor_int {m : Nat} (hm : m < 2 ^ 64) : bits .xor .u64 IntKind.u64.max (m : Int) = ((18446744073709551615 - m : Nat) : Int) := by
  rw [← xor_not hm]
  exact xor64 18446744073709551615 m (by decide) hm
/-- Between the bounds so far. -/
def BetK (p : List Int) (M k : Nat) (lo hi : Int) : Prop := ∀ j, j < k → M.testBit j = false → lo ≤ p.getD j 0 ∧ p.getD j 0 ≤ hi
theorem betK_skip {p : List Int} {M k : Nat} {lo hi : Int} (h : BetK p M k lo hi) (hb : M.testBit k = true) : BetK p M (k + 1) lo hi := fun j hj hm => by
  by_cases e : j = k
  · subst e; rw [hb] at hm; cases hm
  · exact h j (by omega) hm
theorem betK_take {p : List Int} {M k : Nat} {lo hi lo' hi' : Int} (h : BetK p M k lo hi) (h1 : lo' ≤ lo) (h2 : lo' ≤ p.getD k 0) (h3 : hi ≤ hi') (h4 : p.getD k 0 ≤ hi') : BetK p M (k + 1) lo' hi' := fun j hj hm => by
  by_cases e : j = k
  · subst e; exact ⟨h2, h4⟩
  · have := h j (by omega) hm; omega
end Go.Proofs.YtdmlefccajaniaaDoor
