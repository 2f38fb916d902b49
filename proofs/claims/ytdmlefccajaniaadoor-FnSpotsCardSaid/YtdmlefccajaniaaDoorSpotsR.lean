/- FnSpots: the plain laws of repaired cells. -/
import Derived.Test.YtdmlefccajaniaaDoorRepP
namespace Go.Proofs.YtdmlefccajaniaaDoor
/-- The cells outside of a mask lie between two numbers. -/
def Bet (p : List Int) (M : Nat) (lo hi : Int) : Prop := ∀ j, j < 64 → M.testBit j = false → lo ≤ p.getD j 0 ∧ p.getD j 0 ≤ hi
theorem sumTo_bet {p : List Int} {D : Nat} {lo hi : Int} (h : ∀ j, j < 64 → D.testBit j = true → lo ≤ p.getD j 0 ∧ p.getD j 0 ≤ hi) : ∀ k, k ≤ 64 → lo * cntN D.testBit k ≤ sumTo p D k ∧ sumTo p D k ≤ hi * cntN D.testBit k
  | 0, _ => by simp [sumTo, cntN]
  | k + 1, hk => by
    obtain ⟨h1, h2⟩ := sumTo_bet h k (by omega)
    simp only [sumTo, cntN]
    cases hb : D.testBit k
    · simpa using ⟨h1, h2⟩
    · have := h k (by omega) hb
      simp only [if_true]
      rw [show ((cntN D.testBit k + 1 : Nat) : Int) = (cntN D.testBit k : Int) + 1 by omega, Int.mul_add, Int.mul_add, Int.mul_one, Int.mul_one]
      omega
theorem qv_bet {p : List Int} {M i : Nat} {lo hi : Int} (hM : M < 2 ^ 64) (h : Bet p M lo hi) (h0 : obM M i ≠ 0) : lo ≤ qv p M i ∧ qv p M i ≤ hi := by
  have hc := cnt_pos (obM_lt M i) h0
  obtain ⟨s1, s2⟩ := sumTo_bet (p := p) (D := obM M i) (lo := lo) (hi := hi) (fun j hj hb => h j hj (by
    have : (obM M i).testBit j = (arB i j && !M.testBit j) := (isM_ob M i hM).2 j hj
    rw [hb] at this
    cases hm : M.testBit j
    · rfl
    · rw [hm] at this; simp at this)) 64 (Nat.le_refl _)
  unfold qv
  rw [if_neg h0]
  have hc' : (0 : Int) < (cnt (obM M i) : Nat) := by omega
  exact ⟨Int.le_ediv_of_mul_le hc' s1, Int.ediv_le_of_le_mul hc' s2⟩
theorem rm_bit (M j : Nat) (hj : j < 64) : (rm M).testBit j = (M.testBit j && decide (obM M j = 0)) := (isM_rm M).2 j hj
theorem ob_bit {M : Nat} (hM : M < 2 ^ 64) (i j : Nat) (hj : j < 64) : (obM M i).testBit j = (arB i j && !M.testBit j) := (isM_ob M i hM).2 j hj
theorem rp_bet {p : List Int} {M : Nat} {lo hi : Int} (hM : M < 2 ^ 64) (h : Bet p M lo hi) : Bet (rp p M) (rm M) lo hi := fun j hj hr => by
  rw [rp_get p M j hj]
  rw [rm_bit M j hj] at hr
  cases hm : M.testBit j
  · rw [if_neg (by simp)]; exact h j hj hm
  · rw [if_pos rfl]
    refine qv_bet hM h (fun e => ?_)
    rw [hm, e] at hr; simp at hr
theorem rm_sub (M : Nat) (j : Nat) (hj : j < 64) (h : M.testBit j = false) : (rm M).testBit j = false := by
  rw [rm_bit M j hj, h]; rfl
theorem cnt_fullR : cnt 18446744073709551615 = 64 := by decide
theorem rm_nfR {M : Nat} (hM : M < 2 ^ 64) (h0 : M ≠ 0) (h1 : M ≠ 18446744073709551615) : rm M ≠ 18446744073709551615 := fun e => by
  have := rm_less hM h0 h1
  rw [e, cnt_fullR] at this
  have := cnt_le M
  omega
/-- The rounds (the same as 'ra', told without it). -/
def rmN (M : Nat) : Nat → Nat
  | 0 => M
  | k + 1 => rm (rmN M k)
theorem rmN_rm (M : Nat) : ∀ k, rmN (rm M) k = rmN M (k + 1)
  | 0 => rfl
  | k + 1 => by show rm (rmN (rm M) k) = rm (rmN M (k + 1)); rw [rmN_rm M k]
def raR : Nat → List Int → Nat → Nat → List Int × Nat
  | 0, p, _, r => (p, r)
  | f + 1, p, M, r => if M = 0 then (p, r) else raR f (rp p M) (rm M) (r + 1)
theorem raR_law : ∀ (f : Nat) (p : List Int) (M r : Nat) (lo hi : Int), M < 2 ^ 64 → M ≠ 18446744073709551615 → cnt M < f → Bet p M lo hi →
    (∀ j, j < 64 → lo ≤ (raR f p M r).1.getD j 0 ∧ (raR f p M r).1.getD j 0 ≤ hi) ∧ (∀ j, j < 64 → M.testBit j = false → (raR f p M r).1.getD j 0 = p.getD j 0) ∧ ∃ n, (raR f p M r).2 = r + n ∧ rmN M n = 0 ∧ ∀ k, k < n → rmN M k ≠ 0
  | 0, _, _, _, _, _, _, _, h, _ => absurd h (Nat.not_lt_zero _)
  | f + 1, p, M, r, lo, hi, hM, hf, hc, hb => by
    by_cases h0 : M = 0
    · subst h0
      simp only [raR, if_true]
      exact ⟨fun j hj => hb j hj (by simp), fun _ _ _ => trivial, 0, rfl, rfl, fun k hk => absurd hk (Nat.not_lt_zero _)⟩
    · simp only [raR, if_neg h0]
      have hl := rm_less hM h0 hf
      obtain ⟨i1, i2, n, i3, i4, i5⟩ := raR_law f (rp p M) (rm M) (r + 1) lo hi (rm_lt M) (rm_nfR hM h0 hf) (by omega) (rp_bet hM hb)
      refine ⟨i1, fun j hj hm => ?_, n + 1, by rw [i3]; omega, by rw [← rmN_rm]; exact i4, fun k hk => ?_⟩
      · rw [i2 j hj (rm_sub M j hj hm), rp_get p M j hj, if_neg (by rw [hm]; simp)]
      · match k, hk with
        | 0, _ => exact h0
        | k + 1, hk => rw [← rmN_rm]; exact i5 k (by omega)
theorem nt_bit {M : Nat} (hM : M < 2 ^ 64) (j : Nat) : (18446744073709551615 - M).testBit j = (decide (j < 64) && !M.testBit j) := by
  have := Nat.testBit_two_pow_sub_succ (x := M) (n := 64) hM j
  rwa [show 2 ^ 64 - (M + 1) = 18446744073709551615 - M by omega] at this
theorem rm_shift {M : Nat} (hM : M < 2 ^ 64) : dif64 M (gr (18446744073709551615 - M)) = rm M := by
  have hN : 18446744073709551615 - M < 2 ^ 64 := by omega
  apply Nat.eq_of_testBit_eq
  intro j
  rw [bit_dif hM (gr_lt _)]
  by_cases hj : j < 64
  · rw [(isM_gr _).2 j hj, rm_bit M j hj]
    cases hm : M.testBit j
    · rfl
    · simp only [Bool.true_and]
      rw [Bool.eq_iff_iff, Bool.not_eq_true', decide_eq_true_iff, ← Bool.not_eq_true, grB_iff (fun k hk => lt64_of hN hk) j hj]
      constructor
      · intro h
        apply Nat.eq_of_testBit_eq
        intro i
        rw [Nat.zero_testBit]
        by_cases hi : i < 64
        · rw [ob_bit hM j i hi]
          cases ha : arB j i
          · rfl
          · cases hmi : M.testBit i
            · exact absurd (Or.inr ⟨i, hi, arB_symm hj hi ha, by rw [nt_bit hM, hmi]; simp [hi]⟩) h
            · rfl
        · cases hb : (obM M j).testBit i
          · rfl
          · exact absurd (lt64_of (obM_lt M j) hb) hi
      · rintro h (h1 | ⟨i, hi, ha, h1⟩)
        · rw [nt_bit hM, hm] at h1; simp at h1
        · have h2 := ob_bit hM j i hi
          rw [h, Nat.zero_testBit, arB_symm hi hj ha] at h2
          rw [nt_bit hM] at h1
          simp at h1 h2
          rw [h1.2] at h2; cases h2
  · cases h1 : M.testBit j
    · cases h2 : (rm M).testBit j
      · rfl
      · exact absurd (lt64_of (rm_lt M) h2) hj
    · exact absurd (lt64_of hM h1) hj
end Go.Proofs.YtdmlefccajaniaaDoor
