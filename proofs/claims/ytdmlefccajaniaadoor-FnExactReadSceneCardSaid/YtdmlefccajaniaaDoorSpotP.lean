/- The cells of a mask in order; the cells beside a cell; a mask with all neighbours: plain facts. -/
import Derived.Test.YtdmlefccajaniaaDoorMaskB
import Derived.Lib.TrailingZeros
namespace Go.Proofs.YtdmlefccajaniaaDoor
open Go.RowKit Go.Lib
theorem low_bits {x t m : Nat} (h : x = 2 ^ t * (2 * m + 1)) : x.testBit t = true ∧ (∀ j, j < t → x.testBit j = false) ∧ ∀ j, (x &&& (x - 1)).testBit j = (x.testBit j && decide (j ≠ t)) := by
  have hx : ∀ j, x.testBit j = if j < t then false else (2 * m + 1).testBit (j - t) := fun j => by
    have := Nat.testBit_two_pow_mul_add (2 * m + 1) (Nat.two_pow_pos t) j
    rw [Nat.add_zero, ← h] at this
    rw [this]; simp
  have hp : x - 1 = 2 ^ t * (2 * m) + (2 ^ t - 1) := by
    have := Nat.two_pow_pos t
    rw [h, Nat.mul_add, Nat.mul_one]; omega
  have hy : ∀ j, (x - 1).testBit j = if j < t then true else (2 * m).testBit (j - t) := fun j => by
    rw [hp, Nat.testBit_two_pow_mul_add (2 * m) (by have := Nat.two_pow_pos t; omega) j]
    split
    · rw [Nat.testBit_two_pow_sub_one]; simp; omega
    · rfl
  refine ⟨by rw [hx]; simp, fun j hj => by rw [hx, if_pos hj], fun j => ?_⟩
  rw [Nat.testBit_and, hx, hy]
  by_cases h1 : j < t
  · simp [h1]
  · by_cases h2 : j = t
    · subst h2; simp
    · have h3 : j - t = (j - t - 1) + 1 := by omega
      rw [if_neg h1, if_neg h1, h3, Nat.testBit_succ, Nat.testBit_succ, show (2 * m + 1) / 2 = m by omega, show 2 * m / 2 = m by omega]
      simp [h2]
theorem ctz_low {x : Nat} (h0 : x ≠ 0) (h : x < 2 ^ 64) : ∃ m, x = 2 ^ ctz 64 x * (2 * m + 1) ∧ ctz 64 x < 64 := by
  obtain ⟨m, hm, hk⟩ := ctzFrom_spec 64 x (by omega) h
  have e : ctz 64 x = ctzFrom 64 x := by simp [ctz, h0]
  rw [e]; exact ⟨m, hm, hk⟩
/-- The cells of a mask, from the lowest on. -/
def bitsL (n : Nat) : List Nat := if h : n = 0 then [] else ctz 64 n :: bitsL (n &&& (n - 1))
termination_by n
decreasing_by exact Nat.lt_of_le_of_lt Nat.and_le_right (by omega)
theorem bitsL_zero : bitsL 0 = [] := by rw [bitsL]; simp
theorem bitsL_cons (n : Nat) (h : n ≠ 0) : bitsL n = ctz 64 n :: bitsL (n &&& (n - 1)) := by
  conv => lhs; rw [bitsL]
  simp [h]
theorem and_pred_lt (n : Nat) (h : n ≠ 0) : n &&& (n - 1) < n := Nat.lt_of_le_of_lt Nat.and_le_right (by omega)
theorem mem_bitsL : ∀ n, n < 2 ^ 64 → ∀ j, j ∈ bitsL n ↔ n.testBit j = true := by
  intro n
  induction n using Nat.strongRecOn with
  | ind n ih =>
    intro hn j
    by_cases h : n = 0
    · subst h; simp [bitsL_zero]
    · obtain ⟨m, hm, _⟩ := ctz_low h hn
      obtain ⟨h1, h2, h3⟩ := low_bits hm
      have hl := and_pred_lt n h
      rw [bitsL_cons n h, List.mem_cons, ih _ hl (by omega), h3]
      by_cases e : j = ctz 64 n
      · subst e; simp [h1]
      · simp [e]
theorem bitsL_len : ∀ n, n < 2 ^ 64 → n ≠ 0 → (bitsL n).length ≤ 64 - ctz 64 n := by
  intro n
  induction n using Nat.strongRecOn with
  | ind n ih =>
    intro hn h
    obtain ⟨m, hm, hk⟩ := ctz_low h hn
    obtain ⟨h1, h2, h3⟩ := low_bits hm
    have hl := and_pred_lt n h
    rw [bitsL_cons n h, List.length_cons]
    by_cases h0 : n &&& (n - 1) = 0
    · rw [h0, bitsL_zero]; simp; omega
    · have := ih _ hl (by omega) h0
      obtain ⟨m', hm', hk'⟩ := ctz_low h0 (show n &&& (n - 1) < 2 ^ 64 by omega)
      obtain ⟨b1, _, _⟩ := low_bits hm'
      rw [h3] at b1
      have e : ¬ ctz 64 (n &&& (n - 1)) = ctz 64 n := by intro e; rw [e] at b1; simp at b1
      have g : ¬ ctz 64 (n &&& (n - 1)) < ctz 64 n := by intro g; rw [h2 _ g] at b1; simp at b1
      omega
theorem bitsL_le (n : Nat) (hn : n < 2 ^ 64) : (bitsL n).length ≤ 64 := by
  by_cases h : n = 0
  · subst h; simp [bitsL_zero]
  · have := bitsL_len n hn h; omega
def bitsI (n : Nat) : List Int := (bitsL n).map fun (i : Nat) => (i : Int)
theorem bitsI_len (n : Nat) : (bitsI n).length = (bitsL n).length := by simp [bitsI]
theorem bitsI_get (n k : Nat) (h : k < (bitsL n).length) : (bitsI n).getD k 0 = (((bitsL n).getD k 0 : Nat) : Int) := by
  simp [bitsI, List.getD_eq_getElem?_getD, h]
theorem bitsL_lt (n : Nat) (hn : n < 2 ^ 64) (k : Nat) (h : k < (bitsL n).length) : (bitsL n).getD k 0 < 64 := by
  have h1 : (bitsL n).getD k 0 ∈ bitsL n := by
    rw [List.getD_eq_getElem?_getD, List.getElem?_eq_getElem h]; exact List.getElem_mem h
  have h2 := (mem_bitsL n hn _).1 h1
  rcases Nat.lt_or_ge ((bitsL n).getD k 0) 64 with h3 | h3
  · exact h3
  · rw [Nat.testBit_lt_two_pow (Nat.lt_of_lt_of_le hn (Nat.pow_le_pow_right (by omega) h3))] at h2; cases h2
/-- The cells beside a cell. -/
def arB (i j : Nat) : Bool := (decide (0 < i % 8) && decide (j + 1 = i)) || (decide (i % 8 < 7) && decide (j = i + 1)) || (decide (8 ≤ i) && decide (j + 8 = i)) || (decide (i < 56) && decide (j = i + 8))
/-- A whole number that is a mask. -/
def isI (v : Int) (pr : Nat → Bool) : Prop := ∃ D : Nat, v = D ∧ isM D pr
theorem isI_zero : isI 0 (fun _ => false) := ⟨0, rfl, by decide, fun j _ => by simp⟩
theorem isI_or {v : Int} {pr : Nat → Bool} (h : isI v pr) {k : Nat} (hk : k < 64) : isI (bits .or .u64 v (IntKind.u64.wrap ((2 : Int) ^ k))) (fun j => pr j || decide (j = k)) := by
  obtain ⟨D, rfl, hD⟩ := h
  exact ⟨D ||| 2 ^ k, set_int D k hD.1 hk, isM_set hD k hk⟩
def arM (i : Nat) : Nat := maskOf (arB i) 64
theorem arM_lt (i : Nat) : arM i < 2 ^ 64 := maskOf_lt _ 64
theorem isI_ar {v : Int} {i : Nat} (h : ∃ pr, isI v pr ∧ ∀ j, j < 64 → pr j = arB i j) : v = (arM i : Nat) := by
  obtain ⟨pr, ⟨D, rfl, hD⟩, e⟩ := h
  rw [isM_eq (isM_congr hD e)]; rfl
/-- The cells of a mask and all beside them. -/
def grB (p : Nat → Bool) (j : Nat) : Bool := p j || (decide (8 ≤ j) && p (j - 8)) || (decide (j < 56) && p (j + 8)) || (decide (0 < j % 8) && p (j - 1)) || (decide (j % 8 < 7) && p (j + 1))
theorem grB_any (n : Nat) (hn : n < 2 ^ 64) (j : Nat) (hj : j < 64) : (n.testBit j || (bitsL n).any fun i => arB i j) = grB n.testBit j := by
  rw [Bool.eq_iff_iff]
  simp only [Bool.or_eq_true, List.any_eq_true, grB, arB, Bool.and_eq_true, decide_eq_true_eq]
  constructor
  · rintro (h | ⟨i, hi, h⟩)
    · exact Or.inl (Or.inl (Or.inl (Or.inl h)))
    · rw [mem_bitsL n hn] at hi
      have hi64 : i < 64 := by
        rcases Nat.lt_or_ge i 64 with h3 | h3
        · exact h3
        · rw [Nat.testBit_lt_two_pow (Nat.lt_of_lt_of_le hn (Nat.pow_le_pow_right (by omega) h3))] at hi; cases hi
      rcases h with ((⟨h1, h2⟩ | ⟨h1, h2⟩) | ⟨h1, h2⟩) | ⟨h1, h2⟩
      · subst h2; exact Or.inr ⟨by omega, hi⟩
      · subst h2; exact Or.inl (Or.inr ⟨by omega, by simpa using hi⟩)
      · subst h2; exact Or.inl (Or.inl (Or.inr ⟨by omega, hi⟩))
      · subst h2; exact Or.inl (Or.inl (Or.inl (Or.inr ⟨by omega, by simpa using hi⟩)))
  · rintro ((((h | ⟨h1, h⟩) | ⟨h1, h⟩) | ⟨h1, h⟩) | ⟨h1, h⟩)
    · exact Or.inl h
    · exact Or.inr ⟨j - 8, (mem_bitsL n hn _).2 h, Or.inr ⟨by omega, by omega⟩⟩
    · exact Or.inr ⟨j + 8, (mem_bitsL n hn _).2 h, Or.inl (Or.inr ⟨by omega, by omega⟩)⟩
    · exact Or.inr ⟨j - 1, (mem_bitsL n hn _).2 h, Or.inl (Or.inl (Or.inr ⟨by omega, by omega⟩))⟩
    · exact Or.inr ⟨j + 1, (mem_bitsL n hn _).2 h, Or.inl (Or.inl (Or.inl ⟨by omega, by omega⟩))⟩
def gr (n : Nat) : Nat := maskOf (grB n.testBit) 64
theorem gr_lt (n : Nat) : gr n < 2 ^ 64 := maskOf_lt _ 64
theorem isM_gr (n : Nat) : isM (gr n) (grB n.testBit) := isM_mask _
theorem isM_self (n : Nat) (hn : n < 2 ^ 64) : isM n n.testBit := ⟨hn, fun _ _ => rfl⟩
theorem gr_of {n D : Nat} (h : isM D (grB n.testBit)) : D = gr n := isM_eq h
/-- The reference's way. -/
theorem gr_shifts (n : Nat) (hn : n < 2 ^ 64) : isM ((((n ||| (n * 2 ^ 8 % 2 ^ 64)) ||| (n / 2 ^ 8)) ||| ((n &&& (18446744073709551615 - 9259542123273814144)) * 2 ^ 1 % 2 ^ 64)) ||| ((n &&& (18446744073709551615 - 72340172838076673)) / 2 ^ 1)) (grB n.testBit) := by
  have sl : ∀ (m k j : Nat), j < 64 → (m * 2 ^ k % 2 ^ 64).testBit j = (decide (k ≤ j) && m.testBit (j - k)) := fun m k j hj => by
    rw [Nat.testBit_mod_two_pow, ← Nat.shiftLeft_eq, Nat.testBit_shiftLeft]; simp [hj]
  have sr : ∀ (m k j : Nat), (m / 2 ^ k).testBit j = m.testBit (j + k) := fun m k j => by
    rw [← Nat.shiftRight_eq_div_pow, Nat.testBit_shiftRight, Nat.add_comm]
  have east : ∀ j : Fin 64, (18446744073709551615 - 9259542123273814144 : Nat).testBit j.val = decide (j.val % 8 < 7) := by decide
  have west : ∀ j : Fin 64, (18446744073709551615 - 72340172838076673 : Nat).testBit j.val = decide (0 < j.val % 8) := by decide
  have hi : ∀ j, 64 ≤ j → n.testBit j = false := fun j hj => Nat.testBit_lt_two_pow (Nat.lt_of_lt_of_le hn (Nat.pow_le_pow_right (by omega) hj))
  refine ⟨?_, fun j hj => ?_⟩
  · refine Nat.or_lt_two_pow (Nat.or_lt_two_pow (Nat.or_lt_two_pow (Nat.or_lt_two_pow hn (Nat.mod_lt _ (by decide))) ?_) (Nat.mod_lt _ (by decide))) ?_
    · exact Nat.lt_of_le_of_lt (Nat.div_le_self _ _) hn
    · exact Nat.lt_of_le_of_lt (Nat.div_le_self _ _) (Nat.lt_of_le_of_lt Nat.and_le_left hn)
  · rw [Nat.testBit_or, Nat.testBit_or, Nat.testBit_or, Nat.testBit_or, sl _ _ _ hj, sr, sl _ _ _ hj, sr, Nat.testBit_and, Nat.testBit_and]
    unfold grB
    have e8 : n.testBit (j + 8) = (decide (j < 56) && n.testBit (j + 8)) := by
      by_cases h : j < 56
      · simp [h]
      · rw [hi (j + 8) (by omega)]; simp
    have e1 : (decide (1 ≤ j) && (n.testBit (j - 1) && (18446744073709551615 - 9259542123273814144 : Nat).testBit (j - 1))) = (decide (0 < j % 8) && n.testBit (j - 1)) := by
      by_cases h : 1 ≤ j
      · rw [east ⟨j - 1, by omega⟩]
        by_cases g : 0 < j % 8
        · simp [h, g, show (j - 1) % 8 < 7 by omega]
        · simp [g, show ¬ (j - 1) % 8 < 7 by omega]
      · have : j = 0 := by omega
        subst this; simp
    have e2 : (n.testBit (j + 1) && (18446744073709551615 - 72340172838076673 : Nat).testBit (j + 1)) = (decide (j % 8 < 7) && n.testBit (j + 1)) := by
      by_cases h : j + 1 < 64
      · rw [west ⟨j + 1, h⟩]
        by_cases g : j % 8 < 7
        · simp [g, show 0 < (j + 1) % 8 by omega]
        · simp [g, show ¬ 0 < (j + 1) % 8 by omega]
      · rw [hi (j + 1) (by omega)]; simp
    rw [← e8, e1, e2]
theorem grow_int (m : Nat) (hm : m < 2 ^ 64) : bits .or .u64 (bits .or .u64 (bits .or .u64 (bits .or .u64 (m : Int) (IntKind.u64.wrap ((m : Int) * 256))) ((m : Int) / 256)) (IntKind.u64.wrap (bits .andNot .u64 (m : Int) 9259542123273814144 * 2))) (bits .andNot .u64 (m : Int) 72340172838076673 / 2) = ((gr m : Nat) : Int) := by
  have wr : ∀ a : Nat, IntKind.u64.wrap (a : Int) = ((a % 2 ^ 64 : Nat) : Int) := fun a => by rw [IntKind.wrap_u64]; omega
  have e1 : bits .andNot .u64 (m : Int) 9259542123273814144 = ((m &&& (18446744073709551615 - 9259542123273814144) : Nat) : Int) := u64_andNot_nat m 9259542123273814144 hm (by decide)
  have e2 : bits .andNot .u64 (m : Int) 72340172838076673 = ((m &&& (18446744073709551615 - 72340172838076673) : Nat) : Int) := u64_andNot_nat m 72340172838076673 hm (by decide)
  rw [e1, e2]
  have f1 : IntKind.u64.wrap ((m : Int) * 256) = ((m * 2 ^ 8 % 2 ^ 64 : Nat) : Int) := by rw [← wr]; congr 1
  generalize hA : m &&& (18446744073709551615 - 9259542123273814144) = A
  generalize hB : m &&& (18446744073709551615 - 72340172838076673) = B
  have f2 : IntKind.u64.wrap ((A : Int) * 2) = ((A * 2 ^ 1 % 2 ^ 64 : Nat) : Int) := by rw [← wr]; congr 1
  have f3 : (m : Int) / 256 = ((m / 2 ^ 8 : Nat) : Int) := by omega
  have f4 : (B : Int) / 2 = ((B / 2 ^ 1 : Nat) : Int) := by omega
  have hBm : B < 2 ^ 64 := by rw [← hB]; exact Nat.lt_of_le_of_lt Nat.and_le_left hm
  have g1 : m * 2 ^ 8 % 2 ^ 64 < 2 ^ 64 := Nat.mod_lt _ (by decide)
  have g2 : A * 2 ^ 1 % 2 ^ 64 < 2 ^ 64 := Nat.mod_lt _ (by decide)
  have g3 : m / 2 ^ 8 < 2 ^ 64 := Nat.lt_of_le_of_lt (Nat.div_le_self _ _) hm
  have g4 : B / 2 ^ 1 < 2 ^ 64 := Nat.lt_of_le_of_lt (Nat.div_le_self _ _) hBm
  rw [f1, f2, f3, f4, or64 _ _ hm g1, or64 _ _ (Nat.or_lt_two_pow hm g1) g3, or64 _ _ (Nat.or_lt_two_pow (Nat.or_lt_two_pow hm g1) g3) g2, or64 _ _ (Nat.or_lt_two_pow (Nat.or_lt_two_pow (Nat.or_lt_two_pow hm g1) g3) g2) g4]
  have := gr_of (gr_shifts m hm)
  rw [hA, hB] at this
  rw [this]
end Go.Proofs.YtdmlefccajaniaaDoor
