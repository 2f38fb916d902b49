/- Masks as numbers: the bits of a test; how many bits a number has. -/
import Derived.Test.YtmnidldpkkpeoaaBits
namespace Go.Proofs.Ytmnidldpkkpeoaa
open Go.RowKit
def maskOf (p : Nat → Bool) : Nat → Nat
  | 0 => 0
  | k + 1 => maskOf p k ||| (if p k then 2 ^ k else 0)
theorem maskOf_bit (p : Nat → Bool) (k i : Nat) : (maskOf p k).testBit i = (decide (i < k) && p i) := by
  induction k with
  | zero => simp [maskOf]
  | succ k ih =>
    simp only [maskOf, Nat.testBit_or, ih]
    by_cases hk : p k
    · simp only [hk, if_true, Nat.testBit_two_pow]
      by_cases e : k = i
      · subst e; simp [hk]
      · by_cases h : i < k
        · simp [h, show i < k + 1 by omega, e]
        · simp [h, show ¬ i < k + 1 by omega, e]
    · simp only [hk]
      by_cases e : k = i
      · subst e; simp [hk]
      · by_cases h : i < k
        · simp [h, show i < k + 1 by omega]
        · simp [h, show ¬ i < k + 1 by omega]
theorem maskOf_lt (p : Nat → Bool) (k : Nat) : maskOf p k < 2 ^ k :=
  Nat.lt_pow_two_of_testBit _ fun i hi => by rw [maskOf_bit]; simp; omega
theorem maskOf_or (p q : Nat → Bool) (k : Nat) : maskOf p k ||| maskOf q k = maskOf (fun i => p i || q i) k := by
  apply Nat.eq_of_testBit_eq
  intro i
  rw [Nat.testBit_or, maskOf_bit, maskOf_bit, maskOf_bit]
  cases decide (i < k) <;> simp
theorem maskOf_congr {p q : Nat → Bool} (k : Nat) (h : ∀ i, i < k → p i = q i) : maskOf p k = maskOf q k := by
  induction k with
  | zero => rfl
  | succ k ih => simp only [maskOf]; rw [ih (fun i hi => h i (by omega)), h k (by omega)]
theorem maskOf_add (p : Nat → Bool) (k : Nat) : maskOf p (k + 1) = maskOf p k + if p k then 2 ^ k else 0 := by
  simp only [maskOf]
  by_cases h : p k
  · have := Nat.two_pow_add_eq_or_of_lt (maskOf_lt p k) 1
    simp only [h, if_true, Nat.mul_one] at this ⊢
    rw [Nat.or_comm, ← this, Nat.add_comm]
  · simp [h]
/-- How many bits a number has. -/
def pc (n : Nat) : Nat := if h : n = 0 then 0 else n % 2 + pc (n / 2)
termination_by n
decreasing_by exact Nat.div_lt_self (by omega) (by omega)
theorem pc_zero : pc 0 = 0 := by rw [pc]; simp
theorem pc_step (n : Nat) : pc n = n % 2 + pc (n / 2) := by
  by_cases h : n = 0
  · subst h; simp [pc_zero]
  · conv => lhs; rw [pc]
    simp [h]
theorem pc_double (n : Nat) : pc (2 * n) = pc n := by rw [pc_step]; simp
theorem pc_double1 (n : Nat) : pc (2 * n + 1) = pc n + 1 := by
  rw [pc_step, show (2 * n + 1) % 2 = 1 by omega, show (2 * n + 1) / 2 = n by omega]; omega
theorem pc_le (n : Nat) : pc n ≤ n := by
  induction n using Nat.strongRecOn with
  | ind n ih =>
    by_cases h : n = 0
    · subst h; simp [pc_zero]
    · rw [pc_step]
      have := ih (n / 2) (by omega)
      omega
theorem pc_pos (n : Nat) (h : n ≠ 0) : 0 < pc n := by
  induction n using Nat.strongRecOn with
  | ind n ih =>
    rw [pc_step]
    by_cases h2 : n / 2 = 0
    · omega
    · have := ih (n / 2) (by omega) h2
      omega
/-- The lowest bit taken away. -/
theorem and_pred (n : Nat) (h : n ≠ 0) : pc (n &&& (n - 1)) + 1 = pc n ∧ n &&& (n - 1) < n := by
  induction n using Nat.strongRecOn with
  | ind n ih =>
    by_cases ho : n % 2 = 1
    · have e : n &&& (n - 1) = 2 * (n / 2) := by
        apply Nat.eq_of_testBit_eq
        intro i
        rw [Nat.testBit_and]
        cases i with
        | zero => simp; omega
        | succ i =>
          rw [Nat.testBit_succ, Nat.testBit_succ, Nat.testBit_succ, show (n - 1) / 2 = n / 2 by omega, show 2 * (n / 2) / 2 = n / 2 by omega, Bool.and_self]
      rw [e, pc_double]
      have := pc_step n
      omega
    · have hn : n / 2 ≠ 0 := by omega
      obtain ⟨h1, h2⟩ := ih (n / 2) (by omega) hn
      have e : n &&& (n - 1) = 2 * (n / 2 &&& (n / 2 - 1)) := by
        apply Nat.eq_of_testBit_eq
        intro i
        rw [Nat.testBit_and]
        cases i with
        | zero => simp; omega
        | succ i =>
          rw [Nat.testBit_succ, Nat.testBit_succ, Nat.testBit_succ, show (n - 1) / 2 = n / 2 - 1 by omega,
            show 2 * (n / 2 &&& (n / 2 - 1)) / 2 = (n / 2 &&& (n / 2 - 1)) by omega, Nat.testBit_and]
      rw [e, pc_double]
      have := pc_step n
      omega
theorem pc_add_pow (k n : Nat) (h : n < 2 ^ k) : pc (n + 2 ^ k) = pc n + 1 := by
  induction k generalizing n with
  | zero => simp at h; subst h; rw [pc_zero, pc_step]; simp [pc_zero]
  | succ k ih =>
    rw [pc_step, pc_step n, Nat.pow_succ, show (n + 2 ^ k * 2) % 2 = n % 2 by omega, show (n + 2 ^ k * 2) / 2 = n / 2 + 2 ^ k by omega, ih (n / 2) (by rw [Nat.pow_succ] at h; omega)]
    omega
/-- How many numbers below k pass a test. -/
def howMany (p : Nat → Bool) : Nat → Nat
  | 0 => 0
  | k + 1 => howMany p k + if p k then 1 else 0
theorem pc_maskOf (p : Nat → Bool) (k : Nat) : pc (maskOf p k) = howMany p k := by
  induction k with
  | zero => exact pc_zero
  | succ k ih =>
    rw [maskOf_add, howMany]
    by_cases h : p k
    · simp only [h, if_true]; rw [pc_add_pow _ _ (maskOf_lt p k), ih]
    · simp [h, ih]
theorem howMany_le (p : Nat → Bool) (k : Nat) : howMany p k ≤ k := by
  induction k with
  | zero => simp [howMany]
  | succ k ih => simp only [howMany]; split <;> omega
theorem howMany_or (p q : Nat → Bool) (k : Nat) (h : ∀ i, i < k → (p i && q i) = false) : howMany (fun i => p i || q i) k = howMany p k + howMany q k := by
  induction k with
  | zero => rfl
  | succ k ih =>
    have := h k (by omega)
    simp only [howMany, ih (fun i hi => h i (by omega))]
    by_cases hp : p k = true <;> by_cases hq : q k = true <;> simp_all <;> omega
set_option maxHeartbeats 400000 in
theorem l06Size_c (m : Nat) (hm : m < 2 ^ 32) (w : World) :
    Calls Try.prog 65 #[.int .u32 m] w fun e w' => e = .returned (.int .i64 (pc m)) ∧ w = w' := by
  go_enter Try.func65, Try.ntmps65
  go_wp2
  go_loop [0, 3] (fun f n => ∃ (i : Nat) (c : Nat), f = .int .u32 i ∧ n = .int .i64 c ∧ i < 2 ^ 32 ∧ c ≤ 2 ^ 32 ∧ c + pc i = pc m) (fun f _ => (intOf f).toNat)
  case atStart => exact ⟨m, 0, rfl, rfl, hm, by omega, by omega⟩
  case round =>
    obtain ⟨i, c, rfl, rfl, hi, hc, he⟩ := hrel
    by_cases h0 : 0 < i
    · have HP := Lib.hid (pc_step i)
      have HE := Lib.hid he
      have hq := pc_le m
      clear he
      go_wp2
      go_round
      case rel =>
        have e1 := HP.out
        have e2 := HE.out
        exact ⟨i / 2, c + i % 2, by go_num, by go_num, by omega, by omega, by omega⟩
      case measure => simp [intOf]; omega
    · have : i = 0 := by omega
      subst this
      have HE := Lib.hid he
      clear he
      go_wp2
      go_ret
      have e2 := HE.out
      rw [pc_zero] at e2
      exact ⟨ret_int (by omega), rfl⟩
set_option maxHeartbeats 400000 in
theorem cellsOf_c (m : Nat) (hm : m < 2 ^ 32) (w : World) :
    Calls Try.prog 63 #[.int .u32 m] w fun e w' => e = .returned (.int .i64 (pc m)) ∧ w = w' := by
  go_enter Try.func63, Try.ntmps63
  go_wp2
  go_loop [0, 3] (fun f n => ∃ (i : Nat) (c : Nat), f = .int .u32 i ∧ n = .int .i64 c ∧ i < 2 ^ 32 ∧ c ≤ 2 ^ 32 ∧ c + pc i = pc m) (fun f _ => (intOf f).toNat)
  case atStart => exact ⟨m, 0, rfl, rfl, hm, by omega, by omega⟩
  case round =>
    obtain ⟨i, c, rfl, rfl, hi, hc, he⟩ := hrel
    by_cases h0 : i = 0
    · subst h0
      have HE := Lib.hid he
      clear he
      go_wp2
      go_ret
      have e2 := HE.out
      rw [pc_zero] at e2
      exact ⟨ret_int (by omega), rfl⟩
    · have hp := and_pred i h0
      have HP := Lib.hid hp
      have HE := Lib.hid he
      have hq := pc_le m
      have hpos : 0 < i := by omega
      have hd : ((i : Int) != 0) = true := by rw [bne_iff_ne]; omega
      have HB : Hid (bits .and .u32 (i : Int) ((i : Int) - 1) = ((i &&& (i - 1) : Nat) : Int)) := Lib.hid (by
        rw [show (i : Int) - 1 = ((i - 1 : Nat) : Int) by omega]; exact and32 i (i - 1) hi (by omega))
      clear he hp h0
      go_wp2
      go_round
      case rel =>
        have e1 := HP.out
        have e2 := HE.out
        exact ⟨i &&& (i - 1), c + 1, by rw [HB.out], by go_num, by omega, by omega, by omega⟩
      case measure =>
        have e1 := HP.out
        rw [HB.out]
        simp only [intOf]
        omega
end Go.Proofs.Ytmnidldpkkpeoaa
