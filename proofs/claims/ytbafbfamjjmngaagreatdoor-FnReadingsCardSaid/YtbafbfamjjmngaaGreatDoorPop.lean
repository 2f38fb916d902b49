/- Masks as numbers: the bits of a test; how many bits a number has. -/
import Derived.Test.YtbafbfamjjmngaaGreatDoorBits
import Derived.Test.YtbafbfamjjmngaaGreatDoorMaskOf
import Derived.Test.YtbafbfamjjmngaaGreatDoorZones
namespace Go.Proofs.YtbafbfamjjmngaaGreatDoor
open Go.RowKit
/-- How many bits a number has. -/
def pc (n : Nat) : Nat := if h : n = 0 then 0 else n % 2 + pc (n / 2)
termination_by n
decreasing_by exact Nat.div_lt_self (by omega) (by omega)
theorem pc_zero : pc 0 = 0 := by rw [pc]; simp
theorem pc_step (n : Nat) : pc n = n % 2 + pc (n / 2) := by
  by_cases h : n = 0
  · subst h; simp [pc_zero]
  · conv => lhs; rw [pc]
    simp [h]
theorem pc_double (n : Nat) : pc (2 * n) = pc n := by rw [pc_step]; simp
theorem pc_double1 (n : Nat) : pc (2 * n + 1) = pc n + 1 := by
  rw [pc_step, show (2 * n + 1) % 2 = 1 by omega, show (2 * n + 1) / 2 = n by omega]; omega
theorem pc_le (n : Nat) : pc n ≤ n := by
  induction n using Nat.strongRecOn with
  | ind n ih =>
    by_cases h : n = 0
    · subst h; simp [pc_zero]
    · rw [pc_step]
      have := ih (n / 2) (by omega)
      omega
theorem pc_pos (n : Nat) (h : n ≠ 0) : 0 < pc n := by
  induction n using Nat.strongRecOn with
  | ind n ih =>
    rw [pc_step]
    by_cases h2 : n / 2 = 0
    · omega
    · have := ih (n / 2) (by omega) h2
      omega
/-- The lowest bit taken away. -/
theorem and_pred (n : Nat) (h : n ≠ 0) : pc (n &&& (n - 1)) + 1 = pc n ∧ n &&& (n - 1) < n := by
  induction n using Nat.strongRecOn with
  | ind n ih =>
    by_cases ho : n % 2 = 1
    · have e : n &&& (n - 1) = 2 * (n / 2) := by
        apply Nat.eq_of_testBit_eq
        intro i
        rw [Nat.testBit_and]
        cases i with
        | zero => simp; omega
        | succ i =>
          rw [Nat.testBit_succ, Nat.testBit_succ, Nat.testBit_succ, show (n - 1) / 2 = n / 2 by omega, show 2 * (n / 2) / 2 = n / 2 by omega, Bool.and_self]
      rw [e, pc_double]
      have := pc_step n
      omega
    · have hn : n / 2 ≠ 0 := by omega
      obtain ⟨h1, h2⟩ := ih (n / 2) (by omega) hn
      have e : n &&& (n - 1) = 2 * (n / 2 &&& (n / 2 - 1)) := by
        apply Nat.eq_of_testBit_eq
        intro i
        rw [Nat.testBit_and]
        cases i with
        | zero => simp; omega
        | succ i =>
          rw [Nat.testBit_succ, Nat.testBit_succ, Nat.testBit_succ, show (n - 1) / 2 = n / 2 - 1 by omega,
            show 2 * (n / 2 &&& (n / 2 - 1)) / 2 = (n / 2 &&& (n / 2 - 1)) by omega, Nat.testBit_and]
      rw [e, pc_double]
      have := pc_step n
      omega
theorem pc_add_pow (k n : Nat) (h : n < 2 ^ k) : pc (n + 2 ^ k) = pc n + 1 := by
  induction k generalizing n with
  | zero => simp at h; subst h; rw [pc_zero, pc_step]; simp [pc_zero]
  | succ k ih =>
    rw [pc_step, pc_step n, Nat.pow_succ, show (n + 2 ^ k * 2) % 2 = n % 2 by omega, show (n + 2 ^ k * 2) / 2 = n / 2 + 2 ^ k by omega, ih (n / 2) (by rw [Nat.pow_succ] at h; omega)]
    omega
/-- How many numbers below k pass a test. -/
def howMany (p : Nat → Bool) : Nat → Nat
  | 0 => 0
  | k + 1 => howMany p k + if p k then 1 else 0
theorem pc_maskOf (p : Nat → Bool) (k : Nat) : pc (maskOf p k) = howMany p k := by
  induction k with
  | zero => exact pc_zero
  | succ k ih =>
    rw [maskOf_add, howMany]
    by_cases h : p k
    · simp only [h, if_true]; rw [pc_add_pow _ _ (maskOf_lt p k), ih]
    · simp [h, ih]
theorem howMany_le (p : Nat → Bool) (k : Nat) : howMany p k ≤ k := by
  induction k with
  | zero => simp [howMany]
  | succ k ih => simp only [howMany]; split <;> omega
theorem howMany_or (p q : Nat → Bool) (k : Nat) (h : ∀ i, i < k → (p i && q i) = false) : howMany (fun i => p i || q i) k = howMany p k + howMany q k := by
  induction k with
  | zero => rfl
  | succ k ih =>
    have := h k (by omega)
    simp only [howMany, ih (fun i hi => h i (by omega))]
    by_cases hp : p k = true <;> by_cases hq : q k = true <;> simp_all <;> omega
end Go.Proofs.YtbafbfamjjmngaaGreatDoor
namespace Go.Proofs.YtbafbfamjjmngaaGreatDoor
open Go.RowKit
def lowP (xs : List Int) (r z : Int) (i : Nat) : Bool := decide (znV r z (xs.getD i 0) < 0)
def highP (xs : List Int) (r z : Int) (i : Nat) : Bool := decide (11 ≤ znV r z (xs.getD i 0))
theorem mask_step (p : Nat → Bool) (k : Nat) (hk : k < 24) (h : p k = true) : bits .or .u32 (maskOf p k : Nat) ((2 : Int) ^ k) = ((maskOf p (k + 1) : Nat) : Int) := by
  have h1 : maskOf p k < 2 ^ 32 := Nat.lt_of_lt_of_le (maskOf_lt p k) (Nat.pow_le_pow_right (by omega) (by omega))
  have h2 : 2 ^ k < 2 ^ 32 := Nat.pow_lt_pow_right (by omega) (by omega)
  have := or32 (maskOf p k) (2 ^ k) h1 h2
  simp only [maskOf, h, if_true]
  rw [← this]; simp
theorem mask_stay (p : Nat → Bool) (k : Nat) (h : p k = false) : maskOf p (k + 1) = maskOf p k := by
  simp [maskOf, h]
theorem pow_bd (k : Nat) (hk : k < 24) : (1 : Int) ≤ 2 ^ k ∧ (2 : Int) ^ k ≤ 8388608 := by
  have : ∀ k : Fin 24, (1 : Int) ≤ 2 ^ k.val ∧ (2 : Int) ^ k.val ≤ 8388608 := by decide
  exact this ⟨k, hk⟩
end Go.Proofs.YtbafbfamjjmngaaGreatDoor
namespace Go.Proofs.YtbafbfamjjmngaaGreatDoor
open Go.RowKit
def bothV (xs : List Int) (r z : Int) : Int := if okS xs && plB r z then 0 else 1
theorem both_split {xs : List Int} {r z : Int} (h : bothV xs r z = 0) : okS xs = true ∧ Pl r z := by
  unfold bothV at h
  split at h
  · rename_i hb
    simp only [Bool.and_eq_true] at hb
    exact ⟨hb.1, (plB_iff r z).1 hb.2⟩
  · cases h
/-- What OffScale returns. -/
def offV (xs : List Int) (r z : Int) : Nat × Nat × Int := if bothV xs r z = 0 then (maskOf (lowP xs r z) 24, maskOf (highP xs r z) 24, 0) else (0, 0, 1)
theorem both_01 (xs : List Int) (r z : Int) : bothV xs r z = 0 ∨ bothV xs r z = 1 := by unfold bothV; split <;> simp
end Go.Proofs.YtbafbfamjjmngaaGreatDoor
namespace Go.Proofs.YtbafbfamjjmngaaGreatDoor
open Go.RowKit
theorem setRow_id (w : World) (g : Nat) (cs : Array Value) (t : TypeId) (fr : Nat × Nat) (hg : w.heap[g]? = some (.cells cs t fr)) : w.setRow g cs = w := by
  have hlt : g < w.heap.size := (Array.getElem?_eq_some_iff.1 hg).1
  have hv : w.heap[g] = .cells cs t fr := (Array.getElem?_eq_some_iff.1 hg).2
  have e : (w.setRow g cs).heap = w.heap := by
    unfold World.setRow
    apply Array.ext
    · simp
    · intro k h1 h2
      simp only [Array.getElem_modify]
      split
      · rename_i hk; subst hk; simp [hv]
      · rfl
  have : w.setRow g cs = { w with heap := (w.setRow g cs).heap } := rfl
  rw [this, e]
theorem cell_far {w : World} {a p : Addr} {v : Value} {x : Option Value} (h : p.block ≠ a.block) (hx : w.cell? p = x) : (w.setCell a v).cell? p = x := by
  rw [World.cell?_setCell_other _ _ _ _ (fun e => h (by rw [← e]))]; exact hx
abbrev z24 : List Int := List.replicate 24 0
def z24a : Array Value := arr .i8 z24
theorem z24a_eq : (#[.int .i8 0, .int .i8 0, .int .i8 0, .int .i8 0, .int .i8 0, .int .i8 0, .int .i8 0, .int .i8 0, .int .i8 0, .int .i8 0, .int .i8 0, .int .i8 0, .int .i8 0, .int .i8 0, .int .i8 0, .int .i8 0, .int .i8 0, .int .i8 0, .int .i8 0, .int .i8 0, .int .i8 0, .int .i8 0, .int .i8 0, .int .i8 0] : Array Value) = z24a := rfl
def znsV (xs : List Int) (r z : Int) : List Int × Int := if bothV xs r z = 0 then (zonesL xs r z, 0) else (z24, 1)
end Go.Proofs.YtbafbfamjjmngaaGreatDoor
