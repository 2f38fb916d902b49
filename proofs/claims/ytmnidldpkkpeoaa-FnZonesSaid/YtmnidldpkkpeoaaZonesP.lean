/- FnZones: what its callees return, brought together. -/
import Derived.Test.YtmnidldpkkpeoaaZoneOf
import Derived.Test.YtmnidldpkkpeoaaZonesOf
import Derived.Test.YtmnidldpkkpeoaaCount
import Derived.Test.YtmnidldpkkpeoaaPlaceFor
import Derived.Test.YtmnidldpkkpeoaaBest
namespace Go.Proofs.Ytmnidldpkkpeoaa
open Go.RowKit Go.Lib
theorem zoneOf_ok (r z n : Int) (hp : Pl r z) (hn : 0 ≤ n ∧ n ≤ 60) : zoneOfV r z n = .tuple #[.int .i64 (znV r z n), .int .i64 0] := by
  have h1 : plB r z = true := (plB_iff r z).2 hp
  have h2 : rdB n = true := (rdB_iff n).2 hn
  simp [zoneOfV, h1, h2]
theorem both_ok (xs : List Int) (ok : okS xs = true) (r z : Int) (hp : Pl r z) : bothV xs r z = 0 := by
  have h1 : plB r z = true := (plB_iff r z).2 hp
  simp [bothV, ok, h1]
theorem pl_bd {r z : Int} (hp : Pl r z) : (-128 ≤ r ∧ r ≤ 127) ∧ (-128 ≤ z ∧ z ≤ 127) := by
  obtain ⟨⟨a, b⟩, c, d⟩ := hp; omega
theorem off_bit (xs : List Int) (r z : Int) : bits .and .u32 ((maskOf (lowP xs r z) 24 : Nat) : Int) ((maskOf (highP xs r z) 24 : Nat) : Int) = 0 := by
  rw [and32 _ _ (mask32 _) (mask32 _)]
  have : maskOf (lowP xs r z) 24 &&& maskOf (highP xs r z) 24 = 0 := by
    apply Nat.eq_of_testBit_eq
    intro i
    rw [Nat.testBit_and, maskOf_bit, maskOf_bit, Nat.zero_testBit]
    have := low_high xs r z i
    cases h1 : lowP xs r z i <;> cases h2 : highP xs r z i <;> simp_all
  rw [this]; rfl
/-- The best placement: no reading has fewer cells off the scale, and no earlier one as few. -/
theorem bst_least (xs : List Int) (n : Nat) (hn : 0 < n) : ∃ b : Nat, b < n ∧ bst xs n = ((b : Int), 5, (offN xs b : Int)) ∧ ∀ k : Nat, k < n → offN xs b ≤ offN xs k ∧ (offN xs k = offN xs b → b ≤ k) := by
  induction n with
  | zero => omega
  | succ n ih =>
    by_cases h0 : n = 0
    · subst h0
      refine ⟨0, by omega, by simp [bst], fun k hk => ?_⟩
      obtain rfl : k = 0 := by omega
      exact ⟨Nat.le_refl _, fun _ => Nat.le_refl _⟩
    · obtain ⟨b, hb, he, hl⟩ := ih (by omega)
      by_cases hlt : offN xs n < offN xs b
      · refine ⟨n, by omega, ?_, fun k hk => ?_⟩
        · simp only [bst, he]
          rw [if_pos (by right; omega)]
        · by_cases hkn : k < n
          · have := (hl k hkn).1
            exact ⟨by omega, fun h => by omega⟩
          · obtain rfl : k = n := by omega
            exact ⟨Nat.le_refl _, fun _ => Nat.le_refl _⟩
      · refine ⟨b, by omega, ?_, fun k hk => ?_⟩
        · simp only [bst, he]
          rw [if_neg (by omega)]
        · by_cases hkn : k < n
          · exact hl k hkn
          · obtain rfl : k = n := by omega
            exact ⟨by omega, fun h => by omega⟩
end Go.Proofs.Ytmnidldpkkpeoaa
