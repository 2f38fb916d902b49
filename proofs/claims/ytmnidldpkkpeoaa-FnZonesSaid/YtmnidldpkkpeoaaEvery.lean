/- The law on every setting. -/
import Derived.Test.YtmnidldpkkpeoaaSetFor
namespace Go.Proofs.Ytmnidldpkkpeoaa
open Go.RowKit
theorem moreV_code (a b c th : Int) : (moreV a b c th).2.2.2 = 0 ∨ (moreV a b c th).2.2.2 = 6 := by
  unfold moreV; split <;> simp
theorem moreV_val (a b c th : Int) (h : stB a b c = true) (h0 : (moreV a b c th).2.2.2 = 0) :
    stB (moreV a b c th).1 (moreV a b c th).2.1 (moreV a b c th).2.2.1 = true ∧ (moreV a b c th).1 - (moreV a b c th).2.1 + (moreV a b c th).2.2.1 = a - b + c + th := by
  have h' := (stB_iff a b c).1 h
  unfold moreV at h0 ⊢
  split
  · rename_i hq
    have hq' : 0 ≤ moreAp a b th ∧ moreAp a b th ≤ 30 := by simpa [apB] using hq
    refine ⟨(stB_iff _ _ _).2 ⟨?_, hq', h'.2.2⟩, ?_⟩
    · simp only [moreSh]; split
      · omega
      · split <;> omega
    · simp only [moreAp]; omega
  · rename_i hq; simp [hq] at h0
theorem sfV_code (a b c q r z : Int) (h : (sfV a b c q r z).2.2.2 = 0) : stB a b c = true ∧ plB r z = true ∧ rdB q = true ∧ sfV a b c q r z = moreV a b c (3 * (z - 5) + q - r) := by
  unfold sfV at h ⊢
  split at h
  · rename_i hb
    simp only [Bool.and_eq_true] at hb
    split at h
    · rename_i hq; exact ⟨hb.1, hb.2, hq, by simp [hb.1, hb.2, hq]⟩
    · simp at h
  · simp at h
theorem sfV_s8 (a b c q r z : Int) : S8 (sfV a b c q r z).1 (sfV a b c q r z).2.1 (sfV a b c q r z).2.2.1 := by
  unfold sfV
  split
  · split
    · rename_i hb _
      simp only [Bool.and_eq_true] at hb
      have h' := (stB_iff a b c).1 hb.1
      unfold moreV
      split
      · rename_i hq
        have hq' : 0 ≤ moreAp a b (3 * (z - 5) + q - r) ∧ moreAp a b (3 * (z - 5) + q - r) ≤ 30 := by simpa [apB] using hq
        unfold S8
        refine ⟨?_, by simp only; omega, by simp only; omega⟩
        simp only [moreSh]; split
        · omega
        · split <;> omega
      · simp [S8]
    · simp [S8]
  · simp [S8]
end Go.Proofs.Ytmnidldpkkpeoaa
