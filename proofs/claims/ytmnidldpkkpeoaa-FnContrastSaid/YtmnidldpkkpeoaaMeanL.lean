/- FieldMean of the program, WeightedReading of the reference; the laws on means. -/
import Derived.Test.YtmnidldpkkpeoaaMeanF
namespace Go.Proofs.Ytmnidldpkkpeoaa
open Go.RowKit
set_option maxHeartbeats 400000 in
theorem implFieldMean_c (xs : List Int) (hs : Sc xs) (f : Int) (hf : 0 ≤ f ∧ f ≤ 4294967295) (w : World) :
    Calls Try.prog 79 #[.agg (arr .i8 xs), .int .u32 f] w fun e w' => e = .returned (.tuple #[.int .i64 (fieldV xs f).1, .int .i64 (fieldV xs f).2]) ∧ Below w.heap.size w w' := by
  have HL := Lib.hid hs.1
  have H0 := Lib.hid (al2_0 w (.cells (arr .i8 xs) 27) (.cells #[.int .u32 f] 35))
  have HF := Lib.hid (al2_1 w (.cells (arr .i8 xs) 27) (.cells #[.int .u32 f] 35))
  cases hok : okS xs
  · have HV : Hid (fieldV xs f = (0, 1)) := Lib.hid (by simp [fieldV, hok])
    have HO := Lib.hid hok
    clear hok
    go_enter Try.func79, Try.ntmps79
    go_wp2_with (refine wpList_load_row rfl 27 (.tmp 2) rfl _ rfl _ _ _ _ H0.out Try.underlying27 rfl (by rw [szScene, arr_size, HL.out]) ?_)
    refine (implValidScene_c xs hs _).mono ?_
    rintro e w1 ⟨rfl, hb1⟩
    rw [HO.out]
    have hB1 := bt (bl2 _ _ _) hb1
    have hz1 := hb1.size
    have H1 := Lib.hid (heap_below hb1 (by simp; omega) H0.out)
    have hcf : w1.cell? ⟨w.heap.size + 1, 0, none⟩ = some (.int .u32 f) := by rw [cell_of_row _ _ 0 _ _ _ (heap_below hb1 (by simp) HF.out)]; rfl
    clear hb1
    go_wp2
    go_ret2
    exact ⟨by rw [HV.out] <;> rfl, hB1⟩
  · by_cases h24 : f / 16777216 = 0
    · by_cases h0 : f = 0
      · have HV : Hid (fieldV xs f = (0, 4)) := Lib.hid (by simp [fieldV, hok, h0])
        have e0 : (f == 0) = true := by simpa using h0
        have e1 : (f / 16777216 != 0) = false := by simp [h24]
        have HO := Lib.hid hok
        clear hok h24 h0
        go_enter Try.func79, Try.ntmps79
        go_wp2_with (refine wpList_load_row rfl 27 (.tmp 2) rfl _ rfl _ _ _ _ H0.out Try.underlying27 rfl (by rw [szScene, arr_size, HL.out]) ?_)
        refine (implValidScene_c xs hs _).mono ?_
        rintro e w1 ⟨rfl, hb1⟩
        rw [HO.out]
        have hB1 := bt (bl2 _ _ _) hb1
        have hz1 := hb1.size
        have H1 := Lib.hid (heap_below hb1 (by simp; omega) H0.out)
        have hcf : w1.cell? ⟨w.heap.size + 1, 0, none⟩ = some (.int .u32 f) := by rw [cell_of_row _ _ 0 _ _ _ (heap_below hb1 (by simp) HF.out)]; rfl
        clear hb1
        go_wp2
        go_ret2
        exact ⟨by rw [HV.out] <;> rfl, hB1⟩
      · have HV : Hid (fieldV xs f = (meanOf (bitOf f) xs, 0)) := Lib.hid (by simp [fieldV, hok, h24, h0])
        have hpos := cnt_pos f (by omega) (by omega)
        have HP := Lib.hid hpos
        have e0 : (f == 0) = false := by simpa using h0
        have e1 : (f / 16777216 != 0) = false := by simp [h24]
        have HO := Lib.hid hok
        clear hok h24 h0 hpos
        go_enter Try.func79, Try.ntmps79
        go_wp2_with (refine wpList_load_row rfl 27 (.tmp 2) rfl _ rfl _ _ _ _ H0.out Try.underlying27 rfl (by rw [szScene, arr_size, HL.out]) ?_)
        refine (implValidScene_c xs hs _).mono ?_
        rintro e w1 ⟨rfl, hb1⟩
        rw [HO.out]
        have hB1 := bt (bl2 _ _ _) hb1
        have hz1 := hb1.size
        have H1 := Lib.hid (heap_below hb1 (by simp; omega) H0.out)
        have hcf : w1.cell? ⟨w.heap.size + 1, 0, none⟩ = some (.int .u32 f) := by rw [cell_of_row _ _ 0 _ _ _ (heap_below hb1 (by simp) HF.out)]; rfl
        clear hb1
        go_wp2_with (refine wpList_load_row rfl 27 (.tmp 2) rfl _ rfl _ _ _ _ H1.out Try.underlying27 rfl (by rw [szScene, arr_size, HL.out]) ?_)
        refine (meanBit_c xs hs HO.out f hf _ HP.out _ (by simp at hz1; omega) hcf).mono ?_
        rintro e w2 ⟨rfl, hb2⟩
        go_wp2
        go_ret2
        exact ⟨by rw [HV.out] <;> rfl, bt hB1 hb2⟩
    · have HV : Hid (fieldV xs f = (0, 2)) := Lib.hid (by simp [fieldV, hok, h24])
      have e1 : (f / 16777216 != 0) = true := by simpa using h24
      have HO := Lib.hid hok
      clear hok h24
      go_enter Try.func79, Try.ntmps79
      go_wp2_with (refine wpList_load_row rfl 27 (.tmp 2) rfl _ rfl _ _ _ _ H0.out Try.underlying27 rfl (by rw [szScene, arr_size, HL.out]) ?_)
      refine (implValidScene_c xs hs _).mono ?_
      rintro e w1 ⟨rfl, hb1⟩
      rw [HO.out]
      have hB1 := bt (bl2 _ _ _) hb1
      have hz1 := hb1.size
      have H1 := Lib.hid (heap_below hb1 (by simp; omega) H0.out)
      have hcf : w1.cell? ⟨w.heap.size + 1, 0, none⟩ = some (.int .u32 f) := by rw [cell_of_row _ _ 0 _ _ _ (heap_below hb1 (by simp) HF.out)]; rfl
      clear hb1
      go_wp2
      go_ret2
      exact ⟨by rw [HV.out] <;> rfl, hB1⟩
end Go.Proofs.Ytmnidldpkkpeoaa
