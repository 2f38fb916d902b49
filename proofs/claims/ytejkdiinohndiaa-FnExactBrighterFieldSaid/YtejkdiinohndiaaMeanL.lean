/- FieldMean of the program, WeightedReading of the reference; the laws on means. -/
import Derived.Test.YtejkdiinohndiaaMeanF
namespace Go.Proofs.Ytejkdiinohndiaa
open Go.RowKit
set_option maxHeartbeats 400000 in
theorem implFieldMean_c (xs : List Int) (hs : Sc xs) (f : Int) (hf : 0 ≤ f ∧ f ≤ 4294967295) (w : World) :
    Calls Try.prog 48 #[.agg (arr .i8 xs), .int .u32 f] w fun e w' => e = .returned (.tuple #[.int .i64 (fieldV xs f).1, .int .i64 (fieldV xs f).2]) ∧ Below w.heap.size w w' := by
  have HL := Lib.hid hs.1
  have H0 := Lib.hid (al2_0 w (.cells (arr .i8 xs) 36) (.cells #[.int .u32 f] 47))
  have HF := Lib.hid (al2_1 w (.cells (arr .i8 xs) 36) (.cells #[.int .u32 f] 47))
  cases hok : okS xs
  · have HV : Hid (fieldV xs f = (0, 1)) := Lib.hid (by simp [fieldV, hok])
    have HO := Lib.hid hok
    clear hok
    go_enter Try.func48, Try.ntmps48
    go_wp2_with (refine wpList_load_row rfl 36 (.tmp 2) rfl _ rfl _ _ _ _ H0.out Try.underlying36 rfl (by rw [szScene, arr_size, HL.out]) ?_)
    refine (implValidScene_c xs hs _).mono ?_
    rintro e w1 ⟨rfl, hb1⟩
    rw [HO.out]
    have hB1 := bt (bl2 _ _ _) hb1
    have hz1 := hb1.size
    have H1 := Lib.hid (heap_below hb1 (by simp; omega) H0.out)
    have hcf : w1.cell? ⟨w.heap.size + 1, 0, none⟩ = some (.int .u32 f) := by rw [cell_of_row _ _ 0 _ _ _ (heap_below hb1 (by simp) HF.out)]; rfl
    clear hb1
    go_wp2
    go_ret2
    exact ⟨by rw [HV.out] <;> rfl, hB1⟩
  · by_cases h24 : f / 16777216 = 0
    · by_cases h0 : f = 0
      · have HV : Hid (fieldV xs f = (0, 4)) := Lib.hid (by simp [fieldV, hok, h0])
        have e0 : (f == 0) = true := by simpa using h0
        have e1 : (f / 16777216 != 0) = false := by simp [h24]
        have HO := Lib.hid hok
        clear hok h24 h0
        go_enter Try.func48, Try.ntmps48
        go_wp2_with (refine wpList_load_row rfl 36 (.tmp 2) rfl _ rfl _ _ _ _ H0.out Try.underlying36 rfl (by rw [szScene, arr_size, HL.out]) ?_)
        refine (implValidScene_c xs hs _).mono ?_
        rintro e w1 ⟨rfl, hb1⟩
        rw [HO.out]
        have hB1 := bt (bl2 _ _ _) hb1
        have hz1 := hb1.size
        have H1 := Lib.hid (heap_below hb1 (by simp; omega) H0.out)
        have hcf : w1.cell? ⟨w.heap.size + 1, 0, none⟩ = some (.int .u32 f) := by rw [cell_of_row _ _ 0 _ _ _ (heap_below hb1 (by simp) HF.out)]; rfl
        clear hb1
        go_wp2
        go_ret2
        exact ⟨by rw [HV.out] <;> rfl, hB1⟩
      · have HV : Hid (fieldV xs f = (meanOf (bitOf f) xs, 0)) := Lib.hid (by simp [fieldV, hok, h24, h0])
        have hpos := cnt_pos f (by omega) (by omega)
        have HP := Lib.hid hpos
        have e0 : (f == 0) = false := by simpa using h0
        have e1 : (f / 16777216 != 0) = false := by simp [h24]
        have HO := Lib.hid hok
        clear hok h24 h0 hpos
        go_enter Try.func48, Try.ntmps48
        go_wp2_with (refine wpList_load_row rfl 36 (.tmp 2) rfl _ rfl _ _ _ _ H0.out Try.underlying36 rfl (by rw [szScene, arr_size, HL.out]) ?_)
        refine (implValidScene_c xs hs _).mono ?_
        rintro e w1 ⟨rfl, hb1⟩
        rw [HO.out]
        have hB1 := bt (bl2 _ _ _) hb1
        have hz1 := hb1.size
        have H1 := Lib.hid (heap_below hb1 (by simp; omega) H0.out)
        have hcf : w1.cell? ⟨w.heap.size + 1, 0, none⟩ = some (.int .u32 f) := by rw [cell_of_row _ _ 0 _ _ _ (heap_below hb1 (by simp) HF.out)]; rfl
        clear hb1
        go_wp2_with (refine wpList_load_row rfl 36 (.tmp 2) rfl _ rfl _ _ _ _ H1.out Try.underlying36 rfl (by rw [szScene, arr_size, HL.out]) ?_)
        refine (meanBit_c xs hs HO.out f hf _ HP.out _ (by simp at hz1; omega) hcf).mono ?_
        rintro e w2 ⟨rfl, hb2⟩
        go_wp2
        go_ret2
        exact ⟨by rw [HV.out] <;> rfl, bt hB1 hb2⟩
    · have HV : Hid (fieldV xs f = (0, 2)) := Lib.hid (by simp [fieldV, hok, h24])
      have e1 : (f / 16777216 != 0) = true := by simpa using h24
      have HO := Lib.hid hok
      clear hok h24
      go_enter Try.func48, Try.ntmps48
      go_wp2_with (refine wpList_load_row rfl 36 (.tmp 2) rfl _ rfl _ _ _ _ H0.out Try.underlying36 rfl (by rw [szScene, arr_size, HL.out]) ?_)
      refine (implValidScene_c xs hs _).mono ?_
      rintro e w1 ⟨rfl, hb1⟩
      rw [HO.out]
      have hB1 := bt (bl2 _ _ _) hb1
      have hz1 := hb1.size
      have H1 := Lib.hid (heap_below hb1 (by simp; omega) H0.out)
      have hcf : w1.cell? ⟨w.heap.size + 1, 0, none⟩ = some (.int .u32 f) := by rw [cell_of_row _ _ 0 _ _ _ (heap_below hb1 (by simp) HF.out)]; rfl
      clear hb1
      go_wp2
      go_ret2
      exact ⟨by rw [HV.out] <;> rfl, hB1⟩
set_option maxHeartbeats 400000 in
theorem specWeightedReading_c (xs : List Int) (hs : Sc xs) (w : World) :
    Calls Try.prog 43 #[.agg (arr .i8 xs)] w fun e w' => e = .returned (.tuple #[.int .i64 (heavyV xs).1, .int .i64 (heavyV xs).2]) ∧ Below w.heap.size w w' := by
  have H0 := Lib.hid (al1_0 w (.cells (arr .i8 xs) 36))
  have HL := Lib.hid (wts_len heavy)
  have K0 := Lib.hid (al2_0 w (.cells (arr .i8 xs) 36) (.cells (arr .i64 (List.replicate 24 0)) 100))
  have K1 := Lib.hid (al2_1 w (.cells (arr .i8 xs) 36) (.cells (arr .i64 (List.replicate 24 0)) 100))
  cases hok : okS xs
  · have HV : Hid (heavyV xs = (0, 1)) := Lib.hid (by simp [heavyV, hok])
    have HO := Lib.hid hok
    clear hok
    go_enter Try.func43, Try.ntmps43
    go_wp2_with fail
    refine (l06Ok_c xs hs _ _ _ H0.out).mono ?_
    rintro e w' ⟨rfl, rfl⟩
    rw [HO.out]
    go_wp2
    go_ret2
    exact ⟨by rw [HV.out] <;> rfl, bl1 _ _⟩
  · have HV : Hid (heavyV xs = (sumC heavy xs 24 / cnt heavy 24, 0)) := Lib.hid (by simp [heavyV, hok, meanOf])
    have HO := Lib.hid hok
    clear hok
    go_enter Try.func43, Try.ntmps43
    go_wp2_with fail
    refine (l06Ok_c xs hs _ _ _ H0.out).mono ?_
    rintro e w' ⟨rfl, rfl⟩
    rw [HO.out]
    go_wp2_with (refine wpList_store_row rfl 100 (.tmp 4) (.tmp 8) rfl _ (arr .i64 (List.replicate 24 0)) rfl rfl _ (arr .i64 (List.replicate 24 0)) K1.out (by rw [szC24]; rfl) rfl (arr_one _ _) ?_)
    go_loopw [5] (fun i wr => ∃ k : Nat, k ≤ 24 ∧ i = .int .i64 k ∧ wr.heap[w.heap.size]? = some (.cells (arr .i8 xs) 36 (0, 0)) ∧
        wr.heap[w.heap.size + 1]? = some (.cells (arr .i64 ((wts heavy).take k ++ List.replicate (24 - k) 0)) 100 (0, 0)) ∧ Below w.heap.size w wr) (fun i _ => 24 - (intOf i).toNat)
    case atStart => exact ⟨0, Nat.zero_le _, rfl, by rw [setRow_other _ _ _ _ (by simp)]; exact K0.out, setRow_heap _ _ _ _ _ _ K1.out, below_setRow (bl2 _ _ _) (by omega) _⟩
    case round =>
      obtain ⟨k, hk, rfl, hA, hB, hW⟩ := hrel
      have HA := Lib.hid hA
      have HB := Lib.hid hB
      have HW := Lib.hid hW
      clear hA hB hW
      by_cases hlt : k < 24
      · have hcell2 := arr_cell HB.out k (by simp [HL.out]; omega)
        have hfr : wr.frozen? ⟨w.heap.size + 1, k, none⟩ = false := frozen_of_row _ _ _ _ _ HB.out
        have HH := Lib.hid (heavy_if k)
        cases h1 : (decide (1 ≤ (k : Int) % 6) && decide ((k : Int) % 6 ≤ 4))
        · have D1 := Lib.hid h1
          have HY : Hid (heavy k = 1) := Lib.hid (by rw [HH.out, h1]; rfl)
          clear h1
          go_wp2_with (go_at_call 85; refine (l00In_c _ _ _ _).mono ?_; rintro e w' ⟨rfl, rfl⟩; rw [D1.out])
          go_roundw
          case rel => exact ⟨k + 1, by omega, by go_num, heap_far _ (by simp) HA.out, by rw [← set_step _ _ _ HL.out hlt, wts_get _ _ hlt, HY.out]; exact arr_store HB.out _ _, HW.out.setCell (by simp) _⟩
          case measure => simp [intOf]; omega
        · cases h2 : (decide (1 ≤ (k : Int) / 6) && decide ((k : Int) / 6 ≤ 2))
          · have D1 := Lib.hid h1
            have D2 := Lib.hid h2
            have HY : Hid (heavy k = 1) := Lib.hid (by rw [HH.out, h1, h2]; rfl)
            clear h1 h2
            go_wp2_with (go_at_call 85; refine (l00In_c _ _ _ _).mono ?_; rintro e w' ⟨rfl, rfl⟩; first | rw [D1.out] | rw [D2.out])
            go_roundw
            case rel => exact ⟨k + 1, by omega, by go_num, heap_far _ (by simp) HA.out, by rw [← set_step _ _ _ HL.out hlt, wts_get _ _ hlt, HY.out]; exact arr_store HB.out _ _, HW.out.setCell (by simp) _⟩
            case measure => simp [intOf]; omega
          · have D1 := Lib.hid h1
            have D2 := Lib.hid h2
            have HY : Hid (heavy k = 3) := Lib.hid (by rw [HH.out, h1, h2]; rfl)
            clear h1 h2
            have HB2 := Lib.hid (arr_store HB.out k 1)
            go_wp2_with (go_at_call 85; refine (l00In_c _ _ _ _).mono ?_; rintro e w' ⟨rfl, rfl⟩; first | rw [D1.out] | rw [D2.out])
            go_roundw
            case rel => exact ⟨k + 1, by omega, by go_num, heap_far _ (by simp) (heap_far _ (by simp) HA.out), by rw [← set_step _ _ _ HL.out hlt, wts_get _ _ hlt, HY.out, arr_store HB2.out, List.set_set], (HW.out.setCell (by simp) _).setCell (by simp) _⟩
            case measure => simp [intOf]; omega
      · have hk24 : k = 24 := by omega
        subst hk24
        have HC2 : Hid (wr.heap[w.heap.size + 1]? = some (.cells (arr .i64 (wts heavy)) 100 (0, 0))) := Lib.hid (by
          have := HB.out
          rwa [List.take_of_length_le (by rw [HL.out]; omega), Nat.sub_self, List.replicate_zero, List.append_nil] at this)
        go_wp2_with fail
        refine (l06Mean_c xs hs HO.out _ heavy_wt (by decide) _ _ _ _ _ HA.out HC2.out).mono ?_
        rintro e w2 ⟨rfl, hb2⟩
        go_wp2
        go_ret2
        exact ⟨by rw [HV.out] <;> rfl, bt HW.out hb2⟩
set_option linter.unusedVariables false in
theorem lawMeanReading_c (xs : List Int) (hl : xs.length = 24) (hx : I8 xs) (w : World) :
    Calls Try.prog 9 #[.agg (arr .i8 xs)] w fun e w' => e = .returned (.bool true) ∧ Below w.heap.size w w' := by
  have hs : Sc xs := ⟨hl, hx⟩
  have HL := Lib.hid hl
  clear hl hx
  go_enter Try.func9, Try.ntmps9
  have H0 := Lib.hid (al1_0 w (.cells (arr .i8 xs) 34))
  go_wp2_with (refine wpList_load_row rfl 34 (.tmp 1) rfl _ rfl _ _ _ _ H0.out Try.underlying34 rfl (by rw [szA24, arr_size, HL.out]) ?_)
  refine (toScene_c xs hs _).mono ?_
  rintro e w1 ⟨rfl, hb1⟩
  have hB1 := bt (bl1 _ _) hb1
  have hz1 : w.heap.size < w1.heap.size := Nat.lt_of_lt_of_le (by simp) hb1.size
  have H1 := Lib.hid (heap_below hb1 (by simp) H0.out)
  clear hb1
  go_wp2_with fail
  refine (specMeanReading_c xs hs _).mono ?_
  rintro e w2 ⟨rfl, hb2⟩
  have hB2 := bt hB1 hb2
  have hz2 : w.heap.size < w2.heap.size := Nat.lt_of_lt_of_le hz1 hb2.size
  have H2 := Lib.hid (heap_below hb2 hz1 H1.out)
  clear hb2
  go_wp2_with (refine wpList_load_row rfl 34 (.tmp 1) rfl _ rfl _ _ _ _ H2.out Try.underlying34 rfl (by rw [szA24, arr_size, HL.out]) ?_)
  refine (toScene_c xs hs _).mono ?_
  rintro e w3 ⟨rfl, hb3⟩
  have hB3 := bt hB2 hb3
  have hz3 : w.heap.size < w3.heap.size := Nat.lt_of_lt_of_le hz2 hb3.size
  have H3 := Lib.hid (heap_below hb3 hz2 H2.out)
  clear hb3
  go_wp2_with fail
  refine (implMeanReading_c xs hs _).mono ?_
  rintro e w4 ⟨rfl, hb4⟩
  have hB4 := bt hB3 hb4
  have hz4 : w.heap.size < w4.heap.size := Nat.lt_of_lt_of_le hz3 hb4.size
  have H4 := Lib.hid (heap_below hb4 hz3 H3.out)
  clear hb4
  go_wp2_with fail
  go_ret
  exact ⟨rfl, hB4⟩
set_option linter.unusedVariables false in
theorem lawWeightedReading_c (xs : List Int) (hl : xs.length = 24) (hx : I8 xs) (w : World) :
    Calls Try.prog 10 #[.agg (arr .i8 xs)] w fun e w' => e = .returned (.bool true) ∧ Below w.heap.size w w' := by
  have hs : Sc xs := ⟨hl, hx⟩
  have HL := Lib.hid hl
  clear hl hx
  go_enter Try.func10, Try.ntmps10
  have H0 := Lib.hid (al1_0 w (.cells (arr .i8 xs) 34))
  go_wp2_with (refine wpList_load_row rfl 34 (.tmp 1) rfl _ rfl _ _ _ _ H0.out Try.underlying34 rfl (by rw [szA24, arr_size, HL.out]) ?_)
  refine (toScene_c xs hs _).mono ?_
  rintro e w1 ⟨rfl, hb1⟩
  have hB1 := bt (bl1 _ _) hb1
  have hz1 : w.heap.size < w1.heap.size := Nat.lt_of_lt_of_le (by simp) hb1.size
  have H1 := Lib.hid (heap_below hb1 (by simp) H0.out)
  clear hb1
  go_wp2_with fail
  refine (specWeightedReading_c xs hs _).mono ?_
  rintro e w2 ⟨rfl, hb2⟩
  have hB2 := bt hB1 hb2
  have hz2 : w.heap.size < w2.heap.size := Nat.lt_of_lt_of_le hz1 hb2.size
  have H2 := Lib.hid (heap_below hb2 hz1 H1.out)
  clear hb2
  go_wp2_with (refine wpList_load_row rfl 34 (.tmp 1) rfl _ rfl _ _ _ _ H2.out Try.underlying34 rfl (by rw [szA24, arr_size, HL.out]) ?_)
  refine (toScene_c xs hs _).mono ?_
  rintro e w3 ⟨rfl, hb3⟩
  have hB3 := bt hB2 hb3
  have hz3 : w.heap.size < w3.heap.size := Nat.lt_of_lt_of_le hz2 hb3.size
  have H3 := Lib.hid (heap_below hb3 hz2 H2.out)
  clear hb3
  go_wp2_with fail
  refine (implWeightedReading_c xs hs _).mono ?_
  rintro e w4 ⟨rfl, hb4⟩
  have hB4 := bt hB3 hb4
  have hz4 : w.heap.size < w4.heap.size := Nat.lt_of_lt_of_le hz3 hb4.size
  have H4 := Lib.hid (heap_below hb4 hz3 H3.out)
  clear hb4
  go_wp2_with fail
  go_ret
  exact ⟨rfl, hB4⟩
set_option linter.unusedVariables false in
theorem lawFieldMean_c (xs : List Int) (hl : xs.length = 24) (hx : I8 xs) (f : Int) (bd_f : 0 ≤ f ∧ f ≤ 4294967295) (w : World) :
    Calls Try.prog 12 #[.agg (arr .i8 xs), .int .u32 f] w fun e w' => e = .returned (.bool true) ∧ Below w.heap.size w w' := by
  have hs : Sc xs := ⟨hl, hx⟩
  have HL := Lib.hid hl
  clear hl hx
  go_enter Try.func12, Try.ntmps12
  have H0 := Lib.hid (al1_0 w (.cells (arr .i8 xs) 34))
  go_wp2_with (refine wpList_load_row rfl 34 (.tmp 2) rfl _ rfl _ _ _ _ H0.out Try.underlying34 rfl (by rw [szA24, arr_size, HL.out]) ?_)
  refine (toScene_c xs hs _).mono ?_
  rintro e w1 ⟨rfl, hb1⟩
  have hB1 := bt (bl1 _ _) hb1
  have hz1 : w.heap.size < w1.heap.size := Nat.lt_of_lt_of_le (by simp) hb1.size
  have H1 := Lib.hid (heap_below hb1 (by simp) H0.out)
  clear hb1
  go_wp2_with fail
  refine (specFieldMean_c xs hs f bd_f _).mono ?_
  rintro e w2 ⟨rfl, hb2⟩
  have hB2 := bt hB1 hb2
  have hz2 : w.heap.size < w2.heap.size := Nat.lt_of_lt_of_le hz1 hb2.size
  have H2 := Lib.hid (heap_below hb2 hz1 H1.out)
  clear hb2
  go_wp2_with (refine wpList_load_row rfl 34 (.tmp 2) rfl _ rfl _ _ _ _ H2.out Try.underlying34 rfl (by rw [szA24, arr_size, HL.out]) ?_)
  refine (toScene_c xs hs _).mono ?_
  rintro e w3 ⟨rfl, hb3⟩
  have hB3 := bt hB2 hb3
  have hz3 : w.heap.size < w3.heap.size := Nat.lt_of_lt_of_le hz2 hb3.size
  have H3 := Lib.hid (heap_below hb3 hz2 H2.out)
  clear hb3
  go_wp2_with fail
  refine (implFieldMean_c xs hs f bd_f _).mono ?_
  rintro e w4 ⟨rfl, hb4⟩
  have hB4 := bt hB3 hb4
  have hz4 : w.heap.size < w4.heap.size := Nat.lt_of_lt_of_le hz3 hb4.size
  have H4 := Lib.hid (heap_below hb4 hz3 H3.out)
  clear hb4
  go_wp2_with fail
  go_ret
  exact ⟨rfl, hB4⟩
end Go.Proofs.Ytejkdiinohndiaa
