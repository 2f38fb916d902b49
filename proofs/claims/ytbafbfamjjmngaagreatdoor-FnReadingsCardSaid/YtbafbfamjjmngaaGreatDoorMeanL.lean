/- FieldMean of the program, WeightedReading of the reference; the laws on means. -/
import Derived.Test.YtbafbfamjjmngaaGreatDoorMean
namespace Go.Proofs.YtbafbfamjjmngaaGreatDoor
open Go.RowKit
set_option maxHeartbeats 400000 in
theorem implFieldMean_c (xs : List Int) (hs : Sc xs) (f : Int) (hf : 0 ≤ f ∧ f ≤ 4294967295) (w : World) :
    Calls Tryz.prog 15 #[.agg (arr .i8 xs), .int .u32 f] w fun e w' => e = .returned (.tuple #[.int .i64 (fieldV xs f).1, .int .i64 (fieldV xs f).2]) ∧ Below w.heap.size w w' := by
  have HL := Lib.hid hs.1
  have H0 := Lib.hid (al2_0 w (.cells (arr .i8 xs) 26) (.cells #[.int .u32 f] 36))
  have HF := Lib.hid (al2_1 w (.cells (arr .i8 xs) 26) (.cells #[.int .u32 f] 36))
  cases hok : okS xs
  · have HV : Hid (fieldV xs f = (0, 1)) := Lib.hid (by simp [fieldV, hok])
    have HO := Lib.hid hok
    clear hok
    go_enter Tryz.func15, Tryz.ntmps15
    go_wp2_with (refine wpList_load_row rfl 26 (.tmp 2) rfl _ rfl _ _ _ _ H0.out Tryz.underlying26 rfl (by rw [szScene, arr_size, HL.out]) ?_)
    refine (implValidScene_c xs hs _).mono ?_
    rintro e w1 ⟨rfl, hb1⟩
    rw [HO.out]
    have hB1 := bt (bl2 _ _ _) hb1
    have hz1 := hb1.size
    have H1 := Lib.hid (heap_below hb1 (by simp; omega) H0.out)
    have hcf : w1.cell? ⟨w.heap.size + 1, 0, none⟩ = some (.int .u32 f) := by rw [cell_of_row _ _ 0 _ _ _ (heap_below hb1 (by simp) HF.out)]; rfl
    clear hb1
    go_wp2
    go_ret2
    exact ⟨by rw [HV.out] <;> rfl, hB1⟩
  · by_cases h24 : f / 16777216 = 0
    · by_cases h0 : f = 0
      · have HV : Hid (fieldV xs f = (0, 4)) := Lib.hid (by simp [fieldV, hok, h0])
        have e0 : (f == 0) = true := by simpa using h0
        have e1 : (f / 16777216 != 0) = false := by simp [h24]
        have HO := Lib.hid hok
        clear hok h24 h0
        go_enter Tryz.func15, Tryz.ntmps15
        go_wp2_with (refine wpList_load_row rfl 26 (.tmp 2) rfl _ rfl _ _ _ _ H0.out Tryz.underlying26 rfl (by rw [szScene, arr_size, HL.out]) ?_)
        refine (implValidScene_c xs hs _).mono ?_
        rintro e w1 ⟨rfl, hb1⟩
        rw [HO.out]
        have hB1 := bt (bl2 _ _ _) hb1
        have hz1 := hb1.size
        have H1 := Lib.hid (heap_below hb1 (by simp; omega) H0.out)
        have hcf : w1.cell? ⟨w.heap.size + 1, 0, none⟩ = some (.int .u32 f) := by rw [cell_of_row _ _ 0 _ _ _ (heap_below hb1 (by simp) HF.out)]; rfl
        clear hb1
        go_wp2
        go_ret2
        exact ⟨by rw [HV.out] <;> rfl, hB1⟩
      · have HV : Hid (fieldV xs f = (meanOf (bitOf f) xs, 0)) := Lib.hid (by simp [fieldV, hok, h24, h0])
        have hpos := cnt_pos f (by omega) (by omega)
        have HP := Lib.hid hpos
        have e0 : (f == 0) = false := by simpa using h0
        have e1 : (f / 16777216 != 0) = false := by simp [h24]
        have HO := Lib.hid hok
        clear hok h24 h0 hpos
        go_enter Tryz.func15, Tryz.ntmps15
        go_wp2_with (refine wpList_load_row rfl 26 (.tmp 2) rfl _ rfl _ _ _ _ H0.out Tryz.underlying26 rfl (by rw [szScene, arr_size, HL.out]) ?_)
        refine (implValidScene_c xs hs _).mono ?_
        rintro e w1 ⟨rfl, hb1⟩
        rw [HO.out]
        have hB1 := bt (bl2 _ _ _) hb1
        have hz1 := hb1.size
        have H1 := Lib.hid (heap_below hb1 (by simp; omega) H0.out)
        have hcf : w1.cell? ⟨w.heap.size + 1, 0, none⟩ = some (.int .u32 f) := by rw [cell_of_row _ _ 0 _ _ _ (heap_below hb1 (by simp) HF.out)]; rfl
        clear hb1
        go_wp2_with (refine wpList_load_row rfl 26 (.tmp 2) rfl _ rfl _ _ _ _ H1.out Tryz.underlying26 rfl (by rw [szScene, arr_size, HL.out]) ?_)
        refine (meanBit_c xs hs HO.out f hf _ HP.out _ (by simp at hz1; omega) hcf).mono ?_
        rintro e w2 ⟨rfl, hb2⟩
        go_wp2
        go_ret2
        exact ⟨by rw [HV.out] <;> rfl, bt hB1 hb2⟩
    · have HV : Hid (fieldV xs f = (0, 2)) := Lib.hid (by simp [fieldV, hok, h24])
      have e1 : (f / 16777216 != 0) = true := by simpa using h24
      have HO := Lib.hid hok
      clear hok h24
      go_enter Tryz.func15, Tryz.ntmps15
      go_wp2_with (refine wpList_load_row rfl 26 (.tmp 2) rfl _ rfl _ _ _ _ H0.out Tryz.underlying26 rfl (by rw [szScene, arr_size, HL.out]) ?_)
      refine (implValidScene_c xs hs _).mono ?_
      rintro e w1 ⟨rfl, hb1⟩
      rw [HO.out]
      have hB1 := bt (bl2 _ _ _) hb1
      have hz1 := hb1.size
      have H1 := Lib.hid (heap_below hb1 (by simp; omega) H0.out)
      have hcf : w1.cell? ⟨w.heap.size + 1, 0, none⟩ = some (.int .u32 f) := by rw [cell_of_row _ _ 0 _ _ _ (heap_below hb1 (by simp) HF.out)]; rfl
      clear hb1
      go_wp2
      go_ret2
      exact ⟨by rw [HV.out] <;> rfl, hB1⟩
set_option maxHeartbeats 400000 in
theorem specWeightedReading_c (xs : List Int) (hs : Sc xs) (w : World) :
    Calls Tryz.prog 12 #[.agg (arr .i8 xs)] w fun e w' => e = .returned (.tuple #[.int .i64 (heavyV xs).1, .int .i64 (heavyV xs).2]) ∧ Below w.heap.size w w' := by
  have H0 := Lib.hid (al1_0 w (.cells (arr .i8 xs) 26))
  have HL := Lib.hid (wts_len heavy)
  have K0 := Lib.hid (al2_0 w (.cells (arr .i8 xs) 26) (.cells (arr .i64 (List.replicate 24 0)) 65))
  have K1 := Lib.hid (al2_1 w (.cells (arr .i8 xs) 26) (.cells (arr .i64 (List.replicate 24 0)) 65))
  cases hok : okS xs
  · have HV : Hid (heavyV xs = (0, 1)) := Lib.hid (by simp [heavyV, hok])
    have HO := Lib.hid hok
    clear hok
    go_enter Tryz.func12, Tryz.ntmps12
    go_wp2_with fail
    refine (l06Ok_c xs hs _ _ _ H0.out).mono ?_
    rintro e w' ⟨rfl, rfl⟩
    rw [HO.out]
    go_wp2
    go_ret2
    exact ⟨by rw [HV.out] <;> rfl, bl1 _ _⟩
  · have HV : Hid (heavyV xs = (sumC heavy xs 24 / cnt heavy 24, 0)) := Lib.hid (by simp [heavyV, hok, meanOf])
    have HO := Lib.hid hok
    clear hok
    go_enter Tryz.func12, Tryz.ntmps12
    go_wp2_with fail
    refine (l06Ok_c xs hs _ _ _ H0.out).mono ?_
    rintro e w' ⟨rfl, rfl⟩
    rw [HO.out]
    go_wp2_with (refine wpList_store_row rfl 65 (.tmp 4) (.tmp 8) rfl _ (arr .i64 (List.replicate 24 0)) rfl rfl _ (arr .i64 (List.replicate 24 0)) K1.out (by rw [szC24]; rfl) rfl (arr_one _ _) ?_)
    go_loopw [5] (fun i wr => ∃ k : Nat, k ≤ 24 ∧ i = .int .i64 k ∧ wr.heap[w.heap.size]? = some (.cells (arr .i8 xs) 26 (0, 0)) ∧
        wr.heap[w.heap.size + 1]? = some (.cells (arr .i64 ((wts heavy).take k ++ List.replicate (24 - k) 0)) 65 (0, 0)) ∧ Below w.heap.size w wr) (fun i _ => 24 - (intOf i).toNat)
    case atStart => exact ⟨0, Nat.zero_le _, rfl, by rw [setRow_other _ _ _ _ (by simp)]; exact K0.out, setRow_heap _ _ _ _ _ _ K1.out, below_setRow (bl2 _ _ _) (by omega) _⟩
    case round =>
      obtain ⟨k, hk, rfl, hA, hB, hW⟩ := hrel
      have HA := Lib.hid hA
      have HB := Lib.hid hB
      have HW := Lib.hid hW
      clear hA hB hW
      by_cases hlt : k < 24
      · have hcell2 := arr_cell HB.out k (by simp [HL.out]; omega)
        have hfr : wr.frozen? ⟨w.heap.size + 1, k, none⟩ = false := frozen_of_row _ _ _ _ _ HB.out
        have HH := Lib.hid (heavy_if k)
        cases h1 : (decide (1 ≤ (k : Int) % 6) && decide ((k : Int) % 6 ≤ 4))
        · have D1 := Lib.hid h1
          have HY : Hid (heavy k = 1) := Lib.hid (by rw [HH.out, h1]; rfl)
          clear h1
          go_wp2_with (go_at_call 37; refine (l00In_c _ _ _ _).mono ?_; rintro e w' ⟨rfl, rfl⟩; rw [D1.out])
          go_roundw
          case rel => exact ⟨k + 1, by omega, by go_num, heap_far _ (by simp) HA.out, by rw [← set_step _ _ _ HL.out hlt, wts_get _ _ hlt, HY.out]; exact arr_store HB.out _ _, HW.out.setCell (by simp) _⟩
          case measure => simp [intOf]; omega
        · cases h2 : (decide (1 ≤ (k : Int) / 6) && decide ((k : Int) / 6 ≤ 2))
          · have D1 := Lib.hid h1
            have D2 := Lib.hid h2
            have HY : Hid (heavy k = 1) := Lib.hid (by rw [HH.out, h1, h2]; rfl)
            clear h1 h2
            go_wp2_with (go_at_call 37; refine (l00In_c _ _ _ _).mono ?_; rintro e w' ⟨rfl, rfl⟩; first | rw [D1.out] | rw [D2.out])
            go_roundw
            case rel => exact ⟨k + 1, by omega, by go_num, heap_far _ (by simp) HA.out, by rw [← set_step _ _ _ HL.out hlt, wts_get _ _ hlt, HY.out]; exact arr_store HB.out _ _, HW.out.setCell (by simp) _⟩
            case measure => simp [intOf]; omega
          · have D1 := Lib.hid h1
            have D2 := Lib.hid h2
            have HY : Hid (heavy k = 3) := Lib.hid (by rw [HH.out, h1, h2]; rfl)
            clear h1 h2
            have HB2 := Lib.hid (arr_store HB.out k 1)
            go_wp2_with (go_at_call 37; refine (l00In_c _ _ _ _).mono ?_; rintro e w' ⟨rfl, rfl⟩; first | rw [D1.out] | rw [D2.out])
            go_roundw
            case rel => exact ⟨k + 1, by omega, by go_num, heap_far _ (by simp) (heap_far _ (by simp) HA.out), by rw [← set_step _ _ _ HL.out hlt, wts_get _ _ hlt, HY.out, arr_store HB2.out, List.set_set], (HW.out.setCell (by simp) _).setCell (by simp) _⟩
            case measure => simp [intOf]; omega
      · have hk24 : k = 24 := by omega
        subst hk24
        have HC2 : Hid (wr.heap[w.heap.size + 1]? = some (.cells (arr .i64 (wts heavy)) 65 (0, 0))) := Lib.hid (by
          have := HB.out
          rwa [List.take_of_length_le (by rw [HL.out]; omega), Nat.sub_self, List.replicate_zero, List.append_nil] at this)
        go_wp2_with fail
        refine (l06Mean_c xs hs HO.out _ heavy_wt (by decide) _ _ _ _ _ HA.out HC2.out).mono ?_
        rintro e w2 ⟨rfl, hb2⟩
        go_wp2
        go_ret2
        exact ⟨by rw [HV.out] <;> rfl, bt HW.out hb2⟩
end Go.Proofs.YtbafbfamjjmngaaGreatDoor
