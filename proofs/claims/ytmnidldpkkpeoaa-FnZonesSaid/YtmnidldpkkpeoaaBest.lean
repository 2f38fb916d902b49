/- BestPlacement: the program's and the reference's. -/
import Derived.Test.YtmnidldpkkpeoaaOffF
namespace Go.Proofs.Ytmnidldpkkpeoaa
open Go.RowKit
/-- How many cells are off the scale where a reading is put in the zone 5. -/
def offN (xs : List Int) (k : Nat) : Nat := howMany (lowP xs k 5) 24 + howMany (highP xs k 5) 24
theorem offN_le (xs : List Int) (k : Nat) : offN xs k ≤ 48 := by
  have := howMany_le (lowP xs k 5) 24
  have := howMany_le (highP xs k 5) 24
  unfold offN; omega
theorem low_high (xs : List Int) (r z : Int) (i : Nat) : (lowP xs r z i && highP xs r z i) = false := by
  unfold lowP highP
  by_cases h : znV r z (xs.getD i 0) < 0
  · simp; omega
  · simp; omega
theorem mask32 (p : Nat → Bool) : maskOf p 24 < 2 ^ 32 := Nat.lt_of_lt_of_le (maskOf_lt p 24) (Nat.pow_le_pow_right (by omega) (by omega))
theorem offN_or (xs : List Int) (k : Nat) : pc (maskOf (lowP xs k 5) 24 ||| maskOf (highP xs k 5) 24) = offN xs k := by
  rw [maskOf_or, pc_maskOf, howMany_or _ _ _ (fun i _ => low_high xs k 5 i)]; rfl
/-- The best placement among the first readings, and its count; -1 ahead of the first. -/
def bst (xs : List Int) : Nat → Int × Int × Int
  | 0 => (0, 0, -1)
  | k + 1 => if (bst xs k).2.2 < 0 ∨ (offN xs k : Int) < (bst xs k).2.2 then (k, 5, offN xs k) else bst xs k
theorem bst_bd (xs : List Int) (k : Nat) : -1 ≤ (bst xs k).2.2 ∧ (bst xs k).2.2 ≤ 48 := by
  induction k with
  | zero => simp [bst]
  | succ k ih =>
    have := offN_le xs k
    simp only [bst]
    split
    · simp only; omega
    · exact ih
def bestV (xs : List Int) : (Int × Int × Int) × Int := if okS xs then (bst xs 61, 0) else ((0, 0, 0), 1)
theorem blk2 {w : World} {g : Nat} {a b c d : Value} {t : TypeId} (h : w.heap[g]? = some (.cells #[a, b] t (0, 0))) : ((w.setCell ⟨g, 0, none⟩ c).setCell ⟨g, 1, none⟩ d).heap[g]? = some (.cells #[c, d] t (0, 0)) := by
  rw [heap_setCell_same _ g 1 _ t d (heap_setCell_same _ g 0 _ t c h)]; rfl
theorem blk2_0 {w : World} {g : Nat} {a b : Value} {t : TypeId} (h : w.heap[g]? = some (.cells #[a, b] t (0, 0))) : w.cell? ⟨g, 0, none⟩ = some a := by rw [cell_of_row _ _ 0 _ _ _ h]; rfl
theorem blk2_1 {w : World} {g : Nat} {a b : Value} {t : TypeId} (h : w.heap[g]? = some (.cells #[a, b] t (0, 0))) : w.cell? ⟨g, 1, none⟩ = some b := by rw [cell_of_row _ _ 1 _ _ _ h]; rfl
theorem blk2_f {w : World} {g : Nat} {cs : Array Value} {t : TypeId} (h : w.heap[g]? = some (.cells cs t (0, 0))) (i : Nat) : w.frozen? ⟨g, i, none⟩ = false := frozen_of_row _ _ _ _ _ h
set_option maxHeartbeats 1000000 in
theorem specBest_c (xs : List Int) (hs : Sc xs) (w : World) :
    Calls Try.prog 30 #[.agg (arr .i8 xs)] w fun e w' => e = .returned (.tuple #[.agg #[.int .i8 (bestV xs).1.1, .int .i8 (bestV xs).1.2.1], .int .i64 (bestV xs).1.2.2, .int .i64 (bestV xs).2]) ∧ Below w.heap.size w w' := by
  have HL := Lib.hid hs.1
  have H0 := Lib.hid (al2_0 w (.cells (arr .i8 xs) 27) (.cells #[.int .i8 0, .int .i8 0] 42))
  have R0 := Lib.hid (al2_1 w (.cells (arr .i8 xs) 27) (.cells #[.int .i8 0, .int .i8 0] 42))
  cases hok : okS xs
  · have HV : Hid (bestV xs = ((0, 0, 0), 1)) := Lib.hid (by simp [bestV, hok])
    have HO := Lib.hid hok
    clear hok
    go_enter Try.func30, Try.ntmps30
    go_wp2_with fail
    refine (l06Ok_c xs hs _ _ _ H0.out).mono ?_
    rintro e w' ⟨rfl, rfl⟩
    rw [HO.out]
    go_wp2
    exact bodyPost_ret (v := .tuple #[.agg #[.int .i8 0, .int .i8 0], .int .i64 0, .int .i64 1]) (by simp [results, Try.results30, go_sem]) rfl ⟨by rw [HV.out], by first | exact bl2 _ _ _ | simpa using bl2 _ _ _⟩
  · have HV : Hid (bestV xs = (bst xs 61, 0)) := Lib.hid (by simp [bestV, hok])
    have HO := Lib.hid hok
    have hok2 := hok
    clear hok
    go_enter Try.func30, Try.ntmps30
    go_wp2_with fail
    refine (l06Ok_c xs hs _ _ _ H0.out).mono ?_
    rintro e w' ⟨rfl, rfl⟩
    rw [HO.out]
    go_wp2
    go_loopw [6, 7] (fun f i wr => ∃ (k : Nat) (br bz few : Int), k ≤ 61 ∧ i = .int .i8 k ∧ f = .int .i64 few ∧ bst xs k = (br, bz, few) ∧ wr.heap[w.heap.size]? = some (.cells (arr .i8 xs) 27 (0, 0)) ∧
        wr.heap[w.heap.size + 1]? = some (.cells #[.int .i8 0, .int .i8 0] 42 (0, 0)) ∧ wr.heap[w.heap.size + 1 + 1]? = some (.cells #[.int .i8 br, .int .i8 bz] 42 (0, 0)) ∧ Below w.heap.size w wr) (fun _ i _ => 61 - (intOf i).toNat)
    case atStart => exact ⟨0, 0, 0, -1, by omega, rfl, rfl, rfl, al3_0 _ _ _ _, al3_1 _ _ _ _, al3_2 _ _ _ _, bl3 _ _ _ _⟩
    case round =>
      obtain ⟨k, br, bz, few, hk, rfl, rfl, hbk, hS, hR, hB, hW⟩ := hrel
      have bb := bst_bd xs k
      rw [hbk] at bb
      obtain ⟨bb1, bb2⟩ := bb
      simp only at bb1 bb2
      have HK := Lib.hid hbk
      have HS := Lib.hid hS
      have HR := Lib.hid hR
      have HB := Lib.hid hB
      have HW := Lib.hid hW
      clear hbk hS hR hB hW
      by_cases hlt : k ≤ 60
      · have hlow := howMany_le (lowP xs k 5) 24
        have hhigh := howMany_le (highP xs k 5) 24
        have l0 := lt_of_heap HS.out
        have l1 := lt_of_heap HR.out
        have l2 := lt_of_heap HB.out
        have HN : Hid (bst xs (k + 1) = if few < 0 ∨ (((howMany (lowP xs k 5) 24 + howMany (highP xs k 5) 24 : Nat)) : Int) < few then ((k : Int), 5, (((howMany (lowP xs k 5) 24 + howMany (highP xs k 5) 24 : Nat)) : Int)) else (br, bz, few)) := Lib.hid (by
          simp only [bst, HK.out, offN])
        by_cases q1 : few < 0
        · go_wp2_with fail
          refine (l06Off_c xs hs hok2 k 5 ⟨by omega, by omega⟩ _ _ _ (heap_old _ _ l0 HS.out)).mono ?_
          rintro e w2 ⟨rfl, hb2⟩
          have HT := Lib.hid (heap_below hb2 (by simp) (al1_0 wr (.cells #[.int .i8 k, .int .i8 5] 42)))
          have HS2 := Lib.hid (heap_below hb2 (by simp; omega) (heap_old _ _ l0 HS.out))
          have HR2 := Lib.hid (heap_below hb2 (by simp; omega) (heap_old _ _ l1 HR.out))
          have HB2 := Lib.hid (heap_below hb2 (by simp; omega) (heap_old _ _ l2 HB.out))
          have HW2 := Lib.hid (bt (HW.out.alloc HW.out.size _) hb2)
          have t0 := blk2_0 HT.out
          have t1 := blk2_1 HT.out
          have c0 := blk2_0 HB2.out
          have c1 := blk2_1 HB2.out
          have f0 := blk2_f HB2.out 0
          have f1 := blk2_f HB2.out 1
          clear hb2
          go_wp2_with fail
          refine (l06Size_c _ (mask32 _) _).mono ?_
          rintro e w' ⟨rfl, rfl⟩
          rw [pc_maskOf]
          go_wp2_with fail
          refine (l06Size_c _ (mask32 _) _).mono ?_
          rintro e w' ⟨rfl, rfl⟩
          rw [pc_maskOf]
          generalize hga : howMany (lowP xs k 5) 24 = a at *
          generalize hgb : howMany (highP xs k 5) 24 = b at *
          clear hga hgb
          go_wp2
          go_roundw
          case rel => exact ⟨k + 1, k, 5, ((a + b : Nat) : Int), by omega, by go_num, by go_num, by rw [HN.out, if_pos (by omega)], heap_far _ (by simp; omega) (heap_far _ (by simp; omega) HS2.out), heap_far _ (by simp) (heap_far _ (by simp) HR2.out), blk2 HB2.out, (HW2.out.setCell (by simp; omega) _).setCell (by simp; omega) _⟩
          case measure => simp [intOf]; omega
        · by_cases q2 : ((howMany (lowP xs k 5) 24 : Nat) : Int) + ((howMany (highP xs k 5) 24 : Nat) : Int) < few
          · go_wp2_with fail
            refine (l06Off_c xs hs hok2 k 5 ⟨by omega, by omega⟩ _ _ _ (heap_old _ _ l0 HS.out)).mono ?_
            rintro e w2 ⟨rfl, hb2⟩
            have HT := Lib.hid (heap_below hb2 (by simp) (al1_0 wr (.cells #[.int .i8 k, .int .i8 5] 42)))
            have HS2 := Lib.hid (heap_below hb2 (by simp; omega) (heap_old _ _ l0 HS.out))
            have HR2 := Lib.hid (heap_below hb2 (by simp; omega) (heap_old _ _ l1 HR.out))
            have HB2 := Lib.hid (heap_below hb2 (by simp; omega) (heap_old _ _ l2 HB.out))
            have HW2 := Lib.hid (bt (HW.out.alloc HW.out.size _) hb2)
            have t0 := blk2_0 HT.out
            have t1 := blk2_1 HT.out
            have c0 := blk2_0 HB2.out
            have c1 := blk2_1 HB2.out
            have f0 := blk2_f HB2.out 0
            have f1 := blk2_f HB2.out 1
            clear hb2
            go_wp2_with fail
            refine (l06Size_c _ (mask32 _) _).mono ?_
            rintro e w' ⟨rfl, rfl⟩
            rw [pc_maskOf]
            go_wp2_with fail
            refine (l06Size_c _ (mask32 _) _).mono ?_
            rintro e w' ⟨rfl, rfl⟩
            rw [pc_maskOf]
            generalize hga : howMany (lowP xs k 5) 24 = a at *
            generalize hgb : howMany (highP xs k 5) 24 = b at *
            clear hga hgb
            go_wp2
            go_roundw
            case rel => exact ⟨k + 1, k, 5, ((a + b : Nat) : Int), by omega, by go_num, by go_num, by rw [HN.out, if_pos (by omega)], heap_far _ (by simp; omega) (heap_far _ (by simp; omega) HS2.out), heap_far _ (by simp) (heap_far _ (by simp) HR2.out), blk2 HB2.out, (HW2.out.setCell (by simp; omega) _).setCell (by simp; omega) _⟩
            case measure => simp [intOf]; omega
          · go_wp2_with fail
            refine (l06Off_c xs hs hok2 k 5 ⟨by omega, by omega⟩ _ _ _ (heap_old _ _ l0 HS.out)).mono ?_
            rintro e w2 ⟨rfl, hb2⟩
            have HT := Lib.hid (heap_below hb2 (by simp) (al1_0 wr (.cells #[.int .i8 k, .int .i8 5] 42)))
            have HS2 := Lib.hid (heap_below hb2 (by simp; omega) (heap_old _ _ l0 HS.out))
            have HR2 := Lib.hid (heap_below hb2 (by simp; omega) (heap_old _ _ l1 HR.out))
            have HB2 := Lib.hid (heap_below hb2 (by simp; omega) (heap_old _ _ l2 HB.out))
            have HW2 := Lib.hid (bt (HW.out.alloc HW.out.size _) hb2)
            have t0 := blk2_0 HT.out
            have t1 := blk2_1 HT.out
            have c0 := blk2_0 HB2.out
            have c1 := blk2_1 HB2.out
            have f0 := blk2_f HB2.out 0
            have f1 := blk2_f HB2.out 1
            clear hb2
            go_wp2_with fail
            refine (l06Size_c _ (mask32 _) _).mono ?_
            rintro e w' ⟨rfl, rfl⟩
            rw [pc_maskOf]
            go_wp2_with fail
            refine (l06Size_c _ (mask32 _) _).mono ?_
            rintro e w' ⟨rfl, rfl⟩
            rw [pc_maskOf]
            generalize hga : howMany (lowP xs k 5) 24 = a at *
            generalize hgb : howMany (highP xs k 5) 24 = b at *
            clear hga hgb
            go_wp2
            go_roundw
            case rel => exact ⟨k + 1, br, bz, few, by omega, by go_num, rfl, by rw [HN.out, if_neg (by omega)], HS2.out, HR2.out, HB2.out, HW2.out⟩
            case measure => simp [intOf]; omega
      · have hk61 : k = 61 := by omega
        subst hk61
        have c0 := blk2_0 HB.out
        have c1 := blk2_1 HB.out
        have d0 := blk2_0 HR.out
        have d1 := blk2_1 HR.out
        have f0 := blk2_f HR.out 0
        have f1 := blk2_f HR.out 1
        go_wp2
        exact bodyPost_ret (v := .tuple #[.agg #[.int .i8 br, .int .i8 bz], .int .i64 few, .int .i64 0]) (by simp [results, Try.results30, go_sem, blk2_0 (blk2 (c := .int .i8 br) (d := .int .i8 bz) HR.out), blk2_1 (blk2 (c := .int .i8 br) (d := .int .i8 bz) HR.out)]) rfl ⟨by rw [HV.out, HK.out], (HW.out.setCell (by simp) _).setCell (by simp) _⟩
set_option maxHeartbeats 1000000 in
theorem implBest_c (xs : List Int) (hs : Sc xs) (w : World) :
    Calls Try.prog 29 #[.agg (arr .i8 xs)] w fun e w' => e = .returned (.tuple #[.agg #[.int .i8 (bestV xs).1.1, .int .i8 (bestV xs).1.2.1], .int .i64 (bestV xs).1.2.2, .int .i64 (bestV xs).2]) ∧ Below w.heap.size w w' := by
  have HL := Lib.hid hs.1
  have H0 := Lib.hid (al2_0 w (.cells (arr .i8 xs) 27) (.cells #[.int .i8 0, .int .i8 0] 42))
  have R0 := Lib.hid (al2_1 w (.cells (arr .i8 xs) 27) (.cells #[.int .i8 0, .int .i8 0] 42))
  cases hok : okS xs
  · have HV : Hid (bestV xs = ((0, 0, 0), 1)) := Lib.hid (by simp [bestV, hok])
    have HO := Lib.hid hok
    clear hok
    go_enter Try.func29, Try.ntmps29
    go_wp2_with (refine wpList_load_row rfl 27 (.tmp 1) rfl _ rfl _ _ _ _ H0.out Try.underlying27 rfl (by rw [szScene, arr_size, HL.out]) ?_)
    refine (implValidScene_c xs hs _).mono ?_
    rintro e w1 ⟨rfl, hb1⟩
    rw [HO.out]
    have HW1 := Lib.hid (bt (bl2 _ _ _) hb1)
    have R1 := Lib.hid (heap_below hb1 (by simp) R0.out)
    have S1 := Lib.hid (heap_below hb1 (by simp <;> omega) H0.out)
    have rc0 := blk2_0 R1.out
    have rc1 := blk2_1 R1.out
    have rf0 := blk2_f R1.out 0
    have rf1 := blk2_f R1.out 1
    have hz1 : w.heap.size + 1 < w1.heap.size := Nat.lt_of_lt_of_le (by simp) hb1.size
    clear hb1
    go_wp2
    exact bodyPost_ret (v := .tuple #[.agg #[.int .i8 0, .int .i8 0], .int .i64 0, .int .i64 1]) (by simp [results, Try.results29, go_sem, rc0, rc1]) rfl ⟨by rw [HV.out], (HW1.out.setCell (by simp) _).setCell (by simp) _⟩
  · have HV : Hid (bestV xs = (bst xs 61, 0)) := Lib.hid (by simp [bestV, hok])
    have HO := Lib.hid hok
    have hok2 := hok
    clear hok
    go_enter Try.func29, Try.ntmps29
    go_wp2_with (refine wpList_load_row rfl 27 (.tmp 1) rfl _ rfl _ _ _ _ H0.out Try.underlying27 rfl (by rw [szScene, arr_size, HL.out]) ?_)
    refine (implValidScene_c xs hs _).mono ?_
    rintro e w1 ⟨rfl, hb1⟩
    rw [HO.out]
    have HW1 := Lib.hid (bt (bl2 _ _ _) hb1)
    have R1 := Lib.hid (heap_below hb1 (by simp) R0.out)
    have S1 := Lib.hid (heap_below hb1 (by simp <;> omega) H0.out)
    have rc0 := blk2_0 R1.out
    have rc1 := blk2_1 R1.out
    have rf0 := blk2_f R1.out 0
    have rf1 := blk2_f R1.out 1
    have hz1 : w.heap.size + 1 < w1.heap.size := Nat.lt_of_lt_of_le (by simp) hb1.size
    clear hb1
    go_wp2
    go_loopw [6, 7] (fun f i wr => ∃ (k : Nat) (br bz few : Int), k ≤ 61 ∧ i = .int .i8 k ∧ f = .int .i64 few ∧ bst xs k = (br, bz, few) ∧ wr.heap[w.heap.size]? = some (.cells (arr .i8 xs) 27 (0, 0)) ∧
        wr.heap[w.heap.size + 1]? = some (.cells #[.int .i8 0, .int .i8 0] 42 (0, 0)) ∧ wr.heap[w1.heap.size]? = some (.cells #[.int .i8 br, .int .i8 bz] 42 (0, 0)) ∧ Below w.heap.size w wr) (fun _ i _ => 61 - (intOf i).toNat)
    case atStart => exact ⟨0, 0, 0, -1, by omega, rfl, rfl, rfl, heap_old _ _ (by omega) S1.out, heap_old _ _ (by omega) R1.out, al1_0 _ _, HW1.out.alloc HW1.out.size _⟩
    case round =>
      obtain ⟨k, br, bz, few, hk, rfl, rfl, hbk, hS, hR, hB, hW⟩ := hrel
      have bb := bst_bd xs k
      rw [hbk] at bb
      obtain ⟨bb1, bb2⟩ := bb
      simp only at bb1 bb2
      have HK := Lib.hid hbk
      have HS := Lib.hid hS
      have HR := Lib.hid hR
      have HB := Lib.hid hB
      have HW := Lib.hid hW
      clear hbk hS hR hB hW
      by_cases hlt : k ≤ 60
      · have hlow := howMany_le (lowP xs k 5) 24
        have hhigh := howMany_le (highP xs k 5) 24
        have l0 := lt_of_heap HS.out
        have l1 := lt_of_heap HR.out
        have l2 := lt_of_heap HB.out
        have HN : Hid (bst xs (k + 1) = if few < 0 ∨ (((howMany (lowP xs k 5) 24 + howMany (highP xs k 5) 24 : Nat)) : Int) < few then ((k : Int), 5, (((howMany (lowP xs k 5) 24 + howMany (highP xs k 5) 24 : Nat)) : Int)) else (br, bz, few)) := Lib.hid (by
          simp only [bst, HK.out, offN])
        by_cases q1 : few < 0
        · go_wp2_with fail
          refine (isReading_c _ _).mono ?_
          rintro e w' ⟨rfl, rfl⟩
          rw [(rdB_iff _).2 ⟨by omega, by omega⟩]
          go_wp2_with (refine wpList_load_row rfl 27 (.tmp 1) rfl _ rfl _ _ _ _ (Lib.hid (heap_old (.cells #[.int .i8 k, .int .i8 5] 42) _ l0 HS.out)).out Try.underlying27 rfl (by rw [szScene, arr_size, HL.out]) ?_)
          refine (offScale_c xs hs hok2 k 5 ⟨by omega, by omega⟩ _).mono ?_
          rintro e w2 ⟨rfl, hb2⟩
          have HT := Lib.hid (heap_below hb2 (by simp) (al1_0 wr (.cells #[.int .i8 k, .int .i8 5] 42)))
          have HS2 := Lib.hid (heap_below hb2 (by simp; omega) (heap_old _ _ l0 HS.out))
          have HR2 := Lib.hid (heap_below hb2 (by simp; omega) (heap_old _ _ l1 HR.out))
          have HB2 := Lib.hid (heap_below hb2 (by simp; omega) (heap_old _ _ l2 HB.out))
          have HW2 := Lib.hid (bt (HW.out.alloc HW.out.size _) hb2)
          have t0 := blk2_0 HT.out
          have t1 := blk2_1 HT.out
          have c0 := blk2_0 HB2.out
          have c1 := blk2_1 HB2.out
          have f0 := blk2_f HB2.out 0
          have f1 := blk2_f HB2.out 1
          clear hb2
          go_wp2_with fail
          rw [or32 _ _ (mask32 _) (mask32 _)]
          refine (cellsOf_c _ (by rw [maskOf_or]; exact mask32 _) _).mono ?_
          rintro e w' ⟨rfl, rfl⟩
          rw [offN_or]
          unfold offN
          generalize hga : howMany (lowP xs k 5) 24 = a at *
          generalize hgb : howMany (highP xs k 5) 24 = b at *
          clear hga hgb
          go_wp2
          go_roundw
          case rel => exact ⟨k + 1, k, 5, ((a + b : Nat) : Int), by omega, by go_num, by go_num, by rw [HN.out, if_pos (by omega)], heap_far _ (by simp; omega) (heap_far _ (by simp; omega) HS2.out), heap_far _ (by simp; omega) (heap_far _ (by simp; omega) HR2.out), blk2 HB2.out, (HW2.out.setCell (by simp; omega) _).setCell (by simp; omega) _⟩
          case measure => simp [intOf]; omega
        · by_cases q2 : ((howMany (lowP xs k 5) 24 : Nat) : Int) + ((howMany (highP xs k 5) 24 : Nat) : Int) < few
          · go_wp2_with fail
            refine (isReading_c _ _).mono ?_
            rintro e w' ⟨rfl, rfl⟩
            rw [(rdB_iff _).2 ⟨by omega, by omega⟩]
            go_wp2_with (refine wpList_load_row rfl 27 (.tmp 1) rfl _ rfl _ _ _ _ (Lib.hid (heap_old (.cells #[.int .i8 k, .int .i8 5] 42) _ l0 HS.out)).out Try.underlying27 rfl (by rw [szScene, arr_size, HL.out]) ?_)
            refine (offScale_c xs hs hok2 k 5 ⟨by omega, by omega⟩ _).mono ?_
            rintro e w2 ⟨rfl, hb2⟩
            have HT := Lib.hid (heap_below hb2 (by simp) (al1_0 wr (.cells #[.int .i8 k, .int .i8 5] 42)))
            have HS2 := Lib.hid (heap_below hb2 (by simp; omega) (heap_old _ _ l0 HS.out))
            have HR2 := Lib.hid (heap_below hb2 (by simp; omega) (heap_old _ _ l1 HR.out))
            have HB2 := Lib.hid (heap_below hb2 (by simp; omega) (heap_old _ _ l2 HB.out))
            have HW2 := Lib.hid (bt (HW.out.alloc HW.out.size _) hb2)
            have t0 := blk2_0 HT.out
            have t1 := blk2_1 HT.out
            have c0 := blk2_0 HB2.out
            have c1 := blk2_1 HB2.out
            have f0 := blk2_f HB2.out 0
            have f1 := blk2_f HB2.out 1
            clear hb2
            go_wp2_with fail
            rw [or32 _ _ (mask32 _) (mask32 _)]
            refine (cellsOf_c _ (by rw [maskOf_or]; exact mask32 _) _).mono ?_
            rintro e w' ⟨rfl, rfl⟩
            rw [offN_or]
            unfold offN
            generalize hga : howMany (lowP xs k 5) 24 = a at *
            generalize hgb : howMany (highP xs k 5) 24 = b at *
            clear hga hgb
            go_wp2
            go_roundw
            case rel => exact ⟨k + 1, k, 5, ((a + b : Nat) : Int), by omega, by go_num, by go_num, by rw [HN.out, if_pos (by omega)], heap_far _ (by simp; omega) (heap_far _ (by simp; omega) HS2.out), heap_far _ (by simp; omega) (heap_far _ (by simp; omega) HR2.out), blk2 HB2.out, (HW2.out.setCell (by simp; omega) _).setCell (by simp; omega) _⟩
            case measure => simp [intOf]; omega
          · go_wp2_with fail
            refine (isReading_c _ _).mono ?_
            rintro e w' ⟨rfl, rfl⟩
            rw [(rdB_iff _).2 ⟨by omega, by omega⟩]
            go_wp2_with (refine wpList_load_row rfl 27 (.tmp 1) rfl _ rfl _ _ _ _ (Lib.hid (heap_old (.cells #[.int .i8 k, .int .i8 5] 42) _ l0 HS.out)).out Try.underlying27 rfl (by rw [szScene, arr_size, HL.out]) ?_)
            refine (offScale_c xs hs hok2 k 5 ⟨by omega, by omega⟩ _).mono ?_
            rintro e w2 ⟨rfl, hb2⟩
            have HT := Lib.hid (heap_below hb2 (by simp) (al1_0 wr (.cells #[.int .i8 k, .int .i8 5] 42)))
            have HS2 := Lib.hid (heap_below hb2 (by simp; omega) (heap_old _ _ l0 HS.out))
            have HR2 := Lib.hid (heap_below hb2 (by simp; omega) (heap_old _ _ l1 HR.out))
            have HB2 := Lib.hid (heap_below hb2 (by simp; omega) (heap_old _ _ l2 HB.out))
            have HW2 := Lib.hid (bt (HW.out.alloc HW.out.size _) hb2)
            have t0 := blk2_0 HT.out
            have t1 := blk2_1 HT.out
            have c0 := blk2_0 HB2.out
            have c1 := blk2_1 HB2.out
            have f0 := blk2_f HB2.out 0
            have f1 := blk2_f HB2.out 1
            clear hb2
            go_wp2_with fail
            rw [or32 _ _ (mask32 _) (mask32 _)]
            refine (cellsOf_c _ (by rw [maskOf_or]; exact mask32 _) _).mono ?_
            rintro e w' ⟨rfl, rfl⟩
            rw [offN_or]
            unfold offN
            generalize hga : howMany (lowP xs k 5) 24 = a at *
            generalize hgb : howMany (highP xs k 5) 24 = b at *
            clear hga hgb
            go_wp2
            go_roundw
            case rel => exact ⟨k + 1, br, bz, few, by omega, by go_num, rfl, by rw [HN.out, if_neg (by omega)], HS2.out, HR2.out, HB2.out, HW2.out⟩
            case measure => simp [intOf]; omega
      · have hk61 : k = 61 := by omega
        subst hk61
        have c0 := blk2_0 HB.out
        have c1 := blk2_1 HB.out
        have d0 := blk2_0 HR.out
        have d1 := blk2_1 HR.out
        have f0 := blk2_f HR.out 0
        have f1 := blk2_f HR.out 1
        go_wp2_with fail
        refine (isReading_c _ _).mono ?_
        rintro e w' ⟨rfl, rfl⟩
        rw [show rdB 61 = false from by decide]
        go_wp2
        exact bodyPost_ret (v := .tuple #[.agg #[.int .i8 br, .int .i8 bz], .int .i64 few, .int .i64 0]) (by simp [results, Try.results29, go_sem, blk2_0 (blk2 (c := .int .i8 br) (d := .int .i8 bz) HR.out), blk2_1 (blk2 (c := .int .i8 br) (d := .int .i8 bz) HR.out)]) rfl ⟨by rw [HV.out, HK.out], (HW.out.setCell (by simp) _).setCell (by simp) _⟩
end Go.Proofs.Ytmnidldpkkpeoaa
