/- RepairCells: the law's walk. -/
import Derived.Test.YtmnidldpkkpeoaaDoorLRepair
import Derived.Test.YtmnidldpkkpeoaaDoorStoreArr
namespace Go.Proofs.YtmnidldpkkpeoaaDoor
open Go.RowKit Go.Lib
set_option maxHeartbeats 2000000 in
set_option maxRecDepth 100000 in
theorem lawRepairCells_c (xs : List Int) (hl : xs.length = 64) (hx : I16 xs) (M : Nat) (hM : M < 2 ^ 64) (w : World) (hT : TabAt w) :
    Calls Tryd.prog 7 #[.agg (arr .i16 xs), .int .u64 M] w fun e w' => e = .returned (.bool true) ∧ Below w.heap.size w w' := by
  have hs : Pr xs := ⟨hl, hx⟩
  have HS := Lib.hid hs
  have HM := Lib.hid hM
  have HT := Lib.hid hT
  have HPr := Lib.hid (rcV_Pr (M := M) hs)
  have HLx : Hid ((arr .i16 xs).size = 64) := Lib.hid (by rw [arr_size, hl])
  have HRc : Hid ((rcV xs M).1.length = 64) := Lib.hid HPr.out.1
  have HB0 := Lib.hid (al1_0 w (.cells (arr .i16 xs) 34))
  have HW0 := Lib.hid (bl1 w (.cells (arr .i16 xs) 34))
  clear hs hl hx hM hT
  go_enter Tryd.func7, Tryd.ntmps7
  go_wp2_with (refine wpList_load_row rfl 34 (.tmp 2) rfl w.heap.size rfl _ _ _ _ HB0.out Tryd.underlying34 rfl (by rw [szA64, HLx.out]) ?_; generalize (w.alloc (.cells (arr .i16 xs) 34)) = w0 at *)
  refine (toPrint_c xs HS.out _).mono ?_
  rintro e w1 ⟨rfl, hb1⟩
  have HW1 := Lib.hid (bt HW0.out hb1)
  have HB1 := Lib.hid (heap_below hb1 (lt_of_heap HB0.out) HB0.out)
  clear hb1
  go_wp2_with fail
  refine (specRC_c xs HS.out M HM.out _).mono ?_
  generalize hR : rcV xs M = R at *
  obtain ⟨P, r, c⟩ := R
  have HRe := Lib.hid hR
  clear hR
  rintro e w2 ⟨rfl, hb2⟩
  have HW2 := Lib.hid (bt HW1.out hb2)
  have HB2 := Lib.hid (heap_below hb2 (lt_of_heap HB1.out) HB1.out)
  have hsz : (arr .i16 P).size = 64 := by rw [arr_size, HRc.out]
  clear hb2
  go_upto_region 2 with (rw [z64_Z]; refine wpList_store_row rfl 35 (.tmp 5) (.tmp 16) rfl w2.heap.size (arr .i16 P) rfl rfl 35 (arr .i16 Z64) (al1_0 _ _) (by rw [szPrint, hsz]) (by rw [hsz, arr_size, Z64_length]) (arr_one _ _) ?_)
  have HG5 := Lib.hid (setRow_heap (w2.alloc (.cells (arr .i16 Z64) 35)) w2.heap.size _ (arr .i16 P) 35 (0, 0) (al1_0 _ _))
  have HW3 := Lib.hid (below_setRow (bal HW2.out (.cells (arr .i16 Z64) 35)) HW2.out.size (arr .i16 P))
  have HB3 : Hid (((w2.alloc (.cells (arr .i16 Z64) 35)).setRow w2.heap.size (arr .i16 P)).heap[w.heap.size]? = _) := Lib.hid (heap_below (below_setRow (bl1 w2 (.cells (arr .i16 Z64) 35)) (Nat.le_refl _) (arr .i16 P)) (lt_of_heap HB2.out) HB2.out)
  generalize (w2.alloc (.cells (arr .i16 Z64) 35)).setRow w2.heap.size (arr .i16 P) = w3 at *
  generalize w2.heap.size = g5 at *
  go_wp2_with (refine wpList_load_row rfl 34 (.tmp 2) rfl w.heap.size rfl _ _ _ _ HB3.out Tryd.underlying34 rfl (by rw [szA64, HLx.out]) ?_)
  refine (toPrint_c xs HS.out _).mono ?_
  rintro e w4 ⟨rfl, hb4⟩
  have HW4 := Lib.hid (bt HW3.out hb4)
  have HG54 := Lib.hid (heap_below hb4 (lt_of_heap HG5.out) HG5.out)
  clear hb4
  go_wp2_with fail
  have HT4 := Lib.hid (TabAt_bl HW4.out HT.out)
  refine (implRC_c xs HS.out M HM.out _ HT4.out).mono ?_
  rw [HRe.out]
  rintro e w5 ⟨rfl, hb5⟩
  have HW5 := Lib.hid (bt HW4.out hb5)
  have HG55 := Lib.hid (heap_below hb5 (lt_of_heap HG54.out) HG54.out)
  clear hb5
  go_upto_region 3 with (rw [z64_Z]; refine wpList_store_row rfl 35 (.tmp 8) (.tmp 24) rfl w5.heap.size (arr .i16 P) rfl rfl 35 (arr .i16 Z64) (al1_0 _ _) (by rw [szPrint, hsz]) (by rw [hsz, arr_size, Z64_length]) (arr_one _ _) ?_)
  have HG8 := Lib.hid (setRow_heap (w5.alloc (.cells (arr .i16 Z64) 35)) w5.heap.size _ (arr .i16 P) 35 (0, 0) (al1_0 _ _))
  have HW6 := Lib.hid (below_setRow (bal HW5.out (.cells (arr .i16 Z64) 35)) HW5.out.size (arr .i16 P))
  have HG56 : Hid (((w5.alloc (.cells (arr .i16 Z64) 35)).setRow w5.heap.size (arr .i16 P)).heap[g5]? = _) := Lib.hid (heap_below (below_setRow (bl1 w5 (.cells (arr .i16 Z64) 35)) (Nat.le_refl _) (arr .i16 P)) (lt_of_heap HG55.out) HG55.out)
  generalize (w5.alloc (.cells (arr .i16 Z64) 35)).setRow w5.heap.size (arr .i16 P) = w6 at *
  generalize w5.heap.size = g8 at *
  have e1 : ((r : Int) != (r : Int)) = false := by simp
  have e2 : (c != c) = false := by simp
  go_wp2_with (first
    | (refine wpList_load_row rfl 35 (.tmp 8) rfl g8 rfl _ _ _ _ HG8.out Tryd.underlying35 rfl (by rw [szPrint, hsz]) ?_)
    | (refine wpList_load_row rfl 35 (.tmp 5) rfl g5 rfl _ _ _ _ HG56.out Tryd.underlying35 rfl (by rw [szPrint, hsz]) ?_)
    | (go_at_call 24; refine (eqPrint_same P HRc.out _).mono ?_; rintro e w9 ⟨rfl, hb9⟩; have HB9 := Lib.hid hb9; clear hb9))
  go_ret
  exact ⟨rfl, bt HW6.out HB9.out⟩
theorem lawRepairCells_d (xs : List Int) (hl : xs.length = 64) (hx : I16 xs) (a : Int) (h : 0 ≤ a ∧ a ≤ 18446744073709551615) (w : World) (hT : TabAt w) :
    Calls Tryd.prog 7 #[.agg (arr .i16 xs), .int .u64 a] w fun e w' => e = .returned (.bool true) ∧ Below w.heap.size w w' := by
  obtain ⟨m, rfl⟩ := Int.eq_ofNat_of_zero_le h.1
  exact lawRepairCells_c xs hl hx m (by omega) w hT
end Go.Proofs.YtmnidldpkkpeoaaDoor
