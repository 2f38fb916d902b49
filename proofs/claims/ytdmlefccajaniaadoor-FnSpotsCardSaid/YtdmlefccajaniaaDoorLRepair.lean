/- The repair of cells: the laws' walks. -/
import Derived.Test.YtdmlefccajaniaaDoorRepD
namespace Go.Proofs.YtdmlefccajaniaaDoor
open Go.RowKit Go.Lib
theorem okP_Z64 : okP Z64 = true := by simp [okP, Z64, dnB]
theorem TabAt_bl {w w1 : World} (hb : Below w.heap.size w w1) (h : TabAt w) : TabAt w1 := TabAt_below hb (TabAt_pos h) h
set_option maxHeartbeats 2000000 in
set_option maxRecDepth 100000 in
theorem implRF_c (M : Nat) (hM : M < 2 ^ 64) (w : World) (hT : TabAt w) :
    Calls Tryd.prog 21 #[.int .u64 M] w fun e w' => e = .returned (.tuple #[.int .i64 (rcV Z64 M).2.1, .int .i64 (rcV Z64 M).2.2]) ∧ Below w.heap.size w w' := by
  have HM := Lib.hid hM
  have HT := Lib.hid hT
  have H00 := Lib.hid (TabAt_pos hT)
  have hsz : (arr .i16 Z64).size = 64 := by rw [arr_size, Z64_length]
  clear hM hT
  go_enter Tryd.func21, Tryd.ntmps21
  go_upto_region 2 with (rw [z64_Z]; refine wpList_store_row rfl 37 (.tmp 4) (.tmp 5) rfl w.heap.size (arr .i16 Z64) rfl rfl 37 (arr .i16 Z64) (al1_0 _ _) (by rw [szPrint, hsz]) rfl (arr_one _ _) ?_)
  have HG := Lib.hid (setRow_heap (w.alloc (.cells (arr .i16 Z64) 37)) w.heap.size _ (arr .i16 Z64) 37 (0, 0) (al1_0 _ _))
  have HB1 := Lib.hid (below_setRow (bl1 w (.cells (arr .i16 Z64) 37)) (Nat.le_refl _) (arr .i16 Z64))
  generalize (w.alloc (.cells (arr .i16 Z64) 37)).setRow w.heap.size (arr .i16 Z64) = w1 at *
  by_cases hf : M = 18446744073709551615
  · have HV : Hid (rcV Z64 M = (Z64, 0, 6)) := Lib.hid (by rw [hf]; exact rcV_full okP_Z64)
    have hMi : (M : Int) = 18446744073709551615 := by omega
    rw [hMi]
    go_wp2_with fail
    refine (implAllFull_c w.heap.size _).mono ?_
    rintro e w' ⟨rfl, rfl⟩
    go_wp2
    go_ret2
    exact ⟨by rw [HV.out] <;> rfl, HB1.out⟩
  · have HV := Lib.hid (rcV_ok okP_Z64 hf)
    have HC := Lib.hid (implAll_c Z64 Z64_Pr (okP_get okP_Z64) M HM.out hf w.heap.size w.heap.size w1 (TabAt_of_base HB1.out H00.out HT.out) (Nat.le_refl _) HG.out H00.out)
    clear hf
    go_wp2_with fail
    refine (HC.out).mono ?_
    generalize ra 65 Z64 M 0 = R at *
    obtain ⟨P, r⟩ := R
    rintro e w2 ⟨rfl, _, hb2⟩
    have HW2 := Lib.hid (HB1.out.trans hb2.1)
    clear hb2 HC
    go_wp2
    go_ret2
    exact ⟨by rw [HV.out] <;> rfl, HW2.out⟩
end Go.Proofs.YtdmlefccajaniaaDoor
