/- SceneText: the law's walk. -/
import Derived.Test.YtbafbfamjjmngaaGreatDoorSceneI
namespace Go.Proofs.YtbafbfamjjmngaaGreatDoor
open Go.RowKit
def sctV (xs : List Int) : ByteArray := if okS xs then scT xs 24 else ⟨#[]⟩
set_option maxHeartbeats 400000 in
theorem implSceneTextP_c (xs : List Int) (hs : Sc xs) (w : World) :
    Calls Tryz.prog 7 #[.agg (arr .i8 xs)] w fun e w' => e = .returned (.string (sctV xs)) ∧ Below w.heap.size w w' := by
  have HS := Lib.hid hs
  have HL := Lib.hid hs.1
  have K := Lib.hid (al1_0 w (.cells (arr .i8 xs) 26))
  have HB := Lib.hid (bl1 w (.cells (arr .i8 xs) 26))
  cases hok : okS xs
  · have HV : Hid (sctV xs = ⟨#[]⟩) := Lib.hid (by unfold sctV; rw [hok]; rfl)
    have HO := Lib.hid hok
    clear hok hs
    go_enter Tryz.func7, Tryz.ntmps7
    go_wp2_with (refine wpList_load_row rfl 26 (.tmp 1) rfl _ rfl _ _ _ _ K.out Tryz.underlying26 rfl (by rw [szScene, arr_size, HL.out]) ?_)
    refine (implValidScene_c xs HS.out _).mono ?_
    rw [HO.out]
    rintro e w1 ⟨rfl, hb1⟩
    have HB1 := Lib.hid (bt HB.out hb1)
    clear hb1
    go_wp2
    go_ret
    exact ⟨by rw [HV.out] <;> rfl, HB1.out⟩
  · have HV : Hid (sctV xs = scT xs 24) := Lib.hid (by unfold sctV; rw [hok]; rfl)
    have HO := Lib.hid hok
    clear hok hs
    go_enter Tryz.func7, Tryz.ntmps7
    go_wp2_with (refine wpList_load_row rfl 26 (.tmp 1) rfl _ rfl _ _ _ _ K.out Tryz.underlying26 rfl (by rw [szScene, arr_size, HL.out]) ?_)
    refine (implValidScene_c xs HS.out _).mono ?_
    rw [HO.out]
    rintro e w1 ⟨rfl, hb1⟩
    have HB1 := Lib.hid (bt HB.out hb1)
    have K1 := Lib.hid (heap_below hb1 (lt_of_heap K.out) K.out)
    clear hb1
    go_wp2_with (refine wpList_load_row rfl 26 (.tmp 1) rfl _ rfl _ _ _ _ K1.out Tryz.underlying26 rfl (by rw [szScene, arr_size, HL.out]) ?_)
    refine (implSceneText_c xs HS.out HO.out _).mono ?_
    generalize scT xs 24 = s at *
    rintro e w2 ⟨rfl, hb2⟩
    have HB2 := Lib.hid (bt HB1.out hb2)
    clear hb2
    go_wp2
    go_ret
    exact ⟨by rw [HV.out] <;> rfl, HB2.out⟩
end Go.Proofs.YtbafbfamjjmngaaGreatDoor
