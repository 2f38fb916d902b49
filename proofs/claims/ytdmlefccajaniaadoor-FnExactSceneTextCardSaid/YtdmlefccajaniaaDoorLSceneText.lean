/- SceneText: the law's walk. -/
import Derived.Test.YtdmlefccajaniaaDoorSceneI
namespace Go.Proofs.YtdmlefccajaniaaDoor
open Go.RowKit
def stV (xs : List Int) : ByteArray := if okS xs then scT xs 24 else ⟨#[]⟩
set_option maxHeartbeats 400000 in
theorem specSceneText_c (xs : List Int) (hs : Sc xs) (w : World) :
    Calls Tryd.prog 37 #[.agg (arr .i8 xs)] w fun e w' => e = .returned (.string (stV xs)) ∧ Below w.heap.size w w' := by
  have HS := Lib.hid hs
  have K := Lib.hid (al1_0 w (.cells (arr .i8 xs) 64))
  have HB := Lib.hid (bl1 w (.cells (arr .i8 xs) 64))
  cases hok : okS xs
  · have HV : Hid (stV xs = ⟨#[]⟩) := Lib.hid (by unfold stV; rw [hok]; rfl)
    have HO := Lib.hid hok
    clear hok hs
    go_enter Tryd.func37, Tryd.ntmps37
    go_wp2_with fail
    refine (l06Ok_c xs HS.out _ _ _ K.out).mono ?_
    rw [HO.out]
    rintro e w1 ⟨rfl, rfl⟩
    go_wp2
    go_ret
    exact ⟨by rw [HV.out] <;> rfl, HB.out⟩
  · have HV : Hid (stV xs = scT xs 24) := Lib.hid (by unfold stV; rw [hok]; rfl)
    have HO := Lib.hid hok
    clear hok hs
    go_enter Tryd.func37, Tryd.ntmps37
    go_wp2_with fail
    refine (l06Ok_c xs HS.out _ _ _ K.out).mono ?_
    rw [HO.out]
    rintro e w1 ⟨rfl, rfl⟩
    go_wp2_with fail
    refine (l06Text_c xs HS.out HO.out _ _ _ K.out).mono ?_
    generalize scT xs 24 = s at *
    rintro e w2 ⟨rfl, hb2⟩
    have HB2 := Lib.hid (bt HB.out hb2)
    clear hb2
    go_wp2
    go_ret
    exact ⟨by rw [HV.out] <;> rfl, HB2.out⟩
set_option maxHeartbeats 400000 in
theorem implSceneTextP_c (xs : List Int) (hs : Sc xs) (w : World) :
    Calls Tryd.prog 39 #[.agg (arr .i8 xs)] w fun e w' => e = .returned (.string (stV xs)) ∧ Below w.heap.size w w' := by
  have HS := Lib.hid hs
  have HL := Lib.hid hs.1
  have K := Lib.hid (al1_0 w (.cells (arr .i8 xs) 64))
  have HB := Lib.hid (bl1 w (.cells (arr .i8 xs) 64))
  cases hok : okS xs
  · have HV : Hid (stV xs = ⟨#[]⟩) := Lib.hid (by unfold stV; rw [hok]; rfl)
    have HO := Lib.hid hok
    clear hok hs
    go_enter Tryd.func39, Tryd.ntmps39
    go_wp2_with (refine wpList_load_row rfl 64 (.tmp 1) rfl _ rfl _ _ _ _ K.out Tryd.underlying64 rfl (by rw [szScene, arr_size, HL.out]) ?_)
    refine (implValidScene_c xs HS.out _).mono ?_
    rw [HO.out]
    rintro e w1 ⟨rfl, hb1⟩
    have HB1 := Lib.hid (bt HB.out hb1)
    clear hb1
    go_wp2
    go_ret
    exact ⟨by rw [HV.out] <;> rfl, HB1.out⟩
  · have HV : Hid (stV xs = scT xs 24) := Lib.hid (by unfold stV; rw [hok]; rfl)
    have HO := Lib.hid hok
    clear hok hs
    go_enter Tryd.func39, Tryd.ntmps39
    go_wp2_with (refine wpList_load_row rfl 64 (.tmp 1) rfl _ rfl _ _ _ _ K.out Tryd.underlying64 rfl (by rw [szScene, arr_size, HL.out]) ?_)
    refine (implValidScene_c xs HS.out _).mono ?_
    rw [HO.out]
    rintro e w1 ⟨rfl, hb1⟩
    have HB1 := Lib.hid (bt HB.out hb1)
    have K1 := Lib.hid (heap_below hb1 (lt_of_heap K.out) K.out)
    clear hb1
    go_wp2_with (refine wpList_load_row rfl 64 (.tmp 1) rfl _ rfl _ _ _ _ K1.out Tryd.underlying64 rfl (by rw [szScene, arr_size, HL.out]) ?_)
    refine (implSceneText_c xs HS.out HO.out _).mono ?_
    generalize scT xs 24 = s at *
    rintro e w2 ⟨rfl, hb2⟩
    have HB2 := Lib.hid (bt HB1.out hb2)
    clear hb2
    go_wp2
    go_ret
    exact ⟨by rw [HV.out] <;> rfl, HB2.out⟩
set_option maxHeartbeats 400000 in
theorem lawSceneText_c (xs : List Int) (hl : xs.length = 24) (hx : ∀ i, -128 ≤ xs.getD i 0 ∧ xs.getD i 0 ≤ 127) (w : World) :
    Calls Tryd.prog 5 #[.agg (arr .i8 xs)] w fun e w' => e = .returned (.bool true) ∧ Below w.heap.size w w' := by
  have HS : Hid (Sc xs) := Lib.hid ⟨hl, hx⟩
  have HL := Lib.hid hl
  have K := Lib.hid (al1_0 w (.cells (arr .i8 xs) 62))
  have HB := Lib.hid (bl1 w (.cells (arr .i8 xs) 62))
  clear hl hx
  go_enter Tryd.func5, Tryd.ntmps5
  go_wp2_with (refine wpList_load_row rfl 62 (.tmp 1) rfl _ rfl _ _ _ _ K.out Tryd.underlying62 rfl (by rw [szA24, arr_size, HL.out]) ?_)
  refine (toScene_c xs HS.out _).mono ?_
  rintro e w1 ⟨rfl, hb1⟩
  have K1 := Lib.hid (heap_below hb1 (lt_of_heap K.out) K.out)
  have HB1 := Lib.hid (bt HB.out hb1)
  clear hb1
  go_wp2_with fail
  refine (specSceneText_c xs HS.out _).mono ?_
  rintro e w2 ⟨rfl, hb2⟩
  have K2 := Lib.hid (heap_below hb2 (lt_of_heap K1.out) K1.out)
  have HB2 := Lib.hid (bt HB1.out hb2)
  clear hb2
  go_wp2_with (refine wpList_load_row rfl 62 (.tmp 1) rfl _ rfl _ _ _ _ K2.out Tryd.underlying62 rfl (by rw [szA24, arr_size, HL.out]) ?_)
  refine (toScene_c xs HS.out _).mono ?_
  rintro e w3 ⟨rfl, hb3⟩
  have HB3 := Lib.hid (bt HB2.out hb3)
  clear hb3
  go_wp2_with fail
  refine (implSceneTextP_c xs HS.out _).mono ?_
  generalize stV xs = s at *
  rintro e w4 ⟨rfl, hb4⟩
  have HB4 := Lib.hid (bt HB3.out hb4)
  clear hb4
  go_wp2
  go_ret
  exact ⟨rfl, HB4.out⟩
end Go.Proofs.YtdmlefccajaniaaDoor
