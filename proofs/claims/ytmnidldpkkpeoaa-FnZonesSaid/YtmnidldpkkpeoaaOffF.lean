/- The code of a scene and a placement; OffScale. -/
import Derived.Test.YtmnidldpkkpeoaaOff
namespace Go.Proofs.Ytmnidldpkkpeoaa
open Go.RowKit
def bothV (xs : List Int) (r z : Int) : Int := if okS xs && plB r z then 0 else 1
theorem l06Both_c (xs : List Int) (hs : Sc xs) (r z : Int) (hr : -128 ≤ r ∧ r ≤ 127) (hz : -128 ≤ z ∧ z ≤ 127) (g : Nat) (t : TypeId) (w : World) (hg : w.heap[g]? = some (.cells (arr .i8 xs) t (0, 0))) :
    Calls Try.prog 59 #[.pointer (some ⟨g, 0, none⟩), .agg #[.int .i8 r, .int .i8 z]] w fun e w' => e = .returned (.int .i64 (bothV xs r z)) ∧ Below w.heap.size w w' := by
  have HG := Lib.hid (heap_old (.cells #[.int .i8 r, .int .i8 z] 42) _ (lt_of_heap hg) hg)
  clear hg
  cases hok : okS xs
  · have HV : Hid (bothV xs r z = 1) := Lib.hid (by simp [bothV, hok])
    have HO := Lib.hid hok
    clear hok
    go_enter Try.func59, Try.ntmps59
    go_wp2_with fail
    refine (l06Ok_c xs hs _ _ _ HG.out).mono ?_
    rintro e w' ⟨rfl, rfl⟩
    rw [HO.out]
    go_wp2
    go_ret
    exact ⟨by rw [HV.out] <;> rfl, bl1 _ _⟩
  · cases hp : plB r z
    all_goals
      have HO := Lib.hid hok
      have HP := Lib.hid hp
      have HV := Lib.hid (show bothV xs r z = if okS xs && plB r z then 0 else 1 from rfl)
      clear hok hp
      go_enter Try.func59, Try.ntmps59
      go_wp2_with fail
      refine (l06Ok_c xs hs _ _ _ HG.out).mono ?_
      rintro e w' ⟨rfl, rfl⟩
      rw [HO.out]
      go_wp2_with fail
      refine (l06Placement_c r z hr hz _).mono ?_
      rintro e w1 ⟨rfl, hb1⟩
      rw [HP.out]
      go_wp2
      go_ret
      exact ⟨by rw [HV.out, HO.out, HP.out] <;> rfl, bt (bl1 _ _) hb1⟩
theorem placeCode_c (xs : List Int) (hs : Sc xs) (r z : Int) (hr : -128 ≤ r ∧ r ≤ 127) (hz : -128 ≤ z ∧ z ≤ 127) (w : World) :
    Calls Try.prog 57 #[.agg (arr .i8 xs), .agg #[.int .i8 r, .int .i8 z]] w fun e w' => e = .returned (.int .i64 (bothV xs r z)) ∧ Below w.heap.size w w' := by
  have HL := Lib.hid hs.1
  have H0 := Lib.hid (al2_0 w (.cells (arr .i8 xs) 27) (.cells #[.int .i8 r, .int .i8 z] 42))
  cases hok : okS xs
  · have HV : Hid (bothV xs r z = 1) := Lib.hid (by simp [bothV, hok])
    have HO := Lib.hid hok
    clear hok
    go_enter Try.func57, Try.ntmps57
    go_wp2_with (refine wpList_load_row rfl 27 (.tmp 2) rfl _ rfl _ _ _ _ H0.out Try.underlying27 rfl (by rw [szScene, arr_size, HL.out]) ?_)
    refine (implValidScene_c xs hs _).mono ?_
    rintro e w1 ⟨rfl, hb1⟩
    rw [HO.out]
    go_wp2
    go_ret
    exact ⟨by rw [HV.out] <;> rfl, bt (bl2 _ _ _) hb1⟩
  · cases hp : plB r z
    all_goals
      have HO := Lib.hid hok
      have HP := Lib.hid hp
      have HV := Lib.hid (show bothV xs r z = if okS xs && plB r z then 0 else 1 from rfl)
      clear hok hp
      go_enter Try.func57, Try.ntmps57
      go_wp2_with (refine wpList_load_row rfl 27 (.tmp 2) rfl _ rfl _ _ _ _ H0.out Try.underlying27 rfl (by rw [szScene, arr_size, HL.out]) ?_)
      refine (implValidScene_c xs hs _).mono ?_
      rintro e w1 ⟨rfl, hb1⟩
      rw [HO.out]
      obtain ⟨hc1, hf1⟩ := bcell hb1
      go_wp2_with fail
      refine (isPlacement_c r z hr hz _).mono ?_
      rintro e w2 ⟨rfl, hb2⟩
      rw [HP.out]
      go_wp2
      go_ret
      exact ⟨by rw [HV.out, HO.out, HP.out] <;> rfl, bt (bt (bl2 _ _ _) hb1) hb2⟩
theorem both_split {xs : List Int} {r z : Int} (h : bothV xs r z = 0) : okS xs = true ∧ Pl r z := by
  unfold bothV at h
  split at h
  · rename_i hb
    simp only [Bool.and_eq_true] at hb
    exact ⟨hb.1, (plB_iff r z).1 hb.2⟩
  · cases h
/-- What OffScale returns. -/
def offV (xs : List Int) (r z : Int) : Nat × Nat × Int := if bothV xs r z = 0 then (maskOf (lowP xs r z) 24, maskOf (highP xs r z) 24, 0) else (0, 0, 1)
theorem both_01 (xs : List Int) (r z : Int) : bothV xs r z = 0 ∨ bothV xs r z = 1 := by unfold bothV; split <;> simp
set_option maxHeartbeats 400000 in
theorem implOffScale_c (xs : List Int) (hs : Sc xs) (r z : Int) (hr : -128 ≤ r ∧ r ≤ 127) (hz : -128 ≤ z ∧ z ≤ 127) (w : World) :
    Calls Try.prog 27 #[.agg (arr .i8 xs), .agg #[.int .i8 r, .int .i8 z]] w fun e w' => e = .returned (.tuple #[.int .u32 ((offV xs r z).1 : Nat), .int .u32 ((offV xs r z).2.1 : Nat), .int .i64 (offV xs r z).2.2]) ∧ Below w.heap.size w w' := by
  have HL := Lib.hid hs.1
  have H0 := Lib.hid (al2_0 w (.cells (arr .i8 xs) 27) (.cells #[.int .i8 r, .int .i8 z] 42))
  rcases both_01 xs r z with hb | hb
  · have HV : Hid (offV xs r z = (maskOf (lowP xs r z) 24, maskOf (highP xs r z) 24, 0)) := Lib.hid (by simp [offV, hb])
    obtain ⟨hk1, hk2⟩ := both_split hb
    have HB := Lib.hid hb
    clear hb
    go_enter Try.func27, Try.ntmps27
    go_wp2_with (refine wpList_load_row rfl 27 (.tmp 2) rfl _ rfl _ _ _ _ H0.out Try.underlying27 rfl (by rw [szScene, arr_size, HL.out]) ?_)
    refine (placeCode_c xs hs r z hr hz _).mono ?_
    rintro e w1 ⟨rfl, hb1⟩
    rw [HB.out]
    obtain ⟨hc1, hf1⟩ := bcell hb1
    have H1 := Lib.hid (heap_below hb1 (by simp <;> omega) H0.out)
    go_wp2_with (refine wpList_load_row rfl 27 (.tmp 2) rfl _ rfl _ _ _ _ H1.out Try.underlying27 rfl (by rw [szScene, arr_size, HL.out]) ?_)
    refine (offScale_c xs hs hk1 r z hk2 _).mono ?_
    rintro e w2 ⟨rfl, hb2⟩
    go_wp2
    go_ret3
    exact ⟨by rw [HV.out] <;> rfl, bt (bt (bl2 _ _ _) hb1) hb2⟩
  · have HV : Hid (offV xs r z = (0, 0, 1)) := Lib.hid (by simp [offV, hb])
    have HB := Lib.hid hb
    clear hb
    go_enter Try.func27, Try.ntmps27
    go_wp2_with (refine wpList_load_row rfl 27 (.tmp 2) rfl _ rfl _ _ _ _ H0.out Try.underlying27 rfl (by rw [szScene, arr_size, HL.out]) ?_)
    refine (placeCode_c xs hs r z hr hz _).mono ?_
    rintro e w1 ⟨rfl, hb1⟩
    rw [HB.out]
    go_wp2
    go_ret3
    exact ⟨by rw [HV.out] <;> rfl, bt (bl2 _ _ _) hb1⟩
end Go.Proofs.Ytmnidldpkkpeoaa
