/- MedianReading: the program's and the reference's. -/
import Derived.Test.YtbafbfamjjmngaaGreatDoorSoWalk0
import Derived.Test.YtbafbfamjjmngaaGreatDoorSorted
namespace Go.Proofs.YtbafbfamjjmngaaGreatDoor
open Go.RowKit Go.Lib
theorem srt_eq (xs : List Int) (hok : okS xs = true) : srt xs = sortN xs 61 := by
  have h1 : (srt xs).Pairwise (· ≤ ·) := by
    have := List.pairwise_mergeSort (le := fun x y : Int => decide (x ≤ y)) (by intro a b c; simp; omega) (by intro a b; simp; omega) xs
    exact this.imp (by intro a b h; simpa using h)
  have h2 : (srt xs).Perm (sortN xs 61) := (List.mergeSort_perm xs _).trans (sortN_perm xs hok).symm
  exact h2.eq_of_pairwise (le := (· ≤ ·)) (fun a b _ _ h1 h2 => Int.le_antisymm h1 h2) h1 (sortN_sorted xs 61)
def medRV (xs : List Int) : Int × Int := if okS xs then ((sortN xs 61).getD 11 0, 0) else (0, 1)
theorem sortN_bd {xs : List Int} (hl : xs.length = 24) (hok : okS xs = true) (i : Nat) (hi : i < 24) : 0 ≤ (sortN xs 61).getD i 0 ∧ (sortN xs 61).getD i 0 ≤ 60 := by
  have h1 : (sortN xs 61).getD i 0 ∈ sortN xs 61 := getD_mem (by rw [sortN_len24 xs hl hok]; exact hi)
  have h2 : (sortN xs 61).getD i 0 ∈ xs := (sortN_perm xs hok).mem_iff.1 h1
  obtain ⟨j, hj, he⟩ := mem_getD h2
  rw [← he]
  exact okS_get hok j
set_option maxHeartbeats 400000 in
theorem implMedR_c (xs : List Int) (hs : Sc xs) (w : World) :
    Calls Tryz.prog 11 #[.agg (arr .i8 xs)] w fun e w' => e = .returned (.tuple #[.int .i64 (medRV xs).1, .int .i64 (medRV xs).2]) ∧ Below w.heap.size w w' := by
  have HL := Lib.hid hs.1
  have H0 := Lib.hid (al1_0 w (.cells (arr .i8 xs) 26))
  cases hok : okS xs
  · have HV : Hid (medRV xs = (0, 1)) := Lib.hid (by simp [medRV, hok])
    have HO := Lib.hid hok
    clear hok
    go_enter Tryz.func11, Tryz.ntmps11
    go_wp2_with (refine wpList_load_row rfl 26 (.tmp 1) rfl _ rfl _ _ _ _ H0.out Tryz.underlying26 rfl (by rw [szScene, arr_size, HL.out]) ?_)
    refine (implValidScene_c xs hs _).mono ?_
    rintro e w1 ⟨rfl, hb1⟩
    rw [HO.out]
    go_wp2
    go_ret2
    exact ⟨by rw [HV.out] <;> rfl, bt (bl1 _ _) hb1⟩
  · have HV : Hid (medRV xs = ((sortN xs 61).getD 11 0, 0)) := Lib.hid (by simp [medRV, hok])
    obtain ⟨m1, m2⟩ := sortN_bd hs.1 hok 11 (by omega)
    have HE := Lib.hid (srt_eq xs hok)
    have HSL := Lib.hid (sortN_len24 xs hs.1 hok)
    have HO := Lib.hid hok
    clear hok
    go_enter Tryz.func11, Tryz.ntmps11
    go_wp2_with (refine wpList_load_row rfl 26 (.tmp 1) rfl _ rfl _ _ _ _ H0.out Tryz.underlying26 rfl (by rw [szScene, arr_size, HL.out]) ?_)
    refine (implValidScene_c xs hs _).mono ?_
    rintro e w1 ⟨rfl, hb1⟩
    rw [HO.out]
    have H1 := Lib.hid (heap_below hb1 (by simp) H0.out)
    have hB1 := bt (bl1 _ _) hb1
    clear hb1 H0
    go_wp2_with fail
    refine (sort8_c xs _ 24 24 26 HL.out.symm (by omega) _ H1.out).mono ?_
    rintro e w2 ⟨rfl, h2, hb2⟩
    rw [HE.out] at h2
    have hc := arr_cell h2 11 (by rw [HSL.out]; omega)
    have hB2 := hB1.trans hb2
    clear h2 hb2 hB1 H1
    generalize (sortN xs 61).getD 11 0 = A at *
    have hwA := Go.IntWalk.i64_in A (by omega)
    go_wp2
    go_ret2
    exact ⟨by rw [HV.out] <;> rfl, hB2⟩
end Go.Proofs.YtbafbfamjjmngaaGreatDoor
namespace Go.Proofs.YtbafbfamjjmngaaGreatDoor
open Go.RowKit Go.Lib
def inB (n lo hi : Int) : Bool := decide (lo ≤ n) && decide (n ≤ hi)
/-- Without so many of the darkest and of the brightest cells. -/
def conV (xs : List Int) (a b : Int) : Int × Int := if okS xs then (if inB a 0 23 && inB b 0 (23 - a) then ((sortN xs 61).getD (23 - b).toNat 0 - (sortN xs 61).getD a.toNat 0, 0) else (0, 2)) else (0, 1)
theorem conV_bad (xs : List Int) (a b : Int) (h : okS xs = false) : conV xs a b = (0, 1) := by simp [conV, h]
theorem conV_out (xs : List Int) (a b : Int) (h : okS xs = true) (h2 : (inB a 0 23 && inB b 0 (23 - a)) = false) : conV xs a b = (0, 2) := by
  unfold conV; rw [h, h2]; rfl
theorem conV_in (xs : List Int) (a b : Nat) (h : okS xs = true) (h2 : a + b ≤ 23) : conV xs a b = ((sortN xs 61).getD (23 - b) 0 - (sortN xs 61).getD a 0, 0) := by
  have h3 : (inB a 0 23 && inB b 0 (23 - a)) = true := by simp [inB]; omega
  unfold conV; rw [h, h3]
  have e : ((23 : Int) - (b : Int)).toNat = 23 - b := by omega
  simp [e]
set_option maxHeartbeats 400000 in
theorem implConR_c (xs : List Int) (hs : Sc xs) (a b : Int) (w : World) :
    Calls Tryz.prog 18 #[.agg (arr .i8 xs), .int .i64 a, .int .i64 b] w fun e w' => e = .returned (.tuple #[.int .i64 (conV xs a b).1, .int .i64 (conV xs a b).2]) ∧ Below w.heap.size w w' := by
  have HL := Lib.hid hs.1
  have H0 := Lib.hid (al1_0 w (.cells (arr .i8 xs) 26))
  cases hok : okS xs
  · have HV := Lib.hid (conV_bad xs a b hok)
    have HO := Lib.hid hok
    clear hok
    go_enter Tryz.func18, Tryz.ntmps18
    go_wp2_with (refine wpList_load_row rfl 26 (.tmp 3) rfl _ rfl _ _ _ _ H0.out Tryz.underlying26 rfl (by rw [szScene, arr_size, HL.out]) ?_)
    refine (implValidScene_c xs hs _).mono ?_
    rintro e w1 ⟨rfl, hb1⟩
    rw [HO.out]
    have H1 := Lib.hid (heap_below hb1 (by simp) H0.out)
    have hB1 := bt (bl1 _ _) hb1
    clear hb1
    go_wp2
    go_ret2
    exact ⟨by rw [HV.out] <;> rfl, hB1⟩
  have HO := Lib.hid hok
  cases ha : inB a 0 23
  · have HV := Lib.hid (conV_out xs a b hok (by rw [ha]; rfl))
    unfold inB at ha
    have HA := Lib.hid ha
    clear hok ha
    go_enter Tryz.func18, Tryz.ntmps18
    go_wp2_with (refine wpList_load_row rfl 26 (.tmp 3) rfl _ rfl _ _ _ _ H0.out Tryz.underlying26 rfl (by rw [szScene, arr_size, HL.out]) ?_)
    refine (implValidScene_c xs hs _).mono ?_
    rintro e w1 ⟨rfl, hb1⟩
    rw [HO.out]
    have H1 := Lib.hid (heap_below hb1 (by simp) H0.out)
    have hB1 := bt (bl1 _ _) hb1
    clear hb1
    go_wp2_with (go_at_call 34; refine (within_c _ _ _ _).mono ?_; rintro e w' ⟨rfl, rfl⟩; first | rw [HA.out] | rw [HA.out])
    go_ret2
    exact ⟨by rw [HV.out] <;> rfl, hB1⟩
  have ha' : 0 ≤ a ∧ a ≤ 23 := by simpa [inB] using ha
  obtain ⟨i, rfl⟩ := Int.eq_ofNat_of_zero_le ha'.1
  have hi : i ≤ 23 := by omega
  cases hb : inB b 0 (23 - (i : Int))
  · have HV := Lib.hid (conV_out xs i b hok (by rw [ha, hb]; rfl))
    unfold inB at ha hb
    have HA := Lib.hid ha
    have HB := Lib.hid hb
    clear hok ha hb ha'
    go_enter Tryz.func18, Tryz.ntmps18
    go_wp2_with (refine wpList_load_row rfl 26 (.tmp 3) rfl _ rfl _ _ _ _ H0.out Tryz.underlying26 rfl (by rw [szScene, arr_size, HL.out]) ?_)
    refine (implValidScene_c xs hs _).mono ?_
    rintro e w1 ⟨rfl, hb1⟩
    rw [HO.out]
    have H1 := Lib.hid (heap_below hb1 (by simp) H0.out)
    have hB1 := bt (bl1 _ _) hb1
    clear hb1
    go_wp2_with (go_at_call 34; refine (within_c _ _ _ _).mono ?_; rintro e w' ⟨rfl, rfl⟩; first | rw [HA.out] | rw [HB.out])
    go_ret2
    exact ⟨by rw [HV.out] <;> rfl, hB1⟩
  have hb' : 0 ≤ b ∧ b ≤ 23 - (i : Int) := by simpa [inB] using hb
  obtain ⟨k, rfl⟩ := Int.eq_ofNat_of_zero_le hb'.1
  have hk : i + k ≤ 23 := by omega
  have HV := Lib.hid (conV_in xs i k hok hk)
  obtain ⟨m1, m2⟩ := sortN_bd hs.1 hok (23 - k) (by omega)
  obtain ⟨m3, m4⟩ := sortN_bd hs.1 hok i (by omega)
  have HE := Lib.hid (srt_eq xs hok)
  have hlen := sortN_len24 xs hs.1 hok
  unfold inB at ha hb
  have HA := Lib.hid ha
  have HB := Lib.hid hb
  have hk23 : (23 : Int) - (k : Int) = ((23 - k : Nat) : Int) := by omega
  have hi24 : (i : Int) < 24 := by omega
  have hk24 : ((23 - k : Nat) : Int) < 24 := by omega
  clear hok ha hb ha' hb'
  go_enter Tryz.func18, Tryz.ntmps18
  go_wp2_with (refine wpList_load_row rfl 26 (.tmp 3) rfl _ rfl _ _ _ _ H0.out Tryz.underlying26 rfl (by rw [szScene, arr_size, HL.out]) ?_)
  refine (implValidScene_c xs hs _).mono ?_
  rintro e w1 ⟨rfl, hb1⟩
  rw [HO.out]
  have H1 := Lib.hid (heap_below hb1 (by simp) H0.out)
  have hB1 := bt (bl1 _ _) hb1
  clear hb1
  go_wp2_with (go_at_call 34; refine (within_c _ _ _ _).mono ?_; rintro e w' ⟨rfl, rfl⟩; first | rw [HA.out] | rw [HB.out])
  refine (sort8_c xs _ 24 24 26 HL.out.symm (by omega) _ H1.out).mono ?_
  rintro e w2 ⟨rfl, h2, hb2⟩
  rw [HE.out] at h2
  have hc := arr_cell h2 (23 - k) (by rw [hlen]; omega)
  have hd := arr_cell h2 i (by rw [hlen]; omega)
  have hB2 := hB1.trans hb2
  clear h2 hb2 hB1 H1 H0
  generalize (sortN xs 61).getD (23 - k) 0 = A at *
  generalize (sortN xs 61).getD i 0 = B at *
  have hwA := Go.IntWalk.i64_in A (by omega)
  have hwB := Go.IntWalk.i64_in B (by omega)
  have hwC := Go.IntWalk.i64_in (A - B) (by omega)
  go_wp2_with fail
  go_quiet (fail)
  go_wp2
  go_ret2
  exact ⟨by rw [HV.out] <;> rfl, bl_drewN hB2 _⟩
end Go.Proofs.YtbafbfamjjmngaaGreatDoor
