/- ContrastOf: the program's and the reference's. -/
import Derived.Test.YtmnidldpkkpeoaaMedR
namespace Go.Proofs.Ytmnidldpkkpeoaa
open Go.RowKit Go.Lib
def inB (n lo hi : Int) : Bool := decide (lo ≤ n) && decide (n ≤ hi)
/-- Without so many of the darkest and of the brightest cells. -/
def conV (xs : List Int) (a b : Int) : Int × Int := if okS xs then (if inB a 0 23 && inB b 0 (23 - a) then ((sortN xs 61).getD (23 - b).toNat 0 - (sortN xs 61).getD a.toNat 0, 0) else (0, 2)) else (0, 1)
theorem conV_bad (xs : List Int) (a b : Int) (h : okS xs = false) : conV xs a b = (0, 1) := by simp [conV, h]
theorem conV_out (xs : List Int) (a b : Int) (h : okS xs = true) (h2 : (inB a 0 23 && inB b 0 (23 - a)) = false) : conV xs a b = (0, 2) := by
  unfold conV; rw [h, h2]; rfl
theorem conV_in (xs : List Int) (a b : Nat) (h : okS xs = true) (h2 : a + b ≤ 23) : conV xs a b = ((sortN xs 61).getD (23 - b) 0 - (sortN xs 61).getD a 0, 0) := by
  have h3 : (inB a 0 23 && inB b 0 (23 - a)) = true := by simp [inB]; omega
  unfold conV; rw [h, h3]
  have e : ((23 : Int) - (b : Int)).toNat = 23 - b := by omega
  simp [e]
set_option maxHeartbeats 400000 in
theorem implConR_c (xs : List Int) (hs : Sc xs) (a b : Int) (w : World) :
    Calls Try.prog 41 #[.agg (arr .i8 xs), .int .i64 a, .int .i64 b] w fun e w' => e = .returned (.tuple #[.int .i64 (conV xs a b).1, .int .i64 (conV xs a b).2]) ∧ Below w.heap.size w w' := by
  have HL := Lib.hid hs.1
  have H0 := Lib.hid (al1_0 w (.cells (arr .i8 xs) 27))
  cases hok : okS xs
  · have HV := Lib.hid (conV_bad xs a b hok)
    have HO := Lib.hid hok
    clear hok
    go_enter Try.func41, Try.ntmps41
    go_wp2_with (refine wpList_load_row rfl 27 (.tmp 3) rfl _ rfl _ _ _ _ H0.out Try.underlying27 rfl (by rw [szScene, arr_size, HL.out]) ?_)
    refine (implValidScene_c xs hs _).mono ?_
    rintro e w1 ⟨rfl, hb1⟩
    rw [HO.out]
    have H1 := Lib.hid (heap_below hb1 (by simp) H0.out)
    have hB1 := bt (bl1 _ _) hb1
    clear hb1
    go_wp2
    go_ret2
    exact ⟨by rw [HV.out] <;> rfl, hB1⟩
  have HO := Lib.hid hok
  cases ha : inB a 0 23
  · have HV := Lib.hid (conV_out xs a b hok (by rw [ha]; rfl))
    unfold inB at ha
    have HA := Lib.hid ha
    clear hok ha
    go_enter Try.func41, Try.ntmps41
    go_wp2_with (refine wpList_load_row rfl 27 (.tmp 3) rfl _ rfl _ _ _ _ H0.out Try.underlying27 rfl (by rw [szScene, arr_size, HL.out]) ?_)
    refine (implValidScene_c xs hs _).mono ?_
    rintro e w1 ⟨rfl, hb1⟩
    rw [HO.out]
    have H1 := Lib.hid (heap_below hb1 (by simp) H0.out)
    have hB1 := bt (bl1 _ _) hb1
    clear hb1
    go_wp2_with (go_at_call 72; refine (within_c _ _ _ _).mono ?_; rintro e w' ⟨rfl, rfl⟩; first | rw [HA.out] | rw [HA.out])
    go_ret2
    exact ⟨by rw [HV.out] <;> rfl, hB1⟩
  have ha' : 0 ≤ a ∧ a ≤ 23 := by simpa [inB] using ha
  obtain ⟨i, rfl⟩ := Int.eq_ofNat_of_zero_le ha'.1
  have hi : i ≤ 23 := by omega
  cases hb : inB b 0 (23 - (i : Int))
  · have HV := Lib.hid (conV_out xs i b hok (by rw [ha, hb]; rfl))
    unfold inB at ha hb
    have HA := Lib.hid ha
    have HB := Lib.hid hb
    clear hok ha hb ha'
    go_enter Try.func41, Try.ntmps41
    go_wp2_with (refine wpList_load_row rfl 27 (.tmp 3) rfl _ rfl _ _ _ _ H0.out Try.underlying27 rfl (by rw [szScene, arr_size, HL.out]) ?_)
    refine (implValidScene_c xs hs _).mono ?_
    rintro e w1 ⟨rfl, hb1⟩
    rw [HO.out]
    have H1 := Lib.hid (heap_below hb1 (by simp) H0.out)
    have hB1 := bt (bl1 _ _) hb1
    clear hb1
    go_wp2_with (go_at_call 72; refine (within_c _ _ _ _).mono ?_; rintro e w' ⟨rfl, rfl⟩; first | rw [HA.out] | rw [HB.out])
    go_ret2
    exact ⟨by rw [HV.out] <;> rfl, hB1⟩
  have hb' : 0 ≤ b ∧ b ≤ 23 - (i : Int) := by simpa [inB] using hb
  obtain ⟨k, rfl⟩ := Int.eq_ofNat_of_zero_le hb'.1
  have hk : i + k ≤ 23 := by omega
  have HV := Lib.hid (conV_in xs i k hok hk)
  obtain ⟨m1, m2⟩ := sortN_bd hs.1 hok (23 - k) (by omega)
  obtain ⟨m3, m4⟩ := sortN_bd hs.1 hok i (by omega)
  have HE := Lib.hid (srt_eq xs hok)
  have hlen := sortN_len24 xs hs.1 hok
  unfold inB at ha hb
  have HA := Lib.hid ha
  have HB := Lib.hid hb
  have hk23 : (23 : Int) - (k : Int) = ((23 - k : Nat) : Int) := by omega
  have hi24 : (i : Int) < 24 := by omega
  have hk24 : ((23 - k : Nat) : Int) < 24 := by omega
  clear hok ha hb ha' hb'
  go_enter Try.func41, Try.ntmps41
  go_wp2_with (refine wpList_load_row rfl 27 (.tmp 3) rfl _ rfl _ _ _ _ H0.out Try.underlying27 rfl (by rw [szScene, arr_size, HL.out]) ?_)
  refine (implValidScene_c xs hs _).mono ?_
  rintro e w1 ⟨rfl, hb1⟩
  rw [HO.out]
  have H1 := Lib.hid (heap_below hb1 (by simp) H0.out)
  have hB1 := bt (bl1 _ _) hb1
  clear hb1
  go_wp2_with (go_at_call 72; refine (within_c _ _ _ _).mono ?_; rintro e w' ⟨rfl, rfl⟩; first | rw [HA.out] | rw [HB.out])
  refine (sort8_c xs _ 24 24 27 HL.out.symm (by omega) _ H1.out).mono ?_
  rintro e w2 ⟨rfl, h2, hb2⟩
  rw [HE.out] at h2
  have hc := arr_cell h2 (23 - k) (by rw [hlen]; omega)
  have hd := arr_cell h2 i (by rw [hlen]; omega)
  have hB2 := hB1.trans hb2
  clear h2 hb2 hB1 H1 H0
  generalize (sortN xs 61).getD (23 - k) 0 = A at *
  generalize (sortN xs 61).getD i 0 = B at *
  have hwA := Go.IntWalk.i64_in A (by omega)
  have hwB := Go.IntWalk.i64_in B (by omega)
  have hwC := Go.IntWalk.i64_in (A - B) (by omega)
  go_wp2_with fail
  go_quiet (fail)
  go_wp2
  go_ret2
  exact ⟨by rw [HV.out] <;> rfl, bl_drewN hB2 _⟩
set_option maxHeartbeats 400000 in
theorem specConR_c (xs : List Int) (hs : Sc xs) (a b : Int) (w : World) :
    Calls Try.prog 40 #[.agg (arr .i8 xs), .int .i64 a, .int .i64 b] w fun e w' => e = .returned (.tuple #[.int .i64 (conV xs a b).1, .int .i64 (conV xs a b).2]) ∧ Below w.heap.size w w' := by
  have HL := Lib.hid hs.1
  have H0 := Lib.hid (al1_0 w (.cells (arr .i8 xs) 27))
  cases hok : okS xs
  · have HV := Lib.hid (conV_bad xs a b hok)
    have HO := Lib.hid hok
    clear hok
    go_enter Try.func40, Try.ntmps40
    go_wp2_with fail
    refine (l06Ok_c xs hs _ _ _ H0.out).mono ?_
    rintro e w1 ⟨rfl, rfl⟩
    rw [HO.out]
    have H1 := H0
    have hB1 := bl1 w (.cells (arr .i8 xs) 27)
    go_wp2
    go_ret2
    exact ⟨by rw [HV.out] <;> rfl, hB1⟩
  have HO := Lib.hid hok
  cases ha : inB a 0 23
  · have HV := Lib.hid (conV_out xs a b hok (by rw [ha]; rfl))
    unfold inB at ha
    have HA := Lib.hid ha
    clear hok ha
    go_enter Try.func40, Try.ntmps40
    go_wp2_with fail
    refine (l06Ok_c xs hs _ _ _ H0.out).mono ?_
    rintro e w1 ⟨rfl, rfl⟩
    rw [HO.out]
    have H1 := H0
    have hB1 := bl1 w (.cells (arr .i8 xs) 27)
    go_wp2_with (go_at_call 67; refine (l00In_c _ _ _ _).mono ?_; rintro e w' ⟨rfl, rfl⟩; first | rw [HA.out] | rw [HA.out])
    go_ret2
    exact ⟨by rw [HV.out] <;> rfl, hB1⟩
  have ha' : 0 ≤ a ∧ a ≤ 23 := by simpa [inB] using ha
  obtain ⟨i, rfl⟩ := Int.eq_ofNat_of_zero_le ha'.1
  have hi : i ≤ 23 := by omega
  cases hb : inB b 0 (23 - (i : Int))
  · have HV := Lib.hid (conV_out xs i b hok (by rw [ha, hb]; rfl))
    unfold inB at ha hb
    have HA := Lib.hid ha
    have HB := Lib.hid hb
    clear hok ha hb ha'
    go_enter Try.func40, Try.ntmps40
    go_wp2_with fail
    refine (l06Ok_c xs hs _ _ _ H0.out).mono ?_
    rintro e w1 ⟨rfl, rfl⟩
    rw [HO.out]
    have H1 := H0
    have hB1 := bl1 w (.cells (arr .i8 xs) 27)
    go_wp2_with (go_at_call 67; refine (l00In_c _ _ _ _).mono ?_; rintro e w' ⟨rfl, rfl⟩; first | rw [HA.out] | rw [HB.out])
    go_ret2
    exact ⟨by rw [HV.out] <;> rfl, hB1⟩
  have hb' : 0 ≤ b ∧ b ≤ 23 - (i : Int) := by simpa [inB] using hb
  obtain ⟨k, rfl⟩ := Int.eq_ofNat_of_zero_le hb'.1
  have hk : i + k ≤ 23 := by omega
  have HV := Lib.hid (conV_in xs i k hok hk)
  obtain ⟨m1, m2⟩ := sortN_bd hs.1 hok (23 - k) (by omega)
  obtain ⟨m3, m4⟩ := sortN_bd hs.1 hok i (by omega)
  have HE := Lib.hid (srt_eq xs hok)
  have hlen := sortN_len24 xs hs.1 hok
  unfold inB at ha hb
  have HA := Lib.hid ha
  have HB := Lib.hid hb
  have hk23 : (23 : Int) - (k : Int) = ((23 - k : Nat) : Int) := by omega
  have hi24 : (i : Int) < 24 := by omega
  have hk24 : ((23 - k : Nat) : Int) < 24 := by omega
  clear hok ha hb ha' hb'
  go_enter Try.func40, Try.ntmps40
  go_wp2_with fail
  refine (l06Ok_c xs hs _ _ _ H0.out).mono ?_
  rintro e w1 ⟨rfl, rfl⟩
  rw [HO.out]
  have H1 := H0
  have hB1 := bl1 w (.cells (arr .i8 xs) 27)
  go_wp2_with (first | (go_at_call 67; refine (l00In_c _ _ _ _).mono ?_; rintro e w' ⟨rfl, rfl⟩; first | rw [HA.out] | rw [HB.out]) | (go_at_call 73; refine (l06Sorted_c xs hs _ _ _ H1.out).mono ?_; rintro e w1 ⟨v, rfl, hrow, hb1⟩; obtain ⟨g, cap, hv, hg1, hg2, hcp, hcm, hcell⟩ := row_shape hrow (fun h => by rw [h] at hlen; cases hlen); rw [hlen] at hv hcell hcp; have hc := hcell (23 - k) (by omega); have hd := hcell i (by omega); have hB2 := bt hB1 hb1; clear hcell hb1 hrow; subst hv))
  generalize (sortN xs 61).getD (23 - k) 0 = A at *
  generalize (sortN xs 61).getD i 0 = B at *
  have hwC := Go.IntWalk.i64_in (A - B) (by omega)
  go_quiet (fail)
  go_wp2
  go_ret2
  exact ⟨by rw [HV.out] <;> rfl, bl_drewN hB2 _⟩
end Go.Proofs.Ytmnidldpkkpeoaa
