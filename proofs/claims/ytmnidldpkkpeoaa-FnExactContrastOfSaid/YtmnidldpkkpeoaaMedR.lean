/- MedianReading: the program's and the reference's. -/
import Derived.Test.YtmnidldpkkpeoaaSortR
import Derived.Test.YtmnidldpkkpeoaaRange
namespace Go.Proofs.Ytmnidldpkkpeoaa
open Go.RowKit Go.Lib
theorem srt_eq (xs : List Int) (hok : okS xs = true) : srt xs = sortN xs 61 := by
  have h1 : (srt xs).Pairwise (· ≤ ·) := by
    have := List.pairwise_mergeSort (le := fun x y : Int => decide (x ≤ y)) (by intro a b c; simp; omega) (by intro a b; simp; omega) xs
    exact this.imp (by intro a b h; simpa using h)
  have h2 : (srt xs).Perm (sortN xs 61) := (List.mergeSort_perm xs _).trans (sortN_perm xs hok).symm
  exact h2.eq_of_pairwise (le := (· ≤ ·)) (fun a b _ _ h1 h2 => Int.le_antisymm h1 h2) h1 (sortN_sorted xs 61)
def medRV (xs : List Int) : Int × Int := if okS xs then ((sortN xs 61).getD 11 0, 0) else (0, 1)
theorem sortN_bd {xs : List Int} (hl : xs.length = 24) (hok : okS xs = true) (i : Nat) (hi : i < 24) : 0 ≤ (sortN xs 61).getD i 0 ∧ (sortN xs 61).getD i 0 ≤ 60 := by
  have h1 : (sortN xs 61).getD i 0 ∈ sortN xs 61 := getD_mem (by rw [sortN_len24 xs hl hok]; exact hi)
  have h2 : (sortN xs 61).getD i 0 ∈ xs := (sortN_perm xs hok).mem_iff.1 h1
  obtain ⟨j, hj, he⟩ := mem_getD h2
  rw [← he]
  exact okS_get hok j
set_option maxHeartbeats 400000 in
theorem implMedR_c (xs : List Int) (hs : Sc xs) (w : World) :
    Calls Try.prog 39 #[.agg (arr .i8 xs)] w fun e w' => e = .returned (.tuple #[.int .i64 (medRV xs).1, .int .i64 (medRV xs).2]) ∧ Below w.heap.size w w' := by
  have HL := Lib.hid hs.1
  have H0 := Lib.hid (al1_0 w (.cells (arr .i8 xs) 27))
  cases hok : okS xs
  · have HV : Hid (medRV xs = (0, 1)) := Lib.hid (by simp [medRV, hok])
    have HO := Lib.hid hok
    clear hok
    go_enter Try.func39, Try.ntmps39
    go_wp2_with (refine wpList_load_row rfl 27 (.tmp 1) rfl _ rfl _ _ _ _ H0.out Try.underlying27 rfl (by rw [szScene, arr_size, HL.out]) ?_)
    refine (implValidScene_c xs hs _).mono ?_
    rintro e w1 ⟨rfl, hb1⟩
    rw [HO.out]
    go_wp2
    go_ret2
    exact ⟨by rw [HV.out] <;> rfl, bt (bl1 _ _) hb1⟩
  · have HV : Hid (medRV xs = ((sortN xs 61).getD 11 0, 0)) := Lib.hid (by simp [medRV, hok])
    obtain ⟨m1, m2⟩ := sortN_bd hs.1 hok 11 (by omega)
    have HE := Lib.hid (srt_eq xs hok)
    have HSL := Lib.hid (sortN_len24 xs hs.1 hok)
    have HO := Lib.hid hok
    clear hok
    go_enter Try.func39, Try.ntmps39
    go_wp2_with (refine wpList_load_row rfl 27 (.tmp 1) rfl _ rfl _ _ _ _ H0.out Try.underlying27 rfl (by rw [szScene, arr_size, HL.out]) ?_)
    refine (implValidScene_c xs hs _).mono ?_
    rintro e w1 ⟨rfl, hb1⟩
    rw [HO.out]
    have H1 := Lib.hid (heap_below hb1 (by simp) H0.out)
    have hB1 := bt (bl1 _ _) hb1
    clear hb1 H0
    go_wp2_with fail
    refine (sort8_c xs _ 24 24 27 HL.out.symm (by omega) _ H1.out).mono ?_
    rintro e w2 ⟨rfl, h2, hb2⟩
    rw [HE.out] at h2
    have hc := arr_cell h2 11 (by rw [HSL.out]; omega)
    have hB2 := hB1.trans hb2
    clear h2 hb2 hB1 H1
    generalize (sortN xs 61).getD 11 0 = A at *
    have hwA := Go.IntWalk.i64_in A (by omega)
    go_wp2
    go_ret2
    exact ⟨by rw [HV.out] <;> rfl, hB2⟩
set_option maxHeartbeats 400000 in
theorem specMedR_c (xs : List Int) (hs : Sc xs) (w : World) :
    Calls Try.prog 38 #[.agg (arr .i8 xs)] w fun e w' => e = .returned (.tuple #[.int .i64 (medRV xs).1, .int .i64 (medRV xs).2]) ∧ Below w.heap.size w w' := by
  have H0 := Lib.hid (al1_0 w (.cells (arr .i8 xs) 27))
  cases hok : okS xs
  · have HV : Hid (medRV xs = (0, 1)) := Lib.hid (by simp [medRV, hok])
    have HO := Lib.hid hok
    clear hok
    go_enter Try.func38, Try.ntmps38
    go_wp2_with fail
    refine (l06Ok_c xs hs _ _ _ H0.out).mono ?_
    rintro e w' ⟨rfl, rfl⟩
    rw [HO.out]
    go_wp2
    go_ret2
    exact ⟨by rw [HV.out] <;> rfl, bl1 _ _⟩
  · have HV : Hid (medRV xs = ((sortN xs 61).getD 11 0, 0)) := Lib.hid (by simp [medRV, hok])
    have hlen := sortN_len24 xs hs.1 hok
    have HO := Lib.hid hok
    clear hok
    go_enter Try.func38, Try.ntmps38
    go_wp2_with fail
    refine (l06Ok_c xs hs _ _ _ H0.out).mono ?_
    rintro e w' ⟨rfl, rfl⟩
    rw [HO.out]
    go_wp2_with fail
    refine (l06Sorted_c xs hs _ _ _ H0.out).mono ?_
    rintro e w1 ⟨v, rfl, hrow, hb1⟩
    obtain ⟨g, cap, hv, hg1, hg2, hcp, hcm, hcell⟩ := row_shape hrow (fun h => by rw [h] at hlen; cases hlen)
    rw [hlen] at hv hcell hcp
    have hc0 := hcell 11 (by omega)
    have hB1 := bt (bl1 _ _) hb1
    clear hcell hb1 hrow hlen
    subst hv
    generalize (sortN xs 61).getD 11 0 = A at *
    go_wp2
    go_ret2
    exact ⟨by rw [HV.out] <;> rfl, hB1⟩
end Go.Proofs.Ytmnidldpkkpeoaa
