/- SpotsOf: the law's walk. -/
import Derived.Test.YtmnidldpkkpeoaaDoorSpotS
namespace Go.Proofs.YtmnidldpkkpeoaaDoor
open Go.RowKit Go.Lib
set_option maxHeartbeats 2000000 in
theorem lawSpotsOf_c (m : Nat) (hm : m < 2 ^ 64) (w : World) (hT : TabAt w) :
    Calls Tryd.prog 4 #[.int .u64 m] w fun e w' => e = .returned (.bool true) ∧ Below w.heap.size w w' := by
  have hz := TabAt_pos hT
  have HT := Lib.hid hT
  have HM := Lib.hid hm
  have hl := spI_le m hm
  clear hT hm
  generalize hxs : spI m = xs at *
  have HX := Lib.hid hxs
  clear hxs
  obtain ⟨n, hn⟩ : ∃ n, n = xs.length := ⟨_, rfl⟩
  have hn64 : n ≤ 64 := by omega
  have HN := Lib.hid hn
  clear hn hl
  go_enter Tryd.func4, Tryd.ntmps4
  go_wp2_with fail
  refine (specSpotsOf_c m HM.out _).mono ?_
  rintro e w1 ⟨v0, rfl, hR0, hb1⟩
  rw [HX.out] at hR0
  obtain ⟨p0, c0, rfl, hP0⟩ := PB_u64_row hR0
  rw [← HN.out]
  have P0 := Lib.hid hP0
  have B1 := Lib.hid hb1
  clear hR0 hP0 hb1
  go_wp2_with fail
  refine (implSpotsOf_c m HM.out _ (TabAt_below B1.out hz HT.out)).mono ?_
  rintro e w2 ⟨v1, rfl, hR1, hb2⟩
  rw [HX.out] at hR1
  obtain ⟨p1, c1, hv1, hP1⟩ := PB_u64_row hR1
  rw [← HN.out] at hv1
  subst hv1
  have R1 := Lib.hid hR1
  have P1 := Lib.hid hP1
  have Q0 := Lib.hid (PB_u64_below hb2 P0.out)
  have B2 := Lib.hid (bt B1.out hb2)
  have hbs := hb2.size
  have hwb := B1.out.size
  clear hR1 hP1 hb2 P0
  generalize w1.heap.size = base at *
  have HBs := Lib.hid hbs
  have HWb := Lib.hid hwb
  clear hbs hwb
  go_wp2_with fail
  refine (eqUint64S_same xs p1 p0 n c1 c0 HN.out (by omega) _ _ _ P1.out Q0.out).mono ?_
  rintro e w3 ⟨rfl, hb3⟩
  have R3 := Lib.hid (row_below R1.out hb3)
  have Q3 := Lib.hid (PB_u64_below (hb3.mono HBs.out) Q0.out)
  have B3 := Lib.hid (bt B2.out hb3)
  have HB3 := Lib.hid (Nat.le_trans HBs.out hb3.size)
  clear hb3 R1 P1 Q0
  go_wp2_with fail
  refine (markUint64S_c xs _ base 1 (by omega) (by have := HN.out; omega) _ R3.out HB3.out).mono ?_
  rintro e w4 ⟨rfl, hR4, hb4⟩
  rw [← HN.out] at hR4 ⊢
  have R4 := Lib.hid hR4
  have Q4 := Lib.hid (PB_u64_below hb4 Q3.out)
  have B4 := Lib.hid (B3.out.trans (hb4.mono HWb.out))
  have HB4 := Lib.hid (Nat.le_trans HB3.out hb4.size)
  clear hb4 hR4 R3 Q3 B3
  have hq1 : (((1 : Int) + (n : Int)) < 0) = False := by simp; omega
  go_wp2_with fail
  refine (heldUint64S_c _ base n 1 (by omega) (by omega) _ R4.out).mono ?_
  rintro e w' ⟨rfl, rfl⟩
  go_wp2_with fail
  refine (implSpotsOf_c m HM.out _ (TabAt_below B4.out hz HT.out)).mono ?_
  rintro e w5 ⟨v2, rfl, hR5, hb5⟩
  rw [HX.out] at hR5
  obtain ⟨p2, c2, hv2, hP2⟩ := PB_u64_row hR5
  rw [← HN.out] at hv2
  subst hv2
  have P5 := Lib.hid hP2
  have Q5 := Lib.hid (PB_u64_below (hb5.mono HB4.out) Q4.out)
  have R5 := Lib.hid (row_below R4.out hb5)
  have B5 := Lib.hid (bt B4.out hb5)
  clear hR5 hP2 hb5 Q4 R4 B4
  go_wp2_with fail
  refine (eqUint64S_same xs p2 p0 n c2 c0 HN.out (by omega) _ _ _ P5.out Q5.out).mono ?_
  rintro e w6 ⟨rfl, hb6⟩
  have R6 := Lib.hid (row_below R5.out hb6)
  have B6 := Lib.hid (bt B5.out hb6)
  clear hb6 P5 Q5 R5 B5
  go_wp2_with fail
  refine (heldUint64S_c _ base n 1 (by omega) (by omega) _ R6.out).mono ?_
  rintro e w' ⟨rfl, rfl⟩
  go_wp2
  go_ret
  exact ⟨rfl, B6.out⟩
theorem lawSpotsOf_d (a : Int) (h : 0 ≤ a ∧ a ≤ 18446744073709551615) (w : World) (hT : TabAt w) :
    Calls Tryd.prog 4 #[.int .u64 a] w fun e w' => e = .returned (.bool true) ∧ Below w.heap.size w w' := by
  obtain ⟨m, rfl⟩ := Int.eq_ofNat_of_zero_le h.1
  exact lawSpotsOf_c m (by omega) w hT
end Go.Proofs.YtmnidldpkkpeoaaDoor
