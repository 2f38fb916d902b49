/- AlikeFields: the law's walk. -/
import Derived.Test.YtmnidldpkkpeoaaAlikeC
import Derived.Test.YtmnidldpkkpeoaaLstUint32S
namespace Go.Proofs.Ytmnidldpkkpeoaa
open Go.RowKit Go.Lib
theorem szA24b : (Try.prog.info? 23).map (·.size) = some 24 := by kernel_rfl
theorem afV_len (xs : List Int) (wi : Int) : (afV xs wi).1.length ≤ 24 := by
  unfold afV
  split
  · split
    · exact alS_len xs wi 24
    · simp
  · simp
set_option maxHeartbeats 2000000 in
set_option maxRecDepth 100000 in
theorem lawAlikeFields_c (xs : List Int) (hl : xs.length = 24) (hx : I8 xs) (wi : Int) (_hwi : -9223372036854775808 ≤ wi ∧ wi ≤ 9223372036854775807) (w : World) :
    Calls Try.prog 3 #[.agg (arr .i8 xs), .int .i64 wi] w fun e w' => e = .returned (.bool true) ∧ Below w.heap.size w w' := by
  have hs : Sc xs := ⟨hl, hx⟩
  have HS := Lib.hid hs
  have hszS : (arr .i8 xs).size = 24 := by rw [arr_size]; exact hl
  have K0 := Lib.hid (al1_0 w (.cells (arr .i8 xs) 23))
  have B0 := Lib.hid (bl1 w (.cells (arr .i8 xs) 23))
  have hlen := afV_len xs wi
  generalize hv : afV xs wi = V at *
  obtain ⟨ys, code⟩ := V
  have HV := Lib.hid hv
  simp only at hlen
  obtain ⟨n, hn⟩ : ∃ n, n = ys.length := ⟨_, rfl⟩
  have hn24 : n ≤ 24 := by omega
  have HN := Lib.hid hn
  clear hs hl hx hv hn hlen
  go_enter Try.func3, Try.ntmps3
  go_upto_region 1 with fail
  generalize w.alloc (.cells (arr .i8 xs) 23) = w0 at *
  go_wp2_with (refine wpList_load_row rfl 23 (.tmp 2) rfl _ rfl _ _ _ _ K0.out Try.underlying23 rfl (by rw [szA24b, hszS]) ?_)
  refine (toScene_c xs HS.out _).mono ?_
  rintro e w1 ⟨rfl, hb1⟩
  have K1 := Lib.hid (heap_below hb1 (lt_of_heap K0.out) K0.out)
  have B1 := Lib.hid (bt B0.out hb1)
  clear hb1 K0 B0
  go_wp2_with fail
  refine (specAF_c xs HS.out wi _).mono ?_
  rintro e w2 ⟨v0, rfl, hR0, hb2⟩
  rw [HV.out] at hR0 ⊢
  obtain ⟨p0, c0, rfl, hP0⟩ := PB_u32_row hR0
  simp only at hP0 ⊢
  rw [← HN.out]
  have P0 := Lib.hid hP0
  have K2 := Lib.hid (heap_below hb2 (lt_of_heap K1.out) K1.out)
  have B2 := Lib.hid (bt B1.out hb2)
  clear hR0 hP0 hb2 K1 B1
  go_wp2_with (refine wpList_load_row rfl 23 (.tmp 2) rfl _ rfl _ _ _ _ K2.out Try.underlying23 rfl (by rw [szA24b, hszS]) ?_)
  refine (toScene_c xs HS.out _).mono ?_
  rintro e w3 ⟨rfl, hb3⟩
  have K3 := Lib.hid (heap_below hb3 (lt_of_heap K2.out) K2.out)
  have B3 := Lib.hid (bt B2.out hb3)
  have P3 := Lib.hid (PB_u32_below hb3 P0.out)
  have HZ3 := Lib.hid hb3.size
  clear hb3 K2 B2 P0
  generalize w2.heap.size = z0 at *
  go_wp2_with fail
  refine (implAF_c xs HS.out wi _).mono ?_
  rintro e w4 ⟨v1, rfl, hR1, hb4⟩
  rw [HV.out] at hR1 ⊢
  simp only at hR1 ⊢
  obtain ⟨p1, c1, hv1, hP1⟩ := PB_u32_row hR1
  rw [← HN.out] at hv1
  subst hv1
  have R1 := Lib.hid hR1
  have P1 := Lib.hid hP1
  have K4 := Lib.hid (heap_below hb4 (lt_of_heap K3.out) K3.out)
  have Kz := Lib.hid (lt_of_heap K3.out)
  have Q4 := Lib.hid (PB_u32_below (hb4.mono HZ3.out) P3.out)
  have B4 := Lib.hid (bt B3.out hb4)
  have hbs := hb4.size
  have hwb := B3.out.size
  clear hR1 hP1 hb4 P3 K3
  have HZb := Lib.hid HZ3.out
  generalize w3.heap.size = base at *
  have HBs := Lib.hid hbs
  have HWb := Lib.hid hwb
  clear hbs hwb
  go_wp2_with fail
  refine (eqUint32S_same ys p1 p0 n c1 c0 HN.out (by omega) _ _ _ P1.out Q4.out).mono ?_
  rintro e w5 ⟨rfl, hb5⟩
  have R5 := Lib.hid (row_below R1.out hb5)
  have Q5 := Lib.hid (PB_u32_below (hb5.mono (Nat.le_trans HZb.out HBs.out)) Q4.out)
  have K5 := Lib.hid (heap_below hb5 (lt_of_heap K4.out) K4.out)
  have B5 := Lib.hid (bt B4.out hb5)
  have HB5 := Lib.hid (Nat.le_trans HBs.out hb5.size)
  clear hb5 R1 P1 Q4 K4
  have hneq : (code != code) = false := by simp
  go_wp2_with fail
  refine (markUint32S_c ys _ base 1 (by omega) (by have := HN.out; omega) _ R5.out HB5.out).mono ?_
  rintro e w6 ⟨rfl, hR6, hb6⟩
  rw [← HN.out] at hR6 ⊢
  have R6 := Lib.hid hR6
  have Q6 := Lib.hid (PB_u32_below (hb6.mono HZb.out) Q5.out)
  have K6 := Lib.hid (heap_below hb6 Kz.out K5.out)
  have B6 := Lib.hid (B5.out.trans (hb6.mono HWb.out))
  have HB6 := Lib.hid (Nat.le_trans HB5.out hb6.size)
  clear hb6 hR6 R5 Q5 B5 K5
  have hq1 : (((1 : Int) + (n : Int)) < 0) = False := by simp; omega
  go_wp2_with fail
  refine (heldUint32S_c _ base n 1 (by omega) (by omega) _ R6.out).mono ?_
  rintro e w' ⟨rfl, rfl⟩
  go_wp2_with (refine wpList_load_row rfl 23 (.tmp 2) rfl _ rfl _ _ _ _ K6.out Try.underlying23 rfl (by rw [szA24b, hszS]) ?_)
  refine (toScene_c xs HS.out _).mono ?_
  rintro e w7 ⟨rfl, hb7⟩
  have R7 := Lib.hid (row_below R6.out hb7)
  have Q7 := Lib.hid (PB_u32_below (hb7.mono (Nat.le_trans HZb.out HB6.out)) Q6.out)
  have B7 := Lib.hid (bt B6.out hb7)
  have HB7 := Lib.hid (Nat.le_trans HB6.out hb7.size)
  clear hb7 R6 Q6 B6 K6
  go_wp2_with fail
  refine (implAF_c xs HS.out wi _).mono ?_
  rintro e w8 ⟨v2, rfl, hR8, hb8⟩
  rw [HV.out] at hR8 ⊢
  simp only at hR8 ⊢
  obtain ⟨p2, c2, hv2, hP2⟩ := PB_u32_row hR8
  rw [← HN.out] at hv2
  subst hv2
  have P8 := Lib.hid hP2
  have Q8 := Lib.hid (PB_u32_below (hb8.mono (Nat.le_trans HZb.out HB7.out)) Q7.out)
  have R8 := Lib.hid (row_below R7.out hb8)
  have B8 := Lib.hid (bt B7.out hb8)
  have HB8 := Lib.hid (Nat.le_trans HB7.out hb8.size)
  clear hR8 hP2 hb8 Q7 R7 B7
  go_wp2_with fail
  refine (eqUint32S_same ys p2 p0 n c2 c0 HN.out (by omega) _ _ _ P8.out Q8.out).mono ?_
  rintro e w9 ⟨rfl, hb9⟩
  have R9 := Lib.hid (row_below R8.out hb9)
  have B9 := Lib.hid (bt B8.out hb9)
  clear hb9 P8 Q8 R8 B8
  go_wp2_with fail
  refine (heldUint32S_c _ base n 1 (by omega) (by omega) _ R9.out).mono ?_
  rintro e w' ⟨rfl, rfl⟩
  go_wp2
  go_ret
  exact ⟨rfl, B9.out⟩
end Go.Proofs.Ytmnidldpkkpeoaa
