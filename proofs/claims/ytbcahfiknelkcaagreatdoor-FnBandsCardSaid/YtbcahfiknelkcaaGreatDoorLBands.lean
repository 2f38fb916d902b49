/- FnBands: the walk of the law. -/
import Derived.Test.YtbcahfiknelkcaaGreatDoorBandF
import Derived.Test.YtbcahfiknelkcaaGreatDoorArgB
import Derived.Deep.DeepCutAuto
import Derived.Deep.RegionHeld3
namespace Go.Proofs.YtbcahfiknelkcaaGreatDoor
open Go.RowKit
set_option maxHeartbeats 8000000 in
set_option maxRecDepth 100000 in
theorem lawBands_c (v1 : Value) (n1 : Nat) (v2 : Value) (n2 : Nat) (w : World) (h1 : Bytes w v1 n1) (h2 : Bytes w v2 n2) (hE : EV w) :
    Calls Tryz.prog 3 #[v1, v2] w fun e w' => e = .returned (.bool true) ∧ Below w.heap.size w w' := by
  obtain ⟨p1, c1, e1, -, -⟩ := bytes_shape h1
  obtain ⟨p2, c2, e2, -, -⟩ := bytes_shape h2
  have H1 := Lib.hid h1
  have H2 := Lib.hid h2
  have HE := Lib.hid hE
  have CL1 : Hid (∀ w0 : World, Calls Tryz.prog 5 #[v1] w0 fun e w' => e = .returned (.bool (decide (4096 < (n1 : Int)))) ∧ w0 = w') := Lib.hid fun w0 => f6bigG_c v1 n1 p1 c1 e1 w0
  have CL2 : Hid (∀ w0 : World, Calls Tryz.prog 5 #[v2] w0 fun e w' => e = .returned (.bool (decide (4096 < (n2 : Int)))) ∧ w0 = w') := Lib.hid fun w0 => f6bigG_c v2 n2 p2 c2 e2 w0
  clear h1 h2 e1 e2 p1 c1 p2 c2 hE
  by_cases hl : 4096 < (n1 : Int)
  · have HLong : Hid (decide (4096 < (n1 : Int)) = true) := Lib.hid (by simpa using hl)
    clear hl
    go_enter Tryz.func3, Tryz.ntmps3
    go_wp2_with fail
    refine (CL1.out _).mono ?_
    rintro e w' ⟨rfl, rfl⟩
    rw [HLong.out]
    go_wp2
    go_ret
    exact ⟨rfl, Below.refl _ _⟩
  have HLong : Hid (decide (4096 < (n1 : Int)) = false) := Lib.hid (by simpa using hl)
  by_cases hl2 : 4096 < (n2 : Int)
  · have HLong2 : Hid (decide (4096 < (n2 : Int)) = true) := Lib.hid (by simpa using hl2)
    clear hl hl2
    go_enter Tryz.func3, Tryz.ntmps3
    go_wp2_with fail
    refine (CL1.out _).mono ?_
    rintro e w' ⟨rfl, rfl⟩
    rw [HLong.out]
    go_wp2_with fail
    refine (CL2.out _).mono ?_
    rintro e w' ⟨rfl, rfl⟩
    rw [HLong2.out]
    go_wp2
    go_ret
    exact ⟨rfl, Below.refl _ _⟩
  have HLong2 : Hid (decide (4096 < (n2 : Int)) = false) := Lib.hid (by simpa using hl2)
  clear hl hl2
  go_enter Tryz.func3, Tryz.ntmps3
  refine wp_var fun Q0 HQ0 => ?_
  go_wp2_with fail
  refine (CL1.out _).mono ?_
  rintro e w' ⟨rfl, rfl⟩
  rw [HLong.out]
  go_wp2_with fail
  refine (CL2.out _).mono ?_
  rintro e w' ⟨rfl, rfl⟩
  rw [HLong2.out]
  clear HLong HLong2 CL1 CL2
  go_wp2_with fail
  refine (p6Strip_c v1 n1 _ H1.out).mono ?_
  rintro x w1 ⟨a, e, b, rfl, hok, hB⟩
  obtain ⟨n, rfl, hst⟩ := stp_of hok
  have HST := Lib.hid hst
  have HOK := Lib.hid hok
  have H8 := Lib.hid (stp_8 hst)
  clear hok hst
  have hbA := bl1 w1 (.cells #[.int .i8 a, .int .i8 e, .int .i8 n] 26)
  have FS := Lib.hid (al1_0 w1 (.cells #[.int .i8 a, .int .i8 e, .int .i8 n] 26))
  replace hB := bt hB hbA
  clear hbA
  have cFS_0 := blk3_0 FS.out
  have cFS_1 := blk3_1 FS.out
  have cFS_2 := blk3_2 FS.out
  go_wp2_with fail
  clear cFS_0 cFS_1 cFS_2
  generalize w1.alloc (.cells #[.int .i8 a, .int .i8 e, .int .i8 n] 26) = w2 at *
  generalize w1.heap.size = gs at *
  refine (p6Paper_c v2 n2 _ (bytes_keep H2.out hB)).mono ?_
  rintro e w3 ⟨p, c, q, rfl, hq, hp, hb⟩
  replace FS := Lib.hid (heap_below hb (lt_of_heap FS.out) FS.out)
  replace hB := bt hB hb
  clear hb
  obtain ⟨m, hm⟩ : ∃ m, m = q.length := ⟨_, rfl⟩
  have hm2 : m ≤ 1048576 := by have := hq.le; omega
  have HM := Lib.hid hm
  have HQ := Lib.hid hq
  have HA := Lib.hid hp
  rw [← hm]
  clear hm hq hp
  have cFS_0 := blk3_0 FS.out
  have cFS_1 := blk3_1 FS.out
  have cFS_2 := blk3_2 FS.out
  go_wp2_with fail
  clear cFS_0 cFS_1 cFS_2
  refine (p6PickG_c v2 n2 _ (bytes_keep H2.out hB) 200 (by omega)).mono ?_
  rintro e w4 ⟨d, rfl, d0, d1, hb⟩
  replace FS := Lib.hid (heap_below hb (lt_of_heap FS.out) FS.out)
  replace HA := Lib.hid (CvS_below hb HA.out)
  replace hB := bt hB hb
  clear hb
  have cFS_0 := blk3_0 FS.out
  have cFS_1 := blk3_1 FS.out
  have cFS_2 := blk3_2 FS.out
  go_wp2_with fail
  clear cFS_0 cFS_1 cFS_2
  refine (p6PickG_c v1 n1 _ (bytes_keep H1.out hB) 260 (by omega)).mono ?_
  rintro e w5 ⟨t, rfl, t0, t1, hb⟩
  replace FS := Lib.hid (heap_below hb (lt_of_heap FS.out) FS.out)
  replace HA := Lib.hid (CvS_below hb HA.out)
  replace hB := bt hB hb
  clear hb
  replace d1 : d ≤ 199 := by omega
  replace t1 : t ≤ 259 := by omega
  obtain ⟨X, Y, D, M, hF⟩ := bdf_of HST.out HQ.out.good (d := d) t0 (show t ≤ 400 by omega)
  have HF := Lib.hid hF
  clear hF
  have hn1 := HST.out.n1
  have hn20 := HST.out.n20
  have cFS_0 := blk3_0 FS.out
  have cFS_1 := blk3_1 FS.out
  have cFS_2 := blk3_2 FS.out
  go_wp2_with fail
  clear cFS_0 cFS_1 cFS_2
  refine (implStripText_c a e n HOK.out H8.out _).mono ?_
  rintro e w6 ⟨rfl, hb⟩
  replace FS := Lib.hid (heap_below hb (lt_of_heap FS.out) FS.out)
  replace HA := Lib.hid (CvS_below hb HA.out)
  replace hB := bt hB hb
  clear hb
  have cFS_0 := blk3_0 FS.out
  have cFS_1 := blk3_1 FS.out
  have cFS_2 := blk3_2 FS.out
  go_wp2_with fail
  clear cFS_0 cFS_1 cFS_2
  refine (readBack_c a e n HOK.out _ (ev_below hB HE.out)).mono ?_
  rintro e w7 ⟨rfl, hb⟩
  replace FS := Lib.hid (heap_below hb (lt_of_heap FS.out) FS.out)
  replace HA := Lib.hid (CvS_below hb HA.out)
  replace hB := bt hB hb
  clear hb
  have hbA := bl1 w7 (.cells #[.int .i8 a, .int .i8 e, .int .i8 n] 26)
  replace FS := Lib.hid (heap_below hbA (lt_of_heap FS.out) FS.out)
  replace HA := Lib.hid (CvS_below hbA HA.out)
  have FR := Lib.hid (al1_0 w7 (.cells #[.int .i8 a, .int .i8 e, .int .i8 n] 26))
  replace hB := bt hB hbA
  clear hbA
  have cFS_0 := blk3_0 FS.out
  have cFS_1 := blk3_1 FS.out
  have cFS_2 := blk3_2 FS.out
  have cFR_0 := blk3_0 FR.out
  have cFR_1 := blk3_1 FR.out
  have cFR_2 := blk3_2 FR.out
  go_wp2_with fail
  clear cFS_0 cFS_1 cFS_2 cFR_0 cFR_1 cFR_2
  generalize w7.alloc (.cells #[.int .i8 a, .int .i8 e, .int .i8 n] 26) = w8 at *
  generalize w7.heap.size = gr at *
  refine (implLightsOf_c a e n HST.out _).mono ?_
  rintro e w9 ⟨v, rfl, hR, hb⟩
  replace FS := Lib.hid (heap_below hb (lt_of_heap FS.out) FS.out)
  replace FR := Lib.hid (heap_below hb (lt_of_heap FR.out) FR.out)
  replace HA := Lib.hid (CvS_below hb HA.out)
  replace hB := bt hB hb
  clear hb
  rw [HF.out.x] at hR
  obtain ⟨pA, cA, hv, hP⟩ := PB_i64_row hR
  rw [HF.out.lx] at hv
  subst hv
  have LA := Lib.hid hP
  clear hR hP
  have cFS_0 := blk3_0 FS.out
  have cFS_1 := blk3_1 FS.out
  have cFS_2 := blk3_2 FS.out
  have cFR_0 := blk3_0 FR.out
  have cFR_1 := blk3_1 FR.out
  have cFR_2 := blk3_2 FR.out
  go_wp2_with fail
  clear cFS_0 cFS_1 cFS_2 cFR_0 cFR_1 cFR_2
  refine (implCovLights_c a e n HST.out _).mono ?_
  rintro e w10 ⟨v, rfl, hR, hb⟩
  replace FS := Lib.hid (heap_below hb (lt_of_heap FS.out) FS.out)
  replace FR := Lib.hid (heap_below hb (lt_of_heap FR.out) FR.out)
  replace LA := Lib.hid (PB_i64_keep hb LA.out)
  replace HA := Lib.hid (CvS_below hb HA.out)
  replace hB := bt hB hb
  clear hb
  rw [HF.out.y] at hR
  obtain ⟨pB, cB, hv, hP⟩ := PB_i64_row hR
  rw [HF.out.ly] at hv
  subst hv
  have LB := Lib.hid hP
  clear hR hP
  have cFS_0 := blk3_0 FS.out
  have cFS_1 := blk3_1 FS.out
  have cFS_2 := blk3_2 FS.out
  have cFR_0 := blk3_0 FR.out
  have cFR_1 := blk3_1 FR.out
  have cFR_2 := blk3_2 FR.out
  go_wp2_with fail
  clear cFS_0 cFS_1 cFS_2 cFR_0 cFR_1 cFR_2
  refine (specCovLights_c a e n HST.out _).mono ?_
  rintro e w11 ⟨v, rfl, hR, hb⟩
  replace FS := Lib.hid (heap_below hb (lt_of_heap FS.out) FS.out)
  replace FR := Lib.hid (heap_below hb (lt_of_heap FR.out) FR.out)
  replace LA := Lib.hid (PB_i64_keep hb LA.out)
  replace LB := Lib.hid (PB_i64_keep hb LB.out)
  replace HA := Lib.hid (CvS_below hb HA.out)
  replace hB := bt hB hb
  clear hb
  rw [HF.out.y] at hR
  obtain ⟨pC, cC, hv, hP⟩ := PB_i64_row hR
  rw [HF.out.ly] at hv
  subst hv
  have LC := Lib.hid hP
  clear hR hP
  have cFS_0 := blk3_0 FS.out
  have cFS_1 := blk3_1 FS.out
  have cFS_2 := blk3_2 FS.out
  have cFR_0 := blk3_0 FR.out
  have cFR_1 := blk3_1 FR.out
  have cFR_2 := blk3_2 FR.out
  go_wp2_with fail
  clear cFS_0 cFS_1 cFS_2 cFR_0 cFR_1 cFR_2
  refine (implBandsOf_c a e n HST.out p m c q HQ.out HM.out hm2 d d0 (by omega) _ HA.out).mono ?_
  rintro e w12 ⟨v, rfl, hR, hb⟩
  replace FS := Lib.hid (heap_below hb (lt_of_heap FS.out) FS.out)
  replace FR := Lib.hid (heap_below hb (lt_of_heap FR.out) FR.out)
  replace LA := Lib.hid (PB_i64_keep hb LA.out)
  replace LB := Lib.hid (PB_i64_keep hb LB.out)
  replace LC := Lib.hid (PB_i64_keep hb LC.out)
  replace HA := Lib.hid (CvS_below hb HA.out)
  replace hB := bt hB hb
  clear hb
  rw [HF.out.x, HF.out.dd] at hR
  obtain ⟨pD, cD, hv, hP⟩ := PB_i64_row hR
  rw [HF.out.ld] at hv
  subst hv
  have LD := Lib.hid hP
  clear hR hP
  have cFS_0 := blk3_0 FS.out
  have cFS_1 := blk3_1 FS.out
  have cFS_2 := blk3_2 FS.out
  have cFR_0 := blk3_0 FR.out
  have cFR_1 := blk3_1 FR.out
  have cFR_2 := blk3_2 FR.out
  go_wp2_with fail
  clear cFS_0 cFS_1 cFS_2 cFR_0 cFR_1 cFR_2
  refine (specBandsOf_c a e n HST.out p m c q HQ.out HM.out hm2 d d0 (by omega) _ HA.out).mono ?_
  rintro e w13 ⟨v, rfl, hR, hb⟩
  replace FS := Lib.hid (heap_below hb (lt_of_heap FS.out) FS.out)
  replace FR := Lib.hid (heap_below hb (lt_of_heap FR.out) FR.out)
  replace LA := Lib.hid (PB_i64_keep hb LA.out)
  replace LB := Lib.hid (PB_i64_keep hb LB.out)
  replace LC := Lib.hid (PB_i64_keep hb LC.out)
  replace LD := Lib.hid (PB_i64_keep hb LD.out)
  replace HA := Lib.hid (CvS_below hb HA.out)
  replace hB := bt hB hb
  clear hb
  rw [HF.out.x, HF.out.dd] at hR
  obtain ⟨pE, cE, hv, hP⟩ := PB_i64_row hR
  rw [HF.out.ld] at hv
  subst hv
  have LE := Lib.hid hP
  clear hR hP
  have cFS_0 := blk3_0 FS.out
  have cFS_1 := blk3_1 FS.out
  have cFS_2 := blk3_2 FS.out
  have cFR_0 := blk3_0 FR.out
  have cFR_1 := blk3_1 FR.out
  have cFR_2 := blk3_2 FR.out
  go_wp2_with fail
  clear cFS_0 cFS_1 cFS_2 cFR_0 cFR_1 cFR_2
  refine (implCovBands_c a e n HST.out p m c q HQ.out HM.out hm2 d d0 (by omega) _ HA.out).mono ?_
  rintro e w14 ⟨v, rfl, hR, hb⟩
  replace FS := Lib.hid (heap_below hb (lt_of_heap FS.out) FS.out)
  replace FR := Lib.hid (heap_below hb (lt_of_heap FR.out) FR.out)
  replace LA := Lib.hid (PB_i64_keep hb LA.out)
  replace LB := Lib.hid (PB_i64_keep hb LB.out)
  replace LC := Lib.hid (PB_i64_keep hb LC.out)
  replace LD := Lib.hid (PB_i64_keep hb LD.out)
  replace LE := Lib.hid (PB_i64_keep hb LE.out)
  replace HA := Lib.hid (CvS_below hb HA.out)
  replace hB := bt hB hb
  clear hb
  rw [HF.out.y, HF.out.mm] at hR
  obtain ⟨pF, cF, hv, hP⟩ := PB_i64_row hR
  rw [HF.out.lm] at hv
  subst hv
  have LF := Lib.hid hP
  clear hR hP
  have cFS_0 := blk3_0 FS.out
  have cFS_1 := blk3_1 FS.out
  have cFS_2 := blk3_2 FS.out
  have cFR_0 := blk3_0 FR.out
  have cFR_1 := blk3_1 FR.out
  have cFR_2 := blk3_2 FR.out
  go_wp2_with fail
  clear cFS_0 cFS_1 cFS_2 cFR_0 cFR_1 cFR_2
  refine (specCovBands_c a e n HST.out p m c q HQ.out HM.out hm2 d d0 (by omega) _ HA.out).mono ?_
  rintro e w15 ⟨v, rfl, hR, hb⟩
  replace FS := Lib.hid (heap_below hb (lt_of_heap FS.out) FS.out)
  replace FR := Lib.hid (heap_below hb (lt_of_heap FR.out) FR.out)
  replace LA := Lib.hid (PB_i64_keep hb LA.out)
  replace LB := Lib.hid (PB_i64_keep hb LB.out)
  replace LC := Lib.hid (PB_i64_keep hb LC.out)
  replace LD := Lib.hid (PB_i64_keep hb LD.out)
  replace LE := Lib.hid (PB_i64_keep hb LE.out)
  replace LF := Lib.hid (PB_i64_keep hb LF.out)
  replace HA := Lib.hid (CvS_below hb HA.out)
  replace hB := bt hB hb
  clear hb
  rw [HF.out.y, HF.out.mm] at hR
  obtain ⟨pG, cG, hv, hP⟩ := PB_i64_row hR
  rw [HF.out.lm] at hv
  subst hv
  have LG := Lib.hid hP
  clear hR hP
  as_aux_lemma =>
    have s1 : (a != a) = false := by simp
    have s2 : (e != e) = false := by simp
    have s3 : ((n : Int) != (n : Int)) = false := by simp
    have s4 : (a == a) = true := by simp
    have s5 : (e == e) = true := by simp
    have s6 : ((n : Int) == (n : Int)) = true := by simp
    have hnw := Go.IntWalk.i64_in (n : Int) (by omega)
    have cFS_0 := blk3_0 FS.out
    have cFS_1 := blk3_1 FS.out
    have cFS_2 := blk3_2 FS.out
    have cFR_0 := blk3_0 FR.out
    have cFR_1 := blk3_1 FR.out
    have cFR_2 := blk3_2 FR.out
    go_wp2_with fail
    clear cFS_0 cFS_1 cFS_2 cFR_0 cFR_1 cFR_2
    refine (srValid_c a e n H8.out _).mono ?_
    rintro e w16 ⟨rfl, hb⟩
    rw [HOK.out]
    replace FS := Lib.hid (heap_below hb (lt_of_heap FS.out) FS.out)
    replace FR := Lib.hid (heap_below hb (lt_of_heap FR.out) FR.out)
    replace LA := Lib.hid (PB_i64_keep hb LA.out)
    replace LB := Lib.hid (PB_i64_keep hb LB.out)
    replace LC := Lib.hid (PB_i64_keep hb LC.out)
    replace LD := Lib.hid (PB_i64_keep hb LD.out)
    replace LE := Lib.hid (PB_i64_keep hb LE.out)
    replace LF := Lib.hid (PB_i64_keep hb LF.out)
    replace LG := Lib.hid (PB_i64_keep hb LG.out)
    replace HA := Lib.hid (CvS_below hb HA.out)
    replace hB := bt hB hb
    clear hb
    clear FR
    have cFS_0 := blk3_0 FS.out
    have cFS_1 := blk3_1 FS.out
    have cFS_2 := blk3_2 FS.out
    go_wp2_with fail
    clear cFS_0 cFS_1 cFS_2
    refine (sameNumbers_c Y pB pC n cB cC (by rw [HF.out.ly]) (by omega) _ _ _ LB.out LC.out).mono ?_
    rintro x w17 ⟨rfl, hb⟩
    replace FS := Lib.hid (heap_below hb (lt_of_heap FS.out) FS.out)
    replace LA := Lib.hid (PB_i64_keep hb LA.out)
    replace LB := Lib.hid (PB_i64_keep hb LB.out)
    replace LC := Lib.hid (PB_i64_keep hb LC.out)
    replace LD := Lib.hid (PB_i64_keep hb LD.out)
    replace LE := Lib.hid (PB_i64_keep hb LE.out)
    replace LF := Lib.hid (PB_i64_keep hb LF.out)
    replace LG := Lib.hid (PB_i64_keep hb LG.out)
    replace HA := Lib.hid (CvS_below hb HA.out)
    replace hB := bt hB hb
    clear hb
    clear LB
    have cFS_0 := blk3_0 FS.out
    have cFS_1 := blk3_1 FS.out
    have cFS_2 := blk3_2 FS.out
    go_wp2_with fail
    clear cFS_0 cFS_1 cFS_2
    refine (sameNumbers_c D pD pE n cD cE (by rw [HF.out.ld]) (by omega) _ _ _ LD.out LE.out).mono ?_
    rintro x w18 ⟨rfl, hb⟩
    replace FS := Lib.hid (heap_below hb (lt_of_heap FS.out) FS.out)
    replace LA := Lib.hid (PB_i64_keep hb LA.out)
    replace LC := Lib.hid (PB_i64_keep hb LC.out)
    replace LD := Lib.hid (PB_i64_keep hb LD.out)
    replace LE := Lib.hid (PB_i64_keep hb LE.out)
    replace LF := Lib.hid (PB_i64_keep hb LF.out)
    replace LG := Lib.hid (PB_i64_keep hb LG.out)
    replace HA := Lib.hid (CvS_below hb HA.out)
    replace hB := bt hB hb
    clear hb
    clear LD
    have cFS_0 := blk3_0 FS.out
    have cFS_1 := blk3_1 FS.out
    have cFS_2 := blk3_2 FS.out
    go_wp2_with fail
    clear cFS_0 cFS_1 cFS_2
    refine (sameNumbers_c M pF pG n cF cG (by rw [HF.out.lm]) (by omega) _ _ _ LF.out LG.out).mono ?_
    rintro x w19 ⟨rfl, hb⟩
    replace FS := Lib.hid (heap_below hb (lt_of_heap FS.out) FS.out)
    replace LA := Lib.hid (PB_i64_keep hb LA.out)
    replace LC := Lib.hid (PB_i64_keep hb LC.out)
    replace LE := Lib.hid (PB_i64_keep hb LE.out)
    replace LF := Lib.hid (PB_i64_keep hb LF.out)
    replace LG := Lib.hid (PB_i64_keep hb LG.out)
    replace HA := Lib.hid (CvS_below hb HA.out)
    replace hB := bt hB hb
    clear hb
    clear LF
    have cFS_0 := blk3_0 FS.out
    have cFS_1 := blk3_1 FS.out
    have cFS_2 := blk3_2 FS.out
    go_wp2_with fail
    clear cFS_0 cFS_1 cFS_2
    clear s1 s2 s3 s4 s5 s6
    as_aux_lemma =>
      go_loopw [25] (fun iv wr => ∃ k q : Nat, k ≤ n ∧ iv = .int .i64 k ∧ wr = w19.drewN q) (fun iv _ => n - (intOf iv).toNat)
      case atStart => exact ⟨0, 0, by omega, rfl, rfl⟩
      case round =>
        obtain ⟨k, qq, hk, rfl, hW⟩ := hrel
        have HW := Lib.hid hW
        clear hW
        by_cases hlt : k < n
        · have hkn : (k : Int) < n := by omega
          have hS : wr.heap[gs]? = some (.cells #[.int .i8 a, .int .i8 e, .int .i8 n] 26 (0, 0)) := by rw [HW.out]; exact heap_below (bl_drewN (Below.refl _ w19) qq) (lt_of_heap FS.out) FS.out
          have c0 := blk3_0 hS
          have c1 := blk3_1 hS
          clear hS
          obtain ⟨bA, oA, rfl, hbA, hcA⟩ := LA.out (neL_of_lt_i64 (k := k) (by rw [HF.out.lx]; exact hlt))
          have kA : ∀ i, i < n → wr.cell? ⟨bA, oA + i, none⟩ = some (.int .i64 (X.getD i 0)) := fun i hi => by rw [HW.out, World.cell?_drewN]; exact hcA i (by rw [HF.out.lx]; exact hi)
          have cA := kA k hlt
          clear hcA hbA
          obtain ⟨bC, oC, rfl, hbC, hcC⟩ := LC.out (neL_of_lt_i64 (k := k) (by rw [HF.out.ly]; exact hlt))
          have kC : ∀ i, i < n → wr.cell? ⟨bC, oC + i, none⟩ = some (.int .i64 (Y.getD i 0)) := fun i hi => by rw [HW.out, World.cell?_drewN]; exact hcC i (by rw [HF.out.ly]; exact hi)
          have cC := kC k hlt
          clear hcC hbC
          obtain ⟨bE, oE, rfl, hbE, hcE⟩ := LE.out (neL_of_lt_i64 (k := k) (by rw [HF.out.ld]; exact hlt))
          have kE : ∀ i, i < n → wr.cell? ⟨bE, oE + i, none⟩ = some (.int .i64 (D.getD i 0)) := fun i hi => by rw [HW.out, World.cell?_drewN]; exact hcE i (by rw [HF.out.ld]; exact hi)
          have cE := kE k hlt
          clear hcE hbE
          obtain ⟨bG, oG, rfl, hbG, hcG⟩ := LG.out (neL_of_lt_i64 (k := k) (by rw [HF.out.lm]; exact hlt))
          have kG : ∀ i, i < n → wr.cell? ⟨bG, oG + i, none⟩ = some (.int .i64 (M.getD i 0)) := fun i hi => by rw [HW.out, World.cell?_drewN]; exact hcG i (by rw [HF.out.lm]; exact hi)
          have cG := kG k hlt
          clear hcG hbG
          rw [HF.out.pos k hlt] at cA
          have hxy := HF.out.xy k hlt
          have hxr := HF.out.xr k hlt
          rw [HF.out.pos k hlt] at hxy hxr
          have hyr := HF.out.yr k hlt
          have hdm := HF.out.dm k hlt
          have hdr := HF.out.bd.get hlt
          have hmr := HF.out.mr k hlt
          have ha0 := HST.out.a0
          have ha1 := HST.out.a1
          have he1 := HST.out.e1
          have he9 := HST.out.e9
          have hwa := Go.IntWalk.i64_in a (by omega)
          have hwe := Go.IntWalk.i64_in e (by omega)
          obtain ⟨mm, hmm⟩ : ∃ mm, (k : Int) * e = mm := ⟨_, rfl⟩
          rw [hmm] at cA hxy hxr
          have hwm : IntKind.i64.wrap mm = mm := Go.IntWalk.i64_in _ (by omega)
          have hwam : IntKind.i64.wrap (a + mm) = a + mm := Go.IntWalk.i64_in _ (by omega)
          have t1 : ((a + mm) != (a + mm)) = false := by simp
          have t2 : decide (Y.getD k 0 < a + mm) = false := decide_eq_false (by omega)
          have t3 : decide (M.getD k 0 < D.getD k 0) = false := decide_eq_false (by omega)
          have HRST : Hid (∀ nq : Nat, ∃ k' q' : Nat, k' ≤ n ∧ Value.int .i64 ((k : Int) + 1) = .int .i64 k' ∧ wr.drewN nq = w19.drewN q') := Lib.hid (fun nq => ⟨k + 1, qq + nq, by omega, by go_num, by rw [HW.out, World.drewN_drewN]⟩)
          by_cases hk0 : k = 0
          · have t4 : decide ((0 : Int) < (k : Int)) = false := decide_eq_false (by omega)
            have t4n : decide (0 < k) = false := decide_eq_false (by omega)
            generalize X.getD k 0 = x at *
            generalize Y.getD k 0 = y at *
            generalize D.getD k 0 = dd at *
            generalize M.getD k 0 = z at *
            clear hdm hdr hmr hyr hxy hxr kA kC kE kG hk0
            go_wp2_with fail
            go_quiet (fail)
            go_wp2
            go_roundw
            case rel => exact HRST.out _
            case measure => simp [intOf]; omega
          · obtain ⟨j, hj⟩ : ∃ j, k = j + 1 := ⟨k - 1, by omega⟩
            have t4 : decide ((0 : Int) < (k : Int)) = true := decide_eq_true (by omega)
            have t4n : decide (0 < k) = true := decide_eq_true (by omega)
            have hjn : j < n := by omega
            have hji : (j : Int) < n := by omega
            have j1 : (k : Int) - 1 = (j : Int) := by omega
            have hwj : IntKind.i64.wrap (j : Int) = j := Go.IntWalk.i64_in _ (by omega)
            have cE' := kE j hjn
            have cG' := kG j hjn
            obtain ⟨u1, u2⟩ := HF.out.up j (by omega)
            rw [← hj] at u1 u2
            have t5 : decide (D.getD k 0 < D.getD j 0) = false := decide_eq_false (by omega)
            have t6 : decide (M.getD k 0 < M.getD j 0) = false := decide_eq_false (by omega)
            generalize X.getD k 0 = x at *
            generalize Y.getD k 0 = y at *
            generalize D.getD k 0 = dd at *
            generalize M.getD k 0 = z at *
            generalize D.getD j 0 = dj at *
            generalize M.getD j 0 = zj at *
            clear hdm hdr hmr hyr hxy hxr kA kC kE kG u1 u2 hk0 hj
            go_wp2_with fail
            go_quiet (fail)
            go_wp2
            go_roundw
            case rel => exact HRST.out _
            case measure => simp [intOf]; omega
        · have hke : k = n := by omega
          subst hke
          have hbd : Below w19.heap.size w19 wr := by rw [HW.out]; exact bl_drewN (Below.refl _ _) _
          replace FS := Lib.hid (heap_below hbd (lt_of_heap FS.out) FS.out)
          replace LA := Lib.hid (PB_i64_keep hbd LA.out)
          replace LC := Lib.hid (PB_i64_keep hbd LC.out)
          replace LE := Lib.hid (PB_i64_keep hbd LE.out)
          replace LG := Lib.hid (PB_i64_keep hbd LG.out)
          replace HA := Lib.hid (CvS_below hbd HA.out)
          replace hB := bt hB hbd
          clear hbd HW hlt hk LC LG
          generalize wr = w20 at *
          as_aux_lemma =>
            obtain ⟨N, L, fv, fc, hNF⟩ := nrf_of HF.out.bd
            have NF := Lib.hid hNF
            clear hNF
            have cFS_0 := blk3_0 FS.out
            have cFS_1 := blk3_1 FS.out
            have cFS_2 := blk3_2 FS.out
            go_wp2_with fail
            clear cFS_0 cFS_1 cFS_2
            refine (implNear_c D k cE t HF.out.bd pE _ LE.out).mono ?_
            rw [NF.out.nn, NF.out.l]
            rintro x w21 ⟨rfl, hb⟩
            replace FS := Lib.hid (heap_below hb (lt_of_heap FS.out) FS.out)
            replace LA := Lib.hid (PB_i64_keep hb LA.out)
            replace LE := Lib.hid (PB_i64_keep hb LE.out)
            replace HA := Lib.hid (CvS_below hb HA.out)
            replace hB := bt hB hb
            clear hb
            have cFS_0 := blk3_0 FS.out
            have cFS_1 := blk3_1 FS.out
            have cFS_2 := blk3_2 FS.out
            go_wp2_with fail
            clear cFS_0 cFS_1 cFS_2
            refine (specNear_c D k cE t HF.out.bd pE _ LE.out).mono ?_
            rw [NF.out.nn, NF.out.l]
            rintro x w22 ⟨rfl, hb⟩
            replace FS := Lib.hid (heap_below hb (lt_of_heap FS.out) FS.out)
            replace LA := Lib.hid (PB_i64_keep hb LA.out)
            replace LE := Lib.hid (PB_i64_keep hb LE.out)
            replace HA := Lib.hid (CvS_below hb HA.out)
            replace hB := bt hB hb
            clear hb
            have cFS_0 := blk3_0 FS.out
            have cFS_1 := blk3_1 FS.out
            have cFS_2 := blk3_2 FS.out
            go_wp2_with fail
            clear cFS_0 cFS_1 cFS_2
            refine (implFirst_c D k cE t HF.out.bd pE _ LE.out).mono ?_
            rw [NF.out.fve, NF.out.fce]
            rintro x w23 ⟨rfl, hb⟩
            replace FS := Lib.hid (heap_below hb (lt_of_heap FS.out) FS.out)
            replace LA := Lib.hid (PB_i64_keep hb LA.out)
            replace LE := Lib.hid (PB_i64_keep hb LE.out)
            replace HA := Lib.hid (CvS_below hb HA.out)
            replace hB := bt hB hb
            clear hb
            have cFS_0 := blk3_0 FS.out
            have cFS_1 := blk3_1 FS.out
            have cFS_2 := blk3_2 FS.out
            go_wp2_with fail
            clear cFS_0 cFS_1 cFS_2
            refine (specFirst_c D k cE t HF.out.bd pE _ _ LE.out).mono ?_
            rw [NF.out.fve, NF.out.fce]
            rintro x w9 ⟨rfl, rfl⟩
            have s1 : ((N : Int) != (N : Int)) = false := by simp
            have s2 : (L != L) = false := by simp
            have s3 : (fc != fc) = false := by simp
            have s4 : (fv != fv) = false := by simp
            go_wp2_with fail
            clear s1 s2 s3 s4
            as_aux_lemma =>
              obtain ⟨lr0, lr1⟩ := NF.out.lr
              have hnl : IntKind.i64.wrap (-L) = -L := Go.IntWalk.i64_in _ (by omega)
              have hml := abs_max L
              go_loop [36, 37] (fun i _ => ∃ i' : Nat, i' ≤ k ∧ i = .int .i64 i') (fun i _ => k - (intOf i).toNat)
              case atStart => exact ⟨0, by omega, rfl⟩
              case round =>
                obtain ⟨i, hi, rfl⟩ := hrel
                by_cases hlt : i < k
                · have hik : (i : Int) < k := by omega
                  obtain ⟨bE, oE, rfl, -, hcE⟩ := LE.out (neL_of_lt_i64 (k := i) (by rw [HF.out.ld]; exact hlt))
                  have cE1 := hcE i (by rw [HF.out.ld]; exact hlt)
                  have hdr := HF.out.bd.get hlt
                  have hnr := NF.out.near i hlt
                  have hcd := NF.out.code
                  obtain ⟨y, hy⟩ : ∃ y, y = D.getD i 0 := ⟨_, rfl⟩
                  rw [← hy] at cE1 hdr hnr
                  obtain ⟨y0, y1⟩ := hdr
                  have hyw : IntKind.i64.wrap (y - t) = y - t := Go.IntWalk.i64_in _ (by omega)
                  have hnw : IntKind.i64.wrap (-(y - t)) = -(y - t) := Go.IntWalk.i64_in _ (by omega)
                  have hmz := abs_max (y - t)
                  have s1 : decide (absV (y - t) < absV L) = false := decide_eq_false (by omega)
                  clear hcE
                  rcases hcd with ⟨rfl, hall⟩ | ⟨rfl, hf0, hall⟩
                  · have hlt2 := hall i hlt
                    rw [← hy] at hlt2
                    have s2 : decide ((0 : Int) ≤ y - t) = false := decide_eq_false (by omega)
                    generalize absV (y - t) = u at *
                    generalize absV L = v at *
                    clear hy hnr hall
                    go_wp2
                    go_round
                    case rel => exact ⟨i + 1, by omega, by go_num⟩
                    case measure => simp [intOf]; omega
                  · by_cases hif : (i : Int) < fv
                    · have hlt2 := hall i hlt hif
                      rw [← hy] at hlt2
                      have s2 : decide ((0 : Int) ≤ y - t) = false := decide_eq_false (by omega)
                      generalize absV (y - t) = u at *
                      generalize absV L = v at *
                      clear hy hnr hall
                      go_wp2
                      go_round
                      case rel => exact ⟨i + 1, by omega, by go_num⟩
                      case measure => simp [intOf]; omega
                    · generalize absV (y - t) = u at *
                      generalize absV L = v at *
                      clear hy hnr hall
                      go_wp2
                      go_round
                      case rel => exact ⟨i + 1, by omega, by go_num⟩
                      case measure => simp [intOf]; omega
                · have hie : i = k := by omega
                  subst hie
                  clear hnl hml lr0 lr1 NF hlt hi
                  obtain ⟨lv, ln, lc, hLB⟩ := lbf_of HQ.out.good d t
                  have LBF := Lib.hid hLB
                  clear hLB
                  have cFS_0 := blk3_0 FS.out
                  have cFS_1 := blk3_1 FS.out
                  have cFS_2 := blk3_2 FS.out
                  go_wp2_with fail
                  clear cFS_0 cFS_1 cFS_2
                  refine (implLbs_c p m c q HQ.out HM.out hm2 d t d0 (by omega) t0 (by omega) _ HA.out).mono ?_
                  rw [LBF.out.v, LBF.out.n, LBF.out.c]
                  rintro x w24 ⟨rfl, hb⟩
                  replace FS := Lib.hid (heap_below hb (lt_of_heap FS.out) FS.out)
                  replace LA := Lib.hid (PB_i64_keep hb LA.out)
                  replace LE := Lib.hid (PB_i64_keep hb LE.out)
                  replace HA := Lib.hid (CvS_below hb HA.out)
                  replace hB := bt hB hb
                  clear hb
                  have cFS_0 := blk3_0 FS.out
                  have cFS_1 := blk3_1 FS.out
                  have cFS_2 := blk3_2 FS.out
                  go_wp2_with fail
                  clear cFS_0 cFS_1 cFS_2
                  refine (specLbs_c p m c q HQ.out HM.out hm2 d t d0 (by omega) t0 (by omega) _ HA.out).mono ?_
                  rw [LBF.out.v, LBF.out.n, LBF.out.c]
                  rintro x w25 ⟨rfl, hb⟩
                  replace FS := Lib.hid (heap_below hb (lt_of_heap FS.out) FS.out)
                  replace LA := Lib.hid (PB_i64_keep hb LA.out)
                  replace LE := Lib.hid (PB_i64_keep hb LE.out)
                  replace HA := Lib.hid (CvS_below hb HA.out)
                  replace hB := bt hB hb
                  clear hb
                  have s1 : (lc != lc) = false := by simp
                  have s2 : (lv != lv) = false := by simp
                  have s3 : (ln != ln) = false := by simp
                  go_wp2_with fail
                  clear s1 s2 s3
                  as_aux_lemma =>
                    go_loopw [44, 45, 46] (fun xv _ _ wr => ∃ x : Nat, x ≤ 37 ∧ xv = .int .i64 x ∧ wr.heap[gs]? = some (.cells #[.int .i8 a, .int .i8 e, .int .i8 i] 26 (0, 0)) ∧ PB_i64 wr wr.heap.size pA X ∧ CvS wr p q ∧ Below w.heap.size w wr) (fun xv _ _ _ => 37 - (intOf xv).toNat)
                    case atStart => exact ⟨0, by omega, rfl, FS.out, LA.out, HA.out, hB⟩
                    case round =>
                      clear FS LA HA hB LE
                      obtain ⟨x, hx, rfl, hS, hP, hp, hB⟩ := hrel
                      have FS := Lib.hid hS
                      have LA := Lib.hid hP
                      have HA := Lib.hid hp
                      clear hS hP hp
                      generalize wr = w60 at *
                      by_cases hlt : x ≤ 36
                      · have hx36 : (x : Int) ≤ 36 := by omega
                        have hx8 := Go.IntWalk.i8_in (x : Int) (by omega)
                        have hcd := LBF.out.code
                        have HBo := Lib.hid (fun w hp => bandsOne_c x hlt p m c q HQ.out HM.out hm2 d d0 (by omega) w hp)
                        obtain ⟨y, hy⟩ : ∃ y, y = darkV q x d := ⟨_, rfl⟩
                        rw [← hy] at HBo
                        rcases hcd with ⟨rfl, hall⟩ | ⟨rfl, hall⟩
                        · have hlt2 := hall x hlt
                          rw [← hy] at hlt2
                          have s1 : decide (t ≤ y) = false := decide_eq_false (by omega)
                          clear hy hall
                          go_wp2_with fail
                          refine (HBo.out _ HA.out).mono ?_
                          rintro z w61 ⟨bo, oo, co, rfl, hc, hb⟩
                          have HRL : Hid (w61.heap[gs]? = some (.cells #[.int .i8 a, .int .i8 e, .int .i8 i] 26 (0, 0)) ∧ PB_i64 w61 w61.heap.size pA X ∧ CvS w61 p q ∧ Below w.heap.size w w61) := Lib.hid ⟨heap_below hb (lt_of_heap FS.out) FS.out, PB_i64_keep hb LA.out, CvS_below hb HA.out, bt hB hb⟩
                          clear hb
                          go_wp2
                          go_roundw
                          case rel => exact ⟨x + 1, by omega, by go_num, HRL.out⟩
                          case measure => simp [intOf]; omega
                        · have hiff := hall x hlt
                          rw [← hy] at hiff
                          by_cases hle : lv ≤ x
                          · have s1 : decide (t ≤ y) = true := decide_eq_true (hiff.2 hle)
                            have s2 : decide (lv ≤ (x : Int)) = true := decide_eq_true hle
                            clear hy hall hiff
                            go_wp2_with fail
                            refine (HBo.out _ HA.out).mono ?_
                            rintro z w61 ⟨bo, oo, co, rfl, hc, hb⟩
                            have HRL : Hid (w61.heap[gs]? = some (.cells #[.int .i8 a, .int .i8 e, .int .i8 i] 26 (0, 0)) ∧ PB_i64 w61 w61.heap.size pA X ∧ CvS w61 p q ∧ Below w.heap.size w w61) := Lib.hid ⟨heap_below hb (lt_of_heap FS.out) FS.out, PB_i64_keep hb LA.out, CvS_below hb HA.out, bt hB hb⟩
                            clear hb
                            go_wp2
                            go_roundw
                            case rel => exact ⟨x + 1, by omega, by go_num, HRL.out⟩
                            case measure => simp [intOf]; omega
                          · have s1 : decide (t ≤ y) = false := decide_eq_false (fun h => hle (hiff.1 h))
                            have s2 : decide (lv ≤ (x : Int)) = false := decide_eq_false hle
                            clear hy hall hiff
                            go_wp2_with fail
                            refine (HBo.out _ HA.out).mono ?_
                            rintro z w61 ⟨bo, oo, co, rfl, hc, hb⟩
                            have HRL : Hid (w61.heap[gs]? = some (.cells #[.int .i8 a, .int .i8 e, .int .i8 i] 26 (0, 0)) ∧ PB_i64 w61 w61.heap.size pA X ∧ CvS w61 p q ∧ Below w.heap.size w w61) := Lib.hid ⟨heap_below hb (lt_of_heap FS.out) FS.out, PB_i64_keep hb LA.out, CvS_below hb HA.out, bt hB hb⟩
                            clear hb
                            go_wp2
                            go_roundw
                            case rel => exact ⟨x + 1, by omega, by go_num, HRL.out⟩
                            case measure => simp [intOf]; omega
                      · have hx37 : x = 37 := by omega
                        subst hx37
                        clear hlt hx HA LBF
                        as_aux_lemma =>
                          have cFS_0 := blk3_0 FS.out
                          have cFS_1 := blk3_1 FS.out
                          have cFS_2 := blk3_2 FS.out
                          go_wp2_with fail
                          clear cFS_0 cFS_1 cFS_2
                          refine (p6PickG_c v2 n2 _ (bytes_keep H2.out hB) i (by omega)).mono ?_
                          rintro e w61 ⟨bd, rfl, b0, b1, hb⟩
                          replace FS := Lib.hid (heap_below hb (lt_of_heap FS.out) FS.out)
                          replace LA := Lib.hid (PB_i64_keep hb LA.out)
                          replace hB := bt hB hb
                          clear hb
                          obtain ⟨B, rfl⟩ := Int.eq_ofNat_of_zero_le b0
                          have hBi : B < i := by omega
                          have HFO := Lib.hid (fin_ok HST.out hBi)
                          clear b0 b1
                          have cFS_0 := blk3_0 FS.out
                          have cFS_1 := blk3_1 FS.out
                          have cFS_2 := blk3_2 FS.out
                          go_wp2_with fail
                          clear cFS_0 cFS_1 cFS_2
                          refine (implFiner_c a e i HST.out B hBi _).mono ?_
                          rintro e w62 ⟨rfl, hb⟩
                          replace FS := Lib.hid (heap_below hb (lt_of_heap FS.out) FS.out)
                          replace LA := Lib.hid (PB_i64_keep hb LA.out)
                          replace hB := bt hB hb
                          clear hb
                          generalize hfa : finA a e B = fa at *
                          generalize hfn : finN i fa = fn at *
                          have hbA := bl1 w62 (.cells #[.int .i8 fa, .int .i8 1, .int .i8 fn] 26)
                          replace FS := Lib.hid (heap_below hbA (lt_of_heap FS.out) FS.out)
                          replace LA := Lib.hid (PB_i64_keep hbA LA.out)
                          have FI := Lib.hid (al1_0 w62 (.cells #[.int .i8 fa, .int .i8 1, .int .i8 fn] 26))
                          replace hB := bt hB hbA
                          clear hbA
                          have cFS_0 := blk3_0 FS.out
                          have cFS_1 := blk3_1 FS.out
                          have cFS_2 := blk3_2 FS.out
                          have cFI_0 := blk3_0 FI.out
                          have cFI_1 := blk3_1 FI.out
                          have cFI_2 := blk3_2 FI.out
                          go_wp2_with fail
                          clear cFS_0 cFS_1 cFS_2 cFI_0 cFI_1 cFI_2
                          generalize w62.alloc (.cells #[.int .i8 fa, .int .i8 1, .int .i8 fn] 26) = w63 at *
                          generalize w62.heap.size = gi at *
                          refine (specFiner_c a e i HST.out B hBi _).mono ?_
                          rw [hfa, hfn]
                          rintro x w64 ⟨rfl, hb⟩
                          replace FS := Lib.hid (heap_below hb (lt_of_heap FS.out) FS.out)
                          replace FI := Lib.hid (heap_below hb (lt_of_heap FI.out) FI.out)
                          replace LA := Lib.hid (PB_i64_keep hb LA.out)
                          replace hB := bt hB hb
                          clear hb
                          have hbA := bl1 w64 (.cells #[.int .i8 fa, .int .i8 1, .int .i8 fn] 26)
                          replace FS := Lib.hid (heap_below hbA (lt_of_heap FS.out) FS.out)
                          replace FI := Lib.hid (heap_below hbA (lt_of_heap FI.out) FI.out)
                          replace LA := Lib.hid (PB_i64_keep hbA LA.out)
                          have FJ := Lib.hid (al1_0 w64 (.cells #[.int .i8 fa, .int .i8 1, .int .i8 fn] 26))
                          replace hB := bt hB hbA
                          clear hbA
                          go_upto_region 47 with fail
                          generalize w64.alloc (.cells #[.int .i8 fa, .int .i8 1, .int .i8 fn] 26) = w65 at *
                          generalize w64.heap.size = gj at *
                          obtain ⟨f0, f1, f2, f3, f4, f5⟩ := HFO.out
                          have hxp := HF.out.pos B hBi
                          have hlk : ligK a e B = X.getD B 0 := by rw [hxp]; unfold ligK; rw [Int.mul_comm]
                          rw [hlk] at f1
                          obtain ⟨bA, oA, rfl, hbA, hcA⟩ := LA.out (neL_of_lt_i64 (k := B) (by rw [HF.out.lx]; exact hBi))
                          have hcA1 := hcA B (by rw [HF.out.lx]; exact hBi)
                          have HCA := Lib.hid hcA1
                          generalize X.getD B 0 = x at *
                          have HV8 : Hid (Sr8 fa 1 fn) := Lib.hid ⟨by omega, by omega, by omega⟩
                          have HVok : Hid (srB fa 1 fn = true) := Lib.hid ((srB_iff _ _ _).2 ⟨⟨by omega, by omega⟩, by omega, by omega, by omega, by omega⟩)
                          have q1 : decide (fa ≤ x) = true := decide_eq_true f1
                          have q2 : (fa == fa) = true := by simp
                          have q3 : (fn == fn) = true := by simp
                          have q4 : ((1 : Int) == 1) = true := by simp
                          have hfw := Go.IntWalk.i64_in fa (by omega)
                          have hBw : (B : Int) < i := by omega
                          have HK : Hid (∀ w', Below w65.heap.size w65 w' → (Below w65.heap.size w65 w' ∧ (w'.cell? ⟨gi, 0, none⟩ = some (.int .i8 fa) ∧ w'.cell? ⟨gi, 1, none⟩ = some (.int .i8 1) ∧ w'.cell? ⟨gi, 2, none⟩ = some (.int .i8 fn)) ∧ (w'.cell? ⟨gj, 0, none⟩ = some (.int .i8 fa) ∧ w'.cell? ⟨gj, 1, none⟩ = some (.int .i8 1) ∧ w'.cell? ⟨gj, 2, none⟩ = some (.int .i8 fn)) ∧ w'.cell? ⟨bA, oA + B, none⟩ = some (.int .i64 x))) := Lib.hid fun w' hb => by
                            have k1 := heap_below hb (lt_of_heap FI.out) FI.out
                            have k2 := heap_below hb (lt_of_heap FJ.out) FJ.out
                            exact ⟨hb, ⟨blk3_0 k1, blk3_1 k1, blk3_2 k1⟩, ⟨blk3_0 k2, blk3_1 k2, blk3_2 k2⟩, by rw [hb.cell (p := ⟨bA, oA + B, none⟩) hbA]; exact HCA.out⟩
                          have s0 := HK.out _ (Below.refl _ _)
                          clear hcA hcA1 hfa hfn HFO HF hxp hlk f0 f1 f2 f3 f4 f5
                          go_region_held3 (fun w' => Below w65.heap.size w65 w' ∧ (w'.cell? ⟨gi, 0, none⟩ = some (.int .i8 fa) ∧ w'.cell? ⟨gi, 1, none⟩ = some (.int .i8 1) ∧ w'.cell? ⟨gi, 2, none⟩ = some (.int .i8 fn)) ∧ (w'.cell? ⟨gj, 0, none⟩ = some (.int .i8 fa) ∧ w'.cell? ⟨gj, 1, none⟩ = some (.int .i8 1) ∧ w'.cell? ⟨gj, 2, none⟩ = some (.int .i8 fn)) ∧ w'.cell? ⟨bA, oA + B, none⟩ = some (.int .i64 x))
                            (first | (with_reducible assumption) | exact HK.out _ (bl_drew (Below.refl _ _)))
                            (first
                              | (go_at_call 18; refine (srValid_c fa 1 fn HV8.out _).mono ?_; rw [HVok.out]; rintro e9 w9 ⟨rfl, hb9⟩; have s9 := HK.out _ (bt (‹Below w65.heap.size w65 _ ∧ _›).1 hb9)))
                          all_goals go_wp2
                          all_goals (first | (refine HQ0 _ _ _ ?_; go_ret) | go_ret)
                          all_goals exact ⟨rfl, bt hB (‹Below w65.heap.size w65 _ ∧ _›).1⟩
end Go.Proofs.YtbcahfiknelkcaaGreatDoor
