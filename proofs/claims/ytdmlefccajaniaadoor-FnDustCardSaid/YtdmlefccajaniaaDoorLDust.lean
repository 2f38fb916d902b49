/- FnDust: the law's walk. -/
import Derived.Test.YtdmlefccajaniaaDoorDustR
import Derived.Test.YtdmlefccajaniaaDoorCopD
import Derived.Test.YtdmlefccajaniaaDoorEqArr
import Derived.Test.YtdmlefccajaniaaDoorFew
import Derived.Test.YtdmlefccajaniaaDoorClean
import Derived.Test.YtdmlefccajaniaaDoorScratchI
import Derived.Test.YtdmlefccajaniaaDoorSrc
import Derived.BigQuiet
import Derived.Lib.QuietBelow
namespace Go.Proofs.YtdmlefccajaniaaDoor
open Go.RowKit Go.Lib Go.Sort
theorem TabAt_blD {w w1 : World} (hb : Below w.heap.size w w1) (h : TabAt w) : TabAt w1 := TabAt_below hb (TabAt_pos h) h
set_option maxHeartbeats 40000000 in
set_option maxRecDepth 100000 in
theorem lawDust_c (v1 : Value) (n1 : Nat) (v2 : Value) (n2 : Nat) (w : World) (h1 : Bytes w v1 n1) (h2 : Bytes w v2 n2) (hT : TabAt w) :
    Calls Tryd.prog 4 #[v1, v2] w fun e w' => e = .returned (.bool true) ∧ Below w.heap.size w w' := by
  obtain ⟨p1, c1, e1, -, -⟩ := bytes_shape h1
  obtain ⟨p2, c2, e2, -, -⟩ := bytes_shape h2
  have hz := TabAt_pos hT
  have H1 := Lib.hid h1
  have H2 := Lib.hid h2
  have HT := Lib.hid hT
  have CL1 : Hid (∀ w0 : World, Calls Tryd.prog 7 #[v1] w0 fun e w' => e = .returned (.bool (decide (4096 < (n1 : Int)))) ∧ w0 = w') := Lib.hid fun w0 => f6bigG_c v1 n1 p1 c1 e1 w0
  have CL2 : Hid (∀ w0 : World, Calls Tryd.prog 7 #[v2] w0 fun e w' => e = .returned (.bool (decide (4096 < (n2 : Int)))) ∧ w0 = w') := Lib.hid fun w0 => f6bigG_c v2 n2 p2 c2 e2 w0
  clear h1 h2 e1 e2 p1 c1 p2 c2 hT
  by_cases hl : 4096 < (n1 : Int)
  · have HLong : Hid (decide (4096 < (n1 : Int)) = true) := Lib.hid (by simpa using hl)
    clear hl
    go_enter Tryd.func4, Tryd.ntmps4
    go_wp2_with fail
    refine (CL1.out _).mono ?_
    rintro e w' ⟨rfl, rfl⟩
    rw [HLong.out]
    go_wp2
    go_ret
    exact ⟨rfl, Below.refl _ _⟩
  have HLong : Hid (decide (4096 < (n1 : Int)) = false) := Lib.hid (by simpa using hl)
  by_cases hl2 : 4096 < (n2 : Int)
  · have HLong2 : Hid (decide (4096 < (n2 : Int)) = true) := Lib.hid (by simpa using hl2)
    clear hl hl2
    go_enter Tryd.func4, Tryd.ntmps4
    go_wp2_with fail
    refine (CL1.out _).mono ?_
    rintro e w' ⟨rfl, rfl⟩
    rw [HLong.out]
    go_wp2_with fail
    refine (CL2.out _).mono ?_
    rintro e w' ⟨rfl, rfl⟩
    rw [HLong2.out]
    go_wp2
    go_ret
    exact ⟨rfl, Below.refl _ _⟩
  have HLong2 : Hid (decide (4096 < (n2 : Int)) = false) := Lib.hid (by simpa using hl2)
  clear hl hl2
  go_enter Tryd.func4, Tryd.ntmps4
  refine wp_var fun Q0 HQ0 => ?_
  go_wp2_with fail
  refine (CL1.out _).mono ?_
  rintro e w' ⟨rfl, rfl⟩
  rw [HLong.out]
  go_wp2_with fail
  refine (CL2.out _).mono ?_
  rintro e w' ⟨rfl, rfl⟩
  rw [HLong2.out]
  clear HLong HLong2 CL1 CL2
  go_wp2_with fail
  refine (p6Copies_c _ _ _ H1.out).mono ?_
  rintro e w1 ⟨pr, cp, l, rfl, l1, l5, hPl, hok, hR, hb1⟩
  obtain ⟨q, cap, hvl, hps⟩ := rowP_PS hR hPl
  simp only [Value.slice.injEq] at hvl
  obtain ⟨rfl, -, rfl⟩ := hvl
  have HB1 := Lib.hid hb1
  have X1 := Lib.hid (bytes_keep H2.out hb1)
  have T1 := Lib.hid (TabAt_blD hb1 HT.out)
  have P1 := Lib.hid hps
  have HPL := Lib.hid hPl
  have HOK := Lib.hid hok
  obtain ⟨n, hn⟩ : ∃ n, n = l.length := ⟨_, rfl⟩
  have HN := Lib.hid hn
  have hn1 : 1 ≤ n := by omega
  have hn5 : n ≤ 5 := by omega
  rw [← hn]
  clear hR hb1 hps hPl hok hn l1 l5 H1 H2
  go_wp2_with fail
  refine (p6PickG_c _ _ _ X1.out 40 (by omega)).mono ?_
  rintro e w2 ⟨wi, rfl, i0, i1, hb2⟩
  have hwi : wi ≤ 39 := by omega
  have HB2 := Lib.hid (bt HB1.out hb2)
  have T2 := Lib.hid (TabAt_blD hb2 T1.out)
  have P2 := Lib.hid (PS_below hb2 P1.out)
  have hCp : Cps l wi := ⟨by rw [← HN.out]; exact hn1, by rw [← HN.out]; omega, HOK.out, i0, hwi⟩
  obtain ⟨D, O, V, a, e, s, b, bn, hdf⟩ := df_of hCp
  rw [← HN.out] at hdf
  have HF := Lib.hid hdf
  have HLD : Hid ((arr .i16 D).size = 64) := Lib.hid (by rw [arr_size, HF.out.dD.1])
  have HLO : Hid ((arr .i16 O).size = 64) := Lib.hid (by rw [arr_size, HF.out.dO.1])
  have HnL := Lib.hid (show n = l.length from HN.out)
  clear hb2 hdf hCp i1 X1 T1 P1 HB1 HOK
  go_wp2_with fail
  refine (implMP_c pr n cp l HPL.out HnL.out (by omega) _ P2.out).mono ?_
  rw [HF.out.mp]
  rintro e3 w3 ⟨rfl, hb3⟩
  have P3 := Lib.hid (PS_below hb3 P2.out)
  have T3 := Lib.hid (TabAt_blD hb3 T2.out)
  have HB3 := Lib.hid (bt HB2.out hb3)
  clear hb3 P2 T2 HB2 
  have KA_4 := Lib.hid (setRow_heap (w3.alloc (.cells (arr .i16 Z64) 37)) w3.heap.size _ (arr .i16 D) 37 (0, 0) (al1_0 _ _))
  have hb4 : Below w3.heap.size w3 ((w3.alloc (.cells (arr .i16 Z64) 37)).setRow w3.heap.size (arr .i16 D)) := below_setRow (bl1 w3 (.cells (arr .i16 Z64) 37)) (Nat.le_refl _) (arr .i16 D)
  have P4 := Lib.hid (PS_below hb4 P3.out)
  have T4 := Lib.hid (TabAt_blD hb4 T3.out)
  have HB4 := Lib.hid (bt HB3.out hb4)
  clear hb4 P3 T3 HB3 
  go_upto_region 7 with (rw [z64_Z]; refine wpList_store_row rfl 37 (.tmp 8) (.tmp 60) rfl w3.heap.size (arr .i16 D) rfl rfl 37 (arr .i16 Z64) (al1_0 _ _) (by rw [szPrint, HLD.out]) (by rw [HLD.out, arr_size, Z64_length]) (arr_one _ _) ?_)
  generalize (w3.alloc (.cells (arr .i16 Z64) 37)).setRow w3.heap.size (arr .i16 D) = w4 at *
  generalize w3.heap.size = gA at *
  go_wp2_with fail
  refine (specMP_c pr n cp l HPL.out HnL.out (by omega) _ P4.out).mono ?_
  rw [HF.out.mp]
  rintro e5 w5 ⟨rfl, hb5⟩
  have P5 := Lib.hid (PS_below hb5 P4.out)
  have T5 := Lib.hid (TabAt_blD hb5 T4.out)
  have HB5 := Lib.hid (bt HB4.out hb5)
  have KA_5 := Lib.hid (heap_below hb5 (lt_of_heap KA_4.out) KA_4.out)
  clear hb5 P4 T4 HB4 KA_4
  have KB_6 := Lib.hid (setRow_heap (w5.alloc (.cells (arr .i16 Z64) 37)) w5.heap.size _ (arr .i16 D) 37 (0, 0) (al1_0 _ _))
  have hb6 : Below w5.heap.size w5 ((w5.alloc (.cells (arr .i16 Z64) 37)).setRow w5.heap.size (arr .i16 D)) := below_setRow (bl1 w5 (.cells (arr .i16 Z64) 37)) (Nat.le_refl _) (arr .i16 D)
  have P6 := Lib.hid (PS_below hb6 P5.out)
  have T6 := Lib.hid (TabAt_blD hb6 T5.out)
  have HB6 := Lib.hid (bt HB5.out hb6)
  have KA_6 := Lib.hid (heap_below hb6 (lt_of_heap KA_5.out) KA_5.out)
  clear hb6 P5 T5 HB5 KA_5
  go_upto_region 8 with (rw [z64_Z]; refine wpList_store_row rfl 37 (.tmp 10) (.tmp 65) rfl w5.heap.size (arr .i16 D) rfl rfl 37 (arr .i16 Z64) (al1_0 _ _) (by rw [szPrint, HLD.out]) (by rw [HLD.out, arr_size, Z64_length]) (arr_one _ _) ?_)
  generalize (w5.alloc (.cells (arr .i16 Z64) 37)).setRow w5.heap.size (arr .i16 D) = w6 at *
  generalize w5.heap.size = gB at *
  go_wp2_with fail
  refine (implBoc_c pr n cp l HPL.out HnL.out (by omega) wi _ P6.out T6.out).mono ?_
  rw [HF.out.bo]
  rintro e7 w7 ⟨rfl, hb7⟩
  have P7 := Lib.hid (PS_below hb7 P6.out)
  have T7 := Lib.hid (TabAt_blD hb7 T6.out)
  have HB7 := Lib.hid (bt HB6.out hb7)
  have KA_7 := Lib.hid (heap_below hb7 (lt_of_heap KA_6.out) KA_6.out)
  have KB_7 := Lib.hid (heap_below hb7 (lt_of_heap KB_6.out) KB_6.out)
  clear hb7 P6 T6 HB6 KA_6 KB_6
  have KC_8 := Lib.hid (setRow_heap (w7.alloc (.cells (arr .i16 Z64) 37)) w7.heap.size _ (arr .i16 O) 37 (0, 0) (al1_0 _ _))
  have hb8 : Below w7.heap.size w7 ((w7.alloc (.cells (arr .i16 Z64) 37)).setRow w7.heap.size (arr .i16 O)) := below_setRow (bl1 w7 (.cells (arr .i16 Z64) 37)) (Nat.le_refl _) (arr .i16 O)
  have P8 := Lib.hid (PS_below hb8 P7.out)
  have T8 := Lib.hid (TabAt_blD hb8 T7.out)
  have HB8 := Lib.hid (bt HB7.out hb8)
  have KA_8 := Lib.hid (heap_below hb8 (lt_of_heap KA_7.out) KA_7.out)
  have KB_8 := Lib.hid (heap_below hb8 (lt_of_heap KB_7.out) KB_7.out)
  clear hb8 P7 T7 HB7 KA_7 KB_7
  go_upto_region 9 with (rw [z64_Z]; refine wpList_store_row rfl 37 (.tmp 12) (.tmp 71) rfl w7.heap.size (arr .i16 O) rfl rfl 37 (arr .i16 Z64) (al1_0 _ _) (by rw [szPrint, HLO.out]) (by rw [HLO.out, arr_size, Z64_length]) (arr_one _ _) ?_)
  generalize (w7.alloc (.cells (arr .i16 Z64) 37)).setRow w7.heap.size (arr .i16 O) = w8 at *
  generalize w7.heap.size = gC at *
  go_wp2_with fail
  refine (specBoc_c pr n cp l HPL.out HnL.out (by omega) wi _ P8.out).mono ?_
  rw [HF.out.bo]
  rintro e9 w9 ⟨rfl, hb9⟩
  have P9 := Lib.hid (PS_below hb9 P8.out)
  have T9 := Lib.hid (TabAt_blD hb9 T8.out)
  have HB9 := Lib.hid (bt HB8.out hb9)
  have KA_9 := Lib.hid (heap_below hb9 (lt_of_heap KA_8.out) KA_8.out)
  have KB_9 := Lib.hid (heap_below hb9 (lt_of_heap KB_8.out) KB_8.out)
  have KC_9 := Lib.hid (heap_below hb9 (lt_of_heap KC_8.out) KC_8.out)
  clear hb9 P8 T8 HB8 KA_8 KB_8 KC_8
  have KE_10 := Lib.hid (setRow_heap (w9.alloc (.cells (arr .i16 Z64) 37)) w9.heap.size _ (arr .i16 O) 37 (0, 0) (al1_0 _ _))
  have hb10 : Below w9.heap.size w9 ((w9.alloc (.cells (arr .i16 Z64) 37)).setRow w9.heap.size (arr .i16 O)) := below_setRow (bl1 w9 (.cells (arr .i16 Z64) 37)) (Nat.le_refl _) (arr .i16 O)
  have P10 := Lib.hid (PS_below hb10 P9.out)
  have T10 := Lib.hid (TabAt_blD hb10 T9.out)
  have HB10 := Lib.hid (bt HB9.out hb10)
  have KA_10 := Lib.hid (heap_below hb10 (lt_of_heap KA_9.out) KA_9.out)
  have KB_10 := Lib.hid (heap_below hb10 (lt_of_heap KB_9.out) KB_9.out)
  have KC_10 := Lib.hid (heap_below hb10 (lt_of_heap KC_9.out) KC_9.out)
  clear hb10 P9 T9 HB9 KA_9 KB_9 KC_9
  go_upto_region 10 with (rw [z64_Z]; refine wpList_store_row rfl 37 (.tmp 15) (.tmp 78) rfl w9.heap.size (arr .i16 O) rfl rfl 37 (arr .i16 Z64) (al1_0 _ _) (by rw [szPrint, HLO.out]) (by rw [HLO.out, arr_size, Z64_length]) (arr_one _ _) ?_)
  generalize (w9.alloc (.cells (arr .i16 Z64) 37)).setRow w9.heap.size (arr .i16 O) = w10 at *
  generalize w9.heap.size = gE at *
  go_wp2_with fail
  refine (implCC_c pr n cp l HPL.out HnL.out (by omega) wi _ P10.out).mono ?_
  rw [HF.out.cl]
  rintro e11 w11 ⟨rfl, hb11⟩
  have P11 := Lib.hid (PS_below hb11 P10.out)
  have T11 := Lib.hid (TabAt_blD hb11 T10.out)
  have HB11 := Lib.hid (bt HB10.out hb11)
  have KA_11 := Lib.hid (heap_below hb11 (lt_of_heap KA_10.out) KA_10.out)
  have KB_11 := Lib.hid (heap_below hb11 (lt_of_heap KB_10.out) KB_10.out)
  have KC_11 := Lib.hid (heap_below hb11 (lt_of_heap KC_10.out) KC_10.out)
  have KE_11 := Lib.hid (heap_below hb11 (lt_of_heap KE_10.out) KE_10.out)
  clear hb11 P10 T10 HB10 KA_10 KB_10 KC_10 KE_10
  go_wp2_with fail
  refine (specCC_c pr n cp l HPL.out HnL.out (by omega) wi _ P11.out).mono ?_
  rw [HF.out.cl]
  rintro e12 w12 ⟨rfl, hb12⟩
  have P12 := Lib.hid (PS_below hb12 P11.out)
  have T12 := Lib.hid (TabAt_blD hb12 T11.out)
  have HB12 := Lib.hid (bt HB11.out hb12)
  have KA_12 := Lib.hid (heap_below hb12 (lt_of_heap KA_11.out) KA_11.out)
  have KB_12 := Lib.hid (heap_below hb12 (lt_of_heap KB_11.out) KB_11.out)
  have KC_12 := Lib.hid (heap_below hb12 (lt_of_heap KC_11.out) KC_11.out)
  have KE_12 := Lib.hid (heap_below hb12 (lt_of_heap KE_11.out) KE_11.out)
  clear hb12 P11 T11 HB11 KA_11 KB_11 KC_11 KE_11
  go_wp2_with fail
  refine (implFew_c pr n cp l HPL.out HnL.out (by omega) wi _ P12.out T12.out).mono ?_
  rintro e13 w13 ⟨v13L, rfl, hR13, hb13⟩
  rw [HF.out.fw]
  rw [HF.out.fw] at hR13
  obtain ⟨s13, cs13, hv13, hp13⟩ := PB_i64_row hR13
  rw [← HF.out.bl] at hv13
  subst hv13
  have L13 := Lib.hid hp13
  clear hR13 hp13
  have P13 := Lib.hid (PS_below hb13 P12.out)
  have T13 := Lib.hid (TabAt_blD hb13 T12.out)
  have HB13 := Lib.hid (bt HB12.out hb13)
  have KA_13 := Lib.hid (heap_below hb13 (lt_of_heap KA_12.out) KA_12.out)
  have KB_13 := Lib.hid (heap_below hb13 (lt_of_heap KB_12.out) KB_12.out)
  have KC_13 := Lib.hid (heap_below hb13 (lt_of_heap KC_12.out) KC_12.out)
  have KE_13 := Lib.hid (heap_below hb13 (lt_of_heap KE_12.out) KE_12.out)
  clear hb13 P12 T12 HB12 KA_12 KB_12 KC_12 KE_12
  go_wp2_with fail
  refine (specFew_c pr n cp l HPL.out HnL.out (by omega) wi _ P13.out).mono ?_
  rintro e14 w14 ⟨v14L, rfl, hR14, hb14⟩
  rw [HF.out.fw]
  rw [HF.out.fw] at hR14
  obtain ⟨s14, cs14, hv14, hp14⟩ := PB_i64_row hR14
  rw [← HF.out.bl] at hv14
  subst hv14
  have L14 := Lib.hid hp14
  clear hR14 hp14
  have L13_14 := Lib.hid (PB_i64_keep hb14 L13.out)
  clear L13
  have P14 := Lib.hid (PS_below hb14 P13.out)
  have T14 := Lib.hid (TabAt_blD hb14 T13.out)
  have HB14 := Lib.hid (bt HB13.out hb14)
  have KA_14 := Lib.hid (heap_below hb14 (lt_of_heap KA_13.out) KA_13.out)
  have KB_14 := Lib.hid (heap_below hb14 (lt_of_heap KB_13.out) KB_13.out)
  have KC_14 := Lib.hid (heap_below hb14 (lt_of_heap KC_13.out) KC_13.out)
  have KE_14 := Lib.hid (heap_below hb14 (lt_of_heap KE_13.out) KE_13.out)
  clear hb14 P13 T13 HB13 KA_13 KB_13 KC_13 KE_13
  have s1 : ((V : Int) != (V : Int)) = false := by simp
  have s2 : ((a : Int) != (a : Int)) = false := by simp
  have s3 : ((e : Int) != (e : Int)) = false := by simp
  generalize hAD : arr .i16 D = AD at *
  generalize hAO : arr .i16 O = AO at *
  have HAD := Lib.hid hAD
  have HAO := Lib.hid hAO
  clear hAD hAO
  go_upto_region 16 with (first
    | (show wpList _ _ _ (⟨some 115, _, _, _, _, _⟩ :: _) _ _; refine wpList_load_rowE (by rfl) 37 (.tmp 8) (by rfl) gA (by rfl) _ _ _ _ KA_14.out Tryd.underlying37 rfl (by rw [szPrint, HLD.out]) ?_)
    | (show wpList _ _ _ (⟨some 116, _, _, _, _, _⟩ :: _) _ _; refine wpList_load_rowE (by rfl) 37 (.tmp 10) (by rfl) gB (by rfl) _ _ _ _ KB_14.out Tryd.underlying37 rfl (by rw [szPrint, HLD.out]) ?_)
    | (show wpList _ _ _ (⟨some 117, _, _, _, _, _⟩ :: _) _ _; refine wpList_neq_arr (by rfl) (.tmp 115) (.tmp 116) _ (by rfl) D AD HAD.out HF.out.dD.1 (by rfl) (by rfl) ?_)
    | (show wpList _ _ _ (⟨some 129, _, _, _, _, _⟩ :: _) _ _; refine wpList_load_rowE (by rfl) 37 (.tmp 12) (by rfl) gC (by rfl) _ _ _ _ KC_14.out Tryd.underlying37 rfl (by rw [szPrint, HLO.out]) ?_)
    | (show wpList _ _ _ (⟨some 130, _, _, _, _, _⟩ :: _) _ _; refine wpList_load_rowE (by rfl) 37 (.tmp 15) (by rfl) gE (by rfl) _ _ _ _ KE_14.out Tryd.underlying37 rfl (by rw [szPrint, HLO.out]) ?_)
    | (show wpList _ _ _ (⟨some 131, _, _, _, _, _⟩ :: _) _ _; refine wpList_neq_arr (by rfl) (.tmp 129) (.tmp 130) _ (by rfl) O AO HAO.out HF.out.dO.1 (by rfl) (by rfl) ?_)
    | (go_at_call 31; refine (sameNumbers_c b s13 s14 bn cs13 cs14 HF.out.bl (by have := HF.out.b8; omega) _ _ _ L13_14.out L14.out).mono ?_; rintro e15 w15 ⟨rfl, hb15⟩))
  have HW : Hid (DW w15 gB gE pr l D O s14 b) := Lib.hid (dw_below hb15 ⟨by rw [HAD.out]; exact KB_14.out, by rw [HAO.out]; exact KE_14.out, P14.out, L14.out⟩)
  have HBm := Lib.hid (bt HB14.out hb15)
  clear hb15 KA_14 KB_14 KC_14 KE_14 P14 T14 HB14 L14 L13_14 s1 s2 s3 HLD HLO HAD HAO HT
  have HPL' := Lib.hid HPL.out
  go_wp2_with fail
  have hb0 : ((18446744073709551615 : Int)) = ((boL l wi 0 : Nat) : Int) := rfl
  have hc0 : (0 : Int) = ((cov l wi s 0 : Nat) : Int) := by rw [cov_zero]; rfl
  as_aux_lemma =>
    go_loopw [28, 29, 30] (fun av cv iv wr => True ∧ ∃ i : Nat, i ≤ n ∧ iv = .int .i64 i ∧ av = .int .u64 (boL l wi i : Nat) ∧ cv = .int .u64 (cov l wi s i : Nat) ∧ DW wr gB gE pr l D O s14 b ∧ Below w.heap.size w wr) (fun _ _ iv _ => n - (intOf iv).toNat)
    case atStart => exact ⟨trivial, 0, Nat.zero_le _, rfl, by rw [← hb0], by rw [← hc0], HW.out, HBm.out⟩
    case round =>
      clear HW HBm hb0 hc0
      obtain ⟨_, i, hi, rfl, rfl, rfl, hW, hB⟩ := hrel
      have HW := Lib.hid hW
      have HB := Lib.hid hB
      clear hW hB
      by_cases hlt : i < n
      · have hin : (i : Int) < n := by omega
        have hdi := Lib.hid (HF.out.di i hlt)
        have hdf := Lib.hid (HF.out.df i)
        have hd64 := dmI_lt l wi i
        have hV64 := boL_lt l wi i
        have hC64 : cov l wi s i < 2 ^ 64 := cpl_lt _
        have hbs := Lib.hid (show boL l wi (i + 1) = boL l wi i &&& dmI l wi i from rfl)
        have hcs := Lib.hid (cov_succ l wi s i)
        have hone := HF.out.one i hlt
        have hle := HF.out.least i hlt
        have hfi := HF.out.first i hlt
        have hat := HF.out.atl i hlt
        have hhas := Lib.hid (HF.out.has i hlt)
        have HCI : Hid (∀ w0 : World, Calls Tryd.prog 17 #[.int .u64 (dmI l wi i : Nat)] w0 fun e w' => e = .returned (.int .i64 (cnt (dmI l wi i) : Nat)) ∧ w0 = w') := Lib.hid fun w0 => cellsInD_c (dmI l wi i) hd64 w0
        have HCD := Lib.hid (implDustIn_c pr n cp l HPL.out HnL.out (by omega) i wi wr HW.out.cps)
        generalize dmI l wi i = dm at *
        generalize boL l wi i = bo at *
        generalize cov l wi s i = co at *
        generalize s.testBit i = sb at *
        have ha := and64 bo dm hV64 hd64
        have hx := xorD_int hd64
        have hx1 := sgnD_u64
        have ho := or64 co (18446744073709551615 - dm) hC64 (by omega)
        have HC64 := Lib.hid hC64
        clear hd64 hV64 hC64
        generalize cnt dm = cn at *
        go_wp2_with fail
        refine (HCD.out).mono ?_
        rw [hdi.out]
        rintro e21 w21 ⟨rfl, hb21⟩
        have HW1 := Lib.hid (dw_below hb21 HW.out)
        have HB1 := Lib.hid (bt HB.out hb21)
        clear hb21 HCD hdi HW HB
        obtain ⟨bq, oq, rfl, hbq, hat0⟩ := HW1.out.cps (by rintro rfl; have := HnL.out; simp at this; omega)
        have hrg := hat0 i (by rw [← HnL.out]; exact hlt)
        have hPq := HPL.out i (by rw [← HnL.out]; exact hlt)
        have hDq : D400 (l.getD i []) := ⟨hPq.1, fun k => okP_get (okL_get HF.out.c.ok i (by rw [← HnL.out]; exact hlt)) k⟩
        have HDQ := Lib.hid hDq
        have L1 : ∀ w', (∃ p : Regrown, w' = grow (redrawn w21 p.d) p.os) → Sem.run Tryd.prog (Instr.loadAt 37 (.pointer (some ⟨gB, 0, none⟩))) w' = .ok (.agg (arr .i16 D)) w' := by
          rintro w' ⟨p, rfl⟩
          exact run_loadAt_mid _ _ _ _ _ _ (rangeAt_below (below_regrown w21 p.d p.os) (lt_of_heap HW1.out.due) (rangeAt_arr HW1.out.due)) Tryd.underlying37 rfl (by rw [szPrint, List.length_map, HF.out.dD.1])
        have L2 : ∀ w', (∃ p : Regrown, w' = grow (redrawn w21 p.d) p.os) → Sem.run Tryd.prog (Instr.loadAt 37 (.pointer (some ⟨bq, oq + i * 64, none⟩))) w' = .ok (.agg (arr .i16 (l.getD i []))) w' := by
          rintro w' ⟨p, rfl⟩
          exact run_loadAt_mid _ _ _ _ _ _ (rangeAt_below (below_regrown w21 p.d p.os) hbq hrg) Tryd.underlying37 rfl (by rw [szPrint, List.length_map, hPq.1])
        have hdf2 := hdf.out
        generalize l.getD i [] = qi at *
        clear hat0 hrg hPq hDq
        have L1' := Lib.hid L1
        have L2' := Lib.hid L2
        clear L1 L2
        have HDF := Lib.hid hdf2
        clear hdf2 hdf
        have cP : ∀ d os, Calls Tryd.prog 33 #[.agg (arr .i16 D), .agg (arr .i16 qi), .int .i64 wi] (grow (redrawn w21 d) os) fun e w'' => e = .returned (.tuple #[.int .u64 (dm : Nat), .int .i64 0]) ∧ ∃ p : Regrown, w'' = grow (redrawn w21 p.d) p.os := fun d os => by
          have := Calls.regrown_of (differIn_c D qi HF.out.dD HDQ.out wi HF.out.c.dn (grow (redrawn w21 d) os))
          rwa [HDF.out] at this
        go_upto_region 22 with fail
        refine wp_region_quiet_below (by kernel_rfl) (by kernel_rfl) ?_
        refine wpQuiet_load rfl _ _ rfl _ _ rfl L1'.out ?_
        simp only [Act.put, List.setIfInBounds_toArray, List.set]
        go_big_quiet_step (fail)
        go_big_quiet_step (fail)
        go_big_quiet_step (fail)
        refine wpQuiet_load rfl _ _ rfl _ _ rfl L2'.out ?_
        simp only [Act.put, List.setIfInBounds_toArray, List.set]
        repeat (go_big_quiet_step (exact cP _ _))
        refine wpQuiet_nil ?_
        intro _ hw'
        obtain ⟨⟨dq, osq⟩, hw''⟩ := hw'
        subst hw''
        have hb23 := below_regrown w21 dq osq
        have HW3 := Lib.hid (dw_below hb23 HW1.out)
        have HB3 := Lib.hid (bt HB1.out hb23)
        clear hb23 HW1 HB1 HDF HDQ L1' L2' cP
        generalize grow (redrawn w21 dq) osq = w23 at *
        have t1 : ((dm : Int) != (dm : Int)) = false := by simp
        have t2 : ¬ (cn : Int) < e := by omega
        have HST : Hid (∃ z : Bool, z = z) := Lib.hid ⟨true, rfl⟩
        have KHas : Hid (∀ w0 : World, DW w0 gB gE (some ⟨bq, oq, none⟩) l D O s14 b → Calls Tryd.prog 34 #[.slice s14 bn cs14, .int .i64 i] w0 fun e w' => e = .returned (.bool sb) ∧ w0 = w') := Lib.hid fun w0 hw0 => by
          have := hasNumber_c b s14 bn cs14 i HF.out.bl (by have := HF.out.b8; omega) w0 _ hw0.lst
          rwa [hhas.out] at this
        clear hhas HST
        by_cases h1 : i < a
        · have h1' : (i : Int) < a := by omega
          have h2 : ((i : Int) == (a : Int)) = false := by simp; omega
          have h3 : ((cn : Int) == (e : Int)) = false := by have := hfi h1; simp; omega
          clear hfi hat hle
          go_upto_region 25 with (go_at_call 17; refine (HCI.out _).mono ?_; rintro e24 w24 ⟨rfl, rfl⟩)
          clear t1 t2 h1' h2 h3 HCI
          cases sb
          · by_cases hz0 : dm = 0
            · have z1 : ((dm : Int) == 0) = true := by simp; omega
              have z2 : ((bn : Int) != 1) = false := by have := hone hz0; simp; omega
              have HBN := Lib.hid hbs.out
              have HCN := Lib.hid hcs.out
              clear hz0 hone hbs hcs
              go_wp2_with (go_at_call 34; refine (KHas.out _ HW3.out).mono ?_; rintro e25 w25 ⟨rfl, rfl⟩)
              go_roundw
              case rel => exact ⟨trivial, i + 1, by omega, by go_num, by rw [HBN.out], by rw [HCN.out] <;> rfl, HW3.out, HB3.out⟩
              case measure => simp [intOf]; omega
            · have z1 : ((dm : Int) == 0) = false := by simp; omega
              have HBN := Lib.hid hbs.out
              have HCN := Lib.hid hcs.out
              clear hz0 hone hbs hcs
              go_wp2_with (go_at_call 34; refine (KHas.out _ HW3.out).mono ?_; rintro e25 w25 ⟨rfl, rfl⟩)
              go_roundw
              case rel => exact ⟨trivial, i + 1, by omega, by go_num, by rw [HBN.out], by rw [HCN.out] <;> rfl, HW3.out, HB3.out⟩
              case measure => simp [intOf]; omega
          · by_cases hz0 : dm = 0
            · have z1 : ((dm : Int) == 0) = true := by simp; omega
              have z2 : ((bn : Int) != 1) = false := by have := hone hz0; simp; omega
              have HBN := Lib.hid hbs.out
              have HCN := Lib.hid hcs.out
              clear hz0 hone hbs hcs
              go_wp2_with (go_at_call 34; refine (KHas.out _ HW3.out).mono ?_; rintro e25 w25 ⟨rfl, rfl⟩)
              go_roundw
              case rel => exact ⟨trivial, i + 1, by omega, by go_num, by rw [HBN.out], by rw [HCN.out] <;> rfl, HW3.out, HB3.out⟩
              case measure => simp [intOf]; omega
            · have z1 : ((dm : Int) == 0) = false := by simp; omega
              have HBN := Lib.hid hbs.out
              have HCN := Lib.hid hcs.out
              clear hz0 hone hbs hcs
              go_wp2_with (go_at_call 34; refine (KHas.out _ HW3.out).mono ?_; rintro e25 w25 ⟨rfl, rfl⟩)
              go_roundw
              case rel => exact ⟨trivial, i + 1, by omega, by go_num, by rw [HBN.out], by rw [HCN.out] <;> rfl, HW3.out, HB3.out⟩
              case measure => simp [intOf]; omega
        · have h1' : ¬ (i : Int) < a := by omega
          by_cases h0 : i = a
          · have h2 : ((i : Int) == (a : Int)) = true := by simp; omega
            have h3 : ((cn : Int) != (e : Int)) = false := by have := hat h0; simp; omega
            clear hfi hat hle h0
            go_upto_region 25 with (go_at_call 17; refine (HCI.out _).mono ?_; rintro e24 w24 ⟨rfl, rfl⟩)
            clear t1 t2 h1' h2 h3 HCI
            cases sb
            · by_cases hz0 : dm = 0
              · have z1 : ((dm : Int) == 0) = true := by simp; omega
                have z2 : ((bn : Int) != 1) = false := by have := hone hz0; simp; omega
                have HBN := Lib.hid hbs.out
                have HCN := Lib.hid hcs.out
                clear hz0 hone hbs hcs
                go_wp2_with (go_at_call 34; refine (KHas.out _ HW3.out).mono ?_; rintro e25 w25 ⟨rfl, rfl⟩)
                go_roundw
                case rel => exact ⟨trivial, i + 1, by omega, by go_num, by rw [HBN.out], by rw [HCN.out] <;> rfl, HW3.out, HB3.out⟩
                case measure => simp [intOf]; omega
              · have z1 : ((dm : Int) == 0) = false := by simp; omega
                have HBN := Lib.hid hbs.out
                have HCN := Lib.hid hcs.out
                clear hz0 hone hbs hcs
                go_wp2_with (go_at_call 34; refine (KHas.out _ HW3.out).mono ?_; rintro e25 w25 ⟨rfl, rfl⟩)
                go_roundw
                case rel => exact ⟨trivial, i + 1, by omega, by go_num, by rw [HBN.out], by rw [HCN.out] <;> rfl, HW3.out, HB3.out⟩
                case measure => simp [intOf]; omega
            · by_cases hz0 : dm = 0
              · have z1 : ((dm : Int) == 0) = true := by simp; omega
                have z2 : ((bn : Int) != 1) = false := by have := hone hz0; simp; omega
                have HBN := Lib.hid hbs.out
                have HCN := Lib.hid hcs.out
                clear hz0 hone hbs hcs
                go_wp2_with (go_at_call 34; refine (KHas.out _ HW3.out).mono ?_; rintro e25 w25 ⟨rfl, rfl⟩)
                go_roundw
                case rel => exact ⟨trivial, i + 1, by omega, by go_num, by rw [HBN.out], by rw [HCN.out] <;> rfl, HW3.out, HB3.out⟩
                case measure => simp [intOf]; omega
              · have z1 : ((dm : Int) == 0) = false := by simp; omega
                have HBN := Lib.hid hbs.out
                have HCN := Lib.hid hcs.out
                clear hz0 hone hbs hcs
                go_wp2_with (go_at_call 34; refine (KHas.out _ HW3.out).mono ?_; rintro e25 w25 ⟨rfl, rfl⟩)
                go_roundw
                case rel => exact ⟨trivial, i + 1, by omega, by go_num, by rw [HBN.out], by rw [HCN.out] <;> rfl, HW3.out, HB3.out⟩
                case measure => simp [intOf]; omega
          · have h2 : ((i : Int) == (a : Int)) = false := by simp; omega
            clear hfi hat hle
            go_upto_region 25 with (go_at_call 17; refine (HCI.out _).mono ?_; rintro e24 w24 ⟨rfl, rfl⟩)
            clear t1 t2 h1' h2 HCI
            cases sb
            · by_cases hz0 : dm = 0
              · have z1 : ((dm : Int) == 0) = true := by simp; omega
                have z2 : ((bn : Int) != 1) = false := by have := hone hz0; simp; omega
                have HBN := Lib.hid hbs.out
                have HCN := Lib.hid hcs.out
                clear hz0 hone hbs hcs
                go_wp2_with (go_at_call 34; refine (KHas.out _ HW3.out).mono ?_; rintro e25 w25 ⟨rfl, rfl⟩)
                go_roundw
                case rel => exact ⟨trivial, i + 1, by omega, by go_num, by rw [HBN.out], by rw [HCN.out] <;> rfl, HW3.out, HB3.out⟩
                case measure => simp [intOf]; omega
              · have z1 : ((dm : Int) == 0) = false := by simp; omega
                have HBN := Lib.hid hbs.out
                have HCN := Lib.hid hcs.out
                clear hz0 hone hbs hcs
                go_wp2_with (go_at_call 34; refine (KHas.out _ HW3.out).mono ?_; rintro e25 w25 ⟨rfl, rfl⟩)
                go_roundw
                case rel => exact ⟨trivial, i + 1, by omega, by go_num, by rw [HBN.out], by rw [HCN.out] <;> rfl, HW3.out, HB3.out⟩
                case measure => simp [intOf]; omega
            · by_cases hz0 : dm = 0
              · have z1 : ((dm : Int) == 0) = true := by simp; omega
                have z2 : ((bn : Int) != 1) = false := by have := hone hz0; simp; omega
                have HBN := Lib.hid hbs.out
                have HCN := Lib.hid hcs.out
                clear hz0 hone hbs hcs
                go_wp2_with (go_at_call 34; refine (KHas.out _ HW3.out).mono ?_; rintro e25 w25 ⟨rfl, rfl⟩)
                go_roundw
                case rel => exact ⟨trivial, i + 1, by omega, by go_num, by rw [HBN.out], by rw [HCN.out] <;> rfl, HW3.out, HB3.out⟩
                case measure => simp [intOf]; omega
              · have z1 : ((dm : Int) == 0) = false := by simp; omega
                have HBN := Lib.hid hbs.out
                have HCN := Lib.hid hcs.out
                clear hz0 hone hbs hcs
                go_wp2_with (go_at_call 34; refine (KHas.out _ HW3.out).mono ?_; rintro e25 w25 ⟨rfl, rfl⟩)
                go_roundw
                case rel => exact ⟨trivial, i + 1, by omega, by go_num, by rw [HBN.out], by rw [HCN.out] <;> rfl, HW3.out, HB3.out⟩
                case measure => simp [intOf]; omega
      · have hin : ¬ (i : Int) < n := by omega
        have hie : i = n := by omega
        subst hie
        rw [HF.out.lv, HF.out.cv]
        have t1 : ((V : Int) != (V : Int)) = false := by simp
        have hx1 := sgnD_u64
        have hx2 : bits .xor .u64 IntKind.u64.max (V : Int) = ((cpl V : Nat) : Int) := xorD_int HF.out.v64
        have t2 : ((bn : Int) == 0) = false := by have := HF.out.b0; simp; omega
        generalize cpl V = cV at *
        have t3 : ((cV : Int) != (cV : Int)) = false := by simp
        have HLD : Hid ((arr .i16 D).size = 64) := Lib.hid (by rw [arr_size, HF.out.dD.1])
        have HLO : Hid ((arr .i16 O).size = 64) := Lib.hid (by rw [arr_size, HF.out.dO.1])
        go_upto_region 32 with fail
        clear t1 t2 t3 hx1 hx2
        go_wp2_with (first
          | (refine wpList_load_row rfl 37 (.tmp 10) rfl gB rfl _ _ _ _ HW.out.due Tryd.underlying37 rfl (by rw [szPrint, HLD.out]) ?_)
          | (refine wpList_load_row rfl 37 (.tmp 15) rfl gE rfl _ _ _ _ HW.out.mod Tryd.underlying37 rfl (by rw [szPrint, HLO.out]) ?_))
        refine (differIn_c D O HF.out.dD HF.out.dO wi HF.out.c.dn _).mono ?_
        rw [HF.out.far]
        rintro e30 w30 ⟨rfl, hb30⟩
        have HW3 := Lib.hid (dw_below hb30 HW.out)
        have HB3 := Lib.hid (bt HB.out hb30)
        clear hb30 HW HB
        go_wp2_with fail
        as_aux_lemma =>
          go_loopw [37] (fun iv wr => True ∧ ∃ k : Nat, k ≤ 64 ∧ iv = .int .i64 k ∧ DW wr gB gE pr l D O s14 b ∧ Below w.heap.size w wr) (fun iv _ => 64 - (intOf iv).toNat)
          case atStart => exact ⟨trivial, 0, by omega, rfl, HW3.out, HB3.out⟩
          case round =>
            clear HW3 HB3
            obtain ⟨_, k, hk, rfl, hW, hB⟩ := hrel
            have HW := Lib.hid hW
            have HB := Lib.hid hB
            clear hW hB
            by_cases hlt : k < 64
            · have hk64 : (k : Int) < 64 := by omega
              have hhalf := HF.out.half k hlt
              have HT := Lib.hid (show D.getD k 0 = D.getD k 0 from rfl)
              obtain ⟨t, ht⟩ : ∃ t, t = D.getD k 0 := ⟨_, rfl⟩
              rw [← ht] at hhalf
              have HTt := Lib.hid ht
              have HHf := Lib.hid hhalf
              clear ht hhalf HT
              go_wp2_with fail
              as_aux_lemma =>
                go_loopw [38, 39, 40] (fun lv hv jv w2 => True ∧ ∃ j : Nat, j ≤ i ∧ jv = .int .i64 j ∧ lv = .int .i64 (lowK l k t j : Nat) ∧ hv = .int .i64 (highK l k t j : Nat) ∧ DW w2 gB gE pr l D O s14 b ∧ Below w.heap.size w w2) (fun _ _ jv _ => i - (intOf jv).toNat)
                case atStart => exact ⟨trivial, 0, Nat.zero_le _, rfl, rfl, rfl, HW.out, HB.out⟩
                case round =>
                  clear HW HB
                  obtain ⟨_, j, hj, rfl, rfl, rfl, hW, hB⟩ := hrel
                  have HW := Lib.hid hW
                  have HB := Lib.hid hB
                  clear hW hB
                  have hLk := lowK_le l k t j
                  have hHk := highK_le l k t j
                  by_cases hlj : j < i
                  · have hji : (j : Int) < i := by omega
                    obtain ⟨bq, oq, rfl, hbq, hat0⟩ := HW.out.cps (by rintro rfl; have := HnL.out; simp at this; omega)
                    have hjl : j < l.length := by rw [← HnL.out]; exact hlj
                    have c1 := PrAt_cell hat0 HPL.out j k hjl hlt
                    have c2 := arr_cell HW.out.due k (by rw [HF.out.dD.1]; exact hlt)
                    rw [← HTt.out] at c2
                    have hls := Lib.hid (lowK_succ l k t j hjl)
                    have hhs := Lib.hid (highK_succ l k t j hjl)
                    generalize (l.getD j []).getD k 0 = x at *
                    generalize lowK l k t j = lo at *
                    generalize highK l k t j = hi at *
                    have wl : IntKind.i64.wrap ((lo : Int) + 1) = ((lo + 1 : Nat) : Int) := by rw [Go.IntWalk.i64_in _ (by omega)]; omega
                    have wh : IntKind.i64.wrap ((hi : Int) + 1) = ((hi + 1 : Nat) : Int) := by rw [Go.IntWalk.i64_in _ (by omega)]; omega
                    clear hat0 hjl
                    rcases Int.lt_trichotomy x t with hxt | hxt | hxt
                    · have x1 : decide (x < t) = true := decide_eq_true hxt
                      have x2 : decide (t < x) = false := decide_eq_false (by omega)
                      have HX1 := Lib.hid (show lowK l k t (j + 1) = lo + 1 by rw [hls.out, if_pos hxt])
                      have HX2 := Lib.hid (show highK l k t (j + 1) = hi by rw [hhs.out, if_neg (by omega), Nat.add_zero])
                      have hxt2 : ¬ t < x := by omega
                      clear hls hhs
                      go_wp2_with fail
                      go_quiet (fail)
                      go_wp2_with fail
                      go_quiet (fail)
                      go_wp2
                      go_roundw
                      case rel => exact ⟨trivial, j + 1, by omega, by go_num, by rw [HX1.out] <;> rfl, by rw [HX2.out] <;> rfl, by first | exact dw_drewN (dw_drewN HW.out _) _ | exact dw_drewN HW.out _, by first | exact bl_drewN (bl_drewN HB.out _) _ | exact bl_drewN HB.out _⟩
                      case measure => simp [intOf]; omega
                    · subst hxt
                      have x1 : decide (x < x) = false := decide_eq_false (by omega)
                      have hxt2 : ¬ x < x := by omega
                      have HX1 := Lib.hid (show lowK l k x (j + 1) = lo by rw [hls.out, if_neg (by omega), Nat.add_zero])
                      have HX2 := Lib.hid (show highK l k x (j + 1) = hi by rw [hhs.out, if_neg (by omega), Nat.add_zero])
                      clear hls hhs
                      go_wp2_with fail
                      go_quiet (fail)
                      go_wp2_with fail
                      go_quiet (fail)
                      go_wp2
                      go_roundw
                      case rel => exact ⟨trivial, j + 1, by omega, by go_num, by rw [HX1.out] <;> rfl, by rw [HX2.out] <;> rfl, by first | exact dw_drewN (dw_drewN HW.out _) _ | exact dw_drewN HW.out _, by first | exact bl_drewN (bl_drewN HB.out _) _ | exact bl_drewN HB.out _⟩
                      case measure => simp [intOf]; omega
                    · have x1 : decide (x < t) = false := decide_eq_false (by omega)
                      have x2 : decide (t < x) = true := decide_eq_true hxt
                      have HX1 := Lib.hid (show lowK l k t (j + 1) = lo by rw [hls.out, if_neg (by omega), Nat.add_zero])
                      have HX2 := Lib.hid (show highK l k t (j + 1) = hi + 1 by rw [hhs.out, if_pos hxt])
                      have hxt2 : ¬ x < t := by omega
                      clear hls hhs
                      go_wp2_with fail
                      go_quiet (fail)
                      go_wp2_with fail
                      go_quiet (fail)
                      go_wp2
                      go_roundw
                      case rel => exact ⟨trivial, j + 1, by omega, by go_num, by rw [HX1.out] <;> rfl, by rw [HX2.out] <;> rfl, by first | exact dw_drewN (dw_drewN HW.out _) _ | exact dw_drewN HW.out _, by first | exact bl_drewN (bl_drewN HB.out _) _ | exact bl_drewN HB.out _⟩
                      case measure => simp [intOf]; omega
                  · have hji : ¬ (j : Int) < i := by omega
                    have hje : j = i := by omega
                    subst hje
                    have hh := HHf.out
                    generalize lowK l k t j = lo at *
                    generalize highK l k t j = hi at *
                    have wl : IntKind.i64.wrap (2 * (lo : Int)) = 2 * (lo : Int) := Go.IntWalk.i64_in _ (by omega)
                    have wh : IntKind.i64.wrap (2 * (hi : Int)) = 2 * (hi : Int) := Go.IntWalk.i64_in _ (by omega)
                    have g1 : ¬ (j : Int) < 2 * (lo : Int) := by omega
                    have g2 : ¬ (j : Int) < 2 * (hi : Int) := by omega
                    go_wp2
                    go_roundw
                    case rel => exact ⟨trivial, k + 1, by omega, by go_num, HW.out, HB.out⟩
                    case measure => simp [intOf]; omega
            · have hk64 : ¬ (k : Int) < 64 := by omega
              go_wp2_with (refine wpList_load_row rfl 37 (.tmp 10) rfl gB rfl _ _ _ _ HW.out.due Tryd.underlying37 rfl (by rw [szPrint, HLD.out]) ?_)
              refine (implScratchIn_c D HF.out.pD pr i cp l HPL.out HnL.out (by omega) wi _ HW.out.cps).mono ?_
              rw [HF.out.si]
              rintro e40 w40 ⟨rfl, hb40⟩
              have HW4 := Lib.hid (dw_below hb40 HW.out)
              have HB4 := Lib.hid (bt HB.out hb40)
              clear hb40 HW HB
              go_wp2_with (refine wpList_load_row rfl 37 (.tmp 10) rfl gB rfl _ _ _ _ HW4.out.due Tryd.underlying37 rfl (by rw [szPrint, HLD.out]) ?_)
              refine (specScratchIn_c D HF.out.pD pr i cp l HPL.out HnL.out (by omega) wi _ HW4.out.cps).mono ?_
              rw [HF.out.si]
              rintro e41 w41 ⟨rfl, hb41⟩
              have HB5 := Lib.hid (bt HB4.out hb41)
              clear hb41
              go_wp2
              go_ret
              exact ⟨rfl, HB5.out⟩
end Go.Proofs.YtdmlefccajaniaaDoor
