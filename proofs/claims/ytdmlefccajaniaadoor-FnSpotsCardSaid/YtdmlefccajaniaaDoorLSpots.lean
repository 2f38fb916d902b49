/- FnSpots: the law's walk. -/
import Derived.Test.YtdmlefccajaniaaDoorSpotsZ
import Derived.Test.YtdmlefccajaniaaDoorMaskD
import Derived.Test.YtdmlefccajaniaaDoorCopD
import Derived.Test.YtdmlefccajaniaaDoorEqArr
import Derived.Test.YtdmlefccajaniaaDoorSpD
import Derived.Test.YtdmlefccajaniaaDoorLRepair
import Derived.Test.YtdmlefccajaniaaDoorGreat
import Derived.Test.YtdmlefccajaniaaDoorSpotsM
import Derived.Test.YtdmlefccajaniaaDoorVarQ
import Derived.Lib.QuietBelow
import Derived.BigQuiet
namespace Go.Proofs.YtdmlefccajaniaaDoor
open Go.RowKit Go.Lib Go.Sort
set_option maxHeartbeats 20000000 in
set_option maxRecDepth 100000 in
theorem lawSpots_c (v1 : Value) (n1 : Nat) (v2 : Value) (n2 : Nat) (w : World) (h1 : Bytes w v1 n1) (h2 : Bytes w v2 n2) (hT : TabAt w) :
    Calls Tryd.prog 3 #[v1, v2] w fun e w' => e = .returned (.bool true) ∧ Below w.heap.size w w' := by
  obtain ⟨p1, c1, e1, -, -⟩ := bytes_shape h1
  obtain ⟨p2, c2, e2, -, -⟩ := bytes_shape h2
  have hz := TabAt_pos hT
  have H1 := Lib.hid h1
  have H2 := Lib.hid h2
  have HT := Lib.hid hT
  have CL1 : Hid (∀ w0 : World, Calls Tryd.prog 7 #[v1] w0 fun e w' => e = .returned (.bool (decide (4096 < (n1 : Int)))) ∧ w0 = w') := Lib.hid fun w0 => f6bigG_c v1 n1 p1 c1 e1 w0
  have CL2 : Hid (∀ w0 : World, Calls Tryd.prog 7 #[v2] w0 fun e w' => e = .returned (.bool (decide (4096 < (n2 : Int)))) ∧ w0 = w') := Lib.hid fun w0 => f6bigG_c v2 n2 p2 c2 e2 w0
  clear h1 h2 e1 e2 p1 c1 p2 c2 hT
  by_cases hl : 4096 < (n1 : Int)
  · have HLong : Hid (decide (4096 < (n1 : Int)) = true) := Lib.hid (by simpa using hl)
    clear hl
    go_enter Tryd.func3, Tryd.ntmps3
    go_wp2_with fail
    refine (CL1.out _).mono ?_
    rintro e w' ⟨rfl, rfl⟩
    rw [HLong.out]
    go_wp2
    go_ret
    exact ⟨rfl, Below.refl _ _⟩
  have HLong : Hid (decide (4096 < (n1 : Int)) = false) := Lib.hid (by simpa using hl)
  by_cases hl2 : 4096 < (n2 : Int)
  · have HLong2 : Hid (decide (4096 < (n2 : Int)) = true) := Lib.hid (by simpa using hl2)
    clear hl hl2
    go_enter Tryd.func3, Tryd.ntmps3
    go_wp2_with fail
    refine (CL1.out _).mono ?_
    rintro e w' ⟨rfl, rfl⟩
    rw [HLong.out]
    go_wp2_with fail
    refine (CL2.out _).mono ?_
    rintro e w' ⟨rfl, rfl⟩
    rw [HLong2.out]
    go_wp2
    go_ret
    exact ⟨rfl, Below.refl _ _⟩
  have HLong2 : Hid (decide (4096 < (n2 : Int)) = false) := Lib.hid (by simpa using hl2)
  clear hl hl2
  go_enter Tryd.func3, Tryd.ntmps3
  refine wp_var fun Q0 HQ0 => ?_
  go_wp2_with fail
  refine (CL1.out _).mono ?_
  rintro e w' ⟨rfl, rfl⟩
  rw [HLong.out]
  go_wp2_with fail
  refine (CL2.out _).mono ?_
  rintro e w' ⟨rfl, rfl⟩
  rw [HLong2.out]
  clear HLong HLong2 CL1 CL2
  go_wp2_with fail
  refine (p6Mask_c _ _ _ H1.out).mono ?_
  rintro e w1 ⟨⟨M, rfl, hM⟩, hb1⟩
  have HB1 := Lib.hid hb1
  have HM := Lib.hid hM
  have X2 := Lib.hid (bytes_keep H2.out hb1)
  have T1 := Lib.hid (TabAt_below hb1 hz HT.out)
  clear hb1 hM H1 H2
  go_wp2_with fail
  refine (implMaskText_c M HM.out _).mono ?_
  rintro e w2 ⟨rfl, hb2⟩
  have HB2 := Lib.hid (bt HB1.out hb2)
  have Y2 := Lib.hid (bytes_keep X2.out hb2)
  have T2 := Lib.hid (TabAt_bl hb2 T1.out)
  clear hb2 HB1 X2 T1
  have HRV := Lib.hid (rmV_mtS HM.out)
  generalize mtS M = txt at *
  go_wp2_with fail
  refine (implReadMask_c txt _).mono ?_
  rw [HRV.out]
  rintro e w3 ⟨rfl, hb3⟩
  have HB3 := Lib.hid (bt HB2.out hb3)
  have X3 := Lib.hid (bytes_keep Y2.out hb3)
  have T3 := Lib.hid (TabAt_bl hb3 T2.out)
  clear hb3 HB2 Y2 T2 HRV
  have HF := Lib.hid (spF HM.out)
  have HGv : Hid (gV M = ((gV M).1, (gV M).2)) := Lib.hid rfl
  generalize hxs : spI M = xs at *
  generalize (gV M).1 = G at *
  generalize (gV M).2 = c at *
  generalize spL M = L at *
  obtain ⟨n, hn⟩ : ∃ n, n = xs.length := ⟨_, rfl⟩
  rw [← hn] at HF
  have HX := Lib.hid hxs
  clear hxs hn
  go_wp2_with fail
  refine (implSpotsOf_c M HM.out _ T3.out).mono ?_
  rintro e w4 ⟨vs, rfl, hR, hb4⟩
  rw [HX.out] at hR
  obtain ⟨ps, cs, hvs, hP⟩ := PB_u64_row hR
  rw [← HF.out.len] at hvs
  subst hvs
  have PS4 := Lib.hid hP
  have HB4 := Lib.hid (bt HB3.out hb4)
  have X4 := Lib.hid (bytes_keep X3.out hb4)
  have T4 := Lib.hid (TabAt_bl hb4 T3.out)
  clear hb4 hR hP HB3 X3 T3
  go_wp2_with fail
  refine (specSpotsOf_c M HM.out _).mono ?_
  rintro e w5 ⟨vd, rfl, hR, hb5⟩
  rw [HX.out] at hR
  obtain ⟨pd, cd, hvd, hP⟩ := PB_u64_row hR
  rw [← HF.out.len] at hvd
  subst hvd
  have PD5 := Lib.hid hP
  have PS5 := Lib.hid (PB_u64_keep hb5 PS4.out)
  have HB5 := Lib.hid (bt HB4.out hb5)
  have X5 := Lib.hid (bytes_keep X4.out hb5)
  have T5 := Lib.hid (TabAt_bl hb5 T4.out)
  clear hb5 hR hP HB4 X4 T4 PS4
  go_wp2_with fail
  refine (implGreat_c M HM.out _ T5.out).mono ?_
  rw [HGv.out]
  rintro e w6 ⟨rfl, hb6⟩
  have PS6 := Lib.hid (PB_u64_keep hb6 PS5.out)
  have PD6 := Lib.hid (PB_u64_keep hb6 PD5.out)
  have HB6 := Lib.hid (bt HB5.out hb6)
  have X6 := Lib.hid (bytes_keep X5.out hb6)
  have T6 := Lib.hid (TabAt_bl hb6 T5.out)
  clear hb6 HB5 X5 T5 PS5 PD5
  go_wp2_with fail
  refine (implGrowMask_c M HM.out _ T6.out).mono ?_
  rintro e w7 ⟨rfl, hb7⟩
  have PS7 := Lib.hid (PB_u64_keep hb7 PS6.out)
  have PD7 := Lib.hid (PB_u64_keep hb7 PD6.out)
  have HB7 := Lib.hid (bt HB6.out hb7)
  have X7 := Lib.hid (bytes_keep X6.out hb7)
  have T7 := Lib.hid (TabAt_bl hb7 T6.out)
  have HGr : Hid (bits .and .u64 ((gr M : Nat) : Int) (M : Int) = (M : Int)) := Lib.hid (by rw [and64 _ _ (gr_lt M) HM.out, gr_and HM.out])
  have HCg : Hid (∀ w0 : World, Calls Tryd.prog 16 #[.int .u64 M] w0 fun e w' => e = .returned (.int .u64 (gr M : Nat)) ∧ w0 = w') := Lib.hid fun w0 => specGrowMask_c M HM.out w0
  clear hb7 HB6 X6 T6 PS6 PD6
  generalize gr M = GM at *
  have q1 := HGr.out
  have q2 := HF.out.code
  have q3 : ((M : Int) != (M : Int)) = false := by simp
  have q4 : ((GM : Int) != (GM : Int)) = false := by simp
  have q5 : ((((M : Int)) != 0) != (((M : Int)) != 0)) = false := by simp
  go_wp2_with fail
  refine (sameMasks_c xs ps pd n cs cd HF.out.len (by have := HF.out.le; omega) _ _ _ PS7.out PD7.out).mono ?_
  rintro e w8 ⟨rfl, hb8⟩
  have PD8 := Lib.hid (PB_u64_keep hb8 PD7.out)
  have HB8 := Lib.hid (bt HB7.out hb8)
  have X8 := Lib.hid (bytes_keep X7.out hb8)
  have T8 := Lib.hid (TabAt_bl hb8 T7.out)
  clear hb8 HB7 X7 T7 PS7 PD7
  go_wp2_with (go_at_call 16; refine (HCg.out _).mono ?_; rintro e w' ⟨rfl, rfl⟩)
  clear q1 q2 q3 q4 q5 HGr HCg
  have q0 : (((M : Int)) == 0) = metB M L G 0 := by rw [Bool.eq_iff_iff]; simp only [metB, beq_iff_eq, List.take_zero, List.any_nil, Bool.or_false, decide_eq_true_eq]
  rw [q0]
  clear q0
  as_aux_lemma =>
    go_loopw [13, 14, 15] (fun av sv iv wr => True ∧ ∃ k : Nat, k ≤ n ∧ iv = .int .i64 k ∧ av = .int .u64 (orL (L.take k) : Nat) ∧ sv = .bool (metB M L G k) ∧ PB_u64 wr wr.heap.size pd xs ∧ TabAt wr ∧ Bytes wr v2 n2 ∧ Below w.heap.size w wr) (fun _ _ iv _ => n - (intOf iv).toNat)
    case atStart => exact ⟨trivial, 0, Nat.zero_le _, rfl, rfl, rfl, PD8.out, T8.out, X8.out, HB8.out⟩
    case round =>
      clear PD8 T8 X8 HB8
      obtain ⟨_, k, hk, rfl, rfl, rfl, hP, hTr, hXr, hBr⟩ := hrel
      have PDr := Lib.hid hP
      have Tr := Lib.hid hTr
      have Xr := Lib.hid hXr
      have HBr := Lib.hid hBr
      clear hP hTr hXr hBr
      by_cases hlt : k < n
      · have hkn : (k : Int) < n := by omega
        have hn64 := HF.out.le
        obtain ⟨hd64, hd0, hgd⟩ := HF.out.get k hlt
        have hat := HF.out.at_ k hlt
        have hap := HF.out.apart k hlt
        have hmo := HF.out.most k hlt
        have hms := Lib.hid (metB_succ M L G k (by rw [← HF.out.len2]; exact hlt))
        have hos := Lib.hid (orL_take L k (by rw [← HF.out.len2]; exact hlt))
        have hA64 : orL (L.take k) < 2 ^ 64 := by
          apply Nat.lt_pow_two_of_testBit
          intro j hj
          cases hb : (orL (L.take k)).testBit j
          · rfl
          · obtain ⟨s, hs, hsj⟩ := (orL_has _ _).1 hb
            obtain ⟨i, hi, rfl⟩ := List.mem_iff_getElem.1 (List.mem_of_mem_take hs)
            have h64 := (HF.out.get i (by rw [HF.out.len2]; exact hi)).1
            rw [List.getD_eq_getElem?_getD, List.getElem?_eq_getElem hi] at h64
            exact absurd (lt64_of h64 hsj) (by omega)
        obtain ⟨b, o, rfl, hb, hc⟩ := PDr.out (neL_of_lt_u64 (k := k) (by rw [← HF.out.len]; exact hlt))
        have hck := hc k (by rw [← HF.out.len]; exact hlt)
        rw [hat] at hck
        have HFg := HF.out.great
        have HFm := HF.out.m
        generalize L.getD k 0 = d at *
        generalize orL (L.take k) = A at *
        generalize metB M L G k = S at *
        have e1 : ((d : Int) == 0) = false := by simp; omega
        have e2 : bits .and .u64 (A : Int) (d : Int) = 0 := by rw [and64 A d hA64 hd64, hap]; rfl
        have e3 : bits .and .u64 ((gr d : Nat) : Int) (M : Int) = (d : Int) := by rw [and64 _ _ (gr_lt d) HFm, hgd]
        have e4 : bits .or .u64 (A : Int) (d : Int) = ((A ||| d : Nat) : Int) := or64 A d hA64 hd64
        have e5 : ((d : Int) != (d : Int)) = false := by simp
        have e6 : ((d : Int) == (G : Int)) = (d == G) := by rw [Bool.eq_iff_iff, beq_iff_eq, beq_iff_eq]; omega
        have HE4 := Lib.hid e4
        have HE6 := Lib.hid e6
        have cC1 : ∀ d' os, Calls Tryd.prog 17 #[.int .u64 d] (grow (redrawn wr d') os) fun e w'' => e = .returned (.int .i64 (cnt d : Nat)) ∧ ∃ p : Regrown, w'' = grow (redrawn wr p.d) p.os := fun d' os => (cellsInD_c d hd64 _).mono fun e w'' ⟨he, hw⟩ => ⟨he, hw ▸ ⟨⟨d', os⟩, rfl⟩⟩
        have cC2 : ∀ d' os, Calls Tryd.prog 17 #[.int .u64 G] (grow (redrawn wr d') os) fun e w'' => e = .returned (.int .i64 (cnt G : Nat)) ∧ ∃ p : Regrown, w'' = grow (redrawn wr p.d) p.os := fun d' os => (cellsInD_c G HFg _).mono fun e w'' ⟨he, hw⟩ => ⟨he, hw ▸ ⟨⟨d', os⟩, rfl⟩⟩
        have cG : ∀ d' os, Calls Tryd.prog 14 #[.int .u64 d] (grow (redrawn wr d') os) fun e w'' => e = .returned (.int .u64 (gr d : Nat)) ∧ ∃ p : Regrown, w'' = grow (redrawn wr p.d) p.os := fun d' os => Calls.regrown_of (implGrowMask_c d hd64 (grow (redrawn wr d') os) (TabAt_bl (below_regrown wr d' os) Tr.out))
        generalize cnt d = nd at *
        generalize cnt G = nG at *
        generalize gr d = gd at *
        have e7 : ¬ (nG : Int) < (nd : Int) := by omega
        have k0 := cell_regrown hck
        have HC := Lib.hid hck
        clear hat hap hgd hmo hc hck hd64 hd0 hA64 HFg HFm e4 e6
        go_upto_region 16 with fail
        refine wp_region_quiet_below (by kernel_rfl) (by kernel_rfl) ?_
        repeat (go_big_quiet_step (first | exact cG _ _ | exact cC1 _ _ | exact cC2 _ _))
        refine wpQuiet_nil ?_
        intro _ hw'
        obtain ⟨⟨dq, osq⟩, hw''⟩ := hw'
        subst hw''
        have hb9 := below_regrown wr dq osq
        clear k0 cG cC1 cC2 e1 e2 e3 e5
        have PD9 := Lib.hid (PB_u64_keep hb9 PDr.out)
        have T9 := Lib.hid (TabAt_bl hb9 Tr.out)
        have X9 := Lib.hid (bytes_keep Xr.out hb9)
        have HB9 := Lib.hid (bt HBr.out hb9)
        have hc9 : (grow (redrawn wr dq) osq).cell? ⟨b, o + k, none⟩ = some (.int .u64 (d : Int)) := cell_regrown HC.out dq osq
        clear hb9 PDr Tr Xr HBr HC hb
        generalize grow (redrawn wr dq) osq = w9 at *
        have e4 := HE4.out
        have e6 := HE6.out
        cases S
        · go_wp2
          go_roundw
          case rel => exact ⟨trivial, k + 1, by omega, by go_num, by rw [hos.out], by rw [hms.out]; rfl, PD9.out, T9.out, X9.out, HB9.out⟩
          case measure => simp [intOf]; omega
        · go_wp2
          go_roundw
          case rel => exact ⟨trivial, k + 1, by omega, by go_num, by rw [hos.out], by rw [hms.out]; rfl, PD9.out, T9.out, X9.out, HB9.out⟩
          case measure => simp [intOf]; omega
      · have hkn : ¬ (k : Int) < n := by omega
        have hke : k = n := by omega
        subst hke
        rw [metB_all HF.out, List.take_of_length_le (by rw [← HF.out.len2]; exact Nat.le_refl _), HF.out.all]
        have hself : ((M : Int) != (M : Int)) = false := by simp
        go_wp2_with fail
        refine (p6Copies_c _ _ _ Xr.out).mono ?_
        rintro e w10 ⟨p, cp, l, rfl, l1, l5, hPl, hok, hR, hb10⟩
        obtain ⟨gl, cl, hvl, hPB, hlc⟩ := rowP_PB hR hPl l1
        simp only [Value.slice.injEq] at hvl
        obtain ⟨rfl, -, rfl⟩ := hvl
        have hRg : w10.rangeAt gl 0 (cellsP (l.getD 0 [])) := by simpa using hPB.2 0 l1
        have hPrP := hPl 0 l1
        have hokP := okL_get hok 0 l1
        obtain ⟨nl, hnl⟩ : ∃ nl, nl = l.length := ⟨_, rfl⟩
        have hn0 : (0 : Int) < (nl : Int) := by omega
        have hn0' : 0 < nl := by omega
        rw [← hnl]
        generalize l.getD 0 [] = P at *
        obtain ⟨R, r, cc, Q, hr1, hr2, hPrR, hcc⟩ := rcBoth hPrP hokP HF.out.m
        have HR1 := Lib.hid hr1
        have HR2 := Lib.hid hr2
        have HCC := Lib.hid hcc
        have HPP := Lib.hid hPrP
        have HPR := Lib.hid hPrR
        have HRg := Lib.hid hRg
        have HB10 := Lib.hid (bt HBr.out hb10)
        have T10 := Lib.hid (TabAt_bl hb10 Tr.out)
        have hszc : Hid ((cellsP P).length = 64) := Lib.hid ((cellsP_length P).trans hPrP.1)
        have hszP : Hid ((arr .i16 P).size = 64) := Lib.hid (by rw [arr_size, hPrP.1])
        have hszR : Hid ((arr .i16 R).size = 64) := Lib.hid (by rw [arr_size, hPrR.1])
        clear hb10 HBr Tr Xr PDr hr1 hr2 hcc hPrP hPrR hRg hok hokP hPB hR hPl hlc l1 l5 hnl
        have HG11 := Lib.hid (setRow_heap (w10.alloc (.cells (arr .i16 Z64) 37)) w10.heap.size _ (arr .i16 P) 37 (0, 0) (al1_0 _ _))
        have hb11 : Below w10.heap.size w10 ((w10.alloc (.cells (arr .i16 Z64) 37)).setRow w10.heap.size (arr .i16 P)) := below_setRow (bl1 w10 (.cells (arr .i16 Z64) 37)) (Nat.le_refl _) (arr .i16 P)
        have HB11 := Lib.hid (bt HB10.out hb11)
        have T11 := Lib.hid (TabAt_bl hb11 T10.out)
        clear hb11
        go_upto_region 23 with (first
          | (refine wpList_load_mid rfl 37 (.tmp 159) rfl gl 0 rfl (cellsP P) _ HRg.out Tryd.underlying37 rfl (by rw [szPrint, hszc.out]) ?_)
          | (rw [z64_Z]; refine wpList_store_row rfl 37 (.tmp 16) (.tmp 160) rfl w10.heap.size (arr .i16 P) rfl rfl 37 (arr .i16 Z64) (al1_0 _ _) (by rw [szPrint, hszP.out]) (by rw [hszP.out, arr_size, Z64_length]) (arr_one _ _) ?_))
        generalize (w10.alloc (.cells (arr .i16 Z64) 37)).setRow w10.heap.size (arr .i16 P) = w11 at *
        generalize w10.heap.size = gP at *
        go_wp2_with (refine wpList_load_row rfl 37 (.tmp 16) rfl gP rfl _ _ _ _ HG11.out Tryd.underlying37 rfl (by rw [szPrint, hszP.out]) ?_)
        refine (implRC_c P HPP.out M HF.out.m _ T11.out).mono ?_
        rw [HR1.out]
        rintro e w12 ⟨rfl, hb12⟩
        have HB12 := Lib.hid (bt HB11.out hb12)
        have T12 := Lib.hid (TabAt_bl hb12 T11.out)
        have HG12 := Lib.hid (heap_below hb12 (lt_of_heap HG11.out) HG11.out)
        have HJ13 := Lib.hid (setRow_heap (w12.alloc (.cells (arr .i16 Z64) 37)) w12.heap.size _ (arr .i16 R) 37 (0, 0) (al1_0 _ _))
        have hb13 : Below w12.heap.size w12 ((w12.alloc (.cells (arr .i16 Z64) 37)).setRow w12.heap.size (arr .i16 R)) := below_setRow (bl1 w12 (.cells (arr .i16 Z64) 37)) (Nat.le_refl _) (arr .i16 R)
        have HB13 := Lib.hid (bt HB12.out hb13)
        have T13 := Lib.hid (TabAt_bl hb13 T12.out)
        have HG13 := Lib.hid (heap_below hb13 (lt_of_heap HG12.out) HG12.out)
        clear hb12 hb13 HB11 T11 HG11 HB12 T12 HG12
        go_upto_region 24 with (rw [z64_Z]; refine wpList_store_row rfl 37 (.tmp 17) (.tmp 165) rfl w12.heap.size (arr .i16 R) rfl rfl 37 (arr .i16 Z64) (al1_0 _ _) (by rw [szPrint, hszR.out]) (by rw [hszR.out, arr_size, Z64_length]) (arr_one _ _) ?_)
        generalize (w12.alloc (.cells (arr .i16 Z64) 37)).setRow w12.heap.size (arr .i16 R) = w13 at *
        generalize w12.heap.size = gR at *
        go_wp2_with (refine wpList_load_row rfl 37 (.tmp 16) rfl gP rfl _ _ _ _ HG13.out Tryd.underlying37 rfl (by rw [szPrint, hszP.out]) ?_)
        refine (specRC_c P HPP.out M HF.out.m _).mono ?_
        rw [HR1.out]
        rintro e w14 ⟨rfl, hb14⟩
        have HB14 := Lib.hid (bt HB13.out hb14)
        have T14 := Lib.hid (TabAt_bl hb14 T13.out)
        have HG14 := Lib.hid (heap_below hb14 (lt_of_heap HG13.out) HG13.out)
        have HJ14 := Lib.hid (heap_below hb14 (lt_of_heap HJ13.out) HJ13.out)
        have HK15 := Lib.hid (setRow_heap (w14.alloc (.cells (arr .i16 Z64) 37)) w14.heap.size _ (arr .i16 R) 37 (0, 0) (al1_0 _ _))
        have hb15 : Below w14.heap.size w14 ((w14.alloc (.cells (arr .i16 Z64) 37)).setRow w14.heap.size (arr .i16 R)) := below_setRow (bl1 w14 (.cells (arr .i16 Z64) 37)) (Nat.le_refl _) (arr .i16 R)
        have HB15 := Lib.hid (bt HB14.out hb15)
        have T15 := Lib.hid (TabAt_bl hb15 T14.out)
        have HG15 := Lib.hid (heap_below hb15 (lt_of_heap HG14.out) HG14.out)
        have HJ15 := Lib.hid (heap_below hb15 (lt_of_heap HJ14.out) HJ14.out)
        clear hb14 hb15 HB13 T13 HG13 HJ13 HB14 T14 HG14 HJ14
        go_upto_region 25 with (rw [z64_Z]; refine wpList_store_row rfl 37 (.tmp 20) (.tmp 172) rfl w14.heap.size (arr .i16 R) rfl rfl 37 (arr .i16 Z64) (al1_0 _ _) (by rw [szPrint, hszR.out]) (by rw [hszR.out, arr_size, Z64_length]) (arr_one _ _) ?_)
        generalize (w14.alloc (.cells (arr .i16 Z64) 37)).setRow w14.heap.size (arr .i16 R) = w15 at *
        generalize w14.heap.size = gQ at *
        go_wp2_with fail
        refine (implRF_c M HF.out.m _ T15.out).mono ?_
        rw [HR2.out]
        rintro e w16 ⟨rfl, hb16⟩
        have HB16 := Lib.hid (bt HB15.out hb16)
        have T16 := Lib.hid (TabAt_bl hb16 T15.out)
        have HG16 := Lib.hid (heap_below hb16 (lt_of_heap HG15.out) HG15.out)
        have HJ16 := Lib.hid (heap_below hb16 (lt_of_heap HJ15.out) HJ15.out)
        have HK16 := Lib.hid (heap_below hb16 (lt_of_heap HK15.out) HK15.out)
        clear hb16 HB15 T15 HG15 HJ15 HK15
        have s1 : (cc != cc) = false := by simp
        have s2 : ((r : Int) != (r : Int)) = false := by simp
        generalize hAR : arr .i16 R = AR at *
        have HAR := Lib.hid hAR
        have HAR' := Lib.hid hAR
        clear hAR
        go_upto_region 28 with (first
          | (show wpList _ _ _ (⟨some 184, _, _, _, _, _⟩ :: _) _ _; refine wpList_load_rowE (by rfl) 37 (.tmp 17) (by rfl) gR (by rfl) _ _ _ _ HJ16.out Tryd.underlying37 rfl (by rw [szPrint, hszR.out]) ?_)
          | (show wpList _ _ _ (⟨some 185, _, _, _, _, _⟩ :: _) _ _; refine wpList_load_rowE (by rfl) 37 (.tmp 20) (by rfl) gQ (by rfl) _ _ _ _ HK16.out Tryd.underlying37 rfl (by rw [szPrint, hszR.out]) ?_)
          | (show wpList _ _ _ (⟨some 186, _, _, _, _, _⟩ :: _) _ _; refine wpList_neq_arr (by rfl) (.tmp 184) (.tmp 185) _ (by rfl) R AR HAR.out HPR.out.1 (by rfl) (by rfl) ?_))
        clear HJ16 s1 s2 HAR hszP hszR HPR
        have HK17 : Hid (w16.heap[gQ]? = some (.cells (arr .i16 R) 37 (0, 0))) := Lib.hid (by rw [HAR'.out]; exact HK16.out)
        have hx1 := sgn_u64
        rcases HCC.out with ⟨hc6, hfull⟩ | ⟨hc0, hRp⟩
        · have hMi : (M : Int) = 18446744073709551615 := by omega
          have hx2 : ((bits .xor .u64 IntKind.u64.max (M : Int)) == 0) = true := by rw [hMi]; exact is_full
          subst hc6
          clear HCC HF HM HR1 HR2 HX HGv hfull hMi
          go_wp2
          go_ret
          exact ⟨rfl, HB16.out⟩
        subst hc0
        have HRP := Lib.hid hRp
        clear HCC hRp HK16 HR1 HR2 hx1
        have HM64 := Lib.hid HF.out.m
        have hr65 := HRP.out.r64
        clear HF HM HX HGv
        go_wp2_with fail
        as_aux_lemma =>
          go_loop [25, 26, 27] (fun lv hv iv => ∃ (k : Nat) (lo hi : Int), k ≤ 64 ∧ iv = .int .i64 k ∧ lv = .int .i16 lo ∧ hv = .int .i16 hi ∧ BetK P M k lo hi) (fun _ _ iv => 64 - (intOf iv).toNat)
          case atStart => exact ⟨0, 400, 0, by omega, rfl, rfl, rfl, fun j hj => absurd hj (Nat.not_lt_zero _)⟩
          case round =>
            obtain ⟨k, lo, hi, hk, rfl, rfl, rfl, hbk⟩ := hrel
            have HBK := Lib.hid hbk
            clear hbk
            by_cases hlt : k < 64
            · have hk64 : (k : Int) < 64 := by omega
              have hcell := arr_cell HG16.out k (by rw [HPP.out.1]; exact hlt)
              have hbit := bit_of M k HM64.out
              have hkw : IntKind.u64.wrap (k : Int) = (k : Int) := by rw [IntKind.wrap_u64]; omega
              have HX := Lib.hid (show P.getD k 0 = P.getD k 0 from rfl)
              cases hb : M.testBit k
              · rw [hb] at hbit
                have htk := fun lo' hi' (h1 : lo' ≤ lo) (h2 : lo' ≤ P.getD k 0) (h3 : hi ≤ hi') (h4 : P.getD k 0 ≤ hi') => betK_take HBK.out h1 h2 h3 h4
                have HTK := Lib.hid htk
                clear htk hb HX
                simp only [Bool.false_eq_true, if_false] at hbit
                generalize P.getD k 0 = x at *
                go_wp2
                go_round
                case rel => exact ⟨k + 1, (if x < lo then x else lo), (if x > hi then x else hi), by omega, by go_num, rfl, rfl, HTK.out _ _ (by split <;> omega) (by split <;> omega) (by split <;> omega) (by split <;> omega)⟩
                case measure => simp [intOf]; omega
              · rw [hb] at hbit
                have HTK := Lib.hid (betK_skip HBK.out hb)
                clear hb HX
                simp only [if_true] at hbit
                go_wp2
                go_round
                case rel => exact ⟨k + 1, lo, hi, by omega, by go_num, rfl, rfl, HTK.out⟩
                case measure => simp [intOf]; omega
            · have hk64 : ¬ (k : Int) < 64 := by omega
              have hke : k = 64 := by omega
              subst hke
              have HBet : Hid (∀ j, j < 64 → lo ≤ R.getD j 0 ∧ R.getD j 0 ≤ hi) := Lib.hid (HRP.out.bet lo hi HBK.out)
              have HR64 : Hid (R.length = 64) := Lib.hid HRP.out.pr.1
              clear HBK
              go_wp2_with fail
              as_aux_lemma =>
                go_loopw [28] (fun iv wr => ∃ k : Nat, k ≤ 64 ∧ iv = .int .i64 k ∧ wr.heap[gP]? = some (.cells (arr .i16 P) 37 (0, 0)) ∧ wr.heap[gQ]? = some (.cells (arr .i16 R) 37 (0, 0)) ∧ TabAt wr ∧ Below w.heap.size w wr) (fun iv _ => 64 - (intOf iv).toNat)
                case atStart => exact ⟨0, by omega, rfl, HG16.out, HK17.out, T16.out, HB16.out⟩
                case round =>
                  clear HG16 HK17 T16 HB16
                  obtain ⟨k, hk, rfl, hG, hK, hTr, hBr⟩ := hrel
                  have HG := Lib.hid hG
                  have HK := Lib.hid hK
                  have Tr := Lib.hid hTr
                  have HBr := Lib.hid hBr
                  clear hG hK hTr hBr
                  by_cases hlt : k < 64
                  · have hk64 : (k : Int) < 64 := by omega
                    have c1 := arr_cell HG.out k (by rw [HPP.out.1]; exact hlt)
                    have c2 := arr_cell HK.out k (by rw [HR64.out]; exact hlt)
                    have hbit := bit_of M k HM64.out
                    have hkw : IntKind.u64.wrap (k : Int) = (k : Int) := by rw [IntKind.wrap_u64]; omega
                    have hbe := HBet.out k hlt
                    have hke := HRP.out.keep k hlt
                    generalize P.getD k 0 = x at *
                    generalize R.getD k 0 = y at *
                    have g1 : decide (y < lo) = false := decide_eq_false (by omega)
                    have g2 : decide (hi < y) = false := decide_eq_false (by omega)
                    cases hb : M.testBit k
                    · rw [hb] at hbit
                      simp only [Bool.false_eq_true, if_false] at hbit
                      have hxy := hke hb
                      subst hxy
                      have g3 : (y != y) = false := by simp
                      clear hke hbe hb
                      go_wp2_with fail
                      go_quiet (fail)
                      go_wp2
                      go_roundw
                      case rel => exact ⟨k + 1, by omega, by go_num, HG.out, HK.out, Tr.out, bl_drewN HBr.out _⟩
                      case measure => simp [intOf]; omega
                    · rw [hb] at hbit
                      simp only [if_true] at hbit
                      clear hke hbe hb
                      go_wp2_with fail
                      go_quiet (fail)
                      go_wp2
                      go_roundw
                      case rel => exact ⟨k + 1, by omega, by go_num, HG.out, HK.out, Tr.out, bl_drewN HBr.out _⟩
                      case measure => simp [intOf]; omega
                  · have hk64 : ¬ (k : Int) < 64 := by omega
                    clear HG HK HBet
                    go_wp2_with fail
                    as_aux_lemma =>
                      go_loopw [29, 30] (fun lv iv wr2 => ∃ k : Nat, k ≤ r ∧ iv = .int .i64 k ∧ lv = .int .u64 (rmN M k : Nat) ∧ TabAt wr2 ∧ Below w.heap.size w wr2) (fun _ iv _ => r - (intOf iv).toNat)
                      case atStart => exact ⟨0, Nat.zero_le _, rfl, rfl, Tr.out, HBr.out⟩
                      case round =>
                        clear Tr HBr
                        obtain ⟨k, hk, rfl, rfl, hTr, hBr⟩ := hrel
                        have Tr := Lib.hid hTr
                        have HBr := Lib.hid hBr
                        clear hTr hBr
                        by_cases hlt : k < r
                        · have hkr : (k : Int) < r := by omega
                          have hne := HRP.out.some k hlt
                          have hlt64 := rmN_lt HM64.out k
                          have hnx := Lib.hid (show rmN M (k + 1) = rm (rmN M k) from rfl)
                          generalize rmN M k = m at *
                          have hm0 : ((m : Int) == 0) = false := by simp; omega
                          have hx1 := sgn_u64
                          have hx2 := xor_int hlt64
                          have hsh := rm_shift hlt64
                          have hnt : 18446744073709551615 - m < 2 ^ 64 := by omega
                          have hgl := gr_lt (18446744073709551615 - m)
                          generalize 18446744073709551615 - m = nm at *
                          go_wp2_with fail
                          refine (implGrowMask_c nm hnt _ Tr.out).mono ?_
                          rintro e w20 ⟨rfl, hb20⟩
                          have T20 := Lib.hid (TabAt_bl hb20 Tr.out)
                          have HB20 := Lib.hid (bt HBr.out hb20)
                          have han := andNot_int m (gr nm) hlt64 hgl
                          rw [hsh] at han
                          generalize gr nm = gn at *
                          generalize rm m = m2 at *
                          clear hb20 hsh hx1 hx2 hnt hgl hlt64 hne
                          go_wp2
                          go_roundw
                          case rel => exact ⟨k + 1, by omega, by go_num, by rw [hnx.out], T20.out, HB20.out⟩
                          case measure => simp [intOf]; omega
                        · have hkr : ¬ (k : Int) < r := by omega
                          have hke : k = r := by omega
                          subst hke
                          have h0 := HRP.out.rounds
                          rw [h0]
                          go_wp2
                          go_ret
                          exact ⟨rfl, HBr.out⟩
end Go.Proofs.YtdmlefccajaniaaDoor
