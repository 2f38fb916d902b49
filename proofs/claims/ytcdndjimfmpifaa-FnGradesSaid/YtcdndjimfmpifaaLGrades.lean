/- FnGrades: the walk of the law. -/
import Derived.Test.YtcdndjimfmpifaaGradesQ
namespace Go.Proofs.Ytcdndjimfmpifaa
open Go.RowKit Go.Lib
open Go.Sort
set_option maxHeartbeats 16000000 in
set_option maxRecDepth 100000 in
theorem lawGrades_c (v1 : Value) (n1 : Nat) (v2 : Value) (n2 : Nat) (w : World) (h1 : Bytes w v1 n1) (h2 : Bytes w v2 n2) :
    Calls Try.prog 5 #[v1, v2] w fun e w' => e = .returned (.bool true) ∧ Below w.heap.size w w' := by
  obtain ⟨p1, c1, e1, -, -⟩ := bytes_shape h1
  obtain ⟨p2, c2, e2, -, -⟩ := bytes_shape h2
  have H1 := Lib.hid h1
  have H2 := Lib.hid h2
  have CL1 : Hid (∀ w0 : World, Calls Try.prog 17 #[v1] w0 fun e w' => e = .returned (.bool (decide (4096 < (n1 : Int)))) ∧ w0 = w') := Lib.hid fun w0 => f6bigG_c v1 n1 p1 c1 e1 w0
  have CL2 : Hid (∀ w0 : World, Calls Try.prog 17 #[v2] w0 fun e w' => e = .returned (.bool (decide (4096 < (n2 : Int)))) ∧ w0 = w') := Lib.hid fun w0 => f6bigG_c v2 n2 p2 c2 e2 w0
  clear h1 h2 e1 e2 p1 c1 p2 c2
  by_cases hl : 4096 < (n1 : Int)
  · have HLong : Hid (decide (4096 < (n1 : Int)) = true) := Lib.hid (by simpa using hl)
    clear hl
    go_enter Try.func5, Try.ntmps5
    go_wp2_with fail
    refine (CL1.out _).mono ?_
    rintro e w' ⟨rfl, rfl⟩
    rw [HLong.out]
    go_wp2
    go_ret
    exact ⟨rfl, Below.refl _ _⟩
  have HLong : Hid (decide (4096 < (n1 : Int)) = false) := Lib.hid (by simpa using hl)
  by_cases hl2 : 4096 < (n2 : Int)
  · have HLong2 : Hid (decide (4096 < (n2 : Int)) = true) := Lib.hid (by simpa using hl2)
    clear hl hl2
    go_enter Try.func5, Try.ntmps5
    go_wp2_with fail
    refine (CL1.out _).mono ?_
    rintro e w' ⟨rfl, rfl⟩
    rw [HLong.out]
    go_wp2_with fail
    refine (CL2.out _).mono ?_
    rintro e w' ⟨rfl, rfl⟩
    rw [HLong2.out]
    go_wp2
    go_ret
    exact ⟨rfl, Below.refl _ _⟩
  have HLong2 : Hid (decide (4096 < (n2 : Int)) = false) := Lib.hid (by simpa using hl2)
  have hl1 : Hid (n1 ≤ 100000) := Lib.hid (by omega)
  clear hl hl2
  go_enter Try.func5, Try.ntmps5
  refine wp_var fun Q0 HQ0 => ?_
  go_wp2_with fail
  refine (CL1.out _).mono ?_
  rintro e w' ⟨rfl, rfl⟩
  rw [HLong.out]
  go_wp2_with fail
  refine (CL2.out _).mono ?_
  rintro e w' ⟨rfl, rfl⟩
  rw [HLong2.out]
  clear HLong HLong2 CL1 CL2
  go_wp2_with fail
  refine (p6Paper_c v1 n1 _ H1.out).mono ?_
  rintro e w1 ⟨r0, c0, q0, rfl, hq0, hA0, hB⟩
  obtain ⟨m0, hm0⟩ : ∃ m, m = q0.length := ⟨_, rfl⟩
  rw [← hm0]
  have HQ0 := Lib.hid hq0
  have FA0 := Lib.hid hA0
  have HM0 := Lib.hid hm0
  clear hq0 hA0 hm0
  go_wp2_with fail
  refine (p6Paper_c v2 n2 _ (bytes_keep H2.out hB)).mono ?_
  rintro e w2 ⟨r1, c1, q1, rfl, hq1, hA1, hb⟩
  obtain ⟨m1, hm1⟩ : ∃ m, m = q1.length := ⟨_, rfl⟩
  rw [← hm1]
  have HQ1 := Lib.hid hq1
  have FA1 := Lib.hid hA1
  have HM1 := Lib.hid hm1
  replace FA0 := Lib.hid (CvS_below hb FA0.out)
  replace hB := bt hB hb
  have K5 := Lib.hid (bl1 w2 (.cells #[.int .u8 5] 5))
  have R4 := Lib.hid (row_new1 w2 5 .u8 w2.heap.size (Nat.le_refl _) 5)
  have H4b := Lib.hid (bytes_keep (bytes_keep H1.out hB) K5.out)
  have hz5 : w2.heap.size ≤ (w2.alloc (.cells #[.int .u8 5] 5)).heap.size := by simp
  clear hq1 hA1 hm1 hb
  go_wp2_with (generalize w2.alloc (.cells #[.int .u8 5] 5) = w4 at *; refine wpList_app_bytes rfl (.tmp 69) (.tmp 70) 37 rfl w2.heap.size 5 Try.underlying37 infoU8G _ 5 (by omega) (by omega) rfl R4.out _ n1 rfl H4b.out hl1.out hz5 ?_; intro v5 w5 hb5 hg5 ho5)
  have hb := K5.out.trans ((Below.refl w2.heap.size w4).grown hg5 hz5 ho5)
  replace FA0 := Lib.hid (CvS_below hb FA0.out)
  replace FA1 := Lib.hid (CvS_below hb FA1.out)
  replace hB := bt hB hb
  clear hg5 ho5 hb K5 R4 H4b hz5
  refine (p6Paper_c v5 (n1 + 1) w5 hb5).mono ?_
  rintro e w6 ⟨r2, c2, q2, rfl, hq2, hA2, hb⟩
  obtain ⟨m2, hm2⟩ : ∃ m, m = q2.length := ⟨_, rfl⟩
  rw [← hm2]
  obtain ⟨cs, hcs⟩ : ∃ cs, cs = [q0, q1, q2] := ⟨_, rfl⟩
  have HLn : Hid (Len3 cs m0 q0 m1 q1 m2 q2) := Lib.hid ⟨⟨hcs, HQ0.out, HQ1.out, hq2⟩, HM0.out, HM1.out, hm2⟩
  have HX := Lib.hid (bl1 w6 (.cells #[.slice r0 m0 c0, .slice r1 m1 c1, .slice r2 m2 c2] 40))
  have F3 : Hid (In3 (w6.alloc (.cells #[.slice r0 m0 c0, .slice r1 m1 c1, .slice r2 m2 c2] 40)) w6.heap.size r0 m0 c0 q0 r1 m1 c1 q1 r2 m2 c2 q2) := Lib.hid ⟨al1_0 _ _, CvS_below HX.out (CvS_below hb FA0.out), CvS_below HX.out (CvS_below hb FA1.out), CvS_below HX.out hA2⟩
  replace hB := bt (bt hB hb) HX.out
  clear hcs hq2 hm2 hA2 hb hb5 HX FA0 FA1 HQ0 HQ1 HM0 HM1
  go_wp2_with fail
  generalize w6.alloc (.cells #[.slice r0 m0 c0, .slice r1 m1 c1, .slice r2 m2 c2] 40) = w7 at *
  generalize w6.heap.size = gg at *
  go_wp2_with fail
  refine (p6PickG_c v1 n1 _ (bytes_keep H1.out hB) 60 (by omega)).mono ?_
  rintro e w8 ⟨ta, rfl, a0, a1, hb⟩
  replace F3 := Lib.hid (in3_below hb F3.out)
  replace hB := bt hB hb
  clear hb
  go_wp2_with fail
  refine (p6PickG_c v2 n2 _ (bytes_keep H2.out hB) 120 (by omega)).mono ?_
  rintro e w9 ⟨tx, rfl, x0, x1, hb⟩
  replace F3 := Lib.hid (in3_below hb F3.out)
  replace hB := bt hB hb
  clear hb
  have wtb : IntKind.i64.wrap (ta + tx) = ta + tx := Go.IntWalk.i64_in _ (by omega)
  go_wp2_with fail
  refine (p6PickG_c v2 n2 _ (bytes_keep H2.out hB) 150 (by omega)).mono ?_
  rintro e w10 ⟨td, rfl, d0, d1, hb⟩
  replace F3 := Lib.hid (in3_below hb F3.out)
  replace hB := bt hB hb
  clear hb
  go_wp2_with fail
  refine (p6PickG_c v1 n1 _ (bytes_keep H1.out hB) 80 (by omega)).mono ?_
  rintro e w11 ⟨tl, rfl, l0, l1, hb⟩
  replace F3 := Lib.hid (in3_below hb F3.out)
  replace hB := bt hB hb
  clear hb
  have hfour : fourB ta (ta + tx) td tl = true := by simp only [fourB, Bool.and_eq_true, ydB_iff, decide_eq_true_eq]; omega
  have wte : IntKind.i64.wrap (tl + 20) = tl + 20 := Go.IntWalk.i64_in _ (by omega)
  have HE : Hid (endB tl (tl + 20) = true) := Lib.hid (by simp only [endB, Bool.and_eq_true, ydB_iff, decide_eq_true_eq]; omega)
  obtain ⟨B, X, M, O, hbest⟩ := best_facts HLn.out.t hfour
  have HBs := Lib.hid hbest
  have HO := Lib.hid hbest.code
  have HBe := Lib.hid hbest.eq
  have hMb := hbest.bd
  have hta : Hid (0 ≤ ta ∧ ta ≤ 400) := Lib.hid (by omega)
  clear hfour hbest a0 a1 x0 x1 d0 d1 l0 l1 wtb
  go_wp2_with fail
  refine (gImplBest_c (some ⟨gg, 0, none⟩) 3 3 cs HLn.out.t.i16 HLn.out.t.len.symm (by omega) ta (ta + tx) td tl _ (in3_grs HLn.out F3.out)).mono ?_
  rintro e w12 ⟨rfl, hb⟩
  rw [HBe.out]
  dsimp only
  replace F3 := Lib.hid (in3_below hb F3.out)
  replace hB := bt hB hb
  clear hb
  go_wp2_with fail
  refine (gBest_c (some ⟨gg, 0, none⟩) 3 3 cs HLn.out.t.i16 HLn.out.t.len.symm (by omega) ta (ta + tx) td tl _ (in3_grs HLn.out F3.out)).mono ?_
  rintro e w13 ⟨rfl, hb⟩
  rw [HBe.out]
  dsimp only
  replace F3 := Lib.hid (in3_below hb F3.out)
  replace hB := bt hB hb
  clear hb
  obtain ⟨R, n, C3, b3, hord⟩ := ord_facts HLn.out.t HE.out
  have HOr := Lib.hid hord
  have HOe := Lib.hid hord.eq
  have n3 := hord.le
  clear hord HBe
  rcases HO.out with rfl | rfl
  · clear HO
    as_aux_lemma =>
      go_wp2_with fail
      go_loopw [18] (fun i wr => ∃ k : Nat, k ≤ 3 ∧ i = .int .i64 k ∧ Below w13.heap.size w13 wr) (fun i _ => 3 - (intOf i).toNat)
      case atStart => exact ⟨0, by omega, rfl, Below.refl _ _⟩
      case round =>
        obtain ⟨k, hk, rfl, hW⟩ := hrel
        have HW := Lib.hid hW
        have G3 := Lib.hid (in3_below hW F3.out)
        clear hW
        by_cases hlt : k < 3
        · obtain ⟨r, m, cp, hcell, hm, hm2, hcv⟩ := in3_at HLn.out G3.out k hlt
          obtain ⟨A, mm, C, hms, hC, hle, heq, hbd⟩ := HBs.out.each k hlt
          have hki : (k : Int) < 3 := by omega
          have HMs := Lib.hid hms
          have HP := Lib.hid (HLn.out.t.pap k hlt).i16
          have HM := Lib.hid hm
          have HV := Lib.hid hcv
          have HC := Lib.hid hC
          have HCK : Hid (∀ w', Below wr.heap.size wr w' → w'.cell? ⟨gg, k, none⟩ = some (.slice r m cp)) := Lib.hid (fun w' h => (h.cell (p := ⟨gg, k, none⟩) (lt_of_heap G3.out.at_)).trans hcell)
          have HLe : Hid (C = 0 → absV M ≤ absV mm) := Lib.hid (fun h => (hle h).2)
          have HEq : Hid ((k : Int) = B → A = X ∧ mm = M ∧ C = 0) := Lib.hid (fun h => heq h rfl)
          clear hms hm hcv hC hle heq
          go_wp2_with fail
          refine (cImplMisfit_c r m cp (cs.getD k []) HP.out HM.out hm2 ta (ta + tx) td tl _ HV.out).mono ?_
          rintro e w14 ⟨rfl, hb⟩
          rw [HMs.out]
          dsimp only
          have hc2 := HCK.out w14 hb
          have HV2 := Lib.hid (CvS_below hb HV.out)
          have HW2 := Lib.hid (HW.out.trans (hb.mono HW.out.size))
          clear hcell HCK HV hb HW G3
          go_wp2_with fail
          refine (cMisfit_c r m cp (cs.getD k []) HP.out HM.out hm2 ta (ta + tx) td tl _ HV2.out).mono ?_
          rintro e w15 ⟨rfl, hb⟩
          rw [HMs.out]
          dsimp only
          have HW3 := Lib.hid (HW2.out.trans (hb.mono HW2.out.size))
          clear hc2 HV2 hb HW2 HMs HP HM
          rcases HC.out with rfl | rfl
          · by_cases hkB : (k : Int) = B
            · obtain ⟨rfl, rfl, -⟩ := HEq.out hkB
              as_aux_lemma =>
                go_wp2_with fail
                go_roundw
                case rel => exact ⟨k + 1, by omega, by rw [← hkB]; go_num, HW3.out⟩
                case measure => simp [intOf]; omega
            · as_aux_lemma =>
                go_wp2_with fail
                all_goals
                  first
                  | (exfalso
                     have hAB : absV M ≤ absV mm := HLe.out (by first | rfl | trivial)
                     unfold absV at hAB
                     split at hAB <;> split at hAB <;> omega)
                  | (go_roundw
                     case rel => exact ⟨k + 1, by omega, by go_num, HW3.out⟩
                     case measure => simp [intOf]; omega)
          · by_cases hkB : (k : Int) = B
            · exact absurd (HEq.out hkB).2.2 (by decide)
            · as_aux_lemma =>
                go_wp2_with fail
                go_roundw
                case rel => exact ⟨k + 1, by omega, by go_num, HW3.out⟩
                case measure => simp [intOf]; omega
        · have hki : ¬ (k : Int) < 3 := by omega
          replace F3 := G3
          replace hB := bt hB HW.out
          clear HW G3 HBs hMb hlt hk
          generalize wr = w20 at *
          as_aux_lemma =>
            go_wp2_with fail
            refine (gImplOrder_c (some ⟨gg, 0, none⟩) 3 3 cs HLn.out.t.i16 HLn.out.t.len.symm (by omega) tl (tl + 20) _ (in3_grs HLn.out F3.out)).mono ?_
            rintro e w21 ⟨v, rfl, hR, hb⟩
            rw [HOe.out] at hR ⊢
            dsimp only at hR ⊢
            obtain ⟨s1, k1, rfl, hp⟩ := PB_i64_row hR
            rw [← HOr.out.len]
            replace F3 := Lib.hid (in3_below hb F3.out)
            have P1 := Lib.hid hp
            replace hB := bt hB hb
            clear hb hp hR
            go_wp2_with fail
            refine (gOrder_c (some ⟨gg, 0, none⟩) 3 3 cs HLn.out.t.i16 HLn.out.t.len.symm (by omega) tl (tl + 20) _ (in3_grs HLn.out F3.out)).mono ?_
            rintro e w22 ⟨v, rfl, hR, hb⟩
            rw [HOe.out] at hR ⊢
            dsimp only at hR ⊢
            obtain ⟨s2, k2, rfl, hp⟩ := PB_i64_row hR
            rw [← HOr.out.len]
            replace F3 := Lib.hid (in3_below hb F3.out)
            replace P1 := Lib.hid (PB_i64_keep hb P1.out)
            have P2 := Lib.hid hp
            replace hB := bt hB hb
            clear hb hp hR
            go_wp2_with fail
            as_aux_lemma =>
              go_loopw [29, 30] (fun av i wr => ∃ k : Nat, k ≤ 3 ∧ i = .int .i64 k ∧ av = .bool (okN cs tl (tl + 20) k) ∧ Below w22.heap.size w22 wr) (fun _ i _ => 3 - (intOf i).toNat)
              case atStart => exact ⟨0, by omega, rfl, rfl, Below.refl _ _⟩
              case round =>
                obtain ⟨k, hk, rfl, rfl, hW⟩ := hrel
                have HW := Lib.hid hW
                have G3 := Lib.hid (in3_below hW F3.out)
                clear hW
                by_cases hlt : k < 3
                · obtain ⟨r, m, cp, hcell, hm, hm2, hcv⟩ := in3_at HLn.out G3.out k hlt
                  have hki : (k : Int) < 3 := by omega
                  have HP := Lib.hid (HLn.out.t.pap k hlt)
                  have HM := Lib.hid hm
                  have HV := Lib.hid hcv
                  obtain ⟨b, hb0⟩ : ∃ b, b = okN cs tl (tl + 20) k := ⟨_, rfl⟩
                  have HN1 : Hid (okN cs tl (tl + 20) (k + 1) = (b && sclB (cs.getD k []) tl (tl + 20))) := Lib.hid (by rw [okN_succ, ← hb0]; rfl)
                  rw [← hb0]
                  obtain ⟨t, ht⟩ : ∃ t, t = sclB (cs.getD k []) tl (tl + 20) := ⟨_, rfl⟩
                  rw [← ht] at HN1
                  have HT := Lib.hid ht.symm
                  clear hm hcv hb0 ht
                  go_wp2_with fail
                  refine (cScaleOf_c r m cp (cs.getD k []) HP.out HM.out hm2 tl (tl + 20) HE.out _ HV.out).mono ?_
                  rintro e w30 ⟨rfl, hb⟩
                  rw [HT.out]
                  have HW3 := Lib.hid (HW.out.trans (hb.mono HW.out.size))
                  clear hb HW hcell G3
                  cases b <;> cases t
                  all_goals
                    simp only [if_true, if_false, Bool.false_eq_true]
                    go_wp2_with fail
                    go_roundw
                    case rel => exact ⟨k + 1, by omega, by go_num, by rw [HN1.out] <;> rfl, HW3.out⟩
                    case measure => simp [intOf]; omega
                · have hki : ¬ (k : Int) < 3 := by omega
                  have hk3 : k = 3 := by omega
                  subst hk3
                  rw [HOr.out.all]
                  replace P1 := Lib.hid (PB_i64_keep HW.out P1.out)
                  replace P2 := Lib.hid (PB_i64_keep HW.out P2.out)
                  replace F3 := G3
                  replace hB := bt hB HW.out
                  clear HW G3 hlt hk
                  generalize wr = w31 at *
                  as_aux_lemma =>
                    have hc3 : (C3 == 0) = b3 := HOr.out.code
                    have hc4 : decide (C3 = 0) = b3 := HOr.out.code
                    go_wp2_with fail
                    refine (sameNumbers_c R s1 s2 n k1 k2 HOr.out.len (by omega) _ _ _ P1.out P2.out).mono ?_
                    rintro e w32 ⟨rfl, hb⟩
                    replace F3 := Lib.hid (in3_below hb F3.out)
                    replace P1 := Lib.hid (PB_i64_keep hb P1.out)
                    replace P2 := Lib.hid (PB_i64_keep hb P2.out)
                    replace hB := bt hB hb
                    clear hb
                    clear P1
                    go_wp2_with fail
                    as_aux_lemma =>
                      clear hc3 hc4
                      go_loopw [33] (fun i wr => ∃ k : Nat, 1 ≤ k ∧ k ≤ 3 ∧ i = .int .i64 k ∧ Below w32.heap.size w32 wr) (fun i _ => 3 - (intOf i).toNat)
                      case atStart => exact ⟨1, by omega, by omega, rfl, Below.refl _ _⟩
                      case round =>
                        obtain ⟨k, hk1, hk, rfl, hW⟩ := hrel
                        have HW := Lib.hid hW
                        have G3 := Lib.hid (in3_below hW F3.out)
                        clear hW
                        by_cases hlt : k < n
                        · obtain ⟨i, j, hi, hj, e1, e2, sb1, sb2, hle⟩ := HOr.out.each k hk1 hlt
                          obtain ⟨ra, ma, ca, hca, hma, hma2, hva⟩ := in3_at HLn.out G3.out i hi
                          obtain ⟨rb, mb, cb, hcb, hmb, hmb2, hvb⟩ := in3_at HLn.out G3.out j hj
                          obtain ⟨bb, oo, rfl, hbb, hcc⟩ := P2.out (neL_of_lt_i64 (k := k) (by rw [← HOr.out.len]; exact hlt))
                          have hd1 := HW.out.cell (p := ⟨bb, oo + (k - 1), none⟩) hbb
                          have hd2 := HW.out.cell (p := ⟨bb, oo + k, none⟩) hbb
                          rw [hcc (k - 1) (by rw [← HOr.out.len]; omega), e1] at hd1
                          rw [hcc k (by rw [← HOr.out.len]; omega), e2] at hd2
                          have HCK : Hid (∀ w', Below wr.heap.size wr w' → w'.cell? ⟨gg, j, none⟩ = some (.slice rb mb cb) ∧ w'.cell? ⟨bb, oo + k, none⟩ = some (.int .i64 j) ∧ w'.cell? ⟨bb, oo + (k - 1), none⟩ = some (.int .i64 i)) := Lib.hid (fun w' h => ⟨(h.cell (p := ⟨gg, j, none⟩) (lt_of_heap G3.out.at_)).trans hcb, (h.cell (p := ⟨bb, oo + k, none⟩) (Nat.lt_of_lt_of_le hbb HW.out.size)).trans hd2, (h.cell (p := ⟨bb, oo + (k - 1), none⟩) (Nat.lt_of_lt_of_le hbb HW.out.size)).trans hd1⟩)
                          have hki : (k : Int) < n := by omega
                          have hkw : IntKind.i64.wrap ((k : Int) - 1) = ((k - 1 : Nat) : Int) := by rw [Go.IntWalk.i64_in _ (by omega)]; omega
                          have hkl : ((k - 1 : Nat) : Int) < n := by omega
                          have f1 : decide ((i : Int) < 0) = false := decide_eq_false (by omega)
                          have f2 : decide ((2 : Int) < (i : Int)) = false := decide_eq_false (by omega)
                          have f3 : decide ((j : Int) < 0) = false := decide_eq_false (by omega)
                          have f4 : decide ((2 : Int) < (j : Int)) = false := decide_eq_false (by omega)
                          have hi3 : (i : Int) < 3 := by omega
                          have hj3 : (j : Int) < 3 := by omega
                          have HPa := Lib.hid (HLn.out.t.pap i hi)
                          have HPb := Lib.hid (HLn.out.t.pap j hj)
                          have HMa := Lib.hid hma
                          have HMb := Lib.hid hmb
                          have HVa := Lib.hid hva
                          have HVb := Lib.hid hvb
                          obtain ⟨Sa, hSa⟩ : ∃ S, S = sclN (cs.getD i []) tl (tl + 20) := ⟨_, rfl⟩
                          obtain ⟨Sb, hSb⟩ : ∃ S, S = sclN (cs.getD j []) tl (tl + 20) := ⟨_, rfl⟩
                          have hSS : decide (Sa < Sb) = false := decide_eq_false (by omega)
                          have HSa := Lib.hid hSa.symm
                          have HSb := Lib.hid hSb.symm
                          have Hs1 := Lib.hid sb1
                          have Hs2 := Lib.hid sb2
                          clear hcc hma hmb hva hvb hSa hSb sb1 sb2 hle e1 e2 hcb
                          go_wp2_with fail
                          refine (cSpecScaleOf_c ra ma ca (cs.getD i []) HPa.out HMa.out hma2 tl (tl + 20) HE.out _ HVa.out).mono ?_
                          rintro e w40 ⟨rfl, hb⟩
                          rw [HSa.out, if_pos Hs1.out]
                          obtain ⟨hcb, hd4, hd3⟩ := HCK.out w40 hb
                          have HVb2 := Lib.hid (CvS_below hb HVb.out)
                          have HW2 := Lib.hid (HW.out.trans (hb.mono HW.out.size))
                          clear hb HW HVb HVa hca hd1 hd2 G3 HCK
                          go_wp2_with fail
                          refine (cSpecScaleOf_c rb mb cb (cs.getD j []) HPb.out HMb.out hmb2 tl (tl + 20) HE.out _ HVb2.out).mono ?_
                          rintro e w41 ⟨rfl, hb⟩
                          rw [HSb.out, if_pos Hs2.out]
                          have HW3 := Lib.hid (HW2.out.trans (hb.mono HW2.out.size))
                          clear hb HW2 HVb2 hcb hd3 hd4
                          go_wp2_with fail
                          go_roundw
                          case rel => exact ⟨k + 1, by omega, by omega, by go_num, HW3.out⟩
                          case measure => simp [intOf]; omega
                        · have hki : ¬ (k : Int) < n := by omega
                          replace F3 := G3
                          replace hB := bt hB HW.out
                          clear HW G3 hlt hk hk1 P2
                          generalize wr = w50 at *
                          as_aux_lemma =>
                            go_wp2_with fail
                            refine (p6PickG_c v2 n2 _ (bytes_keep H2.out hB) 37 (by omega)).mono ?_
                            rintro e w51 ⟨fz, rfl, f0, f1, hb⟩
                            replace F3 := Lib.hid (in3_below hb F3.out)
                            replace hB := bt hB hb
                            clear hb
                            obtain ⟨f, rfl⟩ : ∃ f : Nat, fz = f := ⟨fz.toNat, by omega⟩
                            have hf : f ≤ 36 := by omega
                            clear f0 f1
                            have HTf : Hid (thB (f : Nat) = true) := Lib.hid (by simp [thB]; omega)
                            obtain ⟨hs2, hs3, hs1⟩ := cnv_self (q := q0) hf
                            obtain ⟨sv, hsv⟩ : ∃ s, s = cnvV q0 0 (atV q0 f) := ⟨_, rfl⟩
                            rw [← hsv] at hs1 hs3
                            have HS1 := Lib.hid hsv.symm
                            have HS2 := Lib.hid hs2
                            have g1 : decide ((f : Int) < sv) = false := decide_eq_false (by omega)
                            obtain ⟨V, E, S, hcnv⟩ := cnv_facts q0 q1 f hf
                            obtain ⟨T, hT⟩ : ∃ T, T = tabL q0 q1 37 := ⟨_, rfl⟩
                            have HTT := Lib.hid hT
                            have HCn := Lib.hid hcnv
                            have hf37 : (f : Int) < 37 := by omega
                            clear hs1 hs2 hs3 hsv hcnv hT hf
                            have k0 := cell_regrown (blk3_0 F3.out.at_)
                            have k1 := cell_regrown (blk3_1 F3.out.at_)
                            have cP : ∀ d os, Calls Try.prog 25 #[.slice r0 m0 c0, .slice r0 m0 c0, .int .i64 f] (grow (redrawn w51 d) os) fun e w'' => e = .returned (.tuple #[.int .i64 sv, .int .i64 0]) ∧ ∃ p : Regrown, w'' = grow (redrawn w51 p.d) p.os := fun d os => by
                              have := Calls.regrown_of (cConvert_c r0 m0 c0 q0 HLn.out.t.p0 HLn.out.l0 HLn.out.b0 r0 m0 c0 q0 HLn.out.t.p0 HLn.out.l0 HLn.out.b0 f HTf.out (grow (redrawn w51 d) os) (CvS_below (below_regrown w51 d os) F3.out.v0) (CvS_below (below_regrown w51 d os) F3.out.v0))
                              rwa [HS1.out, HS2.out] at this
                            go_upto_region 39 with fail
                            refine wp_region_quiet_below (by kernel_rfl) (by kernel_rfl) ?_
                            repeat (go_big_quiet_step (exact cP _ _))
                            refine wpQuiet_nil ?_
                            intro _ hw'
                            obtain ⟨⟨dq, osq⟩, hw''⟩ := hw'
                            subst hw''
                            have hb := below_regrown w51 dq osq
                            clear k0 k1 cP
                            replace F3 := Lib.hid (in3_below hb F3.out)
                            replace hB := bt hB hb
                            clear hb
                            generalize grow (redrawn w51 dq) osq = w52 at *
                            as_aux_lemma =>
                              have k0 := cell_regrown (blk3_0 F3.out.at_)
                              have k1 := cell_regrown (blk3_1 F3.out.at_)
                              have cP : ∀ d os, Calls Try.prog 25 #[.slice r0 m0 c0, .slice r1 m1 c1, .int .i64 f] (grow (redrawn w52 d) os) fun e w'' => e = .returned (.tuple #[.int .i64 V, .int .i64 E]) ∧ ∃ p : Regrown, w'' = grow (redrawn w52 p.d) p.os := fun d os => by
                                have := Calls.regrown_of (cConvert_c r0 m0 c0 q0 HLn.out.t.p0 HLn.out.l0 HLn.out.b0 r1 m1 c1 q1 HLn.out.t.p1 HLn.out.l1 HLn.out.b1 f HTf.out (grow (redrawn w52 d) os) (CvS_below (below_regrown w52 d os) F3.out.v0) (CvS_below (below_regrown w52 d os) F3.out.v1))
                                rwa [HCn.out.v, HCn.out.e] at this
                              go_upto_region 40 with fail
                              refine wp_region_quiet_below (by kernel_rfl) (by kernel_rfl) ?_
                              repeat (go_big_quiet_step (exact cP _ _))
                              refine wpQuiet_nil ?_
                              intro _ hw'
                              obtain ⟨⟨dq, osq⟩, hw''⟩ := hw'
                              subst hw''
                              have hb := below_regrown w52 dq osq
                              clear k0 k1 cP
                              replace F3 := Lib.hid (in3_below hb F3.out)
                              replace hB := bt hB hb
                              clear hb
                              generalize grow (redrawn w52 dq) osq = w53 at *
                              as_aux_lemma =>
                                have k0 := cell_regrown (blk3_0 F3.out.at_)
                                have k1 := cell_regrown (blk3_1 F3.out.at_)
                                have cP : ∀ d os, Calls Try.prog 26 #[.slice r0 m0 c0, .slice r1 m1 c1, .int .i64 f] (grow (redrawn w53 d) os) fun e w'' => e = .returned (.tuple #[.int .i64 V, .int .i64 E]) ∧ ∃ p : Regrown, w'' = grow (redrawn w53 p.d) p.os := fun d os => by
                                  have := Calls.regrown_of (cSpecConvert_c r0 m0 c0 q0 HLn.out.t.p0 HLn.out.l0 HLn.out.b0 r1 m1 c1 q1 HLn.out.t.p1 HLn.out.l1 HLn.out.b1 f HTf.out (grow (redrawn w53 d) os) (CvS_below (below_regrown w53 d os) F3.out.v0) (CvS_below (below_regrown w53 d os) F3.out.v1))
                                  rwa [HCn.out.v, HCn.out.e] at this
                                go_upto_region 41 with fail
                                refine wp_region_quiet_below (by kernel_rfl) (by kernel_rfl) ?_
                                repeat (go_big_quiet_step (exact cP _ _))
                                refine wpQuiet_nil ?_
                                intro _ hw'
                                obtain ⟨⟨dq, osq⟩, hw''⟩ := hw'
                                subst hw''
                                have hb := below_regrown w53 dq osq
                                clear k0 k1 cP
                                replace F3 := Lib.hid (in3_below hb F3.out)
                                replace hB := bt hB hb
                                clear hb
                                generalize grow (redrawn w53 dq) osq = w54 at *
                                as_aux_lemma =>
                                  have K : Hid (∀ w', Below w54.heap.size w54 w' → (Below w54.heap.size w54 w' ∧ w'.cell? ⟨gg, 0, none⟩ = some (.slice r0 m0 c0) ∧ w'.cell? ⟨gg, 1, none⟩ = some (.slice r1 m1 c1))) := Lib.hid fun w' hb => by
                                    have b0 := (in3_below hb F3.out).at_
                                    exact ⟨hb, blk3_0 b0, blk3_1 b0⟩
                                  have s0 := K.out _ (Below.refl _ _)
                                  go_upto_region 42 with fail
                                  go_region_held3 (fun w' => Below w54.heap.size w54 w' ∧ w'.cell? ⟨gg, 0, none⟩ = some (.slice r0 m0 c0) ∧ w'.cell? ⟨gg, 1, none⟩ = some (.slice r1 m1 c1))
                                    (first | (with_reducible assumption) | exact K.out _ (bl_drew (Below.refl _ _)) | exact K.out _ (bl_drew (‹Below w54.heap.size w54 _ ∧ _›).1))
                                    ((go_at_call 27; refine (cTableP_c r0 m0 c0 q0 HLn.out.t.p0 HLn.out.l0 HLn.out.b0 r1 m1 c1 q1 HLn.out.t.p1 HLn.out.l1 HLn.out.b1 T HTT.out _ (CvS_below (K.out _ (bl_drew (Below.refl _ _))).1 F3.out.v0) (CvS_below (K.out _ (bl_drew (Below.refl _ _))).1 F3.out.v1)).mono ?_; rintro e w55 ⟨s3, k3, rfl, hP, hbt⟩; have hb := bt (K.out _ (bl_drew (Below.refl _ _))).1 hbt; have s9 := K.out _ hb))
                                  have P3 := Lib.hid hP
                                  clear hP s0 s9 hbt K
                                  replace F3 := Lib.hid (in3_below hb F3.out)
                                  replace hB := bt hB hb
                                  clear hb
                                  as_aux_lemma =>
                                    have K : Hid (∀ w', Below w55.heap.size w55 w' → (Below w55.heap.size w55 w' ∧ w'.cell? ⟨gg, 0, none⟩ = some (.slice r0 m0 c0) ∧ w'.cell? ⟨gg, 1, none⟩ = some (.slice r1 m1 c1))) := Lib.hid fun w' hb => by
                                      have b0 := (in3_below hb F3.out).at_
                                      exact ⟨hb, blk3_0 b0, blk3_1 b0⟩
                                    have s0 := K.out _ (Below.refl _ _)
                                    go_upto_region 43 with fail
                                    go_region_held3 (fun w' => Below w55.heap.size w55 w' ∧ w'.cell? ⟨gg, 0, none⟩ = some (.slice r0 m0 c0) ∧ w'.cell? ⟨gg, 1, none⟩ = some (.slice r1 m1 c1))
                                      (first | (with_reducible assumption) | exact K.out _ (bl_drew (Below.refl _ _)) | exact K.out _ (bl_drew (‹Below w55.heap.size w55 _ ∧ _›).1))
                                      ((go_at_call 28; refine (cSpecTableP_c r0 m0 c0 q0 HLn.out.t.p0 HLn.out.l0 HLn.out.b0 r1 m1 c1 q1 HLn.out.t.p1 HLn.out.l1 HLn.out.b1 T HTT.out _ (CvS_below (K.out _ (bl_drew (Below.refl _ _))).1 F3.out.v0) (CvS_below (K.out _ (bl_drew (Below.refl _ _))).1 F3.out.v1)).mono ?_; rintro e w56 ⟨s4, k4, rfl, hP, hbt⟩; have hb := bt (K.out _ (bl_drew (Below.refl _ _))).1 hbt; have s9 := K.out _ hb))
                                    have P4 := Lib.hid hP
                                    clear hP s0 s9 hbt K
                                    replace F3 := Lib.hid (in3_below hb F3.out)
                                    replace P3 := Lib.hid (PB_i64_keep hb P3.out)
                                    replace hB := bt hB hb
                                    clear hb
                                    have HTl : Hid (37 = T.length) := Lib.hid (by rw [HTT.out, tabL_len])
                                    have HTs : Hid (T.getD f 0 = S) := Lib.hid (by rw [HTT.out]; exact HCn.out.s)
                                    have hb36 : cnvC q0 0 (atV q0 36) = 0 ∧ 0 ≤ cnvV q0 0 (atV q0 36) ∧ cnvV q0 0 (atV q0 36) ≤ 36 := cnv_self (q := q0) (f := 36) (Nat.le_refl _)
                                    obtain ⟨zv, hzv⟩ : ∃ s, s = cnvV q0 0 (atV q0 36) := ⟨_, rfl⟩
                                    rw [← hzv] at hb36
                                    have Z1 := Lib.hid hb36.1
                                    have Z2 := Lib.hid hzv.symm
                                    have zd1 : decide (0 ≤ zv) = true := decide_eq_true hb36.2.1
                                    have zd2 : decide (zv ≤ 36) = true := decide_eq_true hb36.2.2
                                    obtain ⟨uv, huv⟩ : ∃ s, s = cnvV q0 ta (atV q0 36) := ⟨_, rfl⟩
                                    obtain ⟨uc, huc⟩ : ∃ s, s = cnvC q0 ta (atV q0 36) := ⟨_, rfl⟩
                                    have U1 := Lib.hid huv.symm
                                    have U2 := Lib.hid huc.symm
                                    clear hb36 hzv huv huc
                                    rcases HCn.out.code with rfl | rfl
                                    · as_aux_lemma =>
                                        obtain ⟨hSV, hV0, hV1, hle⟩ := HCn.out.eq rfl
                                        subst hSV
                                        have hSd : decide (0 ≤ S) = true := decide_eq_true hV0
                                        have HP0 : Hid (plcB (f : Nat) = true) := Lib.hid ((plcB_iff _).2 (by omega))
                                        have HP1 : Hid (plcB S = true) := Lib.hid ((plcB_iff _).2 (by omega))
                                        obtain ⟨ya, hya⟩ : ∃ y, y = atV q0 f := ⟨_, rfl⟩
                                        obtain ⟨yb, hyb⟩ : ∃ y, y = atV q1 S := ⟨_, rfl⟩
                                        have hyy : decide (yb < ya) = false := decide_eq_false (by omega)
                                        have Y1 := Lib.hid hya.symm
                                        have Y2 := Lib.hid hyb.symm
                                        clear hV0 hV1 hle hya hyb
                                        go_wp2_with fail
                                        refine (sameNumbers_c T s3 s4 37 k3 k4 HTl.out (by omega) _ _ _ P3.out P4.out).mono ?_
                                        rintro e w57 ⟨rfl, hb⟩
                                        replace F3 := Lib.hid (in3_below hb F3.out)
                                        replace P3 := Lib.hid (PB_i64_keep hb P3.out)
                                        replace P4 := Lib.hid (PB_i64_keep hb P4.out)
                                        replace hB := bt hB hb
                                        clear hb
                                        obtain ⟨bt4, ot4, rfl, hbt4, hct⟩ := P4.out (neL_of_lt_i64 (k := f) (by rw [← HTl.out]; omega))
                                        have hcf := hct f (by rw [← HTl.out]; omega)
                                        rw [HTs.out] at hcf
                                        clear hct
                                        as_aux_lemma =>
                                          have z0 := blk3_0 F3.out.at_
                                          go_wp2_with fail
                                          clear z0
                                          refine (cCurveAt_c r0 m0 c0 q0 HLn.out.t.p0 HLn.out.l0 HLn.out.b0 f HP0.out _ F3.out.v0).mono ?_
                                          rintro e w58 ⟨rfl, hb⟩
                                          rw [Y1.out]
                                          replace F3 := Lib.hid (in3_below hb F3.out)
                                          replace hB := bt hB hb
                                          clear hb
                                          have z1 := blk3_1 F3.out.at_
                                          go_wp2_with fail
                                          clear z1
                                          refine (cCurveAt_c r1 m1 c1 q1 HLn.out.t.p1 HLn.out.l1 HLn.out.b1 S HP1.out _ F3.out.v1).mono ?_
                                          rintro e w59 ⟨rfl, hb⟩
                                          rw [Y2.out]
                                          replace F3 := Lib.hid (in3_below hb F3.out)
                                          replace hB := bt hB hb
                                          clear hb
                                          have z0 := blk3_0 F3.out.at_
                                          go_wp2_with fail
                                          clear z0
                                          refine (cBlack_c r0 m0 c0 q0 HLn.out.t.p0 HLn.out.l0 HLn.out.b0 ta hta.out.1 hta.out.2 _ F3.out.v0).mono ?_
                                          rintro e w60 ⟨rfl, hb⟩
                                          rw [U1.out, U2.out]
                                          replace F3 := Lib.hid (in3_below hb F3.out)
                                          replace hB := bt hB hb
                                          clear hb
                                          have z0 := blk3_0 F3.out.at_
                                          go_wp2_with fail
                                          clear z0
                                          refine (cSpecBlack_c r0 m0 c0 q0 HLn.out.t.p0 HLn.out.l0 HLn.out.b0 ta hta.out.1 hta.out.2 _ F3.out.v0).mono ?_
                                          rintro e w61 ⟨rfl, hb⟩
                                          rw [U1.out, U2.out]
                                          replace F3 := Lib.hid (in3_below hb F3.out)
                                          replace hB := bt hB hb
                                          clear hb
                                          have z0 := blk3_0 F3.out.at_
                                          go_wp2_with fail
                                          clear z0
                                          refine (cBlack_c r0 m0 c0 q0 HLn.out.t.p0 HLn.out.l0 HLn.out.b0 0 (by omega) (by omega) _ F3.out.v0).mono ?_
                                          rintro e w62 ⟨rfl, hb⟩
                                          rw [Z2.out, Z1.out]
                                          replace F3 := Lib.hid (in3_below hb F3.out)
                                          replace hB := bt hB hb
                                          clear hb
                                          go_wp2
                                          first | (refine HQ0 _ _ _ ?_; go_ret) | go_ret
                                          exact ⟨rfl, hB⟩
                                    · as_aux_lemma =>
                                        have hSd : decide (0 ≤ S) = false := by rw [← HCn.out.sign]; decide
                                        go_wp2_with fail
                                        refine (sameNumbers_c T s3 s4 37 k3 k4 HTl.out (by omega) _ _ _ P3.out P4.out).mono ?_
                                        rintro e w57 ⟨rfl, hb⟩
                                        replace F3 := Lib.hid (in3_below hb F3.out)
                                        replace P3 := Lib.hid (PB_i64_keep hb P3.out)
                                        replace P4 := Lib.hid (PB_i64_keep hb P4.out)
                                        replace hB := bt hB hb
                                        clear hb
                                        obtain ⟨bt4, ot4, rfl, hbt4, hct⟩ := P4.out (neL_of_lt_i64 (k := f) (by rw [← HTl.out]; omega))
                                        have hcf := hct f (by rw [← HTl.out]; omega)
                                        rw [HTs.out] at hcf
                                        clear hct
                                        as_aux_lemma =>
                                          have z0 := blk3_0 F3.out.at_
                                          go_wp2_with fail
                                          clear z0
                                          refine (cBlack_c r0 m0 c0 q0 HLn.out.t.p0 HLn.out.l0 HLn.out.b0 ta hta.out.1 hta.out.2 _ F3.out.v0).mono ?_
                                          rintro e w58 ⟨rfl, hb⟩
                                          rw [U1.out, U2.out]
                                          replace F3 := Lib.hid (in3_below hb F3.out)
                                          replace hB := bt hB hb
                                          clear hb
                                          have z0 := blk3_0 F3.out.at_
                                          go_wp2_with fail
                                          clear z0
                                          refine (cSpecBlack_c r0 m0 c0 q0 HLn.out.t.p0 HLn.out.l0 HLn.out.b0 ta hta.out.1 hta.out.2 _ F3.out.v0).mono ?_
                                          rintro e w59 ⟨rfl, hb⟩
                                          rw [U1.out, U2.out]
                                          replace F3 := Lib.hid (in3_below hb F3.out)
                                          replace hB := bt hB hb
                                          clear hb
                                          have z0 := blk3_0 F3.out.at_
                                          go_wp2_with fail
                                          clear z0
                                          refine (cBlack_c r0 m0 c0 q0 HLn.out.t.p0 HLn.out.l0 HLn.out.b0 0 (by omega) (by omega) _ F3.out.v0).mono ?_
                                          rintro e w60 ⟨rfl, hb⟩
                                          rw [Z2.out, Z1.out]
                                          replace F3 := Lib.hid (in3_below hb F3.out)
                                          replace hB := bt hB hb
                                          clear hb
                                          go_wp2
                                          first | (refine HQ0 _ _ _ ?_; go_ret) | go_ret
                                          exact ⟨rfl, hB⟩
  · clear HO
    as_aux_lemma =>
      go_wp2_with fail
      go_loopw [18] (fun i wr => ∃ k : Nat, k ≤ 3 ∧ i = .int .i64 k ∧ Below w13.heap.size w13 wr) (fun i _ => 3 - (intOf i).toNat)
      case atStart => exact ⟨0, by omega, rfl, Below.refl _ _⟩
      case round =>
        obtain ⟨k, hk, rfl, hW⟩ := hrel
        have HW := Lib.hid hW
        have G3 := Lib.hid (in3_below hW F3.out)
        clear hW
        by_cases hlt : k < 3
        · obtain ⟨r, m, cp, hcell, hm, hm2, hcv⟩ := in3_at HLn.out G3.out k hlt
          obtain ⟨A, mm, C, hms, hC, hle, heq, hbd⟩ := HBs.out.each k hlt
          have hki : (k : Int) < 3 := by omega
          have HMs := Lib.hid hms
          have HP := Lib.hid (HLn.out.t.pap k hlt).i16
          have HM := Lib.hid hm
          have HV := Lib.hid hcv
          have HC := Lib.hid hC
          have HCK : Hid (∀ w', Below wr.heap.size wr w' → w'.cell? ⟨gg, k, none⟩ = some (.slice r m cp)) := Lib.hid (fun w' h => (h.cell (p := ⟨gg, k, none⟩) (lt_of_heap G3.out.at_)).trans hcell)
          have HLe : Hid (C = 0 → False) := Lib.hid (fun h => absurd (hle h).1 (by decide))
          clear hms hm hcv hC hle heq
          go_wp2_with fail
          refine (cImplMisfit_c r m cp (cs.getD k []) HP.out HM.out hm2 ta (ta + tx) td tl _ HV.out).mono ?_
          rintro e w14 ⟨rfl, hb⟩
          rw [HMs.out]
          dsimp only
          have hc2 := HCK.out w14 hb
          have HV2 := Lib.hid (CvS_below hb HV.out)
          have HW2 := Lib.hid (HW.out.trans (hb.mono HW.out.size))
          clear hcell HCK HV hb HW G3
          go_wp2_with fail
          refine (cMisfit_c r m cp (cs.getD k []) HP.out HM.out hm2 ta (ta + tx) td tl _ HV2.out).mono ?_
          rintro e w15 ⟨rfl, hb⟩
          rw [HMs.out]
          dsimp only
          have HW3 := Lib.hid (HW2.out.trans (hb.mono HW2.out.size))
          clear hc2 HV2 hb HW2 HMs HP HM
          rcases HC.out with rfl | rfl
          · exact (HLe.out rfl).elim
          · by_cases hkB : (k : Int) = B
            · as_aux_lemma =>
                go_wp2_with fail
                go_roundw
                case rel => exact ⟨k + 1, by omega, by rw [← hkB]; go_num, HW3.out⟩
                case measure => simp [intOf]; omega
            · as_aux_lemma =>
                go_wp2_with fail
                go_roundw
                case rel => exact ⟨k + 1, by omega, by go_num, HW3.out⟩
                case measure => simp [intOf]; omega
        · have hki : ¬ (k : Int) < 3 := by omega
          replace F3 := G3
          replace hB := bt hB HW.out
          clear HW G3 HBs hMb hlt hk
          generalize wr = w20 at *
          as_aux_lemma =>
            go_wp2_with fail
            refine (gImplOrder_c (some ⟨gg, 0, none⟩) 3 3 cs HLn.out.t.i16 HLn.out.t.len.symm (by omega) tl (tl + 20) _ (in3_grs HLn.out F3.out)).mono ?_
            rintro e w21 ⟨v, rfl, hR, hb⟩
            rw [HOe.out] at hR ⊢
            dsimp only at hR ⊢
            obtain ⟨s1, k1, rfl, hp⟩ := PB_i64_row hR
            rw [← HOr.out.len]
            replace F3 := Lib.hid (in3_below hb F3.out)
            have P1 := Lib.hid hp
            replace hB := bt hB hb
            clear hb hp hR
            go_wp2_with fail
            refine (gOrder_c (some ⟨gg, 0, none⟩) 3 3 cs HLn.out.t.i16 HLn.out.t.len.symm (by omega) tl (tl + 20) _ (in3_grs HLn.out F3.out)).mono ?_
            rintro e w22 ⟨v, rfl, hR, hb⟩
            rw [HOe.out] at hR ⊢
            dsimp only at hR ⊢
            obtain ⟨s2, k2, rfl, hp⟩ := PB_i64_row hR
            rw [← HOr.out.len]
            replace F3 := Lib.hid (in3_below hb F3.out)
            replace P1 := Lib.hid (PB_i64_keep hb P1.out)
            have P2 := Lib.hid hp
            replace hB := bt hB hb
            clear hb hp hR
            go_wp2_with fail
            as_aux_lemma =>
              go_loopw [29, 30] (fun av i wr => ∃ k : Nat, k ≤ 3 ∧ i = .int .i64 k ∧ av = .bool (okN cs tl (tl + 20) k) ∧ Below w22.heap.size w22 wr) (fun _ i _ => 3 - (intOf i).toNat)
              case atStart => exact ⟨0, by omega, rfl, rfl, Below.refl _ _⟩
              case round =>
                obtain ⟨k, hk, rfl, rfl, hW⟩ := hrel
                have HW := Lib.hid hW
                have G3 := Lib.hid (in3_below hW F3.out)
                clear hW
                by_cases hlt : k < 3
                · obtain ⟨r, m, cp, hcell, hm, hm2, hcv⟩ := in3_at HLn.out G3.out k hlt
                  have hki : (k : Int) < 3 := by omega
                  have HP := Lib.hid (HLn.out.t.pap k hlt)
                  have HM := Lib.hid hm
                  have HV := Lib.hid hcv
                  obtain ⟨b, hb0⟩ : ∃ b, b = okN cs tl (tl + 20) k := ⟨_, rfl⟩
                  have HN1 : Hid (okN cs tl (tl + 20) (k + 1) = (b && sclB (cs.getD k []) tl (tl + 20))) := Lib.hid (by rw [okN_succ, ← hb0]; rfl)
                  rw [← hb0]
                  obtain ⟨t, ht⟩ : ∃ t, t = sclB (cs.getD k []) tl (tl + 20) := ⟨_, rfl⟩
                  rw [← ht] at HN1
                  have HT := Lib.hid ht.symm
                  clear hm hcv hb0 ht
                  go_wp2_with fail
                  refine (cScaleOf_c r m cp (cs.getD k []) HP.out HM.out hm2 tl (tl + 20) HE.out _ HV.out).mono ?_
                  rintro e w30 ⟨rfl, hb⟩
                  rw [HT.out]
                  have HW3 := Lib.hid (HW.out.trans (hb.mono HW.out.size))
                  clear hb HW hcell G3
                  cases b <;> cases t
                  all_goals
                    simp only [if_true, if_false, Bool.false_eq_true]
                    go_wp2_with fail
                    go_roundw
                    case rel => exact ⟨k + 1, by omega, by go_num, by rw [HN1.out] <;> rfl, HW3.out⟩
                    case measure => simp [intOf]; omega
                · have hki : ¬ (k : Int) < 3 := by omega
                  have hk3 : k = 3 := by omega
                  subst hk3
                  rw [HOr.out.all]
                  replace P1 := Lib.hid (PB_i64_keep HW.out P1.out)
                  replace P2 := Lib.hid (PB_i64_keep HW.out P2.out)
                  replace F3 := G3
                  replace hB := bt hB HW.out
                  clear HW G3 hlt hk
                  generalize wr = w31 at *
                  as_aux_lemma =>
                    have hc3 : (C3 == 0) = b3 := HOr.out.code
                    have hc4 : decide (C3 = 0) = b3 := HOr.out.code
                    go_wp2_with fail
                    refine (sameNumbers_c R s1 s2 n k1 k2 HOr.out.len (by omega) _ _ _ P1.out P2.out).mono ?_
                    rintro e w32 ⟨rfl, hb⟩
                    replace F3 := Lib.hid (in3_below hb F3.out)
                    replace P1 := Lib.hid (PB_i64_keep hb P1.out)
                    replace P2 := Lib.hid (PB_i64_keep hb P2.out)
                    replace hB := bt hB hb
                    clear hb
                    clear P1
                    go_wp2_with fail
                    as_aux_lemma =>
                      clear hc3 hc4
                      go_loopw [33] (fun i wr => ∃ k : Nat, 1 ≤ k ∧ k ≤ 3 ∧ i = .int .i64 k ∧ Below w32.heap.size w32 wr) (fun i _ => 3 - (intOf i).toNat)
                      case atStart => exact ⟨1, by omega, by omega, rfl, Below.refl _ _⟩
                      case round =>
                        obtain ⟨k, hk1, hk, rfl, hW⟩ := hrel
                        have HW := Lib.hid hW
                        have G3 := Lib.hid (in3_below hW F3.out)
                        clear hW
                        by_cases hlt : k < n
                        · obtain ⟨i, j, hi, hj, e1, e2, sb1, sb2, hle⟩ := HOr.out.each k hk1 hlt
                          obtain ⟨ra, ma, ca, hca, hma, hma2, hva⟩ := in3_at HLn.out G3.out i hi
                          obtain ⟨rb, mb, cb, hcb, hmb, hmb2, hvb⟩ := in3_at HLn.out G3.out j hj
                          obtain ⟨bb, oo, rfl, hbb, hcc⟩ := P2.out (neL_of_lt_i64 (k := k) (by rw [← HOr.out.len]; exact hlt))
                          have hd1 := HW.out.cell (p := ⟨bb, oo + (k - 1), none⟩) hbb
                          have hd2 := HW.out.cell (p := ⟨bb, oo + k, none⟩) hbb
                          rw [hcc (k - 1) (by rw [← HOr.out.len]; omega), e1] at hd1
                          rw [hcc k (by rw [← HOr.out.len]; omega), e2] at hd2
                          have HCK : Hid (∀ w', Below wr.heap.size wr w' → w'.cell? ⟨gg, j, none⟩ = some (.slice rb mb cb) ∧ w'.cell? ⟨bb, oo + k, none⟩ = some (.int .i64 j) ∧ w'.cell? ⟨bb, oo + (k - 1), none⟩ = some (.int .i64 i)) := Lib.hid (fun w' h => ⟨(h.cell (p := ⟨gg, j, none⟩) (lt_of_heap G3.out.at_)).trans hcb, (h.cell (p := ⟨bb, oo + k, none⟩) (Nat.lt_of_lt_of_le hbb HW.out.size)).trans hd2, (h.cell (p := ⟨bb, oo + (k - 1), none⟩) (Nat.lt_of_lt_of_le hbb HW.out.size)).trans hd1⟩)
                          have hki : (k : Int) < n := by omega
                          have hkw : IntKind.i64.wrap ((k : Int) - 1) = ((k - 1 : Nat) : Int) := by rw [Go.IntWalk.i64_in _ (by omega)]; omega
                          have hkl : ((k - 1 : Nat) : Int) < n := by omega
                          have f1 : decide ((i : Int) < 0) = false := decide_eq_false (by omega)
                          have f2 : decide ((2 : Int) < (i : Int)) = false := decide_eq_false (by omega)
                          have f3 : decide ((j : Int) < 0) = false := decide_eq_false (by omega)
                          have f4 : decide ((2 : Int) < (j : Int)) = false := decide_eq_false (by omega)
                          have hi3 : (i : Int) < 3 := by omega
                          have hj3 : (j : Int) < 3 := by omega
                          have HPa := Lib.hid (HLn.out.t.pap i hi)
                          have HPb := Lib.hid (HLn.out.t.pap j hj)
                          have HMa := Lib.hid hma
                          have HMb := Lib.hid hmb
                          have HVa := Lib.hid hva
                          have HVb := Lib.hid hvb
                          obtain ⟨Sa, hSa⟩ : ∃ S, S = sclN (cs.getD i []) tl (tl + 20) := ⟨_, rfl⟩
                          obtain ⟨Sb, hSb⟩ : ∃ S, S = sclN (cs.getD j []) tl (tl + 20) := ⟨_, rfl⟩
                          have hSS : decide (Sa < Sb) = false := decide_eq_false (by omega)
                          have HSa := Lib.hid hSa.symm
                          have HSb := Lib.hid hSb.symm
                          have Hs1 := Lib.hid sb1
                          have Hs2 := Lib.hid sb2
                          clear hcc hma hmb hva hvb hSa hSb sb1 sb2 hle e1 e2 hcb
                          go_wp2_with fail
                          refine (cSpecScaleOf_c ra ma ca (cs.getD i []) HPa.out HMa.out hma2 tl (tl + 20) HE.out _ HVa.out).mono ?_
                          rintro e w40 ⟨rfl, hb⟩
                          rw [HSa.out, if_pos Hs1.out]
                          obtain ⟨hcb, hd4, hd3⟩ := HCK.out w40 hb
                          have HVb2 := Lib.hid (CvS_below hb HVb.out)
                          have HW2 := Lib.hid (HW.out.trans (hb.mono HW.out.size))
                          clear hb HW HVb HVa hca hd1 hd2 G3 HCK
                          go_wp2_with fail
                          refine (cSpecScaleOf_c rb mb cb (cs.getD j []) HPb.out HMb.out hmb2 tl (tl + 20) HE.out _ HVb2.out).mono ?_
                          rintro e w41 ⟨rfl, hb⟩
                          rw [HSb.out, if_pos Hs2.out]
                          have HW3 := Lib.hid (HW2.out.trans (hb.mono HW2.out.size))
                          clear hb HW2 HVb2 hcb hd3 hd4
                          go_wp2_with fail
                          go_roundw
                          case rel => exact ⟨k + 1, by omega, by omega, by go_num, HW3.out⟩
                          case measure => simp [intOf]; omega
                        · have hki : ¬ (k : Int) < n := by omega
                          replace F3 := G3
                          replace hB := bt hB HW.out
                          clear HW G3 hlt hk hk1 P2
                          generalize wr = w50 at *
                          as_aux_lemma =>
                            go_wp2_with fail
                            refine (p6PickG_c v2 n2 _ (bytes_keep H2.out hB) 37 (by omega)).mono ?_
                            rintro e w51 ⟨fz, rfl, f0, f1, hb⟩
                            replace F3 := Lib.hid (in3_below hb F3.out)
                            replace hB := bt hB hb
                            clear hb
                            obtain ⟨f, rfl⟩ : ∃ f : Nat, fz = f := ⟨fz.toNat, by omega⟩
                            have hf : f ≤ 36 := by omega
                            clear f0 f1
                            have HTf : Hid (thB (f : Nat) = true) := Lib.hid (by simp [thB]; omega)
                            obtain ⟨hs2, hs3, hs1⟩ := cnv_self (q := q0) hf
                            obtain ⟨sv, hsv⟩ : ∃ s, s = cnvV q0 0 (atV q0 f) := ⟨_, rfl⟩
                            rw [← hsv] at hs1 hs3
                            have HS1 := Lib.hid hsv.symm
                            have HS2 := Lib.hid hs2
                            have g1 : decide ((f : Int) < sv) = false := decide_eq_false (by omega)
                            obtain ⟨V, E, S, hcnv⟩ := cnv_facts q0 q1 f hf
                            obtain ⟨T, hT⟩ : ∃ T, T = tabL q0 q1 37 := ⟨_, rfl⟩
                            have HTT := Lib.hid hT
                            have HCn := Lib.hid hcnv
                            have hf37 : (f : Int) < 37 := by omega
                            clear hs1 hs2 hs3 hsv hcnv hT hf
                            have k0 := cell_regrown (blk3_0 F3.out.at_)
                            have k1 := cell_regrown (blk3_1 F3.out.at_)
                            have cP : ∀ d os, Calls Try.prog 25 #[.slice r0 m0 c0, .slice r0 m0 c0, .int .i64 f] (grow (redrawn w51 d) os) fun e w'' => e = .returned (.tuple #[.int .i64 sv, .int .i64 0]) ∧ ∃ p : Regrown, w'' = grow (redrawn w51 p.d) p.os := fun d os => by
                              have := Calls.regrown_of (cConvert_c r0 m0 c0 q0 HLn.out.t.p0 HLn.out.l0 HLn.out.b0 r0 m0 c0 q0 HLn.out.t.p0 HLn.out.l0 HLn.out.b0 f HTf.out (grow (redrawn w51 d) os) (CvS_below (below_regrown w51 d os) F3.out.v0) (CvS_below (below_regrown w51 d os) F3.out.v0))
                              rwa [HS1.out, HS2.out] at this
                            go_upto_region 39 with fail
                            refine wp_region_quiet_below (by kernel_rfl) (by kernel_rfl) ?_
                            repeat (go_big_quiet_step (exact cP _ _))
                            refine wpQuiet_nil ?_
                            intro _ hw'
                            obtain ⟨⟨dq, osq⟩, hw''⟩ := hw'
                            subst hw''
                            have hb := below_regrown w51 dq osq
                            clear k0 k1 cP
                            replace F3 := Lib.hid (in3_below hb F3.out)
                            replace hB := bt hB hb
                            clear hb
                            generalize grow (redrawn w51 dq) osq = w52 at *
                            as_aux_lemma =>
                              have k0 := cell_regrown (blk3_0 F3.out.at_)
                              have k1 := cell_regrown (blk3_1 F3.out.at_)
                              have cP : ∀ d os, Calls Try.prog 25 #[.slice r0 m0 c0, .slice r1 m1 c1, .int .i64 f] (grow (redrawn w52 d) os) fun e w'' => e = .returned (.tuple #[.int .i64 V, .int .i64 E]) ∧ ∃ p : Regrown, w'' = grow (redrawn w52 p.d) p.os := fun d os => by
                                have := Calls.regrown_of (cConvert_c r0 m0 c0 q0 HLn.out.t.p0 HLn.out.l0 HLn.out.b0 r1 m1 c1 q1 HLn.out.t.p1 HLn.out.l1 HLn.out.b1 f HTf.out (grow (redrawn w52 d) os) (CvS_below (below_regrown w52 d os) F3.out.v0) (CvS_below (below_regrown w52 d os) F3.out.v1))
                                rwa [HCn.out.v, HCn.out.e] at this
                              go_upto_region 40 with fail
                              refine wp_region_quiet_below (by kernel_rfl) (by kernel_rfl) ?_
                              repeat (go_big_quiet_step (exact cP _ _))
                              refine wpQuiet_nil ?_
                              intro _ hw'
                              obtain ⟨⟨dq, osq⟩, hw''⟩ := hw'
                              subst hw''
                              have hb := below_regrown w52 dq osq
                              clear k0 k1 cP
                              replace F3 := Lib.hid (in3_below hb F3.out)
                              replace hB := bt hB hb
                              clear hb
                              generalize grow (redrawn w52 dq) osq = w53 at *
                              as_aux_lemma =>
                                have k0 := cell_regrown (blk3_0 F3.out.at_)
                                have k1 := cell_regrown (blk3_1 F3.out.at_)
                                have cP : ∀ d os, Calls Try.prog 26 #[.slice r0 m0 c0, .slice r1 m1 c1, .int .i64 f] (grow (redrawn w53 d) os) fun e w'' => e = .returned (.tuple #[.int .i64 V, .int .i64 E]) ∧ ∃ p : Regrown, w'' = grow (redrawn w53 p.d) p.os := fun d os => by
                                  have := Calls.regrown_of (cSpecConvert_c r0 m0 c0 q0 HLn.out.t.p0 HLn.out.l0 HLn.out.b0 r1 m1 c1 q1 HLn.out.t.p1 HLn.out.l1 HLn.out.b1 f HTf.out (grow (redrawn w53 d) os) (CvS_below (below_regrown w53 d os) F3.out.v0) (CvS_below (below_regrown w53 d os) F3.out.v1))
                                  rwa [HCn.out.v, HCn.out.e] at this
                                go_upto_region 41 with fail
                                refine wp_region_quiet_below (by kernel_rfl) (by kernel_rfl) ?_
                                repeat (go_big_quiet_step (exact cP _ _))
                                refine wpQuiet_nil ?_
                                intro _ hw'
                                obtain ⟨⟨dq, osq⟩, hw''⟩ := hw'
                                subst hw''
                                have hb := below_regrown w53 dq osq
                                clear k0 k1 cP
                                replace F3 := Lib.hid (in3_below hb F3.out)
                                replace hB := bt hB hb
                                clear hb
                                generalize grow (redrawn w53 dq) osq = w54 at *
                                as_aux_lemma =>
                                  have K : Hid (∀ w', Below w54.heap.size w54 w' → (Below w54.heap.size w54 w' ∧ w'.cell? ⟨gg, 0, none⟩ = some (.slice r0 m0 c0) ∧ w'.cell? ⟨gg, 1, none⟩ = some (.slice r1 m1 c1))) := Lib.hid fun w' hb => by
                                    have b0 := (in3_below hb F3.out).at_
                                    exact ⟨hb, blk3_0 b0, blk3_1 b0⟩
                                  have s0 := K.out _ (Below.refl _ _)
                                  go_upto_region 42 with fail
                                  go_region_held3 (fun w' => Below w54.heap.size w54 w' ∧ w'.cell? ⟨gg, 0, none⟩ = some (.slice r0 m0 c0) ∧ w'.cell? ⟨gg, 1, none⟩ = some (.slice r1 m1 c1))
                                    (first | (with_reducible assumption) | exact K.out _ (bl_drew (Below.refl _ _)) | exact K.out _ (bl_drew (‹Below w54.heap.size w54 _ ∧ _›).1))
                                    ((go_at_call 27; refine (cTableP_c r0 m0 c0 q0 HLn.out.t.p0 HLn.out.l0 HLn.out.b0 r1 m1 c1 q1 HLn.out.t.p1 HLn.out.l1 HLn.out.b1 T HTT.out _ (CvS_below (K.out _ (bl_drew (Below.refl _ _))).1 F3.out.v0) (CvS_below (K.out _ (bl_drew (Below.refl _ _))).1 F3.out.v1)).mono ?_; rintro e w55 ⟨s3, k3, rfl, hP, hbt⟩; have hb := bt (K.out _ (bl_drew (Below.refl _ _))).1 hbt; have s9 := K.out _ hb))
                                  have P3 := Lib.hid hP
                                  clear hP s0 s9 hbt K
                                  replace F3 := Lib.hid (in3_below hb F3.out)
                                  replace hB := bt hB hb
                                  clear hb
                                  as_aux_lemma =>
                                    have K : Hid (∀ w', Below w55.heap.size w55 w' → (Below w55.heap.size w55 w' ∧ w'.cell? ⟨gg, 0, none⟩ = some (.slice r0 m0 c0) ∧ w'.cell? ⟨gg, 1, none⟩ = some (.slice r1 m1 c1))) := Lib.hid fun w' hb => by
                                      have b0 := (in3_below hb F3.out).at_
                                      exact ⟨hb, blk3_0 b0, blk3_1 b0⟩
                                    have s0 := K.out _ (Below.refl _ _)
                                    go_upto_region 43 with fail
                                    go_region_held3 (fun w' => Below w55.heap.size w55 w' ∧ w'.cell? ⟨gg, 0, none⟩ = some (.slice r0 m0 c0) ∧ w'.cell? ⟨gg, 1, none⟩ = some (.slice r1 m1 c1))
                                      (first | (with_reducible assumption) | exact K.out _ (bl_drew (Below.refl _ _)) | exact K.out _ (bl_drew (‹Below w55.heap.size w55 _ ∧ _›).1))
                                      ((go_at_call 28; refine (cSpecTableP_c r0 m0 c0 q0 HLn.out.t.p0 HLn.out.l0 HLn.out.b0 r1 m1 c1 q1 HLn.out.t.p1 HLn.out.l1 HLn.out.b1 T HTT.out _ (CvS_below (K.out _ (bl_drew (Below.refl _ _))).1 F3.out.v0) (CvS_below (K.out _ (bl_drew (Below.refl _ _))).1 F3.out.v1)).mono ?_; rintro e w56 ⟨s4, k4, rfl, hP, hbt⟩; have hb := bt (K.out _ (bl_drew (Below.refl _ _))).1 hbt; have s9 := K.out _ hb))
                                    have P4 := Lib.hid hP
                                    clear hP s0 s9 hbt K
                                    replace F3 := Lib.hid (in3_below hb F3.out)
                                    replace P3 := Lib.hid (PB_i64_keep hb P3.out)
                                    replace hB := bt hB hb
                                    clear hb
                                    have HTl : Hid (37 = T.length) := Lib.hid (by rw [HTT.out, tabL_len])
                                    have HTs : Hid (T.getD f 0 = S) := Lib.hid (by rw [HTT.out]; exact HCn.out.s)
                                    have hb36 : cnvC q0 0 (atV q0 36) = 0 ∧ 0 ≤ cnvV q0 0 (atV q0 36) ∧ cnvV q0 0 (atV q0 36) ≤ 36 := cnv_self (q := q0) (f := 36) (Nat.le_refl _)
                                    obtain ⟨zv, hzv⟩ : ∃ s, s = cnvV q0 0 (atV q0 36) := ⟨_, rfl⟩
                                    rw [← hzv] at hb36
                                    have Z1 := Lib.hid hb36.1
                                    have Z2 := Lib.hid hzv.symm
                                    have zd1 : decide (0 ≤ zv) = true := decide_eq_true hb36.2.1
                                    have zd2 : decide (zv ≤ 36) = true := decide_eq_true hb36.2.2
                                    obtain ⟨uv, huv⟩ : ∃ s, s = cnvV q0 ta (atV q0 36) := ⟨_, rfl⟩
                                    obtain ⟨uc, huc⟩ : ∃ s, s = cnvC q0 ta (atV q0 36) := ⟨_, rfl⟩
                                    have U1 := Lib.hid huv.symm
                                    have U2 := Lib.hid huc.symm
                                    clear hb36 hzv huv huc
                                    rcases HCn.out.code with rfl | rfl
                                    · as_aux_lemma =>
                                        obtain ⟨hSV, hV0, hV1, hle⟩ := HCn.out.eq rfl
                                        subst hSV
                                        have hSd : decide (0 ≤ S) = true := decide_eq_true hV0
                                        have HP0 : Hid (plcB (f : Nat) = true) := Lib.hid ((plcB_iff _).2 (by omega))
                                        have HP1 : Hid (plcB S = true) := Lib.hid ((plcB_iff _).2 (by omega))
                                        obtain ⟨ya, hya⟩ : ∃ y, y = atV q0 f := ⟨_, rfl⟩
                                        obtain ⟨yb, hyb⟩ : ∃ y, y = atV q1 S := ⟨_, rfl⟩
                                        have hyy : decide (yb < ya) = false := decide_eq_false (by omega)
                                        have Y1 := Lib.hid hya.symm
                                        have Y2 := Lib.hid hyb.symm
                                        clear hV0 hV1 hle hya hyb
                                        go_wp2_with fail
                                        refine (sameNumbers_c T s3 s4 37 k3 k4 HTl.out (by omega) _ _ _ P3.out P4.out).mono ?_
                                        rintro e w57 ⟨rfl, hb⟩
                                        replace F3 := Lib.hid (in3_below hb F3.out)
                                        replace P3 := Lib.hid (PB_i64_keep hb P3.out)
                                        replace P4 := Lib.hid (PB_i64_keep hb P4.out)
                                        replace hB := bt hB hb
                                        clear hb
                                        obtain ⟨bt4, ot4, rfl, hbt4, hct⟩ := P4.out (neL_of_lt_i64 (k := f) (by rw [← HTl.out]; omega))
                                        have hcf := hct f (by rw [← HTl.out]; omega)
                                        rw [HTs.out] at hcf
                                        clear hct
                                        as_aux_lemma =>
                                          have z0 := blk3_0 F3.out.at_
                                          go_wp2_with fail
                                          clear z0
                                          refine (cCurveAt_c r0 m0 c0 q0 HLn.out.t.p0 HLn.out.l0 HLn.out.b0 f HP0.out _ F3.out.v0).mono ?_
                                          rintro e w58 ⟨rfl, hb⟩
                                          rw [Y1.out]
                                          replace F3 := Lib.hid (in3_below hb F3.out)
                                          replace hB := bt hB hb
                                          clear hb
                                          have z1 := blk3_1 F3.out.at_
                                          go_wp2_with fail
                                          clear z1
                                          refine (cCurveAt_c r1 m1 c1 q1 HLn.out.t.p1 HLn.out.l1 HLn.out.b1 S HP1.out _ F3.out.v1).mono ?_
                                          rintro e w59 ⟨rfl, hb⟩
                                          rw [Y2.out]
                                          replace F3 := Lib.hid (in3_below hb F3.out)
                                          replace hB := bt hB hb
                                          clear hb
                                          have z0 := blk3_0 F3.out.at_
                                          go_wp2_with fail
                                          clear z0
                                          refine (cBlack_c r0 m0 c0 q0 HLn.out.t.p0 HLn.out.l0 HLn.out.b0 ta hta.out.1 hta.out.2 _ F3.out.v0).mono ?_
                                          rintro e w60 ⟨rfl, hb⟩
                                          rw [U1.out, U2.out]
                                          replace F3 := Lib.hid (in3_below hb F3.out)
                                          replace hB := bt hB hb
                                          clear hb
                                          have z0 := blk3_0 F3.out.at_
                                          go_wp2_with fail
                                          clear z0
                                          refine (cSpecBlack_c r0 m0 c0 q0 HLn.out.t.p0 HLn.out.l0 HLn.out.b0 ta hta.out.1 hta.out.2 _ F3.out.v0).mono ?_
                                          rintro e w61 ⟨rfl, hb⟩
                                          rw [U1.out, U2.out]
                                          replace F3 := Lib.hid (in3_below hb F3.out)
                                          replace hB := bt hB hb
                                          clear hb
                                          have z0 := blk3_0 F3.out.at_
                                          go_wp2_with fail
                                          clear z0
                                          refine (cBlack_c r0 m0 c0 q0 HLn.out.t.p0 HLn.out.l0 HLn.out.b0 0 (by omega) (by omega) _ F3.out.v0).mono ?_
                                          rintro e w62 ⟨rfl, hb⟩
                                          rw [Z2.out, Z1.out]
                                          replace F3 := Lib.hid (in3_below hb F3.out)
                                          replace hB := bt hB hb
                                          clear hb
                                          go_wp2
                                          first | (refine HQ0 _ _ _ ?_; go_ret) | go_ret
                                          exact ⟨rfl, hB⟩
                                    · as_aux_lemma =>
                                        have hSd : decide (0 ≤ S) = false := by rw [← HCn.out.sign]; decide
                                        go_wp2_with fail
                                        refine (sameNumbers_c T s3 s4 37 k3 k4 HTl.out (by omega) _ _ _ P3.out P4.out).mono ?_
                                        rintro e w57 ⟨rfl, hb⟩
                                        replace F3 := Lib.hid (in3_below hb F3.out)
                                        replace P3 := Lib.hid (PB_i64_keep hb P3.out)
                                        replace P4 := Lib.hid (PB_i64_keep hb P4.out)
                                        replace hB := bt hB hb
                                        clear hb
                                        obtain ⟨bt4, ot4, rfl, hbt4, hct⟩ := P4.out (neL_of_lt_i64 (k := f) (by rw [← HTl.out]; omega))
                                        have hcf := hct f (by rw [← HTl.out]; omega)
                                        rw [HTs.out] at hcf
                                        clear hct
                                        as_aux_lemma =>
                                          have z0 := blk3_0 F3.out.at_
                                          go_wp2_with fail
                                          clear z0
                                          refine (cBlack_c r0 m0 c0 q0 HLn.out.t.p0 HLn.out.l0 HLn.out.b0 ta hta.out.1 hta.out.2 _ F3.out.v0).mono ?_
                                          rintro e w58 ⟨rfl, hb⟩
                                          rw [U1.out, U2.out]
                                          replace F3 := Lib.hid (in3_below hb F3.out)
                                          replace hB := bt hB hb
                                          clear hb
                                          have z0 := blk3_0 F3.out.at_
                                          go_wp2_with fail
                                          clear z0
                                          refine (cSpecBlack_c r0 m0 c0 q0 HLn.out.t.p0 HLn.out.l0 HLn.out.b0 ta hta.out.1 hta.out.2 _ F3.out.v0).mono ?_
                                          rintro e w59 ⟨rfl, hb⟩
                                          rw [U1.out, U2.out]
                                          replace F3 := Lib.hid (in3_below hb F3.out)
                                          replace hB := bt hB hb
                                          clear hb
                                          have z0 := blk3_0 F3.out.at_
                                          go_wp2_with fail
                                          clear z0
                                          refine (cBlack_c r0 m0 c0 q0 HLn.out.t.p0 HLn.out.l0 HLn.out.b0 0 (by omega) (by omega) _ F3.out.v0).mono ?_
                                          rintro e w60 ⟨rfl, hb⟩
                                          rw [Z2.out, Z1.out]
                                          replace F3 := Lib.hid (in3_below hb F3.out)
                                          replace hB := bt hB hb
                                          clear hb
                                          go_wp2
                                          first | (refine HQ0 _ _ _ ?_; go_ret) | go_ret
                                          exact ⟨rfl, hB⟩
end Go.Proofs.Ytcdndjimfmpifaa
