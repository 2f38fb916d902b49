/- Grades of paper: the best grade. -/
import Derived.Test.YtcdndjimfmpifaaGrdB
namespace Go.Proofs.Ytcdndjimfmpifaa
open Go.RowKit
theorem results_tmp4 {fn : Func} {t u v x : Tmp} (h : fn.results = #[.tmp t, .tmp u, .tmp v, .tmp x]) (tmps : Array Value) (P : Program) (w : World) :
    (results fn tmps).run P w = .ok (.tuple #[tmps.getD t undef, tmps.getD u undef, tmps.getD v undef, tmps.getD x undef]) w := by
  simp [results, h]
def msF (cs : List Cv) (a b c d : Int) (k : Nat) : Int × Int × Int := misV (cs.getD k []) a b c d
def bgV (cs : List Cv) (a b c d : Int) : Int × Int × Int × Int :=
  if gcV cs (fourB a b c d) = 0 then (if (bgN (msF cs a b c d) cs.length).1 < 0 then (0, 0, 0, 6) else ((bgN (msF cs a b c d) cs.length).1, (bgN (msF cs a b c d) cs.length).2.1, (bgN (msF cs a b c d) cs.length).2.2, 0)) else (0, 0, 0, gcV cs (fourB a b c d))
theorem bgN_bd (cs : List Cv) (a b c d : Int) : ∀ k, -1 ≤ (bgN (msF cs a b c d) k).1 ∧ (bgN (msF cs a b c d) k).1 < k ∧ -400 ≤ (bgN (msF cs a b c d) k).2.2 ∧ (bgN (msF cs a b c d) k).2.2 ≤ 400 ∧ 0 ≤ (bgN (msF cs a b c d) k).2.1 ∧ (bgN (msF cs a b c d) k).2.1 ≤ 36
  | 0 => by simp [bgN]
  | k + 1 => by
    have ih := bgN_bd cs a b c d k
    have h1 := mis_bd (cs.getD k []) a b c d
    have h2 := mis_light (cs.getD k []) a b c d
    unfold bgN
    split
    · simp only [msF]; omega
    · omega
theorem bgN_take {M : Nat → Int × Int × Int} {k : Nat} {x m : Int} (h : M k = (x, m, 0)) (hc : (bgN M k).1 < 0 ∨ absV m < absV (bgN M k).2.2) : bgN M (k + 1) = ((k : Int), x, m) := by
  simp [bgN, h, hc]
theorem bgN_keep {M : Nat → Int × Int × Int} {k : Nat} {x m : Int} (h : M k = (x, m, 0)) (hc : ¬ (bgN M k).1 < 0) (h2 : ¬ absV m < absV (bgN M k).2.2) : bgN M (k + 1) = bgN M k := by
  simp [bgN, h, hc, h2]
theorem bgN_skip {M : Nat → Int × Int × Int} {k : Nat} (h : ¬ (M k).2.2 = 0) : bgN M (k + 1) = bgN M k := by
  simp [bgN, h]
set_option maxHeartbeats 1000000 in
theorem gBest_c (p : Option Addr) (n cap : Nat) (cs : List Cv) (h16 : G16 cs) (hn : n = cs.length) (hm : n ≤ 1048576) (a b c d : Int) (w : World) (hp : GrS w p cs) :
    Calls Try.prog 7 #[.slice p n cap, .int .i64 a, .int .i64 b, .int .i64 c, .int .i64 d] w fun e w' => e = .returned (.tuple #[.int .i64 (bgV cs a b c d).1, .int .i64 (bgV cs a b c d).2.1, .int .i64 (bgV cs a b c d).2.2.1, .int .i64 (bgV cs a b c d).2.2.2]) ∧ Below w.heap.size w w' := by
  have HN := Lib.hid hn
  have H16 := Lib.hid h16
  have HA := Lib.hid hp
  obtain ⟨V, hV⟩ : ∃ V, V = bgV cs a b c d := ⟨_, rfl⟩
  rw [← hV]
  have HV := Lib.hid hV
  obtain ⟨F, hF⟩ : ∃ F, F = fourB a b c d := ⟨_, rfl⟩
  have HF := Lib.hid hF.symm
  obtain ⟨C, hC⟩ : ∃ C, C = gcV cs F := ⟨_, rfl⟩
  have HC := Lib.hid hC.symm
  clear hn h16 hp hV hF hC
  by_cases h0 : C = 0
  · subst h0
    have HV2 : Hid (V = if (bgN (msF cs a b c d) n).1 < 0 then (0, 0, 0, 6) else ((bgN (msF cs a b c d) n).1, (bgN (msF cs a b c d) n).2.1, (bgN (msF cs a b c d) n).2.2, 0)) := Lib.hid (by rw [HV.out, bgV, if_pos (by rw [HF.out]; exact HC.out), HN.out])
    go_enter Try.func7, Try.ntmps7
    go_wp2_with (go_at_call 34; refine (cFour_c a b c d _).mono ?_; rintro e w' ⟨rfl, rfl⟩; rw [HF.out])
    refine (gGrades_c p n cap cs H16.out HN.out hm F _ HA.out).mono ?_
    rintro e w1 ⟨rfl, hb1⟩
    rw [HC.out]
    have HB1 := Lib.hid hb1
    clear hb1
    go_wp2_with fail
    go_loopw [15, 16, 17, 18] (fun u v x i wr => ∃ (k : Nat) (B X Y : Int), k ≤ n ∧ i = .int .i64 k ∧ u = .int .i64 B ∧ v = .int .i64 X ∧ x = .int .i64 Y ∧ bgN (msF cs a b c d) k = (B, X, Y) ∧ Below w.heap.size w wr) (fun _ _ _ i _ => n - (intOf i).toNat)
    case atStart => exact ⟨0, -1, 0, 0, Nat.zero_le _, rfl, rfl, rfl, rfl, rfl, HB1.out⟩
    case round =>
      clear HB1
      obtain ⟨k, B, X, Y, hk, rfl, rfl, rfl, rfl, hs, hW⟩ := hrel
      have HW := Lib.hid hW
      have HS := Lib.hid hs
      have hbd := bgN_bd cs a b c d k
      rw [hs] at hbd
      obtain ⟨b1, b2, b3, b4, b5, b6⟩ := hbd
      simp only at b1 b2 b3 b4 b5 b6
      clear hW hs
      by_cases hlt : k < n
      · have hki : (k : Int) < n := by omega
        have hkl : k < cs.length := by rw [← HN.out]; exact hlt
        obtain ⟨bb, o, rfl, hb, hc⟩ := GrS_below HW.out HA.out (gne_of_lt hkl)
        obtain ⟨r, m, cap2, hcell, hmn, hmm, hcv⟩ := hc k hkl
        have HM := Lib.hid hmn
        have HCV := Lib.hid hcv
        have hmb := mis_bd (cs.getD k []) a b c d
        obtain ⟨x, y, z, hmk⟩ : ∃ x y z, msF cs a b c d k = (x, y, z) := ⟨_, _, _, rfl⟩
        have hmk' : misV (cs.getD k []) a b c d = (x, y, z) := hmk
        rw [hmk'] at hmb
        have HMK := Lib.hid hmk
        have HMK' := Lib.hid hmk'
        simp only at hmb
        obtain ⟨y0, y1⟩ := hmb
        clear hc hmn hcv hmk hmk' hkl
        go_wp2_with fail
        refine (cMisfit_c r m cap2 _ (H16.out k) HM.out hmm a b c d _ HCV.out).mono ?_
        rintro e w1 ⟨rfl, hb1⟩
        rw [HMK'.out]
        by_cases hz : z = 0
        · subst hz
          by_cases hB : B < 0
          · have HT : Hid (bgN (msF cs a b c d) (k + 1) = ((k : Int), x, y)) := Lib.hid (bgN_take HMK.out (Or.inl (by rw [HS.out]; exact hB)))
            have hBd : decide (B < 0) = true := by simp; omega
            clear hB
            go_wp2
            go_roundw
            case rel => exact ⟨k + 1, k, x, y, by omega, by go_num, rfl, rfl, rfl, HT.out, bt HW.out hb1⟩
            case measure => simp [intOf]; omega
          · have hBd : decide (B < 0) = false := by simp; omega
            obtain ⟨ay, hay⟩ : ∃ t, t = absV y := ⟨_, rfl⟩
            obtain ⟨aY, haY⟩ : ∃ t, t = absV Y := ⟨_, rfl⟩
            have HAy := Lib.hid hay.symm
            have HAY := Lib.hid haY.symm
            by_cases hlt2 : ay < aY
            · have HT : Hid (bgN (msF cs a b c d) (k + 1) = ((k : Int), x, y)) := Lib.hid (bgN_take HMK.out (Or.inr (by rw [HS.out, ← hay, ← haY]; exact hlt2)))
              clear hB hay haY b1
              go_wp2_with (first
                | (go_at_call_of 35 (Value.int .i64 y); refine (cSize_c y (by omega) _).mono ?_; rintro e w' ⟨rfl, rfl⟩; rw [HAy.out])
                | (go_at_call_of 35 (Value.int .i64 Y); refine (cSize_c Y (by omega) _).mono ?_; rintro e w' ⟨rfl, rfl⟩; rw [HAY.out]))
              go_roundw
              case rel => exact ⟨k + 1, k, x, y, by omega, by go_num, rfl, rfl, rfl, HT.out, bt HW.out hb1⟩
              case measure => simp [intOf]; omega
            · have HT : Hid (bgN (msF cs a b c d) (k + 1) = (B, X, Y)) := Lib.hid (by rw [bgN_keep HMK.out (by rw [HS.out]; exact hB) (by rw [HS.out, ← hay, ← haY]; exact hlt2), HS.out])
              clear hB hay haY b1
              go_wp2_with (first
                | (go_at_call_of 35 (Value.int .i64 y); refine (cSize_c y (by omega) _).mono ?_; rintro e w' ⟨rfl, rfl⟩; rw [HAy.out])
                | (go_at_call_of 35 (Value.int .i64 Y); refine (cSize_c Y (by omega) _).mono ?_; rintro e w' ⟨rfl, rfl⟩; rw [HAY.out]))
              go_roundw
              case rel => exact ⟨k + 1, B, X, Y, by omega, by go_num, rfl, rfl, rfl, HT.out, bt HW.out hb1⟩
              case measure => simp [intOf]; omega
        · have hz2 : (z != 0) = true := by rw [bne_iff_ne]; exact hz
          have HT : Hid (bgN (msF cs a b c d) (k + 1) = (B, X, Y)) := Lib.hid (by rw [bgN_skip (by rw [HMK.out]; exact hz), HS.out])
          clear hz
          go_wp2
          go_roundw
          case rel => exact ⟨k + 1, B, X, Y, by omega, by go_num, rfl, rfl, rfl, HT.out, bt HW.out hb1⟩
          case measure => simp [intOf]; omega
      · have hki : ¬ (k : Int) < n := by omega
        have hkn : n = k := by omega
        by_cases hB : B < 0
        · have HE : Hid (V = (0, 0, 0, 6)) := Lib.hid (by rw [HV2.out, hkn, HS.out, if_pos hB])
          have hBd : decide (B < 0) = true := by simp; omega
          clear hkn hB b1
          go_wp2
          (try simp only [Exit.inBlock, Exit.then]); refine bodyPost_ret (results_tmp4 rfl _ _ _) rfl ?_
          exact ⟨by rw [HE.out] <;> rfl, HW.out⟩
        · have HE : Hid (V = (B, X, Y, 0)) := Lib.hid (by rw [HV2.out, hkn, HS.out, if_neg hB])
          have hBd : decide (B < 0) = false := by simp; omega
          clear hkn hB b1
          go_wp2
          (try simp only [Exit.inBlock, Exit.then]); refine bodyPost_ret (results_tmp4 rfl _ _ _) rfl ?_
          exact ⟨by rw [HE.out] <;> rfl, HW.out⟩
  · have HE : Hid (V = (0, 0, 0, C)) := Lib.hid (by rw [HV.out, bgV, HF.out, HC.out, if_neg h0])
    have hne : (C != 0) = true := by rw [bne_iff_ne]; exact h0
    clear h0
    go_enter Try.func7, Try.ntmps7
    go_wp2_with (go_at_call 34; refine (cFour_c a b c d _).mono ?_; rintro e w' ⟨rfl, rfl⟩; rw [HF.out])
    refine (gGrades_c p n cap cs H16.out HN.out hm F _ HA.out).mono ?_
    rintro e w1 ⟨rfl, hb1⟩
    rw [HC.out]
    go_wp2
    (try simp only [Exit.inBlock, Exit.then]); refine bodyPost_ret (results_tmp4 rfl _ _ _) rfl ?_
    exact ⟨by rw [HE.out] <;> rfl, hb1⟩
set_option maxHeartbeats 1000000 in
theorem gImplBest_c (p : Option Addr) (n cap : Nat) (cs : List Cv) (h16 : G16 cs) (hn : n = cs.length) (hm : n ≤ 1048576) (a b c d : Int) (w : World) (hp : GrS w p cs) :
    Calls Try.prog 9 #[.slice p n cap, .int .i64 a, .int .i64 b, .int .i64 c, .int .i64 d] w fun e w' => e = .returned (.tuple #[.int .i64 (bgV cs a b c d).1, .int .i64 (bgV cs a b c d).2.1, .int .i64 (bgV cs a b c d).2.2.1, .int .i64 (bgV cs a b c d).2.2.2]) ∧ Below w.heap.size w w' := by
  have HN := Lib.hid hn
  have H16 := Lib.hid h16
  have HA := Lib.hid hp
  obtain ⟨V, hV⟩ : ∃ V, V = bgV cs a b c d := ⟨_, rfl⟩
  rw [← hV]
  have HV := Lib.hid hV
  obtain ⟨F, hF⟩ : ∃ F, F = fourB a b c d := ⟨_, rfl⟩
  have HF := Lib.hid hF.symm
  obtain ⟨C, hC⟩ : ∃ C, C = gcV cs F := ⟨_, rfl⟩
  have HC := Lib.hid hC.symm
  clear hn h16 hp hV hF hC
  by_cases h0 : C = 0
  · subst h0
    have HV2 : Hid (V = if (bgN (msF cs a b c d) n).1 < 0 then (0, 0, 0, 6) else ((bgN (msF cs a b c d) n).1, (bgN (msF cs a b c d) n).2.1, (bgN (msF cs a b c d) n).2.2, 0)) := Lib.hid (by rw [HV.out, bgV, if_pos (by rw [HF.out]; exact HC.out), HN.out])
    go_enter Try.func9, Try.ntmps9
    go_wp2_with (go_at_call 38; refine (cAreFour_c a b c d _).mono ?_; rintro e w' ⟨rfl, rfl⟩; rw [HF.out])
    refine (gCode_c p n cap cs H16.out HN.out hm F _ HA.out).mono ?_
    rintro e w1 ⟨rfl, hb1⟩
    rw [HC.out]
    have HB1 := Lib.hid hb1
    clear hb1
    go_wp2_with fail
    go_loopw [15, 16, 17, 35] (fun u v x i wr => ∃ (k : Nat) (B X Y : Int), k ≤ n ∧ i = .int .i64 k ∧ u = .int .i64 B ∧ v = .int .i64 X ∧ x = .int .i64 Y ∧ bgN (msF cs a b c d) k = (B, X, Y) ∧ Below w.heap.size w wr) (fun _ _ _ i _ => n - (intOf i).toNat)
    case atStart => exact ⟨0, -1, 0, 0, Nat.zero_le _, rfl, rfl, rfl, rfl, rfl, HB1.out⟩
    case round =>
      clear HB1
      obtain ⟨k, B, X, Y, hk, rfl, rfl, rfl, rfl, hs, hW⟩ := hrel
      have HW := Lib.hid hW
      have HS := Lib.hid hs
      have hbd := bgN_bd cs a b c d k
      rw [hs] at hbd
      obtain ⟨b1, b2, b3, b4, b5, b6⟩ := hbd
      simp only at b1 b2 b3 b4 b5 b6
      clear hW hs
      by_cases hlt : k < n
      · have hki : (k : Int) < n := by omega
        have hkl : k < cs.length := by rw [← HN.out]; exact hlt
        obtain ⟨bb, o, rfl, hb, hc⟩ := GrS_below HW.out HA.out (gne_of_lt hkl)
        obtain ⟨r, m, cap2, hcell, hmn, hmm, hcv⟩ := hc k hkl
        have HM := Lib.hid hmn
        have HCV := Lib.hid hcv
        have hmb := mis_bd (cs.getD k []) a b c d
        obtain ⟨x, y, z, hmk⟩ : ∃ x y z, msF cs a b c d k = (x, y, z) := ⟨_, _, _, rfl⟩
        have hmk' : misV (cs.getD k []) a b c d = (x, y, z) := hmk
        rw [hmk'] at hmb
        have HMK := Lib.hid hmk
        have HMK' := Lib.hid hmk'
        simp only at hmb
        obtain ⟨y0, y1⟩ := hmb
        clear hc hmn hcv hmk hmk' hkl
        go_wp2_with fail
        refine (cImplMisfit_c r m cap2 _ (H16.out k) HM.out hmm a b c d _ HCV.out).mono ?_
        rintro e w1 ⟨rfl, hb1⟩
        rw [HMK'.out]
        by_cases hz : z = 0
        · subst hz
          by_cases hB : B < 0
          · have HT : Hid (bgN (msF cs a b c d) (k + 1) = ((k : Int), x, y)) := Lib.hid (bgN_take HMK.out (Or.inl (by rw [HS.out]; exact hB)))
            have hBd : decide (B < 0) = true := by simp; omega
            clear hB
            go_wp2
            go_roundw
            case rel => exact ⟨k + 1, k, x, y, by omega, by go_num, rfl, rfl, rfl, HT.out, bt HW.out hb1⟩
            case measure => simp [intOf]; omega
          · have hBd : decide (B < 0) = false := by simp; omega
            obtain ⟨ay, hay⟩ : ∃ t, t = absV y := ⟨_, rfl⟩
            obtain ⟨aY, haY⟩ : ∃ t, t = absV Y := ⟨_, rfl⟩
            have HAy := Lib.hid hay.symm
            have HAY := Lib.hid haY.symm
            by_cases hlt2 : ay < aY
            · have HT : Hid (bgN (msF cs a b c d) (k + 1) = ((k : Int), x, y)) := Lib.hid (bgN_take HMK.out (Or.inr (by rw [HS.out, ← hay, ← haY]; exact hlt2)))
              clear hB hay haY b1
              go_wp2_with (first
                | (go_at_call_of 39 (Value.int .i64 y); refine (cImplSize_c y (by omega) _).mono ?_; rintro e w' ⟨rfl, rfl⟩; rw [HAy.out])
                | (go_at_call_of 39 (Value.int .i64 Y); refine (cImplSize_c Y (by omega) _).mono ?_; rintro e w' ⟨rfl, rfl⟩; rw [HAY.out]))
              go_roundw
              case rel => exact ⟨k + 1, k, x, y, by omega, by go_num, rfl, rfl, rfl, HT.out, bt HW.out hb1⟩
              case measure => simp [intOf]; omega
            · have HT : Hid (bgN (msF cs a b c d) (k + 1) = (B, X, Y)) := Lib.hid (by rw [bgN_keep HMK.out (by rw [HS.out]; exact hB) (by rw [HS.out, ← hay, ← haY]; exact hlt2), HS.out])
              clear hB hay haY b1
              go_wp2_with (first
                | (go_at_call_of 39 (Value.int .i64 y); refine (cImplSize_c y (by omega) _).mono ?_; rintro e w' ⟨rfl, rfl⟩; rw [HAy.out])
                | (go_at_call_of 39 (Value.int .i64 Y); refine (cImplSize_c Y (by omega) _).mono ?_; rintro e w' ⟨rfl, rfl⟩; rw [HAY.out]))
              go_roundw
              case rel => exact ⟨k + 1, B, X, Y, by omega, by go_num, rfl, rfl, rfl, HT.out, bt HW.out hb1⟩
              case measure => simp [intOf]; omega
        · have hz2 : (z == 0) = false := by simp; exact hz
          have HT : Hid (bgN (msF cs a b c d) (k + 1) = (B, X, Y)) := Lib.hid (by rw [bgN_skip (by rw [HMK.out]; exact hz), HS.out])
          clear hz
          go_wp2
          go_roundw
          case rel => exact ⟨k + 1, B, X, Y, by omega, by go_num, rfl, rfl, rfl, HT.out, bt HW.out hb1⟩
          case measure => simp [intOf]; omega
      · have hki : ¬ (k : Int) < n := by omega
        have hkn : n = k := by omega
        by_cases hB : B < 0
        · have HE : Hid (V = (0, 0, 0, 6)) := Lib.hid (by rw [HV2.out, hkn, HS.out, if_pos hB])
          have hBd : decide (B < 0) = true := by simp; omega
          clear hkn hB b1
          go_wp2
          (try simp only [Exit.inBlock, Exit.then]); refine bodyPost_ret (results_tmp4 rfl _ _ _) rfl ?_
          exact ⟨by rw [HE.out] <;> rfl, HW.out⟩
        · have HE : Hid (V = (B, X, Y, 0)) := Lib.hid (by rw [HV2.out, hkn, HS.out, if_neg hB])
          have hBd : decide (B < 0) = false := by simp; omega
          clear hkn hB b1
          go_wp2
          (try simp only [Exit.inBlock, Exit.then]); refine bodyPost_ret (results_tmp4 rfl _ _ _) rfl ?_
          exact ⟨by rw [HE.out] <;> rfl, HW.out⟩
  · have HE : Hid (V = (0, 0, 0, C)) := Lib.hid (by rw [HV.out, bgV, HF.out, HC.out, if_neg h0])
    have hne : (C != 0) = true := by rw [bne_iff_ne]; exact h0
    clear h0
    go_enter Try.func9, Try.ntmps9
    go_wp2_with (go_at_call 38; refine (cAreFour_c a b c d _).mono ?_; rintro e w' ⟨rfl, rfl⟩; rw [HF.out])
    refine (gCode_c p n cap cs H16.out HN.out hm F _ HA.out).mono ?_
    rintro e w1 ⟨rfl, hb1⟩
    rw [HC.out]
    go_wp2
    (try simp only [Exit.inBlock, Exit.then]); refine bodyPost_ret (results_tmp4 rfl _ _ _) rfl ?_
    exact ⟨by rw [HE.out] <;> rfl, hb1⟩
end Go.Proofs.Ytcdndjimfmpifaa
