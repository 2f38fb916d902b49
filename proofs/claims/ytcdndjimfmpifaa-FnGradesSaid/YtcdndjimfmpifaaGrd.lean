/- Grades of paper: the misfit, the best grade. -/
import Derived.Test.YtcdndjimfmpifaaCrvL
namespace Go.Proofs.Ytcdndjimfmpifaa
open Go.RowKit
theorem lst_le (q : Cv) (d t : Int) : lstV q d t ≤ 37 := firstN_le _ 37
theorem four_get {a b c d : Int} (h : fourB a b c d = true) : (0 ≤ a ∧ a ≤ 400) ∧ (0 ≤ b ∧ b ≤ 400) ∧ (0 ≤ c ∧ c ≤ 400) ∧ (0 ≤ d ∧ d ≤ 400) := by
  simp only [fourB, Bool.and_eq_true] at h
  exact ⟨(ydB_iff _).1 h.1.1.1.1, (ydB_iff _).1 h.1.1.1.2, (ydB_iff _).1 h.1.1.2, (ydB_iff _).1 h.1.2⟩
theorem dark_bd {q : Cv} (h : Good q) (x d : Int) : 0 ≤ darkV q x d ∧ darkV q x d ≤ 400 := at_dn h _
theorem mis_bd (q : Cv) (a b c d : Int) : -400 ≤ (misV q a b c d).2.1 ∧ (misV q a b c d).2.1 ≤ 400 := by
  unfold misV
  split
  · rename_i h1
    split
    · rename_i h2
      split
      · have := dark_bd (good_of h1) (lstV q a c : Nat) b
        have := four_get h2
        simp only; omega
      · simp
    · simp
  · simp
theorem mis_code (q : Cv) (a b c d : Int) : (misV q a b c d).2.2 = 0 ∨ (misV q a b c d).2.2 = 1 ∨ (misV q a b c d).2.2 = 2 ∨ (misV q a b c d).2.2 = 6 := by
  unfold misV
  split
  · split
    · split <;> simp
    · simp
  · simp
theorem mis_light (q : Cv) (a b c d : Int) : 0 ≤ (misV q a b c d).1 ∧ (misV q a b c d).1 ≤ 36 := by
  unfold misV
  split
  · split
    · split
      · rename_i h; simp only; omega
      · simp
    · simp
  · simp
set_option maxHeartbeats 1000000 in
set_option maxRecDepth 10000 in
theorem cMisfit_c (p : Option Addr) (n cap : Nat) (q : Cv) (h16 : C16 q) (hn : n = q.length) (hm : n ≤ 1048576) (a b c d : Int) (w : World) (hp : CvS w p q) :
    Calls Try.prog 21 #[.slice p n cap, .int .i64 a, .int .i64 b, .int .i64 c, .int .i64 d] w fun e w' => e = .returned (.tuple #[.int .i64 (misV q a b c d).1, .int .i64 (misV q a b c d).2.1, .int .i64 (misV q a b c d).2.2]) ∧ Below w.heap.size w w' := by
  have HN := Lib.hid hn
  have H16 := Lib.hid h16
  have HA := Lib.hid hp
  obtain ⟨M, hM⟩ : ∃ M, M = misV q a b c d := ⟨_, rfl⟩
  rw [← hM]
  have HM := Lib.hid hM
  clear hn h16 hp hM
  cases hc : cvB q
  · have HC := Lib.hid hc
    have HV : Hid (M = (0, 0, 1)) := Lib.hid (by rw [HM.out]; simp [misV, hc])
    clear hc
    go_enter Try.func21, Try.ntmps21
    go_wp2_with (go_at_call 55; refine (cOk_c p n cap q H16.out HN.out hm _ HA.out).mono ?_; rintro e w1 ⟨rfl, hb1⟩; rw [HC.out])
    go_ret3
    exact ⟨by rw [HV.out] <;> rfl, hb1⟩
  cases hf : fourB a b c d
  · have HC := Lib.hid hc
    have HF := Lib.hid hf
    have HV : Hid (M = (0, 0, 2)) := Lib.hid (by rw [HM.out]; simp [misV, hc, hf])
    clear hc hf
    go_enter Try.func21, Try.ntmps21
    go_wp2_with (first
      | (go_at_call 55; refine (cOk_c p n cap q H16.out HN.out hm _ HA.out).mono ?_; rintro e w1 ⟨rfl, hb1⟩; rw [HC.out])
      | (go_at_call 34; refine (cFour_c a b c d _).mono ?_; rintro e w' ⟨rfl, rfl⟩; rw [HF.out]))
    go_ret3
    exact ⟨by rw [HV.out] <;> rfl, hb1⟩
  obtain ⟨⟨a0, a1⟩, ⟨b0, b1⟩, ⟨c0, c1⟩, d0, d1⟩ := four_get hf
  have HG := Lib.hid (good_of hc)
  have hle := lst_le q a c
  obtain ⟨L, hL⟩ : ∃ L, L = lstV q a c := ⟨_, rfl⟩
  have HC := Lib.hid hc
  have HF := Lib.hid hf
  rw [← hL] at hle
  by_cases h36 : L ≤ 36
  · have HS : Hid (lstS q a c = (L : Int)) := Lib.hid (by simp [lstS, ← hL, h36])
    have HV : Hid (M = ((L : Int), darkV q L b - d, 0)) := Lib.hid (by rw [HM.out]; simp [misV, hc, hf, ← hL, h36])
    have db := dark_bd HG.out L b
    have hi := Go.IntWalk.i64_in (darkV q L b - d) (by omega)
    obtain ⟨Li, hLi⟩ : ∃ Li : Int, Li = L := ⟨_, rfl⟩
    rw [← hLi] at HS HV db hi
    have hz : decide (Li < 0) = false := by simp; omega
    have HLi : Hid (0 ≤ Li ∧ Li ≤ 36) := Lib.hid (by omega)
    clear hc hf hL hLi hle h36
    obtain ⟨D, hD⟩ : ∃ D, D = darkV q Li b := ⟨_, rfl⟩
    rw [← hD] at hi db HV
    have HD := Lib.hid hD
    clear hD
    go_enter Try.func21, Try.ntmps21
    go_wp2_with fail
    refine (cOk_c p n cap q H16.out HN.out hm _ HA.out).mono ?_
    rintro e w1 ⟨rfl, hb1⟩
    rw [HC.out]
    go_wp2_with (go_at_call 34; refine (cFour_c a b c d _).mono ?_; rintro e w' ⟨rfl, rfl⟩; rw [HF.out])
    refine (cLeast_c p n cap q HG.out HN.out a c a0 a1 _ (CvS_below hb1 HA.out)).mono ?_
    rintro e w2 ⟨rfl, hb2⟩
    rw [HS.out]
    go_wp2_with fail
    refine (cDark_c p n cap q HG.out HN.out b Li b0 b1 (by have := HLi.out; omega) _ (CvS_below (bt hb1 hb2) HA.out)).mono ?_
    rintro e w3 ⟨rfl, hb3⟩
    rw [← HD.out]
    go_wp2
    go_ret3
    exact ⟨by rw [HV.out] <;> rfl, bt (bt hb1 hb2) hb3⟩
  · have HS : Hid (lstS q a c = -1) := Lib.hid (by simp [lstS, ← hL, h36])
    have HV : Hid (M = (0, 0, 6)) := Lib.hid (by rw [HM.out]; simp [misV, hc, hf, ← hL, h36])
    clear hc hf hL
    go_enter Try.func21, Try.ntmps21
    go_wp2_with fail
    refine (cOk_c p n cap q H16.out HN.out hm _ HA.out).mono ?_
    rintro e w1 ⟨rfl, hb1⟩
    rw [HC.out]
    go_wp2_with (go_at_call 34; refine (cFour_c a b c d _).mono ?_; rintro e w' ⟨rfl, rfl⟩; rw [HF.out])
    refine (cLeast_c p n cap q HG.out HN.out a c a0 a1 _ (CvS_below hb1 HA.out)).mono ?_
    rintro e w2 ⟨rfl, hb2⟩
    rw [HS.out]
    go_wp2
    go_ret3
    exact ⟨by rw [HV.out] <;> rfl, bt hb1 hb2⟩
set_option maxHeartbeats 1000000 in
set_option maxRecDepth 10000 in
theorem cImplMisfit_c (p : Option Addr) (n cap : Nat) (q : Cv) (h16 : C16 q) (hn : n = q.length) (hm : n ≤ 1048576) (a b c d : Int) (w : World) (hp : CvS w p q) :
    Calls Try.prog 20 #[.slice p n cap, .int .i64 a, .int .i64 b, .int .i64 c, .int .i64 d] w fun e w' => e = .returned (.tuple #[.int .i64 (misV q a b c d).1, .int .i64 (misV q a b c d).2.1, .int .i64 (misV q a b c d).2.2]) ∧ Below w.heap.size w w' := by
  have HN := Lib.hid hn
  have H16 := Lib.hid h16
  have HA := Lib.hid hp
  obtain ⟨M, hM⟩ : ∃ M, M = misV q a b c d := ⟨_, rfl⟩
  rw [← hM]
  have HM := Lib.hid hM
  clear hn h16 hp hM
  obtain ⟨F, hF⟩ : ∃ F, F = fourB a b c d := ⟨_, rfl⟩
  have HFF := Lib.hid hF.symm
  by_cases hcd : cdV q F = 0
  · have hc : cvB q = true := by
      cases h : cvB q
      · simp [cdV, h] at hcd
      · rfl
    have hf : fourB a b c d = true := by
      rw [← hF]
      cases h : F
      · simp [cdV, hc, h] at hcd
      · rfl
    obtain ⟨⟨a0, a1⟩, ⟨b0, b1⟩, ⟨c0, c1⟩, d0, d1⟩ := four_get hf
    have HG := Lib.hid (good_of hc)
    have hle := lst_le q a c
    obtain ⟨L, hL⟩ : ∃ L, L = lstV q a c := ⟨_, rfl⟩
    have HL := Lib.hid hL.symm
    have HCD := Lib.hid hcd
    rw [← hL] at hle
    by_cases h36 : L ≤ 36
    · have HT : Hid (thB (L : Int) = true) := Lib.hid (by simp [thB]; omega)
      have HV : Hid (M = ((L : Int), darkV q L b - d, 0)) := Lib.hid (by rw [HM.out]; simp [misV, hc, hf, ← hL, h36])
      have db := dark_bd HG.out L b
      have hi := Go.IntWalk.i64_in (darkV q L b - d) (by omega)
      clear hc hf hL hF hcd
      obtain ⟨D, hD⟩ : ∃ D, D = darkV q L b := ⟨_, rfl⟩
      rw [← hD] at hi db HV
      have HD := Lib.hid hD
      clear hD
      go_enter Try.func20, Try.ntmps20
      go_wp2_with (go_at_call 38; refine (cAreFour_c a b c d _).mono ?_; rintro e w' ⟨rfl, rfl⟩; rw [HFF.out])
      refine (cCode_c p n cap q H16.out HN.out hm F _ HA.out).mono ?_
      rintro e w1 ⟨rfl, hb1⟩
      rw [HCD.out]
      go_wp2_with fail
      refine (cLeastLight_c p n cap q HG.out HN.out a c a0 a1 _ (CvS_below hb1 HA.out)).mono ?_
      rintro e w2 ⟨rfl, hb2⟩
      rw [HL.out]
      go_wp2_with (go_at_call 53; refine (cAreThirds_c L _).mono ?_; rintro e w' ⟨rfl, rfl⟩; rw [HT.out])
      refine (cBehind_c p n cap q HG.out HN.out b L b0 b1 (by omega) _ (CvS_below (bt hb1 hb2) HA.out)).mono ?_
      rintro e w3 ⟨rfl, hb3⟩
      rw [← HD.out]
      go_wp2
      go_ret3
      exact ⟨by rw [HV.out] <;> rfl, bt (bt hb1 hb2) hb3⟩
    · have HT : Hid (thB (L : Int) = false) := Lib.hid (by simp [thB]; omega)
      have HV : Hid (M = (0, 0, 6)) := Lib.hid (by rw [HM.out]; simp [misV, hc, hf, ← hL, h36])
      clear hc hf hL hF hcd
      go_enter Try.func20, Try.ntmps20
      go_wp2_with (go_at_call 38; refine (cAreFour_c a b c d _).mono ?_; rintro e w' ⟨rfl, rfl⟩; rw [HFF.out])
      refine (cCode_c p n cap q H16.out HN.out hm F _ HA.out).mono ?_
      rintro e w1 ⟨rfl, hb1⟩
      rw [HCD.out]
      go_wp2_with fail
      refine (cLeastLight_c p n cap q HG.out HN.out a c a0 a1 _ (CvS_below hb1 HA.out)).mono ?_
      rintro e w2 ⟨rfl, hb2⟩
      rw [HL.out]
      go_wp2_with (go_at_call 53; refine (cAreThirds_c L _).mono ?_; rintro e w' ⟨rfl, rfl⟩; rw [HT.out])
      go_ret3
      exact ⟨by rw [HV.out] <;> rfl, bt hb1 hb2⟩
  · obtain ⟨C, hC⟩ : ∃ C, C = cdV q F := ⟨_, rfl⟩
    have HC := Lib.hid hC.symm
    have HV : Hid (M = (0, 0, C)) := Lib.hid (by
      rw [HM.out, hC]
      unfold cdV at hcd ⊢
      unfold misV
      rw [← hF]
      cases h1 : cvB q
      · simp
      · cases h2 : F
        · simp
        · simp [h1, h2] at hcd)
    rw [← hC] at hcd
    have hne : (C != 0) = true := by rw [bne_iff_ne]; exact hcd
    clear hF hC hcd
    go_enter Try.func20, Try.ntmps20
    go_wp2_with (go_at_call 38; refine (cAreFour_c a b c d _).mono ?_; rintro e w' ⟨rfl, rfl⟩; rw [HFF.out])
    refine (cCode_c p n cap q H16.out HN.out hm F _ HA.out).mono ?_
    rintro e w1 ⟨rfl, hb1⟩
    rw [HC.out]
    go_wp2
    go_ret3
    exact ⟨by rw [HV.out] <;> rfl, hb1⟩
end Go.Proofs.Ytcdndjimfmpifaa
