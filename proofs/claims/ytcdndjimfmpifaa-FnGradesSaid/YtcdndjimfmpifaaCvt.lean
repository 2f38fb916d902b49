/- Papers: scales, lights that are converted, black. -/
import Derived.Test.YtcdndjimfmpifaaPap
import Derived.Test.YtcdndjimfmpifaaScale
import Derived.Test.YtcdndjimfmpifaaOrdW
import Derived.Test.YtcdndjimfmpifaaGrdB
namespace Go.Proofs.Ytcdndjimfmpifaa
open Go.RowKit Go.Lib
theorem cThirdsD_c (n : Int) (w : World) :
    Calls Try.prog 61 #[.int .i64 n] w fun e w' => e = .returned (.bool (thB n)) ∧ w = w' := by
  go_enter Try.func61, Try.ntmps61
  go_wp2_with (go_at_call 66; refine (cIn_c _ _ _ _).mono ?_; rintro e w' ⟨rfl, rfl⟩)
  go_ret
  exact ⟨rfl, rfl⟩
theorem cScaleOf_c (p : Option Addr) (n cap : Nat) (q : Cv) (hq : Pap q) (hn : n = q.length) (hm : n ≤ 1048576) (l d : Int) (he : endB l d = true) (w : World) (hp : CvS w p q) :
    Calls Try.prog 22 #[.slice p n cap, .int .i64 l, .int .i64 d] w fun e w' => e = .returned (.tuple #[.int .i64 (sclN q l d), .int .i64 (if sclB q l d then 0 else 6)]) ∧ Below w.heap.size w w' := by
  have HA := Lib.hid hp
  have HN := Lib.hid hn
  have HQ := Lib.hid hq
  have HE := Lib.hid he
  have HL : Hid (ydB l = true) := Lib.hid (by simp only [endB, Bool.and_eq_true] at he; exact he.1.1)
  have HC : Hid (cdV q true = 0) := Lib.hid (by simp [cdV, hq.ok])
  obtain ⟨S, hS⟩ : ∃ S, S = sclN q l d := ⟨_, rfl⟩
  obtain ⟨C, hC⟩ : ∃ C : Int, C = if sclB q l d then 0 else 6 := ⟨_, rfl⟩
  rw [← hS, ← hC]
  have HS := Lib.hid hS.symm
  have HC2 := Lib.hid hC.symm
  clear hp hn hq he hS hC
  go_enter Try.func22, Try.ntmps22
  go_wp2_with fail
  refine (cAreScaled_c l d _).mono ?_
  rintro e w' ⟨rfl, rfl⟩
  rw [HE.out]
  go_wp2_with fail
  refine (cCode_c p n cap q HQ.out.i16 HN.out hm true _ HA.out).mono ?_
  rintro e w1 ⟨rfl, hb⟩
  rw [HC.out]
  have HA1 := Lib.hid (CvS_below hb HA.out)
  have HB := Lib.hid hb
  clear hb HA
  go_wp2_with fail
  refine (cScale_c p n cap q HQ.out.ok HN.out l d HL.out _ HA1.out).mono ?_
  rintro e w2 ⟨rfl, hb⟩
  rw [HS.out, HC2.out]
  have HB2 := Lib.hid (bt HB.out hb)
  clear hb
  go_wp2
  go_ret2
  exact ⟨rfl, HB2.out⟩
theorem cSpecScaleOf_c (p : Option Addr) (n cap : Nat) (q : Cv) (hq : Pap q) (hn : n = q.length) (hm : n ≤ 1048576) (l d : Int) (he : endB l d = true) (w : World) (hp : CvS w p q) :
    Calls Try.prog 24 #[.slice p n cap, .int .i64 l, .int .i64 d] w fun e w' => e = .returned (.tuple #[.int .i64 (sclN q l d), .int .i64 (if sclB q l d then 0 else 6)]) ∧ Below w.heap.size w w' := by
  have HA := Lib.hid hp
  have HN := Lib.hid hn
  have HQ := Lib.hid hq
  have HE := Lib.hid he
  have HL : Hid (ydB d = true) := Lib.hid (by simp only [endB, Bool.and_eq_true] at he; exact he.1.2)
  obtain ⟨C, hC⟩ : ∃ C : Int, C = if sclB q l d then 0 else 6 := ⟨_, rfl⟩
  obtain ⟨S, hS⟩ : ∃ S, S = sclN q l d := ⟨_, rfl⟩
  rw [← hS, ← hC]
  have HS : Hid (sclN q l d = S) := Lib.hid hS.symm
  have HZ : Hid (sclB q l d = false → S = 0 ∧ C = 6) := Lib.hid (fun h => by rw [hS, sclN, hC, h]; exact ⟨rfl, rfl⟩)
  have HZ1 : Hid (sclB q l d = true → C = 0) := Lib.hid (fun h => by rw [hC, h]; rfl)
  clear hC hS
  cases hB : sclB q l d
  all_goals
    have HB := Lib.hid hB
    clear hB
    try clear hp hn hq he
    go_enter Try.func24, Try.ntmps24
    go_wp2_with fail
    refine (cOk_c p n cap q HQ.out.i16 HN.out hm _ HA.out).mono ?_
    rintro e w1 ⟨rfl, hb⟩
    rw [HQ.out.ok]
    have HA1 := Lib.hid (CvS_below hb HA.out)
    have HB1 := Lib.hid hb
    clear hb HA
    go_wp2_with fail
    refine (cEnds_c l d _).mono ?_
    rintro e w' ⟨rfl, rfl⟩
    rw [HE.out]
    go_wp2_with fail
    refine (cL05Scale_c p n cap q HQ.out.i16 HQ.out.ok HN.out hm l d HL.out _ HA1.out).mono ?_
    rintro e w2 ⟨rfl, hb⟩
    rw [HS.out, HB.out]
    have HB2 := Lib.hid (bt HB1.out hb)
    clear hb
    go_wp2
    go_ret2
  · exact ⟨by obtain ⟨e1, e2⟩ := HZ.out HB.out; rw [e1, e2] <;> rfl, HB2.out⟩
  · exact ⟨by rw [HZ1.out HB.out] <;> rfl, HB2.out⟩
theorem cPrintCode_c (p : Option Addr) (n cap : Nat) (q : Cv) (hq : Pap q) (hn : n = q.length) (hm : n ≤ 1048576) (p2 : Option Addr) (n2 cap2 : Nat) (q2 : Cv) (hq2 : Pap q2) (hn2 : n2 = q2.length) (hm2 : n2 ≤ 1048576) (w : World) (hp : CvS w p q) (hp2 : CvS w p2 q2) :
    Calls Try.prog 59 #[.slice p n cap, .slice p2 n2 cap2, .bool true] w fun e w' => e = .returned (.int .i64 0) ∧ Below w.heap.size w w' := by
  have HA := Lib.hid hp
  have HN := Lib.hid hn
  have HQ := Lib.hid hq
  have HA2 := Lib.hid hp2
  have HN2 := Lib.hid hn2
  have HQ2 := Lib.hid hq2
  have HC : Hid (cdV q2 true = 0) := Lib.hid (by simp [cdV, hq2.ok])
  clear hp hn hq hp2 hn2 hq2
  go_enter Try.func59, Try.ntmps59
  go_wp2_with fail
  refine (cValid_c p n cap q HQ.out.i16 HN.out hm _ HA.out).mono ?_
  rintro e w1 ⟨rfl, hb⟩
  rw [HQ.out.ok]
  have HA21 := Lib.hid (CvS_below hb HA2.out)
  have HB := Lib.hid hb
  clear hb HA2
  go_wp2_with fail
  refine (cCode_c p2 n2 cap2 q2 HQ2.out.i16 HN2.out hm2 true _ HA21.out).mono ?_
  rintro e w2 ⟨rfl, hb⟩
  rw [HC.out]
  have HB2 := Lib.hid (bt HB.out hb)
  clear hb
  go_wp2
  go_ret
  exact ⟨rfl, HB2.out⟩
def cnvV (q : Cv) (d t : Int) : Int := if lstV q d t ≤ 36 then (lstV q d t : Int) else 0
def cnvC (q : Cv) (d t : Int) : Int := if lstV q d t ≤ 36 then 0 else 6
theorem thB_lst (q : Cv) (d t : Int) : thB (lstV q d t : Nat) = decide (lstV q d t ≤ 36) := by
  simp only [thB]; rw [Bool.eq_iff_iff]; simp; omega
theorem lstS_neg (q : Cv) (d t : Int) : lstS q d t < 0 ↔ ¬ lstV q d t ≤ 36 := by
  unfold lstS; split <;> omega
theorem cConvert_c (p : Option Addr) (n cap : Nat) (q : Cv) (hq : Pap q) (hn : n = q.length) (hm : n ≤ 1048576) (p2 : Option Addr) (n2 cap2 : Nat) (q2 : Cv) (hq2 : Pap q2) (hn2 : n2 = q2.length) (hm2 : n2 ≤ 1048576) (x : Int) (hx : thB x = true) (w : World) (hp : CvS w p q) (hp2 : CvS w p2 q2) :
    Calls Try.prog 25 #[.slice p n cap, .slice p2 n2 cap2, .int .i64 x] w fun e w' => e = .returned (.tuple #[.int .i64 (cnvV q2 0 (atV q x)), .int .i64 (cnvC q2 0 (atV q x))]) ∧ Below w.heap.size w w' := by
  have HA := Lib.hid hp
  have HN := Lib.hid hn
  have HQ := Lib.hid hq
  have HA2 := Lib.hid hp2
  have HN2 := Lib.hid hn2
  have HQ2 := Lib.hid hq2
  have HX := Lib.hid hx
  obtain ⟨y, hy⟩ : ∃ y, y = atV q x := ⟨_, rfl⟩
  rw [← hy]
  have HY := Lib.hid hy.symm
  have HT := Lib.hid (thB_lst q2 0 y)
  have HV : Hid (cnvV q2 0 y = if lstV q2 0 y ≤ 36 then (lstV q2 0 y : Int) else 0) := Lib.hid rfl
  have HC : Hid (cnvC q2 0 y = if lstV q2 0 y ≤ 36 then 0 else 6) := Lib.hid rfl
  obtain ⟨V, hV⟩ : ∃ V, V = cnvV q2 0 y := ⟨_, rfl⟩
  obtain ⟨C, hC⟩ : ∃ C, C = cnvC q2 0 y := ⟨_, rfl⟩
  rw [← hV, ← hC]
  rw [← hV] at HV
  rw [← hC] at HC
  obtain ⟨k, hk⟩ : ∃ k, k = lstV q2 0 y := ⟨_, rfl⟩
  rw [← hk] at HT HV HC
  have HK := Lib.hid hk.symm
  clear hp hn hq hp2 hn2 hq2 hx hy hV hC hk
  cases h36 : decide (k ≤ 36)
  all_goals
    rw [h36] at HT
    have H36 := Lib.hid h36
    clear h36
    go_enter Try.func25, Try.ntmps25
    go_wp2_with fail
    refine (cAreThirds_c x _).mono ?_
    rintro e w' ⟨rfl, rfl⟩
    rw [HX.out]
    go_wp2_with fail
    refine (cPrintCode_c p n cap q HQ.out HN.out hm p2 n2 cap2 q2 HQ2.out HN2.out hm2 _ HA.out HA2.out).mono ?_
    rintro e w1 ⟨rfl, hb⟩
    have HA1 := Lib.hid (CvS_below hb HA.out)
    have HA21 := Lib.hid (CvS_below hb HA2.out)
    have HB := Lib.hid hb
    clear hb HA HA2
    go_wp2_with fail
    refine (cImplAt_c p n cap q HQ.out.good HN.out x _ HA1.out).mono ?_
    rintro e w2 ⟨rfl, hb⟩
    rw [HY.out]
    have HA22 := Lib.hid (CvS_below hb HA21.out)
    have HB2 := Lib.hid (bt HB.out hb)
    clear hb HA1 HA21 HB
    go_wp2_with fail
    refine (cLeastLight_c p2 n2 cap2 q2 HQ2.out.good HN2.out 0 y (by omega) (by omega) _ HA22.out).mono ?_
    rintro e w3 ⟨rfl, hb⟩
    rw [HK.out]
    have HB3 := Lib.hid (bt HB2.out hb)
    clear hb HA22 HB2
    go_wp2_with fail
    refine (cAreThirds_c k _).mono ?_
    rintro e w' ⟨rfl, rfl⟩
    rw [HT.out]
    go_wp2
    go_ret2
    exact ⟨by rw [HV.out, HC.out]; have := H36.out; simp at this; simp [this] <;> omega, HB3.out⟩
theorem cSpecConvert_c (p : Option Addr) (n cap : Nat) (q : Cv) (hq : Pap q) (hn : n = q.length) (hm : n ≤ 1048576) (p2 : Option Addr) (n2 cap2 : Nat) (q2 : Cv) (hq2 : Pap q2) (hn2 : n2 = q2.length) (hm2 : n2 ≤ 1048576) (x : Int) (hx : thB x = true) (w : World) (hp : CvS w p q) (hp2 : CvS w p2 q2) :
    Calls Try.prog 26 #[.slice p n cap, .slice p2 n2 cap2, .int .i64 x] w fun e w' => e = .returned (.tuple #[.int .i64 (cnvV q2 0 (atV q x)), .int .i64 (cnvC q2 0 (atV q x))]) ∧ Below w.heap.size w w' := by
  have HA := Lib.hid hp
  have HN := Lib.hid hn
  have HQ := Lib.hid hq
  have HA2 := Lib.hid hp2
  have HN2 := Lib.hid hn2
  have HQ2 := Lib.hid hq2
  have HX := Lib.hid hx
  obtain ⟨y, hy⟩ : ∃ y, y = atV q x := ⟨_, rfl⟩
  rw [← hy]
  have HY := Lib.hid hy.symm
  obtain ⟨s, hs⟩ : ∃ s, s = lstS q2 0 y := ⟨_, rfl⟩
  have HS := Lib.hid hs.symm
  have HV : Hid (¬ s < 0 → cnvV q2 0 y = s ∧ cnvC q2 0 y = 0) := Lib.hid (fun h => by
    rw [hs, lstS_neg, Classical.not_not] at h
    rw [hs, lstS, cnvV, cnvC, if_pos h, if_pos h]; exact ⟨rfl, by rw [if_pos h]⟩)
  have HC : Hid (s < 0 → cnvV q2 0 y = 0 ∧ cnvC q2 0 y = 6) := Lib.hid (fun h => by
    rw [hs, lstS_neg] at h
    rw [cnvV, cnvC, if_neg h, if_neg h]; exact ⟨rfl, rfl⟩)
  obtain ⟨V, hV⟩ : ∃ V, V = cnvV q2 0 y := ⟨_, rfl⟩
  obtain ⟨C, hC⟩ : ∃ C, C = cnvC q2 0 y := ⟨_, rfl⟩
  rw [← hV, ← hC]
  rw [← hV, ← hC] at HV HC
  clear hp hn hq hp2 hn2 hq2 hx hy hs hV hC
  cases h36 : decide (s < 0)
  all_goals
    have H36 := Lib.hid h36
    go_enter Try.func26, Try.ntmps26
    go_wp2_with fail
    refine (cOk_c p n cap q HQ.out.i16 HN.out hm _ HA.out).mono ?_
    rintro e w1 ⟨rfl, hb⟩
    rw [HQ.out.ok]
    have HA1 := Lib.hid (CvS_below hb HA.out)
    have HA21 := Lib.hid (CvS_below hb HA2.out)
    have HB := Lib.hid hb
    clear hb HA HA2
    go_wp2_with fail
    refine (cOk_c p2 n2 cap2 q2 HQ2.out.i16 HN2.out hm2 _ HA21.out).mono ?_
    rintro e w2 ⟨rfl, hb⟩
    rw [HQ2.out.ok]
    have HA12 := Lib.hid (CvS_below hb HA1.out)
    have HA22 := Lib.hid (CvS_below hb HA21.out)
    have HB2 := Lib.hid (bt HB.out hb)
    clear hb HA1 HA21 HB
    go_wp2_with fail
    refine (cThirdsD_c x _).mono ?_
    rintro e w' ⟨rfl, rfl⟩
    rw [HX.out]
    go_wp2_with fail
    refine (cAt_c p n cap q HQ.out.good HN.out x _ HA12.out).mono ?_
    rintro e w3 ⟨rfl, hb⟩
    rw [HY.out]
    have HA23 := Lib.hid (CvS_below hb HA22.out)
    have HB3 := Lib.hid (bt HB2.out hb)
    clear hb HA12 HA22 HB2
    go_wp2_with fail
    refine (cLeast_c p2 n2 cap2 q2 HQ2.out.good HN2.out 0 y (by omega) (by omega) _ HA23.out).mono ?_
    rintro e w4 ⟨rfl, hb⟩
    rw [HS.out]
    have HB4 := Lib.hid (bt HB3.out hb)
    clear hb HA23 HB3
    go_wp2
    go_ret2
  · exact ⟨by obtain ⟨e1, e2⟩ := HV.out (by have := of_decide_eq_false H36.out; omega); rw [e1, e2] <;> rfl, HB4.out⟩
  · exact ⟨by obtain ⟨e1, e2⟩ := HC.out (by have := of_decide_eq_true H36.out; omega); rw [e1, e2] <;> rfl, HB4.out⟩
end Go.Proofs.Ytcdndjimfmpifaa
