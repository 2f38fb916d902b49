/- Papers: tables of lights, densities, black. -/
import Derived.Test.YtcdndjimfmpifaaCvt
namespace Go.Proofs.Ytcdndjimfmpifaa
open Go.RowKit Go.Lib
theorem cCurveAt_c (p : Option Addr) (n cap : Nat) (q : Cv) (hq : Pap q) (hn : n = q.length) (hm : n ≤ 1048576) (x : Int) (hx : plcB x = true) (w : World) (hp : CvS w p q) :
    Calls Try.prog 29 #[.slice p n cap, .int .i64 x] w fun e w' => e = .returned (.tuple #[.int .i64 (atV q x), .int .i64 0]) ∧ Below w.heap.size w w' := by
  have HA := Lib.hid hp
  have HN := Lib.hid hn
  have HQ := Lib.hid hq
  have HX := Lib.hid hx
  have HC : Hid (cdV q true = 0) := Lib.hid (by simp [cdV, hq.ok])
  obtain ⟨y, hy⟩ : ∃ y, y = atV q x := ⟨_, rfl⟩
  rw [← hy]
  have HY := Lib.hid hy.symm
  clear hp hn hq hx hy
  go_enter Try.func29, Try.ntmps29
  go_wp2_with fail
  refine (cIsPlace_c x _).mono ?_
  rintro e w' ⟨rfl, rfl⟩
  rw [HX.out]
  go_wp2_with fail
  refine (cCode_c p n cap q HQ.out.i16 HN.out hm true _ HA.out).mono ?_
  rintro e w1 ⟨rfl, hb⟩
  rw [HC.out]
  have HA1 := Lib.hid (CvS_below hb HA.out)
  have HB := Lib.hid hb
  clear hb HA
  go_wp2_with fail
  refine (cImplAt_c p n cap q HQ.out.good HN.out x _ HA1.out).mono ?_
  rintro e w2 ⟨rfl, hb⟩
  rw [HY.out]
  have HB2 := Lib.hid (bt HB.out hb)
  clear hb
  go_wp2
  go_ret2
  exact ⟨rfl, HB2.out⟩
theorem cBlack_c (p : Option Addr) (n cap : Nat) (q : Cv) (hq : Pap q) (hn : n = q.length) (hm : n ≤ 1048576) (d : Int) (h0 : 0 ≤ d) (h1 : d ≤ 400) (w : World) (hp : CvS w p q) :
    Calls Try.prog 30 #[.slice p n cap, .int .i64 d] w fun e w' => e = .returned (.tuple #[.int .i64 (cnvV q d (atV q 36)), .int .i64 (cnvC q d (atV q 36))]) ∧ Below w.heap.size w w' := by
  have HA := Lib.hid hp
  have HN := Lib.hid hn
  have HQ := Lib.hid hq
  have HX : Hid (ydB d = true) := Lib.hid ((ydB_iff d).2 ⟨h0, h1⟩)
  have HCC : Hid (cdV q true = 0) := Lib.hid (by simp [cdV, hq.ok])
  obtain ⟨y, hy⟩ : ∃ y, y = atV q 36 := ⟨_, rfl⟩
  rw [← hy]
  have HY := Lib.hid hy.symm
  have HT := Lib.hid (thB_lst q d y)
  have HV : Hid (cnvV q d y = if lstV q d y ≤ 36 then (lstV q d y : Int) else 0) := Lib.hid rfl
  have HC : Hid (cnvC q d y = if lstV q d y ≤ 36 then 0 else 6) := Lib.hid rfl
  obtain ⟨V, hV⟩ : ∃ V, V = cnvV q d y := ⟨_, rfl⟩
  obtain ⟨C, hC⟩ : ∃ C, C = cnvC q d y := ⟨_, rfl⟩
  rw [← hV, ← hC]
  rw [← hV] at HV
  rw [← hC] at HC
  obtain ⟨k, hk⟩ : ∃ k, k = lstV q d y := ⟨_, rfl⟩
  rw [← hk] at HT HV HC
  have HK := Lib.hid hk.symm
  have HD := Lib.hid (And.intro h0 h1)
  clear hp hn hq hy hV hC hk h0 h1
  cases h36 : decide (k ≤ 36)
  all_goals
    rw [h36] at HT
    have H36 := Lib.hid h36
    clear h36
    go_enter Try.func30, Try.ntmps30
    go_wp2_with fail
    refine (cIsDensity_c d _).mono ?_
    rintro e w' ⟨rfl, rfl⟩
    rw [HX.out]
    go_wp2_with fail
    refine (cCode_c p n cap q HQ.out.i16 HN.out hm true _ HA.out).mono ?_
    rintro e w1 ⟨rfl, hb⟩
    rw [HCC.out]
    have HA1 := Lib.hid (CvS_below hb HA.out)
    have HB := Lib.hid hb
    clear hb HA
    go_wp2_with fail
    refine (cImplAt_c p n cap q HQ.out.good HN.out 36 _ HA1.out).mono ?_
    rintro e w2 ⟨rfl, hb⟩
    rw [HY.out]
    have HA2 := Lib.hid (CvS_below hb HA1.out)
    have HB2 := Lib.hid (bt HB.out hb)
    clear hb HA1 HB
    go_wp2_with fail
    refine (cLeastLight_c p n cap q HQ.out.good HN.out d y HD.out.1 HD.out.2 _ HA2.out).mono ?_
    rintro e w3 ⟨rfl, hb⟩
    rw [HK.out]
    have HB3 := Lib.hid (bt HB2.out hb)
    clear hb HA2 HB2
    go_wp2_with fail
    refine (cAreThirds_c k _).mono ?_
    rintro e w' ⟨rfl, rfl⟩
    rw [HT.out]
    go_wp2
    go_ret2
    exact ⟨by rw [HV.out, HC.out]; have := H36.out; simp at this; simp [this] <;> omega, HB3.out⟩
theorem cSpecBlack_c (p : Option Addr) (n cap : Nat) (q : Cv) (hq : Pap q) (hn : n = q.length) (hm : n ≤ 1048576) (d : Int) (h0 : 0 ≤ d) (h1 : d ≤ 400) (w : World) (hp : CvS w p q) :
    Calls Try.prog 31 #[.slice p n cap, .int .i64 d] w fun e w' => e = .returned (.tuple #[.int .i64 (cnvV q d (atV q 36)), .int .i64 (cnvC q d (atV q 36))]) ∧ Below w.heap.size w w' := by
  have HA := Lib.hid hp
  have HN := Lib.hid hn
  have HQ := Lib.hid hq
  have HX : Hid (ydB d = true) := Lib.hid ((ydB_iff d).2 ⟨h0, h1⟩)
  obtain ⟨y, hy⟩ : ∃ y, y = atV q 36 := ⟨_, rfl⟩
  rw [← hy]
  have HY := Lib.hid hy.symm
  obtain ⟨s, hs⟩ : ∃ s, s = lstS q d y := ⟨_, rfl⟩
  have HS := Lib.hid hs.symm
  have HV : Hid (¬ s < 0 → cnvV q d y = s ∧ cnvC q d y = 0) := Lib.hid (fun h => by
    rw [hs, lstS_neg, Classical.not_not] at h
    rw [hs, lstS, cnvV, cnvC, if_pos h, if_pos h]; exact ⟨rfl, by rw [if_pos h]⟩)
  have HC : Hid (s < 0 → cnvV q d y = 0 ∧ cnvC q d y = 6) := Lib.hid (fun h => by
    rw [hs, lstS_neg] at h
    rw [cnvV, cnvC, if_neg h, if_neg h]; exact ⟨rfl, rfl⟩)
  obtain ⟨V, hV⟩ : ∃ V, V = cnvV q d y := ⟨_, rfl⟩
  obtain ⟨C, hC⟩ : ∃ C, C = cnvC q d y := ⟨_, rfl⟩
  rw [← hV, ← hC]
  rw [← hV, ← hC] at HV HC
  have HD := Lib.hid (And.intro h0 h1)
  clear hp hn hq hy hs hV hC h0 h1
  cases h36 : decide (s < 0)
  all_goals
    have H36 := Lib.hid h36
    go_enter Try.func31, Try.ntmps31
    go_wp2_with fail
    refine (cOk_c p n cap q HQ.out.i16 HN.out hm _ HA.out).mono ?_
    rintro e w1 ⟨rfl, hb⟩
    rw [HQ.out.ok]
    have HA1 := Lib.hid (CvS_below hb HA.out)
    have HB := Lib.hid hb
    clear hb HA
    go_wp2_with fail
    refine (cDensity_c d _).mono ?_
    rintro e w' ⟨rfl, rfl⟩
    rw [HX.out]
    go_wp2_with fail
    refine (cAt_c p n cap q HQ.out.good HN.out 36 _ HA1.out).mono ?_
    rintro e w3 ⟨rfl, hb⟩
    rw [HY.out]
    have HA2 := Lib.hid (CvS_below hb HA1.out)
    have HB3 := Lib.hid (bt HB.out hb)
    clear hb HA1 HB
    go_wp2_with fail
    refine (cLeast_c p n cap q HQ.out.good HN.out d y HD.out.1 HD.out.2 _ HA2.out).mono ?_
    rintro e w4 ⟨rfl, hb⟩
    rw [HS.out]
    have HB4 := Lib.hid (bt HB3.out hb)
    clear hb HA2 HB3
    go_wp2
    go_ret2
  · exact ⟨by obtain ⟨e1, e2⟩ := HV.out (by have := of_decide_eq_false H36.out; omega); rw [e1, e2] <;> rfl, HB4.out⟩
  · exact ⟨by obtain ⟨e1, e2⟩ := HC.out (by have := of_decide_eq_true H36.out; omega); rw [e1, e2] <;> rfl, HB4.out⟩
def tabL (q q2 : Cv) (n : Nat) : List Int := (List.range n).map fun k : Nat => lstS q2 0 (atV q k)
theorem tabL_len (q q2 : Cv) (n : Nat) : (tabL q q2 n).length = n := by simp [tabL]
theorem tabL_get (q q2 : Cv) (n i : Nat) (h : i < n) : (tabL q q2 n).getD i 0 = lstS q2 0 (atV q i) := by simp [tabL, List.getD_eq_getElem?_getD, h]
theorem tabL_succ (q q2 : Cv) (n : Nat) : tabL q q2 (n + 1) = tabL q q2 n ++ [lstS q2 0 (atV q n)] := by simp [tabL, List.range_succ]
set_option maxHeartbeats 1000000 in
theorem cTable_c (p : Option Addr) (n cap : Nat) (q : Cv) (hq : Pap q) (hn : n = q.length) (hm : n ≤ 1048576) (p2 : Option Addr) (n2 cap2 : Nat) (q2 : Cv) (hq2 : Pap q2) (hn2 : n2 = q2.length) (hm2 : n2 ≤ 1048576) (w : World) (hp : CvS w p q) (hp2 : CvS w p2 q2) :
    Calls Try.prog 27 #[.slice p n cap, .slice p2 n2 cap2] w fun e w' => ∃ v, e = .returned (.tuple #[v, .int .i64 0]) ∧ Row w' w.heap.size 2 .i64 v (tabL q q2 37) ∧ Below w.heap.size w w' := by
  have HA := Lib.hid hp
  have HN := Lib.hid hn
  have HQ := Lib.hid hq
  have HA2 := Lib.hid hp2
  have HN2 := Lib.hid hn2
  have HQ2 := Lib.hid hq2
  obtain ⟨T, hT⟩ : ∃ T, T = tabL q q2 := ⟨_, rfl⟩
  have HT0 : Hid (T 0 = []) := Lib.hid (by rw [hT]; rfl)
  have HTs : Hid (∀ k, T (k + 1) = T k ++ [lstS q2 0 (atV q k)]) := Lib.hid (fun k => by rw [hT]; exact tabL_succ q q2 k)
  have HTl : Hid (∀ k, (T k).length = k) := Lib.hid (fun k => by rw [hT]; exact tabL_len q q2 k)
  rw [← hT]
  clear hp hn hq hp2 hn2 hq2 hT
  go_enter Try.func27, Try.ntmps27
  go_wp2_with fail
  refine (cPrintCode_c p n cap q HQ.out HN.out hm p2 n2 cap2 q2 HQ2.out HN2.out hm2 _ HA.out HA2.out).mono ?_
  rintro e w1 ⟨rfl, hb⟩
  have HB := Lib.hid hb
  have z1 : w.heap.size ≤ w1.heap.size := hb.size
  clear hb
  have HR1 := Lib.hid (show Row (w1.alloc (.cells #[] 2)) w.heap.size 2 .i64 (.slice (some ⟨w1.heap.size, 0, none⟩) 0 0) [] from World.ownsRow_made w1 #[] 0 z1 (Nat.zero_le _) (by simp))
  have HB1 := Lib.hid (bt HB.out (bl1 w1 (.cells #[] 2)))
  clear HB z1
  go_wp2_with fail
  generalize w1.alloc (.cells #[] 2) = w2 at *
  go_loopw [7, 8, 9] (fun v i _ wr => ∃ k : Nat, k ≤ 37 ∧ i = .int .i64 k ∧ Row wr w.heap.size 2 .i64 v (T k) ∧ Below w.heap.size w wr) (fun _ i _ _ => 37 - (intOf i).toNat)
  case atStart => exact ⟨0, by omega, rfl, by rw [HT0.out]; exact HR1.out, HB1.out⟩
  case round =>
    clear HR1 HB1
    obtain ⟨k, hk, rfl, hR, hW⟩ := hrel
    have HR := Lib.hid hR
    have HW := Lib.hid hW
    clear hR hW
    by_cases hlt : k ≤ 36
    · have HKL := Lib.hid hlt
      obtain ⟨y, hy⟩ : ∃ y, y = atV q k := ⟨_, rfl⟩
      have HY := Lib.hid hy.symm
      have hkw : IntKind.i64.wrap ((k : Int) + 1) = (k : Int) + 1 := Go.IntWalk.i64_in _ (by omega)
      have HL8 : Hid ((T k).length ≤ 17592186000000) := Lib.hid (by rw [HTl.out]; omega)
      have HTh : Hid (thB (k : Nat) = true) := Lib.hid (by simp [thB]; omega)
      obtain ⟨m, hm0⟩ : ∃ m, m = lstV q2 0 y := ⟨_, rfl⟩
      have HM := Lib.hid hm0.symm
      have HTm : Hid (thB (m : Nat) = decide (m ≤ 36)) := Lib.hid (by rw [hm0]; exact thB_lst q2 0 y)
      have HTn : Hid (T (k + 1) = T k ++ [if m ≤ 36 then (m : Int) else -1]) := Lib.hid (by rw [HTs.out, ← hy, hm0]; rfl)
      have HE0 : Hid (decide (m ≤ 36) = true → T (k + 1) = T k ++ [(m : Int)]) := Lib.hid (fun h => by rw [HTn.out, if_pos (of_decide_eq_true h)])
      have HE1 : Hid (decide (m ≤ 36) = false → T (k + 1) = T k ++ [-1]) := Lib.hid (fun h => by rw [HTn.out, if_neg (of_decide_eq_false h)])
      clear hy hm0 hlt HTn hk
      cases h36 : decide (m ≤ 36)
      all_goals
        rw [h36] at HTm
        have HF := Lib.hid h36
        clear h36
        go_wp2_with fail
        refine (cAreThirds_c k _).mono ?_
        rintro e w' ⟨rfl, rfl⟩
        rw [HTh.out]
        go_wp2_with fail
        refine (cImplAt_c p n cap q HQ.out.good HN.out k _ (CvS_below HW.out HA.out)).mono ?_
        rintro e w3 ⟨rfl, hb⟩
        rw [HY.out]
        have HR1 := Lib.hid (row_below HR.out hb)
        have HW1 := Lib.hid (bt HW.out hb)
        clear hb HR HW
        go_wp2_with fail
        refine (cLeastLight_c p2 n2 cap2 q2 HQ2.out.good HN2.out 0 y (by omega) (by omega) _ (CvS_below HW1.out HA2.out)).mono ?_
        rintro e w4 ⟨rfl, hb⟩
        rw [HM.out]
        have HR2 := Lib.hid (row_below HR1.out hb)
        have HW2 := Lib.hid (bt HW1.out hb)
        clear hb HR1 HW1
        go_wp2_with fail
        refine (cAreThirds_c m _).mono ?_
        rintro e w' ⟨rfl, rfl⟩
        rw [HTm.out]
      · go_wp2_with (at_builtin; refine wpList_app rfl (.tmp 29) (.tmp 31) 30 rfl w.heap.size 2 .i64 8 Try.underlying30 info_i64o (by decide) _ _ rfl (row_alloc HR2.out _) _ 1 (-1) rfl (by simp) HL8.out (by have := HW2.out.size; simp at this ⊢; omega) ?_; intro v1 w6 hrow hgr hbk; have HRn := Lib.hid hrow; have HWn := Lib.hid (below_app (HW2.out.alloc HW2.out.size _) hgr (Nat.le_refl _) hbk); clear hrow hgr hbk)
        go_roundw
        case rel => exact ⟨k + 1, by have := HKL.out; omega, by go_num, by rw [HE1.out HF.out]; exact HRn.out, HWn.out⟩
        case measure => have := HKL.out; simp [intOf]; omega
      · go_wp2_with (at_builtin; refine wpList_app rfl (.tmp 29) (.tmp 31) 30 rfl w.heap.size 2 .i64 8 Try.underlying30 info_i64o (by decide) _ _ rfl (row_alloc HR2.out _) _ 1 (m : Int) rfl (by simp) HL8.out (by have := HW2.out.size; simp at this ⊢; omega) ?_; intro v1 w6 hrow hgr hbk; have HRn := Lib.hid hrow; have HWn := Lib.hid (below_app (HW2.out.alloc HW2.out.size _) hgr (Nat.le_refl _) hbk); clear hrow hgr hbk)
        go_roundw
        case rel => exact ⟨k + 1, by have := HKL.out; omega, by go_num, by rw [HE0.out HF.out]; exact HRn.out, HWn.out⟩
        case measure => have := HKL.out; simp [intOf]; omega
    · have HTh : Hid (thB (k : Nat) = false) := Lib.hid (by simp [thB]; omega)
      have HK37 : Hid (k = 37) := Lib.hid (by omega)
      clear hlt hk
      go_wp2_with fail
      refine (cAreThirds_c k _).mono ?_
      rintro e w' ⟨rfl, rfl⟩
      rw [HTh.out]
      go_wp2
      go_ret2
      exact ⟨_, rfl, by rw [← HK37.out]; exact HR.out, HW.out⟩
set_option maxHeartbeats 1000000 in
theorem cSpecTable_c (p : Option Addr) (n cap : Nat) (q : Cv) (hq : Pap q) (hn : n = q.length) (hm : n ≤ 1048576) (p2 : Option Addr) (n2 cap2 : Nat) (q2 : Cv) (hq2 : Pap q2) (hn2 : n2 = q2.length) (hm2 : n2 ≤ 1048576) (w : World) (hp : CvS w p q) (hp2 : CvS w p2 q2) :
    Calls Try.prog 28 #[.slice p n cap, .slice p2 n2 cap2] w fun e w' => ∃ v, e = .returned (.tuple #[v, .int .i64 0]) ∧ Row w' w.heap.size 2 .i64 v (tabL q q2 37) ∧ Below w.heap.size w w' := by
  have HA := Lib.hid hp
  have HN := Lib.hid hn
  have HQ := Lib.hid hq
  have HA2 := Lib.hid hp2
  have HN2 := Lib.hid hn2
  have HQ2 := Lib.hid hq2
  obtain ⟨T, hT⟩ : ∃ T, T = tabL q q2 := ⟨_, rfl⟩
  have HT0 : Hid (T 0 = []) := Lib.hid (by rw [hT]; rfl)
  have HTs : Hid (∀ k, T (k + 1) = T k ++ [lstS q2 0 (atV q k)]) := Lib.hid (fun k => by rw [hT]; exact tabL_succ q q2 k)
  have HTl : Hid (∀ k, (T k).length = k) := Lib.hid (fun k => by rw [hT]; exact tabL_len q q2 k)
  rw [← hT]
  clear hp hn hq hp2 hn2 hq2 hT
  go_enter Try.func28, Try.ntmps28
  go_wp2_with fail
  refine (cOk_c p n cap q HQ.out.i16 HN.out hm _ HA.out).mono ?_
  rintro e w0 ⟨rfl, hb⟩
  rw [HQ.out.ok]
  have HB0 := Lib.hid hb
  clear hb
  go_wp2_with fail
  refine (cOk_c p2 n2 cap2 q2 HQ2.out.i16 HN2.out hm2 _ (CvS_below HB0.out HA2.out)).mono ?_
  rintro e w1 ⟨rfl, hb⟩
  rw [HQ2.out.ok]
  have HB := Lib.hid (bt HB0.out hb)
  have z1 : w.heap.size ≤ w1.heap.size := HB.out.size
  clear hb HB0
  have HR1 := Lib.hid (show Row (w1.alloc (.cells #[] 2)) w.heap.size 2 .i64 (.slice (some ⟨w1.heap.size, 0, none⟩) 0 0) [] from World.ownsRow_made w1 #[] 0 z1 (Nat.zero_le _) (by simp))
  have HB1 := Lib.hid (bt HB.out (bl1 w1 (.cells #[] 2)))
  clear HB z1
  go_wp2_with fail
  generalize w1.alloc (.cells #[] 2) = w2 at *
  go_loopw [6, 7] (fun v i wr => ∃ k : Nat, k ≤ 37 ∧ i = .int .i64 k ∧ Row wr w.heap.size 2 .i64 v (T k) ∧ Below w.heap.size w wr) (fun _ i _ => 37 - (intOf i).toNat)
  case atStart => exact ⟨0, by omega, rfl, by rw [HT0.out]; exact HR1.out, HB1.out⟩
  case round =>
    clear HR1 HB1
    obtain ⟨k, hk, rfl, hR, hW⟩ := hrel
    have HR := Lib.hid hR
    have HW := Lib.hid hW
    clear hR hW
    by_cases hlt : k ≤ 36
    · have HKL := Lib.hid hlt
      obtain ⟨y, hy⟩ : ∃ y, y = atV q k := ⟨_, rfl⟩
      have HY := Lib.hid hy.symm
      have hkw : IntKind.i64.wrap ((k : Int) + 1) = (k : Int) + 1 := Go.IntWalk.i64_in _ (by omega)
      have HL8 : Hid ((T k).length ≤ 17592186000000) := Lib.hid (by rw [HTl.out]; omega)
      obtain ⟨s, hs⟩ : ∃ s, s = lstS q2 0 y := ⟨_, rfl⟩
      have HS := Lib.hid hs.symm
      have HTn : Hid (T (k + 1) = T k ++ [s]) := Lib.hid (by rw [HTs.out, ← hy, hs])
      have hd : decide ((k : Int) ≤ 36) = true := by simp; omega
      clear hy hs hlt hk
      go_wp2_with fail
      refine (cAt_c p n cap q HQ.out.good HN.out k _ (CvS_below HW.out HA.out)).mono ?_
      rintro e w3 ⟨rfl, hb⟩
      rw [HY.out]
      have HR1 := Lib.hid (row_below HR.out hb)
      have HW1 := Lib.hid (bt HW.out hb)
      clear hb HR HW
      go_wp2_with fail
      refine (cLeast_c p2 n2 cap2 q2 HQ2.out.good HN2.out 0 y (by omega) (by omega) _ (CvS_below HW1.out HA2.out)).mono ?_
      rintro e w4 ⟨rfl, hb⟩
      rw [HS.out]
      have HR2 := Lib.hid (row_below HR1.out hb)
      have HW2 := Lib.hid (bt HW1.out hb)
      clear hb HR1 HW1
      go_wp2_with (at_builtin; refine wpList_app rfl (.tmp 22) (.tmp 28) 30 rfl w.heap.size 2 .i64 8 Try.underlying30 info_i64o (by decide) _ _ rfl (row_alloc HR2.out _) _ 1 s rfl (by simp) HL8.out (by have := HW2.out.size; simp at this ⊢; omega) ?_; intro v1 w6 hrow hgr hbk; have HRn := Lib.hid hrow; have HWn := Lib.hid (below_app (HW2.out.alloc HW2.out.size _) hgr (Nat.le_refl _) hbk); clear hrow hgr hbk)
      go_roundw
      case rel => exact ⟨k + 1, by have := HKL.out; omega, by go_num, by rw [HTn.out]; exact HRn.out, HWn.out⟩
      case measure => have := HKL.out; simp [intOf]; omega
    · have hd : decide ((k : Int) ≤ 36) = false := by simp; omega
      have HK37 : Hid (k = 37) := Lib.hid (by omega)
      clear hlt hk
      go_wp2
      go_ret2
      exact ⟨_, rfl, by rw [← HK37.out]; exact HR.out, HW.out⟩
end Go.Proofs.Ytcdndjimfmpifaa
