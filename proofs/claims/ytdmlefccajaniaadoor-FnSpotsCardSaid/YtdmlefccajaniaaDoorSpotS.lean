/- SpotsOf: the walks and the law. -/
import Derived.Test.YtdmlefccajaniaaDoorSpotQ
import Derived.Test.YtdmlefccajaniaaDoorSpotW
import Derived.Test.YtdmlefccajaniaaDoorLstUint64S
namespace Go.Proofs.YtdmlefccajaniaaDoor
open Go.RowKit Go.Lib
theorem info_u64 : (Tryd.prog.info? 24).map (fun i => (i.zero, i.size, i.bytes)) = some (some (.int .u64 0), 1, 8) := by kernel_rfl
theorem low_int (L : Nat) (hL : L < 2 ^ 64) (h0 : L ≠ 0) : bits .and .u64 (L : Int) (IntKind.u64.wrap (-(L : Int))) = ((2 ^ ctz 64 L : Nat) : Int) := by
  obtain ⟨hlow, _⟩ := Lib.lowest_bit 64 L h0 hL
  have e1 : IntKind.u64.wrap (-(L : Int)) = ((18446744073709551616 - L : Nat) : Int) := by rw [IntKind.wrap_u64]; omega
  rw [e1, bits_and_u64_nat L _ hL (by omega), ← hlow]
theorem nx_int (M S : Nat) (hM : M < 2 ^ 64) : bits .and .u64 ((gr S : Nat) : Int) (M : Int) = ((nx M S : Nat) : Int) := and64 _ _ (gr_lt S) hM
set_option maxHeartbeats 4000000 in
theorem implSpotsOf_c (m : Nat) (hm : m < 2 ^ 64) (w : World) (hT : TabAt w) :
    Calls Tryd.prog 11 #[.int .u64 m] w fun e w' => ∃ v, e = .returned v ∧ Row w' w.heap.size 24 .u64 v (spI m) ∧ Below w.heap.size w w' := by
  have hz := TabAt_pos hT
  have HT := Lib.hid hT
  have HM := Lib.hid hm
  clear hT hm
  go_enter Tryd.func11, Tryd.ntmps11
  go_wp2
  go_loopw [3, 4] (fun v a wr => ∃ (L : Nat) (xs : List Int), a = .int .u64 L ∧ L < 2 ^ 64 ∧ sub L m ∧ clo m L ∧ Row wr w.heap.size 24 .u64 v xs ∧ xs ++ spI L = spI m ∧ Below w.heap.size w wr) (fun _ a _ => (intOf a).toNat)
  case atStart => exact ⟨m, [], rfl, HM.out, sub_refl _, fun _ _ _ _ h _ => h, row_new _ _ _ _ (Nat.le_refl _), rfl, bl1 _ _⟩
  case round =>
    obtain ⟨L, xs, rfl, hL, hs, hc, hR, hx, hW⟩ := hrel
    have HL := Lib.hid hL
    have HS := Lib.hid hs
    have HC := Lib.hid hc
    have HR := Lib.hid hR
    have HX := Lib.hid hx
    have HW := Lib.hid hW
    clear hL hs hc hR hx hW
    by_cases h0 : L = 0
    · have HX2 : Hid (xs = spI m) := Lib.hid (by have := HX.out; rw [h0, spI, spL_zero] at this; simpa using this)
      subst h0
      go_wp2
      go_ret
      exact ⟨_, rfl, by rw [← HX2.out]; exact HR.out, HW.out⟩
    · have hne : ((L : Int) != 0) = true := by simp; omega
      have HH0 := Lib.hid h0
      have HLo := Lib.hid (low_int L HL.out h0)
      have HSp := Lib.hid (low_sub h0 HL.out)
      have hlen : xs.length ≤ 64 := by
        have h1 := congrArg List.length HX.out
        have h2 := spI_le m HM.out
        rw [List.length_append] at h1
        omega
      clear h0
      obtain ⟨wo, rfl⟩ : ∃ wo : World, wo = wr := ⟨_, rfl⟩
      generalize hs0 : 2 ^ ctz 64 L = s0 at *
      have HS0 := Lib.hid hs0
      clear hs0
      go_upto_region 5 with fail
      rw [HLo.out]
      go_wp2_with fail
      refine (implGrowMask_c s0 HSp.out.2 _ (TabAt_below HW.out hz HT.out)).mono ?_
      rintro e w1 ⟨rfl, hb1⟩
      have HW1 := Lib.hid (bt HW.out hb1)
      have HR1 := Lib.hid (row_below HR.out hb1)
      have HN1 := Lib.hid (nx_int m s0 HM.out)
      clear hb1 HR HW
      go_wp2
      rw [HN1.out]
      go_loopw [5, 6] (fun s t wr => ∃ n S : Nat, S = itN L s0 n ∧ n ≤ cnt S ∧ s = .int .u64 S ∧ t = .int .u64 (nx m S : Nat) ∧ Row wr w.heap.size 24 .u64 (u3) xs ∧ Below w.heap.size w wr) (fun s _ _ => 64 - cnt (intOf s).toNat)
      case atStart => exact ⟨0, s0, rfl, Nat.zero_le _, rfl, rfl, HR1.out, HW1.out⟩
      case round =>
        obtain ⟨n, S, hSe, hn, rfl, rfl, hR, hW⟩ := hrel
        have HSe := Lib.hid hSe
        have HR := Lib.hid hR
        have HW := Lib.hid hW
        have HS64 : Hid (S < 2 ^ 64) := Lib.hid (by rw [hSe]; exact itN_lt HSp.out.2 n)
        have HSL : Hid (sub S L) := Lib.hid (by rw [hSe]; exact itN_sub HSp.out.1 n)
        have HNx : Hid (nx m S = nx L S) := Lib.hid (nx_clo HS64.out HS.out HC.out HSL.out)
        have hn64 : n ≤ 64 := Nat.le_trans hn (cnt_le S)
        have HCn := Lib.hid hn
        clear hSe hR hW hn
        by_cases hfix : nx m S = S
        · have HF : Hid (S = spot L) := Lib.hid (by
            have h1 : nx L (itN L s0 n) = itN L s0 n := by rw [← HSe.out, ← HNx.out]; exact hfix
            have h2 := fl_of h1 hn64
            rw [HSe.out, h2, spot, HS0.out])
          have hb : (((nx m S : Nat) : Int) != (S : Int)) = false := by rw [hfix]; simp
          have HD := Lib.hid (clo_diff HM.out HS.out HC.out HS64.out HSL.out (by rw [← HNx.out]; exact hfix))
          have HDi : Hid (bits .andNot .u64 (L : Int) (S : Int) = ((dif64 L S : Nat) : Int)) := Lib.hid (andNot_int L S HL.out HS64.out)
          have HDl : Hid (dif64 L S < L) := Lib.hid (by rw [HF.out]; exact dif_lt HH0.out HL.out)
          have HX2 : Hid ((xs ++ [(S : Int)]) ++ spI (dif64 L S) = spI m) := Lib.hid (by
            have h1 := spI_cons HH0.out HL.out
            rw [← HF.out] at h1
            rw [List.append_assoc, ← h1, HX.out])
          clear hfix
          generalize nx m S = T at *
          go_wp2_with (at_builtin; refine wpList_app rfl (.tmp 27) (.tmp 29) 29 rfl w.heap.size 24 .u64 8 Tryd.underlying29 info_u64 (by decide) _ _ rfl (row_alloc HR.out _) wr.heap.size 1 (S : Int) rfl (by simp) (by omega) (by simp; have := HW.out.size; omega) ?_; intro v1 w2 hrow hgr hbk; have HW3 := Lib.hid (below_app (HW.out.alloc HW.out.size _) hgr (Nat.le_refl _) hbk); have HR3 := Lib.hid hrow; clear hrow hgr hbk)
          go_roundw
          case rel => exact ⟨dif64 L S, _, by rw [HDi.out], dif64_lt L S HL.out, HD.out.2, HD.out.1, HR3.out, HX2.out, HW3.out⟩
          case measure => simp only [intOf]; rw [HDi.out]; have := HDl.out; omega
        · have hb : (((nx m S : Nat) : Int) != (S : Int)) = true := by simp; omega
          have HCt : Hid (cnt S < cnt (nx m S)) := Lib.hid (cnt_lt HS64.out (nx_lt _ _) (by rw [HNx.out]; exact sub_nx HS64.out HSL.out) (fun e => hfix e.symm))
          have HT2 : Hid (nx m S = itN L s0 (n + 1)) := Lib.hid (by rw [HNx.out, HSe.out]; rfl)
          have hTl : nx m S < 2 ^ 64 := nx_lt _ _
          have HTl := Lib.hid hTl
          clear hfix hTl
          generalize nx m S = T at *
          go_wp2_with fail
          refine (implGrowMask_c T HTl.out _ (TabAt_below HW.out hz HT.out)).mono ?_
          rintro e w2 ⟨rfl, hb2⟩
          have HW2 := Lib.hid (bt HW.out hb2)
          have HR2 := Lib.hid (row_below HR.out hb2)
          have HN2 := Lib.hid (nx_int m T HM.out)
          clear hb2 HR HW
          go_wp2
          go_roundw
          case rel => exact ⟨n + 1, T, HT2.out, by have := HCt.out; have := HCn.out; omega, rfl, by rw [HN2.out], HR2.out, HW2.out⟩
          case measure => simp only [intOf, Int.toNat_natCast]; have := HCt.out; have := cnt_le T; omega
set_option maxHeartbeats 4000000 in
theorem specSpots_c (m : Nat) (hm : m < 2 ^ 64) (w : World) :
    Calls Tryd.prog 46 #[.int .u64 m] w fun e w' => ∃ v, e = .returned v ∧ Row w' w.heap.size 24 .u64 v (spI m) ∧ Below w.heap.size w w' := by
  have HM := Lib.hid hm
  clear hm
  go_enter Tryd.func46, Tryd.ntmps46
  go_wp2
  go_loopw [0, 3, 4] (fun a v i wr => ∃ (k M : Nat) (xs : List Int), k ≤ 64 ∧ i = .int .i64 k ∧ a = .int .u64 M ∧ M < 2 ^ 64 ∧ (∀ j, j < k → M.testBit j = false) ∧ Row wr w.heap.size 24 .u64 v xs ∧ xs ++ spI M = spI m ∧ Below w.heap.size w wr) (fun _ _ i _ => 64 - (intOf i).toNat)
  case atStart => exact ⟨0, m, [], by omega, rfl, rfl, HM.out, fun j hj => absurd hj (by omega), row_new _ _ _ _ (Nat.le_refl _), rfl, bl1 _ _⟩
  case round =>
    obtain ⟨k, M, xs, hk, rfl, rfl, hL, hlow, hR, hx, hW⟩ := hrel
    have HL := Lib.hid hL
    have HLow := Lib.hid hlow
    have HR := Lib.hid hR
    have HX := Lib.hid hx
    have HW := Lib.hid hW
    clear hL hlow hR hx hW
    by_cases hlt : k < 64
    · have hkd : decide ((k : Int) < 64) = true := by simp; omega
      have HA : Hid (bits .and .u64 (M : Int) (IntKind.u64.wrap ((2 : Int) ^ k)) = ((if M.testBit k then 2 ^ k else 0 : Nat) : Int)) := Lib.hid (by
        have h1 := and64 M (2 ^ k) HL.out (Nat.pow_lt_pow_right (by omega) hlt)
        have h2 := and_pow M k
        rw [pow64 k hlt, ← h2, ← h1]; simp)
      cases hb : M.testBit k
      · have HA2 : Hid (bits .and .u64 (M : Int) (IntKind.u64.wrap ((2 : Int) ^ k)) = 0) := Lib.hid (by rw [HA.out, hb]; rfl)
        have HLow2 : Hid (∀ j, j < k + 1 → M.testBit j = false) := Lib.hid fun j hj => by
          by_cases e : j = k
          · subst e; exact hb
          · exact HLow.out j (by omega)
        clear hb
        go_upto_region 6 with fail
        rw [HA2.out]
        go_wp2
        go_roundw
        case rel => exact ⟨k + 1, M, xs, by omega, by go_num, rfl, HL.out, HLow2.out, HR.out, HX.out, HW.out⟩
        case measure => simp [intOf]; omega
      · have HB := Lib.hid hb
        have h0 : M ≠ 0 := by rintro rfl; simp at hb
        have HH0 := Lib.hid h0
        have HCz : Hid (ctz 64 M = k) := Lib.hid (by
          obtain ⟨q, hq, _⟩ := ctz_low h0 HL.out
          obtain ⟨a1, a2, _⟩ := low_bits hq
          rcases Nat.lt_trichotomy (ctz 64 M) k with h | h | h
          · rw [HLow.out _ h] at a1; cases a1
          · exact h
          · rw [a2 _ h] at hb; cases hb)
        have HSp := Lib.hid (low_sub h0 HL.out)
        have hp0 : (2 : Nat) ^ k ≠ 0 := by have := Nat.two_pow_pos k; omega
        have HA2 : Hid (bits .and .u64 (M : Int) (IntKind.u64.wrap ((2 : Int) ^ k)) = ((2 ^ k : Nat) : Int)) := Lib.hid (by rw [HA.out, hb]; rfl)
        have hlen : xs.length ≤ 64 := by
          have h1 := congrArg List.length HX.out
          have h2 := spI_le m HM.out
          rw [List.length_append] at h1
          omega
        clear hb h0
        obtain ⟨wo, rfl⟩ : ∃ wo : World, wo = wr := ⟨_, rfl⟩
        go_upto_region 6 with fail
        rw [HA2.out]
        have HS0 : Hid (2 ^ ctz 64 M = 2 ^ k) := Lib.hid (by rw [HCz.out])
        have HSp2 : Hid (sub (2 ^ k) M ∧ 2 ^ k < 2 ^ 64) := Lib.hid (by rw [← HS0.out]; exact HSp.out)
        generalize hs0 : 2 ^ k = s0 at *
        have hp1 : ((s0 : Int) == 0) = false := by simp; omega
        clear hs0
        go_wp2
        go_loop [5] (fun s => ∃ n S : Nat, S = itN M s0 n ∧ n ≤ cnt S ∧ s = .int .u64 S) (fun s => 64 - cnt (intOf s).toNat)
        case atStart => exact ⟨0, s0, rfl, Nat.zero_le _, rfl⟩
        case round =>
          obtain ⟨n, S, hSe, hn, rfl⟩ := hrel
          have HSe := Lib.hid hSe
          have HS64 : Hid (S < 2 ^ 64) := Lib.hid (by rw [hSe]; exact itN_lt HSp2.out.2 n)
          have HSL : Hid (sub S M) := Lib.hid (by rw [hSe]; exact itN_sub HSp2.out.1 n)
          have hn64 : n ≤ 64 := Nat.le_trans hn (cnt_le S)
          have HCn := Lib.hid hn
          have HN1 := Lib.hid (nx_int M S HL.out)
          clear hSe hn
          by_cases hfix : nx M S = S
          · have HF : Hid (S = spot M) := Lib.hid (by
              have h1 : nx M (itN M s0 n) = itN M s0 n := by rw [← HSe.out]; exact hfix
              have h2 := fl_of h1 hn64
              rw [HSe.out, h2, spot, HS0.out])
            have hb : (((nx M S : Nat) : Int) != (S : Int)) = false := by rw [hfix]; simp
            have HDi : Hid (bits .andNot .u64 (M : Int) (S : Int) = ((dif64 M S : Nat) : Int)) := Lib.hid (andNot_int M S HL.out HS64.out)
            have HLow2 : Hid (∀ j, j < k + 1 → (dif64 M S).testBit j = false) := Lib.hid fun j hj => by
              have t : (dif64 M S).testBit j = (M.testBit j && !S.testBit j) := (isM_andNot (isM_self M HL.out) (isM_self S HS64.out)).2 j (by omega)
              rw [t]
              by_cases e : j = k
              · have := (spot_facts HH0.out HL.out).2.2.2
                rw [← HF.out, HCz.out] at this
                rw [e, this]; simp
              · rw [HLow.out j (by omega)]; rfl
            have HX2 : Hid ((xs ++ [(S : Int)]) ++ spI (dif64 M S) = spI m) := Lib.hid (by
              have h1 := spI_cons HH0.out HL.out
              rw [← HF.out] at h1
              rw [List.append_assoc, ← h1, HX.out])
            clear hfix
            generalize nx M S = T at *
            have hN1 := HN1.out
            go_upto_region 9 with (go_at_call 50; refine (specGrow_c S HS64.out _).mono ?_; rintro e w' ⟨rfl, rfl⟩)
            clear hN1
            go_wp2_with (at_builtin; refine wpList_app rfl (.tmp 28) (.tmp 30) 29 rfl w.heap.size 24 .u64 8 Tryd.underlying29 info_u64 (by decide) _ _ rfl (row_alloc HR.out _) wo.heap.size 1 (S : Int) rfl (by simp) (by omega) (by simp; have := HW.out.size; omega) ?_; intro v1 w2 hrow hgr hbk; have HW3 := Lib.hid (below_app (HW.out.alloc HW.out.size _) hgr (Nat.le_refl _) hbk); have HR3 := Lib.hid hrow; clear hrow hgr hbk)
            go_roundw
            case rel => exact ⟨k + 1, dif64 M S, _, by omega, by go_num, by rw [HDi.out], dif64_lt M S HL.out, HLow2.out, HR3.out, HX2.out, HW3.out⟩
            case measure => simp [intOf]; omega
          · have hb : (((nx M S : Nat) : Int) != (S : Int)) = true := by simp; omega
            have HCt : Hid (cnt S < cnt (nx M S)) := Lib.hid (cnt_lt HS64.out (nx_lt _ _) (sub_nx HS64.out HSL.out) (fun e => hfix e.symm))
            have HT2 : Hid (nx M S = itN M s0 (n + 1)) := Lib.hid (by rw [HSe.out]; rfl)
            clear hfix
            generalize nx M S = T at *
            have hN1 := HN1.out
            go_wp2_with (go_at_call 50; refine (specGrow_c S HS64.out _).mono ?_; rintro e w' ⟨rfl, rfl⟩)
            go_round
            case rel => exact ⟨n + 1, T, HT2.out, by have := HCt.out; have := HCn.out; omega, rfl⟩
            case measure => simp only [intOf, Int.toNat_natCast]; have := HCt.out; have := cnt_le T; omega
    · have hk64 : k = 64 := by omega
      subst hk64
      have HM0 : Hid (M = 0) := Lib.hid (by
        apply Nat.eq_of_testBit_eq
        intro j
        rw [Nat.zero_testBit]
        by_cases hj : j < 64
        · exact HLow.out j hj
        · exact Nat.testBit_lt_two_pow (Nat.lt_of_lt_of_le HL.out (Nat.pow_le_pow_right (by omega) (by omega))))
      have HX2 : Hid (xs = spI m) := Lib.hid (by have := HX.out; rw [HM0.out, spI, spL_zero] at this; simpa using this)
      go_wp2
      go_ret
      exact ⟨_, rfl, by rw [← HX2.out]; exact HR.out, HW.out⟩
theorem specSpotsOf_c (m : Nat) (hm : m < 2 ^ 64) (w : World) :
    Calls Tryd.prog 12 #[.int .u64 m] w fun e w' => ∃ v, e = .returned v ∧ Row w' w.heap.size 24 .u64 v (spI m) ∧ Below w.heap.size w w' := by
  go_enter Tryd.func12, Tryd.ntmps12
  go_wp2_with fail
  refine (specSpots_c m hm _).mono ?_
  rintro e w1 ⟨v, rfl, hR, hb1⟩
  have HR := Lib.hid hR
  have HB := Lib.hid hb1
  clear hR hb1
  go_wp2
  go_ret
  exact ⟨_, rfl, HR.out, HB.out⟩
end Go.Proofs.YtdmlefccajaniaaDoor
