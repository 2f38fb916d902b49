/- OrderGrades: the reference. -/
import Derived.Test.YtcdndjimfmpifaaOrdW
namespace Go.Proofs.Ytcdndjimfmpifaa
open Go.RowKit Go.Lib
set_option maxHeartbeats 1000000 in
set_option maxRecDepth 10000 in
theorem gOrder_c (p : Option Addr) (n cap : Nat) (cs : List Cv) (h16 : G16 cs) (hn : n = cs.length) (hm : n ≤ 1048576) (l d : Int) (w : World) (hp : GrS w p cs) :
    Calls Try.prog 11 #[.slice p n cap, .int .i64 l, .int .i64 d] w fun e w' => ∃ v, e = .returned (.tuple #[v, .int .i64 (ogV cs l d).2]) ∧ Row w' w.heap.size 2 .i64 v (ogV cs l d).1 ∧ Below w.heap.size w w' := by
  have HN := Lib.hid hn
  have H16 := Lib.hid h16
  have HA := Lib.hid hp
  obtain ⟨V, hV⟩ : ∃ V, V = ogV cs l d := ⟨_, rfl⟩
  rw [← hV]
  have HV := Lib.hid hV
  obtain ⟨F, hF⟩ : ∃ F, F = endB l d := ⟨_, rfl⟩
  have HF := Lib.hid hF.symm
  obtain ⟨C, hC⟩ : ∃ C, C = gcV cs F := ⟨_, rfl⟩
  have HC := Lib.hid hC.symm
  clear hn h16 hp hV hF hC
  by_cases h0 : C = 0
  · subst h0
    have HV2 : Hid (V = if okN cs l d n then (ordL cs l d n, 0) else ([], 6)) := Lib.hid (by rw [HV.out, ogV, if_pos (by rw [HF.out]; exact HC.out), HN.out])
    have hgok : gOk cs = true ∧ F = true ∧ cs.length ≤ 6 := by
      have h := HC.out
      unfold gcV at h
      cases h1 : gOk cs
      · simp [h1] at h
      · cases h2 : F
        · simp [h1, h2] at h
        · simp [h1, h2] at h; exact ⟨rfl, rfl, by omega⟩
    obtain ⟨hok, hft, hn6⟩ := hgok
    have hdd : ydB l = true ∧ ydB d = true := by
      have := HF.out
      rw [hft, endB] at this
      simp only [Bool.and_eq_true] at this
      exact this.1
    have HOK := Lib.hid hok
    have HDD := Lib.hid hdd
    have n6 : n ≤ 6 := by rw [HN.out]; exact hn6
    clear hok hft hn6 hdd
    go_enter Try.func11, Try.ntmps11
    go_wp2_with (go_at_call 41; refine (cEnds_c l d _).mono ?_; rintro e w' ⟨rfl, rfl⟩; rw [HF.out])
    refine (gGrades_c p n cap cs H16.out HN.out hm F _ HA.out).mono ?_
    rintro e V1 ⟨rfl, hb1⟩
    rw [HC.out]
    have HB1 := Lib.hid hb1
    clear hb1
    have HR9 := Lib.hid (row_alloc (row_new V1 2 .i64 V1.heap.size (Nat.le_refl _)) (.cells #[] 2))
    have HR10 := Lib.hid (row_new (V1.alloc (.cells #[] 2)) 2 .i64 V1.heap.size (by simp))
    have hsz : (V1.alloc (.cells #[] 2)).heap.size = V1.heap.size + 1 := by simp
    rw [hsz] at HR10
    go_wp2_with fail
    go_loopw [9, 10, 11] (fun v9 v10 i wr => ∃ k : Nat, k ≤ n ∧ i = .int .i64 k ∧ okN cs l d k = true ∧ Row wr V1.heap.size 2 .i64 v9 (scL cs l d k) ∧ Row wr V1.heap.size 2 .i64 v10 (ordL cs l d k) ∧ (∀ j, v9.ownBlock = some j → v10.ownBlock ≠ some j) ∧ Below V1.heap.size V1 wr) (fun _ _ i _ => n - (intOf i).toNat)
    case atStart => exact ⟨0, Nat.zero_le _, rfl, rfl, HR9.out, HR10.out, fun j h => by simp [Value.ownBlock] at h ⊢; omega, bl2 _ _ _⟩
    case round =>
      clear HR9 HR10 hsz
      obtain ⟨k, hk, rfl, hok, hR9, hR10, hsep, hW⟩ := hrel
      have HKO := Lib.hid hok
      have HR9 := Lib.hid hR9
      have HR10 := Lib.hid hR10
      have HSP := Lib.hid hsep
      have HW := Lib.hid hW
      have HWw := Lib.hid (bt HB1.out hW)
      clear hok hR9 hR10 hsep hW
      by_cases hlt : k < n
      · have hki : (k : Int) < n := by omega
        have hkl : k < cs.length := by rw [← HN.out]; exact hlt
        obtain ⟨bb, o, rfl, hb, hc⟩ := GrS_below HWw.out HA.out (gne_of_lt hkl)
        obtain ⟨r, m, cap2, hcell, hmn, hmm, hcv⟩ := hc k hkl
        have HM := Lib.hid hmn
        have HCV := Lib.hid hcv
        have HCB := Lib.hid (gOk_get HOK.out hkl)
        obtain ⟨SC, hSC⟩ : ∃ SC, SC = sclN (cs.getD k []) l d := ⟨_, rfl⟩
        have HSC := Lib.hid hSC.symm
        have hsb := scl_bd (cs.getD k []) l d
        rw [← hSC] at hsb
        obtain ⟨p9, c9, hv9⟩ := rk_any HR9.out
        obtain ⟨p10, c10, hv10⟩ := rk_any HR10.out
        subst hv9 hv10
        rw [scL_len, ordL_len]
        have HR9a : Hid (Row wr V1.heap.size 2 .i64 (.slice p9 k c9) (scL cs l d k)) := Lib.hid (by have := HR9.out; rwa [scL_len] at this)
        have HR10a : Hid (Row wr V1.heap.size 2 .i64 (.slice p10 k c10) (ordL cs l d k)) := Lib.hid (by have := HR10.out; rwa [ordL_len] at this)
        have HSPa : Hid (∀ j, (Value.slice p9 k c9).ownBlock = some j → (Value.slice p10 k c10).ownBlock ≠ some j) := Lib.hid (by have := HSP.out; rwa [scL_len, ordL_len] at this)
        clear hc hmn hcv hkl hSC HR9 HR10 HSP
        cases hsB : sclB (cs.getD k []) l d
        · have HSB := Lib.hid hsB
          have HE : Hid (V = ([], 6)) := Lib.hid (by rw [HV2.out, okN_bad (k := k) hsB hlt]; rfl)
          clear hsB
          go_wp2_with fail
          refine (cL05Scale_c r m cap2 _ (H16.out k) HCB.out HM.out hmm l d HDD.out.2 _ HCV.out).mono ?_
          rintro e w1 ⟨rfl, hb1⟩
          rw [HSB.out]
          have HB2 := Lib.hid (bt HWw.out hb1)
          have HRN := Lib.hid (row_new w1 2 .i64 w.heap.size HB2.out.size)
          go_wp2
          go_ret2
          exact ⟨_, by rw [HE.out] <;> rfl, by rw [HE.out]; exact HRN.out, HB2.out.alloc HB2.out.size _⟩
        · have HSB := Lib.hid hsB
          have HKN : Hid (okN cs l d (k + 1) = true) := Lib.hid (by rw [okN_succ, HKO.out, Bool.true_and]; unfold okF; exact hsB)
          clear hsB
          have HL8 : Hid ((scL cs l d k).length ≤ 17592186000000) := Lib.hid (by rw [scL_len]; omega)
          have HL9 : Hid ((ordL cs l d k).length ≤ 17592186000000) := Lib.hid (by rw [ordL_len]; omega)
          go_wp2_with fail
          refine (cL05Scale_c r m cap2 _ (H16.out k) HCB.out HM.out hmm l d HDD.out.2 _ HCV.out).mono ?_
          rintro e w1 ⟨rfl, hb1⟩
          rw [HSB.out, HSC.out]
          have HR9b := Lib.hid (row_below HR9a.out hb1)
          have HR10b := Lib.hid (row_below HR10a.out hb1)
          have HW1 := Lib.hid (HW.out.trans (hb1.mono HW.out.size))
          have hsz1 : V1.heap.size ≤ w1.heap.size := HW1.out.size
          clear hb1 HR9a HR10a HW HCV HWw
          go_upto_region 13 with (at_builtin; refine wpList_appAt rfl (.tmp 45) (.tmp 47) 30 rfl V1.heap.size 2 .i64 8 Try.underlying30 info_i64o (by decide) _ (scL cs l d k) rfl (row_alloc HR9b.out _) w1.heap.size 1 SC rfl (by simp) HL8.out (by simp; omega) ?_; intro v9 w6 hrow hgr hbk hat; have HR9n := Lib.hid hrow; have HR10n := Lib.hid (rk_grown (u := .slice p9 k c9) (row_alloc HR10b.out (.cells #[.int .i64 SC] 2)) hgr (fun j h1 h2 => HSPa.out j h2 h1)); have HAT := Lib.hid hat; have HWn := Lib.hid ((HW1.out.alloc hsz1 (.cells #[.int .i64 SC] 2)).grown hgr (by simp; omega) hbk); have HGR := Lib.hid hgr; clear hrow hgr hbk hat)
          have hsz6 : V1.heap.size ≤ w6.heap.size := HWn.out.size
          have HSP2 : Hid (∀ j, v9.ownBlock = some j → (Value.slice p10 k c10).ownBlock ≠ some j) := Lib.hid (fun j h1 h2 => by
            have h3 := (row_own HR10b.out h2).2
            rcases HAT.out with h4 | h4
            · exact HSPa.out j (h4 ▸ h1) h2
            · rw [h1] at h4
              simp at h4
              omega)
          have hse : scF cs l d k = SC := by
            unfold scF
            rw [Int.toNat_natCast]
            exact HSC.out
          have HRs : Hid (Row w6 V1.heap.size 2 .i64 v9 (scL cs l d (k + 1))) := Lib.hid (by rw [scL_succ, hse]; exact HR9n.out)
          clear hse
          clear HR9b HR10b HW1 HAT HR9n HGR HSPa
          go_upto_region 15 with (at_builtin; refine wpList_appAt rfl (.tmp 51) (.tmp 53) 30 rfl V1.heap.size 2 .i64 8 Try.underlying30 info_i64o (by decide) _ (ordL cs l d k) rfl (row_alloc HR10n.out _) w6.heap.size 1 (k : Int) rfl (by simp) HL9.out (by simp; omega) ?_; intro v10 w7 hrow hgr hbk hat; have HR10m := Lib.hid hrow; have HR9m := Lib.hid (rk_grown (u := .slice p10 k c10) (row_alloc HRs.out (.cells #[.int .i64 (k : Int)] 2)) hgr (fun j h1 h2 => HSP2.out j h1 h2)); have HAT := Lib.hid hat; have HWm := Lib.hid ((HWn.out.alloc hsz6 (.cells #[.int .i64 (k : Int)] 2)).grown hgr (by simp; omega) hbk); clear hrow hgr hbk hat)
          have HSP3 : Hid (∀ j, v9.ownBlock = some j → v10.ownBlock ≠ some j) := Lib.hid (fun j h1 h2 => by
            have h3 := (row_own HRs.out h1).2
            rcases HAT.out with h4 | h4
            · exact HSP2.out j h1 (h4 ▸ h2)
            · rw [h2] at h4
              simp at h4
              omega)
          clear HR10n HRs HSP2 HAT HWn
          obtain ⟨S, hS⟩ : ∃ S, S = ordL cs l d k := ⟨_, rfl⟩
          have hSl : S.length = k := by rw [hS, ordL_len]
          have HSa : Hid (AscK (keyF cs l d) S) := Lib.hid (by rw [hS]; exact ordL_asc cs l d k)
          have HSm : Hid (∀ z ∈ S, 0 ≤ z ∧ z < k) := Lib.hid (fun z hz => by rw [hS] at hz; exact ordL_mem hz)
          have HEnd : Hid (ordL cs l d (k + 1) = insK (keyF cs l d) k S) := Lib.hid (by rw [ordL_succ, ← hS])
          have hsk : scF cs l d k = SC := by
            unfold scF
            rw [Int.toNat_natCast]
            exact HSC.out
          have HKX : Hid (keyF cs l d k = -SC) := Lib.hid (by unfold keyF; rw [hsk])
          clear hsk
          have HSl := Lib.hid hSl
          obtain ⟨g, cap, hvg, hg1, hg2, hcap, hcm, _⟩ := row_shape HR10m.out (by simp)
          obtain ⟨g9, cap9, hv9, hg91, hg92, _, _, _⟩ := row_shape HR9m.out (by simp [scL])
          have hlen : (ordL cs l d k ++ [(k : Int)]).length = k + 1 := by rw [List.length_append, ordL_len]; rfl
          rw [hlen] at hvg
          rw [scL_len] at hv9
          subst hvg hv9
          have HRm : Hid (Row w7 V1.heap.size 2 .i64 (.slice (some ⟨g, 0, none⟩) (k + 1) cap) (stK S k k [])) := Lib.hid (by have := HR10m.out; rw [← hS] at this; rw [show stK S k (k : Int) [] = S ++ [(k : Int)] from by have := stK_last S (k : Int) []; rw [hSl] at this; exact this]; exact this)
          have HGG : Hid (g9 ≠ g) := Lib.hid (fun e => HSP3.out g9 rfl (by rw [e]; rfl))
          have HG1 := Lib.hid hg1
          have HSCb := Lib.hid hsb
          clear hlen HR10m hg1 hg2 hcap hcm hg91 hg92 HSP3 hSl hS hsb
          go_loopw [14] (fun s14 wr => ∃ (j : Nat) (y : Int), j ≤ k ∧ s14 = .int .i64 j ∧ (∀ z ∈ S.drop j, keyF cs l d k < keyF cs l d z) ∧ Row wr V1.heap.size 2 .i64 (.slice (some ⟨g, 0, none⟩) (k + 1) cap) (stK S j y []) ∧ Row wr V1.heap.size 2 .i64 (.slice (some ⟨g9, 0, none⟩) (k + 1) cap9) (scL cs l d (k + 1)) ∧ Below V1.heap.size V1 wr) (fun j _ => (intOf j).toNat)
          case atStart => exact ⟨k, k, Nat.le_refl _, rfl, by rw [List.drop_of_length_le (by rw [HSl.out]; exact Nat.le_refl _)]; exact fun z hz => absurd hz (by simp), HRm.out, HR9m.out, HWm.out⟩
          case round =>
            clear HRm HR9m HWm
            obtain ⟨j, y, hj, rfl, hbd, hR, hR9, hW⟩ := hrel
            have HB := Lib.hid hbd
            have HR := Lib.hid hR
            have HR9 := Lib.hid hR9
            have HW := Lib.hid hW
            clear hbd hR hR9 hW
            have HLen : Hid ((stK S j y []).length = k + 1) := Lib.hid (by rw [stK_length _ _ _ _ (by rw [HSl.out]; exact hj), HSl.out]; rfl)
            have hfj := rk_frz HR.out j
            have hcj := rk_cell HR.out j (by rw [HLen.out]; omega)
            rw [stK_at _ _ _ _ (by rw [HSl.out]; exact hj)] at hcj
            have hji : (j : Int) < (k : Int) + 1 := by omega
            by_cases hj0 : j = 0
            · subst hj0
              have HOut : Hid (stK S 0 k [] = insK (keyF cs l d) k S) := Lib.hid (by rw [stK_end (keyF cs l d) k S 0 [] HSa.out (Nat.zero_le _) HB.out (Or.inl rfl), List.append_nil])
              have HSet : Hid ((stK S 0 y []).set 0 k = stK S 0 k []) := Lib.hid (stK_set _ _ _ _ _ (Nat.zero_le _))
              go_wp2
              go_roundw
              case rel => exact ⟨k + 1, by omega, by go_num, HKN.out, rk_other HR9.out (by simp [Value.ownBlock]; exact HGG.out) _, by rw [HEnd.out, ← HOut.out, ← HSet.out]; exact rk_set HR.out _ _, fun j h1 h2 => HGG.out (by simp [Value.ownBlock] at h1 h2; omega), HW.out.setCell (p := ⟨g, _, none⟩) HG1.out _⟩
              case measure => simp [intOf]; omega
            · obtain ⟨m', hjm⟩ : ∃ m, j = m + 1 := ⟨j - 1, by omega⟩
              obtain ⟨z, hz⟩ : ∃ z, z = S.getD m' 0 := ⟨_, rfl⟩
              have hcp : wr.cell? ⟨g, m', none⟩ = some (.int .i64 z) := by
                have := rk_cell HR.out m' (by rw [HLen.out]; omega)
                rwa [hjm, stK_pred _ _ _ _ (by rw [HSl.out]; omega), ← hz] at this
              have hzm := HSm.out z (by rw [hz, List.getD_eq_getElem?_getD, List.getElem?_eq_getElem (by rw [HSl.out]; omega)]; exact List.getElem_mem _)
              obtain ⟨zn, rfl⟩ := Int.eq_ofNat_of_zero_le hzm.1
              obtain ⟨sz, hsz⟩ : ∃ sz, sz = scF cs l d zn := ⟨_, rfl⟩
              have hcs : wr.cell? ⟨g9, zn, none⟩ = some (.int .i64 sz) := by
                have := rk_cell HR9.out zn (by rw [scL_len]; omega)
                rwa [scL_get _ _ _ _ _ (by omega), ← hsz] at this
              have hzi : (zn : Int) < (k : Int) + 1 := by omega
              have HKZ : Hid (keyF cs l d zn = -sz) := Lib.hid (by unfold keyF; rw [hsz])
              have HZe := Lib.hid hz
              have HJM := Lib.hid hjm
              have hmi : (m' : Int) < (k : Int) + 1 := by omega
              have hj0' : decide (0 < j) = true := by simp; omega
              have e1 : (j : Int) - 1 = (m' : Int) := by omega
              have hwm : IntKind.i64.wrap (m' : Int) = m' := Go.IntWalk.i64_in _ (by omega)
              clear hz hjm hj0 hsz hzm
              by_cases hxz : sz < SC
              · have HNx : Hid (∀ u ∈ S.drop m', keyF cs l d k < keyF cs l d u) := Lib.hid (dropK_lt (keyF cs l d) (by rw [HSl.out]; have := HJM.out; omega) (by have := HB.out; rwa [HJM.out] at this) (by rw [← HZe.out, HKX.out, HKZ.out]; omega))
                have HSh : Hid ((stK S j y []).set j zn = stK S m' zn []) := Lib.hid (by rw [HJM.out, stK_set _ _ _ _ _ (by rw [HSl.out]; have := HJM.out; omega), HZe.out]; exact stK_shift S m' [] (by rw [HSl.out]; have := HJM.out; omega))
                go_wp2
                go_roundw
                case rel => exact ⟨m', zn, by omega, by go_num, HNx.out, by rw [← HSh.out]; exact rk_set HR.out _ _, rk_other HR9.out (by simp [Value.ownBlock]; exact HGG.out) _, HW.out.setCell (p := ⟨g, _, none⟩) HG1.out _⟩
                case measure => simp [intOf]; omega
              · have HOut : Hid (stK S j k [] = insK (keyF cs l d) k S) := Lib.hid (by rw [stK_end (keyF cs l d) k S j [] HSa.out (by rw [HSl.out]; exact hj) HB.out (Or.inr (by rw [HJM.out, Nat.add_sub_cancel, ← HZe.out, HKX.out, HKZ.out]; omega)), List.append_nil])
                have HSet : Hid ((stK S j y []).set j k = stK S j k []) := Lib.hid (stK_set _ _ _ _ _ (by rw [HSl.out]; exact hj))
                go_wp2
                go_roundw
                case rel => exact ⟨k + 1, by omega, by go_num, HKN.out, rk_other HR9.out (by simp [Value.ownBlock]; exact HGG.out) _, by rw [HEnd.out, ← HOut.out, ← HSet.out]; exact rk_set HR.out _ _, fun j h1 h2 => HGG.out (by simp [Value.ownBlock] at h1 h2; omega), HW.out.setCell (p := ⟨g, _, none⟩) HG1.out _⟩
                case measure => simp [intOf]; omega
      · have hki : ¬ (k : Int) < n := by omega
        have hkn : n = k := by omega
        have HE : Hid (V = (ordL cs l d n, 0)) := Lib.hid (by rw [HV2.out, hkn, HKO.out]; rfl)
        have hr10 := HR10.out
        rw [← hkn] at hr10
        have HRF := Lib.hid hr10
        clear hr10
        clear hkn
        go_wp2
        go_ret2
        exact ⟨_, by rw [HE.out] <;> rfl, by rw [HE.out]; exact rk_mono HRF.out HB1.out.size, HWw.out⟩
  · have HE : Hid (V = ([], C)) := Lib.hid (by rw [HV.out, ogV, HF.out, HC.out, if_neg h0])
    have hne : (C != 0) = true := by rw [bne_iff_ne]; exact h0
    clear h0
    go_enter Try.func11, Try.ntmps11
    go_wp2_with (go_at_call 41; refine (cEnds_c l d _).mono ?_; rintro e w' ⟨rfl, rfl⟩; rw [HF.out])
    refine (gGrades_c p n cap cs H16.out HN.out hm F _ HA.out).mono ?_
    rintro e w1 ⟨rfl, hb1⟩
    rw [HC.out]
    have HRN := Lib.hid (row_new w1 2 .i64 w.heap.size hb1.size)
    have HB1 := Lib.hid (hb1.alloc hb1.size (.cells #[] 2))
    clear hb1
    go_wp2
    go_ret2
    exact ⟨_, by rw [HE.out] <;> rfl, by rw [HE.out]; exact HRN.out, HB1.out⟩
end Go.Proofs.Ytcdndjimfmpifaa
