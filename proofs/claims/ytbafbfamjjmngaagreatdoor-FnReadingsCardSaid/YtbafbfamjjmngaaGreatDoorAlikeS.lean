/- Alike fields: the reference. -/
import Derived.Test.YtbafbfamjjmngaaGreatDoorAlikeB
import Derived.Test.YtbafbfamjjmngaaGreatDoorRowAt
import Derived.Test.YtbafbfamjjmngaaGreatDoorScene
import Derived.Test.YtbafbfamjjmngaaGreatDoorInts
import Derived.Test.YtbafbfamjjmngaaGreatDoorBits
import Derived.StillTailTactics
namespace Go.Proofs.YtbafbfamjjmngaaGreatDoor
open Go.RowKit Go.Lib
theorem l01Size_c (n : Int) (h : -1000 ≤ n ∧ n ≤ 1000) (w : World) :
    Calls Tryz.prog 48 #[.int .i64 n] w fun e w' => e = .returned (.int .i64 (if n < 0 then -n else n)) ∧ w = w' := by
  by_cases h0 : n < 0
  · go_enter Tryz.func48, Tryz.ntmps48
    go_wp2
    go_ret
    exact ⟨ret_int (by first | rfl | (split <;> omega)), rfl⟩
  · go_enter Tryz.func48, Tryz.ntmps48
    go_wp2
    go_ret
    exact ⟨ret_int (by first | rfl | (split <;> omega)), rfl⟩
def natI (l : List Nat) : List Int := l.map fun (n : Nat) => (n : Int)
theorem natI_len (l : List Nat) : (natI l).length = l.length := by simp [natI]
theorem natI_get (l : List Nat) (k : Nat) (h : k < l.length) : (natI l).getD k 0 = ((l.getD k 0 : Nat) : Int) := by simp [natI, List.getD_eq_getElem?_getD, h]
theorem natI_app (l : List Nat) (c : Nat) : natI l ++ [(c : Int)] = natI (l ++ [c]) := by simp [natI]
theorem info_u32 : (Tryz.prog.info? 36).map (fun i => (i.zero, i.size, i.bytes)) = some (some (.int .u32 0), 1, 4) := by kernel_rfl
/-- A bit of a mask, as the reference asks for it. -/
theorem bit32 (M c : Nat) (_ : M < 2 ^ 24) : ((M : Int) / (2 : Int) ^ c).tmod 2 = if M.testBit c then 1 else 0 := by
  have e : (M : Int) / (2 : Int) ^ c = ((M / 2 ^ c : Nat) : Int) := by simp
  rw [e, Nat.testBit_eq_decide_div_mod_eq]
  generalize M / 2 ^ c = A
  rw [Int.tmod_eq_emod_of_nonneg (Int.natCast_nonneg A)]
  rcases Nat.mod_two_eq_zero_or_one A with h | h
  · rw [show (A : Int) % 2 = 0 by omega, h]; simp
  · rw [show (A : Int) % 2 = 1 by omega, h]; simp
theorem pow32 (c : Nat) (hc : c < 24) : (2 : Int) ^ c % 4294967296 = ((2 ^ c : Nat) : Int) := by
  have hp : 2 ^ c < 2 ^ 32 := Nat.pow_lt_pow_right (by omega) (by omega)
  have e : (2 : Int) ^ c = ((2 ^ c : Nat) : Int) := by simp
  have hp2 : 2 ^ c < 4294967296 := hp
  rw [e]
  exact Int.emod_eq_of_lt (Int.natCast_nonneg _) (Int.ofNat_lt.2 hp2)
theorem set32 (M c : Nat) (hM : M < 2 ^ 24) (hc : c < 24) : bits .or .u32 (M : Int) ((2 : Int) ^ c % 4294967296) = ((M ||| 2 ^ c : Nat) : Int) := by
  have hp : 2 ^ c < 2 ^ 32 := Nat.pow_lt_pow_right (by omega) (by omega)
  rw [pow32 c hc, or32 M (2 ^ c) (by omega) hp]
theorem beL_ne : ∀ i : Fin 24, 0 < (beL i.val).length := by decide +kernel
theorem cell_congr {w w' : World} {g : Nat} (h : w'.heap[g]? = w.heap[g]?) (j : Nat) : w'.cell? ⟨g, j, none⟩ = w.cell? ⟨g, j, none⟩ := by simp [World.cell?, h]
def PI (w : World) (q : Option Addr) (fs : List Int) : Prop := fs ≠ [] → ∃ b o, q = some ⟨b, o, none⟩ ∧ b < w.heap.size ∧ ∀ i, i < fs.length → w.cell? ⟨b, o + i, none⟩ = some (.int .i64 (fs.getD i 0))
theorem neI_of_lt {l : List Int} {k : Nat} (h : k < l.length) : l ≠ [] := by rintro rfl; simp at h
theorem row_PI {w : World} {base : Nat} {e : TypeId} {v : Value} {xs : List Int} (h : Row w base e .i64 v xs) : ∃ p cap, v = .slice p xs.length cap ∧ PI w p xs := by
  by_cases hne : xs = []
  · subst hne
    obtain ⟨_, h2⟩ := h
    rcases h2 with ⟨h2, _⟩ | ⟨g, cap, cur, hv, _⟩
    · exact ⟨none, 0, h2, fun h => absurd rfl h⟩
    · exact ⟨_, cap, hv, fun h => absurd rfl h⟩
  · obtain ⟨g, cap, hv, _, hg, _, _, hc⟩ := row_shape h hne
    exact ⟨_, cap, hv, fun _ => ⟨g, 0, rfl, hg, fun i hi => by rw [Nat.zero_add]; exact hc i hi⟩⟩
theorem QI.get {xs : List Int} {wi : Int} {i F k : Nat} {Q : List Nat} (h : QI xs wi i F Q k) (hk : k < Q.length) : Q.getD k 0 < 24 ∧ Rch xs wi i (Q.getD k 0) := by
  have hm : Q.getD k 0 ∈ Q := by rw [List.getD_eq_getElem?_getD, List.getElem?_eq_getElem hk]; simp
  exact h.rch _ hm
set_option maxHeartbeats 4000000 in
set_option maxRecDepth 100000 in
theorem specAlike_c (xs : List Int) (hs : Sc xs) (hok : okS xs = true) (wi : Int) (hwi : rdB wi = true) (w : World) :
    Calls Tryz.prog 20 #[.agg (arr .i8 xs), .int .i64 wi] w fun e w' => ∃ v, e = .returned (.tuple #[v, .int .i64 0]) ∧ Row w' (w.heap.size + 1) 36 .u32 v (alS xs wi 24).2 ∧ Below w.heap.size w w' := by
  have HS := Lib.hid hs
  have HOK := Lib.hid hok
  have HWI := Lib.hid hwi
  have HB0 := Lib.hid (al1_0 w (.cells (arr .i8 xs) 26))
  have HW0 := Lib.hid (bl1 w (.cells (arr .i8 xs) 26))
  have HSZ : Hid ((w.alloc (.cells (arr .i8 xs) 26)).heap.size = w.heap.size + 1) := Lib.hid (by simp)
  clear hs hok hwi
  go_enter Tryz.func20, Tryz.ntmps20
  go_upto_region 1 with fail
  generalize w.alloc (.cells (arr .i8 xs) 26) = w1 at *
  go_wp2_with (first
    | (go_at_call 36; refine (l06Ok_c xs HS.out _ _ _ HB0.out).mono ?_; rintro e w' ⟨rfl, rfl⟩; rw [HOK.out])
    | (go_at_call 46; refine (l06Reading_c wi _).mono ?_; rintro e w' ⟨rfl, rfl⟩; rw [HWI.out]))
  go_loopw [6, 7, 8] (fun m v i wr => ∃ k : Nat, k ≤ 24 ∧ i = .int .i64 k ∧ m = .int .u32 ((alS xs wi k).1 : Nat) ∧ Row wr w1.heap.size 36 .u32 v (alS xs wi k).2 ∧ Below w1.heap.size w1 wr) (fun _ _ i _ => 24 - (intOf i).toNat)
  case atStart => exact ⟨0, by omega, rfl, rfl, row_new w1 _ _ _ (Nat.le_refl _), bl1 _ _⟩
  case round =>
    obtain ⟨k, hk, rfl, rfl, hR, hW⟩ := hrel
    have HR := Lib.hid hR
    have HW := Lib.hid hW
    clear hR hW
    by_cases hlt : k < 24
    · have hkd : decide ((k : Int) < 24) = true := by simp; omega
      have hM := alS_lt xs wi k
      have HBt := Lib.hid (bit32 (alS xs wi k).1 k hM)
      generalize hme : (alS xs wi k).1 = M at *
      have HME := Lib.hid hme
      clear hme
      cases hb : M.testBit k
      · rw [hb] at HBt
        have hbt : ((M : Int) / (2 : Int) ^ k).tmod 2 = 0 := HBt.out
        have HS1 := Lib.hid (set32 M k hM hlt)
        have HS2 := Lib.hid (set32 0 k (by decide) hlt)
        have HQ0 := Lib.hid (QI.start xs wi k hlt)
        have HB := Lib.hid hb
        have HMlt := Lib.hid hM
        clear hb hM
        obtain ⟨wo, rfl⟩ : ∃ wo : World, wo = wr := ⟨_, rfl⟩
        go_upto_region 15 with fail
        go_loopw [6, 9, 10, 11] (fun s6 s9 s10 s11 w2 => ∃ (F : Nat) (Q : List Nat) (q : Nat), q ≤ Q.length ∧ s11 = .int .i64 q ∧ s6 = .int .u32 (M ||| F : Nat) ∧ s9 = .int .u32 F ∧ QI xs wi k F Q q ∧ Row w2 wo.heap.size 3 .i64 s10 (natI Q) ∧ Below wo.heap.size wo w2) (fun _ _ _ i _ => 24 - (intOf i).toNat)
        case atStart => exact ⟨2 ^ k, [k], 0, by simp, rfl, by rw [HS1.out], by rw [pow32 k hlt], HQ0.out, row_new1 wo _ _ _ (Nat.le_refl _) _, bl1 _ _⟩
        case round =>
          obtain ⟨F, Q, q, hq, rfl, rfl, rfl, hQI, hR2, hW2⟩ := hrel
          have HQI := Lib.hid hQI
          have HR2 := Lib.hid hR2
          have HW2 := Lib.hid hW2
          obtain ⟨pq, cq, rfl, hP⟩ := row_PI hR2
          have HP := Lib.hid hP
          have hQl := hQI.len
          rw [natI_len]
          obtain ⟨nq, hnq⟩ : ∃ nq, nq = Q.length := ⟨_, rfl⟩
          rw [← hnq] at hQl hq ⊢
          have HNQ := Lib.hid hnq
          clear hQI hR2 hW2 hP hnq
          by_cases hlq : q < nq
          · have hqn : q < Q.length := by have := HNQ.out; omega
            have hqd : decide ((q : Int) < nq) = true := by simp; omega
            obtain ⟨b, o, rfl, hbz, hat⟩ := HP.out (neI_of_lt (k := q) (by rw [natI_len]; exact hqn))
            have hx1 := hat q (by rw [natI_len]; exact hqn)
            rw [natI_get Q q hqn] at hx1
            obtain ⟨hx24, hxr⟩ := HQI.out.get hqn
            obtain ⟨x, hxe⟩ : ∃ x, Q.getD q 0 = x := ⟨_, rfl⟩
            rw [hxe] at hx1 hx24 hxr
            have HXE := Lib.hid hxe
            have HXR := Lib.hid hxr
            clear hat hxe hxr
            obtain ⟨w2, rfl⟩ : ∃ w2 : World, w2 = wr := ⟨_, rfl⟩
            go_wp2_with (go_at_call 47; refine (beside_c x hx24 _).mono ?_; rintro e w3 ⟨v12, rfl, hR3, hb3⟩; have HR3 := Lib.hid hR3; have HB3 := Lib.hid hb3; clear hR3 hb3)
            obtain ⟨gb, cb, rfl, hgb0, hgb1, _, _, hat12⟩ := row_shape HR3.out (neI_of_lt (k := 0) (beL_ne ⟨x, hx24⟩))
            have HTab := Lib.hid (beL_tab ⟨x, hx24⟩)
            have hb4 := HTab.out.1
            have HAT := Lib.hid hat12
            have HGB0 := Lib.hid hgb0
            have HGB1 := Lib.hid hgb1
            obtain ⟨nb, hnb⟩ : ∃ nb, nb = (beL x).length := ⟨_, rfl⟩
            simp only at hb4
            rw [← hnb] at hb4 ⊢
            have HNB := Lib.hid hnb
            clear hat12 hgb0 hgb1 hnb hx1
            go_loopw [6, 9, 10, 13] (fun s6 s9 s10 s13 w4 => ∃ (F : Nat) (Q : List Nat) (j : Nat), j ≤ nb ∧ s13 = .int .i64 j ∧ s6 = .int .u32 (M ||| F : Nat) ∧ s9 = .int .u32 F ∧ QI xs wi k F Q q ∧ q < Q.length ∧ Q.getD q 0 = x ∧ (∀ j', j' < j → ∀ c : Nat, (beL x).getD j' 0 = (c : Int) → alk xs wi x c = true → c ∈ Q) ∧ Row w4 wo.heap.size 3 .i64 s10 (natI Q) ∧ s10.ownBlock ≠ some gb ∧ w4.heap[gb]? = w3.heap[gb]? ∧ gb < w4.heap.size ∧ Below wo.heap.size wo w4) (fun _ _ _ i _ => 24 - (intOf i).toNat)
            case atStart =>
              exact ⟨F, Q, 0, by omega, rfl, rfl, rfl, HQI.out, by have := HNQ.out; omega, HXE.out, fun j' hj => absurd hj (by omega), by have := row_below HR2.out HB3.out; rw [natI_len, ← HNQ.out] at *; exact this, by have h1 := (row_own HR2.out (j := b) rfl).2; have h2 := HGB0.out; simp [Value.ownBlock]; omega, rfl, HGB1.out, HW2.out.trans (HB3.out.mono HW2.out.size)⟩
            case round =>
              clear HQI HR2 HW2 HP HNQ hlq hqn hqd HXE hq
              obtain ⟨F, Q, j, hj, rfl, rfl, rfl, hQI, hqn, hxe, hdn, hR4, hown, hgb, hgbl, hW4⟩ := hrel
              have HQI := Lib.hid hQI
              have HR4 := Lib.hid hR4
              have HW4 := Lib.hid hW4
              have HOWN := Lib.hid hown
              have HGB := Lib.hid hgb
              have HGBL := Lib.hid hgbl
              have HDN := Lib.hid hdn
              have HXE := Lib.hid hxe
              have HQN := Lib.hid hqn
              obtain ⟨pq, cq, rfl, hP⟩ := row_PI hR4
              obtain ⟨bq, oq, rfl, hbq, hatq⟩ := hP (neI_of_lt (k := q) (by rw [natI_len]; exact hqn))
              have hxq := hatq q (by rw [natI_len]; exact hqn)
              rw [natI_get Q q hqn, hxe] at hxq
              have hQl := hQI.len
              rw [natI_len]
              obtain ⟨nq, hnq⟩ : ∃ nq, nq = Q.length := ⟨_, rfl⟩
              rw [← hnq] at hQl hqn ⊢
              have HNQ := Lib.hid hnq
              clear hQI hR4 hW4 hown hgb hgbl hdn hxe hP hatq hnq
              by_cases hlj : j < nb
              · have hjn : j < (beL x).length := by have := HNB.out; omega
                have hjd : decide ((j : Int) < nb) = true := by simp; omega
                have hcr := HTab.out.2.1 j hjn
                simp only at hcr
                have hc1 : wr.cell? ⟨gb, j, none⟩ = some (.int .i64 ((beL x).getD j 0)) := (cell_congr HGB.out j).trans (HAT.out j hjn)
                obtain ⟨c, hce⟩ := Int.eq_ofNat_of_zero_le hcr.1
                rw [hce] at hc1 hcr
                have HCE := Lib.hid hce
                have hc24 : c < 24 := by omega
                have hbs := HTab.out.2.2 ⟨c, hc24⟩
                simp only at hbs
                have hmem : (c : Int) ∈ beL x := by rw [← hce, List.getD_eq_getElem?_getD, List.getElem?_eq_getElem hjn]; simp
                rw [decide_eq_true hmem] at hbs
                have HBs := Lib.hid hbs
                have hsc : wr.heap[w.heap.size]? = some (.cells (arr .i8 xs) 26 (0, 0)) := heap_below (HW.out.trans (HW4.out.mono HW.out.size)) (lt_of_heap HB0.out) HB0.out
                have hcc := arr_cell hsc c (by rw [HS.out.1]; exact hc24)
                have hcx := arr_cell hsc x (by rw [HS.out.1]; exact hx24)
                have hvc := okS_get HOK.out c
                have hvx := okS_get HOK.out x
                have HALK : Hid (alk xs wi x c = (decide (xs.getD c 0 - xs.getD x 0 ≤ wi) && decide (xs.getD x 0 - xs.getD c 0 ≤ wi))) := Lib.hid (by rw [alk, hbs]; rfl)
                clear hce hbs hmem hsc
                generalize xs.getD c 0 = yc at *
                generalize xs.getD x 0 = yx at *
                have hF := HQI.out.hF
                have hMF : M ||| F < 2 ^ 24 := Nat.or_lt_two_pow HMlt.out hF
                have HBt2 := Lib.hid (bit32 (M ||| F) c hMF)
                have HS3 := Lib.hid (set32 (M ||| F) c hMF hc24)
                have HS4 := Lib.hid (set32 F c hF hc24)
                have HSZ1 := Lib.hid (l01Size_c (yc - yx) (by omega))
                obtain ⟨w4, rfl⟩ : ∃ w4 : World, w4 = wr := ⟨_, rfl⟩
                generalize hsv : (if yc - yx < 0 then -(yc - yx) else yc - yx) = sv at *
                have hsvb : 0 ≤ sv ∧ sv ≤ 100 := by rw [← hsv]; split <;> omega
                have HSV : Hid (decide (sv > wi) = !alk xs wi x c) := Lib.hid (by
                  rw [HALK.out, Bool.eq_iff_iff]
                  simp only [decide_eq_true_eq, Bool.not_eq_true', Bool.and_eq_false_iff, decide_eq_false_iff_not]
                  rw [← hsv]; split <;> omega)
                clear hsv
                go_upto_region 21 with fail
                refine wp_region_still_tail 15 (by kernel_rfl) (by kernel_rfl) ?_
                simp only [List.take_succ_cons, List.take_zero, List.drop_succ_cons, List.drop_zero]
                have hx24i : (x : Int) < 24 := by omega
                repeat still_step
                refine wpStill_nil ?_
                change wpList _ _ _ _ _ w4.drew
                go_upto_region 22 with (go_at_call 48; refine (HSZ1.out _).mono ?_; rintro e w' ⟨rfl, rfl⟩)
                have HR4d : Hid (Row w4.drew wo.heap.size 3 .i64 (.slice (some ⟨bq, oq, none⟩) nq cq) (natI Q)) := Lib.hid (by have h := row_below HR4.out (bl_drew (Below.refl _ w4)); rw [natI_len, ← HNQ.out] at h; exact h)
                have HW4d := Lib.hid (bl_drew HW4.out)
                have HGBd : Hid (w4.drew.heap[gb]? = w3.heap[gb]?) := Lib.hid HGB.out
                have HGBLd : Hid (gb < w4.drew.heap.size) := Lib.hid HGBL.out
                cases hal : alk xs wi x c
                · have hgt : decide (sv > wi) = true := by rw [HSV.out, hal]; rfl
                  have HDN2 : Hid (∀ j', j' < j + 1 → ∀ c' : Nat, (beL x).getD j' 0 = (c' : Int) → alk xs wi x c' = true → c' ∈ Q) := Lib.hid (fun j' hj' c' hc' ha' => by
                    by_cases e : j' = j
                    · subst e
                      have : c' = c := by rw [HCE.out] at hc'; omega
                      rw [this, hal] at ha'; cases ha'
                    · exact HDN.out j' (by omega) c' hc' ha')
                  have hgt' : wi < sv := by simpa using hgt
                  clear hal
                  go_wp2
                  go_roundw
                  case rel => exact ⟨F, Q, j + 1, by omega, by go_num, rfl, rfl, HQI.out, HQN.out, HXE.out, HDN2.out, HR4d.out, HOWN.out, HGBd.out, HGBLd.out, HW4d.out⟩
                  case measure => simp [intOf]; omega
                · have hgt : ¬ (wi < sv) := by
                    have h1 : decide (sv > wi) = false := by rw [HSV.out, hal]; rfl
                    simpa using h1
                  have HAl := Lib.hid hal
                  have hMc : M.testBit c = false := by
                    have h1 : (alS xs wi k).1.testBit k = false := by rw [HME.out]; exact HB.out
                    have h2 := alS_apart hlt h1 (.step HXR.out hc24 hal)
                    rwa [HME.out] at h2
                  rw [Nat.testBit_or, hMc, Bool.false_or] at HBt2
                  clear hal hMc
                  cases hfb : F.testBit c
                  · rw [hfb] at HBt2
                    have hbt2 : (((M ||| F : Nat) : Int) / (2 : Int) ^ c).tmod 2 = 0 := HBt2.out
                    have HQ2 := Lib.hid (HQI.out.add HQN.out hc24 (by rw [HXE.out]; exact HAl.out) hfb)
                    have HDN2 : Hid (∀ j', j' < j + 1 → ∀ c' : Nat, (beL x).getD j' 0 = (c' : Int) → alk xs wi x c' = true → c' ∈ Q ++ [c]) := Lib.hid (fun j' hj' c' hc' ha' => by
                      by_cases e : j' = j
                      · subst e
                        have : c' = c := by rw [HCE.out] at hc'; omega
                        rw [this]; simp
                      · exact List.mem_append_left _ (HDN.out j' (by omega) c' hc' ha'))
                    have HX2 : Hid ((Q ++ [c]).getD q 0 = x) := Lib.hid (by rw [← HXE.out, List.getD_eq_getElem?_getD, List.getD_eq_getElem?_getD, List.getElem?_append_left HQN.out])
                    have HQL : Hid ((natI Q).length ≤ 24) := Lib.hid (by rw [natI_len]; exact HQI.out.len)
                    clear hfb
                    go_wp2_with (at_builtin; refine wpList_appAt rfl (.tmp 106) (.tmp 111) 73 rfl wo.heap.size 3 .i64 8 Tryz.underlying73 info_int (by decide) _ _ rfl (row_alloc HR4d.out _) _ 1 (c : Int) rfl (by simp) (Nat.le_trans HQL.out (by omega)) (by have := HW4d.out.size; simp at this ⊢; omega) ?_; intro v1 w6 hrow hgr hbk hat; have HRn := Lib.hid hrow; have HGr := Lib.hid hgr; have HBk := Lib.hid hbk; have HAtt := Lib.hid hat; clear hrow hgr hbk hat)
                    go_roundw
                    case rel => exact ⟨F ||| 2 ^ c, Q ++ [c], j + 1, by omega, by go_num, by rw [HS3.out, Nat.or_assoc], by rw [HS4.out], HQ2.out, by have := HQN.out; simp; omega, HX2.out, HDN2.out, by rw [← natI_app]; exact HRn.out,
                      by
                        rcases HAtt.out with h | h
                        · rw [h]; exact HOWN.out
                        · rw [h]; intro e; have h1 := HGBLd.out; simp at e h1; omega,
                      (HGr.out.block gb (by have h1 := HGBLd.out; simp at h1 ⊢; omega) (by intro e; exact HOWN.out e.symm)).trans ((heap_below (bl1 w4.drew _) HGBLd.out rfl).trans HGBd.out),
                      Nat.lt_of_lt_of_le (by have h1 := HGBLd.out; simp at h1 ⊢; omega) HGr.out.size,
                      below_app (HW4d.out.alloc HW4d.out.size _) HGr.out (Nat.le_refl _) HBk.out⟩
                    case measure => simp [intOf]; omega
                  · rw [hfb] at HBt2
                    have hbt2 : (((M ||| F : Nat) : Int) / (2 : Int) ^ c).tmod 2 = 1 := HBt2.out
                    have HDN2 : Hid (∀ j', j' < j + 1 → ∀ c' : Nat, (beL x).getD j' 0 = (c' : Int) → alk xs wi x c' = true → c' ∈ Q) := Lib.hid (fun j' hj' c' hc' ha' => by
                      by_cases e : j' = j
                      · subst e
                        have : c' = c := by rw [HCE.out] at hc'; omega
                        rw [this]; exact (HQI.out.mem c).1 hfb
                      · exact HDN.out j' (by omega) c' hc' ha')
                    clear hfb
                    go_wp2
                    go_roundw
                    case rel => exact ⟨F, Q, j + 1, by omega, by go_num, rfl, rfl, HQI.out, HQN.out, HXE.out, HDN2.out, HR4d.out, HOWN.out, HGBd.out, HGBLd.out, HW4d.out⟩
                    case measure => simp [intOf]; omega
              · have hjn : j = nb := by omega
                have HNX : Hid (QI xs wi k F Q (q + 1)) := Lib.hid (HQI.out.next (fun c hc ha => by
                  rw [HXE.out] at ha
                  have h1 : bes x c = true := by
                    simp only [alk, Bool.and_eq_true] at ha; exact ha.1
                  have h2 := HTab.out.2.2 ⟨c, hc⟩
                  simp only at h2
                  rw [h1] at h2
                  have h3 : (c : Int) ∈ beL x := of_decide_eq_true h2.symm
                  obtain ⟨j', hj', he⟩ := List.getElem_of_mem h3
                  exact HDN.out j' (by have := HNB.out; omega) c (by rw [List.getD_eq_getElem?_getD, List.getElem?_eq_getElem hj']; simpa using he) ha))
                have HR4e : Hid (Row wr wo.heap.size 3 .i64 (.slice (some ⟨bq, oq, none⟩) nq cq) (natI Q)) := Lib.hid (by have h := HR4.out; rw [natI_len, ← HNQ.out] at h; exact h)
                subst hjn
                go_wp2
                go_roundw
                case rel => exact ⟨F, Q, q + 1, HQN.out, by go_num, rfl, rfl, HNX.out, HR4e.out, HW4.out⟩
                case measure => simp [intOf]; omega
          · have hqn : q = nq := by omega
            have HF : Hid (F = fieldOf xs wi k) := Lib.hid (HQI.out.field (by have := HNQ.out; omega))
            have HAL : Hid (alS xs wi (k + 1) = (M ||| F, (alS xs wi k).2 ++ [(F : Int)])) := Lib.hid (by rw [alS, HME.out, HB.out, HF.out]; rfl)
            have HFl : Hid ((alS xs wi k).2.length ≤ 24) := Lib.hid (Nat.le_trans (alS_len xs wi k) hk)
            have HR7 := Lib.hid (row_below HR.out HW2.out)
            have HW7 := Lib.hid (HW.out.trans (HW2.out.mono HW.out.size))
            subst hqn
            go_wp2_with (at_builtin; refine wpList_app rfl (.tmp 113) (.tmp 115) 41 rfl w1.heap.size 36 .u32 4 Tryz.underlying41 info_u32 (by decide) _ _ rfl (row_alloc HR7.out _) _ 1 (F : Int) rfl (by simp) (Nat.le_trans HFl.out (by omega)) (by have := HW7.out.size; simp at this ⊢; omega) ?_; intro v1 w6 hrow hgr hbk; have HRn := Lib.hid hrow; have HWn := Lib.hid (below_app (HW7.out.alloc HW7.out.size _) hgr (Nat.le_refl _) hbk); clear hrow hgr hbk)
            go_roundw
            case rel => exact ⟨k + 1, by omega, by go_num, by rw [HAL.out], by rw [HAL.out]; exact HRn.out, HWn.out⟩
            case measure => simp [intOf]; omega
      · rw [hb] at HBt
        have hbt : ((M : Int) / (2 : Int) ^ k).tmod 2 = 1 := HBt.out
        have HN : Hid (alS xs wi (k + 1) = alS xs wi k) := Lib.hid (by rw [alS, HME.out, hb]; rfl)
        clear hb
        go_wp2
        go_roundw
        case rel => exact ⟨k + 1, by omega, by go_num, by rw [HN.out, HME.out], by rw [HN.out]; exact HR.out, HW.out⟩
        case measure => simp [intOf]; omega
    · have hkn : k = 24 := by omega
      subst hkn
      go_wp2
      go_ret2
      exact ⟨_, rfl, by rw [← HSZ.out]; exact HR.out, bt HW0.out HW.out⟩
end Go.Proofs.YtbafbfamjjmngaaGreatDoor
