/- FewestCopies: the reference. -/
import Derived.Test.YtdmlefccajaniaaDoorFewW
import Derived.Test.YtdmlefccajaniaaDoorBoc
namespace Go.Proofs.YtdmlefccajaniaaDoor
open Go.RowKit Go.Lib
theorem info_i64 : (Tryd.prog.info? 2).map (fun i => (i.zero, i.size, i.bytes)) = some (some (.int .i64 0), 1, 8) := by kernel_rfl
theorem cpl_int (d : Nat) (hd : d < 2 ^ 64) : bits .xor .u64 (if IntKind.u64.signed = true then -1 else IntKind.u64.max) (d : Int) = ((cpl d : Nat) : Int) := by
  have e : (if IntKind.u64.signed = true then (-1 : Int) else IntKind.u64.max) = ((18446744073709551615 : Nat) : Int) := by rfl
  have i1 : isM (18446744073709551615 ^^^ d) (fun j => !d.testBit j) := ⟨Nat.xor_lt_two_pow (by decide) hd, fun j hj => by
    rw [Nat.testBit_xor, isM_all.2 j hj]
    show (true ^^ d.testBit j) = !d.testBit j
    cases d.testBit j <;> rfl⟩
  have i2 : isM (cpl d) (fun j => !d.testBit j) := ⟨cpl_lt d, fun j hj => testBit_not d j hd hj⟩
  rw [e, bits_xor_u64_nat _ _ (by decide) (by omega), isM_eq i1, ← isM_eq i2]
theorem cpl_zero (l : List (List Int)) (wi : Int) : cpl (boL l wi 0) = 0 := by
  show 18446744073709551615 - 18446744073709551615 = 0
  exact Nat.sub_self _
theorem and1_i64 (s i : Nat) (hs : s < 2 ^ 63) : bits .and .i64 ((s : Int) / (2 : Int) ^ i) 1 = if s.testBit i then 1 else 0 := by
  have e : (s : Int) / (2 : Int) ^ i = ((s / 2 ^ i : Nat) : Int) := by simp
  have hl : s / 2 ^ i < 2 ^ 63 := Nat.lt_of_le_of_lt (Nat.div_le_self _ _) hs
  have h1 : bits .and .i64 ((s / 2 ^ i : Nat) : Int) ((1 : Nat) : Int) = ((s / 2 ^ i &&& 1 : Nat) : Int) := (bits_nat .i64 63 (by decide) (fun n h0 h1 => Go.IntWalk.i64_in n (by omega)) _ 1 hl (by decide)).1
  rw [e, show (1 : Int) = ((1 : Nat) : Int) from rfl, h1, Nat.and_one_is_mod, Nat.testBit_eq_decide_div_mod_eq]
  rcases Nat.mod_two_eq_zero_or_one (s / 2 ^ i) with h | h <;> simp [h]
theorem wrap_pow (k : Nat) (h : 2 ^ k ≤ 256) : RowKit.wrap64 ((2 : Int) ^ k) = ((2 ^ k : Nat) : Int) := by
  have e : (2 : Int) ^ k = ((2 ^ k : Nat) : Int) := by simp
  obtain ⟨m, hm⟩ : ∃ m, m = 2 ^ k := ⟨_, rfl⟩
  rw [e, ← hm]
  rw [← hm] at h
  unfold RowKit.wrap64; omega
def clL (l : List (List Int)) (wi : Int) (k : Nat) : List Int := (List.range k).map fun i => ((cpl (dmI l wi i) : Nat) : Int)
theorem clL_len (l : List (List Int)) (wi : Int) (k : Nat) : (clL l wi k).length = k := by simp [clL]
theorem clL_get (l : List (List Int)) (wi : Int) (k i : Nat) (h : i < k) : (clL l wi k).getD i 0 = ((cpl (dmI l wi i) : Nat) : Int) := by simp [clL, List.getD_eq_getElem?_getD, h]
theorem clL_succ (l : List (List Int)) (wi : Int) (k : Nat) : clL l wi (k + 1) = clL l wi k ++ [((cpl (dmI l wi k) : Nat) : Int)] := by simp [clL, List.range_succ]
theorem rowM {w : World} {b b' : Nat} {e : TypeId} {k : IntKind} {v : Value} {xs : List Int} (h : Row w b e k v xs) (hb : b' ≤ b) : Row w b' e k v xs := by
  obtain ⟨h1, h2⟩ := h
  refine ⟨h1, ?_⟩
  rcases h2 with h2 | ⟨g, cap, cur, hv, hg, r⟩
  · exact Or.inl h2
  · exact Or.inr ⟨g, cap, cur, hv, Nat.le_trans hb hg, r⟩
set_option maxHeartbeats 4000000 in
set_option maxRecDepth 100000 in
theorem specFew_c (p : Option Addr) (n c : Nat) (l : List (List Int)) (hl : Prs l) (hn : n = l.length) (hm : n ≤ 1048576) (wi : Int) (w : World) (hp : PS w p l) :
    Calls Tryd.prog 30 #[.slice p n c, .int .i64 wi] w fun e w' => ∃ v, e = .returned (.tuple #[v, .int .i64 (fwV l wi).2]) ∧ Row w' w.heap.size 2 .i64 v (fwV l wi).1 ∧ Below w.heap.size w w' := by
  have HN := Lib.hid hn
  have HA := Lib.hid hp
  have HP := Lib.hid hl
  have HZ : Hid (∀ w, PS w p l → Calls Tryd.prog 60 #[.slice p n c, .int .i64 wi] w fun e w' => e = .returned (.int .i64 (cpV l (dnB wi))) ∧ Below w.heap.size w w') := Lib.hid fun w hp => l07Copies_c p n c l hl hn hm wi w hp
  clear hn hp hl
  by_cases hc : cpV l (dnB wi) = 0
  · obtain ⟨hok, h1, h2, h4⟩ := cpV_zero hc
    have n1 : 1 ≤ n := by rw [HN.out]; exact h1
    have n8 : n ≤ 8 := by rw [HN.out]; exact h2
    have HOK := Lib.hid hok
    have HV : Hid (fwV l wi = (natL ((fwB l wi n (2 ^ n)).getD []), 0)) := Lib.hid (by simp [fwV, hc, HN.out])
    have HM : Hid (D400 (medP l)) := Lib.hid (medP_D400 hok (by omega))
    have HF1 : Hid (fwB l wi n 1 = none) := Lib.hid (by rw [HN.out]; exact fwB_one l wi ((dnB_iff wi).1 h4).1 h1)
    have hszM : (arr .i16 (medP l)).size = 64 := by rw [arr_size, medP_length]
    rw [hc] at HZ
    clear hc hok h1 h2 h4
    go_enter Tryd.func30, Tryd.ntmps30
    go_wp2_with fail
    refine (HZ.out _ HA.out).mono ?_
    rintro e w1 ⟨rfl, hb1⟩
    have HB := Lib.hid hb1
    clear hb1
    go_wp2_with fail
    refine (l07Median_c _ n c l HP.out HN.out n8 (by omega) _ (PS_below HB.out HA.out)).mono ?_
    rintro e w2 ⟨rfl, hb2⟩
    have HB2 := Lib.hid (bt HB.out hb2)
    clear hb2
    go_upto_region 5 with (rw [z64_Z]; refine wpList_store_row rfl 37 (.tmp 7) (.tmp 26) rfl w2.heap.size (arr .i16 (medP l)) rfl rfl 37 (arr .i16 Z64) (al1_0 _ _) (by rw [szPrint, hszM]) (by rw [hszM, arr_size, Z64_length]) (arr_one _ _) ?_)
    have HG := Lib.hid (setRow_heap (w2.alloc (.cells (arr .i16 Z64) 37)) w2.heap.size _ (arr .i16 (medP l)) 37 (0, 0) (al1_0 _ _))
    have hb3 := below_setRow (bl1 w2 (.cells (arr .i16 Z64) 37)) (Nat.le_refl _) (arr .i16 (medP l))
    have HB3 := Lib.hid (bt HB2.out hb3)
    clear hb3
    generalize (w2.alloc (.cells (arr .i16 Z64) 37)).setRow w2.heap.size (arr .i16 (medP l)) = w3 at *
    generalize w2.heap.size = g7 at *
    go_upto_region 8 with fail
    go_loopw [8, 9, 10] (fun s8 s9 i wr => ∃ k : Nat, k ≤ n ∧ i = .int .i64 k ∧ s9 = .int .u64 (cpl (boL l wi k) : Nat) ∧ Row wr w3.heap.size 24 .u64 s8 (clL l wi k) ∧ Below w3.heap.size w3 wr) (fun _ _ i _ => n - (intOf i).toNat)
    case atStart => exact ⟨0, Nat.zero_le _, rfl, by rw [cpl_zero]; rfl, row_new w3 _ _ _ (Nat.le_refl _), bl1 _ _⟩
    case round =>
      obtain ⟨k, hk, rfl, hall, hR, hW⟩ := hrel
      have HR := Lib.hid hR
      have HW := Lib.hid hW
      clear hR hW
      subst hall
      by_cases hlt : k < n
      · obtain ⟨b, o, rfl, hb, hat⟩ := HA.out (ne_of_lt (k := k) (by have := HN.out; omega))
        obtain ⟨q, hpe⟩ : ∃ q, q = l.getD k [] := ⟨_, rfl⟩
        have HQ : Hid (D400 q) := Lib.hid (by rw [hpe]; exact okP_D400 (HP.out k (by have := HN.out; omega)) (okL_get HOK.out k (by have := HN.out; omega)))
        have HRg : Hid (wr.rangeAt b (o + k * 64) (cellsP q)) := Lib.hid (by rw [hpe]; exact rangeAt_below (bt HB3.out HW.out) hb (hat k (by have := HN.out; omega)))
        have HG2 := Lib.hid (heap_below HW.out (lt_of_heap HG.out) HG.out)
        have hdm : difM (medP l) q wi = dmI l wi k := by rw [dmI, hpe]
        have HD := Lib.hid (l07Dust_c (medP l) q HM.out HQ.out b (o + k * 64) g7 wi _ wr HRg.out HG2.out)
        rw [hdm] at HD
        have hki : (k : Int) < n := by omega
        have HL8 : Hid ((clL l wi k).length ≤ 17592186000000) := Lib.hid (by rw [clL_len]; omega)
        have HSc := Lib.hid (clL_succ l wi k)
        have HOr : Hid (bits .or .u64 (cpl (boL l wi k) : Nat) (cpl (dmI l wi k) : Nat) = ((cpl (boL l wi (k + 1)) : Nat) : Int)) := Lib.hid (by rw [or64 _ _ (cpl_lt _) (cpl_lt _), cpl_and (boL_lt l wi k) (dmI_lt l wi k)]; rfl)
        have hdl := dmI_lt l wi k
        generalize dmI l wi k = DD at *
        clear hpe hat hdm
        go_wp2_with fail
        refine (HD.out).mono ?_
        rintro e w5 ⟨rfl, hb5⟩
        have HR5 := Lib.hid (row_below HR.out hb5)
        have HW5 := Lib.hid (bt HW.out hb5)
        clear hb5 HD
        go_upto_region 11 with fail
        have hx := cpl_int DD hdl
        rw [hx]
        generalize cpl DD = CD at *
        go_wp2_with (at_builtin; refine wpList_app rfl (.tmp 40) (.tmp 42) 29 rfl w3.heap.size 24 .u64 8 Tryd.underlying29 info_u64 (by decide) _ _ rfl (row_alloc HR5.out _) _ 1 (CD : Int) rfl (by simp) HL8.out (by have := HW5.out.size; simp at this ⊢; omega) ?_; intro v1 w6 hrow hgr hbk; have HRn := Lib.hid hrow; have HWn := Lib.hid (below_app (HW5.out.alloc HW5.out.size _) hgr (Nat.le_refl _) hbk); clear hrow hgr hbk)
        go_roundw
        case rel => exact ⟨k + 1, by omega, by go_num, by exact congrArg _ HOr.out, by rw [HSc.out]; exact HRn.out, HWn.out⟩
        case measure => simp [intOf]; omega
      · have hkn : k = n := by omega
        subst hkn
        obtain ⟨g8, c8, rfl, hg81, hg82, _, _, hc8⟩ := row_shape HR.out (by intro e; have := clL_len l wi k; rw [e] at this; simp at this; omega)
        rw [clL_len]
        have HC8 : Hid (∀ i, i < k → wr.cell? ⟨g8, i, none⟩ = some (.int .u64 ((cpl (dmI l wi i) : Nat) : Int))) := Lib.hid (fun i hi => by rw [hc8 i (by rw [clL_len]; exact hi), clL_get l wi k i hi])
        have HG8 := Lib.hid hg82
        have HWB := Lib.hid (bt HB3.out HW.out)
        have hpw : 2 ^ k ≤ 256 := Nat.pow_le_pow_right (n := 2) (by omega) n8
        have hp0 : 1 ≤ 2 ^ k := Nat.one_le_two_pow
        have HR0 := Lib.hid (row_new wr 2 .i64 wr.heap.size (Nat.le_refl _))
        clear hc8 hg81 hg82 HR HG
        obtain ⟨CB, HCB⟩ : ∃ CB, Hid (CB = cpl (boL l wi k)) := ⟨_, Lib.hid rfl⟩
        rw [← HCB.out]
        obtain ⟨W, rfl⟩ : ∃ W : World, W = wr := ⟨_, rfl⟩
        go_upto_region 16 with fail
        go_loopw [12, 13, 14] (fun best fnd st wr => ∃ s : Nat, 1 ≤ s ∧ s ≤ 2 ^ k ∧ st = .int .i64 s ∧ fnd = .bool (fwB l wi k s).isSome ∧ Row wr W.heap.size 2 .i64 best (natL ((fwB l wi k s).getD [])) ∧ Below W.heap.size W wr) (fun _ _ st _ => 2 ^ k - (intOf st).toNat)
        case atStart => exact ⟨1, Nat.le_refl _, hp0, rfl, by rw [HF1.out]; rfl, by rw [HF1.out]; exact HR0.out, bl1 _ _⟩
        case round =>
          obtain ⟨s, hs1, hs2, rfl, hfd, hR, hW⟩ := hrel
          subst hfd
          have HR := Lib.hid hR
          have HW2 := Lib.hid hW
          clear hR hW
          have HP2 := Lib.hid (wrap_pow k hpw)
          obtain ⟨P2, hP2⟩ : ∃ P2 : Int, P2 = ((2 ^ k : Nat) : Int) := ⟨_, rfl⟩
          have hsh : RowKit.wrap64 ((2 : Int) ^ k) = P2 := by rw [hP2]; exact HP2.out
          obtain ⟨pb, cb, rfl, hPB⟩ := PB_i64_row HR.out
          rw [natL_len]
          obtain ⟨lb, hlb⟩ : ∃ lb, lb = ((fwB l wi k s).getD []).length := ⟨_, rfl⟩
          have hlb8 : lb ≤ 8 := by
            rw [hlb]
            cases hb : fwB l wi k s with
            | none => simp
            | some b => exact Nat.le_trans (fwB_len l wi _ _ b hb) n8
          have HR' : Hid (Row wr W.heap.size 2 .i64 (.slice pb lb cb) (natL ((fwB l wi k s).getD []))) := Lib.hid (by have := HR.out; rwa [natL_len, ← hlb] at this)
          have HPB := Lib.hid hPB
          rw [← hlb]
          have HLB := Lib.hid hlb
          clear hPB HR hlb
          by_cases hst : s < 2 ^ k
          · have hsd : decide ((s : Int) < P2) = true := decide_eq_true (by rw [hP2]; exact Int.ofNat_lt.2 hst)
            have hs64 : s < 256 := by omega
            clear hP2
            obtain ⟨W2, rfl⟩ : ∃ W2 : World, W2 = wr := ⟨_, rfl⟩
            go_upto_region 21 with fail
            go_loopw [15, 16, 17] (fun lst som i wr => ∃ i' : Nat, i' ≤ k ∧ i = .int .i64 i' ∧ som = .int .u64 (cpl (inL l wi (lstS s i')) : Nat) ∧ Row wr W2.heap.size 2 .i64 lst (natL (lstS s i')) ∧ Below W2.heap.size W2 wr) (fun _ _ i _ => k - (intOf i).toNat)
            case atStart => exact ⟨0, Nat.zero_le _, rfl, by rw [show lstS s 0 = [] from rfl, show inL l wi [] = boL l wi 0 from rfl, cpl_zero]; rfl, row_new W2 _ _ _ (Nat.le_refl _), bl1 _ _⟩
            case round =>
              obtain ⟨i, hi, rfl, hsm, hR, hW⟩ := hrel
              have HR := Lib.hid hR
              have HW := Lib.hid hW
              subst hsm
              clear hR hW
              by_cases hik : i < k
              · have hii : (i : Int) < k := by omega
                have HBt := Lib.hid (and1_i64 s i (by omega))
                have HSc := Lib.hid (lstS_succ s i)
                have hc8 : wr.cell? ⟨g8, i, none⟩ = some (.int .u64 ((cpl (dmI l wi i) : Nat) : Int)) := by rw [(HW2.out.trans (HW.out.mono HW2.out.size)).cell (p := ⟨g8, i, none⟩) HG8.out]; exact HC8.out i hik
                have HL8 : Hid ((natL (lstS s i)).length ≤ 17592186000000) := Lib.hid (by rw [natL_len]; exact Nat.le_trans (lstS_len s i) (by omega))
                have HG8b : Hid (g8 < W2.heap.size) := Lib.hid (Nat.lt_of_lt_of_le HG8.out HW2.out.size)
                cases hb : s.testBit i
                · rw [hb] at HBt HSc
                  have hbt : bits .and .i64 ((s : Int) / (2 : Int) ^ i) 1 = 0 := HBt.out
                  have HN2 : Hid (lstS s (i + 1) = lstS s i) := Lib.hid (by rw [HSc.out]; simp)
                  clear hb
                  go_wp2
                  go_roundw
                  case rel => exact ⟨i + 1, by omega, by go_num, by rw [HN2.out], by rw [HN2.out]; exact HR.out, HW.out⟩
                  case measure => simp [intOf]; omega
                · rw [hb] at HBt HSc
                  have hbt : bits .and .i64 ((s : Int) / (2 : Int) ^ i) 1 = 1 := HBt.out
                  have HN2 : Hid (lstS s (i + 1) = lstS s i ++ [i]) := Lib.hid (by rw [HSc.out]; simp)
                  have HOr : Hid (bits .or .u64 (cpl (inL l wi (lstS s i)) : Nat) (cpl (dmI l wi i) : Nat) = ((cpl (inL l wi (lstS s i ++ [i])) : Nat) : Int)) := Lib.hid (by rw [or64 _ _ (cpl_lt _) (cpl_lt _), cpl_and (inL_lt l wi _) (dmI_lt l wi i), inL_snoc])
                  obtain ⟨pl, cl, rfl, _⟩ := row_any HR.out
                  rw [natL_len]
                  have HR4 : Hid (Row wr W2.heap.size 2 .i64 (.slice pl (lstS s i).length cl) (natL (lstS s i))) := Lib.hid (by have := HR.out; rwa [natL_len] at this)
                  have HG8c : Hid (g8 < W2.heap.size) := HG8b
                  obtain ⟨CI, HCI⟩ : ∃ CI, Hid (CI = cpl (inL l wi (lstS s i ++ [i]))) := ⟨_, Lib.hid rfl⟩
                  rw [← HCI.out] at HOr
                  generalize cpl (inL l wi (lstS s i)) = CA at *
                  generalize cpl (dmI l wi i) = CB at *
                  have hor : bits .or .u64 (CA : Int) (CB : Int) = (CI : Int) := HOr.out
                  clear hb HR
                  go_wp2_with (at_builtin; refine wpList_app rfl (.tmp 69) (.tmp 71) 53 rfl W2.heap.size 2 .i64 8 Tryd.underlying53 info_i64 (by decide) _ _ rfl (row_alloc HR4.out _) _ 1 (i : Int) rfl (by simp) HL8.out (by have := HW.out.size; simp at this ⊢; omega) ?_; intro v1 w6 hrow hgr hbk; have HRn := Lib.hid hrow; have HWn := Lib.hid (below_app (HW.out.alloc HW.out.size _) hgr (Nat.le_refl _) hbk); have hc82 : w6.cell? ⟨g8, i, none⟩ = some (.int .u64 (CB : Int)) := (by rw [HWn.out.cell (p := ⟨g8, i, none⟩) HG8b.out, ← HW.out.cell (p := ⟨g8, i, none⟩) HG8b.out]; exact hc8); clear hrow hgr hbk hc8)
                  go_roundw
                  case rel => exact ⟨v1, .int .u64 (CI : Int), .int .i64 ((i : Int) + 1), ⟨i + 1, by omega, by go_num, by rw [HN2.out, ← HCI.out], by rw [HN2.out, ← natL_app]; exact HRn.out, HWn.out⟩, rfl, rfl, rfl⟩
                  case measure => simp [intOf]; omega
              · have hki : k = i := by omega
                subst hki
                obtain ⟨CA, HCA⟩ : ∃ CA, Hid (CA = cpl (inL l wi (lstS s k))) := ⟨_, Lib.hid rfl⟩
                rw [← HCA.out]
                have hlst : (lstS s k).length ≤ 8 := Nat.le_trans (lstS_len s k) n8
                obtain ⟨pl, cl, rfl, HPL⟩ := PB_i64_row HR.out
                rw [natL_len]
                have HR6 : Hid (Row wr W2.heap.size 2 .i64 (.slice pl (lstS s k).length cl) (natL (lstS s k))) := Lib.hid (by have := HR.out; rwa [natL_len] at this)
                have HPL := Lib.hid HPL
                clear HR
                by_cases heq : inL l wi (lstS s k) = boL l wi k
                · have hnd2 : ((CA : Int) != (CB : Int)) = false := by rw [HCA.out, HCB.out, heq]; simp
                  have HN3 : Hid (fwB l wi k (s + 1) = if bettr (lstS s k) (fwB l wi k s) then some (lstS s k) else fwB l wi k s) := Lib.hid (by simp [fwB, okSet, heq])
                  clear heq
                  cases hfw : fwB l wi k s with
                  | none =>
                    rw [hfw] at HN3
                    have HN4 : Hid (fwB l wi k (s + 1) = some (lstS s k)) := Lib.hid (by rw [HN3.out]; simp [bettr])
                    have hsm : (none : Option (List Nat)).isSome = false := rfl
                    rw [hsm]
                    go_wp2
                    go_roundw
                    case rel => exact ⟨s + 1, by omega, by omega, by go_num, by rw [HN4.out]; rfl, by rw [HN4.out]; exact rowM HR6.out HW2.out.size, HW2.out.trans (HW.out.mono HW2.out.size)⟩
                    case measure => simp [intOf]; omega
                  | some b =>
                    rw [hfw] at HN3 HLB HPB HR'
                    have hsm : (some b : Option (List Nat)).isSome = true := rfl
                    rw [hsm]
                    have HLB2 : Hid (lb = b.length) := Lib.hid HLB.out
                    have HPB2 := Lib.hid (PB_i64_below (xs := natL b) HW.out HPB.out)
                    by_cases h1 : (lstS s k).length < lb
                    · have HN4 : Hid (fwB l wi k (s + 1) = some (lstS s k)) := Lib.hid (by rw [HN3.out, if_pos]; have := HLB2.out; simp only [bettr, btr]; rw [← this, decide_eq_true h1]; rfl)
                      have hll : decide (((lstS s k).length : Int) < (lb : Int)) = true := decide_eq_true (by omega)
                      go_wp2
                      go_roundw
                      case rel => exact ⟨s + 1, by omega, by omega, by go_num, by rw [HN4.out]; rfl, by rw [HN4.out]; exact rowM HR6.out HW2.out.size, HW2.out.trans (HW.out.mono HW2.out.size)⟩
                      case measure => simp [intOf]; omega
                    · have hll : decide (((lstS s k).length : Int) < (lb : Int)) = false := decide_eq_false (by omega)
                      by_cases h2 : lb = (lstS s k).length
                      · subst h2
                        have hee : (((lstS s k).length : Int) == ((lstS s k).length : Int)) = true := by simp
                        have HBF := Lib.hid (before_c (lstS s k) b pl pb _ cl cb rfl HLB2.out (by omega) wr _ _ HPL.out HPB2.out)
                        cases hlx : lxL (lstS s k) b with
                        | true =>
                          rw [hlx] at HBF
                          have HN4 : Hid (fwB l wi k (s + 1) = some (lstS s k)) := Lib.hid (by rw [HN3.out, if_pos]; have := HLB2.out; simp [bettr, btr, ← this, hlx])
                          clear hlx
                          go_wp2_with (go_at_call 66; refine (HBF.out).mono ?_; rintro e w7 ⟨rfl, hb7⟩; have HR7 := Lib.hid (row_below HR6.out hb7); have HW7 := Lib.hid (bt HW.out hb7); clear hb7)
                          go_roundw
                          case rel => exact ⟨s + 1, by omega, by omega, by go_num, by rw [HN4.out]; rfl, by rw [HN4.out]; exact rowM HR7.out HW2.out.size, HW2.out.trans (HW7.out.mono HW2.out.size)⟩
                          case measure => simp [intOf]; omega
                        | false =>
                          rw [hlx] at HBF
                          have HN4 : Hid (fwB l wi k (s + 1) = some b) := Lib.hid (by rw [HN3.out, if_neg]; have := HLB2.out; simp [bettr, btr, ← this, hlx])
                          clear hlx
                          go_wp2_with (go_at_call 66; refine (HBF.out).mono ?_; rintro e w7 ⟨rfl, hb7⟩; have HR7 := Lib.hid (row_below (row_below HR'.out HW.out) hb7); have HW7 := Lib.hid (bt HW.out hb7); clear hb7)
                          go_roundw
                          case rel => exact ⟨s + 1, by omega, by omega, by go_num, by rw [HN4.out]; rfl, by rw [HN4.out]; exact HR7.out, HW2.out.trans (HW7.out.mono HW2.out.size)⟩
                          case measure => simp [intOf]; omega
                      · have hee : (((lstS s k).length : Int) == (lb : Int)) = false := by rw [beq_eq_false_iff_ne]; omega
                        have HN4 : Hid (fwB l wi k (s + 1) = some b) := Lib.hid (by rw [HN3.out, if_neg]; have := HLB2.out; simp only [bettr, btr]; rw [← this, decide_eq_false h1, decide_eq_false (fun e => h2 e.symm)]; simp)
                        go_wp2
                        go_roundw
                        case rel => exact ⟨s + 1, by omega, by omega, by go_num, by rw [HN4.out]; rfl, by rw [HN4.out]; exact row_below HR'.out HW.out, HW2.out.trans (HW.out.mono HW2.out.size)⟩
                        case measure => simp [intOf]; omega
                · have hne : ¬ (cpl (inL l wi (lstS s k)) = cpl (boL l wi k)) := fun h => heq ((cpl_inj (inL_lt l wi _) (boL_lt l wi _)).1 h)
                  have HN3 : Hid (fwB l wi k (s + 1) = fwB l wi k s) := Lib.hid (by simp [fwB, okSet, heq])
                  clear heq
                  have hnd2 : ((CA : Int) != (CB : Int)) = true := by rw [bne_iff_ne]; have := HCA.out; have := HCB.out; omega
                  clear hne
                  go_wp2
                  go_roundw
                  case rel => exact ⟨s + 1, by omega, by omega, by go_num, by rw [HN3.out], by rw [HN3.out]; exact row_below HR'.out HW.out, HW2.out.trans (HW.out.mono HW2.out.size)⟩
                  case measure => simp [intOf]; omega
          · have hst2 : s = 2 ^ k := by omega
            have hsd : decide ((s : Int) < P2) = false := decide_eq_false (by rw [hP2, hst2]; exact Int.lt_irrefl _)
            have HRF : Hid (Row wr w.heap.size 2 .i64 (.slice pb lb cb) (fwV l wi).1) := Lib.hid (by rw [HV.out, ← hst2]; exact rowM HR'.out HWB.out.size)
            have HBF : Hid (Below w.heap.size w wr) := Lib.hid (HWB.out.trans (HW2.out.mono HWB.out.size))
            have HV2 : Hid ((fwV l wi).2 = 0) := Lib.hid (by rw [HV.out])
            go_wp2
            go_ret2
            exact ⟨.slice pb lb cb, by rw [HV2.out]; rfl, HRF.out, HBF.out⟩
  · obtain ⟨CC, hCC⟩ : ∃ CC, CC = cpV l (dnB wi) := ⟨_, rfl⟩
    have HV : Hid (fwV l wi = ([], CC)) := Lib.hid (by simp [fwV, hc, hCC])
    rw [← hCC] at HZ hc
    have hcd : (CC != 0) = true := by rw [bne_iff_ne]; exact hc
    clear hCC
    go_enter Tryd.func30, Tryd.ntmps30
    go_wp2_with fail
    refine (HZ.out _ HA.out).mono ?_
    rintro e w1 ⟨rfl, hb1⟩
    have HB := Lib.hid hb1
    clear hb1
    have HV2 : Hid ((fwV l wi).2 = CC) := Lib.hid (by rw [HV.out])
    have HV1 : Hid ((fwV l wi).1 = []) := Lib.hid (by rw [HV.out])
    go_wp2
    go_ret2
    exact ⟨.slice (some ⟨w1.heap.size, 0, none⟩) 0 0, by rw [HV2.out]; rfl, by rw [HV1.out]; exact row_new _ _ _ _ HB.out.size, HB.out.alloc HB.out.size _⟩
end Go.Proofs.YtdmlefccajaniaaDoor
