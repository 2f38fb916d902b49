/- BestOfCopies: the reference and the program. -/
import Derived.Test.YtdmlefccajaniaaDoorBocP
import Derived.Test.YtdmlefccajaniaaDoorSpotW
namespace Go.Proofs.YtdmlefccajaniaaDoor
open Go.RowKit Go.Lib
theorem res_ctt {P : Program} {fn : Func} {p t t2 : Tmp} {ty : TypeId} (h : fn.results = #[.cell p ty, .tmp t, .tmp t2]) (tmps : Array Value) (w : World) (g : Nat) (tt : TypeId) (cs : Array Value) (fr : Nat × Nat) (d : TypeDesc)
    (hp : tmps.getD p undef = .pointer (some ⟨g, 0, none⟩)) (hg : w.heap[g]? = some (.cells cs tt fr))
    (hu : P.underlying ty = some d) (hd : (match d with | .struct _ | .array _ _ => true | _ => false) = true) (hi : (P.info? ty).map (·.size) = some cs.size) :
    (results fn tmps).run P w = .ok (.tuple #[.agg cs, tmps.getD t undef, tmps.getD t2 undef]) w := by
  have hp' : tmps[p]?.getD undef = .pointer (some ⟨g, 0, none⟩) := by simpa using hp
  simp [results, h, hp', asAddr, run_loadVar_row w g tt ty cs fr d hg hu hd hi]
theorem and1_64 (F c : Nat) (hF : F < 2 ^ 64) : bits .and .u64 ((F : Int) / (2 : Int) ^ c) 1 = if F.testBit c then 1 else 0 := by
  have e : (F : Int) / (2 : Int) ^ c = ((F / 2 ^ c : Nat) : Int) := by simp
  rw [e, show (1 : Int) = ((1 : Nat) : Int) from rfl, and64 _ 1 (Nat.lt_of_le_of_lt (Nat.div_le_self _ _) hF) (by decide), Nat.and_one_is_mod, Nat.testBit_eq_decide_div_mod_eq]
  rcases Nat.mod_two_eq_zero_or_one (F / 2 ^ c) with h | h <;> simp [h]
set_option maxHeartbeats 4000000 in
set_option maxRecDepth 100000 in
theorem specBoc_c (p : Option Addr) (n c : Nat) (l : List (List Int)) (hl : Prs l) (hn : n = l.length) (hm : n ≤ 1048576) (wi : Int) (w : World) (hp : PS w p l) :
    Calls Tryd.prog 26 #[.slice p n c, .int .i64 wi] w fun e w' => e = .returned (.tuple #[.agg (arr .i16 (boV l wi).1), .int .u64 ((boV l wi).2.1 : Nat), .int .i64 (boV l wi).2.2]) ∧ Below w.heap.size w w' := by
  have HN := Lib.hid hn
  have HA := Lib.hid hp
  have HP := Lib.hid hl
  clear hn hp hl
  go_enter Tryd.func26, Tryd.ntmps26
  go_upto_region 1 with fail
  rw [z64_Z]
  have K0 := Lib.hid (al1_0 w (.cells (arr .i16 Z64) 37))
  have KB := Lib.hid (bl1 w (.cells (arr .i16 Z64) 37))
  generalize w.alloc (.cells (arr .i16 Z64) 37) = w0 at *
  have HZ : Hid (∀ w, PS w p l → Calls Tryd.prog 60 #[.slice p n c, .int .i64 wi] w fun e w' => e = .returned (.int .i64 (cpV l (dnB wi))) ∧ Below w.heap.size w w') := Lib.hid fun w hp => l07Copies_c p n c l HP.out HN.out hm wi w hp
  by_cases hc : cpV l (dnB wi) = 0
  · obtain ⟨hok, h1, h2, h4⟩ := cpV_zero hc
    have n1 : 1 ≤ n := by rw [HN.out]; exact h1
    have n8 : n ≤ 8 := by rw [HN.out]; exact h2
    have HOK := Lib.hid hok
    have HV : Hid (boV l wi = (boO l wi n, boL l wi n, 0)) := Lib.hid (by simp [boV, hc, HN.out])
    have HM : Hid (D400 (medP l)) := Lib.hid (medP_D400 hok (by omega))
    have hszM : (arr .i16 (medP l)).size = 64 := by rw [arr_size, medP_length]
    rw [hc] at HZ
    clear hc hok h1 h2 h4
    go_wp2_with fail
    refine (HZ.out _ (PS_below KB.out HA.out)).mono ?_
    rintro e w1 ⟨rfl, hb1⟩
    have K1 := Lib.hid (heap_below hb1 (lt_of_heap K0.out) K0.out)
    have HB := Lib.hid (bt KB.out hb1)
    clear hb1 K0 KB
    go_wp2_with fail
    refine (l07Median_c _ n c l HP.out HN.out n8 (by omega) _ (PS_below HB.out HA.out)).mono ?_
    rintro e w2 ⟨rfl, hb2⟩
    have K2 := Lib.hid (heap_below hb2 (lt_of_heap K1.out) K1.out)
    have HB2 := Lib.hid (bt HB.out hb2)
    clear hb2 K1 HB
    go_upto_region 5 with (rw [z64_Z]; refine wpList_store_row rfl 37 (.tmp 8) (.tmp 22) rfl w2.heap.size (arr .i16 (medP l)) rfl rfl 37 (arr .i16 Z64) (al1_0 _ _) (by rw [szPrint, hszM]) (by rw [hszM, arr_size, Z64_length]) (arr_one _ _) ?_)
    have HG := Lib.hid (setRow_heap (w2.alloc (.cells (arr .i16 Z64) 37)) w2.heap.size _ (arr .i16 (medP l)) 37 (0, 0) (al1_0 _ _))
    have hb3 := below_setRow (bl1 w2 (.cells (arr .i16 Z64) 37)) (Nat.le_refl _) (arr .i16 (medP l))
    have K3 := Lib.hid (heap_below hb3 (lt_of_heap K2.out) K2.out)
    have L3 : Hid (w.heap.size < w2.heap.size) := Lib.hid (lt_of_heap K2.out)
    have HB3 := Lib.hid (bt HB2.out hb3)
    clear hb3 K2 HB2
    generalize (w2.alloc (.cells (arr .i16 Z64) 37)).setRow w2.heap.size (arr .i16 (medP l)) = w3 at *
    generalize w2.heap.size = g8 at *
    go_upto_region 6 with (first
      | (refine wpList_load_row rfl 37 (.tmp 8) rfl _ rfl _ _ _ _ HG.out Tryd.underlying37 rfl (by rw [szPrint, hszM]) ?_)
      | (rw [z64_Z]; refine wpList_store_row rfl 37 (.tmp 9) (.tmp 23) rfl w3.heap.size (arr .i16 (medP l)) rfl rfl 37 (arr .i16 Z64) (al1_0 _ _) (by rw [szPrint, hszM]) (by rw [hszM, arr_size, Z64_length]) (arr_one _ _) ?_))
    have HO := Lib.hid (setRow_heap (w3.alloc (.cells (arr .i16 Z64) 37)) w3.heap.size _ (arr .i16 (medP l)) 37 (0, 0) (al1_0 _ _))
    have hb4 := below_setRow (bl1 w3 (.cells (arr .i16 Z64) 37)) (Nat.le_refl _) (arr .i16 (medP l))
    have K4 := Lib.hid (heap_below hb4 (lt_of_heap K3.out) K3.out)
    have G4 := Lib.hid (heap_below hb4 (lt_of_heap HG.out) HG.out)
    have L4 : Hid (g8 < w3.heap.size) := Lib.hid (lt_of_heap HG.out)
    have HB4 := Lib.hid (bt HB3.out hb4)
    clear hb4 K3 HG HB3
    generalize (w3.alloc (.cells (arr .i16 Z64) 37)).setRow w3.heap.size (arr .i16 (medP l)) = w4 at *
    generalize w3.heap.size = g9 at *
    go_upto_region 8 with fail
    go_loopw [10, 11] (fun lf i wr => ∃ k : Nat, k ≤ n ∧ i = .int .i64 k ∧ lf = .int .u64 (boL l wi k : Nat) ∧ wr.heap[g9]? = some (.cells (arr .i16 (boO l wi k)) 37 (0, 0)) ∧ wr.heap[g8]? = some (.cells (arr .i16 (medP l)) 37 (0, 0)) ∧ wr.heap[w.heap.size]? = some (.cells (arr .i16 Z64) 37 (0, 0)) ∧ Below w.heap.size w wr) (fun _ i _ => n - (intOf i).toNat)
    case atStart => exact ⟨0, Nat.zero_le _, rfl, rfl, HO.out, G4.out, K4.out, HB4.out⟩
    case round =>
      clear HO G4 K4 HB4
      obtain ⟨k, hk, rfl, hlf, hO, hG, hK, hW⟩ := hrel
      have HO := Lib.hid hO
      have HG := Lib.hid hG
      have HK := Lib.hid hK
      have HW := Lib.hid hW
      clear hO hG hK hW
      by_cases hlt : k < n
      · obtain ⟨b, o, rfl, hb, hat⟩ := HA.out (ne_of_lt (k := k) (by have := HN.out; omega))
        obtain ⟨q, hpe⟩ : ∃ q, q = l.getD k [] := ⟨_, rfl⟩
        have HPr : Hid (Pr q) := Lib.hid (by rw [hpe]; exact HP.out k (by have := HN.out; omega))
        have HQ : Hid (D400 q) := Lib.hid (by rw [hpe]; exact okP_D400 (HP.out k (by have := HN.out; omega)) (okL_get HOK.out k (by have := HN.out; omega)))
        have HRw : Hid (∀ W, Below w.heap.size w W → W.rangeAt b (o + k * 64) (cellsP q)) := Lib.hid (fun W hW => by rw [hpe]; exact rangeAt_below hW hb (hat k (by have := HN.out; omega)))
        have hdm : difM (medP l) q wi = dmI l wi k := by rw [dmI, hpe]
        have HD := Lib.hid (l07Dust_c (medP l) q HM.out HQ.out b (o + k * 64) g8 wi _ wr (HRw.out _ HW.out) HG.out)
        rw [hdm] at HD
        have HAN := Lib.hid (andNot_int (boL l wi k) (dmI l wi k) (boL_lt l wi k) (dmI_lt l wi k))
        have HCt := boC_lt l wi k
        have HNx := Lib.hid (boL_next l wi k)
        have HLn := Lib.hid (andNot_int (boL l wi k) (boC l wi k) (boL_lt l wi k) HCt)
        have HCe : Hid (dif64 (boL l wi k) (dmI l wi k) = boC l wi k) := Lib.hid rfl
        have HBit := Lib.hid (fun j => and1_64 (boC l wi k) j HCt)
        have HGet : Hid (∀ j, j < 64 → (boO l wi (k + 1)).getD j 0 = if (boC l wi k).testBit j then q.getD j 0 else (boO l wi k).getD j 0) := Lib.hid (fun j hj => by rw [boO_get l wi k j hj, hpe])
        have hlA := boO_length l wi k
        have hlB := boO_length l wi (k + 1)
        have hki : (k : Int) < n := by omega
        generalize hOB : boO l wi (k + 1) = OB at *
        generalize boO l wi k = OA at *
        generalize hLB : boL l wi (k + 1) = LB at *
        generalize boL l wi k = LA at *
        generalize boC l wi k = CC at *
        generalize dmI l wi k = DD at *
        subst hlf
        have HOBe := Lib.hid hOB
        have HLBe := Lib.hid hLB
        clear hOB hLB
        have HLA := Lib.hid hlA
        have HLB := Lib.hid hlB
        clear hpe hat hdm hlA hlB HCt
        go_wp2_with fail
        refine (HD.out).mono ?_
        rintro e w5 ⟨rfl, hb5⟩
        have HO5 := Lib.hid (heap_below hb5 (lt_of_heap HO.out) HO.out)
        have HG5 := Lib.hid (heap_below hb5 (lt_of_heap HG.out) HG.out)
        have HK5 := Lib.hid (heap_below hb5 (lt_of_heap HK.out) HK.out)
        have HW5 := Lib.hid (bt HW.out hb5)
        clear hb5 HD
        have han : bits .andNot .u64 (LA : Int) (DD : Int) = (CC : Int) := by rw [HAN.out, HCe.out]
        go_upto_region 12 with fail
        go_loopw [13] (fun j wr => ∃ k2 : Nat, k2 ≤ 64 ∧ j = .int .i64 k2 ∧ wr.heap[g9]? = some (.cells (arr .i16 (mixL OB OA k2)) 37 (0, 0)) ∧ wr.heap[g8]? = some (.cells (arr .i16 (medP l)) 37 (0, 0)) ∧ wr.heap[w.heap.size]? = some (.cells (arr .i16 Z64) 37 (0, 0)) ∧ Below w.heap.size w wr) (fun j _ => 64 - (intOf j).toNat)
        case atStart => exact ⟨0, Nat.zero_le _, rfl, by rw [mixL_zero]; exact HO5.out, HG5.out, HK5.out, HW5.out⟩
        case round =>
          clear HO5 HG5 HK5 HW5 HO HG HK HW
          obtain ⟨j, hj, rfl, hO, hG, hK, hW⟩ := hrel
          have HO := Lib.hid hO
          have HG := Lib.hid hG
          have HK := Lib.hid hK
          have HW := Lib.hid hW
          by_cases hjt : j < 64
          · obtain ⟨x, hxe⟩ : ∃ x, x = q.getD j 0 := ⟨_, rfl⟩
            have hcx : wr.cell? ⟨b, o + k * 64 + j, none⟩ = some (.int .i16 x) := by rw [hxe]; exact HRw.out _ hW j _ (cellsP_get _ _ (by rw [HPr.out.1]; exact hjt))
            have hco := arr_cell hO j (by rw [mixL_length _ _ _ 64 HLB.out HLA.out hj]; exact hjt)
            have hfo := frozen_of_row _ _ j _ _ hO
            have hji : (j : Int) < 64 := by omega
            have HGj := Lib.hid (HGet.out j hjt)
            rw [← hxe] at HGj
            have HBj := Lib.hid (HBit.out j)
            clear hxe hO hG hK hW
            cases hb : CC.testBit j
            · rw [hb] at HBj HGj
              have hbj : bits .and .u64 ((CC : Int) / (2 : Int) ^ j) 1 = 0 := HBj.out
              have HMx := Lib.hid (mixL_same OB OA j 64 HLB.out HLA.out hjt (by rw [HGj.out]; rfl))
              clear hb
              go_wp2
              go_roundw
              case rel => exact ⟨j + 1, by omega, by go_num, by rw [← HMx.out]; exact HO.out, HG.out, HK.out, HW.out⟩
              case measure => simp [intOf]; omega
            · rw [hb] at HBj HGj
              have hbj : bits .and .u64 ((CC : Int) / (2 : Int) ^ j) 1 = 1 := HBj.out
              have HMx := Lib.hid (mixL_set OB OA j 64 HLB.out HLA.out hjt x (by rw [HGj.out]; rfl))
              clear hb
              go_wp2
              go_roundw
              case rel => exact ⟨j + 1, by omega, by go_num, by rw [arr_store HO.out, HMx.out], heap_far _ (by have := L4.out; simp; omega) HG.out, heap_far _ (by have := L4.out; have := L3.out; simp; omega) HK.out, HW.out.setCell (p := ⟨g9, _, none⟩) (by have := L4.out; have := L3.out; simp; omega) _⟩
              case measure => simp [intOf]; omega
          · have hj64 : j = 64 := by omega
            subst hj64
            have HOf : Hid (wr.heap[g9]? = some (.cells (arr .i16 OB) 37 (0, 0))) := Lib.hid (by have := HO.out; rwa [mixL_full OB OA 64 HLB.out HLA.out] at this)
            have hln : bits .andNot .u64 (LA : Int) (CC : Int) = (LB : Int) := by rw [HLn.out, HNx.out]
            clear hO hG hK hW
            go_wp2
            go_roundw
            case rel => exact ⟨k + 1, by omega, by go_num, by rw [HLBe.out], by rw [HOBe.out]; exact HOf.out, HG.out, HK.out, HW.out⟩
            case measure => simp [intOf]; omega
      · have hkn : k = n := by omega
        subst hkn
        subst hlf
        have hszO : (arr .i16 (boO l wi k)).size = 64 := by rw [arr_size, boO_length]
        go_wp2_with (first
          | (refine wpList_load_row rfl 37 (.tmp 9) rfl _ rfl _ _ _ _ HO.out Tryd.underlying37 rfl (by rw [szPrint, hszO]) ?_)
          | (refine wpList_store_row rfl 37 (.tmp 4) (.tmp 58) rfl w.heap.size (arr .i16 (boO l wi k)) rfl rfl 37 (arr .i16 Z64) HK.out (by rw [szPrint, hszO]) (by rw [hszO, arr_size, Z64_length]) (arr_one _ _) ?_))
        exact bodyPost_ret (res_ctt rfl _ _ _ 37 _ _ _ rfl (setRow_heap _ _ _ _ _ _ HK.out) Tryd.underlying37 rfl (by rw [szPrint, hszO])) rfl ⟨by rw [HV.out] <;> rfl, below_setRow HW.out (Nat.le_refl _) _⟩
  · have HV : Hid (boV l wi = (Z64, 0, cpV l (dnB wi))) := Lib.hid (by simp [boV, hc])
    have hne : (cpV l (dnB wi) != 0) = true := by simpa using hc
    generalize cpV l (dnB wi) = cc at *
    go_wp2_with fail
    refine (HZ.out _ (PS_below KB.out HA.out)).mono ?_
    rintro e w1 ⟨rfl, hb1⟩
    have K1 := Lib.hid (heap_below hb1 (lt_of_heap K0.out) K0.out)
    have HB := Lib.hid (bt KB.out hb1)
    clear hb1 HZ K0 KB
    go_wp2_with (rw [z64_Z]; refine wpList_store_row rfl 37 (.tmp 4) (.tmp 19) rfl w.heap.size (arr .i16 Z64) rfl rfl 37 (arr .i16 Z64) K1.out (by rw [szPrint, arr_size, Z64_length]) rfl (arr_one _ _) ?_)
    exact bodyPost_ret (res_ctt rfl _ _ _ 37 _ _ _ rfl (setRow_heap _ _ _ _ _ _ K1.out) Tryd.underlying37 rfl (by rw [szPrint, arr_size, Z64_length])) rfl ⟨by rw [HV.out] <;> rfl, below_setRow HB.out (Nat.le_refl _) _⟩
theorem cells_far {w : World} {g n : Nat} {f : Nat → Value} (h : ∀ i, i < n → w.cell? ⟨g, i, none⟩ = some (f i)) (a : Addr) (v : Value) (hne : g ≠ a.block) : ∀ i, i < n → (w.setCell a v).cell? ⟨g, i, none⟩ = some (f i) := fun i hi => by
  rw [← h i hi]
  have := heap_far (w := w) (a := a) (k := g) v hne rfl
  simp [World.cell?, this]
theorem cells_below {w w1 : World} {B g n : Nat} {f : Nat → Value} (hb : Below B w w1) (hg : g < B) (h : ∀ i, i < n → w.cell? ⟨g, i, none⟩ = some (f i)) : ∀ i, i < n → w1.cell? ⟨g, i, none⟩ = some (f i) := fun i hi => by
  rw [hb.cell (p := ⟨g, i, none⟩) hg]; exact h i hi
set_option maxHeartbeats 4000000 in
set_option maxRecDepth 100000 in
theorem implBoc_c (p : Option Addr) (n c : Nat) (l : List (List Int)) (hl : Prs l) (hn : n = l.length) (hm : n ≤ 1048576) (wi : Int) (w : World) (hp : PS w p l) (hT : TabAt w) :
    Calls Tryd.prog 25 #[.slice p n c, .int .i64 wi] w fun e w' => e = .returned (.tuple #[.agg (arr .i16 (boV l wi).1), .int .u64 ((boV l wi).2.1 : Nat), .int .i64 (boV l wi).2.2]) ∧ Below w.heap.size w w' := by
  have HN := Lib.hid hn
  have HA := Lib.hid hp
  have HP := Lib.hid hl
  have HT := Lib.hid hT
  have H00 := Lib.hid (TabAt_pos hT)
  clear hn hp hl hT
  go_enter Tryd.func25, Tryd.ntmps25
  go_upto_region 1 with fail
  rw [z64_Z]
  have K0 := Lib.hid (al1_0 w (.cells (arr .i16 Z64) 37))
  have KB := Lib.hid (bl1 w (.cells (arr .i16 Z64) 37))
  generalize w.alloc (.cells (arr .i16 Z64) 37) = w0 at *
  have HZ : Hid (∀ w, PS w p l → Calls Tryd.prog 58 #[.slice p n c, .bool (dnB wi)] w fun e w' => e = .returned (.int .i64 (cpV l (dnB wi))) ∧ Below w.heap.size w w') := Lib.hid fun w hp => copiesCode_c p n c l HP.out HN.out hm _ w hp
  by_cases hc : cpV l (dnB wi) = 0
  · obtain ⟨hok, h1, h2, h4⟩ := cpV_zero hc
    have n1 : 1 ≤ n := by rw [HN.out]; exact h1
    have n8 : n ≤ 8 := by rw [HN.out]; exact h2
    have HOK := Lib.hid hok
    have HD := Lib.hid h4
    have HV : Hid (boV l wi = (boO l wi n, boL l wi n, 0)) := Lib.hid (by simp [boV, hc, HN.out])
    have hszM : (arr .i16 (medP l)).size = 64 := by rw [arr_size, medP_length]
    rw [hc] at HZ
    clear hc hok h1 h2 h4
    go_wp2_with (go_at_call 62; refine (isDensity_c _ _).mono ?_; rintro e w' ⟨rfl, rfl⟩)
    refine (HZ.out _ (PS_below KB.out HA.out)).mono ?_
    rintro e w1 ⟨rfl, hb1⟩
    have K1 := Lib.hid (heap_below hb1 (lt_of_heap K0.out) K0.out)
    have HB := Lib.hid (bt KB.out hb1)
    clear hb1 K0 KB
    go_wp2_with fail
    refine (implMedian_c _ n c l HP.out HN.out n8 (by omega) _ (PS_below HB.out HA.out)).mono ?_
    rintro e w2 ⟨rfl, hb2⟩
    have K2 := Lib.hid (heap_below hb2 (lt_of_heap K1.out) K1.out)
    have HB2 := Lib.hid (bt HB.out hb2)
    clear hb2 K1 HB
    go_upto_region 5 with (rw [z64_Z]; refine wpList_store_row rfl 37 (.tmp 8) (.tmp 23) rfl w2.heap.size (arr .i16 (medP l)) rfl rfl 37 (arr .i16 Z64) (al1_0 _ _) (by rw [szPrint, hszM]) (by rw [hszM, arr_size, Z64_length]) (arr_one _ _) ?_)
    have HG := Lib.hid (setRow_heap (w2.alloc (.cells (arr .i16 Z64) 37)) w2.heap.size _ (arr .i16 (medP l)) 37 (0, 0) (al1_0 _ _))
    have hb3 := below_setRow (bl1 w2 (.cells (arr .i16 Z64) 37)) (Nat.le_refl _) (arr .i16 (medP l))
    have K3 := Lib.hid (heap_below hb3 (lt_of_heap K2.out) K2.out)
    have L3 : Hid (w.heap.size < w2.heap.size) := Lib.hid (lt_of_heap K2.out)
    have HB3 := Lib.hid (bt HB2.out hb3)
    clear hb3 K2 HB2
    generalize (w2.alloc (.cells (arr .i16 Z64) 37)).setRow w2.heap.size (arr .i16 (medP l)) = w3 at *
    generalize w2.heap.size = g8 at *
    go_wp2_with fail
    refine (implDusts_c p n c l HP.out HN.out n8 (by omega) HOK.out wi HD.out _ (PS_below HB3.out HA.out)).mono ?_
    rintro e w4 ⟨v, rfl, hR, hb4⟩
    obtain ⟨g, cap, rfl, hg1, hg2, hcap, hcm, hcl⟩ := row_shape hR (by intro e; have := dustsL_len l wi n; rw [e] at this; simp at this; omega)
    rw [dustsL_len]
    have HCl : Hid (∀ i, i < n → w4.cell? ⟨g, i, none⟩ = some (Value.int .u64 ((dmI l wi i : Nat) : Int))) := Lib.hid (fun i hi => by rw [hcl i (by rw [dustsL_len]; exact hi), dustsL_get l wi n i hi]; rfl)
    have K4 := Lib.hid (heap_below hb4 (lt_of_heap K3.out) K3.out)
    have G4 := Lib.hid (heap_below hb4 (lt_of_heap HG.out) HG.out)
    have L4 : Hid (g8 < g) := Lib.hid (Nat.lt_of_lt_of_le (lt_of_heap HG.out) hg1)
    have L4b : Hid (g < w4.heap.size) := Lib.hid hg2
    have HB4 := Lib.hid (bt HB3.out hb4)
    clear hb4 hR hcl hg1 hg2 hcap hcm K3 HG HB3
    go_upto_region 6 with fail
    go_loopw [9, 28] (fun lf i wr => ∃ k : Nat, k ≤ n ∧ i = .int .i64 k ∧ lf = .int .u64 (boL l wi k : Nat) ∧ wr.heap[g8]? = some (.cells (arr .i16 (boO l wi k)) 37 (0, 0)) ∧ wr.heap[w.heap.size]? = some (.cells (arr .i16 Z64) 37 (0, 0)) ∧ (∀ i, i < n → wr.cell? ⟨g, i, none⟩ = some (Value.int .u64 ((dmI l wi i : Nat) : Int))) ∧ g < wr.heap.size ∧ Below w.heap.size w wr) (fun _ i _ => n - (intOf i).toNat)
    case atStart => exact ⟨0, Nat.zero_le _, rfl, rfl, G4.out, K4.out, HCl.out, L4b.out, HB4.out⟩
    case round =>
      clear G4 K4 HCl L4b HB4
      obtain ⟨k, hk, rfl, hlf, hG, hK, hC, hL, hW⟩ := hrel
      have HG := Lib.hid hG
      have HK := Lib.hid hK
      have HC := Lib.hid hC
      have HL := Lib.hid hL
      have HW := Lib.hid hW
      clear hG hK hC hL hW
      subst hlf
      by_cases hlt : k < n
      · obtain ⟨b, o, rfl, hb, hat⟩ := HA.out (ne_of_lt (k := k) (by have := HN.out; omega))
        obtain ⟨q, hpe⟩ : ∃ q, q = l.getD k [] := ⟨_, rfl⟩
        have HPr : Hid (Pr q) := Lib.hid (by rw [hpe]; exact HP.out k (by have := HN.out; omega))
        have HRw : Hid (∀ W, Below w.heap.size w W → W.rangeAt b (o + k * 64) (cellsP q)) := Lib.hid (fun W hW => by rw [hpe]; exact rangeAt_below hW hb (hat k (by have := HN.out; omega)))
        have hcd := HC.out k hlt
        have HPe := Lib.hid hpe
        have hki : (k : Int) < n := by omega
        have han : bits .andNot .u64 (boL l wi k : Int) (dmI l wi k : Int) = (boC l wi k : Int) := andNot_int (boL l wi k) (dmI l wi k) (boL_lt l wi k) (dmI_lt l wi k)
        have had : bits .and .u64 (boL l wi k : Int) (dmI l wi k : Int) = (boL l wi (k + 1) : Int) := and64 (boL l wi k) (dmI l wi k) (boL_lt l wi k) (dmI_lt l wi k)
        have HCt := boC_lt l wi k
        have HCI := Lib.hid (cellsIn_c (boC l wi k) HCt wr (TabAt_below HW.out H00.out HT.out))
        have HSt := Lib.hid (midO_start l wi k)
        have hbl := bitsL_le (boC l wi k) HCt
        have HMem := Lib.hid (mem_bitsL (boC l wi k) HCt)
        have HBG := Lib.hid (bitsI_get (boC l wi k))
        obtain ⟨nb, hnb⟩ : ∃ nb, nb = (bitsL (boC l wi k)).length := ⟨_, rfl⟩
        rw [← hnb] at hbl
        have HNB := Lib.hid hnb
        obtain ⟨LA, hLA⟩ : ∃ LA, LA = boL l wi k := ⟨_, rfl⟩
        obtain ⟨LB, hLB⟩ : ∃ LB, LB = boL l wi (k + 1) := ⟨_, rfl⟩
        obtain ⟨CC, hCC⟩ : ∃ CC, CC = boC l wi k := ⟨_, rfl⟩
        obtain ⟨DD, hDD⟩ : ∃ DD, DD = dmI l wi k := ⟨_, rfl⟩
        rw [← hLA, ← hDD, ← hCC] at han
        rw [← hLA, ← hDD, ← hLB] at had
        rw [← hDD] at hcd
        rw [← hCC] at HCI
        rw [← hLA]
        have HLB := Lib.hid hLB
        have HCC := Lib.hid hCC
        clear hpe hat hnb HCt hLA hLB hCC hDD
        go_wp2_with fail
        refine (HCI.out).mono ?_
        rintro e w5 ⟨v, rfl, hR5, hb5⟩
        obtain ⟨p5, c5, rfl, _⟩ := row_any hR5
        rw [bitsI_len, HCC.out, ← HNB.out]
        rw [bitsI_len, HCC.out, ← HNB.out] at hR5
        have HC5 : Hid (∀ i, i < nb → ∃ gi, p5 = some ⟨gi, 0, none⟩ ∧ wr.heap.size ≤ gi ∧ gi < w5.heap.size ∧ ∀ m, m < nb → w5.cell? ⟨gi, m, none⟩ = some (Value.int .i64 (((bitsL (boC l wi k)).getD m 0 : Nat) : Int))) := Lib.hid (fun i hi => by
          obtain ⟨gi, ci, hv, h1, h2, _, _, h3⟩ := row_shape hR5 (by intro e; have := bitsI_len (boC l wi k); rw [e, ← HNB.out] at this; simp at this; omega)
          simp only [Value.slice.injEq] at hv
          exact ⟨gi, hv.1, h1, h2, fun m hm => by rw [h3 m (by rw [bitsI_len, ← HNB.out]; exact hm), HBG.out m (by rw [← HNB.out]; exact hm)]⟩)
        have HG5 := Lib.hid (heap_below hb5 (lt_of_heap HG.out) HG.out)
        have HK5 := Lib.hid (heap_below hb5 (lt_of_heap HK.out) HK.out)
        have HM5 := Lib.hid (cells_below hb5 HL.out HC.out)
        have HL5 := Lib.hid (Nat.lt_of_lt_of_le HL.out hb5.size)
        have HW5 := Lib.hid (bt HW.out hb5)
        have HGl : Hid (g8 < wr.heap.size) := Lib.hid (lt_of_heap HG.out)
        clear hb5 hR5 HG HK HC HL HW HCI
        generalize wr.heap.size = zr at *
        go_upto_region 9 with fail
        go_loopw [38] (fun j wr => ∃ (m : Nat) (P : List Int), m ≤ nb ∧ j = .int .i64 m ∧ midO l wi k m P ∧ wr.heap[g8]? = some (.cells (arr .i16 P) 37 (0, 0)) ∧ wr.heap[w.heap.size]? = some (.cells (arr .i16 Z64) 37 (0, 0)) ∧ (∀ i, i < n → wr.cell? ⟨g, i, none⟩ = some (Value.int .u64 ((dmI l wi i : Nat) : Int))) ∧ g < wr.heap.size ∧ (∀ i, i < nb → ∃ gi, p5 = some ⟨gi, 0, none⟩ ∧ zr ≤ gi ∧ gi < wr.heap.size ∧ ∀ m, m < nb → wr.cell? ⟨gi, m, none⟩ = some (Value.int .i64 (((bitsL (boC l wi k)).getD m 0 : Nat) : Int))) ∧ Below w.heap.size w wr) (fun j _ => nb - (intOf j).toNat)
        case atStart => exact ⟨0, boO l wi k, Nat.zero_le _, rfl, HSt.out, HG5.out, HK5.out, HM5.out, HL5.out, HC5.out, HW5.out⟩
        case round =>
          clear HG5 HK5 HM5 HL5 HC5 HW5 HSt
          obtain ⟨m, P, hmn, rfl, hmid, hG, hK, hM, hL, hC, hW⟩ := hrel
          have HMid := Lib.hid hmid
          have HG := Lib.hid hG
          have HK := Lib.hid hK
          have HM := Lib.hid hM
          have HL := Lib.hid hL
          have HC := Lib.hid hC
          have HW := Lib.hid hW
          clear hM hL hC hK
          by_cases hmt : m < nb
          · obtain ⟨gi, rfl, hz1, hz2, hgi⟩ := HC.out m hmt
            obtain ⟨i, hie⟩ : ∃ i, i = (bitsL (boC l wi k)).getD m 0 := ⟨_, rfl⟩
            have hi64 : i < 64 := by
              have h1 : i ∈ bitsL (boC l wi k) := by rw [hie, List.getD_eq_getElem?_getD, List.getElem?_eq_getElem (by rw [← HNB.out]; exact hmt)]; exact List.getElem_mem _
              have h2 := (HMem.out i).1 h1
              rcases Nat.lt_or_ge i 64 with h | h
              · exact h
              · rw [Nat.testBit_lt_two_pow (Nat.lt_of_lt_of_le (boC_lt l wi k) (Nat.pow_le_pow_right (by omega) h))] at h2; cases h2
            have hci := hgi m hmt
            rw [← hie] at hci
            obtain ⟨x, hxe⟩ : ∃ x, x = q.getD i 0 := ⟨_, rfl⟩
            have hcx : wr.cell? ⟨b, o + k * 64 + i, none⟩ = some (.int .i16 x) := by rw [hxe]; exact HRw.out _ hW i _ (cellsP_get _ _ (by rw [HPr.out.1]; exact hi64))
            have hco := arr_cell hG i (by rw [hmid.1]; exact hi64)
            have hfo := frozen_of_row _ _ i _ _ hG
            have hii : (i : Int) < 64 := by omega
            have hmi : (m : Int) < nb := by omega
            have HNx : Hid (midO l wi k (m + 1) (P.set i x)) := Lib.hid (by rw [hxe, HPe.out]; exact midO_next hmid (by rw [← HNB.out]; exact hmt) hie.symm hi64)
            have HZ1 := Lib.hid hz1
            have HC2 : Hid (∀ j, j < nb → ∃ gj, some (⟨gi, 0, none⟩ : Addr) = some ⟨gj, 0, none⟩ ∧ zr ≤ gj ∧ gj < (wr.setCell ⟨g8, i, none⟩ (.int .i16 x)).heap.size ∧ ∀ m, m < nb → (wr.setCell ⟨g8, i, none⟩ (.int .i16 x)).cell? ⟨gj, m, none⟩ = some (Value.int .i64 (((bitsL (boC l wi k)).getD m 0 : Nat) : Int))) := Lib.hid (fun j hj => ⟨gi, rfl, hz1, by simpa using hz2, cells_far hgi _ _ (by have := HGl.out; simp; omega)⟩)
            clear hie hxe hG hW hmid hgi hz1 hz2
            go_wp2
            go_roundw
            case rel => exact ⟨m + 1, P.set i x, by omega, by go_num, HNx.out, arr_store HG.out _ _, heap_far _ (by have := L3.out; simp; omega) HK.out, cells_far HM.out _ _ (by have := L4.out; simp; omega), by simpa using HL.out, HC2.out, HW.out.setCell (p := ⟨g8, _, none⟩) (by have := L3.out; simp; omega) _⟩
            case measure => simp [intOf]; omega
          · have hmn' : m = nb := by omega
            subst hmn'
            have HPf : Hid (wr.heap[g8]? = some (.cells (arr .i16 (boO l wi (k + 1))) 37 (0, 0))) := Lib.hid (by rw [← midO_end (by rw [← HNB.out]; exact hmid)]; exact hG)
            clear hG hW hmid
            go_wp2
            go_roundw
            case rel => exact ⟨k + 1, by omega, by go_num, by rw [HLB.out], HPf.out, HK.out, HM.out, HL.out, HW.out⟩
            case measure => simp [intOf]; omega
      · have hkn : k = n := by omega
        subst hkn
        have hszO : (arr .i16 (boO l wi k)).size = 64 := by rw [arr_size, boO_length]
        go_wp2_with (first
          | (refine wpList_load_row rfl 37 (.tmp 8) rfl _ rfl _ _ _ _ HG.out Tryd.underlying37 rfl (by rw [szPrint, hszO]) ?_)
          | (refine wpList_store_row rfl 37 (.tmp 4) (.tmp 55) rfl w.heap.size (arr .i16 (boO l wi k)) rfl rfl 37 (arr .i16 Z64) HK.out (by rw [szPrint, hszO]) (by rw [hszO, arr_size, Z64_length]) (arr_one _ _) ?_))
        exact bodyPost_ret (res_ctt rfl _ _ _ 37 _ _ _ rfl (setRow_heap _ _ _ _ _ _ HK.out) Tryd.underlying37 rfl (by rw [szPrint, hszO])) rfl ⟨by rw [HV.out] <;> rfl, below_setRow HW.out (Nat.le_refl _) _⟩
  · have HV : Hid (boV l wi = (Z64, 0, cpV l (dnB wi))) := Lib.hid (by simp [boV, hc])
    have hne : (cpV l (dnB wi) != 0) = true := by simpa using hc
    generalize cpV l (dnB wi) = cc at *
    go_wp2_with (go_at_call 62; refine (isDensity_c _ _).mono ?_; rintro e w' ⟨rfl, rfl⟩)
    refine (HZ.out _ (PS_below KB.out HA.out)).mono ?_
    rintro e w1 ⟨rfl, hb1⟩
    have K1 := Lib.hid (heap_below hb1 (lt_of_heap K0.out) K0.out)
    have HB := Lib.hid (bt KB.out hb1)
    clear hb1 HZ K0 KB
    go_wp2_with (rw [z64_Z]; refine wpList_store_row rfl 37 (.tmp 4) (.tmp 20) rfl w.heap.size (arr .i16 Z64) rfl rfl 37 (arr .i16 Z64) K1.out (by rw [szPrint, arr_size, Z64_length]) rfl (arr_one _ _) ?_)
    exact bodyPost_ret (res_ctt rfl _ _ _ 37 _ _ _ rfl (setRow_heap _ _ _ _ _ _ K1.out) Tryd.underlying37 rfl (by rw [szPrint, arr_size, Z64_length])) rfl ⟨by rw [HV.out] <;> rfl, below_setRow HB.out (Nat.le_refl _) _⟩
end Go.Proofs.YtdmlefccajaniaaDoor
