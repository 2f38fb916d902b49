/- ScratchIn: the program. -/
import Derived.Test.YtdmlefccajaniaaDoorScratch
namespace Go.Proofs.YtdmlefccajaniaaDoor
open Go.RowKit
set_option maxHeartbeats 4000000 in
set_option maxRecDepth 100000 in
theorem implScratchIn_c (bf : List Int) (hbf : Pr bf) (p : Option Addr) (n c : Nat) (l : List (List Int)) (hl : Prs l) (hn : n = l.length) (hm : n ≤ 1048576) (wi : Int) (w : World) (hp : PS w p l) :
    Calls Tryd.prog 35 #[.agg (arr .i16 bf), .slice p n c, .int .i64 wi] w fun e w' => e = .returned (.tuple #[.int .u64 ((siV bf l wi).1 : Nat), .int .i64 (siV bf l wi).2]) ∧ Below w.heap.size w w' := by
  have HN := Lib.hid hn
  have HA := Lib.hid hp
  have HP := Lib.hid hl
  clear hn hp hl
  have H0 := Lib.hid (al1_0 w (.cells (arr .i16 bf) 37))
  cases ho : okP bf
  · have HO := Lib.hid ho
    have HR : Hid (siV bf l wi = (0, 1)) := Lib.hid (by simp [siV, ho])
    clear ho
    go_enter Tryd.func35, Tryd.ntmps35
    go_wp2_with (refine wpList_load_row rfl 37 (.tmp 3) rfl _ rfl _ _ _ _ H0.out Tryd.underlying37 rfl (by rw [szPrint, arr_size, hbf.1]) ?_)
    refine (implValidPrint_c bf hbf _).mono ?_
    rintro e w1 ⟨rfl, hb1⟩
    rw [HO.out]
    have hB := Lib.hid (bt (bl1 _ _) hb1)
    clear hb1
    go_wp2
    go_ret2
    exact ⟨by rw [HR.out] <;> rfl, hB.out⟩
  · have HO := Lib.hid ho
    clear ho
    have HC := cpV_cases l (dnB wi)
    by_cases hc : cpV l (dnB wi) = 0
    · obtain ⟨h1, h2, h3, h4⟩ := cpV_zero hc
      have HR : Hid (siV bf l wi = (siM bf l wi, 0)) := Lib.hid (by simp [siV, HO.out, hc])
      have HL := Lib.hid h1
      have n1 : 1 ≤ n := by rw [HN.out]; exact h2
      have n8 : n ≤ 8 := by rw [HN.out]; exact h3
      obtain ⟨w1, w2⟩ := (dnB_iff wi).1 h4
      have HZ := Lib.hid hc
      clear HC hc h1 h2 h3 h4
      go_enter Tryd.func35, Tryd.ntmps35
      go_wp2_with (refine wpList_load_row rfl 37 (.tmp 3) rfl _ rfl _ _ _ _ H0.out Tryd.underlying37 rfl (by rw [szPrint, arr_size, hbf.1]) ?_)
      refine (implValidPrint_c bf hbf _).mono ?_
      rintro e w3 ⟨rfl, hb1⟩
      rw [HO.out]
      have hB := Lib.hid (bt (bl1 _ _) hb1)
      have H1 := Lib.hid (heap_below hb1 (lt_of_heap H0.out) H0.out)
      clear hb1
      go_wp2_with (go_at_call 62; refine (isDensity_c _ _).mono ?_; rintro e w' ⟨rfl, rfl⟩)
      refine (copiesCode_c p n c l HP.out HN.out hm _ _ (PS_below hB.out HA.out)).mono ?_
      rintro e w4 ⟨rfl, hb4⟩
      rw [HZ.out]
      have hB4 := Lib.hid (bt hB.out hb4)
      have H4 := Lib.hid (heap_below hb4 (lt_of_heap H1.out) H1.out)
      have HA4 := Lib.hid (PS_below hB4.out HA.out)
      clear hb4 hB H1 H0 HA
      go_wp2
      go_loopw [9, 10, 28] (fun d g i wr => ∃ m D E : Nat, m ≤ n ∧ i = .int .i64 m ∧ d = .int .u64 D ∧ g = .int .u64 E ∧ isM D (fun j => drk bf l wi j m) ∧ isM E (fun j => lgt bf l wi j m) ∧ Below w4.heap.size w4 wr) (fun _ _ i _ => n - (intOf i).toNat)
      case atStart => exact ⟨0, 18446744073709551615, 18446744073709551615, Nat.zero_le _, rfl, rfl, rfl, isM_all, isM_all, Below.refl _ _⟩
      case round =>
        obtain ⟨m, D, E, hmn, rfl, rfl, rfl, hD, hE, hW⟩ := hrel
        have HD := Lib.hid hD
        have HE := Lib.hid hE
        have HW := Lib.hid hW
        clear hD hE hW
        by_cases hmt : m < n
        · obtain ⟨b, o, rfl, hb, hat⟩ := HA4.out (ne_of_lt (k := m) (by have := HN.out; omega))
          obtain ⟨q, hpe⟩ : ∃ q, q = l.getD m [] := ⟨_, rfl⟩
          have HPr : Hid (Pr q) := Lib.hid (by rw [hpe]; exact HP.out m (by have := HN.out; omega))
          have HQ : Hid (okP q = true) := Lib.hid (by rw [hpe]; exact okL_get HL.out m (by have := HN.out; omega))
          have HRg : Hid (wr.rangeAt b (o + m * 64) (cellsP q)) := Lib.hid (by rw [hpe]; exact rangeAt_below HW.out hb (hat m (by have := HN.out; omega)))
          have H64 : Hid ((cellsP q).length = 64) := Lib.hid (by rw [cellsP_length]; exact HPr.out.1)
          have HQe := Lib.hid hpe
          have hmd : decide ((m : Int) < n) = true := by simp; omega
          clear hpe hat
          obtain ⟨wo, rfl⟩ : ∃ wo : World, wo = wr := ⟨_, rfl⟩
          go_upto_region 10 with (first
            | (refine wpList_load_mid rfl 37 (.tmp 30) rfl b (o + m * 64) rfl (cellsP q) _ HRg.out Tryd.underlying37 rfl (by rw [szPrint, H64.out]) ?_)
            | (rw [z64_Z]; refine wpList_store_row rfl 37 (.tmp 12) (.tmp 31) rfl wo.heap.size (arr .i16 q) rfl rfl 37 (arr .i16 Z64) (al1_0 _ _) (by rw [szPrint, arr_size, HPr.out.1]) (by rw [arr_size, arr_size, HPr.out.1]; rfl) (arr_one _ _) ?_))
          have HRow := Lib.hid (setRow_heap (wo.alloc (.cells (arr .i16 Z64) 37)) wo.heap.size _ (arr .i16 q) 37 (0, 0) (al1_0 _ _))
          have HB2 := Lib.hid (bt HW.out (below_setRow (bl1 wo (.cells (arr .i16 Z64) 37)) (Nat.le_refl _) (arr .i16 q)))
          generalize (wo.alloc (.cells (arr .i16 Z64) 37)).setRow wo.heap.size (arr .i16 q) = w5 at *
          generalize wo.heap.size = g8 at *
          have H5 := Lib.hid (heap_below HB2.out (lt_of_heap H4.out) H4.out)
          clear HRg HW
          go_wp2_with (refine wpList_load_row rfl 37 (.tmp 12) rfl _ rfl _ _ _ _ HRow.out Tryd.underlying37 rfl (by rw [szPrint, arr_size, HPr.out.1]) ?_)
          go_loop [9, 10, 33] (fun d g i => ∃ k D E : Nat, k ≤ 64 ∧ i = .int .i64 k ∧ d = .int .u64 D ∧ g = .int .u64 E ∧ isM D (fun j => if j < k then drk bf l wi j (m + 1) else drk bf l wi j m) ∧ isM E (fun j => if j < k then lgt bf l wi j (m + 1) else lgt bf l wi j m)) (fun _ _ i => 64 - (intOf i).toNat)
          case atStart => exact ⟨0, D, E, Nat.zero_le _, rfl, rfl, rfl, HD.out, HE.out⟩
          case round =>
            obtain ⟨k, D, E, hk, rfl, rfl, rfl, hD, hE⟩ := hrel
            have HD := Lib.hid hD
            have HE := Lib.hid hE
            clear hD hE
            by_cases hlt : k < 64
            · obtain ⟨x, hxe⟩ : ∃ x, x = q.getD k 0 := ⟨_, rfl⟩
              obtain ⟨y, hye⟩ : ∃ y, y = bf.getD k 0 := ⟨_, rfl⟩
              have hcy : w5.cell? ⟨w.heap.size, k, none⟩ = some (.int .i16 y) := by rw [hye]; exact arr_cell H5.out k (by rw [hbf.1]; exact hlt)
              obtain ⟨x1, x2⟩ := okP_get HQ.out k
              obtain ⟨y1, y2⟩ := okP_get HO.out k
              rw [← hxe] at x1 x2
              rw [← hye] at y1 y2
              have HX : Hid (x - y = dif bf l m k) := Lib.hid (by rw [hxe, hye, HQe.out]; rfl)
              have HXe := Lib.hid hxe
              have CD := Lib.hid (clear_int D k HD.out.1 hlt)
              have CE := Lib.hid (clear_int E k HE.out.1 hlt)
              have ND : Hid (x - y ≤ wi → isM (clr D k) (fun j => if j < k + 1 then drk bf l wi j (m + 1) else drk bf l wi j m)) := Lib.hid fun hle => isM_congr (isM_clear HD.out k hlt) fun j _ => by
                by_cases e : j = k
                · subst e; simp [drk, ← HX.out, show ¬ wi < x - y by omega]
                · by_cases h : j < k
                  · simp [h, e, show j < k + 1 by omega]
                  · simp [h, e, show ¬ j < k + 1 by omega]
              have SD : Hid (¬ x - y ≤ wi → isM D (fun j => if j < k + 1 then drk bf l wi j (m + 1) else drk bf l wi j m)) := Lib.hid fun hle => isM_congr HD.out fun j _ => by
                by_cases e : j = k
                · subst e; simp [drk, ← HX.out, show wi < x - y by omega]
                · by_cases h : j < k
                  · simp [h, show j < k + 1 by omega]
                  · simp [h, show ¬ j < k + 1 by omega]
              have NE : Hid (-(x - y) ≤ wi → isM (clr E k) (fun j => if j < k + 1 then lgt bf l wi j (m + 1) else lgt bf l wi j m)) := Lib.hid fun hle => isM_congr (isM_clear HE.out k hlt) fun j _ => by
                by_cases e : j = k
                · subst e; simp [lgt, ← HX.out, show ¬ x - y < -wi by omega]
                · by_cases h : j < k
                  · simp [h, e, show j < k + 1 by omega]
                  · simp [h, e, show ¬ j < k + 1 by omega]
              have SE : Hid (¬ -(x - y) ≤ wi → isM E (fun j => if j < k + 1 then lgt bf l wi j (m + 1) else lgt bf l wi j m)) := Lib.hid fun hle => isM_congr HE.out fun j _ => by
                by_cases e : j = k
                · subst e; simp [lgt, ← HX.out, show x - y < -wi by omega]
                · by_cases h : j < k
                  · simp [h, show j < k + 1 by omega]
                  · simp [h, show ¬ j < k + 1 by omega]
              clear hxe hye
              have hcases : (¬ x - y ≤ wi ∧ -(x - y) ≤ wi) ∨ (x - y ≤ wi ∧ ¬ -(x - y) ≤ wi) ∨ (x - y ≤ wi ∧ -(x - y) ≤ wi) := by omega
              rcases hcases with ⟨g1, g2⟩ | ⟨g1, g2⟩ | ⟨g1, g2⟩
              all_goals
                go_wp2_with (refine wpList_index_arr rfl 37 (.tmp 32) (.tmp 33) rfl q rfl k rfl 64 35 Tryd.underlying37 szI16 Tryd.underlying35 hlt HPr.out.1 ?_; rw [← HXe.out])
                go_round
              · case rel => exact ⟨k + 1, D, clr E k, by omega, by go_num, rfl, by exact congrArg _ CE.out, SD.out g1, NE.out g2⟩
              · case measure => simp [intOf]; omega
              · case rel => exact ⟨k + 1, clr D k, E, by omega, by go_num, by exact congrArg _ CD.out, rfl, ND.out g1, SE.out g2⟩
              · case measure => simp [intOf]; omega
              · case rel => exact ⟨k + 1, clr D k, clr E k, by omega, by go_num, by exact congrArg _ CD.out, by exact congrArg _ CE.out, ND.out g1, NE.out g2⟩
              · case measure => simp [intOf]; omega
            · have hk64 : k = 64 := by omega
              subst hk64
              have MD : Hid (isM D (fun j => drk bf l wi j (m + 1))) := Lib.hid (isM_congr HD.out fun j hj => by simp [hj])
              have ME : Hid (isM E (fun j => lgt bf l wi j (m + 1))) := Lib.hid (isM_congr HE.out fun j hj => by simp [hj])
              go_wp2
              go_roundw
              case rel => exact ⟨m + 1, D, E, by omega, by go_num, rfl, rfl, MD.out, ME.out, HB2.out⟩
              case measure => simp [intOf]; omega
        · have hmn' : m = n := by omega
          subst hmn'
          have HO2 : Hid (bits .or .u64 (D : Int) (E : Int) = ((D ||| E : Nat) : Int)) := Lib.hid (or64 D E HD.out.1 HE.out.1)
          have HR2 : Hid (siV bf l wi = (D ||| E, 0)) := Lib.hid (by rw [HR.out, siM, ← HN.out, isM_eq (isM_or HD.out HE.out)])
          go_wp2
          go_ret2
          exact ⟨by rw [HR2.out, HO2.out] <;> rfl, bt hB4.out HW.out⟩
    · have HR : Hid (siV bf l wi = (0, cpV l (dnB wi))) := Lib.hid (by simp [siV, HO.out, hc])
      have hne : (cpV l (dnB wi) != 0) = true := by simpa using hc
      have HZ : Hid (∀ w, PS w p l → Calls Tryd.prog 58 #[.slice p n c, .bool (dnB wi)] w fun e w' => e = .returned (.int .i64 (cpV l (dnB wi))) ∧ Below w.heap.size w w') := Lib.hid fun w hp => copiesCode_c p n c l HP.out HN.out hm _ w hp
      generalize cpV l (dnB wi) = cc at *
      go_enter Tryd.func35, Tryd.ntmps35
      go_wp2_with (refine wpList_load_row rfl 37 (.tmp 3) rfl _ rfl _ _ _ _ H0.out Tryd.underlying37 rfl (by rw [szPrint, arr_size, hbf.1]) ?_)
      refine (implValidPrint_c bf hbf _).mono ?_
      rintro e w3 ⟨rfl, hb1⟩
      rw [HO.out]
      have hB := Lib.hid (bt (bl1 _ _) hb1)
      clear hb1
      go_wp2_with (go_at_call 62; refine (isDensity_c _ _).mono ?_; rintro e w' ⟨rfl, rfl⟩)
      refine (HZ.out _ (PS_below hB.out HA.out)).mono ?_
      rintro e w4 ⟨rfl, hb4⟩
      have hB4 := Lib.hid (bt hB.out hb4)
      clear hb4 HZ
      go_wp2
      go_ret2
      exact ⟨by rw [HR.out] <;> rfl, hB4.out⟩
end Go.Proofs.YtdmlefccajaniaaDoor
namespace Go.Proofs.YtdmlefccajaniaaDoor
open Go.RowKit
set_option maxHeartbeats 4000000 in
set_option maxRecDepth 100000 in
theorem specScratchIn_c (bf : List Int) (hbf : Pr bf) (p : Option Addr) (n c : Nat) (l : List (List Int)) (hl : Prs l) (hn : n = l.length) (hm : n ≤ 1048576) (wi : Int) (w : World) (hp : PS w p l) :
    Calls Tryd.prog 36 #[.agg (arr .i16 bf), .slice p n c, .int .i64 wi] w fun e w' => e = .returned (.tuple #[.int .u64 ((siV bf l wi).1 : Nat), .int .i64 (siV bf l wi).2]) ∧ Below w.heap.size w w' := by
  have HN := Lib.hid hn
  have HA := Lib.hid hp
  have HP := Lib.hid hl
  clear hn hp hl
  have H0 := Lib.hid (al1_0 w (.cells (arr .i16 bf) 37))
  cases ho : okP bf
  · have HO := Lib.hid ho
    have HR : Hid (siV bf l wi = (0, 1)) := Lib.hid (by simp [siV, ho])
    clear ho
    go_enter Tryd.func36, Tryd.ntmps36
    go_wp2_with fail
    refine (l03Print_c bf hbf _ _ _ (rangeAt_arr H0.out)).mono ?_
    rintro e w1 ⟨rfl, hb1⟩
    rw [HO.out]
    have hB := Lib.hid (bt (bl1 _ _) hb1)
    clear hb1
    go_wp2
    go_ret2
    exact ⟨by rw [HR.out] <;> rfl, hB.out⟩
  · have HO := Lib.hid ho
    clear ho
    have HC := cpV_cases l (dnB wi)
    by_cases hc : cpV l (dnB wi) = 0
    · obtain ⟨h1, h2, h3, h4⟩ := cpV_zero hc
      have HR : Hid (siV bf l wi = (siM bf l wi, 0)) := Lib.hid (by simp [siV, HO.out, hc])
      have HL := Lib.hid h1
      have n1 : 1 ≤ n := by rw [HN.out]; exact h2
      have n8 : n ≤ 8 := by rw [HN.out]; exact h3
      obtain ⟨w1, w2⟩ := (dnB_iff wi).1 h4
      have HZ := Lib.hid hc
      clear HC hc h1 h2 h3 h4
      go_enter Tryd.func36, Tryd.ntmps36
      go_wp2_with fail
      refine (l03Print_c bf hbf _ _ _ (rangeAt_arr H0.out)).mono ?_
      rintro e w3 ⟨rfl, hb1⟩
      rw [HO.out]
      have hB := Lib.hid (bt (bl1 _ _) hb1)
      have H1 := Lib.hid (heap_below hb1 (lt_of_heap H0.out) H0.out)
      clear hb1
      go_wp2_with fail
      refine (l07Copies_c p n c l HP.out HN.out hm wi _ (PS_below hB.out HA.out)).mono ?_
      rintro e w4 ⟨rfl, hb4⟩
      rw [HZ.out]
      have hB4 := Lib.hid (bt hB.out hb4)
      have H4 := Lib.hid (heap_below hb4 (lt_of_heap H1.out) H1.out)
      have HA4 := Lib.hid (PS_below hB4.out HA.out)
      clear hb4 hB H1 H0 HA
      go_wp2
      go_loopw [9, 10] (fun s i wr => ∃ k : Nat, k ≤ 64 ∧ i = .int .i64 k ∧ s = .int .u64 (maskOf (fun j => drk bf l wi j n || lgt bf l wi j n) k : Nat) ∧ Below w4.heap.size w4 wr) (fun _ i _ => 64 - (intOf i).toNat)
      case atStart => exact ⟨0, Nat.zero_le _, rfl, rfl, Below.refl _ _⟩
      case round =>
        obtain ⟨k, hk, rfl, hs, hW⟩ := hrel
        have hbd : maskOf (fun j => drk bf l wi j n || lgt bf l wi j n) k < 2 ^ 64 := Nat.lt_of_lt_of_le (maskOf_lt _ k) (Nat.pow_le_pow_right (by omega) hk)
        obtain ⟨D, hDe⟩ : ∃ D, D = maskOf (fun j => drk bf l wi j n || lgt bf l wi j n) k := ⟨_, rfl⟩
        rw [← hDe] at hs hbd
        subst hs
        have HD := Lib.hid hDe
        have HW := Lib.hid hW
        have HBD := Lib.hid hbd
        clear hDe hW hbd
        by_cases hlt : k < 64
        · obtain ⟨y, hye⟩ : ∃ y, y = bf.getD k 0 := ⟨_, rfl⟩
          obtain ⟨y1, y2⟩ := okP_get HO.out k
          rw [← hye] at y1 y2
          have HY := Lib.hid hye
          clear hye
          obtain ⟨wo, rfl⟩ : ∃ wo : World, wo = wr := ⟨_, rfl⟩
          have hkd : decide ((k : Int) < 64) = true := by simp; omega
          go_wp2
          go_loopw [11, 12, 13] (fun d g i wr => ∃ m : Nat, m ≤ n ∧ i = .int .i64 m ∧ d = .bool (drk bf l wi k m) ∧ g = .bool (lgt bf l wi k m) ∧ Below w4.heap.size w4 wr) (fun _ _ i _ => n - (intOf i).toNat)
          case atStart => exact ⟨0, Nat.zero_le _, rfl, rfl, rfl, HW.out⟩
          case round =>
            obtain ⟨m, hmn, rfl, hd, hg, hW⟩ := hrel
            obtain ⟨Dk, hdk⟩ : ∃ b, b = drk bf l wi k m := ⟨_, rfl⟩
            obtain ⟨Lg, hlg⟩ : ∃ b, b = lgt bf l wi k m := ⟨_, rfl⟩
            rw [← hdk] at hd
            rw [← hlg] at hg
            subst hd hg
            have HDk := Lib.hid hdk
            have HLg := Lib.hid hlg
            have HW := Lib.hid hW
            clear hdk hlg hW
            by_cases hmt : m < n
            · obtain ⟨b, o, rfl, hb, hat⟩ := HA4.out (ne_of_lt (k := m) (by have := HN.out; omega))
              obtain ⟨x, hxe⟩ : ∃ x, x = (l.getD m []).getD k 0 := ⟨_, rfl⟩
              have hcx : wr.cell? ⟨b, o + m * 64 + k, none⟩ = some (.int .i16 x) := by rw [HW.out.cell (p := ⟨b, _, none⟩) hb, hxe]; exact PrAt_cell hat HP.out m k (by have := HN.out; omega) hlt
              have hcy : wr.cell? ⟨w.heap.size, k, none⟩ = some (.int .i16 y) := by rw [HY.out]; exact arr_cell (heap_below HW.out (lt_of_heap H4.out) H4.out) k (by rw [hbf.1]; exact hlt)
              obtain ⟨x1, x2⟩ := okP_get (okL_get HL.out m (by have := HN.out; omega)) k
              rw [← hxe] at x1 x2
              have HX : Hid (x - y = dif bf l m k) := Lib.hid (by rw [hxe, HY.out]; rfl)
              have hsub : IntKind.i64.wrap (x - y) = x - y := IntWalk.i64_in _ (by omega)
              have hneg : IntKind.i64.wrap (-wi) = -wi := IntWalk.i64_in _ (by omega)
              clear hxe hat
              have HD2 : Hid (drk bf l wi k (m + 1) = (Dk && decide (wi < x - y))) := Lib.hid (by rw [drk, ← HDk.out, ← HX.out])
              have HL2 : Hid (lgt bf l wi k (m + 1) = (Lg && decide (x - y < -wi))) := Lib.hid (by rw [lgt, ← HLg.out, ← HX.out])
              clear HDk HLg
              have hd14 : True := trivial
              go_upto_region 15 with fail
              have hcases : (wi < x - y ∧ ¬ x - y < -wi) ∨ (¬ wi < x - y ∧ x - y < -wi) ∨ (¬ wi < x - y ∧ ¬ x - y < -wi) := by omega
              rcases hcases with ⟨g1, g2⟩ | ⟨g1, g2⟩ | ⟨g1, g2⟩ <;> cases Dk <;> cases Lg
              all_goals
                go_wp2_with fail
                go_quiet (fail)
                go_wp2
                go_roundw
                case rel => exact ⟨m + 1, by omega, by go_num, by rw [HD2.out]; simp [g1], by rw [HL2.out]; simp [g2], bl_drewN HW.out _⟩
                case measure => simp [intOf]; omega
            · have hmn' : m = n := by omega
              subst hmn'
              have HK2 : Hid ((drk bf l wi k m || lgt bf l wi k m) = (Dk || Lg)) := Lib.hid (by rw [HDk.out, HLg.out])
              have HS : Hid (bits .or .u64 (D : Int) (IntKind.u64.wrap ((2 : Int) ^ k)) = ((D ||| 2 ^ k : Nat) : Int)) := Lib.hid (set_int D k HBD.out hlt)
              have HM : Hid (maskOf (fun j => drk bf l wi j m || lgt bf l wi j m) (k + 1) = (D ||| (if (Dk || Lg) then 2 ^ k else 0))) := Lib.hid (by rw [maskOf, ← HD.out, HK2.out])
              clear HK2 HDk HLg HD
              cases Dk <;> cases Lg
              all_goals
                go_wp2
                go_roundw
                case rel => exact ⟨k + 1, by omega, by go_num, by rw [HM.out]; first | exact congrArg _ HS.out | simp, HW.out⟩
                case measure => simp [intOf]; omega
        · have hk64 : k = 64 := by omega
          subst hk64
          have HR2 : Hid (siV bf l wi = (D, 0)) := Lib.hid (by rw [HR.out, siM, ← HN.out, HD.out])
          go_wp2
          go_ret2
          exact ⟨by rw [HR2.out] <;> rfl, bt hB4.out HW.out⟩
    · have HR : Hid (siV bf l wi = (0, cpV l (dnB wi))) := Lib.hid (by simp [siV, HO.out, hc])
      have hne : (cpV l (dnB wi) != 0) = true := by simpa using hc
      have HZ : Hid (∀ w, PS w p l → Calls Tryd.prog 60 #[.slice p n c, .int .i64 wi] w fun e w' => e = .returned (.int .i64 (cpV l (dnB wi))) ∧ Below w.heap.size w w') := Lib.hid fun w hp => l07Copies_c p n c l HP.out HN.out hm wi w hp
      generalize cpV l (dnB wi) = cc at *
      go_enter Tryd.func36, Tryd.ntmps36
      go_wp2_with fail
      refine (l03Print_c bf hbf _ _ _ (rangeAt_arr H0.out)).mono ?_
      rintro e w3 ⟨rfl, hb1⟩
      rw [HO.out]
      have hB := Lib.hid (bt (bl1 _ _) hb1)
      clear hb1
      go_wp2_with fail
      refine (HZ.out _ (PS_below hB.out HA.out)).mono ?_
      rintro e w4 ⟨rfl, hb4⟩
      have hB4 := Lib.hid (bt hB.out hb4)
      clear hb4 HZ
      go_wp2
      go_ret2
      exact ⟨by rw [HR.out] <;> rfl, hB4.out⟩
end Go.Proofs.YtdmlefccajaniaaDoor
