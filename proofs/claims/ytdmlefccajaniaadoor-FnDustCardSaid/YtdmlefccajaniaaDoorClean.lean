/- CleanestCopy: the reference and the program. -/
import Derived.Test.YtdmlefccajaniaaDoorBocP
import Derived.Test.YtdmlefccajaniaaDoorRepW
import Derived.Test.YtdmlefccajaniaaDoorOnes
namespace Go.Proofs.YtdmlefccajaniaaDoor
open Go.RowKit Go.Lib
set_option maxHeartbeats 4000000 in
set_option maxRecDepth 100000 in
theorem specCC_c (p : Option Addr) (n c : Nat) (l : List (List Int)) (hl : Prs l) (hn : n = l.length) (hm : n ≤ 1048576) (wi : Int) (w : World) (hp : PS w p l) :
    Calls Tryd.prog 28 #[.slice p n c, .int .i64 wi] w fun e w' => e = .returned (.tuple #[.int .i64 (clV l wi).1, .int .i64 (clV l wi).2.1, .int .i64 (clV l wi).2.2]) ∧ Below w.heap.size w w' := by
  have HN := Lib.hid hn
  have HA := Lib.hid hp
  have HP := Lib.hid hl
  clear hn hp hl
  by_cases hc : cpV l (dnB wi) = 0
  · obtain ⟨hok, h1, h2, h4⟩ := cpV_zero hc
    have HZ : Hid (∀ w, PS w p l → Calls Tryd.prog 60 #[.slice p n c, .int .i64 wi] w fun e w' => e = .returned (.int .i64 0) ∧ Below w.heap.size w w') := Lib.hid fun w hp => by have := l07Copies_c p n c l HP.out HN.out hm wi w hp; rwa [hc] at this
    have n1 : 1 ≤ n := by rw [HN.out]; exact h1
    have n8 : n ≤ 8 := by rw [HN.out]; exact h2
    have HOK := Lib.hid hok
    have HV : Hid (clV l wi = (((clS l wi n).1 : Int), ((clS l wi n).2 : Int), (0 : Int))) := Lib.hid (by simp [clV, hc, HN.out])
    have HM : Hid (D400 (medP l)) := Lib.hid (medP_D400 hok (by omega))
    have hszM : (arr .i16 (medP l)).size = 64 := by rw [arr_size, medP_length]
    clear hc hok h1 h2 h4
    go_enter Tryd.func28, Tryd.ntmps28
    go_wp2_with fail
    refine (HZ.out _ HA.out).mono ?_
    rintro e w1 ⟨rfl, hb1⟩
    have HB := Lib.hid hb1
    clear hb1
    go_wp2_with fail
    refine (l07Median_c _ n c l HP.out HN.out n8 (by omega) _ (PS_below HB.out HA.out)).mono ?_
    rintro e w2 ⟨rfl, hb2⟩
    have HB2 := Lib.hid (bt HB.out hb2)
    clear hb2
    go_upto_region 5 with (rw [z64_Z]; refine wpList_store_row rfl 37 (.tmp 8) (.tmp 20) rfl w2.heap.size (arr .i16 (medP l)) rfl rfl 37 (arr .i16 Z64) (al1_0 _ _) (by rw [szPrint, hszM]) (by rw [hszM, arr_size, Z64_length]) (arr_one _ _) ?_)
    have HG := Lib.hid (setRow_heap (w2.alloc (.cells (arr .i16 Z64) 37)) w2.heap.size _ (arr .i16 (medP l)) 37 (0, 0) (al1_0 _ _))
    have hb3 := below_setRow (bl1 w2 (.cells (arr .i16 Z64) 37)) (Nat.le_refl _) (arr .i16 (medP l))
    have HB3 := Lib.hid (bt HB2.out hb3)
    clear hb3
    generalize (w2.alloc (.cells (arr .i16 Z64) 37)).setRow w2.heap.size (arr .i16 (medP l)) = w3 at *
    generalize w2.heap.size = g9 at *
    go_upto_region 8 with fail
    go_loopw [9, 10, 11] (fun b m i wr => ∃ k : Nat, k ≤ n ∧ i = .int .i64 k ∧ b = .int .i64 (clS l wi k).1 ∧ m = .int .i64 (if k = 0 then -1 else ((clS l wi k).2 : Int)) ∧ Below w3.heap.size w3 wr) (fun _ _ i _ => n - (intOf i).toNat)
    case atStart => exact ⟨0, Nat.zero_le _, rfl, rfl, rfl, Below.refl _ _⟩
    case round =>
      obtain ⟨k, hk, rfl, hbk, hmk, hW⟩ := hrel
      obtain ⟨hc1, hc2, hc3⟩ := clS_first l wi k
      obtain ⟨B, hBe⟩ : ∃ B, B = (clS l wi k).1 := ⟨_, rfl⟩
      obtain ⟨Lc, hLe⟩ : ∃ L, L = (clS l wi k).2 := ⟨_, rfl⟩
      rw [← hBe] at hbk hc1
      rw [← hLe] at hmk hc2 hc3
      have HW := Lib.hid hW
      by_cases hlt : k < n
      · subst hbk
        obtain ⟨b, o, rfl, hb, hat⟩ := HA.out (ne_of_lt (k := k) (by have := HN.out; omega))
        obtain ⟨q, hpe⟩ : ∃ q, q = l.getD k [] := ⟨_, rfl⟩
        have HQ : Hid (D400 q) := Lib.hid (by rw [hpe]; exact okP_D400 (HP.out k (by have := HN.out; omega)) (okL_get HOK.out k (by have := HN.out; omega)))
        have HRg : Hid (wr.rangeAt b (o + k * 64) (cellsP q)) := Lib.hid (by rw [hpe]; exact rangeAt_below (bt HB3.out hW) hb (hat k (by have := HN.out; omega)))
        have HG2 := Lib.hid (heap_below hW (lt_of_heap HG.out) HG.out)
        have hdm : dmI l wi k = difM (medP l) q wi := by rw [dmI, hpe]
        have HD := Lib.hid (l07Dust_c (medP l) q HM.out HQ.out b (o + k * 64) g9 wi _ wr HRg.out HG2.out)
        have hcl := cnt_le (dmI l wi k)
        rw [hdm] at hcl
        have HC := Lib.hid (fun w => count_c (difM (medP l) q wi) (difM_lt _ _ _) w)
        have HStep : Hid (clS l wi (k + 1) = if cnt (difM (medP l) q wi) < Lc then (k, cnt (difM (medP l) q wi)) else (B, Lc)) := Lib.hid (by rw [clS, ← hLe, hdm, hBe]; congr 1; rw [hLe])
        have hki : (k : Int) < n := by omega
        generalize difM (medP l) q wi = dm at *
        generalize cnt dm = C at *
        have HL0 : Hid (k = 0 → Lc = 65) := Lib.hid (fun h => by rw [hLe, h]; rfl)
        clear hpe hat hW hBe hLe hdm
        by_cases h0 : k = 0
        · subst h0
          have hL65 : Hid (C < Lc) := Lib.hid (by have := HL0.out rfl; omega)
          rw [if_pos rfl] at hmk
          subst hmk
          go_wp2_with fail
          refine (HD.out).mono ?_
          rintro e w5 ⟨rfl, hb5⟩
          have HW5 := Lib.hid (bt HW.out hb5)
          clear hb5
          go_wp2_with fail
          refine (HC.out _).mono ?_
          rintro e w6 ⟨rfl, rfl⟩
          go_wp2
          go_roundw
          case rel => exact ⟨1, by omega, by go_num, by rw [HStep.out, if_pos hL65.out] <;> rfl, by rw [HStep.out, if_pos hL65.out] <;> rfl, HW5.out⟩
          case measure => simp [intOf]; omega
        · rw [if_neg h0] at hmk
          subst hmk
          have hL0 : ¬ ((Lc : Int) < 0) := by omega
          by_cases hCl : C < Lc
          · go_wp2_with fail
            refine (HD.out).mono ?_
            rintro e w5 ⟨rfl, hb5⟩
            have HW5 := Lib.hid (bt HW.out hb5)
            clear hb5
            go_wp2_with fail
            refine (HC.out _).mono ?_
            rintro e w6 ⟨rfl, rfl⟩
            go_wp2
            go_roundw
            case rel => exact ⟨k + 1, by omega, by go_num, by rw [HStep.out, if_pos hCl] <;> rfl, by rw [HStep.out, if_pos hCl] <;> rfl, HW5.out⟩
            case measure => simp [intOf]; omega
          · go_wp2_with fail
            refine (HD.out).mono ?_
            rintro e w5 ⟨rfl, hb5⟩
            have HW5 := Lib.hid (bt HW.out hb5)
            clear hb5
            go_wp2_with fail
            refine (HC.out _).mono ?_
            rintro e w6 ⟨rfl, rfl⟩
            go_wp2
            go_roundw
            case rel => exact ⟨k + 1, by omega, by go_num, by rw [HStep.out, if_neg hCl] <;> rfl, by rw [HStep.out, if_neg hCl] <;> rfl, HW5.out⟩
            case measure => simp [intOf]; omega
      · have hkn : k = n := by omega
        subst hkn
        rw [if_neg (by omega)] at hmk
        subst hbk
        subst hmk
        have HE : Hid (clS l wi k = (B, Lc)) := Lib.hid (by rw [hBe, hLe])
        clear hW hBe hLe
        go_wp2
        go_ret3
        exact ⟨by rw [HV.out, HE.out] <;> rfl, bt HB3.out HW.out⟩
  · have HV : Hid (clV l wi = (0, 0, cpV l (dnB wi))) := Lib.hid (by simp [clV, hc])
    have hne : (cpV l (dnB wi) != 0) = true := by simpa using hc
    have HZ : Hid (∀ w, PS w p l → Calls Tryd.prog 60 #[.slice p n c, .int .i64 wi] w fun e w' => e = .returned (.int .i64 (cpV l (dnB wi))) ∧ Below w.heap.size w w') := Lib.hid fun w hp => l07Copies_c p n c l HP.out HN.out hm wi w hp
    generalize cpV l (dnB wi) = cc at *
    go_enter Tryd.func28, Tryd.ntmps28
    go_wp2_with fail
    refine (HZ.out _ HA.out).mono ?_
    rintro e w1 ⟨rfl, hb1⟩
    have HB := Lib.hid hb1
    clear hb1 HZ
    go_wp2
    go_ret3
    exact ⟨by rw [HV.out] <;> rfl, HB.out⟩
set_option maxHeartbeats 4000000 in
set_option maxRecDepth 100000 in
theorem implCC_c (p : Option Addr) (n c : Nat) (l : List (List Int)) (hl : Prs l) (hn : n = l.length) (hm : n ≤ 1048576) (wi : Int) (w : World) (hp : PS w p l) :
    Calls Tryd.prog 27 #[.slice p n c, .int .i64 wi] w fun e w' => e = .returned (.tuple #[.int .i64 (clV l wi).1, .int .i64 (clV l wi).2.1, .int .i64 (clV l wi).2.2]) ∧ Below w.heap.size w w' := by
  have HN := Lib.hid hn
  have HA := Lib.hid hp
  have HP := Lib.hid hl
  clear hn hp hl
  by_cases hc : cpV l (dnB wi) = 0
  · obtain ⟨hok, h1, h2, h4⟩ := cpV_zero hc
    have HZ : Hid (∀ w, PS w p l → Calls Tryd.prog 58 #[.slice p n c, .bool true] w fun e w' => e = .returned (.int .i64 0) ∧ Below w.heap.size w w') := Lib.hid fun w hp => by have := copiesCode_c p n c l HP.out HN.out hm (dnB wi) w hp; rwa [hc, h4] at this
    have n1 : 1 ≤ n := by rw [HN.out]; exact h1
    have n8 : n ≤ 8 := by rw [HN.out]; exact h2
    have HOK := Lib.hid hok
    have HD := Lib.hid h4
    have HV : Hid (clV l wi = (((clS l wi n).1 : Int), ((clS l wi n).2 : Int), (0 : Int))) := Lib.hid (by simp [clV, hc, HN.out])
    clear hc hok h1 h2 h4
    go_enter Tryd.func27, Tryd.ntmps27
    go_wp2_with (go_at_call 62; refine (isDensity_c _ _).mono ?_; rintro e w' ⟨rfl, rfl⟩; rw [HD.out])
    refine (HZ.out _ HA.out).mono ?_
    rintro e w1 ⟨rfl, hb1⟩
    have HB := Lib.hid hb1
    clear hb1
    go_wp2_with fail
    refine (implDusts_c p n c l HP.out HN.out n8 (by omega) HOK.out wi HD.out _ (PS_below HB.out HA.out)).mono ?_
    rintro e w2 ⟨v, rfl, hR, hb2⟩
    obtain ⟨g, cap, rfl, hg1, hg2, hcap, hcm, hcl⟩ := row_shape hR (by intro e; have := dustsL_len l wi n; rw [e] at this; simp at this; omega)
    rw [dustsL_len]
    have HCl : Hid (∀ i, i < n → w2.cell? ⟨g, i, none⟩ = some (.int .u64 ((dmI l wi i : Nat) : Int))) := Lib.hid (fun i hi => by rw [hcl i (by rw [dustsL_len]; exact hi), dustsL_get l wi n i hi]; rfl)
    have HB2 := Lib.hid (bt HB.out hb2)
    clear hb2 hR hcl hg1 hg2 hcap hcm
    go_upto_region 6 with fail
    go_loop [8, 9, 24] (fun b m i => ∃ k : Nat, k ≤ n ∧ i = .int .i64 k ∧ b = .int .i64 (clS l wi k).1 ∧ m = .int .i64 (clS l wi k).2) (fun _ _ i => n - (intOf i).toNat)
    case atStart => exact ⟨0, Nat.zero_le _, rfl, rfl, rfl⟩
    case round =>
      obtain ⟨k, hk, rfl, hbk, hmk⟩ := hrel
      obtain ⟨hc1, hc2, _⟩ := clS_first l wi k
      obtain ⟨B, hBe⟩ : ∃ B, B = (clS l wi k).1 := ⟨_, rfl⟩
      obtain ⟨Lc, hLe⟩ : ∃ L, L = (clS l wi k).2 := ⟨_, rfl⟩
      rw [← hBe] at hbk hc1
      rw [← hLe] at hmk hc2
      subst hbk
      subst hmk
      by_cases hlt : k < n
      · have hcc := HCl.out k hlt
        have hcl := cnt_le (dmI l wi k)
        have HC := Lib.hid (fun w => ones_c (dmI l wi k) (difM_lt _ _ _) w)
        have HStep : Hid (clS l wi (k + 1) = if cnt (dmI l wi k) < Lc then (k, cnt (dmI l wi k)) else (B, Lc)) := Lib.hid (by rw [clS, ← hLe, hBe]; congr 1; rw [hLe])
        have hki : (k : Int) < n := by omega
        generalize dmI l wi k = dm at *
        generalize cnt dm = C at *
        clear hBe hLe
        by_cases hCl : C < Lc
        all_goals
          go_wp2_with fail
          refine (HC.out _).mono ?_
          rintro e w6 ⟨rfl, rfl⟩
          go_wp2
          go_round
        · case rel => exact ⟨k + 1, by omega, by go_num, by rw [HStep.out, if_pos hCl] <;> rfl, by rw [HStep.out, if_pos hCl] <;> rfl⟩
        · case measure => simp [intOf]; omega
        · case rel => exact ⟨k + 1, by omega, by go_num, by rw [HStep.out, if_neg hCl] <;> rfl, by rw [HStep.out, if_neg hCl] <;> rfl⟩
        · case measure => simp [intOf]; omega
      · have hkn : k = n := by omega
        subst hkn
        have HE : Hid (clS l wi k = (B, Lc)) := Lib.hid (by rw [hBe, hLe])
        clear hBe hLe
        go_wp2
        go_ret3
        exact ⟨by rw [HV.out, HE.out] <;> rfl, HB2.out⟩
  · have HV : Hid (clV l wi = (0, 0, cpV l (dnB wi))) := Lib.hid (by simp [clV, hc])
    have hne : (cpV l (dnB wi) != 0) = true := by simpa using hc
    have HZ : Hid (∀ w, PS w p l → Calls Tryd.prog 58 #[.slice p n c, .bool (dnB wi)] w fun e w' => e = .returned (.int .i64 (cpV l (dnB wi))) ∧ Below w.heap.size w w') := Lib.hid fun w hp => copiesCode_c p n c l HP.out HN.out hm _ w hp
    generalize cpV l (dnB wi) = cc at *
    go_enter Tryd.func27, Tryd.ntmps27
    go_wp2_with (go_at_call 62; refine (isDensity_c _ _).mono ?_; rintro e w' ⟨rfl, rfl⟩)
    refine (HZ.out _ HA.out).mono ?_
    rintro e w1 ⟨rfl, hb1⟩
    have HB := Lib.hid hb1
    clear hb1 HZ
    go_wp2
    go_ret3
    exact ⟨by rw [HV.out] <;> rfl, HB.out⟩
end Go.Proofs.YtdmlefccajaniaaDoor
