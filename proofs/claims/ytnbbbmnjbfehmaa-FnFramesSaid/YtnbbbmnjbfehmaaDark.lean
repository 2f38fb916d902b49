/- DarkestFrame. -/
import Derived.Test.YtnbbbmnjbfehmaaVSheet
import Derived.Deep.DeepCutAuto
namespace Go.Proofs.Ytnbbbmnjbfehmaa
open Go.RowKit
def sm (p : List Int) (k : Nat) : Int := (p.take k).sum
theorem sm_zero (p : List Int) : sm p 0 = 0 := rfl
theorem sm_step (p : List Int) (k : Nat) (h : k < p.length) : sm p (k + 1) = sm p k + p.getD k 0 := by
  unfold sm
  rw [take_snoc p k h, List.sum_append]; simp
theorem sm_in (p : List Int) (h : okP p = true) : ∀ k, k ≤ p.length → 0 ≤ sm p k ∧ sm p k ≤ 400 * k
  | 0, _ => by simp [sm_zero]
  | k + 1, hk => by
    have h1 := sm_in p h k (by omega)
    have h2 := okP_get h k
    rw [sm_step p k (by omega)]; omega
def dk (l : List (List Int)) : Nat → Int × Int
  | 0 => (0, -1)
  | k + 1 => if (dk l k).2 < sm (l.getD k []) 64 then ((k : Int), sm (l.getD k []) 64) else dk l k
theorem dk_in (l : List (List Int)) (hl : Prs l) (ho : okL l = true) : ∀ k, k ≤ l.length → 0 ≤ (dk l k).1 ∧ (dk l k).1 ≤ k ∧ -1 ≤ (dk l k).2 ∧ (dk l k).2 ≤ 25600 ∧ (0 < k → 0 ≤ (dk l k).2)
  | 0, _ => by simp [dk]
  | k + 1, hk => by
    have h1 := dk_in l hl ho k (by omega)
    have h2 := sm_in (l.getD k []) (okL_get ho k (by omega)) 64 (by rw [(hl k (by omega)).1]; omega)
    unfold dk
    split <;> (refine ⟨?_, ?_, ?_, ?_, ?_⟩ <;> (try dsimp only) <;> omega)
def dkV (a : Int) (l : List (List Int)) : Int × Int × Int := if shB a l then (if l.length = 0 then (0, 0, 6) else ((dk l l.length).1, (dk l l.length).2, 0)) else (0, 0, 1)
set_option maxHeartbeats 2000000 in
theorem specDarkestFrame_c (a : Int) (ha : -128 ≤ a ∧ a ≤ 127) (p : Option Addr) (n c : Nat) (l : List (List Int)) (hl : Prs l) (hn : n = l.length) (hm : n ≤ 1048576) (w : World) (hp : PS w p l) :
    Calls Try.prog 33 #[.agg #[.int .i8 a, .slice p n c]] w fun e w' => e = .returned (.tuple #[.int .i64 (dkV a l).1, .int .i64 (dkV a l).2.1, .int .i64 (dkV a l).2.2]) ∧ Below w.heap.size w w' := by
  have HN := Lib.hid hn
  have HA := Lib.hid hp
  have HP := Lib.hid hl
  clear hp hn hl
  cases hv : shB a l
  · have HV := Lib.hid hv
    have HR : Hid (dkV a l = (0, 0, 1)) := Lib.hid (by simp [dkV, hv])
    clear hv
    go_enter Try.func33, Try.ntmps33
    go_wp2_with fail
    refine (l07Ok_c a ha p n c l HP.out HN.out hm _ _ _ (PS_below (bl1 _ _) HA.out) (al1_0 _ _)).mono ?_
    rintro e w1 ⟨rfl, hb1⟩
    rw [HV.out]
    have hB := Lib.hid (bt (bl1 _ _) hb1)
    clear hb1
    go_wp2
    go_ret3
    exact ⟨by rw [HR.out] <;> rfl, hB.out⟩
  · obtain ⟨_, _, h3, ho⟩ := shB_get hv
    have HO := Lib.hid ho
    have h3 : n ≤ 12 := by rw [HN.out]; exact h3
    have HV := Lib.hid hv
    have HR : Hid (dkV a l = if n = 0 then (0, 0, 6) else ((dk l n).1, (dk l n).2, 0)) := Lib.hid (by simp [dkV, hv, ← HN.out])
    clear hv ho
    go_enter Try.func33, Try.ntmps33
    go_wp2_with fail
    refine (l07Ok_c a ha p n c l HP.out HN.out hm _ _ _ (PS_below (bl1 _ _) HA.out) (al1_0 _ _)).mono ?_
    rintro e w1 ⟨rfl, hb1⟩
    rw [HV.out]
    have H1 := Lib.hid (heap_below hb1 (by simp) (al1_0 w _))
    have c1 := bk2_1 H1.out
    have hB := Lib.hid (bt (bl1 _ _) hb1)
    have HA1 := Lib.hid (PS_below hB.out HA.out)
    clear hb1 HA
    go_wp2
    go_loop [5, 6, 7] (fun b m i => ∃ k : Nat, k ≤ n ∧ i = .int .i64 k ∧ b = .int .i64 (dk l k).1 ∧ m = .int .i64 (dk l k).2) (fun _ _ i => n - (intOf i).toNat)
    case atStart => exact ⟨0, Nat.zero_le _, rfl, rfl, rfl⟩
    case round =>
      obtain ⟨k, hk, rfl, hb, hmm⟩ := hrel
      obtain ⟨d1, d2, d3, d4, d5⟩ := dk_in l HP.out HO.out k (by have := HN.out; omega)
      obtain ⟨B, hBe⟩ : ∃ B, B = (dk l k).1 := ⟨_, rfl⟩
      obtain ⟨M, hMe⟩ : ∃ M, M = (dk l k).2 := ⟨_, rfl⟩
      rw [← hBe] at hb d1 d2
      rw [← hMe] at hmm d3 d4 d5
      subst hb hmm
      have HBM : Hid (B = (dk l k).1 ∧ M = (dk l k).2) := Lib.hid ⟨hBe, hMe⟩
      clear hBe hMe
      have HD5 := Lib.hid d5
      clear d5
      by_cases hlt : k < n
      · obtain ⟨b, o, rfl, hb, hat⟩ := HA1.out (ne_of_lt (k := k) (by have := HN.out; omega))
        obtain ⟨q, hpe⟩ : ∃ q, q = l.getD k [] := ⟨_, rfl⟩
        have HPr : Hid (Pr q) := Lib.hid (by rw [hpe]; exact HP.out k (by have := HN.out; omega))
        have HQ : Hid (okP q = true) := Lib.hid (by rw [hpe]; exact okL_get HO.out k (by have := HN.out; omega))
        have HCe : Hid (∀ j, j < 64 → w1.cell? ⟨b, o + k * 64 + j, none⟩ = some (.int .i16 (q.getD j 0))) := Lib.hid fun j hj => by rw [hpe]; exact PrAt_cell hat HP.out k j (by have := HN.out; omega) hj
        have HE := Lib.hid hpe
        clear hpe hat
        go_wp2
        go_loop [8, 9] (fun s j => ∃ r : Nat, r ≤ 64 ∧ j = .int .i64 r ∧ s = .int .i64 (sm q r)) (fun _ j => 64 - (intOf j).toNat)
        case atStart => exact ⟨0, Nat.zero_le _, rfl, rfl⟩
        case round =>
          obtain ⟨r, hr, rfl, hs⟩ := hrel
          obtain ⟨s1, s2⟩ := sm_in q HQ.out r (by rw [HPr.out.1]; exact hr)
          obtain ⟨S, hSe⟩ : ∃ S, S = sm q r := ⟨_, rfl⟩
          rw [← hSe] at hs s1 s2
          subst hs
          have HS := Lib.hid hSe
          clear hSe
          by_cases hrl : r < 64
          · obtain ⟨x, hxe⟩ : ∃ x, x = q.getD r 0 := ⟨_, rfl⟩
            have hcell : w1.cell? ⟨b, o + k * 64 + r, none⟩ = some (.int .i16 x) := by rw [hxe]; exact HCe.out r hrl
            obtain ⟨x1, x2⟩ := okP_get HQ.out r
            rw [← hxe] at x1 x2
            have HX : Hid (S + x = sm q (r + 1)) := Lib.hid (by rw [sm_step q r (by rw [HPr.out.1]; exact hrl), HS.out, hxe])
            clear hxe
            go_wp2
            go_round
            case rel => exact ⟨r + 1, by omega, by go_num, by rw [HX.out]⟩
            case measure => simp [intOf]; omega
          · have hr64 : r = 64 := by omega
            subst hr64
            by_cases hgt : M < S
            · have HT : Hid (((k : Int) = (dk l (k + 1)).1) ∧ S = (dk l (k + 1)).2) := Lib.hid (by
                have := HBM.out.2; have h5 := HS.out; rw [HE.out] at h5
                rw [dk, ← this, ← h5, if_pos hgt]; exact ⟨rfl, rfl⟩)
              go_wp2
              go_round
              case rel => exact ⟨k + 1, by omega, by go_num, by rw [← HT.out.1], by rw [← HT.out.2]⟩
              case measure => simp [intOf]; omega
            · have HT : Hid (B = (dk l (k + 1)).1 ∧ M = (dk l (k + 1)).2) := Lib.hid (by
                have h4 := HBM.out; have h5 := HS.out; rw [HE.out] at h5
                rw [dk, ← h4.2, ← h5, if_neg hgt]; exact h4)
              go_wp2
              go_round
              case rel => exact ⟨k + 1, by omega, by go_num, by rw [← HT.out.1], by rw [← HT.out.2]⟩
              case measure => simp [intOf]; omega
      · have hkn : k = n := by omega
        subst hkn
        by_cases h0 : k = 0
        · have HR2 : Hid (dkV a l = (0, 0, 6)) := Lib.hid (by rw [HR.out, if_pos h0])
          have hM : M = -1 := by rw [HBM.out.2, h0]; rfl
          subst hM
          go_wp2
          go_ret3
          exact ⟨by rw [HR2.out] <;> rfl, hB.out⟩
        · have hM0 : 0 ≤ M := HD5.out (by omega)
          have HR2 : Hid (dkV a l = (B, M, 0)) := Lib.hid (by rw [HR.out, if_neg h0, ← HBM.out.1, ← HBM.out.2])
          go_wp2
          go_ret3
          exact ⟨by rw [HR2.out] <;> rfl, hB.out⟩
set_option maxHeartbeats 2000000 in
set_option maxRecDepth 100000 in
theorem implDarkestFrame_c (a : Int) (ha : -128 ≤ a ∧ a ≤ 127) (p : Option Addr) (n c : Nat) (l : List (List Int)) (hl : Prs l) (hn : n = l.length) (hm : n ≤ 1048576) (w : World) (hp : PS w p l) :
    Calls Try.prog 34 #[.agg #[.int .i8 a, .slice p n c]] w fun e w' => e = .returned (.tuple #[.int .i64 (dkV a l).1, .int .i64 (dkV a l).2.1, .int .i64 (dkV a l).2.2]) ∧ Below w.heap.size w w' := by
  have HN := Lib.hid hn
  have HA := Lib.hid hp
  have HP := Lib.hid hl
  clear hp hn hl
  cases hv : shB a l
  · have HV := Lib.hid hv
    have HR : Hid (dkV a l = (0, 0, 1)) := Lib.hid (by simp [dkV, hv])
    clear hv
    go_enter Try.func34, Try.ntmps34
    go_wp2_with fail
    refine (implValidSheet_c a ha p n c l HP.out HN.out hm _ (PS_below (bl1 _ _) HA.out)).mono ?_
    rintro e w1 ⟨rfl, hb1⟩
    rw [HV.out]
    have hB := Lib.hid (bt (bl1 _ _) hb1)
    clear hb1
    go_wp2
    go_ret3
    exact ⟨by rw [HR.out] <;> rfl, hB.out⟩
  · obtain ⟨_, _, h3, ho⟩ := shB_get hv
    have HO := Lib.hid ho
    have h3 : n ≤ 12 := by rw [HN.out]; exact h3
    have HV := Lib.hid hv
    have HR : Hid (dkV a l = if n = 0 then (0, 0, 6) else ((dk l n).1, (dk l n).2, 0)) := Lib.hid (by simp [dkV, hv, ← HN.out])
    clear hv ho
    go_enter Try.func34, Try.ntmps34
    go_wp2_with fail
    refine (implValidSheet_c a ha p n c l HP.out HN.out hm _ (PS_below (bl1 _ _) HA.out)).mono ?_
    rintro e w1 ⟨rfl, hb1⟩
    rw [HV.out]
    have H1 := Lib.hid (heap_below hb1 (by simp) (al1_0 w _))
    have c1 := bk2_1 H1.out
    have hB := Lib.hid (bt (bl1 _ _) hb1)
    have HA1 := Lib.hid (PS_below hB.out HA.out)
    clear hb1 HA
    by_cases h0 : n = 0
    · have HR2 : Hid (dkV a l = (0, 0, 6)) := Lib.hid (by rw [HR.out, if_pos h0])
      subst h0
      go_wp2
      go_ret3
      exact ⟨by rw [HR2.out] <;> rfl, hB.out⟩
    · have HR2 : Hid (dkV a l = ((dk l n).1, (dk l n).2, 0)) := Lib.hid (by rw [HR.out, if_neg h0])
      have h0b : ((n : Int) == 0) = false := by simp; omega
      go_wp2
      go_loopw [5, 6, 24] (fun b m i wr => ∃ k : Nat, k ≤ n ∧ i = .int .i64 k ∧ b = .int .i64 (dk l k).1 ∧ m = .int .i64 (dk l k).2 ∧ Below w1.heap.size w1 wr) (fun _ _ i _ => n - (intOf i).toNat)
      case atStart => exact ⟨0, Nat.zero_le _, rfl, rfl, rfl, Below.refl _ _⟩
      case round =>
        obtain ⟨k, hk, rfl, hb, hmm, hW⟩ := hrel
        have HW := Lib.hid hW
        clear hW
        obtain ⟨d1, d2, d3, d4, d5⟩ := dk_in l HP.out HO.out k (by have := HN.out; omega)
        obtain ⟨B, hBe⟩ : ∃ B, B = (dk l k).1 := ⟨_, rfl⟩
        obtain ⟨M, hMe⟩ : ∃ M, M = (dk l k).2 := ⟨_, rfl⟩
        rw [← hBe] at hb d1 d2
        rw [← hMe] at hmm d3 d4 d5
        subst hb hmm
        have HBM : Hid (B = (dk l k).1 ∧ M = (dk l k).2) := Lib.hid ⟨hBe, hMe⟩
        clear hBe hMe d5
        by_cases hlt : k < n
        · obtain ⟨b, o, rfl, hb, hat⟩ := HA1.out (ne_of_lt (k := k) (by have := HN.out; omega))
          obtain ⟨q, hpe⟩ : ∃ q, q = l.getD k [] := ⟨_, rfl⟩
          have HPr : Hid (Pr q) := Lib.hid (by rw [hpe]; exact HP.out k (by have := HN.out; omega))
          have HQ : Hid (okP q = true) := Lib.hid (by rw [hpe]; exact okL_get HO.out k (by have := HN.out; omega))
          have HRg : Hid (wr.rangeAt b (o + k * 64) (cellsP q)) := Lib.hid (by rw [hpe]; exact rangeAt_below HW.out hb (hat k (by have := HN.out; omega)))
          have H64 : Hid ((cellsP q).length = 64) := Lib.hid (by rw [cellsP_length]; exact HPr.out.1)
          have HE := Lib.hid hpe
          clear hpe hat
          go_upto_region 9 with (first
            | (refine wpList_load_mid rfl 45 (.tmp 27) rfl b (o + k * 64) rfl (cellsP q) _ HRg.out Try.underlying45 rfl (by rw [szPrint, H64.out]) ?_)
            | (rw [z64_Z]; refine wpList_store_row rfl 45 (.tmp 8) (.tmp 28) rfl wr.heap.size (arr .i16 q) rfl rfl 45 (arr .i16 Z64) (al1_0 _ _) (by rw [szPrint, arr_size, HPr.out.1]) (by rw [arr_size, arr_size, HPr.out.1]; rfl) (arr_one _ _) ?_))
          have HRow := Lib.hid (setRow_heap (wr.alloc (.cells (arr .i16 Z64) 45)) wr.heap.size _ (arr .i16 q) 45 (0, 0) (al1_0 _ _))
          have HB2 := Lib.hid (bt HW.out (below_setRow (bl1 wr (.cells (arr .i16 Z64) 45)) (Nat.le_refl _) (arr .i16 q)))
          generalize (wr.alloc (.cells (arr .i16 Z64) 45)).setRow wr.heap.size (arr .i16 q) = w3 at *
          generalize wr.heap.size = g8 at *
          clear HRg HW
          go_wp2_with (refine wpList_load_row rfl 45 (.tmp 8) rfl _ rfl _ _ _ _ HRow.out Try.underlying45 rfl (by rw [szPrint, arr_size, HPr.out.1]) ?_)
          go_loop [9, 30] (fun s j => ∃ r : Nat, r ≤ 64 ∧ j = .int .i64 r ∧ s = .int .i64 (sm q r)) (fun _ j => 64 - (intOf j).toNat)
          case atStart => exact ⟨0, Nat.zero_le _, rfl, rfl⟩
          case round =>
            obtain ⟨r, hr, rfl, hs⟩ := hrel
            obtain ⟨s1, s2⟩ := sm_in q HQ.out r (by rw [HPr.out.1]; exact hr)
            obtain ⟨S, hSe⟩ : ∃ S, S = sm q r := ⟨_, rfl⟩
            rw [← hSe] at hs s1 s2
            subst hs
            have HS := Lib.hid hSe
            clear hSe
            by_cases hrl : r < 64
            · obtain ⟨x, hxe⟩ : ∃ x, x = q.getD r 0 := ⟨_, rfl⟩
              obtain ⟨x1, x2⟩ := okP_get HQ.out r
              rw [← hxe] at x1 x2
              have HX : Hid (S + x = sm q (r + 1)) := Lib.hid (by rw [sm_step q r (by rw [HPr.out.1]; exact hrl), HS.out, hxe])
              have HE2 := Lib.hid hxe
              clear hxe
              go_wp2_with (refine wpList_index_arr rfl 45 (.tmp 29) (.tmp 30) rfl q rfl r rfl 64 39 Try.underlying45 szI16 Try.underlying39 hrl HPr.out.1 ?_; rw [← HE2.out])
              go_round
              case rel => exact ⟨r + 1, by omega, by go_num, by rw [HX.out]⟩
              case measure => simp [intOf]; omega
            · have hr64 : r = 64 := by omega
              subst hr64
              by_cases hgt : M < S
              · have HT : Hid (((k : Int) = (dk l (k + 1)).1) ∧ S = (dk l (k + 1)).2) := Lib.hid (by
                  have := HBM.out.2; have h5 := HS.out; rw [HE.out] at h5
                  rw [dk, ← this, ← h5, if_pos hgt]; exact ⟨rfl, rfl⟩)
                go_wp2
                go_roundw
                case rel => exact ⟨k + 1, by omega, by go_num, by rw [← HT.out.1], by rw [← HT.out.2], HB2.out⟩
                case measure => simp [intOf]; omega
              · have HT : Hid (B = (dk l (k + 1)).1 ∧ M = (dk l (k + 1)).2) := Lib.hid (by
                  have h4 := HBM.out; have h5 := HS.out; rw [HE.out] at h5
                  rw [dk, ← h4.2, ← h5, if_neg hgt]; exact h4)
                go_wp2
                go_roundw
                case rel => exact ⟨k + 1, by omega, by go_num, by rw [← HT.out.1], by rw [← HT.out.2], HB2.out⟩
                case measure => simp [intOf]; omega
        · have hkn : k = n := by omega
          subst hkn
          have HR3 : Hid (dkV a l = (B, M, 0)) := Lib.hid (by rw [HR2.out, ← HBM.out.1, ← HBM.out.2])
          go_wp2
          go_ret3
          exact ⟨by rw [HR3.out] <;> rfl, bt hB.out HW.out⟩
end Go.Proofs.Ytnbbbmnjbfehmaa
