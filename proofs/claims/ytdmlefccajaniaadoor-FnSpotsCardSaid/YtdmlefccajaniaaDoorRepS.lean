/- The repair of cells: the reference's round. -/
import Derived.Test.YtdmlefccajaniaaDoorRepI
namespace Go.Proofs.YtdmlefccajaniaaDoor
open Go.RowKit Go.Lib
def msP (p : List Int) (M k : Nat) (P : List Int) : Prop := P.length = 64 ∧ ∀ j, j < 64 → P.getD j 0 = if j < k ∧ M.testBit j = true ∧ obM M j ≠ 0 then qv p M j else p.getD j 0
def msM (M k Lf : Nat) : Prop := isM Lf (fun j => M.testBit j && !(decide (j < k) && decide (obM M j ≠ 0)))
theorem msP_next {p : List Int} {M k : Nat} {P : List Int} (h : msP p M k P) (hk : k < 64) (hb : M.testBit k = true) (ho : obM M k ≠ 0) : msP p M (k + 1) (P.set k (qv p M k)) := by
  refine ⟨by rw [List.length_set]; exact h.1, fun j hj => ?_⟩
  rw [getD_set _ _ _ _ (by rw [h.1]; exact hk)]
  by_cases e : j = k
  · subst e
    rw [if_pos rfl, if_pos ⟨by omega, hb, ho⟩]
  · rw [if_neg e, h.2 j hj]
    have : j < k + 1 ↔ j < k := by omega
    simp only [this]
theorem msP_stay {p : List Int} {M k : Nat} {P : List Int} (h : msP p M k P) (ho : M.testBit k = false ∨ obM M k = 0) : msP p M (k + 1) P := by
  refine ⟨h.1, fun j hj => ?_⟩
  rw [h.2 j hj]
  by_cases e : j = k
  · subst e
    rcases ho with ho | ho <;> simp [ho]
  · have : j < k + 1 ↔ j < k := by omega
    simp only [this]
theorem msM_next {M k Lf : Nat} (h : msM M k Lf) (hk : k < 64) (ho : obM M k ≠ 0) : msM M (k + 1) (clr Lf k) := by
  refine isM_congr (isM_clear h k hk) fun j _ => ?_
  by_cases e : j = k
  · subst e; simp [ho]
  · have : j < k + 1 ↔ j < k := by omega
    simp [this, e]
theorem msM_stay {M k Lf : Nat} (h : msM M k Lf) (ho : M.testBit k = false ∨ obM M k = 0) : msM M (k + 1) Lf := by
  refine isM_congr h fun j _ => ?_
  by_cases e : j = k
  · subst e
    rcases ho with ho | ho <;> simp [ho]
  · have : j < k + 1 ↔ j < k := by omega
    simp [this]
theorem msP_end {p : List Int} {M : Nat} {P : List Int} (h : msP p M 64 P) : P = rp p M := by
  refine rp_of h.1 fun j hj => ?_
  rw [h.2 j hj]
  unfold qv
  cases M.testBit j
  · simp
  · by_cases ho : obM M j = 0 <;> simp [ho, hj]
theorem msM_end {M Lf : Nat} (h : msM M 64 Lf) : Lf = rm M := by
  refine isM_eq (isM_congr h fun j hj => ?_)
  simp [hj]
theorem bit_and_int (M k : Nat) (hM : M < 2 ^ 64) (hk : k < 64) : bits .and .u64 (M : Int) (IntKind.u64.wrap ((2 : Int) ^ k)) = ((if M.testBit k then 2 ^ k else 0 : Nat) : Int) := by
  have h1 := and64 M (2 ^ k) hM (Nat.pow_lt_pow_right (by omega) hk)
  have h2 : M &&& 2 ^ k = if M.testBit k then 2 ^ k else 0 := by
    apply Nat.eq_of_testBit_eq
    intro j
    rw [Nat.testBit_and, Nat.testBit_two_pow]
    by_cases e : k = j
    · subst e; cases hb : M.testBit k <;> simp
    · cases hb : M.testBit k <;> simp [e]
  rw [pow64 k hk, ← h2, ← h1]; simp
set_option maxHeartbeats 4000000 in
set_option maxRecDepth 100000 in
theorem specRound_c (p : List Int) (hp : Pr p) (hv : ∀ j, 0 ≤ p.getD j 0 ∧ p.getD j 0 ≤ 400) (M : Nat) (hM : M < 2 ^ 64) (g : Nat) (base : Nat) (w : World) (hb : base ≤ g) (hg : w.heap[g]? = some (.cells (arr .i16 p) 37 (0, 0))) :
    Calls Tryd.prog 57 #[.pointer (some ⟨g, 0, none⟩), .int .u64 M] w fun e w' => e = .returned (.int .u64 (rm M : Nat)) ∧ w'.heap[g]? = some (.cells (arr .i16 (rp p M)) 37 (0, 0)) ∧ BF base g w w' := by
  have HP := Lib.hid hp
  have HV := Lib.hid hv
  have HM := Lib.hid hM
  have HG := Lib.hid hg
  have HBg := Lib.hid hb
  have hgz := lt_of_heap hg
  clear hp hv hM hg hb
  go_enter Tryd.func57, Tryd.ntmps57
  go_upto_region 2 with (first
    | (refine wpList_load_row rfl 37 (.tmp 13) rfl g rfl _ _ _ _ HG.out Tryd.underlying37 rfl (by rw [szPrint, arr_size, HP.out.1]) ?_)
    | (rw [z64_Z]; refine wpList_store_row rfl 37 (.tmp 5) (.tmp 14) rfl w.heap.size (arr .i16 p) rfl rfl 37 (arr .i16 Z64) (al1_0 _ _) (by rw [szPrint, arr_size, HP.out.1]) (by rw [arr_size, arr_size, HP.out.1]; rfl) (arr_one _ _) ?_))
  have HRow := Lib.hid (setRow_heap (w.alloc (.cells (arr .i16 Z64) 37)) w.heap.size _ (arr .i16 p) 37 (0, 0) (al1_0 _ _))
  have HB1 := Lib.hid (below_setRow (bl1 w (.cells (arr .i16 Z64) 37)) (Nat.le_refl _) (arr .i16 p))
  generalize (w.alloc (.cells (arr .i16 Z64) 37)).setRow w.heap.size (arr .i16 p) = w1 at *
  obtain ⟨g5, hg5⟩ : ∃ g5, g5 = w.heap.size := ⟨_, rfl⟩
  rw [← hg5] at HRow
  have hne5 : g ≠ g5 := by omega
  rw [← hg5]
  have HGw := Lib.hid (heap_below HB1.out hgz HG.out)
  clear hg5
  go_wp2
  go_loopw [6, 7] (fun lf i wr => ∃ (k Lf : Nat) (P : List Int), k ≤ 64 ∧ i = .int .i64 k ∧ lf = .int .u64 Lf ∧ msM M k Lf ∧ msP p M k P ∧ wr.heap[g]? = some (.cells (arr .i16 P) 37 (0, 0)) ∧ wr.heap[g5]? = some (.cells (arr .i16 p) 37 (0, 0)) ∧ BF base g w wr) (fun _ i _ => 64 - (intOf i).toNat)
  case atStart =>
    exact ⟨0, M, p, Nat.zero_le _, rfl, rfl, isM_congr (isM_self M HM.out) (fun j _ => by simp), ⟨HP.out.1, fun j _ => by simp⟩, HGw.out, HRow.out, BF_of HB1.out (by have := HBg.out; omega)⟩
  case round =>
    obtain ⟨k, Lf, P, hk, rfl, rfl, hmM, hmP, hG, hG5, hW⟩ := hrel
    have HmM := Lib.hid hmM
    have HmP := Lib.hid hmP
    have HG1 := Lib.hid hG
    have HG51 := Lib.hid hG5
    have HW := Lib.hid hW
    clear hmM hmP hG hG5 hW
    by_cases hlt : k < 64
    · have hkd : decide ((k : Int) < 64) = true := by simp; omega
      have HPw : Hid (IntKind.u64.wrap ((2 : Int) ^ k) = ((2 ^ k : Nat) : Int)) := Lib.hid (by rw [pow64 k hlt]; simp)
      have hp2 : 2 ^ k < 2 ^ 64 := Nat.pow_lt_pow_right (by omega) hlt
      have HA := Lib.hid (bit_and_int M k HM.out hlt)
      have HO1 : Hid (bits .andNot .u64 ((gr (2 ^ k) : Nat) : Int) ((2 ^ k : Nat) : Int) = ((dif64 (gr (2 ^ k)) (2 ^ k) : Nat) : Int)) := Lib.hid (andNot_int _ _ (gr_lt _) hp2)
      have HO2 : Hid (bits .andNot .u64 ((dif64 (gr (2 ^ k)) (2 ^ k) : Nat) : Int) (M : Int) = ((obM M k : Nat) : Int)) := Lib.hid (by rw [andNot_int _ _ (dif64_lt _ _ (gr_lt _)) HM.out, ob_spec M k HM.out hlt])
      have HC := Lib.hid (clear_int Lf k HmM.out.1 hlt)
      rw [HPw.out] at HA HC
      have hpos := Nat.two_pow_pos k
      cases hbt : M.testBit k
      · have HX1 := Lib.hid (msP_stay HmP.out (Or.inl hbt))
        have HX2 := Lib.hid (msM_stay HmM.out (Or.inl hbt))
        rw [hbt] at HA
        have hA : bits .and .u64 (M : Int) ((2 ^ k : Nat) : Int) = 0 := HA.out
        clear hbt
        go_upto_region 7 with fail
        rw [HPw.out]
        generalize hs0 : 2 ^ k = s0 at *
        clear hs0
        have hO1 := HO1.out
        have hO2 := HO2.out
        go_wp2_with (go_at_call 50; refine (specGrow_c s0 hp2 _).mono ?_; rintro e w' ⟨rfl, rfl⟩)
        go_roundw
        case rel => exact ⟨k + 1, Lf, P, by omega, by go_num, rfl, HX2.out, HX1.out, HG1.out, HG51.out, HW.out⟩
        case measure => simp [intOf]; omega
      · rw [hbt] at HA
        have hA : bits .and .u64 (M : Int) ((2 ^ k : Nat) : Int) = ((2 ^ k : Nat) : Int) := HA.out
        by_cases ho : obM M k = 0
        · have HX1 := Lib.hid (msP_stay HmP.out (Or.inr ho))
          have HX2 := Lib.hid (msM_stay HmM.out (Or.inr ho))
          rw [ho] at HO2
          clear ho hbt
          go_upto_region 7 with fail
          rw [HPw.out]
          generalize hs0 : 2 ^ k = s0 at *
          clear hs0
          have hO1 := HO1.out
          have hO2 := HO2.out
          have hs1 : ((s0 : Int) == 0) = false := by simp; omega
          go_wp2_with (go_at_call 50; refine (specGrow_c s0 hp2 _).mono ?_; rintro e w' ⟨rfl, rfl⟩)
          go_roundw
          case rel => exact ⟨k + 1, Lf, P, by omega, by go_num, rfl, HX2.out, HX1.out, HG1.out, HG51.out, HW.out⟩
          case measure => simp [intOf]; omega
        · have hoz : ((obM M k : Int) == 0) = false := by simp; omega
          have HO := Lib.hid ho
          have HBt := Lib.hid hbt
          clear ho hbt
          go_upto_region 7 with fail
          rw [HPw.out]
          generalize hs0 : 2 ^ k = s0 at *
          clear hs0
          have hO1 := HO1.out
          have hO2 := HO2.out
          have hs1 : ((s0 : Int) == 0) = false := by simp; omega
          obtain ⟨wo, rfl⟩ : ∃ wo : World, wo = wr := ⟨_, rfl⟩
          go_wp2_with (go_at_call 50; refine (specGrow_c s0 hp2 _).mono ?_; rintro e w' ⟨rfl, rfl⟩)
          go_loop [10, 11] (fun s j => ∃ r : Nat, r ≤ 64 ∧ j = .int .i64 r ∧ s = .int .i64 (sumTo p (obM M k) r)) (fun _ j => 64 - (intOf j).toNat)
          case atStart => exact ⟨0, Nat.zero_le _, rfl, rfl⟩
          case round =>
            obtain ⟨r, hr, rfl, rfl⟩ := hrel
            by_cases hlt2 : r < 64
            · have hle : obM M k / 2 ^ r < 2 ^ 64 := Nat.lt_of_le_of_lt (Nat.div_le_self _ _) (obM_lt M k)
              have HB : Hid (bits .and .u64 ((obM M k / 2 ^ r : Nat) : Int) 1 = (if (obM M k).testBit r then 1 else 0)) := Lib.hid (by
                rw [show (1 : Int) = ((1 : Nat) : Int) from rfl, and64 _ 1 hle (by decide), Nat.and_one_is_mod, Nat.testBit_eq_decide_div_mod_eq]
                rcases Nat.mod_two_eq_zero_or_one (obM M k / 2 ^ r) with h | h <;> simp [h])
              have HSh : Hid ((obM M k : Int) / (2 : Int) ^ r = ((obM M k / 2 ^ r : Nat) : Int)) := Lib.hid (by simp)
              have HST : Hid (sumTo p (obM M k) (r + 1) = sumTo p (obM M k) r + if (obM M k).testBit r then p.getD r 0 else 0) := Lib.hid rfl
              have hcell := arr_cell HG51.out r (by rw [HP.out.1]; exact hlt2)
              have hbd := sumTo_bd p (obM M k) HV.out r
              have hcn := cntN_le (obM M k).testBit r
              have hvv := HV.out r
              generalize hq : p.getD r 0 = q at *
              have HS1 : Hid (bits .and .u64 ((obM M k : Int) / (2 : Int) ^ r) 1 = (if (obM M k).testBit r then 1 else 0)) := Lib.hid (by rw [HSh.out]; exact HB.out)
              clear HB HSh hq
              generalize hs2 : sumTo p (obM M k) r = S at *
              clear hs2
              cases hbr : (obM M k).testBit r
              · rw [hbr] at HS1 HST
                have hB : bits .and .u64 ((obM M k : Int) / (2 : Int) ^ r) 1 = 0 := HS1.out
                clear hbr
                go_wp2
                go_round
                case rel => exact ⟨r + 1, by omega, by go_num, by rw [HST.out]; simp⟩
                case measure => simp [intOf]; omega
              · rw [hbr] at HS1 HST
                have hB : bits .and .u64 ((obM M k : Int) / (2 : Int) ^ r) 1 = 1 := HS1.out
                clear hbr
                go_wp2
                go_round
                case rel => exact ⟨r + 1, by omega, by go_num, by rw [HST.out]; simp⟩
                case measure => simp [intOf]; omega
            · have hrn : r = 64 := by omega
              subst hrn
              have HX1 := Lib.hid (msP_next HmP.out hlt HBt.out HO.out)
              have HX2 := Lib.hid (msM_next HmM.out hlt HO.out)
              have hcp := cnt_pos (obM_lt M k) HO.out
              have hc64 := cnt_le (obM M k)
              have hrz : ¬ (cnt (obM M k) = 0) := by omega
              have HQ : Hid (Int.tdiv (sumTo p (obM M k) 64) (cnt (obM M k) : Nat) = qv p M k) := Lib.hid (by
                rw [Int.tdiv_eq_ediv_of_nonneg (sumTo_bd p (obM M k) HV.out 64).1, qv, if_neg HO.out])
              have hS := sumTo_bd p (obM M k) HV.out 64
              have hSc := cntN_le (obM M k).testBit 64
              have hq := qv_bd p HV.out M k
              have COUNT := Lib.hid (count_c (obM M k) (obM_lt M k))
              generalize sumTo p (obM M k) 64 = S at *
              generalize qv p M k = qq at *
              generalize cnt (obM M k) = cc at *
              generalize hclr : clr Lf k = Lf' at *
              clear hclr
              have hQ := HQ.out
              have hw1 : IntKind.i64.wrap qq = qq := Go.IntWalk.i64_in _ (by omega)
              have hw2 : IntKind.i16.wrap qq = qq := Go.IntWalk.i16_in _ (by omega)
              have hi64' : (k : Int) < 64 := by omega
              have HD1 := Lib.hid (heap_below (bl_drew (Below.refl _ wo)) (lt_of_heap HG1.out) HG1.out)
              have hfz : wo.frozen? ⟨g, k, none⟩ = false := frozen_of_row _ _ _ _ _ HG1.out
              have hc1 := arr_cell HD1.out k (by rw [HmP.out.1]; exact hlt)
              go_upto_region 15 with fail
              refine wp_region_still_tail 9 (by kernel_rfl) (by kernel_rfl) ?_
              simp only [List.take_succ_cons, List.take_zero, List.drop_succ_cons, List.drop_zero]
              still_step
              still_step
              still_step
              still_step
              still_call ((COUNT.out wo.drew).mono (by rintro e w' ⟨rfl, rfl⟩; exact ⟨rfl, rfl⟩))
              still_step
              still_step
              still_step
              still_step
              refine wpStill_nil ?_
              change wpList _ _ _ _ _ wo.drew
              go_wp2
              go_roundw
              case rel => exact ⟨k + 1, Lf', P.set k qq, by omega, by go_num, by rw [HC.out], HX2.out, HX1.out, by first | exact arr_store HD1.out k qq | exact arr_store HG1.out k qq, rep_other HG51.out k qq hne5, rep_below HW.out HBg.out k qq⟩
              case measure => simp [intOf]; omega
    · have hkn : k = 64 := by omega
      subst hkn
      have HX1 : Hid (P = rp p M) := Lib.hid (msP_end HmP.out)
      have HX2 : Hid (Lf = rm M) := Lib.hid (msM_end HmM.out)
      go_wp2
      go_ret
      exact ⟨ret_int (by rw [HX2.out]), by rw [← HX1.out]; exact HG1.out, HW.out⟩
end Go.Proofs.YtdmlefccajaniaaDoor
