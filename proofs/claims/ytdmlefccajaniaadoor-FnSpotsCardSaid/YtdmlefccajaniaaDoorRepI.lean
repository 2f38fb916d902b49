/- The repair of cells: the program's round. -/
import Derived.Test.YtdmlefccajaniaaDoorRepW
namespace Go.Proofs.YtdmlefccajaniaaDoor
open Go.RowKit Go.Lib
theorem mem_take (l : List Nat) (k j : Nat) (h : k < l.length) : j ∈ l.take (k + 1) ↔ j ∈ l.take k ∨ j = l.getD k 0 := by
  rw [List.take_succ_eq_append_getElem h, List.mem_append]
  simp [List.getD_eq_getElem?_getD, h]
theorem getD_set (P : List Int) (i j : Nat) (v : Int) (hi : i < P.length) : (P.set i v).getD j 0 = if j = i then v else P.getD j 0 := by
  rw [List.getD_eq_getElem?_getD, List.getD_eq_getElem?_getD, List.getElem?_set]
  by_cases e : i = j
  · subst e; simp [hi]
  · simp [e, Ne.symm e]
/-- A print, part way through a round. -/
def midP (p : List Int) (M k : Nat) (P : List Int) : Prop := P.length = 64 ∧ ∀ j, j < 64 → P.getD j 0 = if j ∈ (bitsL M).take k ∧ obM M j ≠ 0 then qv p M j else p.getD j 0
def midM (M k Lf : Nat) : Prop := isM Lf (fun j => M.testBit j && !(decide (j ∈ (bitsL M).take k) && decide (obM M j ≠ 0)))
theorem midP_next {p : List Int} {M k i : Nat} {P : List Int} (h : midP p M k P) (hk : k < (bitsL M).length) (hi : (bitsL M).getD k 0 = i) (hi64 : i < 64) (ho : obM M i ≠ 0) : midP p M (k + 1) (P.set i (qv p M i)) := by
  refine ⟨by rw [List.length_set]; exact h.1, fun j hj => ?_⟩
  rw [getD_set _ _ _ _ (by rw [h.1]; exact hi64)]
  by_cases e : j = i
  · subst e
    rw [if_pos rfl, if_pos ⟨(mem_take _ _ _ hk).2 (Or.inr hi.symm), ho⟩]
  · rw [if_neg e, h.2 j hj]
    have : j ∈ (bitsL M).take (k + 1) ↔ j ∈ (bitsL M).take k := by rw [mem_take _ _ _ hk, hi]; simp [e]
    simp only [this]
theorem midP_stay {p : List Int} {M k i : Nat} {P : List Int} (h : midP p M k P) (hk : k < (bitsL M).length) (hi : (bitsL M).getD k 0 = i) (ho : obM M i = 0) : midP p M (k + 1) P := by
  refine ⟨h.1, fun j hj => ?_⟩
  rw [h.2 j hj]
  by_cases e : j = i
  · subst e; simp [ho]
  · have : j ∈ (bitsL M).take (k + 1) ↔ j ∈ (bitsL M).take k := by rw [mem_take _ _ _ hk, hi]; simp [e]
    simp only [this]
theorem midM_next {M k i Lf : Nat} (h : midM M k Lf) (hk : k < (bitsL M).length) (hi : (bitsL M).getD k 0 = i) (hi64 : i < 64) (ho : obM M i ≠ 0) : midM M (k + 1) (clr Lf i) := by
  refine isM_congr (isM_clear h i hi64) fun j _ => ?_
  by_cases e : j = i
  · subst e
    have : j ∈ (bitsL M).take (k + 1) := (mem_take _ _ _ hk).2 (Or.inr hi.symm)
    simp [this, ho]
  · have : j ∈ (bitsL M).take (k + 1) ↔ j ∈ (bitsL M).take k := by rw [mem_take _ _ _ hk, hi]; simp [e]
    simp [this, e]
theorem midM_stay {M k i Lf : Nat} (h : midM M k Lf) (hk : k < (bitsL M).length) (hi : (bitsL M).getD k 0 = i) (ho : obM M i = 0) : midM M (k + 1) Lf := by
  refine isM_congr h fun j _ => ?_
  by_cases e : j = i
  · subst e; simp [ho]
  · have : j ∈ (bitsL M).take (k + 1) ↔ j ∈ (bitsL M).take k := by rw [mem_take _ _ _ hk, hi]; simp [e]
    simp [this]
theorem midP_end {p : List Int} {M : Nat} {P : List Int} (hM : M < 2 ^ 64) (h : midP p M (bitsL M).length P) : P = rp p M := by
  refine rp_of h.1 fun j hj => ?_
  rw [h.2 j hj, List.take_length]
  simp only [mem_bitsL M hM]
  unfold qv
  cases M.testBit j
  · simp
  · by_cases ho : obM M j = 0 <;> simp [ho]
theorem midM_end {M Lf : Nat} (hM : M < 2 ^ 64) (h : midM M (bitsL M).length Lf) : Lf = rm M := by
  refine isM_eq (isM_congr h fun j _ => ?_)
  rw [List.take_length]
  have := mem_bitsL M hM j
  cases hb : M.testBit j
  · simp
  · have hm : j ∈ bitsL M := this.2 hb
    by_cases ho : obM M j = 0 <;> simp [hm, ho]
theorem row_len {M : Nat} : (bitsI M).length = (bitsL M).length := bitsI_len M
theorem TabAt_of_base {w w1 : World} {base : Nat} (hb : Below base w w1) (h0 : 0 < base) (h : TabAt w) : TabAt w1 := fun j hj => by rw [hb.cell (p := ⟨0, j, none⟩) h0]; exact h j hj
/-- What a call leaves as it was: all below the base, and all but one block. -/
def BF (base g : Nat) (w w' : World) : Prop := Below base w w' ∧ ∀ k, k < w.heap.size → k ≠ g → w'.heap[k]? = w.heap[k]?
theorem BF_refl (base g : Nat) (w : World) : BF base g w w := ⟨Below.refl _ _, fun _ _ _ => rfl⟩
theorem BF_of {base g : Nat} {w w' : World} (h : Below w.heap.size w w') (hb : base ≤ w.heap.size) : BF base g w w' := ⟨h.mono hb, fun _ hk _ => heap_below h hk rfl⟩
theorem BF_trans {base g : Nat} {w w1 w2 : World} (h : BF base g w w1) (k : BF base g w1 w2) : BF base g w w2 :=
  ⟨h.1.trans k.1, fun j hj hn => by rw [k.2 j (Nat.lt_of_lt_of_le hj h.1.size) hn, h.2 j hj hn]⟩
theorem BF_step {base g : Nat} {w w1 w2 : World} (h : BF base g w w1) (k : Below w1.heap.size w1 w2) (hb : base ≤ w1.heap.size) : BF base g w w2 := BF_trans h (BF_of k hb)
theorem rep_other {w : World} {g g5 : Nat} {xs : List Int} {t : TypeId} (h : w.heap[g5]? = some (.cells (arr .i16 xs) t (0, 0))) (i : Nat) (v : Int) (hne : g ≠ g5) : ((w.setCell ⟨g, i, none⟩ (.int .i16 v)).drew).heap[g5]? = some (.cells (arr .i16 xs) t (0, 0)) := by
  show (w.setCell ⟨g, i, none⟩ (.int .i16 v)).heap[g5]? = _
  exact heap_far _ (Ne.symm hne) h
theorem rep_row {w : World} {B g : Nat} {e : TypeId} {v : Value} {xs : List Int} (h : Row w B e .i64 v xs) (hg : g < B) (i : Nat) (u : Int) : Row (w.setCell ⟨g, i, none⟩ (.int .i16 u)).drew B e .i64 v xs := by
  have h1 := row_far (p := ⟨g, i, none⟩) h hg (.int .i16 u)
  exact row_below h1 (bl_drew (Below.refl _ _))
theorem rep_size {w : World} {B : Nat} (h : B ≤ w.heap.size) (g i : Nat) (u : Int) : B ≤ (w.setCell ⟨g, i, none⟩ (.int .i16 u)).drew.heap.size := by
  have : (w.setCell ⟨g, i, none⟩ (.int .i16 u)).drew.heap.size = w.heap.size := by simp [World.drew]
  omega
theorem rep_below {w w3 : World} {base g : Nat} (h : BF base g w w3) (hg : base ≤ g) (i : Nat) (u : Int) : BF base g w (w3.setCell ⟨g, i, none⟩ (.int .i16 u)).drew :=
  ⟨bl_drew (h.1.setCell (p := ⟨g, i, none⟩) hg _), fun k hk hn => by
    show (w3.setCell ⟨g, i, none⟩ (.int .i16 u)).heap[k]? = _
    exact heap_far _ hn (h.2 k hk hn)⟩
set_option maxHeartbeats 4000000 in
set_option maxRecDepth 100000 in
theorem implRepair_c (p : List Int) (hp : Pr p) (hv : ∀ j, 0 ≤ p.getD j 0 ∧ p.getD j 0 ≤ 400) (M : Nat) (hM : M < 2 ^ 64) (g : Nat) (base : Nat) (w : World) (hT : TabAt w) (hb : base ≤ g) (hg : w.heap[g]? = some (.cells (arr .i16 p) 37 (0, 0))) (h0 : 0 < base) :
    Calls Tryd.prog 85 #[.pointer (some ⟨g, 0, none⟩), .int .u64 M] w fun e w' => e = .returned (.int .u64 (rm M : Nat)) ∧ w'.heap[g]? = some (.cells (arr .i16 (rp p M)) 37 (0, 0)) ∧ BF base g w w' := by
  have HP := Lib.hid hp
  have HV := Lib.hid hv
  have HM := Lib.hid hM
  have HT := Lib.hid hT
  have HG := Lib.hid hg
  have HBg := Lib.hid hb
  have H00 := Lib.hid h0
  have hgz := lt_of_heap hg
  clear hp hv hM hT hg hb h0
  go_enter Tryd.func85, Tryd.ntmps85
  go_upto_region 2 with (first
    | (refine wpList_load_row rfl 37 (.tmp 14) rfl g rfl _ _ _ _ HG.out Tryd.underlying37 rfl (by rw [szPrint, arr_size, HP.out.1]) ?_)
    | (rw [z64_Z]; refine wpList_store_row rfl 37 (.tmp 5) (.tmp 15) rfl w.heap.size (arr .i16 p) rfl rfl 37 (arr .i16 Z64) (al1_0 _ _) (by rw [szPrint, arr_size, HP.out.1]) (by rw [arr_size, arr_size, HP.out.1]; rfl) (arr_one _ _) ?_))
  have HRow := Lib.hid (setRow_heap (w.alloc (.cells (arr .i16 Z64) 37)) w.heap.size _ (arr .i16 p) 37 (0, 0) (al1_0 _ _))
  have HB1 := Lib.hid (below_setRow (bl1 w (.cells (arr .i16 Z64) 37)) (Nat.le_refl _) (arr .i16 p))
  have HSz : Hid (((w.alloc (.cells (arr .i16 Z64) 37)).setRow w.heap.size (arr .i16 p)).heap.size = w.heap.size + 1) := Lib.hid (by simp)
  generalize (w.alloc (.cells (arr .i16 Z64) 37)).setRow w.heap.size (arr .i16 p) = w1 at *
  obtain ⟨g5, hg5⟩ : ∃ g5, g5 = w.heap.size := ⟨_, rfl⟩
  rw [← hg5] at HRow
  have HG5 := Lib.hid hg5
  have hne5 : g ≠ g5 := by omega
  rw [← hg5]
  go_wp2_with fail
  refine (cellsIn_c M HM.out _ (TabAt_below HB1.out (TabAt_pos HT.out) HT.out)).mono ?_
  rintro e w2 ⟨v, rfl, hR, hb2⟩
  obtain ⟨pv, cv, rfl, _⟩ := row_PI hR
  have hlen := row_len (M := M)
  rw [hlen]
  have hn64 := bitsL_le M HM.out
  obtain ⟨n, hn⟩ : ∃ n, n = (bitsL M).length := ⟨_, rfl⟩
  rw [← hn]
  rw [hlen, ← hn] at hR
  have HN := Lib.hid hn
  have HR := Lib.hid hR
  have HB2 := Lib.hid (bt HB1.out hb2)
  have HGw := Lib.hid (heap_below HB2.out hgz HG.out)
  have HG5w := Lib.hid (heap_below hb2 (lt_of_heap HRow.out) HRow.out)
  have HBs : Hid (g < w1.heap.size) := Lib.hid (by rw [HSz.out]; omega)
  have HB5 : Hid (g5 < w1.heap.size) := Lib.hid (by rw [HSz.out]; omega)
  have HBw2 := Lib.hid hb2.size
  have hn64' : n ≤ 64 := by omega
  clear hn hR hb2 hlen hn64 hg5
  generalize w1.heap.size = B at *
  go_wp2
  go_loopw [6, 20] (fun lf i wr => ∃ (k Lf : Nat) (P : List Int), k ≤ n ∧ i = .int .i64 k ∧ lf = .int .u64 Lf ∧ midM M k Lf ∧ midP p M k P ∧ wr.heap[g]? = some (.cells (arr .i16 P) 37 (0, 0)) ∧ wr.heap[g5]? = some (.cells (arr .i16 p) 37 (0, 0)) ∧ Row wr B 3 .i64 (.slice pv n cv) (bitsI M) ∧ B ≤ wr.heap.size ∧ BF base g w wr) (fun _ i _ => n - (intOf i).toNat)
  case atStart =>
    exact ⟨0, M, p, Nat.zero_le _, rfl, rfl, isM_congr (isM_self M HM.out) (fun j _ => by simp), ⟨HP.out.1, fun j _ => by simp⟩, HGw.out, HG5w.out, HR.out, HBw2.out, BF_of HB2.out (by have := HBg.out; omega)⟩
  case round =>
    obtain ⟨k, Lf, P, hk, rfl, rfl, hmM, hmP, hG, hG5, hR, hBz, hW⟩ := hrel
    have HmM := Lib.hid hmM
    have HmP := Lib.hid hmP
    have HG1 := Lib.hid hG
    have HG51 := Lib.hid hG5
    have HR1 := Lib.hid hR
    have HBz := Lib.hid hBz
    have HW := Lib.hid hW
    clear hmM hmP hG hG5 hR hBz hW
    by_cases hlt : k < n
    · have hkn : k < (bitsL M).length := by have := HN.out; omega
      have hkd : decide ((k : Int) < n) = true := by simp; omega
      obtain ⟨pv', cv', hpv, hPI⟩ := row_PI HR1.out
      have hpe : pv' = pv := by
        have := hpv
        simp only [Value.slice.injEq] at this
        exact this.1.symm
      subst hpe
      obtain ⟨b, o, rfl, hbz, hat⟩ := hPI (neI_of_lt (k := k) (by rw [row_len]; exact hkn))
      have hx1 := hat k (by rw [row_len]; exact hkn)
      rw [bitsI_get M k hkn] at hx1
      have hi64 := bitsL_lt M HM.out k hkn
      obtain ⟨i, hie⟩ : ∃ i, (bitsL M).getD k 0 = i := ⟨_, rfl⟩
      rw [hie] at hx1 hi64
      have HIE := Lib.hid hie
      have HKN := Lib.hid hkn
      have HTr := Lib.hid (TabAt_of_base HW.out.1 H00.out HT.out)
      have HOB : Hid (bits .andNot .u64 ((arM i : Nat) : Int) (M : Int) = ((obM M i : Nat) : Int)) := Lib.hid (andNot_int (arM i) M (arM_lt i) HM.out)
      clear hat hpv hPI hkn hie
      obtain ⟨wo, rfl⟩ : ∃ wo : World, wo = wr := ⟨_, rfl⟩
      have hOB := HOB.out
      go_wp2_with (go_at_call 49; refine (around_c i hi64 _).mono ?_; rintro e w' ⟨rfl, rfl⟩)
      refine (cellsIn_c (obM M i) (obM_lt M i) _ HTr.out).mono ?_
      rintro e w3 ⟨v2, rfl, hR2, hb3⟩
      obtain ⟨p2, c2, rfl, hP2⟩ := row_PI hR2
      have hl2 := row_len (M := obM M i)
      have h264 := bitsL_le (obM M i) (obM_lt M i)
      rw [hl2]
      obtain ⟨n2, hn2⟩ : ∃ n2, n2 = (bitsL (obM M i)).length := ⟨_, rfl⟩
      rw [← hn2]
      have HN2 := Lib.hid hn2
      have HP2 := Lib.hid hP2
      have HW3 := Lib.hid (BF_step HW.out hb3 (by have h1 := HW.out.1.size; have h2 := HBg.out; omega))
      have HG3 := Lib.hid (heap_below hb3 (lt_of_heap HG1.out) HG1.out)
      have HG53 := Lib.hid (heap_below hb3 (lt_of_heap HG51.out) HG51.out)
      have HR3 := Lib.hid (row_below HR1.out hb3)
      have HBz3 := Lib.hid (Nat.le_trans HBz.out hb3.size)
      have hbz3 := Nat.lt_of_lt_of_le hbz hb3.size
      have hx3 := (hb3.cell (p := ⟨b, o + k, none⟩) hbz).trans hx1
      rw [hn2.symm] at h264
      clear hn2 hP2 hR2 hb3 hl2
      go_wp2
      go_loop [9, 10, 30] (fun s m j => ∃ r : Nat, r ≤ n2 ∧ j = .int .i64 r ∧ m = .int .i64 r ∧ s = .int .i64 (sumL p ((bitsL (obM M i)).take r))) (fun _ _ j => n2 - (intOf j).toNat)
      case atStart => exact ⟨0, Nat.zero_le _, rfl, rfl, rfl⟩
      case round =>
        obtain ⟨r, hr, rfl, rfl, rfl⟩ := hrel
        by_cases hlt2 : r < n2
        · have hrn : r < (bitsL (obM M i)).length := by have := HN2.out; omega
          obtain ⟨b2, o2, rfl, hbz2, hat2⟩ := HP2.out (neI_of_lt (k := r) (by rw [row_len]; exact hrn))
          have hx2 := hat2 r (by rw [row_len]; exact hrn)
          rw [bitsI_get _ r hrn] at hx2
          have hj64 := bitsL_lt (obM M i) (obM_lt M i) r hrn
          have hcell := arr_cell HG53.out ((bitsL (obM M i)).getD r 0) (by rw [HP.out.1]; exact hj64)
          have HST := Lib.hid (sumL_take p (bitsL (obM M i)) r hrn)
          have hbd := sumL_bd p HV.out (bitsL (obM M i)) r (by omega)
          have hvv := HV.out ((bitsL (obM M i)).getD r 0)
          generalize (bitsL (obM M i)).getD r 0 = j at *
          generalize p.getD j 0 = q at *
          generalize hS0 : sumL p ((bitsL (obM M i)).take r) = S0 at *
          have HS0 := Lib.hid hS0
          clear hat2 hS0
          go_wp2
          go_round
          case rel => exact ⟨r + 1, by omega, by go_num, by go_num, by rw [HST.out]; try go_num⟩
          case measure => simp [intOf]; omega
        · have hrn : r = n2 := by omega
          subst hrn
          have HS := Lib.hid (sumL_bits p (obM M i) (obM_lt M i))
          have HTk : Hid ((bitsL (obM M i)).take r = bitsL (obM M i)) := Lib.hid (by rw [HN2.out, List.take_length])
          rw [HTk.out, HS.out.1]
          by_cases ho : obM M i = 0
          · have hr0 : r = 0 := by have := HN2.out; rw [ho, bitsL_zero] at this; exact this
            subst hr0
            have HX1 := Lib.hid (midP_stay HmP.out HKN.out HIE.out ho)
            have HX2 := Lib.hid (midM_stay HmM.out HKN.out HIE.out ho)
            clear ho
            generalize sumTo p (obM M i) 64 = S at *
            go_wp2
            go_roundw
            case rel => exact ⟨k + 1, Lf, P, by omega, by go_num, rfl, HX2.out, HX1.out, HG3.out, HG53.out, HR3.out, HBz3.out, HW3.out⟩
            case measure => simp [intOf]; omega
          · have hrp : 0 < r := by have := HN2.out; have h2 := HS.out.2; have := cnt_pos (obM_lt M i) ho; omega
            have hrz : ¬ (r = 0) := by omega
            have hrc : (r : Int) = (cnt (obM M i) : Nat) := by have := HN2.out; have h2 := HS.out.2; omega
            have HQ : Hid (Int.tdiv (sumTo p (obM M i) 64) (r : Int) = qv p M i) := Lib.hid (by
              rw [Int.tdiv_eq_ediv_of_nonneg (sumTo_bd p (obM M i) HV.out 64).1, qv, if_neg ho, hrc])
            have hS := sumTo_bd p (obM M i) HV.out 64
            have hq := qv_bd p HV.out M i
            have HX1 := Lib.hid (midP_next HmP.out HKN.out HIE.out hi64 ho)
            have HX2 := Lib.hid (midM_next HmM.out HKN.out HIE.out hi64 ho)
            have HC := Lib.hid (clear_int Lf i HmM.out.1 hi64)
            clear hrc ho
            generalize sumTo p (obM M i) 64 = S at *
            generalize qv p M i = qq at *
            generalize hclr : clr Lf i = Lf' at *
            clear hclr
            have hQ := HQ.out
            have hw1 : IntKind.i64.wrap qq = qq := Go.IntWalk.i64_in _ (by omega)
            have hw2 : IntKind.i16.wrap qq = qq := Go.IntWalk.i16_in _ (by omega)
            have hi64' : (i : Int) < 64 := by omega
            have HD1 := Lib.hid (heap_below (bl_drew (Below.refl _ w3)) (lt_of_heap HG3.out) HG3.out)
            have hfz : w3.frozen? ⟨g, i, none⟩ = false := frozen_of_row _ _ _ _ _ HG3.out
            have hc1 := arr_cell HD1.out i (by rw [HmP.out.1]; exact hi64)
            go_upto_region 12 with fail
            refine wp_region_still_tail 8 (by kernel_rfl) (by kernel_rfl) ?_
            simp only [List.take_succ_cons, List.take_zero, List.drop_succ_cons, List.drop_zero]
            still_step
            still_step
            still_step
            still_step
            still_step
            still_step
            still_step
            still_step
            refine wpStill_nil ?_
            change wpList _ _ _ _ _ w3.drew
            go_wp2
            go_roundw
            case rel => exact ⟨k + 1, Lf', P.set i qq, by omega, by go_num, by rw [HC.out], HX2.out, HX1.out, by first | exact arr_store HD1.out i qq | exact arr_store HG3.out i qq, rep_other HG53.out i qq hne5, rep_row HR3.out HBs.out i qq, rep_size HBz3.out g i qq, rep_below HW3.out HBg.out i qq⟩
            case measure => simp [intOf]; omega
    · have hkn : k = n := by omega
      subst hkn
      have HX1 : Hid (P = rp p M) := Lib.hid (midP_end HM.out (by rw [← HN.out]; exact HmP.out))
      have HX2 : Hid (Lf = rm M) := Lib.hid (midM_end HM.out (by rw [← HN.out]; exact HmM.out))
      go_wp2
      go_ret
      exact ⟨ret_int (by rw [HX2.out]), by rw [← HX1.out]; exact HG1.out, HW.out⟩
end Go.Proofs.YtdmlefccajaniaaDoor
