/- PickFrames: the reference. -/
import Derived.Test.YtnbbbmnjbfehmaaPickI
namespace Go.Proofs.Ytnbbbmnjbfehmaa
open Go.RowKit Go.Lib
theorem rowQ_at {w : World} {base g cap n : Nat} {l : List (List Int)} (h : RowP w base (.slice (some ⟨g, 0, none⟩) n cap) l) (hl : Prs l) : PrAt w g 0 l := fun i hi => by
  obtain ⟨p, c, hv, hps⟩ := rowP_PS h hl
  simp only [Value.slice.injEq] at hv
  obtain ⟨b, o, hb, _, hat⟩ := hps (by rintro rfl; simp at hi)
  rw [← hv.1] at hb
  simp only [Option.some.injEq, Addr.mk.injEq, and_true] at hb
  obtain ⟨rfl, rfl⟩ := hb
  exact hat i hi
theorem rowQ_lt {w : World} {base g cap n : Nat} {l : List (List Int)} (h : RowP w base (.slice (some ⟨g, 0, none⟩) n cap) l) : g < w.heap.size := (World.ownsRow.lt h g rfl).2
theorem pick_Prs {l : List (List Int)} {fs : List Int} (hl : Prs l) (h : ∀ j, j < fs.length → 0 ≤ fs.getD j 0 ∧ fs.getD j 0 < l.length) : Prs (pickL l fs) := fun j hj => by
  rw [pickL_len] at hj
  have e : (pickL l fs).getD j [] = l.getD (fs.getD j 0).toNat [] := by simp [pickL, List.getD_eq_getElem?_getD, hj]
  rw [e]
  have := h j hj
  exact hl _ (by omega)
set_option maxHeartbeats 2000000 in
set_option maxRecDepth 100000 in
theorem specPick_c (a : Int) (ha : -128 ≤ a ∧ a ≤ 127) (p : Option Addr) (n c : Nat) (l : List (List Int)) (hl : Prs l) (hn : n = l.length) (hm : n ≤ 1048576) (q : Option Addr) (m cm : Nat) (fs : List Int) (hf : m = fs.length) (hmm : m ≤ 1048576) (w : World) (hp : PS w p l) (hq : PI w q fs) :
    Calls Try.prog 41 #[.agg #[.int .i8 a, .slice p n c], .slice q m cm] w fun e w' => ∃ v, e = .returned (.tuple #[.agg #[.int .i8 (pkV a l fs).1.1, v], .int .i64 (pkV a l fs).2]) ∧ RowP w' w.heap.size v (pkV a l fs).1.2 ∧ Below w.heap.size w w' := by
  have HN := Lib.hid hn
  have HP := Lib.hid hl
  have HA := Lib.hid hp
  have HF := Lib.hid hf
  have HQ := Lib.hid hq
  have K0 := Lib.hid (al2_0 w (.cells #[.int .i8 a, .slice p n c] 30) (.cells #[.int .i8 0, .slice none 0 0] 30))
  have K1 := Lib.hid (al2_1 w (.cells #[.int .i8 a, .slice p n c] 30) (.cells #[.int .i8 0, .slice none 0 0] 30))
  have KB := Lib.hid (bl2 w (.cells #[.int .i8 a, .slice p n c] 30) (.cells #[.int .i8 0, .slice none 0 0] 30))
  clear hl hn hp hf hq
  cases hsh : shB a l
  · have HV : Hid (pkV a l fs = ((0, []), 1)) := Lib.hid (by simp [pkV, scV, hsh])
    have HS := Lib.hid hsh
    clear hsh
    go_enter Try.func41, Try.ntmps41
    go_upto_region 1 with fail
    generalize ((w.alloc (.cells #[.int .i8 a, .slice p n c] 30)).alloc (.cells #[.int .i8 0, .slice none 0 0] 30)) = w0 at *
    go_wp2_with fail
    refine (l07Ok_c a ha p n c l HP.out HN.out hm _ _ _ (PS_below KB.out HA.out) K0.out).mono ?_
    rintro e w1 ⟨rfl, hb1⟩
    rw [HS.out]
    have K11 := Lib.hid (heap_below hb1 (lt_of_heap K1.out) K1.out)
    have HB1 := Lib.hid (bt KB.out hb1)
    clear hb1 K0 K1 KB
    have d0 := bk2_0 K11.out
    have d1 := bk2_1 K11.out
    have f0 := blk_f K11.out 0
    have f1 := blk_f K11.out 1
    go_wp2
    exact bodyPost_ret (results_ct rfl _ _ _ 30 _ _ _ rfl (bk2 K11.out) Try.underlying30 rfl szSheetI) rfl ⟨.slice none 0 0, by rw [HV.out]; rfl, by rw [HV.out]; exact rowP_nil _ _, below2 HB1.out (Nat.le_succ _) _ _⟩
  · have HS := Lib.hid hsh
    have HSV : Hid (scV a l fs = if okI n fs then 0 else 2) := Lib.hid (by simp [scV, hsh, HN.out])
    clear hsh
    go_enter Try.func41, Try.ntmps41
    go_upto_region 1 with fail
    generalize ((w.alloc (.cells #[.int .i8 a, .slice p n c] 30)).alloc (.cells #[.int .i8 0, .slice none 0 0] 30)) = w0 at *
    go_wp2_with fail
    refine (l07Ok_c a ha p n c l HP.out HN.out hm _ _ _ (PS_below KB.out HA.out) K0.out).mono ?_
    rintro e w1 ⟨rfl, hb1⟩
    rw [HS.out]
    have K01 := Lib.hid (heap_below hb1 (lt_of_heap K0.out) K0.out)
    have K11 := Lib.hid (heap_below hb1 (lt_of_heap K1.out) K1.out)
    have HB1 := Lib.hid (bt KB.out hb1)
    have L1 : Hid (w.heap.size + 1 < w1.heap.size) := Lib.hid (lt_of_heap K11.out)
    clear hb1 K0 K1 KB
    go_upto_region 4 with fail
    go_loopw [6] (fun ii wr => ∃ j q : Nat, j ≤ m ∧ ii = .int .i64 j ∧ okI n (fs.take j) = true ∧ wr = w1.drewN q) (fun ii _ => m - (intOf ii).toNat)
    case atStart => exact ⟨0, 0, Nat.zero_le _, rfl, rfl, rfl⟩
    case round =>
      obtain ⟨j, dq, hj, rfl, hok, hW⟩ := hrel
      have HOK := Lib.hid hok
      have HW := Lib.hid hW
      clear hok hW
      have K02 : Hid (wr.heap[w.heap.size]? = some (.cells #[.int .i8 a, .slice p n c] 30 (0, 0))) := Lib.hid (by rw [HW.out]; exact K01.out)
      have K12 : Hid (wr.heap[w.heap.size + 1]? = some (.cells #[.int .i8 0, .slice none 0 0] 30 (0, 0))) := Lib.hid (by rw [HW.out]; exact K11.out)
      have HB2 : Hid (Below w.heap.size w wr) := Lib.hid (by rw [HW.out]; exact bl_drewN HB1.out _)
      have L2 : Hid (w.heap.size + 1 < wr.heap.size) := Lib.hid (lt_of_heap K12.out)
      by_cases hjm : j < m
      · have hjf : j < fs.length := by rw [← HF.out]; exact hjm
        have hjj : (j : Int) < m := by omega
        obtain ⟨bq, oq, rfl, hbq, hcq⟩ := HQ.out (neI_of_lt hjf)
        have hcj : wr.cell? ⟨bq, oq + j, none⟩ = some (.int .i64 (fs.getD j 0)) := by rw [HB2.out.cell (p := ⟨bq, oq + j, none⟩) hbq]; exact hcq j hjf
        have c1 := bk2_1 K02.out
        have HTk := Lib.hid (okI_take n fs j hjf)
        have HBad := Lib.hid (okI_bad n fs j hjf)
        generalize fs.getD j 0 = x at *
        clear hcq hbq
        have HCL := Lib.hid (fun w => l00In_c x 0 ((n : Int) - 1) w)
        cases hin : inF n x
        · have HD : Hid ((decide (0 ≤ x) && decide (x ≤ (n : Int) - 1)) = false) := Lib.hid hin
          have HV : Hid (pkV a l fs = ((0, []), 2)) := Lib.hid (by simp [pkV, HSV.out, HBad.out hin])
          rw [HD.out] at HCL
          clear hin
          go_wp2_with fail
          go_quiet ((go_at_call 54; exact quiet_c (HCL.out _)))
          have d0 := bk2_0 K12.out
          have d1 := bk2_1 K12.out
          have f0 := blk_f K12.out 0
          have f1 := blk_f K12.out 1
          go_wp2
          exact bodyPost_ret (results_ct rfl _ _ _ 30 _ _ _ rfl (bk2 (w := wr.drewN nq) K12.out) Try.underlying30 rfl szSheetI) rfl ⟨.slice none 0 0, by rw [HV.out]; rfl, by rw [HV.out]; exact rowP_nil _ _, below2 (bl_drewN HB2.out _) (Nat.le_succ _) _ _⟩
        · have HD : Hid ((decide (0 ≤ x) && decide (x ≤ (n : Int) - 1)) = true) := Lib.hid hin
          have HN2 : Hid (okI n (fs.take (j + 1)) = true) := Lib.hid (by rw [HTk.out, HOK.out, hin]; rfl)
          rw [HD.out] at HCL
          clear hin
          go_wp2_with fail
          go_quiet ((go_at_call 54; exact quiet_c (HCL.out _)))
          go_wp2
          go_roundw
          case rel => exact ⟨j + 1, dq + nq, by omega, by go_num, HN2.out, by rw [HW.out, World.drewN_drewN]⟩
          case measure => simp [intOf]; omega
      · have hjn : j = m := by omega
        subst hjn
        have HOKf : Hid (okI n fs = true) := Lib.hid (okI_full j (by rw [HF.out]; exact Nat.lt_irrefl _) HOK.out)
        have HC : Hid (scV a l fs = 0) := Lib.hid (by rw [HSV.out, HOKf.out]; rfl)
        have HIx : Hid (∀ j, j < fs.length → 0 ≤ fs.getD j 0 ∧ fs.getD j 0 < n) := Lib.hid (fun j hj => okI_get HOKf.out j hj)
        clear HOK HW K01 K11 HB1 L1
        by_cases hm12 : j ≤ 12
        · have HV : Hid (pkV a l fs = ((a, pickL l fs), 0)) := Lib.hid (by rw [pkV, if_pos HC.out, if_pos (by rw [← HF.out]; exact hm12)])
          have hdg : decide ((12 : Int) < (j : Int)) = false := decide_eq_false (by omega)
          have hgt : ((j : Int) > 12) = False := by simp; omega
          obtain ⟨V, rfl⟩ : ∃ V : World, V = wr := ⟨_, rfl⟩
          have HR0 := Lib.hid (rowP_new V V.heap.size (Nat.le_refl _))
          go_upto_region 12 with fail
          go_loopw [7, 8] (fun vv ii wr => ∃ (k : Nat) (gv nv cv : Nat), k ≤ j ∧ ii = .int .i64 k ∧ vv = .slice (some ⟨gv, 0, none⟩) nv cv ∧ RowP wr V.heap.size vv (pickL l (fs.take k)) ∧ Below V.heap.size V wr) (fun _ ii _ => j - (intOf ii).toNat)
          case atStart => exact ⟨0, _, _, _, Nat.zero_le _, rfl, rfl, HR0.out, bl1 _ _⟩
          case round =>
            obtain ⟨k, gv, nv, cv, hk, rfl, hvv, hR, hW⟩ := hrel
            subst hvv
            have HR := Lib.hid hR
            have HW := Lib.hid hW
            have HWn := Lib.hid (HB2.out.trans (hW.mono HB2.out.size))
            clear hR hW
            have K03 := Lib.hid (heap_below HW.out (lt_of_heap K02.out) K02.out)
            have K13 := Lib.hid (heap_below HW.out (lt_of_heap K12.out) K12.out)
            have L3 : Hid (V.heap.size ≤ wr.heap.size) := Lib.hid HW.out.size
            by_cases hkm : k < j
            · have hkf : k < fs.length := by rw [← HF.out]; exact hkm
              have hkk : (k : Int) < j := by omega
              have HPk := Lib.hid (pickL_succ l fs k hkf)
              obtain ⟨bq, oq, rfl, hbq, hcq⟩ := HQ.out (neI_of_lt hkf)
              have hcj : wr.cell? ⟨bq, oq + k, none⟩ = some (.int .i64 (fs.getD k 0)) := by rw [HWn.out.cell (p := ⟨bq, oq + k, none⟩) hbq]; exact hcq k hkf
              obtain ⟨hx0, hx1⟩ := HIx.out k hkf
              obtain ⟨i, hie⟩ := Int.eq_ofNat_of_zero_le hx0
              rw [hie] at hcj hx1
              have hii : i < n := by omega
              obtain ⟨b, o, rfl, hb, hat⟩ := HA.out (ne_of_lt (k := i) (by have := HN.out; omega))
              obtain ⟨qq, hqq⟩ : ∃ q, q = l.getD i [] := ⟨_, rfl⟩
              have HPq : Hid (Pr qq) := Lib.hid (by rw [hqq]; exact HP.out i (by rw [← HN.out]; exact hii))
              have HRg : Hid (wr.rangeAt b (o + i * 64) (cellsP qq)) := Lib.hid (by rw [hqq]; exact rangeAt_below HWn.out hb (hat i (by rw [← HN.out]; exact hii)))
              have HPk2 : Hid (pickL l (fs.take (k + 1)) = pickL l (fs.take k) ++ [qq]) := Lib.hid (by rw [HPk.out, hie, hqq]; rfl)
              have HL8 : Hid ((pickL l (fs.take k)).length ≤ 12) := Lib.hid (by rw [pickL_len, List.length_take]; omega)
              have hu := Try.underlying45
              have hi1 : (Try.prog.info? 45).map (·.size) = some (cellsP qq).length := by rw [szPrint, cellsP_length, HPq.out.1]
              clear hie hx0 hcq hat hqq HPk
              have c1 := bk2_1 K03.out
              have hl64 : (cellsP qq).length = 64 := by rw [cellsP_length, HPq.out.1]
              have hfold := fold_print qq HPq.out.1
              rw [← z64_Z] at hfold
              have hle : w.heap.size + 1 ≤ V.heap.size := by have := L2.out; omega
              have hle2 : V.heap.size ≤ wr.heap.size := L3.out
              have HSs : Hid (∀ w', Below V.heap.size wr w' → (w'.rangeAt b (o + i * 64) (cellsP qq) ∧ w'.cell? ⟨w.heap.size, 1, none⟩ = some (.slice (some ⟨b, o, none⟩) n c) ∧ w'.cell? ⟨bq, oq + k, none⟩ = some (.int .i64 i))) := Lib.hid (fun w' h => ⟨rangeAt_below h (by omega) HRg.out, (h.cell (p := ⟨w.heap.size, 1, none⟩) (by show w.heap.size < V.heap.size; omega)).trans c1, (h.cell (p := ⟨bq, oq + k, none⟩) (by show bq < V.heap.size; omega)).trans hcj⟩)
              have Bd : Below V.heap.size wr wr.drew := bl_drew (Below.refl _ _)
              have Ba : Below V.heap.size wr (wr.alloc (.cells (cellsP qq).toArray 45)).drew := bl_drew ((Below.refl _ _).alloc hle2 _)
              have HRa := Lib.hid (rowP_below HR.out (bl_drew ((Below.refl wr.heap.size wr).alloc (Nat.le_refl _) (.cells (cellsP qq).toArray 45))))
              have HHa : Hid ((wr.alloc (.cells (cellsP qq).toArray 45)).drew.heap[wr.heap.size]? = some (.cells (flatP [qq]).toArray 45 (0, 0))) := Lib.hid (by rw [flat_one]; exact (al1_0 wr (.cells (cellsP qq).toArray 45)))
              go_upto_region 14 with fail
              clear hcj c1
              go_region_held3 (fun w' => w'.rangeAt b (o + i * 64) (cellsP qq) ∧ w'.cell? ⟨w.heap.size, 1, none⟩ = some (.slice (some ⟨b, o, none⟩) n c) ∧ w'.cell? ⟨bq, oq + k, none⟩ = some (.int .i64 i))
                (first | (with_reducible assumption) | exact HSs.out _ Bd | exact HSs.out _ Ba | exact HSs.out _ B6.out)
                ((refine step_appPs (by rfl) (.tmp 40) (.tmp 49) 28 (by rfl) V.heap.size Try.underlying28 infoPrint _ (pickL l (fs.take k)) (by rfl) HRa.out wr.heap.size 0 1 1 [qq] rfl (Prs_one HPq.out) (by rfl) (PrAt_block HHa.out (Prs_one HPq.out)) (by have := HL8.out; omega) (by show V.heap.size ≤ (wr.alloc _).heap.size; simp; omega) ?_; intro v6 w6 hrow hgr hbk hat; obtain ⟨g9, c9, rfl, _⟩ := World.ownsRow.form hrow (by simp); have hb6 := Ba.grown hgr (by show V.heap.size ≤ (wr.alloc _).heap.size; simp; omega) hbk; have B6 := Lib.hid hb6; have HR6 := Lib.hid hrow; clear hrow hgr hbk hat hb6))
              go_wp2
              go_roundw
              case rel => exact ⟨k + 1, _, _, _, by omega, by go_num, rfl, by rw [HPk2.out]; simpa using HR6.out, HW.out.trans B6.out⟩
              case measure => simp [intOf]; omega
            · have hkn : k = j := by omega
              subst hkn
              have HRf : Hid (RowP wr V.heap.size (.slice (some ⟨gv, 0, none⟩) nv cv) (pickL l fs)) := Lib.hid (by have := HR.out; rw [HF.out, List.take_length] at this; exact this)
              have hnv : nv = (pickL l fs).length := by
                obtain ⟨p', c', hv'⟩ := rowP_any HRf.out
                simp only [Value.slice.injEq] at hv'
                exact hv'.2.1
              have hnv12 : nv ≤ 12 := by rw [hnv, pickL_len, ← HF.out]; exact hm12
              have HPp : Hid (Prs (pickL l fs)) := Lib.hid (pick_Prs HP.out (fun j hj => by rw [← HN.out]; exact HIx.out j hj))
              have HNv := Lib.hid hnv
              clear hnv
              go_wp2_with fail
              refine (l07With_c a _ _ 30 nv cv (pickL l fs) HPp.out HNv.out (by omega) _ K03.out gv 0 (rowQ_at HRf.out HPp.out) (rowQ_lt HRf.out)).mono ?_
              rintro e w5 ⟨v5, rfl, hR5, hb5⟩
              obtain ⟨pv, cv5, hvv⟩ := rowP_any hR5
              subst hvv
              have HR5 := Lib.hid hR5
              have K15 := Lib.hid (heap_below hb5 (lt_of_heap K13.out) K13.out)
              have HW5 := Lib.hid (bt HWn.out hb5)
              have L5 : Hid (w.heap.size + 1 < wr.heap.size) := Lib.hid (lt_of_heap K13.out)
              have L6 : Hid (w.heap.size ≤ wr.heap.size) := Lib.hid (Nat.le_trans (Nat.le_succ _) (Nat.le_of_lt L5.out))
              clear hR5 hb5
              have d0 := bk2_0 K15.out
              have d1 := bk2_1 K15.out
              have f0 := blk_f K15.out 0
              have f1 := blk_f K15.out 1
              go_wp2
              exact bodyPost_ret (results_ct rfl _ _ _ 30 _ _ _ rfl (bk2 K15.out) Try.underlying30 rfl szSheetI) rfl ⟨_, by rw [HV.out] <;> rfl, by rw [HV.out]; exact rowP_mono (rowP_far (rowP_far HR5.out L5.out _) L5.out _) L6.out, below2 HW5.out (Nat.le_succ _) _ _⟩
        · have HV : Hid (pkV a l fs = ((0, []), 3)) := Lib.hid (by rw [pkV, if_pos HC.out, if_neg (by rw [← HF.out]; exact hm12)])
          have hdg : decide ((12 : Int) < (j : Int)) = true := decide_eq_true (by omega)
          have d0 := bk2_0 K12.out
          have d1 := bk2_1 K12.out
          have f0 := blk_f K12.out 0
          have f1 := blk_f K12.out 1
          go_wp2
          exact bodyPost_ret (results_ct rfl _ _ _ 30 _ _ _ rfl (bk2 K12.out) Try.underlying30 rfl szSheetI) rfl ⟨.slice none 0 0, by rw [HV.out]; rfl, by rw [HV.out]; exact rowP_nil _ _, below2 HB2.out (Nat.le_succ _) _ _⟩
end Go.Proofs.Ytnbbbmnjbfehmaa
