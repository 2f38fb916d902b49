/- OrderGrades: the program. -/
import Derived.Test.YtcdndjimfmpifaaOrdI
namespace Go.Proofs.Ytcdndjimfmpifaa
open Go.RowKit Go.Lib
/-- Two lists that grow, and a cell that holds one of them. -/
structure St (V : World) (gc : Nat) (vg vo : Value) (lo : List Int) (vs : Value) (ls : List Int) (W : World) : Prop where
  ro : Row W V.heap.size 2 .i64 vo lo
  rs : Row W V.heap.size 2 .i64 vs ls
  cell : W.heap[gc]? = some (.cells #[vg] 30 (0, 0))
  sep : ∀ j, vo.ownBlock = some j → vs.ownBlock ≠ some j
  no : vo.ownBlock ≠ some gc
  ns : vs.ownBlock ≠ some gc
  below : Below V.heap.size V W
theorem St.size {V : World} {gc : Nat} {vg vo : Value} {lo : List Int} {vs : Value} {ls : List Int} {W : World} (h : St V gc vg vo lo vs ls W) : V.heap.size ≤ W.heap.size := h.below.size
theorem st_below {V : World} {gc : Nat} {vg vo : Value} {lo : List Int} {vs : Value} {ls : List Int} {W W1 : World} (h : St V gc vg vo lo vs ls W) (hb : Below W.heap.size W W1) : St V gc vg vo lo vs ls W1 :=
  ⟨row_below h.ro hb, row_below h.rs hb, heap_below hb (lt_of_heap h.cell) h.cell, h.sep, h.no, h.ns, h.below.trans (hb.mono h.size)⟩
theorem st_grow_o {V : World} {gc : Nat} {vg vo vo2 : Value} {lo lo2 : List Int} {vs : Value} {ls : List Int} {W W2 : World} (h : St V gc vg vo lo vs ls W) (hg : W.grownBy W2 vo.ownBlock) (hr : Row W2 V.heap.size 2 .i64 vo2 lo2) (hbk : ∀ j, vo.ownBlock = some j → V.heap.size ≤ j) (hat : vo2.ownBlock = vo.ownBlock ∨ vo2.ownBlock = some W.heap.size) : St V gc vg vo2 lo2 vs ls W2 := by
  have hc := lt_of_heap h.cell
  refine ⟨hr, rk_grown (u := vo) h.rs hg (fun j h1 h2 => h.sep j h2 h1), (hg.block gc hc (fun e => h.no e.symm)).trans h.cell, fun j h1 h2 => ?_, fun e => ?_, h.ns, h.below.grown hg h.size hbk⟩
  · rcases hat with e | e
    · exact h.sep j (e ▸ h1) h2
    · have := (row_own h.rs h2).2
      rw [h1] at e; simp at e; omega
  · rcases hat with e2 | e2
    · exact h.no (e2 ▸ e)
    · rw [e] at e2; simp at e2; omega
theorem st_grow_s {V : World} {gc : Nat} {vg vo : Value} {lo : List Int} {vs vs2 : Value} {ls ls2 : List Int} {W W2 : World} (h : St V gc vg vo lo vs ls W) (hg : W.grownBy W2 vs.ownBlock) (hr : Row W2 V.heap.size 2 .i64 vs2 ls2) (hbk : ∀ j, vs.ownBlock = some j → V.heap.size ≤ j) (hat : vs2.ownBlock = vs.ownBlock ∨ vs2.ownBlock = some W.heap.size) : St V gc vg vo lo vs2 ls2 W2 := by
  have hc := lt_of_heap h.cell
  refine ⟨rk_grown (u := vs) h.ro hg (fun j h1 h2 => h.sep j h1 h2), hr, (hg.block gc hc (fun e => h.ns e.symm)).trans h.cell, fun j h1 h2 => ?_, h.no, fun e => ?_, h.below.grown hg h.size hbk⟩
  · rcases hat with e | e
    · exact h.sep j h1 (e ▸ h2)
    · have := (row_own h.ro h1).2
      rw [h2] at e; simp at e; omega
  · rcases hat with e2 | e2
    · exact h.ns (e2 ▸ e)
    · rw [e] at e2; simp at e2; omega
/-- A number in a block of its own. -/
def Lt (vo vs : Value) (b : Nat) (z : Int) (W : World) : Prop := W.heap[b]? = some (.cells #[.int .i64 z] 2 (0, 0)) ∧ vo.ownBlock ≠ some b ∧ vs.ownBlock ≠ some b
theorem lt_cell {vo vs : Value} {b : Nat} {z : Int} {W : World} (h : Lt vo vs b z W) : W.cell? ⟨b, 0, none⟩ = some (.int .i64 z) := by rw [cell_of_row W b 0 _ _ _ h.1]; rfl
theorem lt_new {V : World} {gc : Nat} {vg vo : Value} {lo : List Int} {vs : Value} {ls : List Int} {W : World} (h : St V gc vg vo lo vs ls W) (z : Int) : Lt vo vs W.heap.size z (W.alloc (.cells #[.int .i64 z] 2)) :=
  ⟨al1_0 _ _, fun e => by have := (row_own h.ro e).2; omega, fun e => by have := (row_own h.rs e).2; omega⟩
theorem lt_alloc {vo vs : Value} {b : Nat} {z : Int} {W : World} (h : Lt vo vs b z W) (o : Obj) : Lt vo vs b z (W.alloc o) := ⟨heap_old o _ (lt_of_heap h.1) h.1, h.2⟩
theorem lt_grow_o {vo vo2 vs : Value} {b : Nat} {z : Int} {W W2 : World} (h : Lt vo vs b z W) (hg : W.grownBy W2 vo.ownBlock) (hat : vo2.ownBlock = vo.ownBlock ∨ vo2.ownBlock = some W.heap.size) : Lt vo2 vs b z W2 := by
  have hb := lt_of_heap h.1
  refine ⟨(hg.block b hb (fun e => h.2.1 e.symm)).trans h.1, fun e => ?_, h.2.2⟩
  rcases hat with e2 | e2
  · exact h.2.1 (e2 ▸ e)
  · rw [e] at e2; simp at e2; omega
theorem lt_grow_s {vo vs vs2 : Value} {b : Nat} {z : Int} {W W2 : World} (h : Lt vo vs b z W) (hg : W.grownBy W2 vs.ownBlock) (hat : vs2.ownBlock = vs.ownBlock ∨ vs2.ownBlock = some W.heap.size) : Lt vo vs2 b z W2 := by
  have hb := lt_of_heap h.1
  refine ⟨(hg.block b hb (fun e => h.2.2 e.symm)).trans h.1, h.2.1, fun e => ?_⟩
  rcases hat with e2 | e2
  · exact h.2.2 (e2 ▸ e)
  · rw [e] at e2; simp at e2; omega
theorem lt_drew {vo vs : Value} {b : Nat} {z : Int} {W : World} (h : Lt vo vs b z W) : Lt vo vs b z W.drew := h
theorem st_store {V : World} {gc : Nat} {vg vo : Value} {lo : List Int} {vs : Value} {ls : List Int} {W : World} (h : St V gc vg vo lo vs ls W) (hg : V.heap.size ≤ gc) : St V gc vs vo lo vs ls (W.setCell ⟨gc, 0, none⟩ vs) :=
  ⟨rk_other h.ro h.no vs, rk_other h.rs h.ns vs, by rw [heap_setCell_same _ gc 0 _ _ _ h.cell]; rfl, h.sep, h.no, h.ns, h.below.setCell (p := ⟨gc, 0, none⟩) hg vs⟩
set_option maxHeartbeats 8000000 in
set_option maxRecDepth 100000 in
theorem gImplOrder_c (p : Option Addr) (n cap : Nat) (cs : List Cv) (h16 : G16 cs) (hn : n = cs.length) (hm : n ≤ 1048576) (l d : Int) (w : World) (hp : GrS w p cs) :
    Calls Try.prog 12 #[.slice p n cap, .int .i64 l, .int .i64 d] w fun e w' => ∃ v, e = .returned (.tuple #[v, .int .i64 (ogV cs l d).2]) ∧ Row w' w.heap.size 2 .i64 v (ogV cs l d).1 ∧ Below w.heap.size w w' := by
  have HN := Lib.hid hn
  have H16 := Lib.hid h16
  have HA := Lib.hid hp
  obtain ⟨V, hV⟩ : ∃ V, V = ogV cs l d := ⟨_, rfl⟩
  rw [← hV]
  have HV := Lib.hid hV
  obtain ⟨F, hF⟩ : ∃ F, F = endB l d := ⟨_, rfl⟩
  have HF := Lib.hid hF.symm
  obtain ⟨C, hC⟩ : ∃ C, C = gcV cs F := ⟨_, rfl⟩
  have HC := Lib.hid hC.symm
  clear hn h16 hp hV hF hC
  by_cases h0 : C = 0
  · subst h0
    have HV2 : Hid (V = if okN cs l d n then (ordL cs l d n, 0) else ([], 6)) := Lib.hid (by rw [HV.out, ogV, if_pos (by rw [HF.out]; exact HC.out), HN.out])
    have hgok : gOk cs = true ∧ F = true ∧ cs.length ≤ 6 ∧ 1 ≤ cs.length := by
      have h := HC.out
      unfold gcV at h
      cases h1 : gOk cs
      · simp [h1] at h
      · cases h2 : F
        · simp [h1, h2] at h
        · simp [h1, h2] at h; exact ⟨rfl, rfl, by omega, by omega⟩
    obtain ⟨hok, hft, hn6, hn1⟩ := hgok
    have hdd : ydB l = true ∧ ydB d = true := by
      have := HF.out
      rw [hft, endB] at this
      simp only [Bool.and_eq_true] at this
      exact this.1
    have HOK := Lib.hid hok
    have HDD := Lib.hid hdd
    have n6 : n ≤ 6 := by rw [HN.out]; exact hn6
    have n1 : 1 ≤ n := by rw [HN.out]; exact hn1
    clear hok hft hn6 hdd hn1
    go_enter Try.func12, Try.ntmps12
    go_wp2_with (go_at_call 43; refine (cAreScaled_c l d _).mono ?_; rintro e w' ⟨rfl, rfl⟩; rw [HF.out])
    refine (gCode_c p n cap cs H16.out HN.out hm F _ HA.out).mono ?_
    rintro e V1 ⟨rfl, hb1⟩
    rw [HC.out]
    have HB1 := Lib.hid hb1
    clear hb1
    go_upto_region 5 with fail
    have HST0 : Hid (St V1 (V1.heap.size + 1 + 1) (.slice (some ⟨V1.heap.size + 1, 0, none⟩) 0 0) (.slice (some ⟨V1.heap.size, 0, none⟩) 0 0) [] (.slice (some ⟨V1.heap.size + 1, 0, none⟩) 0 0) [] (((V1.alloc (.cells #[] 2)).alloc (.cells #[] 2)).alloc (.cells #[.slice (some ⟨V1.heap.size + 1, 0, none⟩) 0 0] 30))) := Lib.hid
      ⟨row_alloc (row_alloc (row_new V1 2 .i64 V1.heap.size (Nat.le_refl _)) _) _, by have := row_alloc (row_new (V1.alloc (.cells #[] 2)) 2 .i64 V1.heap.size (by simp)) (.cells #[.slice (some ⟨V1.heap.size + 1, 0, none⟩) 0 0] 30); simpa using this, al3_2 _ _ _ _, fun j h1 h2 => by simp [Value.ownBlock] at h1 h2; omega, by simp [Value.ownBlock] <;> omega, by simp [Value.ownBlock] <;> omega, bl3 _ _ _ _⟩
    obtain ⟨gc, hgc⟩ : ∃ gc, gc = V1.heap.size + 1 + 1 := ⟨_, rfl⟩
    rw [← hgc] at HST0 ⊢
    have HGC : Hid (V1.heap.size ≤ gc) := Lib.hid (by omega)
    clear hgc
    go_wp2_with fail
    go_loopw [9, 27] (fun v9 i wr => ∃ (k : Nat) (vs : Value), k ≤ n ∧ i = .int .i64 k ∧ okN cs l d k = true ∧ St V1 gc vs v9 (natR k) vs (scL cs l d k) wr) (fun _ i _ => n - (intOf i).toNat)
    case atStart => exact ⟨0, _, Nat.zero_le _, rfl, rfl, HST0.out⟩
    case round =>
      clear HST0
      obtain ⟨k, vs, hk, rfl, hok, hst⟩ := hrel
      have HKO := Lib.hid hok
      have HST := Lib.hid hst
      have HWw := Lib.hid (bt HB1.out hst.below)
      clear hok hst
      by_cases hlt : k < n
      · have hki : (k : Int) < n := by omega
        have hkl : k < cs.length := by rw [← HN.out]; exact hlt
        obtain ⟨bb, o, rfl, hb, hc⟩ := GrS_below HWw.out HA.out (gne_of_lt hkl)
        obtain ⟨r, m, cap2, hcell, hmn, hmm, hcv⟩ := hc k hkl
        have HM := Lib.hid hmn
        have HCV := Lib.hid hcv
        have HCB := Lib.hid (gOk_get HOK.out hkl)
        obtain ⟨SC, hSC⟩ : ∃ SC, SC = sclN (cs.getD k []) l d := ⟨_, rfl⟩
        have HSC := Lib.hid hSC.symm
        clear hc hmn hcv hkl hSC
        cases hsB : sclB (cs.getD k []) l d
        · have HSB : Hid ((if sclB (cs.getD k []) l d = true then (0 : Int) else 6) = 6) := Lib.hid (by rw [hsB]; rfl)
          have HE : Hid (V = ([], 6)) := Lib.hid (by rw [HV2.out, okN_bad (k := k) hsB hlt]; rfl)
          clear hsB
          go_wp2_with fail
          refine (cScale_c r m cap2 _ HCB.out HM.out l d HDD.out.1 _ HCV.out).mono ?_
          rintro e w1 ⟨rfl, hb1⟩
          rw [HSB.out]
          have HB2 := Lib.hid (bt HWw.out hb1)
          have HRN := Lib.hid (row_nil w1 2 .i64 w.heap.size)
          go_wp2
          go_ret2
          exact ⟨_, by rw [HE.out] <;> rfl, by rw [HE.out]; exact HRN.out, HB2.out⟩
        · have HSB : Hid ((if sclB (cs.getD k []) l d = true then (0 : Int) else 6) = 0) := Lib.hid (by rw [hsB]; rfl)
          have HKN : Hid (okN cs l d (k + 1) = true) := Lib.hid (by rw [okN_succ, HKO.out, Bool.true_and]; unfold okF; exact hsB)
          have hse : scF cs l d k = SC := by
            unfold scF
            rw [Int.toNat_natCast]
            exact HSC.out
          have HSE : Hid (scL cs l d (k + 1) = scL cs l d k ++ [SC]) := Lib.hid (by rw [scL_succ, hse])
          clear hsB hse
          have HLs : Hid ((scL cs l d k).length ≤ 17592186000000) := Lib.hid (by rw [scL_len]; omega)
          have HLo : Hid ((natR k).length ≤ 17592186000000) := Lib.hid (by rw [natR_len]; omega)
          obtain ⟨po, co, hvo⟩ := rk_any HST.out.ro
          obtain ⟨ps, cs9, hvs⟩ := rk_any HST.out.rs
          subst hvo hvs
          generalize hno : (natR k).length = no at HST ⊢
          generalize hns : (scL cs l d k).length = ns at HST ⊢
          clear hno hns
          go_wp2_with fail
          refine (cScale_c r m cap2 _ HCB.out HM.out l d HDD.out.1 _ HCV.out).mono ?_
          rintro e w1 ⟨rfl, hb1⟩
          rw [HSB.out, HSC.out]
          replace HST := Lib.hid (st_below HST.out hb1)
          clear hb1 HCV HWw hcell hb
          go_upto_region 11 with fail
          refine wp_region_noPanic ?_
          refine wp_region_held_drew (S := fun _ => True) (by kernel_rfl) trivial (fun hHeld => ?_)
          refine wpAnyH_take (i := 0) (v := .slice po no co) rfl (by kernel_rfl) (by kernel_rfl) (by kernel_rfl) (fun _ _ _ h => h) (Or.inl ⟨by rfl, fun w1 hSw => by go_simp⟩) trivial ?_
          refine wpAnyH_take (i := 1) (v := .int .i64 k) rfl (by kernel_rfl) (by kernel_rfl) (by kernel_rfl) (fun _ _ _ h => h) (Or.inl ⟨by rfl, fun w1 hSw => by go_simp⟩) trivial ?_
          refine wpAnyH_take (i := 5) (v := .int .i64 SC) rfl (by kernel_rfl) (by kernel_rfl) (by kernel_rfl) (fun _ _ _ h => h) (Or.inl ⟨by rfl, fun w1 hSw => by go_simp⟩) trivial ?_
          simp only [Act.put, List.setIfInBounds_toArray]
          replace HST : Hid (St V1 gc (.slice ps ns cs9) (.slice po no co) (natR k) (.slice ps ns cs9) (scL cs l d k) w1.drew) := Lib.hid (st_below HST.out (bl_drew (Below.refl _ _)))
          generalize w1.drew = wx0 at *
          refine wpAnyH_ready (rs := [2, 4, 6]) (by kernel_rfl) (by simp) ?_
          refine AllReadyH.cons rfl (fun K hK => ?_) (AllReadyH.cons rfl (fun K hK => ?_) (AllReadyH.cons rfl (fun K hK => ?_) AllReadyH.nil))
          · go_simp
            have HL44 := Lib.hid (lt_new HST.out (k : Int))
            replace HST := Lib.hid (st_below HST.out (bl1 wx0 (.cells #[.int .i64 (k : Int)] 2)))
            generalize wx0.alloc (.cells #[.int .i64 (k : Int)] 2) = wx1 at *
            generalize wx0.heap.size = b44 at *
            refine hK.out _ _ trivial (fun _ => ?_)
            clear hK K
            refine wpAnyH_ready (rs := [3, 4, 6]) (by kernel_rfl) (by simp) ?_
            refine AllReadyH.cons rfl (fun K hK => ?_) (AllReadyH.cons rfl (fun K hK => ?_) (AllReadyH.cons rfl (fun K hK => ?_) AllReadyH.nil))
            · refine stepI_app (by rfl) (.tmp 42) (.tmp 44) 30 (by rfl) V1.heap.size 2 .i64 8 Try.underlying30 info_i64o (by decide) _ (natR k) (by rfl) HST.out.ro b44 1 (k : Int) (by rfl) (lt_cell HL44.out) HLo.out HST.out.size ?_
              intro vo2 wx2 hrow hgr hbk hat
              rw [← natR_succ] at hrow
              obtain ⟨po2, co2, rfl⟩ := rk_any hrow
              replace HST := Lib.hid (st_grow_o HST.out hgr hrow hbk hat)
              clear HL44 hrow hgr hbk hat
              refine hK.out _ _ trivial (fun _ => ?_)
              clear hK K
              refine wpAnyH_ready (rs := [4, 6]) (by kernel_rfl) (by simp) ?_
              refine AllReadyH.cons rfl (fun K hK => ?_) (AllReadyH.cons rfl (fun K hK => ?_) AllReadyH.nil)
              · have cl : wx2.cell? ⟨gc, 0, none⟩ = some (.slice ps ns cs9) := by rw [cell_of_row _ _ _ _ _ _ HST.out.cell]; rfl
                go_simp
                clear cl
                refine hK.out _ _ trivial (fun _ => ?_)
                clear hK K
                refine wpAnyH_ready (rs := [6]) (by kernel_rfl) (by simp) ?_
                refine AllReadyH.cons rfl (fun K hK => ?_) AllReadyH.nil
                go_simp
                have HL48 := Lib.hid (lt_new HST.out SC)
                replace HST := Lib.hid (st_below HST.out (bl1 wx2 (.cells #[.int .i64 SC] 2)))
                generalize wx2.alloc (.cells #[.int .i64 SC] 2) = wx4 at *
                generalize wx2.heap.size = b48 at *
                refine hK.out _ _ trivial (fun _ => ?_)
                clear hK K
                refine wpAnyH_ready (rs := [7]) (by kernel_rfl) (by simp) ?_
                refine AllReadyH.cons rfl (fun K hK => ?_) AllReadyH.nil
                refine stepI_app (by rfl) (.tmp 46) (.tmp 48) 30 (by rfl) V1.heap.size 2 .i64 8 Try.underlying30 info_i64o (by decide) _ (scL cs l d k) (by rfl) HST.out.rs b48 1 SC (by rfl) (lt_cell HL48.out) HLs.out HST.out.size ?_
                intro vs2 wx5 hrow hgr hbk hat
                rw [← HSE.out] at hrow
                obtain ⟨ps2, cs2, rfl⟩ := rk_any hrow
                replace HST := Lib.hid (st_grow_s HST.out hgr hrow hbk hat)
                clear HL48 hrow hgr hbk hat
                refine hK.out _ _ trivial (fun _ => ?_)
                clear hK K
                simp only [Act.put, List.setIfInBounds_toArray]
                refine wpAnyH_ready (rs := [8]) (by kernel_rfl) (by simp) ?_
                refine AllReadyH.cons rfl (fun K hK => ?_) AllReadyH.nil
                go_simp
                refine hK.out _ _ trivial (fun _ => ?_)
                clear hK K
                have cl : wx5.cell? ⟨gc, 0, none⟩ = some (.slice ps ns cs9) := by rw [cell_of_row _ _ _ _ _ _ HST.out.cell]; rfl
                have cf : wx5.frozen? ⟨gc, 0, none⟩ = false := frozen_of_row _ _ _ _ _ HST.out.cell
                refine wpAnyH_ready (rs := [9]) (by kernel_rfl) (by simp) ?_
                refine AllReadyH.cons rfl (fun K hK => ?_) AllReadyH.nil
                go_simp
                refine hK.out _ _ trivial (fun _ => ?_)
                clear hK K
                refine wpAnyH_done (by kernel_rfl) ?_ _
                refine NoPanic.normal ?_
                have HSF := Lib.hid (st_store HST.out HGC.out)
                clear cl cf
                go_wp2
                go_roundw
                case rel => exact ⟨k + 1, _, by omega, by go_num, HKN.out, HSF.out⟩
                case measure => simp [intOf]; omega
              · go_simp
                have HL48 := Lib.hid (lt_new HST.out SC)
                replace HST := Lib.hid (st_below HST.out (bl1 wx2 (.cells #[.int .i64 SC] 2)))
                generalize wx2.alloc (.cells #[.int .i64 SC] 2) = wx3 at *
                generalize wx2.heap.size = b48 at *
                refine hK.out _ _ trivial (fun _ => ?_)
                clear hK K
                refine wpAnyH_ready (rs := [4]) (by kernel_rfl) (by simp) ?_
                refine AllReadyH.cons rfl (fun K hK => ?_) AllReadyH.nil
                have cl : wx3.cell? ⟨gc, 0, none⟩ = some (.slice ps ns cs9) := by rw [cell_of_row _ _ _ _ _ _ HST.out.cell]; rfl
                go_simp
                clear cl
                refine hK.out _ _ trivial (fun _ => ?_)
                clear hK K
                refine wpAnyH_ready (rs := [7]) (by kernel_rfl) (by simp) ?_
                refine AllReadyH.cons rfl (fun K hK => ?_) AllReadyH.nil
                refine stepI_app (by rfl) (.tmp 46) (.tmp 48) 30 (by rfl) V1.heap.size 2 .i64 8 Try.underlying30 info_i64o (by decide) _ (scL cs l d k) (by rfl) HST.out.rs b48 1 SC (by rfl) (lt_cell HL48.out) HLs.out HST.out.size ?_
                intro vs2 wx5 hrow hgr hbk hat
                rw [← HSE.out] at hrow
                obtain ⟨ps2, cs2, rfl⟩ := rk_any hrow
                replace HST := Lib.hid (st_grow_s HST.out hgr hrow hbk hat)
                clear HL48 hrow hgr hbk hat
                refine hK.out _ _ trivial (fun _ => ?_)
                clear hK K
                simp only [Act.put, List.setIfInBounds_toArray]
                refine wpAnyH_ready (rs := [8]) (by kernel_rfl) (by simp) ?_
                refine AllReadyH.cons rfl (fun K hK => ?_) AllReadyH.nil
                go_simp
                refine hK.out _ _ trivial (fun _ => ?_)
                clear hK K
                have cl : wx5.cell? ⟨gc, 0, none⟩ = some (.slice ps ns cs9) := by rw [cell_of_row _ _ _ _ _ _ HST.out.cell]; rfl
                have cf : wx5.frozen? ⟨gc, 0, none⟩ = false := frozen_of_row _ _ _ _ _ HST.out.cell
                refine wpAnyH_ready (rs := [9]) (by kernel_rfl) (by simp) ?_
                refine AllReadyH.cons rfl (fun K hK => ?_) AllReadyH.nil
                go_simp
                refine hK.out _ _ trivial (fun _ => ?_)
                clear hK K
                refine wpAnyH_done (by kernel_rfl) ?_ _
                refine NoPanic.normal ?_
                have HSF := Lib.hid (st_store HST.out HGC.out)
                clear cl cf
                go_wp2
                go_roundw
                case rel => exact ⟨k + 1, _, by omega, by go_num, HKN.out, HSF.out⟩
                case measure => simp [intOf]; omega
            · have cl : wx1.cell? ⟨gc, 0, none⟩ = some (.slice ps ns cs9) := by rw [cell_of_row _ _ _ _ _ _ HST.out.cell]; rfl
              go_simp
              clear cl
              refine hK.out _ _ trivial (fun _ => ?_)
              clear hK K
              refine wpAnyH_ready (rs := [3, 6]) (by kernel_rfl) (by simp) ?_
              refine AllReadyH.cons rfl (fun K hK => ?_) (AllReadyH.cons rfl (fun K hK => ?_) AllReadyH.nil)
              · refine stepI_app (by rfl) (.tmp 42) (.tmp 44) 30 (by rfl) V1.heap.size 2 .i64 8 Try.underlying30 info_i64o (by decide) _ (natR k) (by rfl) HST.out.ro b44 1 (k : Int) (by rfl) (lt_cell HL44.out) HLo.out HST.out.size ?_
                intro vo2 wx3 hrow hgr hbk hat
                rw [← natR_succ] at hrow
                obtain ⟨po2, co2, rfl⟩ := rk_any hrow
                replace HST := Lib.hid (st_grow_o HST.out hgr hrow hbk hat)
                clear HL44 hrow hgr hbk hat
                refine hK.out _ _ trivial (fun _ => ?_)
                clear hK K
                refine wpAnyH_ready (rs := [6]) (by kernel_rfl) (by simp) ?_
                refine AllReadyH.cons rfl (fun K hK => ?_) AllReadyH.nil
                go_simp
                have HL48 := Lib.hid (lt_new HST.out SC)
                replace HST := Lib.hid (st_below HST.out (bl1 wx3 (.cells #[.int .i64 SC] 2)))
                generalize wx3.alloc (.cells #[.int .i64 SC] 2) = wx4 at *
                generalize wx3.heap.size = b48 at *
                refine hK.out _ _ trivial (fun _ => ?_)
                clear hK K
                refine wpAnyH_ready (rs := [7]) (by kernel_rfl) (by simp) ?_
                refine AllReadyH.cons rfl (fun K hK => ?_) AllReadyH.nil
                refine stepI_app (by rfl) (.tmp 46) (.tmp 48) 30 (by rfl) V1.heap.size 2 .i64 8 Try.underlying30 info_i64o (by decide) _ (scL cs l d k) (by rfl) HST.out.rs b48 1 SC (by rfl) (lt_cell HL48.out) HLs.out HST.out.size ?_
                intro vs2 wx5 hrow hgr hbk hat
                rw [← HSE.out] at hrow
                obtain ⟨ps2, cs2, rfl⟩ := rk_any hrow
                replace HST := Lib.hid (st_grow_s HST.out hgr hrow hbk hat)
                clear HL48 hrow hgr hbk hat
                refine hK.out _ _ trivial (fun _ => ?_)
                clear hK K
                simp only [Act.put, List.setIfInBounds_toArray]
                refine wpAnyH_ready (rs := [8]) (by kernel_rfl) (by simp) ?_
                refine AllReadyH.cons rfl (fun K hK => ?_) AllReadyH.nil
                go_simp
                refine hK.out _ _ trivial (fun _ => ?_)
                clear hK K
                have cl : wx5.cell? ⟨gc, 0, none⟩ = some (.slice ps ns cs9) := by rw [cell_of_row _ _ _ _ _ _ HST.out.cell]; rfl
                have cf : wx5.frozen? ⟨gc, 0, none⟩ = false := frozen_of_row _ _ _ _ _ HST.out.cell
                refine wpAnyH_ready (rs := [9]) (by kernel_rfl) (by simp) ?_
                refine AllReadyH.cons rfl (fun K hK => ?_) AllReadyH.nil
                go_simp
                refine hK.out _ _ trivial (fun _ => ?_)
                clear hK K
                refine wpAnyH_done (by kernel_rfl) ?_ _
                refine NoPanic.normal ?_
                have HSF := Lib.hid (st_store HST.out HGC.out)
                clear cl cf
                go_wp2
                go_roundw
                case rel => exact ⟨k + 1, _, by omega, by go_num, HKN.out, HSF.out⟩
                case measure => simp [intOf]; omega
              · go_simp
                have HL48 := Lib.hid (lt_new HST.out SC)
                replace HL44 := Lib.hid (lt_alloc HL44.out (.cells #[.int .i64 SC] 2))
                replace HST := Lib.hid (st_below HST.out (bl1 wx1 (.cells #[.int .i64 SC] 2)))
                generalize wx1.alloc (.cells #[.int .i64 SC] 2) = wx3 at *
                generalize wx1.heap.size = b48 at *
                refine hK.out _ _ trivial (fun _ => ?_)
                clear hK K
                refine wpAnyH_ready (rs := [3]) (by kernel_rfl) (by simp) ?_
                refine AllReadyH.cons rfl (fun K hK => ?_) AllReadyH.nil
                refine stepI_app (by rfl) (.tmp 42) (.tmp 44) 30 (by rfl) V1.heap.size 2 .i64 8 Try.underlying30 info_i64o (by decide) _ (natR k) (by rfl) HST.out.ro b44 1 (k : Int) (by rfl) (lt_cell HL44.out) HLo.out HST.out.size ?_
                intro vo2 wx4 hrow hgr hbk hat
                rw [← natR_succ] at hrow
                obtain ⟨po2, co2, rfl⟩ := rk_any hrow
                replace HL48 := Lib.hid (lt_grow_o HL48.out hgr hat)
                replace HST := Lib.hid (st_grow_o HST.out hgr hrow hbk hat)
                clear HL44 hrow hgr hbk hat
                refine hK.out _ _ trivial (fun _ => ?_)
                clear hK K
                refine wpAnyH_ready (rs := [7]) (by kernel_rfl) (by simp) ?_
                refine AllReadyH.cons rfl (fun K hK => ?_) AllReadyH.nil
                refine stepI_app (by rfl) (.tmp 46) (.tmp 48) 30 (by rfl) V1.heap.size 2 .i64 8 Try.underlying30 info_i64o (by decide) _ (scL cs l d k) (by rfl) HST.out.rs b48 1 SC (by rfl) (lt_cell HL48.out) HLs.out HST.out.size ?_
                intro vs2 wx5 hrow hgr hbk hat
                rw [← HSE.out] at hrow
                obtain ⟨ps2, cs2, rfl⟩ := rk_any hrow
                replace HST := Lib.hid (st_grow_s HST.out hgr hrow hbk hat)
                clear HL48 hrow hgr hbk hat
                refine hK.out _ _ trivial (fun _ => ?_)
                clear hK K
                simp only [Act.put, List.setIfInBounds_toArray]
                refine wpAnyH_ready (rs := [8]) (by kernel_rfl) (by simp) ?_
                refine AllReadyH.cons rfl (fun K hK => ?_) AllReadyH.nil
                go_simp
                refine hK.out _ _ trivial (fun _ => ?_)
                clear hK K
                have cl : wx5.cell? ⟨gc, 0, none⟩ = some (.slice ps ns cs9) := by rw [cell_of_row _ _ _ _ _ _ HST.out.cell]; rfl
                have cf : wx5.frozen? ⟨gc, 0, none⟩ = false := frozen_of_row _ _ _ _ _ HST.out.cell
                refine wpAnyH_ready (rs := [9]) (by kernel_rfl) (by simp) ?_
                refine AllReadyH.cons rfl (fun K hK => ?_) AllReadyH.nil
                go_simp
                refine hK.out _ _ trivial (fun _ => ?_)
                clear hK K
                refine wpAnyH_done (by kernel_rfl) ?_ _
                refine NoPanic.normal ?_
                have HSF := Lib.hid (st_store HST.out HGC.out)
                clear cl cf
                go_wp2
                go_roundw
                case rel => exact ⟨k + 1, _, by omega, by go_num, HKN.out, HSF.out⟩
                case measure => simp [intOf]; omega
            · go_simp
              have HL48 := Lib.hid (lt_new HST.out SC)
              replace HL44 := Lib.hid (lt_alloc HL44.out (.cells #[.int .i64 SC] 2))
              replace HST := Lib.hid (st_below HST.out (bl1 wx1 (.cells #[.int .i64 SC] 2)))
              generalize wx1.alloc (.cells #[.int .i64 SC] 2) = wx2 at *
              generalize wx1.heap.size = b48 at *
              refine hK.out _ _ trivial (fun _ => ?_)
              clear hK K
              refine wpAnyH_ready (rs := [3, 4]) (by kernel_rfl) (by simp) ?_
              refine AllReadyH.cons rfl (fun K hK => ?_) (AllReadyH.cons rfl (fun K hK => ?_) AllReadyH.nil)
              · refine stepI_app (by rfl) (.tmp 42) (.tmp 44) 30 (by rfl) V1.heap.size 2 .i64 8 Try.underlying30 info_i64o (by decide) _ (natR k) (by rfl) HST.out.ro b44 1 (k : Int) (by rfl) (lt_cell HL44.out) HLo.out HST.out.size ?_
                intro vo2 wx3 hrow hgr hbk hat
                rw [← natR_succ] at hrow
                obtain ⟨po2, co2, rfl⟩ := rk_any hrow
                replace HL48 := Lib.hid (lt_grow_o HL48.out hgr hat)
                replace HST := Lib.hid (st_grow_o HST.out hgr hrow hbk hat)
                clear HL44 hrow hgr hbk hat
                refine hK.out _ _ trivial (fun _ => ?_)
                clear hK K
                refine wpAnyH_ready (rs := [4]) (by kernel_rfl) (by simp) ?_
                refine AllReadyH.cons rfl (fun K hK => ?_) AllReadyH.nil
                have cl : wx3.cell? ⟨gc, 0, none⟩ = some (.slice ps ns cs9) := by rw [cell_of_row _ _ _ _ _ _ HST.out.cell]; rfl
                go_simp
                clear cl
                refine hK.out _ _ trivial (fun _ => ?_)
                clear hK K
                refine wpAnyH_ready (rs := [7]) (by kernel_rfl) (by simp) ?_
                refine AllReadyH.cons rfl (fun K hK => ?_) AllReadyH.nil
                refine stepI_app (by rfl) (.tmp 46) (.tmp 48) 30 (by rfl) V1.heap.size 2 .i64 8 Try.underlying30 info_i64o (by decide) _ (scL cs l d k) (by rfl) HST.out.rs b48 1 SC (by rfl) (lt_cell HL48.out) HLs.out HST.out.size ?_
                intro vs2 wx5 hrow hgr hbk hat
                rw [← HSE.out] at hrow
                obtain ⟨ps2, cs2, rfl⟩ := rk_any hrow
                replace HST := Lib.hid (st_grow_s HST.out hgr hrow hbk hat)
                clear HL48 hrow hgr hbk hat
                refine hK.out _ _ trivial (fun _ => ?_)
                clear hK K
                simp only [Act.put, List.setIfInBounds_toArray]
                refine wpAnyH_ready (rs := [8]) (by kernel_rfl) (by simp) ?_
                refine AllReadyH.cons rfl (fun K hK => ?_) AllReadyH.nil
                go_simp
                refine hK.out _ _ trivial (fun _ => ?_)
                clear hK K
                have cl : wx5.cell? ⟨gc, 0, none⟩ = some (.slice ps ns cs9) := by rw [cell_of_row _ _ _ _ _ _ HST.out.cell]; rfl
                have cf : wx5.frozen? ⟨gc, 0, none⟩ = false := frozen_of_row _ _ _ _ _ HST.out.cell
                refine wpAnyH_ready (rs := [9]) (by kernel_rfl) (by simp) ?_
                refine AllReadyH.cons rfl (fun K hK => ?_) AllReadyH.nil
                go_simp
                refine hK.out _ _ trivial (fun _ => ?_)
                clear hK K
                refine wpAnyH_done (by kernel_rfl) ?_ _
                refine NoPanic.normal ?_
                have HSF := Lib.hid (st_store HST.out HGC.out)
                clear cl cf
                go_wp2
                go_roundw
                case rel => exact ⟨k + 1, _, by omega, by go_num, HKN.out, HSF.out⟩
                case measure => simp [intOf]; omega
              · have cl : wx2.cell? ⟨gc, 0, none⟩ = some (.slice ps ns cs9) := by rw [cell_of_row _ _ _ _ _ _ HST.out.cell]; rfl
                go_simp
                clear cl
                refine hK.out _ _ trivial (fun _ => ?_)
                clear hK K
                refine wpAnyH_ready (rs := [3]) (by kernel_rfl) (by simp) ?_
                refine AllReadyH.cons rfl (fun K hK => ?_) AllReadyH.nil
                refine stepI_app (by rfl) (.tmp 42) (.tmp 44) 30 (by rfl) V1.heap.size 2 .i64 8 Try.underlying30 info_i64o (by decide) _ (natR k) (by rfl) HST.out.ro b44 1 (k : Int) (by rfl) (lt_cell HL44.out) HLo.out HST.out.size ?_
                intro vo2 wx4 hrow hgr hbk hat
                rw [← natR_succ] at hrow
                obtain ⟨po2, co2, rfl⟩ := rk_any hrow
                replace HL48 := Lib.hid (lt_grow_o HL48.out hgr hat)
                replace HST := Lib.hid (st_grow_o HST.out hgr hrow hbk hat)
                clear HL44 hrow hgr hbk hat
                refine hK.out _ _ trivial (fun _ => ?_)
                clear hK K
                refine wpAnyH_ready (rs := [7]) (by kernel_rfl) (by simp) ?_
                refine AllReadyH.cons rfl (fun K hK => ?_) AllReadyH.nil
                refine stepI_app (by rfl) (.tmp 46) (.tmp 48) 30 (by rfl) V1.heap.size 2 .i64 8 Try.underlying30 info_i64o (by decide) _ (scL cs l d k) (by rfl) HST.out.rs b48 1 SC (by rfl) (lt_cell HL48.out) HLs.out HST.out.size ?_
                intro vs2 wx5 hrow hgr hbk hat
                rw [← HSE.out] at hrow
                obtain ⟨ps2, cs2, rfl⟩ := rk_any hrow
                replace HST := Lib.hid (st_grow_s HST.out hgr hrow hbk hat)
                clear HL48 hrow hgr hbk hat
                refine hK.out _ _ trivial (fun _ => ?_)
                clear hK K
                simp only [Act.put, List.setIfInBounds_toArray]
                refine wpAnyH_ready (rs := [8]) (by kernel_rfl) (by simp) ?_
                refine AllReadyH.cons rfl (fun K hK => ?_) AllReadyH.nil
                go_simp
                refine hK.out _ _ trivial (fun _ => ?_)
                clear hK K
                have cl : wx5.cell? ⟨gc, 0, none⟩ = some (.slice ps ns cs9) := by rw [cell_of_row _ _ _ _ _ _ HST.out.cell]; rfl
                have cf : wx5.frozen? ⟨gc, 0, none⟩ = false := frozen_of_row _ _ _ _ _ HST.out.cell
                refine wpAnyH_ready (rs := [9]) (by kernel_rfl) (by simp) ?_
                refine AllReadyH.cons rfl (fun K hK => ?_) AllReadyH.nil
                go_simp
                refine hK.out _ _ trivial (fun _ => ?_)
                clear hK K
                refine wpAnyH_done (by kernel_rfl) ?_ _
                refine NoPanic.normal ?_
                have HSF := Lib.hid (st_store HST.out HGC.out)
                clear cl cf
                go_wp2
                go_roundw
                case rel => exact ⟨k + 1, _, by omega, by go_num, HKN.out, HSF.out⟩
                case measure => simp [intOf]; omega
          · have cl : wx0.cell? ⟨gc, 0, none⟩ = some (.slice ps ns cs9) := by rw [cell_of_row _ _ _ _ _ _ HST.out.cell]; rfl
            go_simp
            clear cl
            refine hK.out _ _ trivial (fun _ => ?_)
            clear hK K
            refine wpAnyH_ready (rs := [2, 6]) (by kernel_rfl) (by simp) ?_
            refine AllReadyH.cons rfl (fun K hK => ?_) (AllReadyH.cons rfl (fun K hK => ?_) AllReadyH.nil)
            · go_simp
              have HL44 := Lib.hid (lt_new HST.out (k : Int))
              replace HST := Lib.hid (st_below HST.out (bl1 wx0 (.cells #[.int .i64 (k : Int)] 2)))
              generalize wx0.alloc (.cells #[.int .i64 (k : Int)] 2) = wx2 at *
              generalize wx0.heap.size = b44 at *
              refine hK.out _ _ trivial (fun _ => ?_)
              clear hK K
              refine wpAnyH_ready (rs := [3, 6]) (by kernel_rfl) (by simp) ?_
              refine AllReadyH.cons rfl (fun K hK => ?_) (AllReadyH.cons rfl (fun K hK => ?_) AllReadyH.nil)
              · refine stepI_app (by rfl) (.tmp 42) (.tmp 44) 30 (by rfl) V1.heap.size 2 .i64 8 Try.underlying30 info_i64o (by decide) _ (natR k) (by rfl) HST.out.ro b44 1 (k : Int) (by rfl) (lt_cell HL44.out) HLo.out HST.out.size ?_
                intro vo2 wx3 hrow hgr hbk hat
                rw [← natR_succ] at hrow
                obtain ⟨po2, co2, rfl⟩ := rk_any hrow
                replace HST := Lib.hid (st_grow_o HST.out hgr hrow hbk hat)
                clear HL44 hrow hgr hbk hat
                refine hK.out _ _ trivial (fun _ => ?_)
                clear hK K
                refine wpAnyH_ready (rs := [6]) (by kernel_rfl) (by simp) ?_
                refine AllReadyH.cons rfl (fun K hK => ?_) AllReadyH.nil
                go_simp
                have HL48 := Lib.hid (lt_new HST.out SC)
                replace HST := Lib.hid (st_below HST.out (bl1 wx3 (.cells #[.int .i64 SC] 2)))
                generalize wx3.alloc (.cells #[.int .i64 SC] 2) = wx4 at *
                generalize wx3.heap.size = b48 at *
                refine hK.out _ _ trivial (fun _ => ?_)
                clear hK K
                refine wpAnyH_ready (rs := [7]) (by kernel_rfl) (by simp) ?_
                refine AllReadyH.cons rfl (fun K hK => ?_) AllReadyH.nil
                refine stepI_app (by rfl) (.tmp 46) (.tmp 48) 30 (by rfl) V1.heap.size 2 .i64 8 Try.underlying30 info_i64o (by decide) _ (scL cs l d k) (by rfl) HST.out.rs b48 1 SC (by rfl) (lt_cell HL48.out) HLs.out HST.out.size ?_
                intro vs2 wx5 hrow hgr hbk hat
                rw [← HSE.out] at hrow
                obtain ⟨ps2, cs2, rfl⟩ := rk_any hrow
                replace HST := Lib.hid (st_grow_s HST.out hgr hrow hbk hat)
                clear HL48 hrow hgr hbk hat
                refine hK.out _ _ trivial (fun _ => ?_)
                clear hK K
                simp only [Act.put, List.setIfInBounds_toArray]
                refine wpAnyH_ready (rs := [8]) (by kernel_rfl) (by simp) ?_
                refine AllReadyH.cons rfl (fun K hK => ?_) AllReadyH.nil
                go_simp
                refine hK.out _ _ trivial (fun _ => ?_)
                clear hK K
                have cl : wx5.cell? ⟨gc, 0, none⟩ = some (.slice ps ns cs9) := by rw [cell_of_row _ _ _ _ _ _ HST.out.cell]; rfl
                have cf : wx5.frozen? ⟨gc, 0, none⟩ = false := frozen_of_row _ _ _ _ _ HST.out.cell
                refine wpAnyH_ready (rs := [9]) (by kernel_rfl) (by simp) ?_
                refine AllReadyH.cons rfl (fun K hK => ?_) AllReadyH.nil
                go_simp
                refine hK.out _ _ trivial (fun _ => ?_)
                clear hK K
                refine wpAnyH_done (by kernel_rfl) ?_ _
                refine NoPanic.normal ?_
                have HSF := Lib.hid (st_store HST.out HGC.out)
                clear cl cf
                go_wp2
                go_roundw
                case rel => exact ⟨k + 1, _, by omega, by go_num, HKN.out, HSF.out⟩
                case measure => simp [intOf]; omega
              · go_simp
                have HL48 := Lib.hid (lt_new HST.out SC)
                replace HL44 := Lib.hid (lt_alloc HL44.out (.cells #[.int .i64 SC] 2))
                replace HST := Lib.hid (st_below HST.out (bl1 wx2 (.cells #[.int .i64 SC] 2)))
                generalize wx2.alloc (.cells #[.int .i64 SC] 2) = wx3 at *
                generalize wx2.heap.size = b48 at *
                refine hK.out _ _ trivial (fun _ => ?_)
                clear hK K
                refine wpAnyH_ready (rs := [3]) (by kernel_rfl) (by simp) ?_
                refine AllReadyH.cons rfl (fun K hK => ?_) AllReadyH.nil
                refine stepI_app (by rfl) (.tmp 42) (.tmp 44) 30 (by rfl) V1.heap.size 2 .i64 8 Try.underlying30 info_i64o (by decide) _ (natR k) (by rfl) HST.out.ro b44 1 (k : Int) (by rfl) (lt_cell HL44.out) HLo.out HST.out.size ?_
                intro vo2 wx4 hrow hgr hbk hat
                rw [← natR_succ] at hrow
                obtain ⟨po2, co2, rfl⟩ := rk_any hrow
                replace HL48 := Lib.hid (lt_grow_o HL48.out hgr hat)
                replace HST := Lib.hid (st_grow_o HST.out hgr hrow hbk hat)
                clear HL44 hrow hgr hbk hat
                refine hK.out _ _ trivial (fun _ => ?_)
                clear hK K
                refine wpAnyH_ready (rs := [7]) (by kernel_rfl) (by simp) ?_
                refine AllReadyH.cons rfl (fun K hK => ?_) AllReadyH.nil
                refine stepI_app (by rfl) (.tmp 46) (.tmp 48) 30 (by rfl) V1.heap.size 2 .i64 8 Try.underlying30 info_i64o (by decide) _ (scL cs l d k) (by rfl) HST.out.rs b48 1 SC (by rfl) (lt_cell HL48.out) HLs.out HST.out.size ?_
                intro vs2 wx5 hrow hgr hbk hat
                rw [← HSE.out] at hrow
                obtain ⟨ps2, cs2, rfl⟩ := rk_any hrow
                replace HST := Lib.hid (st_grow_s HST.out hgr hrow hbk hat)
                clear HL48 hrow hgr hbk hat
                refine hK.out _ _ trivial (fun _ => ?_)
                clear hK K
                simp only [Act.put, List.setIfInBounds_toArray]
                refine wpAnyH_ready (rs := [8]) (by kernel_rfl) (by simp) ?_
                refine AllReadyH.cons rfl (fun K hK => ?_) AllReadyH.nil
                go_simp
                refine hK.out _ _ trivial (fun _ => ?_)
                clear hK K
                have cl : wx5.cell? ⟨gc, 0, none⟩ = some (.slice ps ns cs9) := by rw [cell_of_row _ _ _ _ _ _ HST.out.cell]; rfl
                have cf : wx5.frozen? ⟨gc, 0, none⟩ = false := frozen_of_row _ _ _ _ _ HST.out.cell
                refine wpAnyH_ready (rs := [9]) (by kernel_rfl) (by simp) ?_
                refine AllReadyH.cons rfl (fun K hK => ?_) AllReadyH.nil
                go_simp
                refine hK.out _ _ trivial (fun _ => ?_)
                clear hK K
                refine wpAnyH_done (by kernel_rfl) ?_ _
                refine NoPanic.normal ?_
                have HSF := Lib.hid (st_store HST.out HGC.out)
                clear cl cf
                go_wp2
                go_roundw
                case rel => exact ⟨k + 1, _, by omega, by go_num, HKN.out, HSF.out⟩
                case measure => simp [intOf]; omega
            · go_simp
              have HL48 := Lib.hid (lt_new HST.out SC)
              replace HST := Lib.hid (st_below HST.out (bl1 wx0 (.cells #[.int .i64 SC] 2)))
              generalize wx0.alloc (.cells #[.int .i64 SC] 2) = wx2 at *
              generalize wx0.heap.size = b48 at *
              refine hK.out _ _ trivial (fun _ => ?_)
              clear hK K
              refine wpAnyH_ready (rs := [2]) (by kernel_rfl) (by simp) ?_
              refine AllReadyH.cons rfl (fun K hK => ?_) AllReadyH.nil
              go_simp
              have HL44 := Lib.hid (lt_new HST.out (k : Int))
              replace HL48 := Lib.hid (lt_alloc HL48.out (.cells #[.int .i64 (k : Int)] 2))
              replace HST := Lib.hid (st_below HST.out (bl1 wx2 (.cells #[.int .i64 (k : Int)] 2)))
              generalize wx2.alloc (.cells #[.int .i64 (k : Int)] 2) = wx3 at *
              generalize wx2.heap.size = b44 at *
              refine hK.out _ _ trivial (fun _ => ?_)
              clear hK K
              refine wpAnyH_ready (rs := [3]) (by kernel_rfl) (by simp) ?_
              refine AllReadyH.cons rfl (fun K hK => ?_) AllReadyH.nil
              refine stepI_app (by rfl) (.tmp 42) (.tmp 44) 30 (by rfl) V1.heap.size 2 .i64 8 Try.underlying30 info_i64o (by decide) _ (natR k) (by rfl) HST.out.ro b44 1 (k : Int) (by rfl) (lt_cell HL44.out) HLo.out HST.out.size ?_
              intro vo2 wx4 hrow hgr hbk hat
              rw [← natR_succ] at hrow
              obtain ⟨po2, co2, rfl⟩ := rk_any hrow
              replace HL48 := Lib.hid (lt_grow_o HL48.out hgr hat)
              replace HST := Lib.hid (st_grow_o HST.out hgr hrow hbk hat)
              clear HL44 hrow hgr hbk hat
              refine hK.out _ _ trivial (fun _ => ?_)
              clear hK K
              refine wpAnyH_ready (rs := [7]) (by kernel_rfl) (by simp) ?_
              refine AllReadyH.cons rfl (fun K hK => ?_) AllReadyH.nil
              refine stepI_app (by rfl) (.tmp 46) (.tmp 48) 30 (by rfl) V1.heap.size 2 .i64 8 Try.underlying30 info_i64o (by decide) _ (scL cs l d k) (by rfl) HST.out.rs b48 1 SC (by rfl) (lt_cell HL48.out) HLs.out HST.out.size ?_
              intro vs2 wx5 hrow hgr hbk hat
              rw [← HSE.out] at hrow
              obtain ⟨ps2, cs2, rfl⟩ := rk_any hrow
              replace HST := Lib.hid (st_grow_s HST.out hgr hrow hbk hat)
              clear HL48 hrow hgr hbk hat
              refine hK.out _ _ trivial (fun _ => ?_)
              clear hK K
              simp only [Act.put, List.setIfInBounds_toArray]
              refine wpAnyH_ready (rs := [8]) (by kernel_rfl) (by simp) ?_
              refine AllReadyH.cons rfl (fun K hK => ?_) AllReadyH.nil
              go_simp
              refine hK.out _ _ trivial (fun _ => ?_)
              clear hK K
              have cl : wx5.cell? ⟨gc, 0, none⟩ = some (.slice ps ns cs9) := by rw [cell_of_row _ _ _ _ _ _ HST.out.cell]; rfl
              have cf : wx5.frozen? ⟨gc, 0, none⟩ = false := frozen_of_row _ _ _ _ _ HST.out.cell
              refine wpAnyH_ready (rs := [9]) (by kernel_rfl) (by simp) ?_
              refine AllReadyH.cons rfl (fun K hK => ?_) AllReadyH.nil
              go_simp
              refine hK.out _ _ trivial (fun _ => ?_)
              clear hK K
              refine wpAnyH_done (by kernel_rfl) ?_ _
              refine NoPanic.normal ?_
              have HSF := Lib.hid (st_store HST.out HGC.out)
              clear cl cf
              go_wp2
              go_roundw
              case rel => exact ⟨k + 1, _, by omega, by go_num, HKN.out, HSF.out⟩
              case measure => simp [intOf]; omega
          · go_simp
            have HL48 := Lib.hid (lt_new HST.out SC)
            replace HST := Lib.hid (st_below HST.out (bl1 wx0 (.cells #[.int .i64 SC] 2)))
            generalize wx0.alloc (.cells #[.int .i64 SC] 2) = wx1 at *
            generalize wx0.heap.size = b48 at *
            refine hK.out _ _ trivial (fun _ => ?_)
            clear hK K
            refine wpAnyH_ready (rs := [2, 4]) (by kernel_rfl) (by simp) ?_
            refine AllReadyH.cons rfl (fun K hK => ?_) (AllReadyH.cons rfl (fun K hK => ?_) AllReadyH.nil)
            · go_simp
              have HL44 := Lib.hid (lt_new HST.out (k : Int))
              replace HL48 := Lib.hid (lt_alloc HL48.out (.cells #[.int .i64 (k : Int)] 2))
              replace HST := Lib.hid (st_below HST.out (bl1 wx1 (.cells #[.int .i64 (k : Int)] 2)))
              generalize wx1.alloc (.cells #[.int .i64 (k : Int)] 2) = wx2 at *
              generalize wx1.heap.size = b44 at *
              refine hK.out _ _ trivial (fun _ => ?_)
              clear hK K
              refine wpAnyH_ready (rs := [3, 4]) (by kernel_rfl) (by simp) ?_
              refine AllReadyH.cons rfl (fun K hK => ?_) (AllReadyH.cons rfl (fun K hK => ?_) AllReadyH.nil)
              · refine stepI_app (by rfl) (.tmp 42) (.tmp 44) 30 (by rfl) V1.heap.size 2 .i64 8 Try.underlying30 info_i64o (by decide) _ (natR k) (by rfl) HST.out.ro b44 1 (k : Int) (by rfl) (lt_cell HL44.out) HLo.out HST.out.size ?_
                intro vo2 wx3 hrow hgr hbk hat
                rw [← natR_succ] at hrow
                obtain ⟨po2, co2, rfl⟩ := rk_any hrow
                replace HL48 := Lib.hid (lt_grow_o HL48.out hgr hat)
                replace HST := Lib.hid (st_grow_o HST.out hgr hrow hbk hat)
                clear HL44 hrow hgr hbk hat
                refine hK.out _ _ trivial (fun _ => ?_)
                clear hK K
                refine wpAnyH_ready (rs := [4]) (by kernel_rfl) (by simp) ?_
                refine AllReadyH.cons rfl (fun K hK => ?_) AllReadyH.nil
                have cl : wx3.cell? ⟨gc, 0, none⟩ = some (.slice ps ns cs9) := by rw [cell_of_row _ _ _ _ _ _ HST.out.cell]; rfl
                go_simp
                clear cl
                refine hK.out _ _ trivial (fun _ => ?_)
                clear hK K
                refine wpAnyH_ready (rs := [7]) (by kernel_rfl) (by simp) ?_
                refine AllReadyH.cons rfl (fun K hK => ?_) AllReadyH.nil
                refine stepI_app (by rfl) (.tmp 46) (.tmp 48) 30 (by rfl) V1.heap.size 2 .i64 8 Try.underlying30 info_i64o (by decide) _ (scL cs l d k) (by rfl) HST.out.rs b48 1 SC (by rfl) (lt_cell HL48.out) HLs.out HST.out.size ?_
                intro vs2 wx5 hrow hgr hbk hat
                rw [← HSE.out] at hrow
                obtain ⟨ps2, cs2, rfl⟩ := rk_any hrow
                replace HST := Lib.hid (st_grow_s HST.out hgr hrow hbk hat)
                clear HL48 hrow hgr hbk hat
                refine hK.out _ _ trivial (fun _ => ?_)
                clear hK K
                simp only [Act.put, List.setIfInBounds_toArray]
                refine wpAnyH_ready (rs := [8]) (by kernel_rfl) (by simp) ?_
                refine AllReadyH.cons rfl (fun K hK => ?_) AllReadyH.nil
                go_simp
                refine hK.out _ _ trivial (fun _ => ?_)
                clear hK K
                have cl : wx5.cell? ⟨gc, 0, none⟩ = some (.slice ps ns cs9) := by rw [cell_of_row _ _ _ _ _ _ HST.out.cell]; rfl
                have cf : wx5.frozen? ⟨gc, 0, none⟩ = false := frozen_of_row _ _ _ _ _ HST.out.cell
                refine wpAnyH_ready (rs := [9]) (by kernel_rfl) (by simp) ?_
                refine AllReadyH.cons rfl (fun K hK => ?_) AllReadyH.nil
                go_simp
                refine hK.out _ _ trivial (fun _ => ?_)
                clear hK K
                refine wpAnyH_done (by kernel_rfl) ?_ _
                refine NoPanic.normal ?_
                have HSF := Lib.hid (st_store HST.out HGC.out)
                clear cl cf
                go_wp2
                go_roundw
                case rel => exact ⟨k + 1, _, by omega, by go_num, HKN.out, HSF.out⟩
                case measure => simp [intOf]; omega
              · have cl : wx2.cell? ⟨gc, 0, none⟩ = some (.slice ps ns cs9) := by rw [cell_of_row _ _ _ _ _ _ HST.out.cell]; rfl
                go_simp
                clear cl
                refine hK.out _ _ trivial (fun _ => ?_)
                clear hK K
                refine wpAnyH_ready (rs := [3]) (by kernel_rfl) (by simp) ?_
                refine AllReadyH.cons rfl (fun K hK => ?_) AllReadyH.nil
                refine stepI_app (by rfl) (.tmp 42) (.tmp 44) 30 (by rfl) V1.heap.size 2 .i64 8 Try.underlying30 info_i64o (by decide) _ (natR k) (by rfl) HST.out.ro b44 1 (k : Int) (by rfl) (lt_cell HL44.out) HLo.out HST.out.size ?_
                intro vo2 wx4 hrow hgr hbk hat
                rw [← natR_succ] at hrow
                obtain ⟨po2, co2, rfl⟩ := rk_any hrow
                replace HL48 := Lib.hid (lt_grow_o HL48.out hgr hat)
                replace HST := Lib.hid (st_grow_o HST.out hgr hrow hbk hat)
                clear HL44 hrow hgr hbk hat
                refine hK.out _ _ trivial (fun _ => ?_)
                clear hK K
                refine wpAnyH_ready (rs := [7]) (by kernel_rfl) (by simp) ?_
                refine AllReadyH.cons rfl (fun K hK => ?_) AllReadyH.nil
                refine stepI_app (by rfl) (.tmp 46) (.tmp 48) 30 (by rfl) V1.heap.size 2 .i64 8 Try.underlying30 info_i64o (by decide) _ (scL cs l d k) (by rfl) HST.out.rs b48 1 SC (by rfl) (lt_cell HL48.out) HLs.out HST.out.size ?_
                intro vs2 wx5 hrow hgr hbk hat
                rw [← HSE.out] at hrow
                obtain ⟨ps2, cs2, rfl⟩ := rk_any hrow
                replace HST := Lib.hid (st_grow_s HST.out hgr hrow hbk hat)
                clear HL48 hrow hgr hbk hat
                refine hK.out _ _ trivial (fun _ => ?_)
                clear hK K
                simp only [Act.put, List.setIfInBounds_toArray]
                refine wpAnyH_ready (rs := [8]) (by kernel_rfl) (by simp) ?_
                refine AllReadyH.cons rfl (fun K hK => ?_) AllReadyH.nil
                go_simp
                refine hK.out _ _ trivial (fun _ => ?_)
                clear hK K
                have cl : wx5.cell? ⟨gc, 0, none⟩ = some (.slice ps ns cs9) := by rw [cell_of_row _ _ _ _ _ _ HST.out.cell]; rfl
                have cf : wx5.frozen? ⟨gc, 0, none⟩ = false := frozen_of_row _ _ _ _ _ HST.out.cell
                refine wpAnyH_ready (rs := [9]) (by kernel_rfl) (by simp) ?_
                refine AllReadyH.cons rfl (fun K hK => ?_) AllReadyH.nil
                go_simp
                refine hK.out _ _ trivial (fun _ => ?_)
                clear hK K
                refine wpAnyH_done (by kernel_rfl) ?_ _
                refine NoPanic.normal ?_
                have HSF := Lib.hid (st_store HST.out HGC.out)
                clear cl cf
                go_wp2
                go_roundw
                case rel => exact ⟨k + 1, _, by omega, by go_num, HKN.out, HSF.out⟩
                case measure => simp [intOf]; omega
            · have cl : wx1.cell? ⟨gc, 0, none⟩ = some (.slice ps ns cs9) := by rw [cell_of_row _ _ _ _ _ _ HST.out.cell]; rfl
              go_simp
              clear cl
              refine hK.out _ _ trivial (fun _ => ?_)
              clear hK K
              refine wpAnyH_ready (rs := [2]) (by kernel_rfl) (by simp) ?_
              refine AllReadyH.cons rfl (fun K hK => ?_) AllReadyH.nil
              go_simp
              have HL44 := Lib.hid (lt_new HST.out (k : Int))
              replace HL48 := Lib.hid (lt_alloc HL48.out (.cells #[.int .i64 (k : Int)] 2))
              replace HST := Lib.hid (st_below HST.out (bl1 wx1 (.cells #[.int .i64 (k : Int)] 2)))
              generalize wx1.alloc (.cells #[.int .i64 (k : Int)] 2) = wx3 at *
              generalize wx1.heap.size = b44 at *
              refine hK.out _ _ trivial (fun _ => ?_)
              clear hK K
              refine wpAnyH_ready (rs := [3]) (by kernel_rfl) (by simp) ?_
              refine AllReadyH.cons rfl (fun K hK => ?_) AllReadyH.nil
              refine stepI_app (by rfl) (.tmp 42) (.tmp 44) 30 (by rfl) V1.heap.size 2 .i64 8 Try.underlying30 info_i64o (by decide) _ (natR k) (by rfl) HST.out.ro b44 1 (k : Int) (by rfl) (lt_cell HL44.out) HLo.out HST.out.size ?_
              intro vo2 wx4 hrow hgr hbk hat
              rw [← natR_succ] at hrow
              obtain ⟨po2, co2, rfl⟩ := rk_any hrow
              replace HL48 := Lib.hid (lt_grow_o HL48.out hgr hat)
              replace HST := Lib.hid (st_grow_o HST.out hgr hrow hbk hat)
              clear HL44 hrow hgr hbk hat
              refine hK.out _ _ trivial (fun _ => ?_)
              clear hK K
              refine wpAnyH_ready (rs := [7]) (by kernel_rfl) (by simp) ?_
              refine AllReadyH.cons rfl (fun K hK => ?_) AllReadyH.nil
              refine stepI_app (by rfl) (.tmp 46) (.tmp 48) 30 (by rfl) V1.heap.size 2 .i64 8 Try.underlying30 info_i64o (by decide) _ (scL cs l d k) (by rfl) HST.out.rs b48 1 SC (by rfl) (lt_cell HL48.out) HLs.out HST.out.size ?_
              intro vs2 wx5 hrow hgr hbk hat
              rw [← HSE.out] at hrow
              obtain ⟨ps2, cs2, rfl⟩ := rk_any hrow
              replace HST := Lib.hid (st_grow_s HST.out hgr hrow hbk hat)
              clear HL48 hrow hgr hbk hat
              refine hK.out _ _ trivial (fun _ => ?_)
              clear hK K
              simp only [Act.put, List.setIfInBounds_toArray]
              refine wpAnyH_ready (rs := [8]) (by kernel_rfl) (by simp) ?_
              refine AllReadyH.cons rfl (fun K hK => ?_) AllReadyH.nil
              go_simp
              refine hK.out _ _ trivial (fun _ => ?_)
              clear hK K
              have cl : wx5.cell? ⟨gc, 0, none⟩ = some (.slice ps ns cs9) := by rw [cell_of_row _ _ _ _ _ _ HST.out.cell]; rfl
              have cf : wx5.frozen? ⟨gc, 0, none⟩ = false := frozen_of_row _ _ _ _ _ HST.out.cell
              refine wpAnyH_ready (rs := [9]) (by kernel_rfl) (by simp) ?_
              refine AllReadyH.cons rfl (fun K hK => ?_) AllReadyH.nil
              go_simp
              refine hK.out _ _ trivial (fun _ => ?_)
              clear hK K
              refine wpAnyH_done (by kernel_rfl) ?_ _
              refine NoPanic.normal ?_
              have HSF := Lib.hid (st_store HST.out HGC.out)
              clear cl cf
              go_wp2
              go_roundw
              case rel => exact ⟨k + 1, _, by omega, by go_num, HKN.out, HSF.out⟩
              case measure => simp [intOf]; omega

      · have hki : ¬ (k : Int) < n := by omega
        have hkn : n = k := by omega
        have hst := HST.out
        have hko := HKO.out
        rw [← hkn] at hst hko
        have HE : Hid (V = (ordL cs l d n, 0)) := Lib.hid (by rw [HV2.out, hko]; rfl)
        obtain ⟨g, cap1, hvo, hg1, _, _, _, _⟩ := row_shape hst.ro (by intro h; have := natR_len n; rw [h] at this; simp at this; omega)
        obtain ⟨gs, cap9, hvs, _, _, _, _, _⟩ := row_shape hst.rs (by intro h; have := scL_len cs l d n; rw [h] at this; simp at this; omega)
        rw [natR_len] at hvo
        rw [scL_len] at hvs
        subst hvo hvs
        have HS2 := Lib.hid hst
        have HCM := Lib.hid (cmpOk_of (fun e => hst.no (by show some g = some gc; rw [e])) (fun e => hst.sep g rfl (by show some gs = some g; rw [e])) hst.cell hst.rs)
        have HG1 := Lib.hid hg1
        clear hst hko hkn hg1
        go_wp2_with fail
        refine (sortStable_c cs l d gc g cap1 n V1.heap.size n1 (by omega) _ HS2.out.ro HCM.out).mono ?_
        rintro e w2 ⟨rfl, hR2, hO2⟩
        have HR2 := Lib.hid hR2
        have HO2 := Lib.hid hO2
        clear hR2 hO2
        go_wp2
        go_ret2
        exact ⟨_, by rw [HE.out] <;> rfl, by rw [HE.out]; exact rk_mono HR2.out HB1.out.size, only_above HWw.out HO2.out (Nat.le_trans HB1.out.size HG1.out)⟩
  · have HE : Hid (V = ([], C)) := Lib.hid (by rw [HV.out, ogV, HF.out, HC.out, if_neg h0])
    have hne : (C != 0) = true := by rw [bne_iff_ne]; exact h0
    clear h0
    go_enter Try.func12, Try.ntmps12
    go_wp2_with (go_at_call 43; refine (cAreScaled_c l d _).mono ?_; rintro e w' ⟨rfl, rfl⟩; rw [HF.out])
    refine (gCode_c p n cap cs H16.out HN.out hm F _ HA.out).mono ?_
    rintro e w1 ⟨rfl, hb1⟩
    rw [HC.out]
    have HRN := Lib.hid (row_nil w1 2 .i64 w.heap.size)
    go_wp2
    go_ret2
    exact ⟨_, by rw [HE.out] <;> rfl, by rw [HE.out]; exact HRN.out, hb1⟩
end Go.Proofs.Ytcdndjimfmpifaa
