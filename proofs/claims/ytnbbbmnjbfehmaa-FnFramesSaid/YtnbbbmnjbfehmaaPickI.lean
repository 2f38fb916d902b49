/- PickFrames: the program. -/
import Derived.Test.YtnbbbmnjbfehmaaSwapC
namespace Go.Proofs.Ytnbbbmnjbfehmaa
open Go.RowKit Go.Lib
def pickL (l : List (List Int)) (fs : List Int) : List (List Int) := fs.map fun i => l.getD i.toNat []
theorem pickL_len (l : List (List Int)) (fs : List Int) : (pickL l fs).length = fs.length := by simp [pickL]
theorem takeI_getD (L : List Int) (j : Nat) (h : j < L.length) : L.take (j + 1) = L.take j ++ [L.getD j 0] := by
  rw [List.take_succ_eq_append_getElem h]
  simp [List.getD_eq_getElem?_getD, h]
theorem pickL_succ (l : List (List Int)) (fs : List Int) (j : Nat) (h : j < fs.length) : pickL l (fs.take (j + 1)) = pickL l (fs.take j) ++ [l.getD (fs.getD j 0).toNat []] := by
  rw [takeI_getD fs j h]; simp [pickL]
def pkV (a : Int) (l : List (List Int)) (fs : List Int) : (Int × List (List Int)) × Int := if scV a l fs = 0 then (if fs.length ≤ 12 then ((a, pickL l fs), 0) else ((0, []), 3)) else ((0, []), scV a l fs)
theorem scV_zeroI {a : Int} {l : List (List Int)} {fs : List Int} (h : scV a l fs = 0) : shB a l = true ∧ okI l.length fs = true := by
  unfold scV at h
  cases h1 : shB a l <;> cases h2 : okI l.length fs <;> simp [h1, h2] at h ⊢
theorem fold_fill : ∀ (cs : List Value) (k : Nat) (A : Array Value), A.size = k + cs.length → List.foldl (fun (A : Array Value) (x : Value × Nat) => A.setIfInBounds x.snd x.fst) A (cs.zipIdx k) = (A.toList.take k ++ cs).toArray
  | [], k, A, h => by
    have : A.toList.take k = A.toList := List.take_of_length_le (by simp at h ⊢; omega)
    simp [this]
  | c :: cs, k, A, h => by
    rw [List.zipIdx_cons, List.foldl_cons, fold_fill cs (k + 1) _ (by simp at h ⊢; omega)]
    have hk : k < A.toList.length := by simp at h ⊢; omega
    have e : (A.setIfInBounds k c).toList.take (k + 1) = A.toList.take k ++ [c] := by
      have hl : (A.toList.take k).length = k := by rw [List.length_take]; omega
      rw [Array.toList_setIfInBounds, List.take_set, List.take_succ_eq_append_getElem hk, List.set_append_right _ _ (by rw [hl]; exact Nat.le_refl _)]
      have : k - (A.toList.take k).length = 0 := by rw [hl]; omega
      rw [this]; rfl
    rw [e]; simp
theorem heap_set1 {w : World} {g : Nat} {x y : Value} {t : TypeId} (h : w.heap[g]? = some (.cells #[x, y] t (0, 0))) (u : Value) : (w.setCell ⟨g, 1, none⟩ u).heap[g]? = some (.cells #[x, u] t (0, 0)) := by
  rw [heap_setCell_same _ _ _ _ _ _ h]; rfl
theorem flat_one (q : List Int) : flatP [q] = cellsP q := by simp [flatP]
theorem fold_print (q : List Int) (hq : q.length = 64) : List.foldl (fun (A : Array Value) (x : Value × Nat) => A.setIfInBounds x.snd x.fst) (arr .i16 Z64) (cellsP q).zipIdx = (cellsP q).toArray := by
  rw [fold_fill (cellsP q) 0 _ (by rw [arr_size, Z64_length, cellsP_length, hq])]
  simp
set_option maxHeartbeats 2000000 in
set_option maxRecDepth 100000 in
theorem implPick_c (a : Int) (ha : -128 ≤ a ∧ a ≤ 127) (p : Option Addr) (n c : Nat) (l : List (List Int)) (hl : Prs l) (hn : n = l.length) (hm : n ≤ 1048576) (q : Option Addr) (m cm : Nat) (fs : List Int) (hf : m = fs.length) (hmm : m ≤ 1048576) (w : World) (hp : PS w p l) (hq : PI w q fs) :
    Calls Try.prog 43 #[.agg #[.int .i8 a, .slice p n c], .slice q m cm] w fun e w' => ∃ v, e = .returned (.tuple #[.agg #[.int .i8 (pkV a l fs).1.1, v], .int .i64 (pkV a l fs).2]) ∧ RowP w' w.heap.size v (pkV a l fs).1.2 ∧ Below w.heap.size w w' := by
  have HN := Lib.hid hn
  have HP := Lib.hid hl
  have HA := Lib.hid hp
  have HF := Lib.hid hf
  have HQ := Lib.hid hq
  have K0 := Lib.hid (al2_0 w (.cells #[.int .i8 a, .slice p n c] 30) (.cells #[.int .i8 0, .slice none 0 0] 30))
  have K1 := Lib.hid (al2_1 w (.cells #[.int .i8 a, .slice p n c] 30) (.cells #[.int .i8 0, .slice none 0 0] 30))
  have KB := Lib.hid (bl2 w (.cells #[.int .i8 a, .slice p n c] 30) (.cells #[.int .i8 0, .slice none 0 0] 30))
  clear hl hn hp hf hq
  by_cases hc : scV a l fs = 0
  · obtain ⟨hsh, hok⟩ := scV_zeroI hc
    have HIx : Hid (∀ j, j < fs.length → 0 ≤ fs.getD j 0 ∧ fs.getD j 0 < n) := Lib.hid (fun j hj => by rw [HN.out]; exact okI_get hok j hj)
    have HC := Lib.hid hc
    clear hsh hok
    by_cases hm12 : m ≤ 12
    · have HV : Hid (pkV a l fs = ((a, pickL l fs), 0)) := Lib.hid (by have := HF.out; simp [pkV, hc, ← this, hm12])
      clear hc
      have hgt : ((m : Int) > 12) = False := by simp; omega
      have hdg : decide ((12 : Int) < (m : Int)) = false := decide_eq_false (by omega)
      go_enter Try.func43, Try.ntmps43
      go_upto_region 1 with fail
      generalize ((w.alloc (.cells #[.int .i8 a, .slice p n c] 30)).alloc (.cells #[.int .i8 0, .slice none 0 0] 30)) = w0 at *
      have c0 := bk2_0 K0.out
      have c1 := bk2_1 K0.out
      go_wp2_with fail
      refine (sheetCode_c a ha p n c l HP.out HN.out hm q m cm fs HF.out (by omega) _ (PS_below KB.out HA.out) (PI_below KB.out HQ.out)).mono ?_
      rintro e w1 ⟨rfl, hb1⟩
      rw [HC.out]
      have K01 := Lib.hid (heap_below hb1 (lt_of_heap K0.out) K0.out)
      have K11 := Lib.hid (heap_below hb1 (lt_of_heap K1.out) K1.out)
      have HB1 := Lib.hid (bt KB.out hb1)
      clear hb1 c0 c1 K0 K1 KB
      have c0 := bk2_0 K01.out
      have c1 := bk2_1 K01.out
      go_upto_region 8 with fail
      have K7 := Lib.hid (al1_0 w1 (.cells #[.int .i8 a, .slice none 0 0] 30))
      have K02 := Lib.hid (heap_below (bl1 w1 (.cells #[.int .i8 a, .slice none 0 0] 30)) (lt_of_heap K01.out) K01.out)
      have K12 := Lib.hid (heap_below (bl1 w1 (.cells #[.int .i8 a, .slice none 0 0] 30)) (lt_of_heap K11.out) K11.out)
      have L7 : Hid (w.heap.size + 1 < w1.heap.size) := Lib.hid (lt_of_heap K11.out)
      have HB2 := Lib.hid (bt HB1.out (bl1 w1 (.cells #[.int .i8 a, .slice none 0 0] 30)))
      have HS2 : Hid ((w1.alloc (.cells #[.int .i8 a, .slice none 0 0] 30)).heap.size = w1.heap.size + 1) := Lib.hid (by simp)
      clear c0 c1 K01 K11 HB1
      generalize w1.alloc (.cells #[.int .i8 a, .slice none 0 0] 30) = w2 at *
      generalize w1.heap.size = g7 at *
      go_loopw [26] (fun ii wr => ∃ (j : Nat) (v : Value), j ≤ m ∧ ii = .int .i64 j ∧ wr.heap[g7]? = some (.cells #[.int .i8 a, v] 30 (0, 0)) ∧ RowP wr (g7 + 1) v (pickL l (fs.take j)) ∧ wr.heap[w.heap.size]? = some (.cells #[.int .i8 a, .slice p n c] 30 (0, 0)) ∧ wr.heap[w.heap.size + 1]? = some (.cells #[.int .i8 0, .slice none 0 0] 30 (0, 0)) ∧ Below w.heap.size w wr) (fun ii _ => m - (intOf ii).toNat)
      case atStart => exact ⟨0, .slice none 0 0, Nat.zero_le _, rfl, K7.out, rowP_nil _ _, K02.out, K12.out, HB2.out⟩
      case round =>
        clear K7 K02 K12 HB2
        obtain ⟨j, v, hj, rfl, hg7, hR, h0, h1, hW⟩ := hrel
        have K7 := Lib.hid hg7
        have HR := Lib.hid hR
        have K0 := Lib.hid h0
        have K1 := Lib.hid h1
        have HW := Lib.hid hW
        clear hR h0 h1 hW hg7
        by_cases hjm : j < m
        · have hjf : j < fs.length := by rw [← HF.out]; exact hjm
          have hjj : (j : Int) < m := by omega
          have HPk := Lib.hid (pickL_succ l fs j hjf)
          obtain ⟨bq, oq, rfl, hbq, hcq⟩ := HQ.out (neI_of_lt hjf)
          have hcj : wr.cell? ⟨bq, oq + j, none⟩ = some (.int .i64 (fs.getD j 0)) := by rw [HW.out.cell (p := ⟨bq, oq + j, none⟩) hbq]; exact hcq j hjf
          obtain ⟨hx0, hx1⟩ := HIx.out j hjf
          obtain ⟨i, hie⟩ := Int.eq_ofNat_of_zero_le hx0
          rw [hie] at hcj hx1
          have hii : i < n := by omega
          obtain ⟨b, o, rfl, hb, hat⟩ := HA.out (ne_of_lt (k := i) (by have := HN.out; omega))
          obtain ⟨qq, hqq⟩ : ∃ q, q = l.getD i [] := ⟨_, rfl⟩
          have HPq : Hid (Pr qq) := Lib.hid (by rw [hqq]; exact HP.out i (by rw [← HN.out]; exact hii))
          have HRg : Hid (wr.rangeAt b (o + i * 64) (cellsP qq)) := Lib.hid (by rw [hqq]; exact rangeAt_below HW.out hb (hat i (by rw [← HN.out]; exact hii)))
          have HPk2 : Hid (pickL l (fs.take (j + 1)) = pickL l (fs.take j) ++ [qq]) := Lib.hid (by rw [HPk.out, hie, hqq]; rfl)
          have HL8 : Hid ((pickL l (fs.take j)).length ≤ 12) := Lib.hid (by rw [pickL_len, List.length_take]; omega)
          have hu := Try.underlying45
          have hi1 : (Try.prog.info? 45).map (·.size) = some (cellsP qq).length := by rw [szPrint, cellsP_length, HPq.out.1]
          clear hie hx0 hcq hat hqq HPk hbq
          have c1 := bk2_1 K0.out
          go_upto_region 10 with fail
          clear hcj
          have hl64 : (cellsP qq).length = 64 := by rw [cellsP_length, HPq.out.1]
          have hfold := fold_print qq HPq.out.1
          rw [← z64_Z] at hfold
          have d1 := bk2_1 K7.out
          have df := blk_f K7.out 1
          have hlt7 := lt_of_heap K7.out
          have hle : w.heap.size + 2 ≤ wr.heap.size := by have := L7.out; omega
          have e1 : wr.drew.cell? ⟨g7, 1, none⟩ = some v := d1
          have e2 : ∀ o, (wr.alloc o).drew.cell? ⟨g7, 1, none⟩ = some v := fun o => (((Below.refl wr.heap.size wr).alloc (Nat.le_refl _) o).cell (p := ⟨g7, 1, none⟩) hlt7).trans d1
          have HSs : Hid (∀ w', Below (w.heap.size + 2) wr w' → (w'.rangeAt b (o + i * 64) (cellsP qq) ∧ w'.cell? ⟨w.heap.size, 1, none⟩ = some (.slice (some ⟨b, o, none⟩) n c))) := Lib.hid (fun w' h => ⟨rangeAt_below h (by omega) HRg.out, (h.cell (p := ⟨w.heap.size, 1, none⟩) (by show w.heap.size < w.heap.size + 2; omega)).trans c1⟩)
          have Bd : Below (w.heap.size + 2) wr wr.drew := bl_drew (Below.refl _ _)
          have Ba : Below (w.heap.size + 2) wr (wr.alloc (.cells (cellsP qq).toArray 45)).drew := bl_drew ((Below.refl _ _).alloc hle _)
          have HRa := Lib.hid (rowP_below HR.out (bl_drew ((Below.refl wr.heap.size wr).alloc (Nat.le_refl _) (.cells (cellsP qq).toArray 45))))
          have HHa : Hid ((wr.alloc (.cells (cellsP qq).toArray 45)).drew.heap[wr.heap.size]? = some (.cells (flatP [qq]).toArray 45 (0, 0))) := Lib.hid (by rw [flat_one]; exact (al1_0 wr (.cells (cellsP qq).toArray 45)))
          have HK7a : Hid ((wr.alloc (.cells (cellsP qq).toArray 45)).drew.heap[g7]? = some (Obj.cells #[Value.int IntKind.i8 a, v] 30 (0, 0))) := Lib.hid (heap_below (bl_drew (bl1 wr (.cells (cellsP qq).toArray 45))) hlt7 K7.out)
          clear d1 df
          refine wp_region_noPanic ?_
          refine wp_region_held_drew (S := (fun w' => w'.rangeAt b (o + i * 64) (cellsP qq) ∧ w'.cell? ⟨w.heap.size, 1, none⟩ = some (.slice (some ⟨b, o, none⟩) n c))) (by kernel_rfl) (HSs.out _ Bd) (fun hHeld => ?_)
          refine wpAnyH_take (i := 0) (v := .pointer (some ⟨g7, 1, none⟩)) rfl (by kernel_rfl) (by kernel_rfl) (by kernel_rfl) (fun _ _ _ h => h) (Or.inl ⟨by rfl, fun w1 hSw => by obtain ⟨hr1, hr2⟩ := hSw; go_simp⟩) (by assumption) ?_
          refine wpAnyH_take (i := 2) (v := .pointer (some ⟨w.heap.size, 1, none⟩)) rfl (by kernel_rfl) (by kernel_rfl) (by kernel_rfl) (fun _ _ _ h => h) (Or.inl ⟨by rfl, fun w1 hSw => by obtain ⟨hr1, hr2⟩ := hSw; go_simp⟩) (by assumption) ?_
          refine wpAnyH_take (i := 3) (v := .slice (some ⟨b, o, none⟩) n c) rfl (by kernel_rfl) (by kernel_rfl) (by kernel_rfl) (fun _ _ _ h => h) (Or.inl ⟨by rfl, fun w1 hSw => by obtain ⟨hr1, hr2⟩ := hSw; go_simp⟩) (by assumption) ?_
          refine wpAnyH_take (i := 4) (v := .int .i64 i) rfl (by kernel_rfl) (by kernel_rfl) (by kernel_rfl) (fun _ _ _ h => h) (Or.inl ⟨by rfl, fun w1 hSw => by obtain ⟨hr1, hr2⟩ := hSw; go_simp⟩) (by assumption) ?_
          refine wpAnyH_take (i := 5) (v := .pointer (some ⟨b, o + i * 64, none⟩)) rfl (by kernel_rfl) (by kernel_rfl) (by kernel_rfl) (fun _ _ _ h => h) (Or.inl ⟨by rfl, fun w1 hSw => by obtain ⟨hr1, hr2⟩ := hSw; go_simp⟩) (by assumption) ?_
          refine wpAnyH_take (i := 6) rfl (by kernel_rfl) (by kernel_rfl) (by kernel_rfl) (fun _ _ _ h => h) (yieldsIf_load_mid (by rfl) 45 (.tmp 35) rfl b (o + i * 64) rfl (cellsP qq) _ (fun w1 h => h.1) hu rfl hi1) (by assumption) ?_
          simp only [Act.put, List.setIfInBounds_toArray]
          refine wpAnyH_ready (rs := [1, 7]) (by kernel_rfl) (by simp) ?_
          refine AllReadyH.cons rfl (fun K hK => ?_) (AllReadyH.cons rfl (fun K hK => ?_) AllReadyH.nil)
          · go_simp
            refine hK.out _ _ (HSs.out _ Bd) (fun hHeld => ?_)
            clear hK K
            refine wpAnyH_ready (rs := [7]) (by kernel_rfl) (by simp) ?_
            refine AllReadyH.cons rfl (fun K hK => ?_) AllReadyH.nil
            go_simp
            refine hK.out _ _ (HSs.out _ Ba) (fun hHeld => ?_)
            clear hK K
            refine wpAnyH_ready (rs := [8]) (by kernel_rfl) (by simp) ?_
            refine AllReadyH.cons rfl (fun K hK => ?_) AllReadyH.nil
            refine step_appPs (by rfl) (.tmp 31) (.tmp 37) 28 (by rfl) (g7 + 1) Try.underlying28 infoPrint _ (pickL l (fs.take j)) (by rfl) HRa.out wr.heap.size 0 1 1 [qq] rfl (Prs_one HPq.out) (by rfl) (PrAt_block HHa.out (Prs_one HPq.out)) (by have := HL8.out; omega) (by show g7 + 1 ≤ (wr.alloc _).heap.size; simp; omega) ?_; intro v6 w6 hrow hgr hbk hat; obtain ⟨p9, c9, rfl⟩ := rowP_any hrow; have hb6 := Ba.grown hgr (by show w.heap.size + 2 ≤ (wr.alloc _).heap.size; simp; omega) (fun k hk => by have := hbk k hk; have := L7.out; omega); have B6 := Lib.hid hb6; have hne : v.ownBlock ≠ some g7 := (fun e => by have := hbk g7 e; omega); have hk7 := (hgr.block g7 (lt_of_heap HK7a.out) (Ne.symm hne)).trans HK7a.out; have HK6 := Lib.hid hk7; have HR6 := Lib.hid hrow; have g1 := bk2_1 hk7; have gf := blk_f hk7 1; clear hrow hgr hbk hat hb6 hne hk7
            refine hK.out _ _ (HSs.out _ B6.out) (fun hHeld => ?_)
            clear hK K
            refine wpAnyH_take (i := 9) (v := .pointer (some ⟨g7, 1, none⟩)) rfl (by kernel_rfl) (by kernel_rfl) (by kernel_rfl) (fun _ _ _ h => h) (Or.inl ⟨by rfl, fun w1 hSw => by obtain ⟨hr1, hr2⟩ := hSw; go_simp⟩) (by assumption) ?_
            simp only [Act.put, List.setIfInBounds_toArray]
            refine wpAnyH_ready (rs := [10]) (by kernel_rfl) (by simp) ?_
            refine AllReadyH.cons rfl (fun K hK => ?_) AllReadyH.nil
            go_simp
            refine hK.out _ _ (HSs.out _ (B6.out.setCell (by have := L7.out; show w.heap.size + 2 ≤ g7; omega) _)) (fun hHeld => ?_)
            clear hK K
            refine wpAnyH_done (by kernel_rfl) ?_ _
            refine NoPanic.normal ?_
            have HK8 := Lib.hid (heap_set1 HK6.out (.slice p9 ((pickL l (fs.take j)).length + 1) c9))
            have HR8 := Lib.hid (rowP_far (p := ⟨g7, 1, none⟩) HR6.out (Nat.lt_succ_self _) (.slice p9 ((pickL l (fs.take j)).length + 1) c9))
            have HW8 := Lib.hid (B6.out.setCell (p := ⟨g7, 1, none⟩) (by have := L7.out; show w.heap.size + 2 ≤ g7; omega) (.slice p9 ((pickL l (fs.take j)).length + 1) c9))
            generalize w6.setCell ⟨g7, 1, none⟩ (.slice p9 ((pickL l (fs.take j)).length + 1) c9) = w8 at *
            clear g1 gf e1 e2 Bd Ba hfold hu hi1
            go_wp2
            go_roundw
            case rel => exact ⟨j + 1, .slice p9 ((pickL l (fs.take j)).length + 1) c9, by omega, by go_num, HK8.out, by rw [HPk2.out]; simpa using HR8.out, heap_below HW8.out (by omega) K0.out, heap_below HW8.out (by omega) K1.out, HW.out.trans (HW8.out.mono (by omega))⟩
            case measure => simp [intOf]; omega
          · go_simp
            refine hK.out _ _ (HSs.out _ Ba) (fun hHeld => ?_)
            clear hK K
            refine wpAnyH_ready (rs := [1]) (by kernel_rfl) (by simp) ?_
            refine AllReadyH.cons rfl (fun K hK => ?_) AllReadyH.nil
            go_simp
            refine hK.out _ _ (HSs.out _ Ba) (fun hHeld => ?_)
            clear hK K
            refine wpAnyH_ready (rs := [8]) (by kernel_rfl) (by simp) ?_
            refine AllReadyH.cons rfl (fun K hK => ?_) AllReadyH.nil
            refine step_appPs (by rfl) (.tmp 31) (.tmp 37) 28 (by rfl) (g7 + 1) Try.underlying28 infoPrint _ (pickL l (fs.take j)) (by rfl) HRa.out wr.heap.size 0 1 1 [qq] rfl (Prs_one HPq.out) (by rfl) (PrAt_block HHa.out (Prs_one HPq.out)) (by have := HL8.out; omega) (by show g7 + 1 ≤ (wr.alloc _).heap.size; simp; omega) ?_; intro v6 w6 hrow hgr hbk hat; obtain ⟨p9, c9, rfl⟩ := rowP_any hrow; have hb6 := Ba.grown hgr (by show w.heap.size + 2 ≤ (wr.alloc _).heap.size; simp; omega) (fun k hk => by have := hbk k hk; have := L7.out; omega); have B6 := Lib.hid hb6; have hne : v.ownBlock ≠ some g7 := (fun e => by have := hbk g7 e; omega); have hk7 := (hgr.block g7 (lt_of_heap HK7a.out) (Ne.symm hne)).trans HK7a.out; have HK6 := Lib.hid hk7; have HR6 := Lib.hid hrow; have g1 := bk2_1 hk7; have gf := blk_f hk7 1; clear hrow hgr hbk hat hb6 hne hk7
            refine hK.out _ _ (HSs.out _ B6.out) (fun hHeld => ?_)
            clear hK K
            refine wpAnyH_take (i := 9) (v := .pointer (some ⟨g7, 1, none⟩)) rfl (by kernel_rfl) (by kernel_rfl) (by kernel_rfl) (fun _ _ _ h => h) (Or.inl ⟨by rfl, fun w1 hSw => by obtain ⟨hr1, hr2⟩ := hSw; go_simp⟩) (by assumption) ?_
            simp only [Act.put, List.setIfInBounds_toArray]
            refine wpAnyH_ready (rs := [10]) (by kernel_rfl) (by simp) ?_
            refine AllReadyH.cons rfl (fun K hK => ?_) AllReadyH.nil
            go_simp
            refine hK.out _ _ (HSs.out _ (B6.out.setCell (by have := L7.out; show w.heap.size + 2 ≤ g7; omega) _)) (fun hHeld => ?_)
            clear hK K
            refine wpAnyH_done (by kernel_rfl) ?_ _
            refine NoPanic.normal ?_
            have HK8 := Lib.hid (heap_set1 HK6.out (.slice p9 ((pickL l (fs.take j)).length + 1) c9))
            have HR8 := Lib.hid (rowP_far (p := ⟨g7, 1, none⟩) HR6.out (Nat.lt_succ_self _) (.slice p9 ((pickL l (fs.take j)).length + 1) c9))
            have HW8 := Lib.hid (B6.out.setCell (p := ⟨g7, 1, none⟩) (by have := L7.out; show w.heap.size + 2 ≤ g7; omega) (.slice p9 ((pickL l (fs.take j)).length + 1) c9))
            generalize w6.setCell ⟨g7, 1, none⟩ (.slice p9 ((pickL l (fs.take j)).length + 1) c9) = w8 at *
            clear g1 gf e1 e2 Bd Ba hfold hu hi1
            go_wp2
            go_roundw
            case rel => exact ⟨j + 1, .slice p9 ((pickL l (fs.take j)).length + 1) c9, by omega, by go_num, HK8.out, by rw [HPk2.out]; simpa using HR8.out, heap_below HW8.out (by omega) K0.out, heap_below HW8.out (by omega) K1.out, HW.out.trans (HW8.out.mono (by omega))⟩
            case measure => simp [intOf]; omega
        · have hjn : j = m := by omega
          subst hjn
          have HVr : Hid (RowP wr (g7 + 1) v (pickL l fs)) := Lib.hid (by have := HR.out; rw [HF.out, List.take_length] at this; exact this)
          obtain ⟨pv, cv, hvv⟩ := rowP_any HVr.out
          subst hvv
          have L8 : Hid (w.heap.size + 1 < g7 + 1) := Lib.hid (by have := L7.out; omega)
          have L9 : Hid (w.heap.size ≤ g7 + 1) := Lib.hid (by have := L7.out; omega)
          have c0 := bk2_0 K7.out
          have c1 := bk2_1 K7.out
          have d0 := bk2_0 K1.out
          have d1 := bk2_1 K1.out
          have f0 := blk_f K1.out 0
          have f1 := blk_f K1.out 1
          go_wp2
          exact bodyPost_ret (results_ct rfl _ _ _ 30 _ _ _ rfl (bk2 K1.out) Try.underlying30 rfl szSheetI) rfl ⟨_, by rw [HV.out] <;> rfl, by rw [HV.out]; exact rowP_mono (rowP_far (rowP_far HVr.out L8.out _) L8.out _) L9.out, below2 HW.out (Nat.le_succ _) _ _⟩
    · have HV : Hid (pkV a l fs = ((0, []), 3)) := Lib.hid (by rw [pkV, if_pos hc, if_neg (by rw [← HF.out]; exact hm12)])
      clear hc
      have hdg : decide ((12 : Int) < (m : Int)) = true := decide_eq_true (by omega)
      go_enter Try.func43, Try.ntmps43
      go_upto_region 1 with fail
      generalize ((w.alloc (.cells #[.int .i8 a, .slice p n c] 30)).alloc (.cells #[.int .i8 0, .slice none 0 0] 30)) = w0 at *
      have c0 := bk2_0 K0.out
      have c1 := bk2_1 K0.out
      go_wp2_with fail
      refine (sheetCode_c a ha p n c l HP.out HN.out hm q m cm fs HF.out (by omega) _ (PS_below KB.out HA.out) (PI_below KB.out HQ.out)).mono ?_
      rintro e w1 ⟨rfl, hb1⟩
      rw [HC.out]
      have K11 := Lib.hid (heap_below hb1 (lt_of_heap K1.out) K1.out)
      have HB1 := Lib.hid (bt KB.out hb1)
      clear hb1 c0 c1 K0 K1 KB
      have d0 := bk2_0 K11.out
      have d1 := bk2_1 K11.out
      have f0 := blk_f K11.out 0
      have f1 := blk_f K11.out 1
      go_wp2
      exact bodyPost_ret (results_ct rfl _ _ _ 30 _ _ _ rfl (bk2 K11.out) Try.underlying30 rfl szSheetI) rfl ⟨.slice none 0 0, by rw [HV.out]; rfl, by rw [HV.out]; exact rowP_nil _ _, below2 HB1.out (Nat.le_succ _) _ _⟩
  · obtain ⟨CC, hCC⟩ : ∃ CC, CC = scV a l fs := ⟨_, rfl⟩
    have HV : Hid (pkV a l fs = ((0, []), CC)) := Lib.hid (by simp [pkV, hc, hCC])
    have HC := Lib.hid hCC.symm
    rw [← hCC] at hc
    have hcd : (CC != 0) = true := by rw [bne_iff_ne]; exact hc
    clear hCC
    go_enter Try.func43, Try.ntmps43
    go_upto_region 1 with fail
    generalize ((w.alloc (.cells #[.int .i8 a, .slice p n c] 30)).alloc (.cells #[.int .i8 0, .slice none 0 0] 30)) = w0 at *
    have c0 := bk2_0 K0.out
    have c1 := bk2_1 K0.out
    go_wp2_with fail
    refine (sheetCode_c a ha p n c l HP.out HN.out hm q m cm fs HF.out (by omega) _ (PS_below KB.out HA.out) (PI_below KB.out HQ.out)).mono ?_
    rintro e w1 ⟨rfl, hb1⟩
    rw [HC.out]
    have K11 := Lib.hid (heap_below hb1 (lt_of_heap K1.out) K1.out)
    have HB1 := Lib.hid (bt KB.out hb1)
    clear hb1 c0 c1 K0 K1 KB
    have d0 := bk2_0 K11.out
    have d1 := bk2_1 K11.out
    have f0 := blk_f K11.out 0
    have f1 := blk_f K11.out 1
    go_wp2
    exact bodyPost_ret (results_ct rfl _ _ _ 30 _ _ _ rfl (bk2 K11.out) Try.underlying30 rfl szSheetI) rfl ⟨.slice none 0 0, by rw [HV.out]; rfl, by rw [HV.out]; exact rowP_nil _ _, below2 HB1.out (Nat.le_succ _) _ _⟩
end Go.Proofs.Ytnbbbmnjbfehmaa
