/- Sheets that are drawn. -/
import Derived.Test.YtnbbbmnjbfehmaaCells
import Derived.Test.YtnbbbmnjbfehmaaSwapC
import Derived.Test.YtnbbbmnjbfehmaaPickI
namespace Go.Proofs.Ytnbbbmnjbfehmaa
open Go.RowKit Go.Lib
theorem cellsDrawnP_c (g k : Nat) (w : World) (h : Src w g k) (hk : k ≤ 1000000) :
    Calls Try.prog 79 #[.pointer (some ⟨g, 0, none⟩)] w fun e w' => ∃ p, e = .returned (.agg (cellsP p).toArray) ∧ Pr p ∧ okP p = true ∧ Src w' g (k + 40) ∧ But g w w' := by
  refine (cellsDrawn_c g k w h hk).mono ?_
  rintro e w' ⟨p, rfl, hl, ho, hS, hB⟩
  exact ⟨p, rfl, okP_pr hl ho, ho, hS, hB⟩
theorem src_drew1 {w : World} {g k : Nat} (h : Src w g k) : Src w.drew g k := h
theorem but_drew1 {g : Nat} {w w1 : World} (h : But g w w1) : But g w w1.drew := ⟨bl_drew h.below, h.apart⟩
theorem src_keepB {w w1 : World} {B g k : Nat} (h : Src w g k) (hb : Below B w w1) (hB : g < B) : Src w1 g k := by
  obtain ⟨p, n, c, a, s, hg, ha, h0, h1, hn, hx⟩ := h
  refine ⟨p, n, c, a, s, heap_below hb hB hg, ha, h0, h1, hn, fun h => ?_⟩
  obtain ⟨b, o, hp, hz, hx⟩ := hx h
  exact ⟨b, o, hp, hz, fun i hi => by rw [hb.cell (p := ⟨b, o + i, none⟩) (Nat.lt_trans hz hB)]; exact hx i hi⟩
theorem but_keepB {g B : Nat} {w w1 w2 : World} (h : But g w w1) (hb : Below B w1 w2) (h1 : w.heap.size ≤ B) (hg : g < w.heap.size) : But g w w2 :=
  ⟨h.below.trans (hb.mono (Nat.le_trans (Nat.le_of_lt hg) h1)), fun b hlt hne => (hb.block b (Nat.lt_of_lt_of_le hlt h1)).trans (h.apart b hlt hne)⟩
theorem rowP_but {w w1 : World} {base g : Nat} {v : Value} {l : List (List Int)} (h : RowP w base v l) (hb : But g w w1) (hg : g < base) : RowP w1 base v l := by
  obtain ⟨h1, h2⟩ := h
  refine ⟨h1, ?_⟩
  rcases h2 with h2 | ⟨b, cap, cur, hv, hbb, hh, r⟩
  · exact Or.inl h2
  · exact Or.inr ⟨b, cap, cur, hv, hbb, (hb.apart b (lt_of_heap hh) (by omega)).trans hh, r⟩
theorem okL_app {l : List (List Int)} {q : List Int} (h : okL l = true) (hq : okP q = true) : okL (l ++ [q]) = true := by
  unfold okL at h ⊢
  rw [List.all_append, h]; simp [hq]
theorem Prs_app {l : List (List Int)} {q : List Int} (h : Prs l) (hq : Pr q) : Prs (l ++ [q]) := fun i hi => by
  by_cases e : i < l.length
  · have := h i e
    rwa [List.getD_eq_getElem?_getD, List.getElem?_append_left e, ← List.getD_eq_getElem?_getD]
  · have : i = l.length := by simp at hi; omega
    subst this
    rw [List.getD_eq_getElem?_getD, List.getElem?_append_right (Nat.le_refl _)]; simpa using hq
set_option maxHeartbeats 1000000 in
set_option maxRecDepth 100000 in
theorem sheetDrawn_c (g k : Nat) (w : World) (h : Src w g k) (hk : k ≤ 1000) :
    Calls Try.prog 69 #[.pointer (some ⟨g, 0, none⟩)] w fun e w' => ∃ a p c l, e = .returned (.agg #[.int .i8 a, .slice p l.length c]) ∧ 1 ≤ a ∧ a ≤ 5 ∧ l.length ≤ 5 ∧ Prs l ∧ okL l = true ∧ RowP w' w.heap.size (.slice p l.length c) l ∧ But g w w' := by
  have hgl := src_lt h
  have HS := Lib.hid (src_keep h (bl1 w (.cells #[.int .i8 0, .slice none 0 0] 30)))
  have K0 := Lib.hid (al1_0 w (.cells #[.int .i8 0, .slice none 0 0] 30))
  have HB := Lib.hid (but_alloc (but_refl g w) hgl (.cells #[.int .i8 0, .slice none 0 0] 30))
  have hz : (w.alloc (.cells #[.int .i8 0, .slice none 0 0] 30)).heap.size = w.heap.size + 1 := by simp
  clear h
  go_enter Try.func69, Try.ntmps69
  go_wp2_with fail
  generalize w.alloc (.cells #[.int .i8 0, .slice none 0 0] 30) = w1 at *
  refine (srcPick_c g k 5 _ HS.out (by omega) (by omega) (by omega)).mono ?_
  rintro e w2 ⟨a, rfl, a0, a1, hS2, hO2⟩
  have hwa : IntKind.i64.wrap (1 + a) = 1 + a := Go.IntWalk.i64_in _ (by omega)
  have hwb : IntKind.i8.wrap (1 + a) = 1 + a := Go.IntWalk.i8_in _ (by omega)
  have hz2 : w2.heap.size = w.heap.size + 1 := hO2.size.trans hz
  have J0 := Lib.hid ((hO2.apart _ (by omega)).trans K0.out)
  have HB2 := Lib.hid (but_only HB.out hO2)
  have HS3 := Lib.hid (src_keep hS2 (bl1 w2 (.cells #[.int .i8 (1 + a), .slice none 0 0] 30)))
  have HB3 := Lib.hid (but_alloc HB2.out (by omega) (.cells #[.int .i8 (1 + a), .slice none 0 0] 30))
  have K3 := Lib.hid (heap_old (.cells #[.int .i8 (1 + a), .slice none 0 0] 30) _ (lt_of_heap J0.out) J0.out)
  have K4 := Lib.hid (al1_0 w2 (.cells #[.int .i8 (1 + a), .slice none 0 0] 30))
  rw [hz2] at K4
  have hz3 : (w2.alloc (.cells #[.int .i8 (1 + a), .slice none 0 0] 30)).heap.size = w.heap.size + 1 + 1 := by simp; omega
  clear hS2 hO2 K0 HB HS hz J0 HB2
  go_wp2_with fail
  generalize w2.alloc (.cells #[.int .i8 (1 + a), .slice none 0 0] 30) = w3 at *
  refine (srcPick_c g (k + 2) 6 _ HS3.out (by omega) (by omega) (by omega)).mono ?_
  rintro e w4 ⟨q, rfl, q0, q1, hS4, hO4⟩
  have HS4 := Lib.hid hS4
  have HB4 := Lib.hid (but_only HB3.out hO4)
  have G3 := Lib.hid ((hO4.apart _ (by omega)).trans K3.out)
  have G4 := Lib.hid ((hO4.apart _ (by omega)).trans K4.out)
  have z4 : w4.heap.size = w.heap.size + 1 + 1 := hO4.size.trans hz3
  obtain ⟨qn, rfl⟩ : ∃ qn : Nat, q = qn := ⟨q.toNat, by omega⟩
  have q1' : qn < 6 := by omega
  clear hS4 hO4 K3 K4 HB3 HS3 hz3 hz2
  go_wp2_with fail
  go_loopw [4] (fun i wr => ∃ (m : Nat) (p : Option Addr) (nv cv : Nat) (l : List (List Int)), m ≤ qn ∧ i = .int .i64 m ∧ nv = l.length ∧ l.length = qn - m ∧ Prs l ∧ okL l = true ∧ wr.heap[w.heap.size]? = some (.cells #[.int .i8 0, .slice none 0 0] 30 (0, 0)) ∧ wr.heap[w.heap.size + 1]? = some (.cells #[.int .i8 (1 + a), .slice p nv cv] 30 (0, 0)) ∧ RowP wr (w.heap.size + 1 + 1) (.slice p nv cv) l ∧ w.heap.size + 1 + 1 ≤ wr.heap.size ∧ Src wr g (k + 4 + 40 * (qn - m)) ∧ But g w wr) (fun i _ => (intOf i).toNat)
  case atStart => exact ⟨qn, none, 0, 0, [], Nat.le_refl _, rfl, rfl, by simp, fun i hi => absurd hi (by simp), rfl, G3.out, G4.out, rowP_nil _ _, by omega, src_mono HS4.out (by omega), HB4.out⟩
  case round =>
    clear G3 G4 HS4 HB4
    obtain ⟨m, p, nv, cv, l, hm, rfl, hnv, hll, hl, hol, h0, h1, hR, zr, hS, hB⟩ := hrel
    have HS := Lib.hid hS
    have HB := Lib.hid hB
    have H0 := Lib.hid h0
    have H1 := Lib.hid h1
    have HR := Lib.hid hR
    have HN := Lib.hid hnv
    have HLL := Lib.hid hll
    have HL := Lib.hid hl
    have HO := Lib.hid hol
    clear hS hB h0 h1 hl hol hR hnv hll
    by_cases hlt : 0 < m
    · have hm0 : (0 : Int) < m := by omega
      have hmw : IntKind.i64.wrap ((m : Int) - 1) = ((m - 1 : Nat) : Int) := by rw [Go.IntWalk.i64_in _ (by omega)]; omega
      have HK : Hid (∀ w' : World, w'.heap[w.heap.size + 1]? = wr.heap[w.heap.size + 1]? → w'.cell? ⟨w.heap.size + 1, 1, none⟩ = some (.slice p nv cv) ∧ w'.heap[w.heap.size + 1]? = some (.cells #[.int .i8 (1 + a), .slice p nv cv] 30 (0, 0))) := Lib.hid fun w' h => ⟨bk2_1 (h.trans H1.out), h.trans H1.out⟩
      have zS := Lib.hid zr
      clear zr
      go_upto_region 5 with fail
      refine wp_region_noPanic ?_
      refine wp_region_held_drew (S := fun _ => True) (by kernel_rfl) trivial (fun hHeld => ?_)
      refine wpAnyH_take (i := 0) (v := .pointer (some ⟨w.heap.size + 1, 1, none⟩)) rfl (by kernel_rfl) (by kernel_rfl) (by kernel_rfl) (fun _ _ _ h => h) (Or.inl ⟨by rfl, fun w1 hSw => by go_simp⟩) trivial ?_
      refine wpAnyH_take (i := 2) (v := .pointer (some ⟨g, 0, none⟩)) rfl (by kernel_rfl) (by kernel_rfl) (by kernel_rfl) (fun _ _ _ h => h) (Or.inl ⟨by rfl, fun w1 hSw => by go_simp⟩) trivial ?_
      simp only [Act.put, List.setIfInBounds_toArray]
      refine wpAnyH_ready (rs := [1, 3]) (by kernel_rfl) (by simp) ?_
      refine AllReadyH.cons rfl (fun K hK => ?_) (AllReadyH.cons rfl (fun K hK => ?_) AllReadyH.nil)
      · have cl := show wr.drew.cell? ⟨w.heap.size + 1, 1, none⟩ = some (.slice p nv cv) from bk2_1 H1.out
        go_simp
        refine hK.out _ _ trivial (fun _ => ?_)
        clear hK K
        clear cl
        refine wpAnyH_ready (rs := [3]) (by kernel_rfl) (by simp) ?_
        refine AllReadyH.cons rfl (fun K hK => ?_) AllReadyH.nil
        go_simp
        refine (cellsDrawnP_c g (k + 4 + 40 * (qn - m)) _ (src_drew1 HS.out) (by omega)).mono ?_
        rintro e w9 ⟨qq, rfl, hq, hoq, hS9, hB9⟩
        have hz9 : w.heap.size + 1 < w9.heap.size := Nat.lt_of_lt_of_le (show w.heap.size + 1 < wr.heap.size by have := zS.out; omega) hB9.below.size
        have e9 := Lib.hid (hB9.apart (w.heap.size + 1) (by show w.heap.size + 1 < wr.heap.size; have := zS.out; omega) (by omega))
        have e9a := Lib.hid ((heap_old (.cells (cellsP qq).toArray 45) _ hz9 rfl).trans e9.out)
        have HR9 := Lib.hid (rowP_but (w := wr.drew) HR.out hB9 (by omega))
        have HPq := Lib.hid hq
        have HOq := Lib.hid hoq
        have HS9 := Lib.hid hS9
        have HB9 := Lib.hid hB9
        have HHa : Hid ((w9.alloc (.cells (cellsP qq).toArray 45)).heap[w9.heap.size]? = some (.cells (flatP [qq]).toArray 45 (0, 0))) := Lib.hid (by rw [flat_one]; exact (al1_0 w9 (.cells (cellsP qq).toArray 45)))
        clear hq hoq hS9 hB9
        refine hK.out _ _ trivial (fun _ => ?_)
        clear hK K
        refine wpAnyH_ready (rs := [4]) (by kernel_rfl) (by simp) ?_
        refine AllReadyH.cons rfl (fun K hK => ?_) AllReadyH.nil
        have hfold := fold_print qq HPq.out.1
        have hlq : (cellsP qq).length = 64 := (cellsP_length qq).trans HPq.out.1
        rw [← z64_Z] at hfold
        go_simp
        refine hK.out _ _ trivial (fun _ => ?_)
        clear hK K
        clear hfold hlq
        have hz9a : w.heap.size + 1 < (w9.alloc (.cells (cellsP qq).toArray 45)).heap.size := by simp; omega
        have HRa := Lib.hid (rowP_alloc HR9.out (.cells (cellsP qq).toArray 45))
        have HSa := Lib.hid (src_keep HS9.out (bl1 w9 (.cells (cellsP qq).toArray 45)))
        have HBa := Lib.hid (but_alloc (but_trans (but_drew1 HB.out) HB9.out) (Nat.lt_trans (by omega) hz9) (.cells (cellsP qq).toArray 45))
        have e0a : Hid ((w9.alloc (.cells (cellsP qq).toArray 45)).heap[w.heap.size]? = some (.cells #[.int .i8 0, .slice none 0 0] 30 (0, 0))) := Lib.hid ((heap_old _ _ (Nat.lt_of_succ_lt hz9) rfl).trans ((HB9.out.apart w.heap.size (by show w.heap.size < wr.heap.size; have := zS.out; omega) (by omega)).trans H0.out))
        have hge : w.heap.size + 1 + 1 ≤ w9.heap.size := hz9
        generalize hwa : w9.alloc (.cells (cellsP qq).toArray 45) = wa at *
        refine wpAnyH_ready (rs := [5]) (by kernel_rfl) (by simp) ?_
        refine AllReadyH.cons rfl (fun K hK => ?_) AllReadyH.nil
        refine step_appPs (by rfl) (.tmp 17) (.tmp 20) 28 (by rfl) (w.heap.size + 1 + 1) Try.underlying28 infoPrint _ l (by rfl) HRa.out w9.heap.size 0 1 1 [qq] rfl (Prs_one HPq.out) (by rfl) (PrAt_block HHa.out (Prs_one HPq.out)) (by have := HLL.out; omega) hz9a ?_
        intro v6 w6 hrow hgr hbk hat
        obtain ⟨p9, c9, rfl⟩ := rowP_any hrow
        have hB6 := Lib.hid ((Below.refl (w.heap.size + 1 + 1) wa).grown hgr hz9a hbk)
        have e6 := Lib.hid ((hB6.out.block (w.heap.size + 1) (Nat.lt_succ_self _)).trans e9a.out)
        have e06 := Lib.hid ((hB6.out.block w.heap.size (by omega)).trans e0a.out)
        have HS6 := Lib.hid (src_keepB HSa.out hB6.out (by omega))
        have HB6 := Lib.hid (but_keepB HBa.out hB6.out (by omega) hgl)
        have zz6 : w.heap.size + 1 + 1 ≤ w6.heap.size := Nat.le_trans hz9a hB6.out.size
        have hX := e6.out.trans H1.out
        have r1 := bk2_1 hX
        have rf1 := blk_f hX 1
        have hlen : (l ++ [qq]).length = nv + 1 := by rw [List.length_append, ← HN.out]; rfl
        rw [hlen] at hrow ⊢
        have HR6 := Lib.hid hrow
        have HX := Lib.hid hX
        have HLn := Lib.hid hlen
        clear hrow hgr hbk hat hX hlen
        refine hK.out _ _ trivial (fun _ => ?_)
        clear hK K
        refine wpAnyH_take (i := 6) (v := .pointer (some ⟨w.heap.size + 1, 1, none⟩)) rfl (by kernel_rfl) (by kernel_rfl) (by kernel_rfl) (fun _ _ _ h => h) (Or.inl ⟨by rfl, fun w1 hSw => by go_simp⟩) trivial ?_
        simp only [Act.put, List.setIfInBounds_toArray]
        refine wpAnyH_ready (rs := [7]) (by kernel_rfl) (by simp) ?_
        refine AllReadyH.cons rfl (fun K hK => ?_) AllReadyH.nil
        go_simp
        refine hK.out _ _ trivial (fun _ => ?_)
        clear hK K
        refine wpAnyH_done (by kernel_rfl) ?_ _
        refine NoPanic.normal ?_
        have HK8 := Lib.hid (heap_set1 HX.out (.slice p9 (nv + 1) c9))
        have HR8 := Lib.hid (rowP_far (p := ⟨w.heap.size + 1, 1, none⟩) HR6.out (Nat.lt_succ_self _) (.slice p9 (nv + 1) c9))
        have H08 := Lib.hid (heap_far (a := ⟨w.heap.size + 1, 1, none⟩) (.slice p9 (nv + 1) c9) (by show w.heap.size ≠ w.heap.size + 1; omega) (e06.out))
        have HS8 := Lib.hid (src_far HS6.out (a := ⟨w.heap.size + 1, 1, none⟩) (v := .slice p9 (nv + 1) c9) (by show g ≠ w.heap.size + 1; omega) (by show g ≤ w.heap.size + 1; omega))
        have HB8 := Lib.hid (but_set HB6.out (b := w.heap.size + 1) hgl (by omega) 1 (.slice p9 (nv + 1) c9))
        have z8 : w.heap.size + 1 + 1 ≤ (w6.setCell ⟨w.heap.size + 1, 1, none⟩ (.slice p9 (nv + 1) c9)).heap.size := by simpa using zz6
        generalize w6.setCell ⟨w.heap.size + 1, 1, none⟩ (.slice p9 (nv + 1) c9) = w8 at *
        have hk8 : k + 4 + 40 * (qn - m) + 40 ≤ k + 4 + 40 * (qn - (m - 1)) := by omega
        clear r1 rf1
        go_wp2
        go_roundw
        case rel => exact ⟨m - 1, p9, nv + 1, c9, l ++ [qq], by omega, rfl, HLn.out.symm, by rw [HLn.out]; have := HN.out; have := HLL.out; omega, Prs_app HL.out HPq.out, okL_app HO.out HOq.out, H08.out, HK8.out, HR8.out, z8, src_mono HS8.out hk8, HB8.out⟩
        case measure => simp [intOf]; omega
      · go_simp
        refine (cellsDrawnP_c g (k + 4 + 40 * (qn - m)) _ (src_drew1 HS.out) (by omega)).mono ?_
        rintro e w9 ⟨qq, rfl, hq, hoq, hS9, hB9⟩
        have hz9 : w.heap.size + 1 < w9.heap.size := Nat.lt_of_lt_of_le (show w.heap.size + 1 < wr.heap.size by have := zS.out; omega) hB9.below.size
        have e9 := Lib.hid (hB9.apart (w.heap.size + 1) (by show w.heap.size + 1 < wr.heap.size; have := zS.out; omega) (by omega))
        have e9a := Lib.hid ((heap_old (.cells (cellsP qq).toArray 45) _ hz9 rfl).trans e9.out)
        have HR9 := Lib.hid (rowP_but (w := wr.drew) HR.out hB9 (by omega))
        have HPq := Lib.hid hq
        have HOq := Lib.hid hoq
        have HS9 := Lib.hid hS9
        have HB9 := Lib.hid hB9
        have HHa : Hid ((w9.alloc (.cells (cellsP qq).toArray 45)).heap[w9.heap.size]? = some (.cells (flatP [qq]).toArray 45 (0, 0))) := Lib.hid (by rw [flat_one]; exact (al1_0 w9 (.cells (cellsP qq).toArray 45)))
        clear hq hoq hS9 hB9
        refine hK.out _ _ trivial (fun _ => ?_)
        clear hK K
        refine wpAnyH_ready (rs := [1, 4]) (by kernel_rfl) (by simp) ?_
        refine AllReadyH.cons rfl (fun K hK => ?_) (AllReadyH.cons rfl (fun K hK => ?_) AllReadyH.nil)
        · have cl := bk2_1 (e9.out.trans H1.out)
          go_simp
          refine hK.out _ _ trivial (fun _ => ?_)
          clear hK K
          clear cl
          refine wpAnyH_ready (rs := [4]) (by kernel_rfl) (by simp) ?_
          refine AllReadyH.cons rfl (fun K hK => ?_) AllReadyH.nil
          have hfold := fold_print qq HPq.out.1
          have hlq : (cellsP qq).length = 64 := (cellsP_length qq).trans HPq.out.1
          rw [← z64_Z] at hfold
          go_simp
          refine hK.out _ _ trivial (fun _ => ?_)
          clear hK K
          clear hfold hlq
          have hz9a : w.heap.size + 1 < (w9.alloc (.cells (cellsP qq).toArray 45)).heap.size := by simp; omega
          have HRa := Lib.hid (rowP_alloc HR9.out (.cells (cellsP qq).toArray 45))
          have HSa := Lib.hid (src_keep HS9.out (bl1 w9 (.cells (cellsP qq).toArray 45)))
          have HBa := Lib.hid (but_alloc (but_trans (but_drew1 HB.out) HB9.out) (Nat.lt_trans (by omega) hz9) (.cells (cellsP qq).toArray 45))
          have e0a : Hid ((w9.alloc (.cells (cellsP qq).toArray 45)).heap[w.heap.size]? = some (.cells #[.int .i8 0, .slice none 0 0] 30 (0, 0))) := Lib.hid ((heap_old _ _ (Nat.lt_of_succ_lt hz9) rfl).trans ((HB9.out.apart w.heap.size (by show w.heap.size < wr.heap.size; have := zS.out; omega) (by omega)).trans H0.out))
          have hge : w.heap.size + 1 + 1 ≤ w9.heap.size := hz9
          generalize hwa : w9.alloc (.cells (cellsP qq).toArray 45) = wa at *
          refine wpAnyH_ready (rs := [5]) (by kernel_rfl) (by simp) ?_
          refine AllReadyH.cons rfl (fun K hK => ?_) AllReadyH.nil
          refine step_appPs (by rfl) (.tmp 17) (.tmp 20) 28 (by rfl) (w.heap.size + 1 + 1) Try.underlying28 infoPrint _ l (by rfl) HRa.out w9.heap.size 0 1 1 [qq] rfl (Prs_one HPq.out) (by rfl) (PrAt_block HHa.out (Prs_one HPq.out)) (by have := HLL.out; omega) hz9a ?_
          intro v6 w6 hrow hgr hbk hat
          obtain ⟨p9, c9, rfl⟩ := rowP_any hrow
          have hB6 := Lib.hid ((Below.refl (w.heap.size + 1 + 1) wa).grown hgr hz9a hbk)
          have e6 := Lib.hid ((hB6.out.block (w.heap.size + 1) (Nat.lt_succ_self _)).trans e9a.out)
          have e06 := Lib.hid ((hB6.out.block w.heap.size (by omega)).trans e0a.out)
          have HS6 := Lib.hid (src_keepB HSa.out hB6.out (by omega))
          have HB6 := Lib.hid (but_keepB HBa.out hB6.out (by omega) hgl)
          have zz6 : w.heap.size + 1 + 1 ≤ w6.heap.size := Nat.le_trans hz9a hB6.out.size
          have hX := e6.out.trans H1.out
          have r1 := bk2_1 hX
          have rf1 := blk_f hX 1
          have hlen : (l ++ [qq]).length = nv + 1 := by rw [List.length_append, ← HN.out]; rfl
          rw [hlen] at hrow ⊢
          have HR6 := Lib.hid hrow
          have HX := Lib.hid hX
          have HLn := Lib.hid hlen
          clear hrow hgr hbk hat hX hlen
          refine hK.out _ _ trivial (fun _ => ?_)
          clear hK K
          refine wpAnyH_take (i := 6) (v := .pointer (some ⟨w.heap.size + 1, 1, none⟩)) rfl (by kernel_rfl) (by kernel_rfl) (by kernel_rfl) (fun _ _ _ h => h) (Or.inl ⟨by rfl, fun w1 hSw => by go_simp⟩) trivial ?_
          simp only [Act.put, List.setIfInBounds_toArray]
          refine wpAnyH_ready (rs := [7]) (by kernel_rfl) (by simp) ?_
          refine AllReadyH.cons rfl (fun K hK => ?_) AllReadyH.nil
          go_simp
          refine hK.out _ _ trivial (fun _ => ?_)
          clear hK K
          refine wpAnyH_done (by kernel_rfl) ?_ _
          refine NoPanic.normal ?_
          have HK8 := Lib.hid (heap_set1 HX.out (.slice p9 (nv + 1) c9))
          have HR8 := Lib.hid (rowP_far (p := ⟨w.heap.size + 1, 1, none⟩) HR6.out (Nat.lt_succ_self _) (.slice p9 (nv + 1) c9))
          have H08 := Lib.hid (heap_far (a := ⟨w.heap.size + 1, 1, none⟩) (.slice p9 (nv + 1) c9) (by show w.heap.size ≠ w.heap.size + 1; omega) (e06.out))
          have HS8 := Lib.hid (src_far HS6.out (a := ⟨w.heap.size + 1, 1, none⟩) (v := .slice p9 (nv + 1) c9) (by show g ≠ w.heap.size + 1; omega) (by show g ≤ w.heap.size + 1; omega))
          have HB8 := Lib.hid (but_set HB6.out (b := w.heap.size + 1) hgl (by omega) 1 (.slice p9 (nv + 1) c9))
          have z8 : w.heap.size + 1 + 1 ≤ (w6.setCell ⟨w.heap.size + 1, 1, none⟩ (.slice p9 (nv + 1) c9)).heap.size := by simpa using zz6
          generalize w6.setCell ⟨w.heap.size + 1, 1, none⟩ (.slice p9 (nv + 1) c9) = w8 at *
          have hk8 : k + 4 + 40 * (qn - m) + 40 ≤ k + 4 + 40 * (qn - (m - 1)) := by omega
          clear r1 rf1
          go_wp2
          go_roundw
          case rel => exact ⟨m - 1, p9, nv + 1, c9, l ++ [qq], by omega, rfl, HLn.out.symm, by rw [HLn.out]; have := HN.out; have := HLL.out; omega, Prs_app HL.out HPq.out, okL_app HO.out HOq.out, H08.out, HK8.out, HR8.out, z8, src_mono HS8.out hk8, HB8.out⟩
          case measure => simp [intOf]; omega
        · have hfold := fold_print qq HPq.out.1
          have hlq : (cellsP qq).length = 64 := (cellsP_length qq).trans HPq.out.1
          rw [← z64_Z] at hfold
          go_simp
          refine hK.out _ _ trivial (fun _ => ?_)
          clear hK K
          clear hfold hlq
          refine wpAnyH_ready (rs := [1]) (by kernel_rfl) (by simp) ?_
          refine AllReadyH.cons rfl (fun K hK => ?_) AllReadyH.nil
          have cl := bk2_1 (e9a.out.trans H1.out)
          go_simp
          refine hK.out _ _ trivial (fun _ => ?_)
          clear hK K
          clear cl
          have hz9a : w.heap.size + 1 < (w9.alloc (.cells (cellsP qq).toArray 45)).heap.size := by simp; omega
          have HRa := Lib.hid (rowP_alloc HR9.out (.cells (cellsP qq).toArray 45))
          have HSa := Lib.hid (src_keep HS9.out (bl1 w9 (.cells (cellsP qq).toArray 45)))
          have HBa := Lib.hid (but_alloc (but_trans (but_drew1 HB.out) HB9.out) (Nat.lt_trans (by omega) hz9) (.cells (cellsP qq).toArray 45))
          have e0a : Hid ((w9.alloc (.cells (cellsP qq).toArray 45)).heap[w.heap.size]? = some (.cells #[.int .i8 0, .slice none 0 0] 30 (0, 0))) := Lib.hid ((heap_old _ _ (Nat.lt_of_succ_lt hz9) rfl).trans ((HB9.out.apart w.heap.size (by show w.heap.size < wr.heap.size; have := zS.out; omega) (by omega)).trans H0.out))
          have hge : w.heap.size + 1 + 1 ≤ w9.heap.size := hz9
          generalize hwa : w9.alloc (.cells (cellsP qq).toArray 45) = wa at *
          refine wpAnyH_ready (rs := [5]) (by kernel_rfl) (by simp) ?_
          refine AllReadyH.cons rfl (fun K hK => ?_) AllReadyH.nil
          refine step_appPs (by rfl) (.tmp 17) (.tmp 20) 28 (by rfl) (w.heap.size + 1 + 1) Try.underlying28 infoPrint _ l (by rfl) HRa.out w9.heap.size 0 1 1 [qq] rfl (Prs_one HPq.out) (by rfl) (PrAt_block HHa.out (Prs_one HPq.out)) (by have := HLL.out; omega) hz9a ?_
          intro v6 w6 hrow hgr hbk hat
          obtain ⟨p9, c9, rfl⟩ := rowP_any hrow
          have hB6 := Lib.hid ((Below.refl (w.heap.size + 1 + 1) wa).grown hgr hz9a hbk)
          have e6 := Lib.hid ((hB6.out.block (w.heap.size + 1) (Nat.lt_succ_self _)).trans e9a.out)
          have e06 := Lib.hid ((hB6.out.block w.heap.size (by omega)).trans e0a.out)
          have HS6 := Lib.hid (src_keepB HSa.out hB6.out (by omega))
          have HB6 := Lib.hid (but_keepB HBa.out hB6.out (by omega) hgl)
          have zz6 : w.heap.size + 1 + 1 ≤ w6.heap.size := Nat.le_trans hz9a hB6.out.size
          have hX := e6.out.trans H1.out
          have r1 := bk2_1 hX
          have rf1 := blk_f hX 1
          have hlen : (l ++ [qq]).length = nv + 1 := by rw [List.length_append, ← HN.out]; rfl
          rw [hlen] at hrow ⊢
          have HR6 := Lib.hid hrow
          have HX := Lib.hid hX
          have HLn := Lib.hid hlen
          clear hrow hgr hbk hat hX hlen
          refine hK.out _ _ trivial (fun _ => ?_)
          clear hK K
          refine wpAnyH_take (i := 6) (v := .pointer (some ⟨w.heap.size + 1, 1, none⟩)) rfl (by kernel_rfl) (by kernel_rfl) (by kernel_rfl) (fun _ _ _ h => h) (Or.inl ⟨by rfl, fun w1 hSw => by go_simp⟩) trivial ?_
          simp only [Act.put, List.setIfInBounds_toArray]
          refine wpAnyH_ready (rs := [7]) (by kernel_rfl) (by simp) ?_
          refine AllReadyH.cons rfl (fun K hK => ?_) AllReadyH.nil
          go_simp
          refine hK.out _ _ trivial (fun _ => ?_)
          clear hK K
          refine wpAnyH_done (by kernel_rfl) ?_ _
          refine NoPanic.normal ?_
          have HK8 := Lib.hid (heap_set1 HX.out (.slice p9 (nv + 1) c9))
          have HR8 := Lib.hid (rowP_far (p := ⟨w.heap.size + 1, 1, none⟩) HR6.out (Nat.lt_succ_self _) (.slice p9 (nv + 1) c9))
          have H08 := Lib.hid (heap_far (a := ⟨w.heap.size + 1, 1, none⟩) (.slice p9 (nv + 1) c9) (by show w.heap.size ≠ w.heap.size + 1; omega) (e06.out))
          have HS8 := Lib.hid (src_far HS6.out (a := ⟨w.heap.size + 1, 1, none⟩) (v := .slice p9 (nv + 1) c9) (by show g ≠ w.heap.size + 1; omega) (by show g ≤ w.heap.size + 1; omega))
          have HB8 := Lib.hid (but_set HB6.out (b := w.heap.size + 1) hgl (by omega) 1 (.slice p9 (nv + 1) c9))
          have z8 : w.heap.size + 1 + 1 ≤ (w6.setCell ⟨w.heap.size + 1, 1, none⟩ (.slice p9 (nv + 1) c9)).heap.size := by simpa using zz6
          generalize w6.setCell ⟨w.heap.size + 1, 1, none⟩ (.slice p9 (nv + 1) c9) = w8 at *
          have hk8 : k + 4 + 40 * (qn - m) + 40 ≤ k + 4 + 40 * (qn - (m - 1)) := by omega
          clear r1 rf1
          go_wp2
          go_roundw
          case rel => exact ⟨m - 1, p9, nv + 1, c9, l ++ [qq], by omega, rfl, HLn.out.symm, by rw [HLn.out]; have := HN.out; have := HLL.out; omega, Prs_app HL.out HPq.out, okL_app HO.out HOq.out, H08.out, HK8.out, HR8.out, z8, src_mono HS8.out hk8, HB8.out⟩
          case measure => simp [intOf]; omega
    · have hm0 : ¬ (0 : Int) < m := by omega
      have d0 := bk2_0 H1.out
      have d1 := bk2_1 H1.out
      have c0 := bk2_0 H0.out
      have c1 := bk2_1 H0.out
      have f0 := blk_f H0.out 0
      have f1 := blk_f H0.out 1
      have hR8 := rowP_mono (rowP_far (p := ⟨w.heap.size, 1, none⟩) (rowP_far (p := ⟨w.heap.size, 0, none⟩) HR.out (by show w.heap.size < _; omega) (.int .i8 (1 + a))) (by show w.heap.size < _; omega) (.slice p nv cv)) (show w.heap.size ≤ w.heap.size + 1 + 1 by omega)
      have HR8 := Lib.hid hR8
      clear hR8
      go_wp2
      exact bodyPost_ret (results_cell_row rfl _ _ _ _ _ _ _ rfl (bk2 H0.out) Try.underlying30 rfl szSheetI) rfl ⟨1 + a, p, cv, l, by rw [HN.out], by omega, by omega, by have := HLL.out; omega, HL.out, HO.out, by rw [← HN.out]; exact HR8.out, but_set (but_set HB.out hgl (Nat.le_refl _) 0 _) hgl (Nat.le_refl _) 1 _⟩
end Go.Proofs.Ytnbbbmnjbfehmaa
