/- DropFrame: the reference. -/
import Derived.Test.YtnbbbmnjbfehmaaDropI
namespace Go.Proofs.Ytnbbbmnjbfehmaa
open Go.RowKit Go.Lib
abbrev E2 (w0 : World) (gs gr g : Nat) (a : Int) (n c : Nat) (w : World) : Prop := Below w0.heap.size w0 w ∧ w.cell? ⟨gs, 1, none⟩ = some (.slice (some ⟨g, 0, none⟩) n c) ∧ w.heap[gs]? = some (.cells #[.int .i8 a, .slice (some ⟨g, 0, none⟩) n c] 30 (0, 0)) ∧ ∃ x1 x2, w.heap[gr]? = some (.cells #[x1, x2] 30 (0, 0))
theorem e2_drew {w0 w : World} {gs gr g n c : Nat} {a : Int} (h : E2 w0 gs gr g a n c w) : E2 w0 gs gr g a n c w.drew := ⟨bl_drew h.1, h.2⟩
theorem e2_next {w0 w w1 : World} {gs gr g n c : Nat} {a : Int} {B : Nat} (hb : Below B w w1) (h1 : gs < B) (h2 : gr < B) (h3 : w0.heap.size ≤ B) (h : E2 w0 gs gr g a n c w) : E2 w0 gs gr g a n c w1 := by
  obtain ⟨h0, c1, hg, x1, x2, hr⟩ := h
  exact ⟨h0.trans (hb.mono h3), (hb.cell (p := ⟨gs, 1, none⟩) h1).trans c1, heap_below hb h1 hg, x1, x2, heap_below hb h2 hr⟩
theorem e2_lt {w0 w : World} {gs gr g n c : Nat} {a : Int} (h : E2 w0 gs gr g a n c w) : gs < w.heap.size ∧ gr < w.heap.size := by
  obtain ⟨h0, c1, hg, x1, x2, hr⟩ := h
  exact ⟨lt_of_heap hg, lt_of_heap hr⟩
theorem e2_alloc {w0 w : World} {gs gr g n c : Nat} {a : Int} (h : E2 w0 gs gr g a n c w) (o : Obj) : E2 w0 gs gr g a n c (w.alloc o) := e2_next (bl1 w o) (e2_lt h).1 (e2_lt h).2 h.1.size h
theorem e2_store {w0 w : World} {gs gr g n c : Nat} {a : Int} (h : E2 w0 gs gr g a n c w) (hn : gr ≠ gs) (hb : w0.heap.size ≤ gr) (x y : Value) : E2 w0 gs gr g a n c ((w.setCell ⟨gr, 0, none⟩ x).setCell ⟨gr, 1, none⟩ y) := by
  obtain ⟨h0, c1, hg, x1, x2, h2⟩ := h
  refine ⟨below2 h0 hb x y, ?_, heap_far _ (by simpa using Ne.symm hn) (heap_far _ (by simpa using Ne.symm hn) hg), x, y, bk2 h2⟩
  rw [World.cell?_setCell_other _ _ _ _ (by simp), World.cell?_setCell_other _ _ _ _ (by simp)]; exact c1
theorem e2_grown {w0 w w1 : World} {gs gr g n c : Nat} {a : Int} {v : Value} (hg : w.grownBy w1 v.ownBlock) (base : Nat) (hk : ∀ j, v.ownBlock = some j → base ≤ j) (hbs : base ≤ w.heap.size) (h1 : gs < base) (h2 : gr < base) (h3 : w0.heap.size ≤ base) (h : E2 w0 gs gr g a n c w) : E2 w0 gs gr g a n c w1 :=
  e2_next ((Below.refl base w).grown hg hbs hk) h1 h2 h3 h
/-- Where a list's rest begins. -/
theorem rest_at (g i n c : Nat) (hnc : n ≤ c) (l : List (List Int)) (hn : n = l.length) (hi : i < n) : ∃ o2, (if c = i + 1 then some (⟨g, 0, none⟩ : Addr) else some ⟨g, (i + 1) * 64, none⟩) = some ⟨g, o2, none⟩ ∧ ∀ w, PrAt w g 0 l → PrAt w g o2 (l.drop (i + 1)) := by
  by_cases h : c = i + 1
  · refine ⟨0, by simp [h], fun w _ k hk => ?_⟩
    rw [List.length_drop] at hk
    omega
  · refine ⟨(i + 1) * 64, by simp [h], fun w hw k hk => ?_⟩
    rw [List.length_drop] at hk
    have := hw (i + 1 + k) (by omega)
    have e : (l.drop (i + 1)).getD k [] = l.getD (i + 1 + k) [] := by simp [List.getD_eq_getElem?_getD, List.getElem?_drop]
    rw [e, show (i + 1) * 64 + k * 64 = 0 + (i + 1 + k) * 64 by omega]
    exact this
theorem PrAt_take {w : World} {g : Nat} {l : List (List Int)} (h : PrAt w g 0 l) (i : Nat) : PrAt w g 0 (l.take i) := by
  intro k hk
  rw [List.length_take] at hk
  have := h k (by omega)
  have e : (l.take i).getD k [] = l.getD k [] := by
    have : k < i := by omega
    simp [List.getD_eq_getElem?_getD, this]
  rwa [e]
theorem rowP_own {w : World} {base : Nat} {v : Value} {l : List (List Int)} (h : RowP w base v l) (hne : v.ownBlock ≠ none) : ∃ j cap, v = .slice (some ⟨j, 0, none⟩) l.length cap ∧ base ≤ j ∧ j < w.heap.size := by
  obtain ⟨_, h2⟩ := h
  rcases h2 with ⟨h2, _⟩ | ⟨g, cap, cur, hv, hg, hh, _⟩
  · rw [h2] at hne; exact absurd rfl hne
  · exact ⟨g, cap, hv, hg, lt_of_heap hh⟩
theorem own_ne {x : Option Nat} {a : Nat} {b : Nat} (h : x = some a ∨ x = some b) : x ≠ none := by rcases h with h | h <;> rw [h] <;> simp
set_option maxHeartbeats 400000 in
set_option maxRecDepth 100000 in
theorem specDrop_c (a : Int) (ha : -128 ≤ a ∧ a ≤ 127) (g n c : Nat) (l : List (List Int)) (hl : Prs l) (hn : n = l.length) (hm : n ≤ 1048576) (hnc : n ≤ c) (x : Int) (w : World) (hg : PB w g l) :
    Calls Try.prog 39 #[.agg #[.int .i8 a, .slice (some ⟨g, 0, none⟩) n c], .int .i64 x] w fun e w' => ∃ v, e = .returned (.tuple #[.agg #[.int .i8 (drV a l x).1.1, v], .int .i64 (drV a l x).2]) ∧ RowP w' w.heap.size v (drV a l x).1.2 ∧ Below w.heap.size w w' := by
  have HN := Lib.hid hn
  have HP := Lib.hid hl
  have HG := Lib.hid hg
  have K0 := Lib.hid (al2_0 w (.cells #[.int .i8 a, .slice (some ⟨g, 0, none⟩) n c] 30) (.cells #[.int .i8 0, .slice none 0 0] 30))
  have K1 := Lib.hid (al2_1 w (.cells #[.int .i8 a, .slice (some ⟨g, 0, none⟩) n c] 30) (.cells #[.int .i8 0, .slice none 0 0] 30))
  have KB := Lib.hid (bl2 w (.cells #[.int .i8 a, .slice (some ⟨g, 0, none⟩) n c] 30) (.cells #[.int .i8 0, .slice none 0 0] 30))
  have HPS0 : Hid (∀ w', Below w.heap.size w w' → PS w' (some ⟨g, 0, none⟩) l) := Lib.hid (fun w' hb => pb_PS (pb_below hb HG.out))
  clear hl hn hg
  by_cases hc : scV a l [x] = 0
  · obtain ⟨hsh, hx⟩ := scV_zero1 hc
    obtain ⟨hx0, hx1⟩ := (inF_iff _ _).1 hx
    obtain ⟨i, rfl⟩ := Int.eq_ofNat_of_zero_le hx0
    have HV : Hid (drV a l i = ((a, drL l i), 0)) := Lib.hid (by simp [drV, hc])
    have HC := Lib.hid hc
    have hin : i < n := by rw [HN.out]; omega
    have hii : (i : Int) < n := by omega
    have hi1 : IntKind.i64.wrap ((i : Int) + 1) = (i : Int) + 1 := Go.IntWalk.i64_in _ (by omega)
    have hi2 : (i : Int) + 1 ≤ n := by omega
    have hi3 : (i : Int) ≤ n := by omega
    have hi4 : (0 : Int) ≤ (i : Int) + 1 := by omega
    have hi7 : (i : Int) ≤ c := by omega
    have hi8 : i ≤ c := by omega
    have hi9 : (n : Int) ≤ c := by omega
    have hi5 : i + 1 ≤ n := by omega
    have hi6 : i ≤ n := by omega
    obtain ⟨o2, hA, hat⟩ := rest_at g i n c hnc l HN.out hin
    have HAT := Lib.hid hat
    clear hc hsh hx hx0 hx1 hat
    go_enter Try.func39, Try.ntmps39
    go_upto_region 1 with fail
    generalize ((w.alloc (.cells #[.int .i8 a, .slice (some ⟨g, 0, none⟩) n c] 30)).alloc (.cells #[.int .i8 0, .slice none 0 0] 30)) = w0 at *
    go_wp2_with fail
    refine (l07Asked_c a ha _ n c l HP.out HN.out hm _ _ _ _ (HPS0.out _ KB.out) K0.out).mono ?_
    rintro e w1 ⟨rfl, hb1⟩
    rw [HC.out]
    have K01 := Lib.hid (heap_below hb1 (lt_of_heap K0.out) K0.out)
    have K11 := Lib.hid (heap_below hb1 (lt_of_heap K1.out) K1.out)
    have HB1 := Lib.hid (bt KB.out hb1)
    clear hb1 K0 K1 KB
    go_upto_region 4 with fail
    have s0 : E2 w w.heap.size (w.heap.size + 1) g a n c w1 := ⟨HB1.out, bk2_1 K01.out, K01.out, _, _, K11.out⟩
    have L2 : Hid (w.heap.size + 1 < w1.heap.size) := Lib.hid (lt_of_heap K11.out)
    have LI : Hid ((l.take i).length = i) := Lib.hid (by rw [List.length_take, ← HN.out, Nat.min_eq_left (by omega)])
    have LD : Hid (n - (i + 1) = (l.drop (i + 1)).length) := Lib.hid (by rw [List.length_drop, ← HN.out])
    have KP : Hid (∀ w' : World, E2 w w.heap.size (w.heap.size + 1) g a n c w' → PrAt w' g 0 l) := Lib.hid fun w' h => (pb_below h.1 HG.out).2
    clear K01 K11
    obtain ⟨L, hL⟩ : ∃ L, L = l.take i ++ l.drop (i + 1) := ⟨_, rfl⟩
    have HPL : Hid (Prs L) := Lib.hid (by rw [hL]; exact Prs_del HP.out i)
    have HLn : Hid (L.length ≤ 1048576) := Lib.hid (by rw [hL, List.length_append, LI.out, ← LD.out]; omega)
    have HLL := Lib.hid hL
    clear hL
    have KW : Hid (∀ (w' : World) (j cj : Nat), E2 w w.heap.size (w.heap.size + 1) g a n c w' → RowP w' w1.heap.size (.slice (some ⟨j, 0, none⟩) L.length cj) L → j < w'.heap.size →
        Calls Try.prog 64 #[.pointer (some ⟨w.heap.size, 0, none⟩), .slice (some ⟨j, 0, none⟩) L.length cj] w' fun e w'' => ∃ v B, e = .returned (.agg #[.int .i8 a, v]) ∧ RowP w'' B v L ∧ w.heap.size + 1 < B ∧ E2 w w.heap.size (w.heap.size + 1) g a n c w'') := Lib.hid fun w' j cj h hR hj => by
      refine (l07With_c a _ _ 30 _ _ _ HPL.out rfl HLn.out _ h.2.2.1 j 0 (fun k hk => by rw [Nat.zero_add]; exact rowP_at hR HPL.out k hk) hj).mono ?_
      rintro e w10 ⟨v10, rfl, hR10, hb10⟩
      exact ⟨v10, w'.heap.size, rfl, hR10, (e2_lt h).2, e2_next hb10 (e2_lt h).1 (e2_lt h).2 h.1.size h⟩
    go_region_held3 (fun w' => E2 w w.heap.size (w.heap.size + 1) g a n c w')
      (first | (with_reducible assumption) | exact e2_drew s0 | exact e2_alloc (e2_drew s0) _ | exact e2_alloc (by with_reducible assumption) _ | exact e2_store (by assumption) (by omega) (by omega) _ _)
      (first
        | (refine step_appPs (by rfl) (.tmp 13) (.tmp 17) 28 (by rfl) w1.heap.size Try.underlying28 infoPrint _ [] (by rfl) (rowP_new w1.drew _ (Nat.le_refl _)) g 0 _ i (l.take i) LI.out.symm (Prs_take HP.out i) (by rfl) (PrAt_take (KP.out _ (by with_reducible assumption)) i) (by simp; omega) (by simp) ?_; intro v1 w6 hrow hgr hbk hat; have s7 := e2_grown hgr w1.heap.size hbk (by simp) (Nat.lt_of_succ_lt L2.out) L2.out HB1.out.size (by with_reducible assumption); have z7 : w1.heap.size ≤ w6.heap.size := Nat.le_trans (by simp) ((Below.refl w1.heap.size _).grown hgr (by simp) hbk).size; rw [List.nil_append] at hrow; obtain ⟨j1, c1, rfl, hj1, hj2⟩ := rowP_own hrow (own_ne hat))
        | (refine step_appPs (by rfl) (.tmp 18) (.tmp 23) 28 (by rfl) w1.heap.size Try.underlying28 infoPrint _ (l.take i) (by rfl) hrow g o2 _ (n - (i + 1)) (l.drop (i + 1)) LD.out (Prs_drop HP.out (i + 1)) (by rfl) (HAT.out _ (KP.out _ (by with_reducible assumption))) (by rw [LI.out]; omega) z7 ?_; intro v2 w8 hrow2 hgr2 hbk2 hat2; rw [← HLL.out] at hrow2; have s8 := e2_grown hgr2 w1.heap.size hbk2 z7 (Nat.lt_of_succ_lt L2.out) L2.out HB1.out.size (by with_reducible assumption); obtain ⟨j2, c2, rfl, hj3, hj4⟩ := rowP_own hrow2 (own_ne hat2))
        | (go_at_call 64; refine (KW.out _ j2 c2 (by with_reducible assumption) (by exact hrow2) (by exact hj4)).mono ?_; rintro e w10 ⟨v10, B10, rfl, hR10, hB10, s10⟩; obtain ⟨p10, c10, rfl⟩ := rowP_any hR10; obtain ⟨x1', x2', hX⟩ := s10.2.2.2; have r0 := bk2_0 hX; have r1 := bk2_1 hX; have rf0 := blk_f hX 0; have rf1 := blk_f hX 1))
    have HR := Lib.hid hR10
    have HX := Lib.hid hX
    have HS := Lib.hid s10.1
    have HDr : Hid (drL l i = L) := Lib.hid HLL.out.symm
    clear hrow hrow2 s7 s8 s10 hR10 hX r0 r1 rf0 rf1 s0 KW KP hgr hgr2 hbk hbk2 hat hat2
    go_wp2
    exact bodyPost_ret (results_ct rfl _ _ _ 30 _ _ _ rfl (bk2 HX.out) Try.underlying30 rfl szSheetI) rfl ⟨_, by rw [HV.out] <;> rfl, by rw [HV.out, HDr.out]; exact rowP_mono (rowP_far (rowP_far HR.out hB10 _) hB10 _) (by omega), below2 HS.out (Nat.le_succ _) _ _⟩
  · obtain ⟨CC, hCC⟩ : ∃ CC, CC = scV a l [x] := ⟨_, rfl⟩
    have HV : Hid (drV a l x = ((0, []), CC)) := Lib.hid (by simp [drV, hc, hCC])
    have HC := Lib.hid hCC.symm
    rw [← hCC] at hc
    have hcd : (CC != 0) = true := by rw [bne_iff_ne]; exact hc
    clear hCC
    go_enter Try.func39, Try.ntmps39
    go_upto_region 1 with fail
    generalize ((w.alloc (.cells #[.int .i8 a, .slice (some ⟨g, 0, none⟩) n c] 30)).alloc (.cells #[.int .i8 0, .slice none 0 0] 30)) = w0 at *
    go_wp2_with fail
    refine (l07Asked_c a ha _ n c l HP.out HN.out hm _ _ _ _ (HPS0.out _ KB.out) K0.out).mono ?_
    rintro e w1 ⟨rfl, hb1⟩
    rw [HC.out]
    have K11 := Lib.hid (heap_below hb1 (lt_of_heap K1.out) K1.out)
    have HB1 := Lib.hid (bt KB.out hb1)
    clear hb1 K0 K1 KB
    have d0 := bk2_0 K11.out
    have d1 := bk2_1 K11.out
    have f0 := blk_f K11.out 0
    have f1 := blk_f K11.out 1
    go_wp2
    exact bodyPost_ret (results_ct rfl _ _ _ 30 _ _ _ rfl (bk2 K11.out) Try.underlying30 rfl szSheetI) rfl ⟨.slice none 0 0, by rw [HV.out]; rfl, by rw [HV.out]; exact rowP_nil _ _, below2 HB1.out (Nat.le_succ _) _ _⟩
end Go.Proofs.Ytnbbbmnjbfehmaa
