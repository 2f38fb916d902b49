/- DropFrame: the program. -/
import Derived.Test.YtnbbbmnjbfehmaaDelP
import Derived.Test.YtnbbbmnjbfehmaaSwapI
namespace Go.Proofs.Ytnbbbmnjbfehmaa
open Go.RowKit Go.Lib
def drL (l : List (List Int)) (i : Nat) : List (List Int) := l.take i ++ l.drop (i + 1)
def drV (a : Int) (l : List (List Int)) (x : Int) : (Int × List (List Int)) × Int := if scV a l [x] = 0 then ((a, drL l x.toNat), 0) else ((0, []), scV a l [x])
theorem scV_zero1 {a : Int} {l : List (List Int)} {x : Int} (h : scV a l [x] = 0) : shB a l = true ∧ inF l.length x = true := by
  unfold scV at h
  rw [okI_one] at h
  cases h1 : shB a l <;> cases h2 : inF l.length x <;> simp [h1, h2] at h ⊢
abbrev D2 (w0 : World) (gs gr g : Nat) (a : Int) (n c : Nat) (w : World) : Prop := Below w0.heap.size w0 w ∧ (w.cell? ⟨gs, 0, none⟩ = some (.int .i8 a) ∧ w.cell? ⟨gs, 1, none⟩ = some (.slice (some ⟨g, 0, none⟩) n c)) ∧ ∃ x1 x2, w.heap[gr]? = some (.cells #[x1, x2] 30 (0, 0))
theorem d2_drew {w0 w : World} {gs gr g n c : Nat} {a : Int} (h : D2 w0 gs gr g a n c w) : D2 w0 gs gr g a n c w.drew := ⟨bl_drew h.1, h.2⟩
theorem d2_next {w0 w w1 : World} {gs gr g n c : Nat} {a : Int} {B : Nat} (hb : Below B w w1) (h1 : gs < B) (h2 : gr < B) (h3 : w0.heap.size ≤ B) (h : D2 w0 gs gr g a n c w) : D2 w0 gs gr g a n c w1 := by
  obtain ⟨h0, ⟨c0, c1⟩, x1, x2, hr⟩ := h
  exact ⟨h0.trans (hb.mono h3), ⟨(hb.cell (p := ⟨gs, 0, none⟩) h1).trans c0, (hb.cell (p := ⟨gs, 1, none⟩) h1).trans c1⟩, x1, x2, heap_below hb h2 hr⟩
theorem d2_store {w0 w : World} {gs gr g n c : Nat} {a : Int} (h : D2 w0 gs gr g a n c w) (hn : gr ≠ gs) (hb : w0.heap.size ≤ gr) (x y : Value) : D2 w0 gs gr g a n c ((w.setCell ⟨gr, 0, none⟩ x).setCell ⟨gr, 1, none⟩ y) := by
  obtain ⟨h0, ⟨c0, c1⟩, x1, x2, h2⟩ := h
  refine ⟨below2 h0 hb x y, ⟨?_, ?_⟩, x, y, bk2 h2⟩
  · rw [World.cell?_setCell_other _ _ _ _ (by simp), World.cell?_setCell_other _ _ _ _ (by simp)]; exact c0
  · rw [World.cell?_setCell_other _ _ _ _ (by simp), World.cell?_setCell_other _ _ _ _ (by simp)]; exact c1
theorem d2_gr {w0 w : World} {gs gr g n c : Nat} {a : Int} (h : D2 w0 gs gr g a n c w) : gs < w.heap.size ∧ gr < w.heap.size := by
  obtain ⟨h0, ⟨c0, c1⟩, x1, x2, hr⟩ := h
  exact ⟨World.block_lt_of_cell? w _ c0, lt_of_heap hr⟩
set_option maxHeartbeats 2000000 in
set_option maxRecDepth 100000 in
theorem implDrop_c (a : Int) (ha : -128 ≤ a ∧ a ≤ 127) (g n c : Nat) (l : List (List Int)) (hl : Prs l) (hn : n = l.length) (hm : n ≤ 1048576) (x : Int) (w : World) (hg : PB w g l) :
    Calls Try.prog 40 #[.agg #[.int .i8 a, .slice (some ⟨g, 0, none⟩) n c], .int .i64 x] w fun e w' => ∃ v, e = .returned (.tuple #[.agg #[.int .i8 (drV a l x).1.1, v], .int .i64 (drV a l x).2]) ∧ RowP w' w.heap.size v (drV a l x).1.2 ∧ Below w.heap.size w w' := by
  have HN := Lib.hid hn
  have HP := Lib.hid hl
  have HG := Lib.hid hg
  have K0 := Lib.hid (al2_0 w (.cells #[.int .i8 a, .slice (some ⟨g, 0, none⟩) n c] 30) (.cells #[.int .i8 0, .slice none 0 0] 30))
  have K1 := Lib.hid (al2_1 w (.cells #[.int .i8 a, .slice (some ⟨g, 0, none⟩) n c] 30) (.cells #[.int .i8 0, .slice none 0 0] 30))
  have KB := Lib.hid (bl2 w (.cells #[.int .i8 a, .slice (some ⟨g, 0, none⟩) n c] 30) (.cells #[.int .i8 0, .slice none 0 0] 30))
  clear hl hn hg
  by_cases hc : scV a l [x] = 0
  · obtain ⟨hsh, hx⟩ := scV_zero1 hc
    obtain ⟨hx0, hx1⟩ := (inF_iff _ _).1 hx
    obtain ⟨i, rfl⟩ := Int.eq_ofNat_of_zero_le hx0
    have HV : Hid (drV a l i = ((a, drL l i), 0)) := Lib.hid (by simp [drV, hc])
    have HC := Lib.hid hc
    have hin : i < n := by rw [HN.out]; omega
    have hii : (i : Int) < n := by omega
    have hi1 : IntKind.i64.wrap ((i : Int) + 1) = (i : Int) + 1 := Go.IntWalk.i64_in _ (by omega)
    clear hc hsh hx hx0 hx1
    go_enter Try.func40, Try.ntmps40
    go_upto_region 1 with fail
    generalize ((w.alloc (.cells #[.int .i8 a, .slice (some ⟨g, 0, none⟩) n c] 30)).alloc (.cells #[.int .i8 0, .slice none 0 0] 30)) = w0 at *
    have c0 := bk2_0 K0.out
    have c1 := bk2_1 K0.out
    go_wp2_with fail
    have HPS : Hid (PS w0 (some ⟨g, 0, none⟩) l) := Lib.hid (pb_PS (pb_below KB.out HG.out))
    refine (sheetCode_c a ha _ n c l HP.out HN.out hm _ 1 1 [(i : Int)] rfl (by omega) _ (PS_below (bl1 _ _) HPS.out) (PI_block (al1_0 _ _))).mono ?_
    rintro e w1 ⟨rfl, hb1⟩
    rw [HC.out]
    have hb1' := bt (bl1 w0 _) hb1
    have K01 := Lib.hid (heap_below hb1' (lt_of_heap K0.out) K0.out)
    have K11 := Lib.hid (heap_below hb1' (lt_of_heap K1.out) K1.out)
    have HB1 := Lib.hid (bt KB.out hb1')
    have HG1 := Lib.hid (pb_below HB1.out HG.out)
    clear hb1 hb1' c0 c1 K0 K1 KB HPS
    go_upto_region 4 with fail
    have s0 : D2 w w.heap.size (w.heap.size + 1) g a n c w1 := ⟨HB1.out, ⟨bk2_0 K01.out, bk2_1 K01.out⟩, _, _, K11.out⟩
    have L2 : Hid (w.heap.size + 1 < w1.heap.size) := Lib.hid (lt_of_heap K11.out)
    clear K01 K11
    have hlen : 0 < l.length := by have := HN.out; omega
    have HLn := Lib.hid hlen
    clear hlen
    have KK : Hid (∀ w' : World, D2 w w.heap.size (w.heap.size + 1) g a n c w' → PB w' g l) := Lib.hid fun w' h => pb_below h.1 HG.out
    have KC : Hid (∀ w' : World, D2 w w.heap.size (w.heap.size + 1) g a n c w' → Calls Try.prog 65 #[.slice (some ⟨g, 0, none⟩) n c] w' fun e w'' => ∃ g9 cap9 base, e = .returned (.slice (some ⟨g9, 0, none⟩) n cap9) ∧ RowP w'' base (.slice (some ⟨g9, 0, none⟩) n cap9) l ∧ w.heap.size + 1 < base ∧ D2 w w.heap.size (w.heap.size + 1) g a n c w'') := Lib.hid fun w' h => by
      refine (clone_c g n c l HP.out HN.out hm _ (KK.out _ h)).mono ?_
      rintro e w9 ⟨v9, rfl, hR9, hb9⟩
      obtain ⟨g9, cap9, rfl, hg91, hg92⟩ := World.ownsRow.form hR9 HLn.out
      rw [← HN.out] at hR9 ⊢
      exact ⟨g9, cap9, w'.heap.size, rfl, hR9, (d2_gr h).2, d2_next hb9 (d2_gr h).1 (d2_gr h).2 h.1.size h⟩
    have KD : Hid (∀ (w' : World) (g9 cap9 base : Nat), D2 w w.heap.size (w.heap.size + 1) g a n c w' → RowP w' base (.slice (some ⟨g9, 0, none⟩) n cap9) l → w.heap.size + 1 < base → Calls Try.prog 68 #[.slice (some ⟨g9, 0, none⟩) n cap9, .int .i64 i, .int .i64 ((i : Int) + 1)] w' fun e w'' => e = .returned (.slice (some ⟨g9, 0, none⟩) (n - 1) cap9) ∧ RowP w'' base (.slice (some ⟨g9, 0, none⟩) (n - 1) cap9) (drL l i) ∧ D2 w w.heap.size (w.heap.size + 1) g a n c w'') := Lib.hid fun w' g9 cap9 base h hR hbs => by
      refine (delete_c base g9 cap9 i n l HP.out HN.out hin hm _ hR).mono ?_
      rintro e w9 ⟨rfl, hR9, hb9⟩
      exact ⟨rfl, hR9, d2_next hb9 (by omega) hbs (by omega) h⟩
    go_region_held3 (fun w' => D2 w w.heap.size (w.heap.size + 1) g a n c w')
      (first | (with_reducible assumption) | exact d2_drew s0 | exact d2_store (by assumption) (by omega) (by omega) _ _)
      (first
        | (go_at_call 65; refine (KC.out _ (by with_reducible assumption)).mono ?_; rintro e w9 ⟨g9, cap9, base, rfl, hR9, q9, s9⟩)
        | (go_at_call 68; refine (KD.out _ g9 cap9 base (by with_reducible assumption) (by first | exact hR9 | assumption) q9).mono ?_; rintro e w10 ⟨rfl, hR10, s10⟩; obtain ⟨x1', x2', hX⟩ := s10.2.2; have r0 := bk2_0 hX; have r1 := bk2_1 hX; have rf0 := blk_f hX 0; have rf1 := blk_f hX 1))
    have HR := Lib.hid hR10
    have HX := Lib.hid hX
    have HS := Lib.hid s10.1
    clear hR9 s9 s10 hR10 hX r0 r1 rf0 rf1 s0 KC KD KK
    go_wp2
    exact bodyPost_ret (results_ct rfl _ _ _ 30 _ _ _ rfl (bk2 HX.out) Try.underlying30 rfl szSheetI) rfl ⟨_, by rw [HV.out] <;> rfl, by rw [HV.out]; exact rowP_mono (rowP_far (rowP_far HR.out q9 _) q9 _) (by omega), below2 HS.out (Nat.le_succ _) _ _⟩
  · obtain ⟨CC, hCC⟩ : ∃ CC, CC = scV a l [x] := ⟨_, rfl⟩
    have HV : Hid (drV a l x = ((0, []), CC)) := Lib.hid (by simp [drV, hc, hCC])
    have HC := Lib.hid hCC.symm
    rw [← hCC] at hc
    have hcd : (CC != 0) = true := by rw [bne_iff_ne]; exact hc
    clear hCC
    go_enter Try.func40, Try.ntmps40
    go_upto_region 1 with fail
    generalize ((w.alloc (.cells #[.int .i8 a, .slice (some ⟨g, 0, none⟩) n c] 30)).alloc (.cells #[.int .i8 0, .slice none 0 0] 30)) = w0 at *
    have c0 := bk2_0 K0.out
    have c1 := bk2_1 K0.out
    go_wp2_with fail
    have HPS : Hid (PS w0 (some ⟨g, 0, none⟩) l) := Lib.hid (pb_PS (pb_below KB.out HG.out))
    refine (sheetCode_c a ha _ n c l HP.out HN.out hm _ 1 1 [x] rfl (by omega) _ (PS_below (bl1 _ _) HPS.out) (PI_block (al1_0 _ _))).mono ?_
    rintro e w1 ⟨rfl, hb1⟩
    rw [HC.out]
    have hb1' := bt (bl1 w0 _) hb1
    have K11 := Lib.hid (heap_below hb1' (lt_of_heap K1.out) K1.out)
    have HB1 := Lib.hid (bt KB.out hb1')
    clear hb1 hb1' c0 c1 K0 K1 KB
    have d0 := bk2_0 K11.out
    have d1 := bk2_1 K11.out
    have f0 := blk_f K11.out 0
    have f1 := blk_f K11.out 1
    go_wp2
    exact bodyPost_ret (results_ct rfl _ _ _ 30 _ _ _ rfl (bk2 K11.out) Try.underlying30 rfl szSheetI) rfl ⟨.slice none 0 0, by rw [HV.out]; rfl, by rw [HV.out]; exact rowP_nil _ _, below2 HB1.out (Nat.le_succ _) _ _⟩
end Go.Proofs.Ytnbbbmnjbfehmaa
