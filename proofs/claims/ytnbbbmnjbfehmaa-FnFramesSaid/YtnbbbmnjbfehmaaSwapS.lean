/- SwapFrames: the reference. -/
import Derived.Test.YtnbbbmnjbfehmaaSwapI
import Derived.Test.YtnbbbmnjbfehmaaPlaceOf
namespace Go.Proofs.Ytnbbbmnjbfehmaa
open Go.RowKit Go.Lib
theorem scV2 (a : Int) (l : List (List Int)) (x y : Int) : scV a l [x, y] = if scV a l [x] = 0 then scV a l [y] else scV a l [x] := by
  unfold scV
  rw [okI_two, okI_one, okI_one]
  cases shB a l <;> cases inF l.length x <;> cases inF l.length y <;> simp
set_option maxHeartbeats 2000000 in
set_option maxRecDepth 100000 in
theorem specSwap_c (a : Int) (ha : -128 ≤ a ∧ a ≤ 127) (g n c : Nat) (l : List (List Int)) (hl : Prs l) (hn : n = l.length) (hm : n ≤ 1048576) (x y : Int) (w : World) (hg : PB w g l) :
    Calls Try.prog 35 #[.agg #[.int .i8 a, .slice (some ⟨g, 0, none⟩) n c], .int .i64 x, .int .i64 y] w fun e w' => ∃ v, e = .returned (.tuple #[.agg #[.int .i8 (swV a l x y).1.1, v], .int .i64 (swV a l x y).2]) ∧ RowP w' w.heap.size v (swV a l x y).1.2 ∧ Below w.heap.size w w' := by
  have HN := Lib.hid hn
  have HP := Lib.hid hl
  have HG := Lib.hid hg
  have K0 := Lib.hid (al2_0 w (.cells #[.int .i8 a, .slice (some ⟨g, 0, none⟩) n c] 30) (.cells #[.int .i8 0, .slice none 0 0] 30))
  have K1 := Lib.hid (al2_1 w (.cells #[.int .i8 a, .slice (some ⟨g, 0, none⟩) n c] 30) (.cells #[.int .i8 0, .slice none 0 0] 30))
  have KB := Lib.hid (bl2 w (.cells #[.int .i8 a, .slice (some ⟨g, 0, none⟩) n c] 30) (.cells #[.int .i8 0, .slice none 0 0] 30))
  have HS2 := Lib.hid (scV2 a l x y)
  have HPS0 : Hid (∀ w', Below w.heap.size w w' → PS w' (some ⟨g, 0, none⟩) l) := Lib.hid (fun w' hb => pb_PS (pb_below hb HG.out))
  clear hl hn hg
  by_cases hc : scV a l [x, y] = 0
  · obtain ⟨hsh, hx, hy⟩ := scV_zero2 hc
    have hc1 : scV a l [x] = 0 := by simp [scV, hsh, okI_one, hx]
    have hc2 : scV a l [y] = 0 := by simp [scV, hsh, okI_one, hy]
    obtain ⟨hx0, hx1⟩ := (inF_iff _ _).1 hx
    obtain ⟨hy0, hy1⟩ := (inF_iff _ _).1 hy
    obtain ⟨i, rfl⟩ := Int.eq_ofNat_of_zero_le hx0
    obtain ⟨k, rfl⟩ := Int.eq_ofNat_of_zero_le hy0
    have HV : Hid (swV a l i k = ((a, swL l i k), 0)) := Lib.hid (by simp [swV, hc])
    have HC1 := Lib.hid hc1
    have HC2 := Lib.hid hc2
    have hin : i < n := by rw [HN.out]; omega
    have hkn : k < n := by rw [HN.out]; omega
    have hii : (i : Int) < n := by omega
    have hki : (k : Int) < n := by omega
    clear hc hsh hx hy hx0 hx1 hy0 hy1 hc1 hc2
    go_enter Try.func35, Try.ntmps35
    go_upto_region 1 with fail
    generalize ((w.alloc (.cells #[.int .i8 a, .slice (some ⟨g, 0, none⟩) n c] 30)).alloc (.cells #[.int .i8 0, .slice none 0 0] 30)) = w0 at *
    go_wp2_with fail
    refine (l07Asked_c a ha _ n c l HP.out HN.out hm _ _ _ _ (HPS0.out _ KB.out) K0.out).mono ?_
    rintro e w1 ⟨rfl, hb1⟩
    rw [HC1.out]
    have K01 := Lib.hid (heap_below hb1 (lt_of_heap K0.out) K0.out)
    have K11 := Lib.hid (heap_below hb1 (lt_of_heap K1.out) K1.out)
    have HB1 := Lib.hid (bt KB.out hb1)
    clear hb1 K0 K1 KB
    go_wp2_with fail
    refine (l07Asked_c a ha _ n c l HP.out HN.out hm _ _ _ _ (HPS0.out _ HB1.out) K01.out).mono ?_
    rintro e w2 ⟨rfl, hb2⟩
    rw [HC2.out]
    have K02 := Lib.hid (heap_below hb2 (lt_of_heap K01.out) K01.out)
    have K12 := Lib.hid (heap_below hb2 (lt_of_heap K11.out) K11.out)
    have HB2 := Lib.hid (bt HB1.out hb2)
    clear hb2 K01 K11 HB1
    have c1 := bk2_1 K02.out
    go_wp2_with fail
    refine (l07With_c a _ _ 30 n c l HP.out HN.out (by omega) _ K02.out g 0 (pb_below HB2.out HG.out).2 (Nat.lt_of_lt_of_le HG.out.1 HB2.out.size)).mono ?_
    rintro e w3 ⟨v3, rfl, hR3, hb3⟩
    obtain ⟨gr, cap, rfl, hgr1, hgr2⟩ := World.ownsRow.form hR3 (by have := HN.out; omega)
    rw [← HN.out] at hR3 ⊢
    have HR3 := Lib.hid hR3
    have K03 := Lib.hid (heap_below hb3 (lt_of_heap K02.out) K02.out)
    have K13 := Lib.hid (heap_below hb3 (lt_of_heap K12.out) K12.out)
    have L2 : Hid (w.heap.size + 1 < w2.heap.size) := Lib.hid (lt_of_heap K12.out)
    have HB3 := Lib.hid (bt HB2.out hb3)
    clear c1 hb3 hR3 K02 K12 HB2
    go_upto_region 7 with fail
    have K97 := Lib.hid (al1_0 w3 (.cells #[.int .i8 a, .slice (some ⟨gr, 0, none⟩) n cap] 30))
    have K07 := Lib.hid (heap_below (bl1 w3 (.cells #[.int .i8 a, .slice (some ⟨gr, 0, none⟩) n cap] 30)) (lt_of_heap K03.out) K03.out)
    have K17 := Lib.hid (heap_below (bl1 w3 (.cells #[.int .i8 a, .slice (some ⟨gr, 0, none⟩) n cap] 30)) (lt_of_heap K13.out) K13.out)
    have HR7 := Lib.hid (rowP_below HR3.out (bl1 w3 (.cells #[.int .i8 a, .slice (some ⟨gr, 0, none⟩) n cap] 30)))
    have HB7 := Lib.hid (bt HB3.out (bl1 w3 (.cells #[.int .i8 a, .slice (some ⟨gr, 0, none⟩) n cap] 30)))
    have lgr : gr < w3.heap.size := rowP_lt HR3.out
    have lgl : w2.heap.size ≤ gr := (World.ownsRow.lt HR3.out gr rfl).1
    have lg := HG.out.1
    have hne1 : Hid (g ≠ gr) := Lib.hid (by have := L2.out; omega)
    have hne2 : Hid (w3.heap.size ≠ gr) := Lib.hid (by omega)
    have hne3 : Hid (w.heap.size ≠ gr) := Lib.hid (by have := L2.out; omega)
    have hne4 : Hid (w.heap.size + 1 ≠ gr) := Lib.hid (by have := L2.out; omega)
    have hge : Hid (w.heap.size ≤ gr) := Lib.hid (by have := L2.out; omega)
    have L3 : Hid (w.heap.size ≤ w2.heap.size) := Lib.hid (by have := L2.out; omega)
    have G7 := Lib.hid (pb_below HB7.out HG.out)
    clear lgr lgl lg K03 K13 HR3 HB3
    generalize w3.alloc (.cells #[.int .i8 a, .slice (some ⟨gr, 0, none⟩) n cap] 30) = w7 at *
    generalize w3.heap.size = k9 at *
    obtain ⟨qi, hqi⟩ : ∃ q, q = l.getD i [] := ⟨_, rfl⟩
    obtain ⟨qk, hqk⟩ : ∃ q, q = l.getD k [] := ⟨_, rfl⟩
    have HPqi : Hid (Pr qi) := Lib.hid (by rw [hqi]; exact HP.out i (by rw [← HN.out]; exact hin))
    have HPqk : Hid (Pr qk) := Lib.hid (by rw [hqk]; exact HP.out k (by rw [← HN.out]; exact hkn))
    have HQi := Lib.hid hqi
    have HQk := Lib.hid hqk
    clear hqi hqk
    have hu := Try.underlying45
    have hi1 : (Try.prog.info? 45).map (·.size) = some (cellsP qi).length := by rw [szPrint, cellsP_length, HPqi.out.1]
    have hi2 : (Try.prog.info? 45).map (·.size) = some (cellsP qk).length := by rw [szPrint, cellsP_length, HPqk.out.1]
    have hl1 : (cellsP qi).length = 64 := by rw [cellsP_length, HPqi.out.1]
    have hl2 : (cellsP qk).length = 64 := by rw [cellsP_length, HPqk.out.1]
    have ho1 : ∀ v ∈ cellsP qi, v.oneCell' = true := cellsP_one qi
    have ho2 : ∀ v ∈ cellsP qk, v.oneCell' = true := cellsP_one qk
    have HS7 : Hid (∀ (w' : World), (∀ b, b ≠ gr → w'.heap[b]? = w7.heap[b]?) → w'.there gr (i * 64) 64 → (w'.rangeAt g (k * 64) (cellsP qk) ∧ w'.cell? ⟨k9, 1, none⟩ = some (.slice (some ⟨gr, 0, none⟩) n cap) ∧ w'.cell? ⟨w.heap.size, 1, none⟩ = some (.slice (some ⟨g, 0, none⟩) n c) ∧ w'.there gr (i * 64) 64)) := Lib.hid (fun w' he ht => ⟨by
      have := (pb_apart (he g hne1.out) G7.out).2 k (by rw [← HN.out]; exact hkn)
      rw [Nat.zero_add] at this
      rw [HQk.out]; exact this, bk2_1 ((he k9 hne2.out).trans K97.out), bk2_1 ((he w.heap.size hne3.out).trans K07.out), ht⟩)
    have th7 : w7.drew.there gr (i * 64) 64 := rowP_there (rowP_below HR7.out (bl_drew (Below.refl _ w7))) i (by (try rw [List.length_set]); rw [← HN.out]; exact hin)
    go_region_held3 (fun w' => w'.rangeAt g (k * 64) (cellsP qk) ∧ w'.cell? ⟨k9, 1, none⟩ = some (.slice (some ⟨gr, 0, none⟩) n cap) ∧ w'.cell? ⟨w.heap.size, 1, none⟩ = some (.slice (some ⟨g, 0, none⟩) n c) ∧ w'.there gr (i * 64) 64)
      (first | (with_reducible assumption) | exact HS7.out _ (fun b hb => rfl) th7 | exact HS7.out _ (fun b hb => setCells_apart hb _ _ _) (World.there_setCells th7 _ _ _)) (fail)
    have HR8 := Lib.hid (rowP_set (rowP_below HR7.out (bl_drew (Below.refl _ w7))) HP.out (by (try rw [List.length_set]); rw [← HN.out]; exact hin) HPqk.out.1)
    have G8 := Lib.hid (pb_apart (setCells_apart hne1.out (cellsP qk) w7.drew (i * 64)) G7.out)
    have K98 := Lib.hid ((setCells_apart hne2.out (cellsP qk) w7.drew (i * 64)).trans K97.out)
    have K08 := Lib.hid ((setCells_apart hne3.out (cellsP qk) w7.drew (i * 64)).trans K07.out)
    have K18 := Lib.hid ((setCells_apart hne4.out (cellsP qk) w7.drew (i * 64)).trans K17.out)
    have HB8 := Lib.hid (bsc (g := gr) hge.out (cellsP qk) _ (i * 64) (bl_drew HB7.out))
    clear HS7 th7
    try simp only
    generalize w7.drew.setCells gr (i * 64) (cellsP qk) = w8 at *
    go_upto_region 8 with fail
    have HS8 : Hid (∀ (w' : World), (∀ b, b ≠ gr → w'.heap[b]? = w8.heap[b]?) → w'.there gr (k * 64) 64 → (w'.rangeAt g (i * 64) (cellsP qi) ∧ w'.cell? ⟨k9, 1, none⟩ = some (.slice (some ⟨gr, 0, none⟩) n cap) ∧ w'.cell? ⟨w.heap.size, 1, none⟩ = some (.slice (some ⟨g, 0, none⟩) n c) ∧ w'.there gr (k * 64) 64)) := Lib.hid (fun w' he ht => ⟨by
      have := (pb_apart (he g hne1.out) G8.out).2 i (by rw [← HN.out]; exact hin)
      rw [Nat.zero_add] at this
      rw [HQi.out]; exact this, bk2_1 ((he k9 hne2.out).trans K98.out), bk2_1 ((he w.heap.size hne3.out).trans K08.out), ht⟩)
    have th8 : w8.drew.there gr (k * 64) 64 := rowP_there (rowP_below HR8.out (bl_drew (Below.refl _ w8))) k (by (try rw [List.length_set]); rw [← HN.out]; exact hkn)
    go_region_held3 (fun w' => w'.rangeAt g (i * 64) (cellsP qi) ∧ w'.cell? ⟨k9, 1, none⟩ = some (.slice (some ⟨gr, 0, none⟩) n cap) ∧ w'.cell? ⟨w.heap.size, 1, none⟩ = some (.slice (some ⟨g, 0, none⟩) n c) ∧ w'.there gr (k * 64) 64)
      (first | (with_reducible assumption) | exact HS8.out _ (fun b hb => rfl) th8 | exact HS8.out _ (fun b hb => setCells_apart hb _ _ _) (World.there_setCells th8 _ _ _)) (fail)
    have HR9 := Lib.hid (rowP_set (rowP_below HR8.out (bl_drew (Below.refl _ w8))) (Prs_set i HP.out HPqk.out) (by (try rw [List.length_set]); rw [← HN.out]; exact hkn) HPqi.out.1)
    have G9 := Lib.hid (pb_apart (setCells_apart hne1.out (cellsP qi) w8.drew (k * 64)) G8.out)
    have K99 := Lib.hid ((setCells_apart hne2.out (cellsP qi) w8.drew (k * 64)).trans K98.out)
    have K09 := Lib.hid ((setCells_apart hne3.out (cellsP qi) w8.drew (k * 64)).trans K08.out)
    have K19 := Lib.hid ((setCells_apart hne4.out (cellsP qi) w8.drew (k * 64)).trans K18.out)
    have HB9 := Lib.hid (bsc (g := gr) hge.out (cellsP qi) _ (k * 64) (bl_drew HB8.out))
    clear HS8 th8
    try simp only
    generalize w8.drew.setCells gr (k * 64) (cellsP qi) = w9 at *
    have HSw : Hid ((l.set i qk).set k qi = swL l i k) := Lib.hid (by rw [swL, HQi.out, HQk.out])
    have c0 := bk2_0 K99.out
    have c1 := bk2_1 K99.out
    have d0 := bk2_0 K19.out
    have d1 := bk2_1 K19.out
    have f0 := blk_f K19.out 0
    have f1 := blk_f K19.out 1
    clear hu hi1 hi2 hl1 hl2 ho1 ho2
    go_wp2
    exact bodyPost_ret (results_ct rfl _ _ _ 30 _ _ _ rfl (bk2 K19.out) Try.underlying30 rfl szSheetI) rfl ⟨_, by rw [HV.out] <;> rfl, by rw [HV.out, ← HSw.out]; exact rowP_mono (rowP_far (rowP_far HR9.out L2.out _) L2.out _) L3.out, below2 HB9.out (Nat.le_succ _) _ _⟩
  · obtain ⟨CC, hCC⟩ : ∃ CC, CC = scV a l [x, y] := ⟨_, rfl⟩
    have HV : Hid (swV a l x y = ((0, []), CC)) := Lib.hid (by simp [swV, hc, hCC])
    have hs2 := HS2.out
    rw [← hCC] at hc hs2
    have hcd : (CC != 0) = true := by rw [bne_iff_ne]; exact hc
    clear hCC
    by_cases h1 : scV a l [x] = 0
    · rw [if_pos h1] at hs2
      have HC1 := Lib.hid h1
      have HC2 := Lib.hid hs2.symm
      clear h1 hs2 HS2
      go_enter Try.func35, Try.ntmps35
      go_upto_region 1 with fail
      generalize ((w.alloc (.cells #[.int .i8 a, .slice (some ⟨g, 0, none⟩) n c] 30)).alloc (.cells #[.int .i8 0, .slice none 0 0] 30)) = w0 at *
      go_wp2_with fail
      refine (l07Asked_c a ha _ n c l HP.out HN.out hm _ _ _ _ (HPS0.out _ KB.out) K0.out).mono ?_
      rintro e w1 ⟨rfl, hb1⟩
      rw [HC1.out]
      have K01 := Lib.hid (heap_below hb1 (lt_of_heap K0.out) K0.out)
      have K11 := Lib.hid (heap_below hb1 (lt_of_heap K1.out) K1.out)
      have HB1 := Lib.hid (bt KB.out hb1)
      clear hb1 K0 K1 KB
      go_wp2_with fail
      refine (l07Asked_c a ha _ n c l HP.out HN.out hm _ _ _ _ (HPS0.out _ HB1.out) K01.out).mono ?_
      rintro e w2 ⟨rfl, hb2⟩
      rw [HC2.out]
      have K1f := Lib.hid (heap_below hb2 (lt_of_heap K11.out) K11.out)
      have HBf := Lib.hid (bt HB1.out hb2)
      clear hb2 K01 K11 HB1
      have d0 := bk2_0 K1f.out
      have d1 := bk2_1 K1f.out
      have f0 := blk_f K1f.out 0
      have f1 := blk_f K1f.out 1
      go_wp2
      exact bodyPost_ret (results_ct rfl _ _ _ 30 _ _ _ rfl (bk2 K1f.out) Try.underlying30 rfl szSheetI) rfl ⟨.slice none 0 0, by rw [HV.out]; rfl, by rw [HV.out]; exact rowP_nil _ _, below2 HBf.out (Nat.le_succ _) _ _⟩
    · rw [if_neg h1] at hs2
      have HC1 := Lib.hid hs2.symm
      have hce : (CC == 0) = false := by rw [beq_eq_false_iff_ne]; exact hc
      clear h1 hs2 HS2
      go_enter Try.func35, Try.ntmps35
      go_upto_region 1 with fail
      generalize ((w.alloc (.cells #[.int .i8 a, .slice (some ⟨g, 0, none⟩) n c] 30)).alloc (.cells #[.int .i8 0, .slice none 0 0] 30)) = w0 at *
      go_wp2_with fail
      refine (l07Asked_c a ha _ n c l HP.out HN.out hm _ _ _ _ (HPS0.out _ KB.out) K0.out).mono ?_
      rintro e w1 ⟨rfl, hb1⟩
      rw [HC1.out]
      have K1f := Lib.hid (heap_below hb1 (lt_of_heap K1.out) K1.out)
      have HBf := Lib.hid (bt KB.out hb1)
      clear hb1 K0 K1 KB
      have d0 := bk2_0 K1f.out
      have d1 := bk2_1 K1f.out
      have f0 := blk_f K1f.out 0
      have f1 := blk_f K1f.out 1
      go_wp2
      exact bodyPost_ret (results_ct rfl _ _ _ 30 _ _ _ rfl (bk2 K1f.out) Try.underlying30 rfl szSheetI) rfl ⟨.slice none 0 0, by rw [HV.out]; rfl, by rw [HV.out]; exact rowP_nil _ _, below2 HBf.out (Nat.le_succ _) _ _⟩
end Go.Proofs.Ytnbbbmnjbfehmaa
