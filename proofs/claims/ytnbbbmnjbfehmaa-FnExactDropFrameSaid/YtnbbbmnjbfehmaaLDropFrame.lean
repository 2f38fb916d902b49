/- DropFrame: the law's walk. -/
import Derived.Test.YtnbbbmnjbfehmaaHeld
import Derived.Test.YtnbbbmnjbfehmaaDropS
import Derived.Deep.RegionHeld3
namespace Go.Proofs.Ytnbbbmnjbfehmaa
open Go.RowKit Go.Lib
theorem drV_Prs {a : Int} {l : List (List Int)} {x : Int} (hl : Prs l) : Prs (drV a l x).1.2 ∧ (drV a l x).1.2.length ≤ 12 := by
  unfold drV
  split
  · rename_i h
    obtain ⟨h1, h2⟩ := scV_zero1 h
    obtain ⟨_, _, h4, _⟩ := shB_get h1
    refine ⟨Prs_del hl _, ?_⟩
    simp only [drL, List.length_append, List.length_take, List.length_drop]
    omega
  · exact ⟨fun i hi => by simp at hi, by simp⟩
set_option linter.unusedVariables false in
set_option maxHeartbeats 4000000 in
set_option maxRecDepth 100000 in
theorem lawDropFrame_c (a : Int) (ha : -128 ≤ a ∧ a ≤ 127) (p : Option Addr) (n c : Nat) (l : List (List Int)) (hl : Prs l) (hn : n = l.length) (hz : n ≤ 9223372036854775807) (x : Int) (bd_x : -9223372036854775808 ≤ x ∧ x ≤ 9223372036854775807) (w : World) (hp : PS w p l) :
    Calls Try.prog 11 #[.agg #[.int .i8 a, .slice p n c], .int .i64 x] w fun e w' => e = .returned (.bool true) ∧ Below w.heap.size w w' := by
  have HN := Lib.hid hn
  have HA := Lib.hid hp
  have HP := Lib.hid hl
  have HAA := Lib.hid ha
  clear hn hp hl ha
  have H0 := Lib.hid (al1_0 w (.cells #[.int .i8 a, .slice p n c] 25))
  have B0 := Lib.hid (bl1 w (.cells #[.int .i8 a, .slice p n c] 25))
  by_cases hm : 1048576 < n
  · go_enter Try.func11, Try.ntmps11
    go_wp2_with fail
    refine (szSheet_c a p n c hz _).mono ?_
    rintro e w1 ⟨rfl, hb1⟩
    rw [if_pos hm]
    have B1 := Lib.hid (bt B0.out hb1)
    clear hb1
    go_wp2
    go_ret
    exact ⟨rfl, B1.out⟩
  · have hm' : n ≤ 1048576 := by omega
    have h1 : 0 ≤ (1048576 : Int) - n := by omega
    obtain ⟨hPr, hL12⟩ := drV_Prs (a := a) (x := x) HP.out
    obtain ⟨r1, L, code, hv⟩ : ∃ r1 L code, drV a l x = ((r1, L), code) := ⟨_, _, _, rfl⟩
    rw [hv] at hPr hL12
    have HV := Lib.hid hv
    have HL := Lib.hid hPr
    obtain ⟨nL, hnL⟩ : ∃ nL, nL = L.length := ⟨_, rfl⟩
    have hnL12 : nL ≤ 12 := by rw [hnL]; exact hL12
    have HNL := Lib.hid hnL
    clear hv hPr hL12 hnL
    go_enter Try.func11, Try.ntmps11
    go_wp2_with fail
    refine (szSheet_c a p n c hz _).mono ?_
    rintro e w1 ⟨rfl, hb1⟩
    rw [if_neg hm]
    have B1 := Lib.hid (bt B0.out hb1)
    have K1 := Lib.hid (held_below hb1 (held_cons H0.out (held_nil _)))
    have c0 := bk2_0 (held_head K1.out)
    have c1 := bk2_1 (held_head K1.out)
    clear hb1
    go_wp2_with fail
    refine (toSheet_c a p n c l HP.out HN.out hm' _ (PS_below B1.out HA.out)).mono ?_
    rintro e w2 ⟨rfl, hf2, hb2⟩
    have F2 := Lib.hid hf2
    have B2 := Lib.hid (bt B1.out hb2)
    have K2 := Lib.hid (held_below hb2 K1.out)
    clear hb2 hf2 c0 c1
    go_wp2_with fail
    refine (specDrop_c a HAA.out _ n l HP.out HN.out hm' x _ F2.out).mono ?_
    rintro e w4 ⟨v0, rfl, hR0, hb4⟩
    rw [HV.out] at hR0 ⊢
    simp only at hR0 ⊢
    obtain ⟨p0, c0, hv0⟩ := rowP_any hR0
    rw [← HNL.out] at hv0
    subst hv0
    have R4 := Lib.hid hR0
    have B4 := Lib.hid (bt B2.out hb4)
    have K4 := Lib.hid (held_below hb4 K2.out)
    have HO0 : Hid (∀ g, (Value.slice p0 nL c0).ownBlock = some g → g < w4.heap.size) := Lib.hid (fun g hg => (World.ownsRow.lt hR0 g hg).2)
    clear hb4 F2 hR0
    go_upto_region 6 with fail
    have K5 := Lib.hid (held_cons (al1_0 w4 (.cells #[.int .i8 r1, .slice p0 nL c0] 30)) (held_below (bl1 w4 (.cells #[.int .i8 r1, .slice p0 nL c0] 30)) K4.out))
    have R5 := Lib.hid (rowP_below R4.out (bl1 w4 (.cells #[.int .i8 r1, .slice p0 nL c0] 30)))
    have B5 := Lib.hid (bt B4.out (bl1 w4 (.cells #[.int .i8 r1, .slice p0 nL c0] 30)))
    have LH : Hid (w.heap.size < w4.heap.size) := Lib.hid (lt_of_heap (held_head K4.out))
    generalize w4.alloc (.cells #[.int .i8 r1, .slice p0 nL c0] 30) = w5 at *
    generalize w4.heap.size = k6 at *
    have L6 : Hid (k6 < w5.heap.size + 1 + 1 + 1) := Lib.hid (by have := lt_of_heap (held_head K5.out); omega)
    have e0 := bk2_0 (held_head (held_tail K5.out))
    have e1 := bk2_1 (held_head (held_tail K5.out))
    clear R4 B4 K4
    go_wp2_with fail
    refine (toSheet_c a p n c l HP.out HN.out hm' _ (PS_below B5.out HA.out)).mono ?_
    rintro e w6 ⟨rfl, hf6, hb6⟩
    have F6 := Lib.hid hf6
    have K6 := Lib.hid (held_below hb6 K5.out)
    have R6 := Lib.hid (rowP_below R5.out hb6)
    have B6 := Lib.hid (bt B5.out hb6)
    clear hb6 hf6 e0 e1 K5 R5 B5
    generalize w5.heap.size + 1 + 1 + 1 = g8 at *
    go_upto_region 7 with fail
    have K8 := Lib.hid (held_cons (al1_0 w6 (.cells #[.int .i8 a, .slice (some ⟨g8, 0, none⟩) n n] 30)) (held_below (bl1 w6 (.cells #[.int .i8 a, .slice (some ⟨g8, 0, none⟩) n n] 30)) K6.out))
    have R8 := Lib.hid (rowP_below R6.out (bl1 w6 (.cells #[.int .i8 a, .slice (some ⟨g8, 0, none⟩) n n] 30)))
    have F8 := Lib.hid (heap_below (bl1 w6 (.cells #[.int .i8 a, .slice (some ⟨g8, 0, none⟩) n n] 30)) (lt_of_heap F6.out) F6.out)
    have B8 := Lib.hid (bt B6.out (bl1 w6 (.cells #[.int .i8 a, .slice (some ⟨g8, 0, none⟩) n n] 30)))
    have L8 : Hid (g8 < w6.heap.size) := Lib.hid (lt_of_heap F6.out)
    generalize w6.alloc (.cells #[.int .i8 a, .slice (some ⟨g8, 0, none⟩) n n] 30) = w8 at *
    generalize w6.heap.size = k8 at *
    have L9 : Hid (k8 < w8.heap.size) := Lib.hid (lt_of_heap (held_head K8.out))
    clear R6 B6 K6 F6
    have e0 := bk2_0 (held_head K8.out)
    have e1 := bk2_1 (held_head K8.out)
    go_wp2_with fail
    refine (implDrop_c a HAA.out _ n l HP.out HN.out hm' x _ F8.out).mono ?_
    rintro e w9 ⟨v1, rfl, hR1, hb9⟩
    rw [HV.out] at hR1 ⊢
    simp only at hR1 ⊢
    obtain ⟨p1, c1, hv1⟩ := rowP_any hR1
    rw [← HNL.out] at hv1
    subst hv1
    have S9 := Lib.hid hR1
    have K9 := Lib.hid (held_below hb9 K8.out)
    have R9 := Lib.hid (rowP_below R8.out hb9)
    have F9 := Lib.hid (heap_below hb9 (lt_of_heap F8.out) F8.out)
    have B9 := Lib.hid (bt B8.out hb9)
    have L11 : Hid (w8.heap.size ≤ w9.heap.size) := Lib.hid hb9.size
    clear hb9 hR1 K8 R8 F8 B8 e0 e1
    generalize w8.heap.size = b1 at *
    go_upto_region 8 with fail
    have K10 := Lib.hid (held_cons (al1_0 w9 (.cells #[.int .i8 r1, .slice p1 nL c1] 30)) (held_below (bl1 w9 (.cells #[.int .i8 r1, .slice p1 nL c1] 30)) K9.out))
    have R10 := Lib.hid (rowP_below R9.out (bl1 w9 (.cells #[.int .i8 r1, .slice p1 nL c1] 30)))
    have S10 := Lib.hid (rowP_below S9.out (bl1 w9 (.cells #[.int .i8 r1, .slice p1 nL c1] 30)))
    have F10 := Lib.hid (heap_below (bl1 w9 (.cells #[.int .i8 r1, .slice p1 nL c1] 30)) (lt_of_heap F9.out) F9.out)
    have B10 := Lib.hid (bt B9.out (bl1 w9 (.cells #[.int .i8 r1, .slice p1 nL c1] 30)))
    have HO1 : Hid (∀ g, (Value.slice p1 nL c1).ownBlock = some g → b1 ≤ g ∧ g < w9.heap.size) := Lib.hid (fun g hg => World.ownsRow.lt S9.out g hg)
    generalize w9.alloc (.cells #[.int .i8 r1, .slice p1 nL c1] 30) = w10 at *
    generalize w9.heap.size = k10 at *
    clear K9 R9 S9 F9 B9
    have a0 := bk2_0 (held_head K10.out)
    have a1 := bk2_1 (held_head K10.out)
    have b0 := bk2_0 (held_head (held_tail (held_tail K10.out)))
    have b1' := bk2_1 (held_head (held_tail (held_tail K10.out)))
    have hneq : (code != code) = false := by simp
    go_wp2_with fail
    refine (eqSheet_ps r1 p1 p0 nL c1 c0 L HL.out HNL.out (by omega) _ (rowP_ps S10.out HL.out) (rowP_ps R10.out HL.out)).mono ?_
    rintro e w11 ⟨rfl, hb11⟩
    have K11 := Lib.hid (held_below hb11 K10.out)
    have R11 := Lib.hid (rowP_below R10.out hb11)
    have S11 := Lib.hid (rowP_below S10.out hb11)
    have F11 := Lib.hid (heap_below hb11 (lt_of_heap F10.out) F10.out)
    have B11 := Lib.hid (bt B10.out hb11)
    clear K10 R10 S10 F10 B10
    clear hb11 a0 a1 b0 b1'
    go_upto_region 10 with fail
    have KK : Hid (∀ w', Below w11.heap.size w11 w' → (Below w11.heap.size w11 w' ∧ (w'.cell? ⟨k8, 0, none⟩ = some (.int .i8 a) ∧ w'.cell? ⟨k8, 1, none⟩ = some (.slice (some ⟨g8, 0, none⟩) n n)) ∧ (w'.cell? ⟨w.heap.size, 0, none⟩ = some (.int .i8 a) ∧ w'.cell? ⟨w.heap.size, 1, none⟩ = some (.slice p n c)))) := Lib.hid fun w' hb => by
      have t0 := held_below hb K11.out
      have t1 := held_head (held_tail t0)
      have t2 := held_head (held_tail (held_tail (held_tail t0)))
      exact ⟨hb, ⟨bk2_0 t1, bk2_1 t1⟩, bk2_0 t2, bk2_1 t2⟩
    have s0 := KK.out _ (Below.refl _ _)
    go_region_held3 (fun w' => Below w11.heap.size w11 w' ∧ (w'.cell? ⟨k8, 0, none⟩ = some (.int .i8 a) ∧ w'.cell? ⟨k8, 1, none⟩ = some (.slice (some ⟨g8, 0, none⟩) n n)) ∧ (w'.cell? ⟨w.heap.size, 0, none⟩ = some (.int .i8 a) ∧ w'.cell? ⟨w.heap.size, 1, none⟩ = some (.slice p n c)))
      (first | (with_reducible assumption) | exact KK.out _ (bl_drew (Below.refl _ _)) | exact KK.out _ (bl_drew (‹Below w11.heap.size w11 _ ∧ _›).1))
      (first
        | (go_at_call 16; refine (toSheet_c a p n c l HP.out HN.out hm' _ (PS_below (bt B11.out (‹Below w11.heap.size w11 _ ∧ _›).1) HA.out)).mono ?_; rintro e w13 ⟨rfl, hf13, hb13⟩; have s13 := KK.out _ (bt (‹Below w11.heap.size w11 _ ∧ _›).1 hb13))
        | (go_at_call 18; refine (eqSheet_same a g8 _ n n n l HP.out HN.out hm' _ (heap_below (‹Below w11.heap.size w11 _ ∧ _›).1 (lt_of_heap F11.out) F11.out) (by assumption)).mono ?_; rintro e w14 ⟨rfl, hb14⟩; have s14 := KK.out _ (bt (‹Below w11.heap.size w11 _ ∧ _›).1 hb14)))
    have hb := s14.1
    have K17 := Lib.hid (held_below hb K11.out)
    have R17 := Lib.hid (rowP_below R11.out hb)
    have S17 := Lib.hid (rowP_below S11.out hb)
    have F17 := Lib.hid (heap_below hb (lt_of_heap F11.out) F11.out)
    have B17 := Lib.hid (bt B11.out hb)
    clear K11 R11 S11 F11 B11
    clear hb s0 s13 s14 hb13 hb14 hf13 KK
    have l1 := LH.out
    have l2 := L6.out
    have l3 := L8.out
    have l4 := L9.out
    have l6 := L11.out
    have HNE : Hid (∀ x ∈ [(k10, Obj.cells #[.int .i8 r1, .slice p1 nL c1] 30 (0, 0)), (k8, Obj.cells #[.int .i8 a, .slice (some ⟨g8, 0, none⟩) n n] 30 (0, 0)), (k6, Obj.cells #[.int .i8 r1, .slice p0 nL c0] 30 (0, 0)), (w.heap.size, Obj.cells #[.int .i8 a, .slice p n c] 25 (0, 0))], x.1 ≠ g8) := Lib.hid (fun x hx => by simp only [List.mem_cons, List.not_mem_nil, or_false] at hx; rcases hx with rfl | rfl | rfl | rfl <;> (simp only []; omega))
    have n0 : Hid ((Value.slice p0 nL c0).ownBlock ≠ some g8) := Lib.hid (fun e => by have := HO0.out _ e; omega)
    have n1 : Hid ((Value.slice p1 nL c1).ownBlock ≠ some g8) := Lib.hid (fun e => by have := HO1.out _ e; omega)
    have HLE : Hid (w.heap.size ≤ g8) := Lib.hid (by omega)
    clear l1 l2 l3 l4 l6
    have b0 := bk2_0 (held_head (held_tail K17.out))
    have b1' := bk2_1 (held_head (held_tail K17.out))
    go_wp2_with fail
    refine (markSheet_c a _ g8 n n _ 45 1 (by omega) hm' (Nat.le_of_eq (by show n * 64 = (flatP l).toArray.size; rw [List.size_toArray, flatP_length l HP.out, HN.out])) _ (fun _ => rfl) (fun _ => mkd_start F17.out 1) (Nat.le_of_lt (lt_of_heap F17.out))).mono ?_
    rintro e w19 ⟨rfl, _, hq⟩
    have K19 := Lib.hid (held_bfq hq K17.out HNE.out)
    have R19 := Lib.hid (rowP_bfq R17.out hq n0.out)
    have S19 := Lib.hid (rowP_bfq S17.out hq n1.out)
    have B19 := Lib.hid (B17.out.trans (hq.1.mono HLE.out))
    clear hq K17 R17 S17 B17 F17 b0 b1'
    have hz0 : ¬ ((1 : Int) + ((n * 64 : Nat) : Int) < 0) := by omega
    generalize (1 : Int) + ((n * 64 : Nat) : Int) = z at *
    have hz1 : (z < 0) = False := by simp; omega
    have a0 := bk2_0 (held_head K19.out)
    have a1 := bk2_1 (held_head K19.out)
    have b0 := bk2_0 (held_head (held_tail (held_tail K19.out)))
    have b1' := bk2_1 (held_head (held_tail (held_tail K19.out)))
    go_wp2_with fail
    refine (eqSheet_ps r1 p1 p0 nL c1 c0 L HL.out HNL.out (by omega) _ (rowP_ps S19.out HL.out) (rowP_ps R19.out HL.out)).mono ?_
    rintro e w20 ⟨rfl, hb20⟩
    have K20 := Lib.hid (held_below hb20 K19.out)
    have R20 := Lib.hid (rowP_below R19.out hb20)
    have S20 := Lib.hid (rowP_below S19.out hb20)
    have B20 := Lib.hid (bt B19.out hb20)
    clear K19 R19 S19 B19
    clear hb20 a0 a1 b0 b1'
    obtain ⟨g1, s1, ho1, hg1, hg2, hs1, hp1, hM1⟩ := rowP_mkd S20.out HL.out (Nat.le_of_lt (Nat.lt_of_le_of_lt L11.out (lt_of_heap (held_head K20.out)))) 1
    have HP1 := Lib.hid hp1
    have hk10 : k10 ≠ g1 := by
      rcases ho1 with h | h
      · have := lt_of_heap (held_head K20.out); omega
      · have := HO1.out _ h; omega
    have l1 := LH.out
    have l2 := L6.out
    have l3 := L8.out
    have l4 := L9.out
    have HNE1 : Hid (∀ x ∈ [(k10, Obj.cells #[.int .i8 r1, .slice p1 nL c1] 30 (0, 0)), (k8, Obj.cells #[.int .i8 a, .slice (some ⟨g8, 0, none⟩) n n] 30 (0, 0)), (k6, Obj.cells #[.int .i8 r1, .slice p0 nL c0] 30 (0, 0)), (w.heap.size, Obj.cells #[.int .i8 a, .slice p n c] 25 (0, 0))], x.1 ≠ g1) := Lib.hid (fun x hx => by simp only [List.mem_cons, List.not_mem_nil, or_false] at hx; rcases hx with rfl | rfl | rfl | rfl <;> (simp only []; omega))
    have n2 : Hid ((Value.slice p0 nL c0).ownBlock ≠ some g1) := Lib.hid (fun e => by have := HO0.out _ e; omega)
    have HLE1 : Hid (w.heap.size ≤ g1) := Lib.hid (by omega)
    clear l1 l2 l3 l4 hk10 ho1 hg1
    have a0 := bk2_0 (held_head K20.out)
    have a1 := bk2_1 (held_head K20.out)
    go_wp2_with fail
    refine (markSheet_c r1 p1 g1 nL c1 s1 45 1 (by omega) (by omega) hs1 _ HP1.out hM1 hg2).mono ?_
    rintro e w23 ⟨rfl, hM2, hq⟩
    have K23 := Lib.hid (held_bfq hq K20.out HNE1.out)
    have R23 := Lib.hid (rowP_bfq R20.out hq n2.out)
    have M23 := Lib.hid hM2
    have B23 := Lib.hid (B20.out.trans (hq.1.mono HLE1.out))
    clear hq hM2 hM1 hp1 hs1 hg2 K20 R20 S20 B20 a0 a1
    have hq1 : (((1 : Int) + ((nL * 64 : Nat) : Int)) < 0) = False := by simp; omega
    have a0 := bk2_0 (held_head K23.out)
    have a1 := bk2_1 (held_head K23.out)
    go_wp2_with fail
    refine (heldSheet_c r1 p1 g1 nL c1 s1 45 1 (by omega) (by omega) _ HP1.out M23.out).mono ?_
    rintro e w25 ⟨rfl, hb25⟩
    have K25 := Lib.hid (held_below hb25 K23.out)
    have R25 := Lib.hid (rowP_below R23.out hb25)
    have M25 := Lib.hid (fun h => mkd_below (M23.out h) hb25)
    have B25 := Lib.hid (bt B23.out hb25)
    clear K23 R23 M23 B23
    clear hb25 a0 a1
    have e0 := bk2_0 (held_head (held_tail (held_tail (held_tail K25.out))))
    have e1 := bk2_1 (held_head (held_tail (held_tail (held_tail K25.out))))
    go_wp2_with fail
    refine (toSheet_c a p n c l HP.out HN.out hm' _ (PS_below B25.out HA.out)).mono ?_
    rintro e w26 ⟨rfl, hf26, hb26⟩
    have F26 := Lib.hid hf26
    have K26 := Lib.hid (held_below hb26 K25.out)
    have R26 := Lib.hid (rowP_below R25.out hb26)
    have M26 := Lib.hid (fun h => mkd_below (M25.out h) hb26)
    have B26 := Lib.hid (bt B25.out hb26)
    clear K25 R25 M25 B25
    clear hf26 hb26 e0 e1
    go_wp2_with fail
    refine (implDrop_c a HAA.out _ n l HP.out HN.out hm' x _ F26.out).mono ?_
    rintro e w28 ⟨v2, rfl, hR2, hb28⟩
    rw [HV.out] at hR2 ⊢
    simp only at hR2 ⊢
    obtain ⟨p2, c2, hv2⟩ := rowP_any hR2
    rw [← HNL.out] at hv2
    subst hv2
    have T28 := Lib.hid hR2
    have K28 := Lib.hid (held_below hb28 K26.out)
    have R28 := Lib.hid (rowP_below R26.out hb28)
    have M28 := Lib.hid (fun h => mkd_below (M26.out h) hb28)
    have B28 := Lib.hid (bt B26.out hb28)
    clear K26 R26 M26 B26
    clear hR2 hb28 F26
    go_upto_region 25 with fail
    have K29 := Lib.hid (held_cons (al1_0 w28 (.cells #[.int .i8 r1, .slice p2 nL c2] 30)) (held_below (bl1 w28 (.cells #[.int .i8 r1, .slice p2 nL c2] 30)) K28.out))
    have R29 := Lib.hid (rowP_below R28.out (bl1 w28 (.cells #[.int .i8 r1, .slice p2 nL c2] 30)))
    have T29 := Lib.hid (rowP_below T28.out (bl1 w28 (.cells #[.int .i8 r1, .slice p2 nL c2] 30)))
    have M29 := Lib.hid (fun h => mkd_below (M28.out h) (bl1 w28 (.cells #[.int .i8 r1, .slice p2 nL c2] 30)))
    have B29 := Lib.hid (bt B28.out (bl1 w28 (.cells #[.int .i8 r1, .slice p2 nL c2] 30)))
    generalize w28.alloc (.cells #[.int .i8 r1, .slice p2 nL c2] 30) = w29 at *
    clear K28 R28 T28 M28 B28
    have a0 := bk2_0 (held_head K29.out)
    have a1 := bk2_1 (held_head K29.out)
    have b0 := bk2_0 (held_head (held_tail (held_tail (held_tail K29.out))))
    have b1' := bk2_1 (held_head (held_tail (held_tail (held_tail K29.out))))
    go_wp2_with fail
    refine (eqSheet_ps r1 p2 p0 nL c2 c0 L HL.out HNL.out (by omega) _ (rowP_ps T29.out HL.out) (rowP_ps R29.out HL.out)).mono ?_
    rintro e w31 ⟨rfl, hb31⟩
    have K31 := Lib.hid (held_below hb31 K29.out)
    have M31 := Lib.hid (fun h => mkd_below (M29.out h) hb31)
    have B31 := Lib.hid (bt B29.out hb31)
    clear K29 M29 B29
    clear hb31 a0 a1 b0 b1'
    have a0 := bk2_0 (held_head (held_tail K31.out))
    have a1 := bk2_1 (held_head (held_tail K31.out))
    go_wp2_with fail
    refine (heldSheet_c r1 p1 g1 nL c1 s1 45 1 (by omega) (by omega) _ HP1.out M31.out).mono ?_
    rintro e w34 ⟨rfl, hb34⟩
    have B34 := Lib.hid (bt B31.out hb34)
    clear hb34
    go_wp2
    go_ret
    exact ⟨rfl, B34.out⟩
end Go.Proofs.Ytnbbbmnjbfehmaa
