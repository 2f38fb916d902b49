/- DarkestFrame: the law's walk. -/
import Derived.Test.YtnbbbmnjbfehmaaDark
import Derived.Deep.RegionHeld3
import Derived.Deep.DeepCutAuto
namespace Go.Proofs.Ytnbbbmnjbfehmaa
open Go.RowKit
set_option linter.unusedVariables false in
set_option maxHeartbeats 1000000 in
set_option maxRecDepth 100000 in
theorem lawDarkestFrame_c (a : Int) (ha : -128 ≤ a ∧ a ≤ 127) (p : Option Addr) (n c : Nat) (l : List (List Int)) (hl : Prs l) (hn : n = l.length) (hz : n ≤ 9223372036854775807) (w : World) (hp : PS w p l) :
    Calls Try.prog 9 #[.agg #[.int .i8 a, .slice p n c]] w fun e w' => e = .returned (.bool true) ∧ Below w.heap.size w w' := by
  have HN := Lib.hid hn
  have HA := Lib.hid hp
  have HP := Lib.hid hl
  have HAA := Lib.hid ha
  clear hn hp hl ha
  obtain ⟨r1, r2, r3, hv⟩ : ∃ r1 r2 r3, dkV a l = (r1, r2, r3) := ⟨_, _, _, rfl⟩
  have HV := Lib.hid hv
  clear hv
  have H0 := Lib.hid (al1_0 w (.cells #[.int .i8 a, .slice p n c] 25))
  have B0 := Lib.hid (bl1 w (.cells #[.int .i8 a, .slice p n c] 25))
  by_cases hm : 1048576 < n
  · go_enter Try.func9, Try.ntmps9
    go_wp2_with fail
    refine (szSheet_c a p n c hz _).mono ?_
    rintro e w1 ⟨rfl, hb1⟩
    rw [if_pos hm]
    have B1 := Lib.hid (bt B0.out hb1)
    clear hb1
    go_wp2
    go_ret
    exact ⟨rfl, B1.out⟩
  · have hm' : n ≤ 1048576 := by omega
    have h1 : 0 ≤ (1048576 : Int) - n := by omega
    go_enter Try.func9, Try.ntmps9
    go_wp2_with fail
    refine (szSheet_c a p n c hz _).mono ?_
    rintro e w1 ⟨rfl, hb1⟩
    rw [if_neg hm]
    have B1 := Lib.hid (bt B0.out hb1)
    have H1 := Lib.hid (heap_below hb1 (by simp) H0.out)
    have c0 := bk2_0 H1.out
    have c1 := bk2_1 H1.out
    clear hb1
    go_wp2_with fail
    refine (toSheet_c a p n c l HP.out HN.out hm' _ (PS_below B1.out HA.out)).mono ?_
    rintro e w2 ⟨rfl, hf2, hb2⟩
    have F2 := Lib.hid hf2
    have B2 := Lib.hid (bt B1.out hb2)
    have H2 := Lib.hid (heap_below hb2 (lt_of_heap H1.out) H1.out)
    clear hb2 hf2 c0 c1
    go_wp2_with fail
    refine (specDarkestFrame_c a HAA.out _ n n l HP.out HN.out hm' _ (PS_block F2.out HP.out)).mono ?_
    rintro e w3 ⟨rfl, hb3⟩
    rw [HV.out]
    have B3 := Lib.hid (bt B2.out hb3)
    have H3 := Lib.hid (heap_below hb3 (lt_of_heap H2.out) H2.out)
    have c0 := bk2_0 H3.out
    have c1 := bk2_1 H3.out
    clear hb3 F2
    go_wp2_with fail
    refine (toSheet_c a p n c l HP.out HN.out hm' _ (PS_below B3.out HA.out)).mono ?_
    rintro e w4 ⟨rfl, hf4, hb4⟩
    have F4 := Lib.hid hf4
    have B4 := Lib.hid (bt B3.out hb4)
    have H4 := Lib.hid (heap_below hb4 (lt_of_heap H3.out) H3.out)
    clear hb4 hf4 c0 c1
    generalize w3.heap.size + 1 + 1 + 1 = g at *
    go_wp2_with fail
    have X5 := Lib.hid (al1_0 w4 (.cells #[.int .i8 a, .slice (some ⟨g, 0, none⟩) n n] 30))
    have B5 := Lib.hid (bt B4.out (bl1 w4 (.cells #[.int .i8 a, .slice (some ⟨g, 0, none⟩) n n] 30)))
    have F5 := Lib.hid (heap_below (bl1 w4 (.cells #[.int .i8 a, .slice (some ⟨g, 0, none⟩) n n] 30)) (lt_of_heap F4.out) F4.out)
    have H5 := Lib.hid (heap_below (bl1 w4 (.cells #[.int .i8 a, .slice (some ⟨g, 0, none⟩) n n] 30)) (lt_of_heap H4.out) H4.out)
    generalize w4.heap.size = g5 at *
    generalize w4.alloc (.cells #[.int .i8 a, .slice (some ⟨g, 0, none⟩) n n] 30) = w5 at *
    clear F4 H4 H3 H2 H1 B1 B2 B3 B4
    refine (implDarkestFrame_c a HAA.out _ n n l HP.out HN.out hm' _ (PS_block F5.out HP.out)).mono ?_
    rintro e w6 ⟨rfl, hb6⟩
    rw [HV.out]
    have F6 := Lib.hid (heap_below hb6 (lt_of_heap F5.out) F5.out)
    have X6 := Lib.hid (heap_below hb6 (lt_of_heap X5.out) X5.out)
    have H6 := Lib.hid (heap_below hb6 (lt_of_heap H5.out) H5.out)
    have B6 := Lib.hid (bt B5.out hb6)
    clear hb6 X5 B5 F5 H5
    go_upto_region 10 with fail
    have K : Hid (∀ w', Below w6.heap.size w6 w' → (Below w6.heap.size w6 w' ∧ (w'.cell? ⟨g5, 0, none⟩ = some (.int .i8 a) ∧ w'.cell? ⟨g5, 1, none⟩ = some (.slice (some ⟨g, 0, none⟩) n n)) ∧ (w'.cell? ⟨w.heap.size, 0, none⟩ = some (.int .i8 a) ∧ w'.cell? ⟨w.heap.size, 1, none⟩ = some (.slice p n c)))) := Lib.hid fun w' hb => by
      have b0 := heap_below hb (lt_of_heap X6.out) X6.out
      have b1 := heap_below hb (lt_of_heap H6.out) H6.out
      exact ⟨hb, ⟨bk2_0 b0, bk2_1 b0⟩, bk2_0 b1, bk2_1 b1⟩
    have s0 := K.out _ (Below.refl _ _)
    go_region_held3 (fun w' => Below w6.heap.size w6 w' ∧ (w'.cell? ⟨g5, 0, none⟩ = some (.int .i8 a) ∧ w'.cell? ⟨g5, 1, none⟩ = some (.slice (some ⟨g, 0, none⟩) n n)) ∧ (w'.cell? ⟨w.heap.size, 0, none⟩ = some (.int .i8 a) ∧ w'.cell? ⟨w.heap.size, 1, none⟩ = some (.slice p n c)))
      (first | (with_reducible assumption) | exact K.out _ (bl_drew (Below.refl _ _)) | exact K.out _ (bl_drew (‹Below w6.heap.size w6 _ ∧ _›).1))
      (first
        | (go_at_call 16; refine (toSheet_c a p n c l HP.out HN.out hm' _ (PS_below (bt B6.out (‹Below w6.heap.size w6 _ ∧ _›).1) HA.out)).mono ?_; rintro e w9 ⟨rfl, hf9, hb9⟩; have s9 := K.out _ (bt (‹Below w6.heap.size w6 _ ∧ _›).1 hb9))
        | (go_at_call 18; refine (eqSheet_same a g _ n n n l HP.out HN.out hm' _ (heap_below (‹Below w6.heap.size w6 _ ∧ _›).1 (lt_of_heap F6.out) F6.out) (by assumption)).mono ?_; rintro e w8 ⟨rfl, hb8⟩; have s8 := K.out _ (bt (‹Below w6.heap.size w6 _ ∧ _›).1 hb8)))
    go_wp2_with fail
    go_ret
    exact ⟨rfl, bt B6.out (‹Below w6.heap.size w6 _ ∧ _›).1⟩
end Go.Proofs.Ytnbbbmnjbfehmaa
