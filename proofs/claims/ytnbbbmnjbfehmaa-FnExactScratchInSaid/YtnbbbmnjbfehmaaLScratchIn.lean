/- ScratchIn: the law's walk. -/
import Derived.Test.YtnbbbmnjbfehmaaScratchS
import Derived.Test.YtnbbbmnjbfehmaaScratchI
namespace Go.Proofs.Ytnbbbmnjbfehmaa
open Go.RowKit
set_option linter.unusedVariables false in
set_option maxHeartbeats 1000000 in
set_option maxRecDepth 100000 in
theorem lawScratchIn_c (bf : List Int) (hl0 : bf.length = 64) (hx0 : I16 bf) (p : Option Addr) (n c : Nat) (l : List (List Int)) (hl : Prs l) (hn : n = l.length) (hz : n ≤ 9223372036854775807) (wi : Int) (hwi : -9223372036854775808 ≤ wi ∧ wi ≤ 9223372036854775807) (w : World) (hp : PS w p l) :
    Calls Try.prog 7 #[.agg (arr .i16 bf), .slice p n c, .int .i64 wi] w fun e w' => e = .returned (.bool true) ∧ Below w.heap.size w w' := by
  have hbf : Pr bf := ⟨hl0, hx0⟩
  have HN := Lib.hid hn
  have HA := Lib.hid hp
  have HP := Lib.hid hl
  have HB := Lib.hid hbf
  clear hn hp hl hbf hl0 hx0 hwi
  obtain ⟨r1, r2, hv⟩ : ∃ r1 r2, siV bf l wi = (r1, r2) := ⟨_, _, rfl⟩
  have HV := Lib.hid hv
  clear hv
  have H0 := Lib.hid (al1_0 w (.cells (arr .i16 bf) 40))
  have B0 := Lib.hid (bl1 w (.cells (arr .i16 bf) 40))
  by_cases hm : 1048576 < n
  · go_enter Try.func7, Try.ntmps7
    go_wp2_with fail
    refine (szPrintS_c p n c hz _).mono ?_
    rintro e w1 ⟨rfl, rfl⟩
    rw [if_pos hm]
    go_wp2
    go_ret
    exact ⟨rfl, B0.out⟩
  · have hm' : n ≤ 1048576 := by omega
    have h1 : 0 ≤ (1048576 : Int) - n := by omega
    go_enter Try.func7, Try.ntmps7
    go_wp2_with fail
    refine (szPrintS_c p n c hz _).mono ?_
    rintro e w1 ⟨rfl, rfl⟩
    rw [if_neg (by omega)]
    go_wp2_with (refine wpList_load_row rfl 40 (.tmp 3) rfl _ rfl _ _ _ _ H0.out Try.underlying40 rfl (by rw [szA64, arr_size, HB.out.1]) ?_)
    refine (toPrint_c bf HB.out _).mono ?_
    rintro e w2 ⟨rfl, hb2⟩
    have B2 := Lib.hid (bt B0.out hb2)
    have H2 := Lib.hid (heap_below hb2 (lt_of_heap H0.out) H0.out)
    clear hb2 B0 H0
    go_wp2_with fail
    refine (toPrintS_c p n c l HP.out HN.out hm' _ (PS_below B2.out HA.out)).mono ?_
    rintro e w3 ⟨rfl, hf3, hb3⟩
    have F3 := Lib.hid hf3
    have B3 := Lib.hid (bt B2.out hb3)
    have H3 := Lib.hid (heap_below hb3 (lt_of_heap H2.out) H2.out)
    clear hb3 hf3 B2 H2
    go_wp2_with fail
    refine (specScratchIn_c bf HB.out _ n n l HP.out HN.out hm' wi _ (PS_block F3.out HP.out)).mono ?_
    rintro e w4 ⟨rfl, hb4⟩
    rw [HV.out]
    have B4 := Lib.hid (bt B3.out hb4)
    have H4 := Lib.hid (heap_below hb4 (lt_of_heap H3.out) H3.out)
    clear hb4 F3 B3 H3
    go_wp2_with fail
    refine (toPrintS_c p n c l HP.out HN.out hm' _ (PS_below B4.out HA.out)).mono ?_
    rintro e w5 ⟨rfl, hf5, hb5⟩
    have F5 := Lib.hid hf5
    have B5 := Lib.hid (bt B4.out hb5)
    have H5 := Lib.hid (heap_below hb5 (lt_of_heap H4.out) H4.out)
    clear hb5 hf5 B4 H4
    generalize w4.heap.size = g at *
    go_wp2_with (refine wpList_load_row rfl 40 (.tmp 3) rfl _ rfl _ _ _ _ H5.out Try.underlying40 rfl (by rw [szA64, arr_size, HB.out.1]) ?_)
    refine (toPrint_c bf HB.out _).mono ?_
    rintro e w6 ⟨rfl, hb6⟩
    have B6 := Lib.hid (bt B5.out hb6)
    have F6 := Lib.hid (heap_below hb6 (lt_of_heap F5.out) F5.out)
    clear hb6 B5 H5 F5
    go_wp2_with fail
    refine (implScratchIn_c bf HB.out _ n n l HP.out HN.out hm' wi _ (PS_block F6.out HP.out)).mono ?_
    rintro e w7 ⟨rfl, hb7⟩
    rw [HV.out]
    have B7 := Lib.hid (bt B6.out hb7)
    have F7 := Lib.hid (heap_below hb7 (lt_of_heap F6.out) F6.out)
    clear hb7 B6 F6
    go_wp2_with fail
    refine (toPrintS_c p n c l HP.out HN.out hm' _ (PS_below B7.out HA.out)).mono ?_
    rintro e w8 ⟨rfl, hf8, hb8⟩
    have G8 := Lib.hid hf8
    have B8 := Lib.hid (bt B7.out hb8)
    have F8 := Lib.hid (heap_below hb8 (lt_of_heap F7.out) F7.out)
    clear hb8 hf8 B7 F7
    go_wp2_with fail
    refine (eqPrintS_same g _ n n n l HP.out HN.out hm' _ F8.out G8.out).mono ?_
    rintro e w9 ⟨rfl, hb9⟩
    have B9 := Lib.hid (bt B8.out hb9)
    clear hb9
    go_wp2
    go_ret
    exact ⟨rfl, B9.out⟩
end Go.Proofs.Ytnbbbmnjbfehmaa
