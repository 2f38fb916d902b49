/- ContrastOf: the law's walk. -/
import Derived.Test.YtmnidldpkkpeoaaConR
namespace Go.Proofs.Ytmnidldpkkpeoaa
open Go.RowKit Go.Lib
set_option linter.unusedVariables false in
theorem lawContrastOf_c (xs : List Int) (hl : xs.length = 24) (hx : I8 xs) (low : Int) (bd_low : -9223372036854775808 ≤ low ∧ low ≤ 9223372036854775807) (high : Int) (bd_high : -9223372036854775808 ≤ high ∧ high ≤ 9223372036854775807) (w : World) :
    Calls Try.prog 7 #[.agg (arr .i8 xs), .int .i64 low, .int .i64 high] w fun e w' => e = .returned (.bool true) ∧ Below w.heap.size w w' := by
  have hs : Sc xs := ⟨hl, hx⟩
  have HL := Lib.hid hl
  clear hl hx
  go_enter Try.func7, Try.ntmps7
  have H0 := Lib.hid (al1_0 w (.cells (arr .i8 xs) 23))
  go_wp2_with (refine wpList_load_row rfl 23 (.tmp 3) rfl _ rfl _ _ _ _ H0.out Try.underlying23 rfl (by rw [szA24, arr_size, HL.out]) ?_)
  refine (toScene_c xs hs _).mono ?_
  rintro e w1 ⟨rfl, hb1⟩
  have hB1 := bt (bl1 _ _) hb1
  have hz1 : w.heap.size < w1.heap.size := Nat.lt_of_lt_of_le (by simp) hb1.size
  have H1 := Lib.hid (heap_below hb1 (by simp) H0.out)
  clear hb1
  go_wp2_with fail
  refine (specConR_c xs hs low high _).mono ?_
  rintro e w2 ⟨rfl, hb2⟩
  have hB2 := bt hB1 hb2
  have hz2 : w.heap.size < w2.heap.size := Nat.lt_of_lt_of_le hz1 hb2.size
  have H2 := Lib.hid (heap_below hb2 hz1 H1.out)
  clear hb2
  go_wp2_with (refine wpList_load_row rfl 23 (.tmp 3) rfl _ rfl _ _ _ _ H2.out Try.underlying23 rfl (by rw [szA24, arr_size, HL.out]) ?_)
  refine (toScene_c xs hs _).mono ?_
  rintro e w3 ⟨rfl, hb3⟩
  have hB3 := bt hB2 hb3
  have hz3 : w.heap.size < w3.heap.size := Nat.lt_of_lt_of_le hz2 hb3.size
  have H3 := Lib.hid (heap_below hb3 hz2 H2.out)
  clear hb3
  go_wp2_with fail
  refine (implConR_c xs hs low high _).mono ?_
  rintro e w4 ⟨rfl, hb4⟩
  have hB4 := bt hB3 hb4
  have hz4 : w.heap.size < w4.heap.size := Nat.lt_of_lt_of_le hz3 hb4.size
  have H4 := Lib.hid (heap_below hb4 hz3 H3.out)
  clear hb4
  go_wp2_with fail
  go_ret
  exact ⟨rfl, hB4⟩
end Go.Proofs.Ytmnidldpkkpeoaa
