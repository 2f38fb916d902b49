/- MedianPrint: the reference and the program. -/
import Derived.Test.YtdmlefccajaniaaDoorMedI
import Derived.Test.YtdmlefccajaniaaDoorScratch
namespace Go.Proofs.YtdmlefccajaniaaDoor
open Go.RowKit Go.Lib
def mpV (l : List (List Int)) : List Int × Int := if cpV l true = 0 then (medP l, 0) else (Z64, cpV l true)
theorem mpV_len (l : List (List Int)) : (mpV l).1.length = 64 := by
  unfold mpV; split
  · exact medP_length l
  · exact Z64_length
theorem cpV_zero_len {l : List (List Int)} {f : Bool} (h : cpV l f = 0) : 0 < l.length ∧ l.length ≤ 8 := by
  obtain ⟨_, h1, h2, _⟩ := cpV_zero h
  exact ⟨h1, h2⟩
set_option maxHeartbeats 2000000 in
set_option maxRecDepth 100000 in
theorem specMP_c (p : Option Addr) (n c : Nat) (l : List (List Int)) (hl : Prs l) (hn : n = l.length) (hm : n ≤ 1048576) (w : World) (hp : PS w p l) :
    Calls Tryd.prog 24 #[.slice p n c] w fun e w' => e = .returned (.tuple #[.agg (arr .i16 (mpV l).1), .int .i64 (mpV l).2]) ∧ Below w.heap.size w w' := by
  have HN := Lib.hid hn
  have HA := Lib.hid hp
  have HP := Lib.hid hl
  clear hn hp hl
  go_enter Tryd.func24, Tryd.ntmps24
  go_upto_region 1 with fail
  rw [z64_Z]
  have K0 := Lib.hid (al1_0 w (.cells (arr .i16 Z64) 37))
  have KB := Lib.hid (bl1 w (.cells (arr .i16 Z64) 37))
  generalize w.alloc (.cells (arr .i16 Z64) 37) = w0 at *
  go_wp2_with fail
  refine (l07Copies_c p n c l HP.out HN.out hm 0 _ (PS_below KB.out HA.out)).mono ?_
  rintro e w1 ⟨rfl, hb1⟩
  rw [show dnB 0 = true from rfl]
  have HB1 := Lib.hid (bt KB.out hb1)
  have H0 := Lib.hid (heap_below hb1 (lt_of_heap K0.out) K0.out)
  clear hb1 K0 KB
  by_cases hc : cpV l true = 0
  · have HV : Hid (mpV l = (medP l, 0)) := Lib.hid (by simp [mpV, hc])
    obtain ⟨h1, h2⟩ := cpV_zero_len hc
    rw [hc]
    go_wp2_with fail
    refine (l07Median_c p n c l HP.out HN.out (by have := HN.out; omega) (by have := HN.out; omega) _ (PS_below HB1.out HA.out)).mono ?_
    rintro e w2 ⟨rfl, hb2⟩
    have H02 := Lib.hid (heap_below hb2 (lt_of_heap H0.out) H0.out)
    have HB2 := Lib.hid (bt HB1.out hb2)
    clear hb2
    go_wp2_with (refine wpList_store_row rfl 37 (.tmp 2) (.tmp 12) rfl w.heap.size (arr .i16 (medP l)) rfl rfl 37 (arr .i16 Z64) H02.out (by rw [szPrint, arr_size, medP_length]) (by rw [arr_size, arr_size, medP_length, Z64_length]) (arr_one _ _) ?_)
    exact bodyPost_ret (results_ct rfl _ _ _ 37 _ _ _ rfl (setRow_heap _ _ _ _ _ _ H02.out) Tryd.underlying37 rfl (by rw [szPrint, arr_size, medP_length])) rfl ⟨by rw [HV.out] <;> rfl, below_setRow HB2.out (Nat.le_refl _) _⟩
  · have HV : Hid (mpV l = (Z64, cpV l true)) := Lib.hid (by simp [mpV, hc])
    have hne : (cpV l true != 0) = true := by simpa using hc
    generalize cpV l true = cc at *
    go_wp2_with (rw [z64_Z]; refine wpList_store_row rfl 37 (.tmp 2) (.tmp 9) rfl w.heap.size (arr .i16 Z64) rfl rfl 37 (arr .i16 Z64) H0.out (by rw [szPrint, arr_size, Z64_length]) rfl (arr_one _ _) ?_)
    exact bodyPost_ret (results_ct rfl _ _ _ 37 _ _ _ rfl (setRow_heap _ _ _ _ _ _ H0.out) Tryd.underlying37 rfl (by rw [szPrint, arr_size, Z64_length])) rfl ⟨by rw [HV.out] <;> rfl, below_setRow HB1.out (Nat.le_refl _) _⟩
set_option maxHeartbeats 2000000 in
set_option maxRecDepth 100000 in
theorem implMP_c (p : Option Addr) (n c : Nat) (l : List (List Int)) (hl : Prs l) (hn : n = l.length) (hm : n ≤ 1048576) (w : World) (hp : PS w p l) :
    Calls Tryd.prog 23 #[.slice p n c] w fun e w' => e = .returned (.tuple #[.agg (arr .i16 (mpV l).1), .int .i64 (mpV l).2]) ∧ Below w.heap.size w w' := by
  have HN := Lib.hid hn
  have HA := Lib.hid hp
  have HP := Lib.hid hl
  clear hn hp hl
  go_enter Tryd.func23, Tryd.ntmps23
  go_upto_region 1 with fail
  rw [z64_Z]
  have K0 := Lib.hid (al1_0 w (.cells (arr .i16 Z64) 37))
  have KB := Lib.hid (bl1 w (.cells (arr .i16 Z64) 37))
  generalize w.alloc (.cells (arr .i16 Z64) 37) = w0 at *
  go_wp2_with fail
  refine (copiesCode_c p n c l HP.out HN.out hm true _ (PS_below KB.out HA.out)).mono ?_
  rintro e w1 ⟨rfl, hb1⟩
  have HB1 := Lib.hid (bt KB.out hb1)
  have H0 := Lib.hid (heap_below hb1 (lt_of_heap K0.out) K0.out)
  clear hb1 K0 KB
  by_cases hc : cpV l true = 0
  · have HV : Hid (mpV l = (medP l, 0)) := Lib.hid (by simp [mpV, hc])
    obtain ⟨h1, h2⟩ := cpV_zero_len hc
    rw [hc]
    go_wp2_with fail
    refine (implMedian_c p n c l HP.out HN.out (by have := HN.out; omega) (by have := HN.out; omega) _ (PS_below HB1.out HA.out)).mono ?_
    rintro e w2 ⟨rfl, hb2⟩
    have H02 := Lib.hid (heap_below hb2 (lt_of_heap H0.out) H0.out)
    have HB2 := Lib.hid (bt HB1.out hb2)
    clear hb2
    go_wp2_with (refine wpList_store_row rfl 37 (.tmp 2) (.tmp 12) rfl w.heap.size (arr .i16 (medP l)) rfl rfl 37 (arr .i16 Z64) H02.out (by rw [szPrint, arr_size, medP_length]) (by rw [arr_size, arr_size, medP_length, Z64_length]) (arr_one _ _) ?_)
    exact bodyPost_ret (results_ct rfl _ _ _ 37 _ _ _ rfl (setRow_heap _ _ _ _ _ _ H02.out) Tryd.underlying37 rfl (by rw [szPrint, arr_size, medP_length])) rfl ⟨by rw [HV.out] <;> rfl, below_setRow HB2.out (Nat.le_refl _) _⟩
  · have HV : Hid (mpV l = (Z64, cpV l true)) := Lib.hid (by simp [mpV, hc])
    have hne : (cpV l true != 0) = true := by simpa using hc
    generalize cpV l true = cc at *
    go_wp2_with (rw [z64_Z]; refine wpList_store_row rfl 37 (.tmp 2) (.tmp 9) rfl w.heap.size (arr .i16 Z64) rfl rfl 37 (arr .i16 Z64) H0.out (by rw [szPrint, arr_size, Z64_length]) rfl (arr_one _ _) ?_)
    exact bodyPost_ret (results_ct rfl _ _ _ 37 _ _ _ rfl (setRow_heap _ _ _ _ _ _ H0.out) Tryd.underlying37 rfl (by rw [szPrint, arr_size, Z64_length])) rfl ⟨by rw [HV.out] <;> rfl, below_setRow HB1.out (Nat.le_refl _) _⟩
end Go.Proofs.YtdmlefccajaniaaDoor
