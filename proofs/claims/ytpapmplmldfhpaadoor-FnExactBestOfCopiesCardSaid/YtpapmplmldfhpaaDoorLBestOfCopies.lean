/- BestOfCopies: the law's walk. -/
import Derived.Test.YtpapmplmldfhpaaDoorBoc
import Derived.Test.YtpapmplmldfhpaaDoorMarkP
namespace Go.Proofs.YtpapmplmldfhpaaDoor
open Go.RowKit
set_option linter.unusedVariables false in
set_option maxHeartbeats 1000000 in
set_option maxRecDepth 100000 in
theorem lawBestOfCopies_c (p : Option Addr) (n c : Nat) (l : List (List Int)) (hl : Prs l) (hn : n = l.length) (hz : n ≤ 9223372036854775807) (wi : Int) (bd_wi : -9223372036854775808 ≤ wi ∧ wi ≤ 9223372036854775807) (w : World) (hp : PS w p l) (hT : TabAt w) :
    Calls Tryd.prog 3 #[.slice p n c, .int .i64 wi] w fun e w' => e = .returned (.bool true) ∧ Below w.heap.size w w' := by
  have HN := Lib.hid hn
  have HA := Lib.hid hp
  have HP := Lib.hid hl
  clear hn hp hl
  have HT := Lib.hid hT
  have H00 := Lib.hid (TabAt_pos hT)
  clear hT
  have hml := boV_len l wi
  obtain ⟨r1, r2, r3, hv⟩ : ∃ r1 r2 r3, boV l wi = (r1, r2, r3) := ⟨_, _, _, rfl⟩
  rw [hv] at hml
  have HV := Lib.hid hv
  have HML := Lib.hid hml
  have hsz : (arr .i16 r1).size = 64 := by rw [arr_size]; exact hml
  clear hv hml
  by_cases hm : 1048576 < n
  · go_enter Tryd.func3, Tryd.ntmps3
    go_wp2_with fail
    refine (szPrintS_c p n c hz _).mono ?_
    rintro e w1 ⟨rfl, rfl⟩
    rw [if_pos hm]
    go_wp2
    go_ret
    exact ⟨rfl, Below.refl _ _⟩
  · have hm' : n ≤ 1048576 := by omega
    have h1 : 0 ≤ (1048576 : Int) - n := by omega
    go_enter Tryd.func3, Tryd.ntmps3
    go_wp2_with fail
    refine (szPrintS_c p n c hz _).mono ?_
    rintro e w1 ⟨rfl, rfl⟩
    rw [if_neg (by omega)]
    go_wp2_with fail
    refine (toPrintS_c p n c l HP.out HN.out hm' _ HA.out).mono ?_
    rintro e w2 ⟨rfl, hf2, hb2⟩
    have F2 := Lib.hid hf2
    have B2 := Lib.hid hb2
    clear hf2 hb2
    go_wp2_with fail
    refine (specBoc_c _ n n l HP.out HN.out hm' wi _ (PS_block F2.out HP.out)).mono ?_
    rintro e w3 ⟨rfl, hb3⟩
    rw [HV.out]
    have B3 := Lib.hid (bt B2.out hb3)
    clear hb3 F2
    go_upto_region 6 with (rw [z64_Z]; refine wpList_store_row rfl 26 (.tmp 6) (.tmp 23) rfl w3.heap.size (arr .i16 r1) rfl rfl 26 (arr .i16 Z64) (al1_0 _ _) (by rw [szPrint, hsz]) (by rw [hsz, arr_size, Z64_length]) (arr_one _ _) ?_)
    have G4 := Lib.hid (setRow_heap (w3.alloc (.cells (arr .i16 Z64) 26)) w3.heap.size _ (arr .i16 r1) 26 (0, 0) (al1_0 _ _))
    have B4 := Lib.hid (bt B3.out (below_setRow (bl1 w3 (.cells (arr .i16 Z64) 26)) (Nat.le_refl _) (arr .i16 r1)))
    generalize (w3.alloc (.cells (arr .i16 Z64) 26)).setRow w3.heap.size (arr .i16 r1) = w4 at *
    generalize w3.heap.size = g4 at *
    go_wp2_with fail
    refine (toPrintS_c p n c l HP.out HN.out hm' _ (PS_below B4.out HA.out)).mono ?_
    rintro e w5 ⟨rfl, hf5, hb5⟩
    have F5 := Lib.hid hf5
    have G5 := Lib.hid (heap_below hb5 (lt_of_heap G4.out) G4.out)
    have B5 := Lib.hid (bt B4.out hb5)
    clear hf5 hb5 G4
    generalize w4.heap.size = g5 at *
    go_wp2_with fail
    refine (implBoc_c _ n n l HP.out HN.out hm' wi _ (PS_block F5.out HP.out) (TabAt_below B5.out H00.out HT.out)).mono ?_
    rintro e w6 ⟨rfl, hb6⟩
    rw [HV.out]
    have F6 := Lib.hid (heap_below hb6 (lt_of_heap F5.out) F5.out)
    have G6 := Lib.hid (heap_below hb6 (lt_of_heap G5.out) G5.out)
    have B6 := Lib.hid (bt B5.out hb6)
    clear hb6 F5 G5
    go_upto_region 8 with (rw [z64_Z]; refine wpList_store_row rfl 26 (.tmp 10) (.tmp 32) rfl w6.heap.size (arr .i16 r1) rfl rfl 26 (arr .i16 Z64) (al1_0 _ _) (by rw [szPrint, hsz]) (by rw [hsz, arr_size, Z64_length]) (arr_one _ _) ?_)
    have K7 := Lib.hid (setRow_heap (w6.alloc (.cells (arr .i16 Z64) 26)) w6.heap.size _ (arr .i16 r1) 26 (0, 0) (al1_0 _ _))
    have hb7 := below_setRow (bl1 w6 (.cells (arr .i16 Z64) 26)) (Nat.le_refl _) (arr .i16 r1)
    have F7 := Lib.hid (heap_below hb7 (lt_of_heap F6.out) F6.out)
    have G7 := Lib.hid (heap_below hb7 (lt_of_heap G6.out) G6.out)
    have B7 := Lib.hid (bt B6.out hb7)
    clear hb7 F6 G6
    generalize (w6.alloc (.cells (arr .i16 Z64) 26)).setRow w6.heap.size (arr .i16 r1) = w7 at *
    generalize w6.heap.size = g7 at *
    go_wp2_with (first
      | (refine wpList_load_row rfl 26 (.tmp 10) rfl _ rfl _ _ _ _ K7.out Tryd.underlying26 rfl (by rw [szPrint, hsz]) ?_)
      | (refine wpList_load_row rfl 26 (.tmp 6) rfl _ rfl _ _ _ _ G7.out Tryd.underlying26 rfl (by rw [szPrint, hsz]) ?_))
    refine (eqPrint_same r1 HML.out _).mono ?_
    rintro e w8 ⟨rfl, hb8⟩
    have F8 := Lib.hid (heap_below hb8 (lt_of_heap F7.out) F7.out)
    have B8 := Lib.hid (bt B7.out hb8)
    clear hb8 F7 G7 K7
    go_wp2_with fail
    refine (toPrintS_c p n c l HP.out HN.out hm' _ (PS_below B8.out HA.out)).mono ?_
    rintro e w9 ⟨rfl, hf9, hb9⟩
    have F9 := Lib.hid hf9
    have F8b := Lib.hid (heap_below hb9 (lt_of_heap F8.out) F8.out)
    have B9 := Lib.hid (bt B8.out hb9)
    clear hf9 hb9 F8
    go_wp2_with fail
    refine (eqPrintS_same g5 _ n n n l HP.out HN.out hm' _ F8b.out F9.out).mono ?_
    rintro e w10 ⟨rfl, hb10⟩
    have B10 := Lib.hid (bt B9.out hb10)
    clear hb10
    go_wp2
    go_ret
    exact ⟨rfl, B10.out⟩
end Go.Proofs.YtpapmplmldfhpaaDoor
