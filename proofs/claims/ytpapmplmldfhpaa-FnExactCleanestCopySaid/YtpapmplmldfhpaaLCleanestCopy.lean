/- CleanestCopy: the law's walk. -/
import Derived.Test.YtpapmplmldfhpaaClean
import Derived.Test.YtpapmplmldfhpaaMarkP
namespace Go.Proofs.Ytpapmplmldfhpaa
open Go.RowKit
set_option linter.unusedVariables false in
set_option maxHeartbeats 1000000 in
set_option maxRecDepth 100000 in
theorem lawCleanestCopy_c (p : Option Addr) (n c : Nat) (l : List (List Int)) (hl : Prs l) (hn : n = l.length) (hz : n ≤ 9223372036854775807) (wi : Int) (bd_wi : -9223372036854775808 ≤ wi ∧ wi ≤ 9223372036854775807) (w : World) (hp : PS w p l) :
    Calls Try.prog 8 #[.slice p n c, .int .i64 wi] w fun e w' => e = .returned (.bool true) ∧ Below w.heap.size w w' := by
  have HN := Lib.hid hn
  have HA := Lib.hid hp
  have HP := Lib.hid hl
  clear hn hp hl
  obtain ⟨r1, r2, r3, hv⟩ : ∃ r1 r2 r3, clV l wi = (r1, r2, r3) := ⟨_, _, _, rfl⟩
  have HV := Lib.hid hv
  clear hv
  by_cases hm : 1048576 < n
  · go_enter Try.func8, Try.ntmps8
    go_wp2_with fail
    refine (szPrintS_c p n c hz _).mono ?_
    rintro e w1 ⟨rfl, rfl⟩
    rw [if_pos hm]
    go_wp2
    go_ret
    exact ⟨rfl, Below.refl _ _⟩
  · have hm' : n ≤ 1048576 := by omega
    have h1 : 0 ≤ (1048576 : Int) - n := by omega
    go_enter Try.func8, Try.ntmps8
    go_wp2_with fail
    refine (szPrintS_c p n c hz _).mono ?_
    rintro e w1 ⟨rfl, rfl⟩
    rw [if_neg (by omega)]
    go_wp2_with fail
    refine (toPrintS_c p n c l HP.out HN.out hm' _ HA.out).mono ?_
    rintro e w3 ⟨rfl, hf3, hb3⟩
    have F3 := Lib.hid hf3
    have B3 := Lib.hid hb3
    clear hb3 hf3
    go_wp2_with fail
    refine (specCC_c _ n n l HP.out HN.out hm' wi _ (PS_block F3.out HP.out)).mono ?_
    rintro e w4 ⟨rfl, hb4⟩
    rw [HV.out]
    have B4 := Lib.hid (bt B3.out hb4)
    clear hb4 F3 B3
    go_wp2_with fail
    refine (toPrintS_c p n c l HP.out HN.out hm' _ (PS_below B4.out HA.out)).mono ?_
    rintro e w5 ⟨rfl, hf5, hb5⟩
    have F5 := Lib.hid hf5
    have B5 := Lib.hid (bt B4.out hb5)
    clear hb5 hf5 B4
    generalize w4.heap.size = g at *
    go_wp2_with fail
    refine (implCC_c _ n n l HP.out HN.out hm' wi _ (PS_block F5.out HP.out)).mono ?_
    rintro e w7 ⟨rfl, hb7⟩
    rw [HV.out]
    have B7 := Lib.hid (bt B5.out hb7)
    have F7 := Lib.hid (heap_below hb7 (lt_of_heap F5.out) F5.out)
    clear hb7 B5 F5
    go_wp2_with fail
    refine (toPrintS_c p n c l HP.out HN.out hm' _ (PS_below B7.out HA.out)).mono ?_
    rintro e w8 ⟨rfl, hf8, hb8⟩
    have G8 := Lib.hid hf8
    have B8 := Lib.hid (bt B7.out hb8)
    have F8 := Lib.hid (heap_below hb8 (lt_of_heap F7.out) F7.out)
    clear hb8 hf8 B7 F7
    go_wp2_with fail
    refine (eqPrintS_same g _ n n n l HP.out HN.out hm' _ F8.out G8.out).mono ?_
    rintro e w9 ⟨rfl, hb9⟩
    have B9 := Lib.hid (bt B8.out hb9)
    clear hb9
    go_wp2
    go_ret
    exact ⟨rfl, B9.out⟩
end Go.Proofs.Ytpapmplmldfhpaa
