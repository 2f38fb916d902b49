/- GreatestSpot: the law's walk. -/
import Derived.Test.YtmnidldpkkpeoaaDoorGreat
namespace Go.Proofs.YtmnidldpkkpeoaaDoor
open Go.RowKit Go.Lib
set_option maxHeartbeats 2000000 in
theorem lawGreat_c (M : Nat) (hM : M < 2 ^ 64) (w : World) (hT : TabAt w) :
    Calls Tryd.prog 6 #[.int .u64 M] w fun e w' => e = .returned (.bool true) ∧ Below w.heap.size w w' := by
  have HT := Lib.hid hT
  have HM := Lib.hid hM
  clear hT hM
  go_enter Tryd.func6, Tryd.ntmps6
  go_wp2_with fail
  refine (specGreat_c M HM.out _).mono ?_
  rintro e w1 ⟨rfl, hb1⟩
  have HB1 := Lib.hid hb1
  have HT1 := Lib.hid (TabAt_below hb1 (TabAt_pos HT.out) HT.out)
  clear hb1
  go_wp2_with fail
  refine (implGreat_c M HM.out _ HT1.out).mono ?_
  rintro e w2 ⟨rfl, hb2⟩
  have HB2 := Lib.hid (bt HB1.out hb2)
  clear hb2
  have e1 : ((((gV M).1 : Nat) : Int) != (((gV M).1 : Nat) : Int)) = false := by simp
  have e2 : ((gV M).2 != (gV M).2) = false := by simp
  generalize (gV M).1 = r at *
  generalize (gV M).2 = c at *
  go_wp2
  go_ret
  exact ⟨rfl, HB2.out⟩
theorem lawGreat_d (a : Int) (h : 0 ≤ a ∧ a ≤ 18446744073709551615) (w : World) (hT : TabAt w) :
    Calls Tryd.prog 6 #[.int .u64 a] w fun e w' => e = .returned (.bool true) ∧ Below w.heap.size w w' := by
  obtain ⟨m, rfl⟩ := Int.eq_ofNat_of_zero_le h.1
  exact lawGreat_c m (by omega) w hT
end Go.Proofs.YtmnidldpkkpeoaaDoor
