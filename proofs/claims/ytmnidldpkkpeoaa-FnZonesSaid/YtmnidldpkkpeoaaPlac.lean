/- Placements. -/
import Derived.Test.YtmnidldpkkpeoaaInts
namespace Go.Proofs.Ytmnidldpkkpeoaa
open Go.RowKit
def plV (r z : Int) : Value := .agg #[.int .i8 r, .int .i8 z]
def plB (r z : Int) : Bool := rdB r && znB z
theorem plB_iff (r z : Int) : plB r z = true ↔ (0 ≤ r ∧ r ≤ 60) ∧ 0 ≤ z ∧ z ≤ 10 := by simp [plB, rdB_iff, znB_iff]
theorem l06Placement_c (r z : Int) (hr : -128 ≤ r ∧ r ≤ 127) (hz : -128 ≤ z ∧ z ≤ 127) (w : World) :
    Calls Try.prog 66 #[.agg #[.int .i8 r, .int .i8 z]] w fun e w' => e = .returned (.bool (plB r z)) ∧ Below w.heap.size w w' := by
  obtain ⟨h1, h2⟩ := hr
  obtain ⟨h3, h4⟩ := hz
  cases hb : rdB r
  all_goals
    have HB := Lib.hid hb
    clear hb
    go_enter Try.func66, Try.ntmps66
    go_wp2_with (first
      | (go_at_call 43; refine (l06Reading_c _ _).mono ?_; rintro e w' ⟨rfl, rfl⟩; rw [HB.out])
      | (go_at_call 67; refine (l00In_c _ _ _ _).mono ?_; rintro e w' ⟨rfl, rfl⟩))
    go_ret
    exact ⟨by simp [plB, HB.out, znB], bl1 _ _⟩
theorem isPlacement_c (r z : Int) (hr : -128 ≤ r ∧ r ≤ 127) (hz : -128 ≤ z ∧ z ≤ 127) (w : World) :
    Calls Try.prog 55 #[.agg #[.int .i8 r, .int .i8 z]] w fun e w' => e = .returned (.bool (plB r z)) ∧ Below w.heap.size w w' := by
  obtain ⟨h1, h2⟩ := hr
  obtain ⟨h3, h4⟩ := hz
  cases hb : rdB r
  all_goals
    have HB := Lib.hid hb
    clear hb
    go_enter Try.func55, Try.ntmps55
    go_wp2_with (first
      | (go_at_call 47; refine (isReading_c _ _).mono ?_; rintro e w' ⟨rfl, rfl⟩; rw [HB.out])
      | (go_at_call 62; refine (isZone_c _ _).mono ?_; rintro e w' ⟨rfl, rfl⟩))
    go_ret
    exact ⟨by simp [plB, HB.out], bl1 _ _⟩
theorem tdiv3_neg (n : Int) (h : n < 0) : n.tdiv 3 = -((-n) / 3) := by
  rw [← Int.tdiv_eq_ediv_of_nonneg (by omega : 0 ≤ -n), Int.neg_tdiv]; omega
theorem tmod3 (n : Int) : n.tmod 3 = n - 3 * n.tdiv 3 := by
  have := Int.tmod_add_mul_tdiv n 3; omega
theorem l04Down_c (n : Int) (hn : -1000000 ≤ n ∧ n ≤ 1000000) (w : World) :
    Calls Try.prog 83 #[.int .i64 n, .int .i64 3] w fun e w' => e = .returned (.int .i64 (n / 3)) ∧ w = w' := by
  obtain ⟨h1, h2⟩ := hn
  by_cases h0 : n < 0
  · have e1 := tdiv3_neg n h0
    have e2 := tmod3 n
    have b1 : -1000000 ≤ n.tdiv 3 := by omega
    have b2 : n.tdiv 3 ≤ 1000000 := by omega
    have E1 := Lib.hid e1
    have E2 := Lib.hid e2
    clear e1 e2
    by_cases h : n.tmod 3 < 0
    all_goals
      go_enter Try.func83, Try.ntmps83
      go_wp2
      go_ret
      have e1 := E1.out
      have e2 := E2.out
      exact ⟨ret_int (by omega), rfl⟩
  · go_enter Try.func83, Try.ntmps83
    go_wp2
    go_ret
    exact ⟨ret_int (by omega), rfl⟩
theorem floor_c (n : Int) (hn : -1000000 ≤ n ∧ n ≤ 1000000) (w : World) :
    Calls Try.prog 82 #[.int .i64 n, .int .i64 3] w fun e w' => e = .returned (.int .i64 (n / 3)) ∧ w = w' := by
  obtain ⟨h1, h2⟩ := hn
  by_cases h : n < 0
  all_goals
    go_enter Try.func82, Try.ntmps82
    go_wp2
    go_ret
    exact ⟨ret_int (by omega), rfl⟩
def znV (r z n : Int) : Int := z + (n - r + 1) / 3
theorem l06Zone_c (r z n : Int) (hr : -128 ≤ r ∧ r ≤ 127) (hz : -128 ≤ z ∧ z ≤ 127) (hn : -128 ≤ n ∧ n ≤ 127) (w : World) :
    Calls Try.prog 60 #[.agg #[.int .i8 r, .int .i8 z], .int .i64 n] w fun e w' => e = .returned (.int .i64 (znV r z n)) ∧ Below w.heap.size w w' := by
  obtain ⟨h1, h2⟩ := hr
  obtain ⟨h3, h4⟩ := hz
  obtain ⟨h5, h6⟩ := hn
  go_enter Try.func60, Try.ntmps60
  go_wp2
  go_quiet ((go_at_call 83; exact quiet_c (l04Down_c _ (by omega) _)))
  go_wp2
  go_ret
  exact ⟨rfl, bl_drewN (bl1 _ _) _⟩
theorem zone_c (r z n : Int) (hr : -128 ≤ r ∧ r ≤ 127) (hz : -128 ≤ z ∧ z ≤ 127) (hn : -128 ≤ n ∧ n ≤ 127) (w : World) :
    Calls Try.prog 56 #[.agg #[.int .i8 r, .int .i8 z], .int .i64 n] w fun e w' => e = .returned (.int .i64 (znV r z n)) ∧ Below w.heap.size w w' := by
  obtain ⟨h1, h2⟩ := hr
  obtain ⟨h3, h4⟩ := hz
  obtain ⟨h5, h6⟩ := hn
  go_enter Try.func56, Try.ntmps56
  go_wp2
  go_quiet ((go_at_call 82; exact quiet_c (floor_c _ (by omega) _)))
  go_wp2
  go_ret
  exact ⟨rfl, bl_drewN (bl1 _ _) _⟩
end Go.Proofs.Ytmnidldpkkpeoaa
