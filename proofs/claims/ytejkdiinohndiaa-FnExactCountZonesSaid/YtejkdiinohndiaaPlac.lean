/- Placements. -/
import Derived.Test.YtejkdiinohndiaaInts
namespace Go.Proofs.Ytejkdiinohndiaa
open Go.RowKit
def plV (r z : Int) : Value := .agg #[.int .i8 r, .int .i8 z]
def plB (r z : Int) : Bool := rdB r && znB z
theorem plB_iff (r z : Int) : plB r z = true ↔ (0 ≤ r ∧ r ≤ 60) ∧ 0 ≤ z ∧ z ≤ 10 := by simp [plB, rdB_iff, znB_iff]
theorem l06Placement_c (r z : Int) (hr : -128 ≤ r ∧ r ≤ 127) (hz : -128 ≤ z ∧ z ≤ 127) (w : World) :
    Calls Try.prog 88 #[.agg #[.int .i8 r, .int .i8 z]] w fun e w' => e = .returned (.bool (plB r z)) ∧ Below w.heap.size w w' := by
  obtain ⟨h1, h2⟩ := hr
  obtain ⟨h3, h4⟩ := hz
  cases hb : rdB r
  all_goals
    have HB := Lib.hid hb
    clear hb
    go_enter Try.func88, Try.ntmps88
    go_wp2_with (first
      | (go_at_call 84; refine (l06Reading_c _ _).mono ?_; rintro e w' ⟨rfl, rfl⟩; rw [HB.out])
      | (go_at_call 85; refine (l00In_c _ _ _ _).mono ?_; rintro e w' ⟨rfl, rfl⟩))
    go_ret
    exact ⟨by simp [plB, HB.out, znB], bl1 _ _⟩
theorem isPlacement_c (r z : Int) (hr : -128 ≤ r ∧ r ≤ 127) (hz : -128 ≤ z ∧ z ≤ 127) (w : World) :
    Calls Try.prog 89 #[.agg #[.int .i8 r, .int .i8 z]] w fun e w' => e = .returned (.bool (plB r z)) ∧ Below w.heap.size w w' := by
  obtain ⟨h1, h2⟩ := hr
  obtain ⟨h3, h4⟩ := hz
  cases hb : rdB r
  all_goals
    have HB := Lib.hid hb
    clear hb
    go_enter Try.func89, Try.ntmps89
    go_wp2_with (first
      | (go_at_call 86; refine (isReading_c _ _).mono ?_; rintro e w' ⟨rfl, rfl⟩; rw [HB.out])
      | (go_at_call 87; refine (isZone_c _ _).mono ?_; rintro e w' ⟨rfl, rfl⟩))
    go_ret
    exact ⟨by simp [plB, HB.out], bl1 _ _⟩
theorem tdiv3_neg (n : Int) (h : n < 0) : n.tdiv 3 = -((-n) / 3) := by
  rw [← Int.tdiv_eq_ediv_of_nonneg (by omega : 0 ≤ -n), Int.neg_tdiv]; omega
theorem tmod3 (n : Int) : n.tmod 3 = n - 3 * n.tdiv 3 := by
  have := Int.tmod_add_mul_tdiv n 3; omega
theorem l04Down_c (n : Int) (hn : -1000000 ≤ n ∧ n ≤ 1000000) (w : World) :
    Calls Try.prog 130 #[.int .i64 n, .int .i64 3] w fun e w' => e = .returned (.int .i64 (n / 3)) ∧ w = w' := by
  obtain ⟨h1, h2⟩ := hn
  by_cases h0 : n < 0
  · have e1 := tdiv3_neg n h0
    have e2 := tmod3 n
    have b1 : -1000000 ≤ n.tdiv 3 := by omega
    have b2 : n.tdiv 3 ≤ 1000000 := by omega
    have E1 := Lib.hid e1
    have E2 := Lib.hid e2
    clear e1 e2
    by_cases h : n.tmod 3 < 0
    all_goals
      go_enter Try.func130, Try.ntmps130
      go_wp2
      go_ret
      have e1 := E1.out
      have e2 := E2.out
      exact ⟨ret_int (by omega), rfl⟩
  · go_enter Try.func130, Try.ntmps130
    go_wp2
    go_ret
    exact ⟨ret_int (by omega), rfl⟩
theorem floor_c (n : Int) (hn : -1000000 ≤ n ∧ n ≤ 1000000) (w : World) :
    Calls Try.prog 131 #[.int .i64 n, .int .i64 3] w fun e w' => e = .returned (.int .i64 (n / 3)) ∧ w = w' := by
  obtain ⟨h1, h2⟩ := hn
  by_cases h : n < 0
  all_goals
    go_enter Try.func131, Try.ntmps131
    go_wp2
    go_ret
    exact ⟨ret_int (by omega), rfl⟩
def znV (r z n : Int) : Int := z + (n - r + 1) / 3
theorem l06Zone_c (r z n : Int) (hr : -128 ≤ r ∧ r ≤ 127) (hz : -128 ≤ z ∧ z ≤ 127) (hn : -128 ≤ n ∧ n ≤ 127) (w : World) :
    Calls Try.prog 95 #[.agg #[.int .i8 r, .int .i8 z], .int .i64 n] w fun e w' => e = .returned (.int .i64 (znV r z n)) ∧ Below w.heap.size w w' := by
  obtain ⟨h1, h2⟩ := hr
  obtain ⟨h3, h4⟩ := hz
  obtain ⟨h5, h6⟩ := hn
  go_enter Try.func95, Try.ntmps95
  go_wp2
  go_quiet ((go_at_call 130; exact quiet_c (l04Down_c _ (by omega) _)))
  go_wp2
  go_ret
  exact ⟨rfl, bl_drewN (bl1 _ _) _⟩
theorem zone_c (r z n : Int) (hr : -128 ≤ r ∧ r ≤ 127) (hz : -128 ≤ z ∧ z ≤ 127) (hn : -128 ≤ n ∧ n ≤ 127) (w : World) :
    Calls Try.prog 96 #[.agg #[.int .i8 r, .int .i8 z], .int .i64 n] w fun e w' => e = .returned (.int .i64 (znV r z n)) ∧ Below w.heap.size w w' := by
  obtain ⟨h1, h2⟩ := hr
  obtain ⟨h3, h4⟩ := hz
  obtain ⟨h5, h6⟩ := hn
  go_enter Try.func96, Try.ntmps96
  go_wp2
  go_quiet ((go_at_call 131; exact quiet_c (floor_c _ (by omega) _)))
  go_wp2
  go_ret
  exact ⟨rfl, bl_drewN (bl1 _ _) _⟩
theorem eqPlacement_c (r z r' z' : Int) (w : World) :
    Calls Try.prog 28 #[.agg #[.int .i8 r, .int .i8 z], .agg #[.int .i8 r', .int .i8 z']] w fun e w' => e = .returned (.bool (decide (r = r') && decide (z = z'))) ∧ Below w.heap.size w w' := by
  by_cases h1 : r = r'
  · subst h1
    by_cases h2 : z = z'
    · subst h2
      go_enter Try.func28, Try.ntmps28
      go_wp2
      go_ret
      exact ⟨by simp, bl2 _ _ _⟩
    · have hd : (z == z') = false := by simpa using h2
      have hd2 : (z != z') = true := by simpa using h2
      go_enter Try.func28, Try.ntmps28
      go_wp2
      go_ret
      exact ⟨by simp [h2], bl2 _ _ _⟩
  · have hd : (r == r') = false := by simpa using h1
    have hd2 : (r != r') = true := by simpa using h1
    go_enter Try.func28, Try.ntmps28
    go_wp2
    go_ret
    exact ⟨by simp [h1], bl2 _ _ _⟩
theorem toPlacement_c (r z : Int) (w : World) :
    Calls Try.prog 30 #[.agg #[.int .i8 r, .int .i8 z]] w fun e w' => e = .returned (.agg #[.int .i8 r, .int .i8 z]) ∧ Below w.heap.size w w' := by
  go_enter Try.func30, Try.ntmps30
  go_wp2
  exact bodyPost_ret (v := .agg #[.int .i8 r, .int .i8 z]) (by simp [results, Try.results30, go_sem]) rfl ⟨rfl, bl3 _ _ _ _⟩
end Go.Proofs.Ytejkdiinohndiaa
