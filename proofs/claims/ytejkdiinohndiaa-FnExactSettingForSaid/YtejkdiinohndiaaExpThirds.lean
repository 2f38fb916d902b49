/- ExposureThirds: the program's and the reference's. -/
import Derived.Test.YtejkdiinohndiaaPlac
namespace Go.Proofs.Ytejkdiinohndiaa
open Go.RowKit
def expV (r z : Int) : Value := if plB r z then .tuple #[.int .i64 (3 * (z - 5)), .int .i64 0] else .tuple #[.int .i64 0, .int .i64 1]
theorem exposure_c (r z : Int) (hz : -128 ≤ z ∧ z ≤ 127) (w : World) :
    Calls Try.prog 90 #[.agg #[.int .i8 r, .int .i8 z]] w fun e w' => e = .returned (.int .i64 (3 * (z - 5))) ∧ Below w.heap.size w w' := by
  obtain ⟨h3, h4⟩ := hz
  go_enter Try.func90, Try.ntmps90
  go_wp2
  go_ret
  exact ⟨rfl, bl1 _ _⟩
theorem specExp_c (r z : Int) (hr : -128 ≤ r ∧ r ≤ 127) (hz : -128 ≤ z ∧ z ≤ 127) (w : World) :
    Calls Try.prog 29 #[.agg #[.int .i8 r, .int .i8 z]] w fun e w' => e = .returned (expV r z) ∧ Below w.heap.size w w' := by
  obtain ⟨h3, h4⟩ := hz
  cases hp : plB r z
  · have HV : Hid (expV r z = .tuple #[.int .i64 0, .int .i64 1]) := Lib.hid (by simp [expV, hp])
    have HP := Lib.hid hp
    clear hp
    go_enter Try.func29, Try.ntmps29
    go_wp2_with (go_at_call 88; refine (l06Placement_c _ _ hr ⟨h3, h4⟩ _).mono ?_; rintro e w1 ⟨rfl, hb⟩; rw [HP.out])
    go_ret2
    exact ⟨by rw [HV.out]; rfl, bt (bl1 _ _) (by assumption)⟩
  · have HV : Hid (expV r z = .tuple #[.int .i64 (3 * (z - 5)), .int .i64 0]) := Lib.hid (by simp [expV, hp])
    have HP := Lib.hid hp
    clear hp
    go_enter Try.func29, Try.ntmps29
    go_wp2_with (go_at_call 88; refine (l06Placement_c _ _ hr ⟨h3, h4⟩ _).mono ?_; rintro e w1 ⟨rfl, hb⟩; rw [HP.out]; obtain ⟨hc1, hf1⟩ := bcell hb)
    go_ret2
    exact ⟨by rw [HV.out]; rfl, bt (bl1 _ _) (by assumption)⟩
theorem implExp_c (r z : Int) (hr : -128 ≤ r ∧ r ≤ 127) (hz : -128 ≤ z ∧ z ≤ 127) (w : World) :
    Calls Try.prog 31 #[.agg #[.int .i8 r, .int .i8 z]] w fun e w' => e = .returned (expV r z) ∧ Below w.heap.size w w' := by
  cases hp : plB r z
  · have HV : Hid (expV r z = .tuple #[.int .i64 0, .int .i64 1]) := Lib.hid (by simp [expV, hp])
    have HP := Lib.hid hp
    clear hp
    go_enter Try.func31, Try.ntmps31
    go_wp2_with (go_at_call 89; refine (isPlacement_c _ _ hr hz _).mono ?_; rintro e w1 ⟨rfl, hb⟩; rw [HP.out])
    go_ret2
    exact ⟨by rw [HV.out]; rfl, bt (bl1 _ _) (by assumption)⟩
  · have HV : Hid (expV r z = .tuple #[.int .i64 (3 * (z - 5)), .int .i64 0]) := Lib.hid (by simp [expV, hp])
    have HP := Lib.hid hp
    clear hp
    go_enter Try.func31, Try.ntmps31
    go_wp2_with (first
      | (go_at_call 89; refine (isPlacement_c _ _ hr hz _).mono ?_; rintro e w1 ⟨rfl, hb⟩; rw [HP.out]; obtain ⟨hc1, hf1⟩ := bcell hb; have hB1 := bt (bl1 _ _) hb)
      | (go_at_call 90; refine (exposure_c _ _ hz _).mono ?_; rintro e w2 ⟨rfl, hb2⟩; have hB2 := bt hB1 hb2))
    go_ret2
    exact ⟨by rw [HV.out]; rfl, by assumption⟩
theorem expV_pair (r z : Int) : ∃ a b, expV r z = .tuple #[.int .i64 a, .int .i64 b] := by
  unfold expV
  split
  · exact ⟨_, _, rfl⟩
  · exact ⟨_, _, rfl⟩
theorem lawExp_c (r z : Int) (hr : -128 ≤ r ∧ r ≤ 127) (hz : -128 ≤ z ∧ z ≤ 127) (w : World) :
    Calls Try.prog 4 #[.agg #[.int .i8 r, .int .i8 z]] w fun e w' => e = .returned (.bool true) ∧ Below w.heap.size w w' := by
  obtain ⟨a, b, hv⟩ := expV_pair r z
  have HV := Lib.hid hv
  clear hv
  go_enter Try.func4, Try.ntmps4
  go_wp2_with fail
  refine (toPlacement_c _ _ _).mono ?_
  rintro e w1 ⟨rfl, hb1⟩
  have hB1 := bt (bl1 _ _) hb1
  obtain ⟨hc1, hf1⟩ := bcell hb1
  have hz1 : w.heap.size < w1.heap.size := by (have := hb1.size; simp at this; omega)
  go_wp2_with fail
  refine (specExp_c _ _ hr hz _).mono ?_
  rintro e w2 ⟨rfl, hb2⟩
  rw [HV.out]
  have hB2 := bt hB1 hb2
  obtain ⟨hc2, hf2⟩ := bcell hb2
  have hz2 : w.heap.size < w2.heap.size := Nat.lt_of_lt_of_le hz1 hb2.size
  go_wp2_with fail
  refine (toPlacement_c _ _ _).mono ?_
  rintro e w3 ⟨rfl, hb3⟩
  have hB3 := bt hB2 hb3
  go_wp2_with fail
  refine (implExp_c _ _ hr hz _).mono ?_
  rintro e w4 ⟨rfl, hb4⟩
  rw [HV.out]
  have hB4 := bt hB3 hb4
  go_wp2_with fail
  go_ret
  exact ⟨rfl, hB4⟩
end Go.Proofs.Ytejkdiinohndiaa
