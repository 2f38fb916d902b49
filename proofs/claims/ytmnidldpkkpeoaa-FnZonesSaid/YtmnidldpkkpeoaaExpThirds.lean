/- ExposureThirds: the program's and the reference's. -/
import Derived.Test.YtmnidldpkkpeoaaPlac
namespace Go.Proofs.Ytmnidldpkkpeoaa
open Go.RowKit
def expV (r z : Int) : Value := if plB r z then .tuple #[.int .i64 (3 * (z - 5)), .int .i64 0] else .tuple #[.int .i64 0, .int .i64 1]
theorem exposure_c (r z : Int) (hz : -128 ≤ z ∧ z ≤ 127) (w : World) :
    Calls Try.prog 69 #[.agg #[.int .i8 r, .int .i8 z]] w fun e w' => e = .returned (.int .i64 (3 * (z - 5))) ∧ Below w.heap.size w w' := by
  obtain ⟨h3, h4⟩ := hz
  go_enter Try.func69, Try.ntmps69
  go_wp2
  go_ret
  exact ⟨rfl, bl1 _ _⟩
theorem implExp_c (r z : Int) (hr : -128 ≤ r ∧ r ≤ 127) (hz : -128 ≤ z ∧ z ≤ 127) (w : World) :
    Calls Try.prog 35 #[.agg #[.int .i8 r, .int .i8 z]] w fun e w' => e = .returned (expV r z) ∧ Below w.heap.size w w' := by
  cases hp : plB r z
  · have HV : Hid (expV r z = .tuple #[.int .i64 0, .int .i64 1]) := Lib.hid (by simp [expV, hp])
    have HP := Lib.hid hp
    clear hp
    go_enter Try.func35, Try.ntmps35
    go_wp2_with (go_at_call 55; refine (isPlacement_c _ _ hr hz _).mono ?_; rintro e w1 ⟨rfl, hb⟩; rw [HP.out])
    go_ret2
    exact ⟨by rw [HV.out]; rfl, bt (bl1 _ _) (by assumption)⟩
  · have HV : Hid (expV r z = .tuple #[.int .i64 (3 * (z - 5)), .int .i64 0]) := Lib.hid (by simp [expV, hp])
    have HP := Lib.hid hp
    clear hp
    go_enter Try.func35, Try.ntmps35
    go_wp2_with (first
      | (go_at_call 55; refine (isPlacement_c _ _ hr hz _).mono ?_; rintro e w1 ⟨rfl, hb⟩; rw [HP.out]; obtain ⟨hc1, hf1⟩ := bcell hb; have hB1 := bt (bl1 _ _) hb)
      | (go_at_call 69; refine (exposure_c _ _ hz _).mono ?_; rintro e w2 ⟨rfl, hb2⟩; have hB2 := bt hB1 hb2))
    go_ret2
    exact ⟨by rw [HV.out]; rfl, by assumption⟩
theorem expV_pair (r z : Int) : ∃ a b, expV r z = .tuple #[.int .i64 a, .int .i64 b] := by
  unfold expV
  split
  · exact ⟨_, _, rfl⟩
  · exact ⟨_, _, rfl⟩
end Go.Proofs.Ytmnidldpkkpeoaa
