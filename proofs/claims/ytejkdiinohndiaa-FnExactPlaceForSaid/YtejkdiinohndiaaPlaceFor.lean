/- PlaceFor: the program's and the reference's. -/
import Derived.Test.YtejkdiinohndiaaPlac
namespace Go.Proofs.Ytejkdiinohndiaa
open Go.RowKit
/-- What PlaceFor returns: the two numbers of the placement, and the code. -/
def pfA (r z : Int) : Int × Int × Int := if plB r z then (r, z, 0) else (0, 0, 2)
def pfV (r z : Int) : Value := .tuple #[.agg #[.int .i8 (pfA r z).1, .int .i8 (pfA r z).2.1], .int .i64 (pfA r z).2.2]
theorem specPlaceFor_c (r z : Int) (w : World) :
    Calls Try.prog 26 #[.int .i64 r, .int .i64 z] w fun e w' => e = .returned (pfV r z) ∧ Below w.heap.size w w' := by
  cases hr : rdB r
  · have HV : Hid (pfA r z = (0, 0, 2)) := Lib.hid (by simp [pfA, plB, hr])
    have HR := Lib.hid hr
    clear hr
    go_enter Try.func26, Try.ntmps26
    go_wp2_with (first
      | (go_at_call 84; refine (l06Reading_c _ _).mono ?_; rintro e w' ⟨rfl, rfl⟩; rw [HR.out]))
    exact bodyPost_ret (v := pfV r z) (by simp [results, Try.results26, go_sem, pfV, HV.out]) rfl ⟨rfl, by simpa using bl1 _ _⟩
  · cases hz : znB z
    · have HV : Hid (pfA r z = (0, 0, 2)) := Lib.hid (by simp [pfA, plB, hr, hz])
      have HR := Lib.hid hr
      have HZ := Lib.hid hz
      unfold znB at HZ
      clear hr hz
      go_enter Try.func26, Try.ntmps26
      go_wp2_with (first
        | (go_at_call 84; refine (l06Reading_c _ _).mono ?_; rintro e w' ⟨rfl, rfl⟩; rw [HR.out])
        | (go_at_call 85; refine (l00In_c _ _ _ _).mono ?_; rintro e w' ⟨rfl, rfl⟩; rw [HZ.out]))
      exact bodyPost_ret (v := pfV r z) (by simp [results, Try.results26, go_sem, pfV, HV.out]) rfl ⟨rfl, by simpa using bl1 _ _⟩
    · have HV : Hid (pfA r z = (r, z, 0)) := Lib.hid (by simp [pfA, plB, hr, hz])
      obtain ⟨h1, h2⟩ := (rdB_iff r).1 hr
      obtain ⟨h3, h4⟩ := (znB_iff z).1 hz
      have HR := Lib.hid hr
      have HZ := Lib.hid hz
      unfold znB at HZ
      clear hr hz
      go_enter Try.func26, Try.ntmps26
      go_wp2_with (first
        | (go_at_call 84; refine (l06Reading_c _ _).mono ?_; rintro e w' ⟨rfl, rfl⟩; rw [HR.out])
        | (go_at_call 85; refine (l00In_c _ _ _ _).mono ?_; rintro e w' ⟨rfl, rfl⟩; rw [HZ.out]))
      exact bodyPost_ret (v := pfV r z) (by simp [results, Try.results26, go_sem, pfV, HV.out]) rfl ⟨rfl, by simpa using bl1 _ _⟩
theorem implPlaceFor_c (r z : Int) (w : World) :
    Calls Try.prog 27 #[.int .i64 r, .int .i64 z] w fun e w' => e = .returned (pfV r z) ∧ Below w.heap.size w w' := by
  cases hr : rdB r
  · have HV : Hid (pfA r z = (0, 0, 2)) := Lib.hid (by simp [pfA, plB, hr])
    have HR := Lib.hid hr
    clear hr
    go_enter Try.func27, Try.ntmps27
    go_wp2_with (first
      | (go_at_call 86; refine (isReading_c _ _).mono ?_; rintro e w' ⟨rfl, rfl⟩; rw [HR.out]))
    exact bodyPost_ret (v := pfV r z) (by simp [results, Try.results27, go_sem, pfV, HV.out]) rfl ⟨rfl, by simpa using bl1 _ _⟩
  · cases hz : znB z
    · have HV : Hid (pfA r z = (0, 0, 2)) := Lib.hid (by simp [pfA, plB, hr, hz])
      have HR := Lib.hid hr
      have HZ := Lib.hid hz
      clear hr hz
      go_enter Try.func27, Try.ntmps27
      go_wp2_with (first
        | (go_at_call 86; refine (isReading_c _ _).mono ?_; rintro e w' ⟨rfl, rfl⟩; rw [HR.out])
        | (go_at_call 87; refine (isZone_c _ _).mono ?_; rintro e w' ⟨rfl, rfl⟩; rw [HZ.out]))
      exact bodyPost_ret (v := pfV r z) (by simp [results, Try.results27, go_sem, pfV, HV.out]) rfl ⟨rfl, by simpa using bl1 _ _⟩
    · have HV : Hid (pfA r z = (r, z, 0)) := Lib.hid (by simp [pfA, plB, hr, hz])
      obtain ⟨h1, h2⟩ := (rdB_iff r).1 hr
      obtain ⟨h3, h4⟩ := (znB_iff z).1 hz
      have HR := Lib.hid hr
      have HZ := Lib.hid hz
      clear hr hz
      go_enter Try.func27, Try.ntmps27
      go_wp2_with (first
        | (go_at_call 86; refine (isReading_c _ _).mono ?_; rintro e w' ⟨rfl, rfl⟩; rw [HR.out])
        | (go_at_call 87; refine (isZone_c _ _).mono ?_; rintro e w' ⟨rfl, rfl⟩; rw [HZ.out]))
      exact bodyPost_ret (v := pfV r z) (by simp [results, Try.results27, go_sem, pfV, HV.out]) rfl ⟨rfl, by simpa using bl1 _ _⟩
set_option maxHeartbeats 400000 in
set_option linter.unusedVariables false in
theorem lawPlaceFor_c (r : Int) (hr : -9223372036854775808 ≤ r ∧ r ≤ 9223372036854775807) (z : Int) (hz : -9223372036854775808 ≤ z ∧ z ≤ 9223372036854775807) (w : World) :
    Calls Try.prog 3 #[.int .i64 r, .int .i64 z] w fun e w' => e = .returned (.bool true) ∧ Below w.heap.size w w' := by
  obtain ⟨⟨a, b, c⟩, hv⟩ : ∃ p, pfA r z = p := ⟨_, rfl⟩
  have HV : Hid (pfV r z = .tuple #[.agg #[.int .i8 a, .int .i8 b], .int .i64 c]) := Lib.hid (by unfold pfV; rw [hv])
  clear hv hr hz
  go_enter Try.func3, Try.ntmps3
  go_wp2_with fail
  refine (specPlaceFor_c _ _ _).mono ?_
  rintro e w2 ⟨rfl, hb2⟩
  rw [HV.out]
  have hA2 := hb2.alloc hb2.size (.cells #[.int .i8 a, .int .i8 b] 24)
  clear hb2
  go_wp2_with fail
  refine (implPlaceFor_c _ _ _).mono ?_
  rintro e w4 ⟨rfl, hb4⟩
  rw [HV.out]
  have hB4 := bt hA2 hb4
  obtain ⟨hc4, hf4⟩ := bcell hb4
  have hz4 : w2.heap.size < w4.heap.size := Nat.lt_of_lt_of_le (by simp) hb4.size
  have hA4 := hB4.alloc hB4.size (.cells #[.int .i8 a, .int .i8 b] 24)
  clear hb4
  go_wp2_with fail
  refine (eqPlacement_c _ _ _ _ _).mono ?_
  rintro e w5 ⟨rfl, hb5⟩
  have hB5 := bt hA4 hb5
  go_wp2
  go_ret
  exact ⟨ret_bool (by simp), hB5⟩
end Go.Proofs.Ytejkdiinohndiaa
