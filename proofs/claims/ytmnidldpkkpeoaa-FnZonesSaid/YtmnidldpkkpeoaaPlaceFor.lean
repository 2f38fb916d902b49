/- PlaceFor: the program's and the reference's. -/
import Derived.Test.YtmnidldpkkpeoaaPlac
namespace Go.Proofs.Ytmnidldpkkpeoaa
open Go.RowKit
/-- What PlaceFor returns: the two numbers of the placement, and the code. -/
def pfA (r z : Int) : Int × Int × Int := if plB r z then (r, z, 0) else (0, 0, 2)
def pfV (r z : Int) : Value := .tuple #[.agg #[.int .i8 (pfA r z).1, .int .i8 (pfA r z).2.1], .int .i64 (pfA r z).2.2]
theorem implPlaceFor_c (r z : Int) (w : World) :
    Calls Try.prog 28 #[.int .i64 r, .int .i64 z] w fun e w' => e = .returned (pfV r z) ∧ Below w.heap.size w w' := by
  cases hr : rdB r
  · have HV : Hid (pfA r z = (0, 0, 2)) := Lib.hid (by simp [pfA, plB, hr])
    have HR := Lib.hid hr
    clear hr
    go_enter Try.func28, Try.ntmps28
    go_wp2_with (first
      | (go_at_call 47; refine (isReading_c _ _).mono ?_; rintro e w' ⟨rfl, rfl⟩; rw [HR.out]))
    exact bodyPost_ret (v := pfV r z) (by simp [results, Try.results28, go_sem, pfV, HV.out]) rfl ⟨rfl, by simpa using bl1 _ _⟩
  · cases hz : znB z
    · have HV : Hid (pfA r z = (0, 0, 2)) := Lib.hid (by simp [pfA, plB, hr, hz])
      have HR := Lib.hid hr
      have HZ := Lib.hid hz
      clear hr hz
      go_enter Try.func28, Try.ntmps28
      go_wp2_with (first
        | (go_at_call 47; refine (isReading_c _ _).mono ?_; rintro e w' ⟨rfl, rfl⟩; rw [HR.out])
        | (go_at_call 62; refine (isZone_c _ _).mono ?_; rintro e w' ⟨rfl, rfl⟩; rw [HZ.out]))
      exact bodyPost_ret (v := pfV r z) (by simp [results, Try.results28, go_sem, pfV, HV.out]) rfl ⟨rfl, by simpa using bl1 _ _⟩
    · have HV : Hid (pfA r z = (r, z, 0)) := Lib.hid (by simp [pfA, plB, hr, hz])
      obtain ⟨h1, h2⟩ := (rdB_iff r).1 hr
      obtain ⟨h3, h4⟩ := (znB_iff z).1 hz
      have HR := Lib.hid hr
      have HZ := Lib.hid hz
      clear hr hz
      go_enter Try.func28, Try.ntmps28
      go_wp2_with (first
        | (go_at_call 47; refine (isReading_c _ _).mono ?_; rintro e w' ⟨rfl, rfl⟩; rw [HR.out])
        | (go_at_call 62; refine (isZone_c _ _).mono ?_; rintro e w' ⟨rfl, rfl⟩; rw [HZ.out]))
      exact bodyPost_ret (v := pfV r z) (by simp [results, Try.results28, go_sem, pfV, HV.out]) rfl ⟨rfl, by simpa using bl1 _ _⟩
end Go.Proofs.Ytmnidldpkkpeoaa
