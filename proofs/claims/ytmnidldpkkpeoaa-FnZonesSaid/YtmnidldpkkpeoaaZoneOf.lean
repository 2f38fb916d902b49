/- ZoneOf: the program's and the reference's. -/
import Derived.Test.YtmnidldpkkpeoaaPlac
namespace Go.Proofs.Ytmnidldpkkpeoaa
open Go.RowKit
def zoneOfV (r z n : Int) : Value := if plB r z then (if rdB n then .tuple #[.int .i64 (znV r z n), .int .i64 0] else .tuple #[.int .i64 0, .int .i64 2]) else .tuple #[.int .i64 0, .int .i64 1]
theorem implZoneOf_c (r z n : Int) (hr : -128 ≤ r ∧ r ≤ 127) (hz : -128 ≤ z ∧ z ≤ 127) (w : World) :
    Calls Try.prog 22 #[.agg #[.int .i8 r, .int .i8 z], .int .i64 n] w fun e w' => e = .returned (zoneOfV r z n) ∧ Below w.heap.size w w' := by
  cases hp : plB r z
  · have HV : Hid (zoneOfV r z n = .tuple #[.int .i64 0, .int .i64 1]) := Lib.hid (by simp [zoneOfV, hp])
    have HP := Lib.hid hp
    clear hp
    go_enter Try.func22, Try.ntmps22
    go_wp2_with (go_at_call 55; refine (isPlacement_c _ _ hr hz _).mono ?_; rintro e w1 ⟨rfl, hb⟩; rw [HP.out])
    go_ret2
    exact ⟨by rw [HV.out]; rfl, bt (bl1 _ _) (by assumption)⟩
  · cases hn : rdB n
    · have HV : Hid (zoneOfV r z n = .tuple #[.int .i64 0, .int .i64 2]) := Lib.hid (by simp [zoneOfV, hp, hn])
      have HP := Lib.hid hp
      have HN := Lib.hid hn
      clear hp hn
      go_enter Try.func22, Try.ntmps22
      go_wp2_with (first
        | (go_at_call 55; refine (isPlacement_c _ _ hr hz _).mono ?_; rintro e w1 ⟨rfl, hb⟩; rw [HP.out])
        | (go_at_call 47; refine (isReading_c _ _).mono ?_; rintro e w' ⟨rfl, rfl⟩; rw [HN.out]))
      go_ret2
      exact ⟨by rw [HV.out]; rfl, bt (bl1 _ _) (by assumption)⟩
    · have HV : Hid (zoneOfV r z n = .tuple #[.int .i64 (znV r z n), .int .i64 0]) := Lib.hid (by simp [zoneOfV, hp, hn])
      have hn' := (rdB_iff n).1 hn
      have HP := Lib.hid hp
      have HN := Lib.hid hn
      clear hp hn
      go_enter Try.func22, Try.ntmps22
      go_wp2_with (first
        | (go_at_call 55; refine (isPlacement_c _ _ hr hz _).mono ?_; rintro e w1 ⟨rfl, hb⟩; rw [HP.out]; have hB1 := bt (bl1 _ _) hb; obtain ⟨hc1, hf1⟩ := bcell hb; have hz1 : w.heap.size + 1 ≤ w1.heap.size := by (have := hb.size; simpa using this))
        | (go_at_call 47; refine (isReading_c _ _).mono ?_; rintro e w' ⟨rfl, rfl⟩; rw [HN.out])
        | (go_at_call 56; refine (zone_c _ _ _ hr hz (by omega) _).mono ?_; rintro e w2 ⟨rfl, hb2⟩; have hB2 := bt hB1 hb2))
      go_ret2
      exact ⟨by rw [HV.out]; rfl, by assumption⟩
def PairV (v : Value) (a b : Int) : Prop := v = .tuple #[.int .i64 a, .int .i64 b]
theorem zoneOfV_pair (r z n : Int) : ∃ a b, PairV (zoneOfV r z n) a b := by
  unfold zoneOfV PairV
  split
  · split
    · exact ⟨_, _, rfl⟩
    · exact ⟨_, _, rfl⟩
  · exact ⟨_, _, rfl⟩
end Go.Proofs.Ytmnidldpkkpeoaa
