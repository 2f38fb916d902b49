/- ZoneOf: the program's and the reference's. -/
import Derived.Test.YtloejlidcofbjaaPlac
namespace Go.Proofs.Ytloejlidcofbjaa
open Go.RowKit
def zoneOfV (r z n : Int) : Value := if plB r z then (if rdB n then .tuple #[.int .i64 (znV r z n), .int .i64 0] else .tuple #[.int .i64 0, .int .i64 2]) else .tuple #[.int .i64 0, .int .i64 1]
theorem specZoneOf_c (r z n : Int) (hr : -128 ≤ r ∧ r ≤ 127) (hz : -128 ≤ z ∧ z ≤ 127) (w : World) :
    Calls Try.prog 29 #[.agg #[.int .i8 r, .int .i8 z], .int .i64 n] w fun e w' => e = .returned (zoneOfV r z n) ∧ Below w.heap.size w w' := by
  cases hp : plB r z
  · have HV : Hid (zoneOfV r z n = .tuple #[.int .i64 0, .int .i64 1]) := Lib.hid (by simp [zoneOfV, hp])
    have HP := Lib.hid hp
    clear hp
    go_enter Try.func29, Try.ntmps29
    go_wp2_with (go_at_call 44; refine (l06Placement_c _ _ hr hz _).mono ?_; rintro e w1 ⟨rfl, hb⟩; rw [HP.out])
    go_ret2
    exact ⟨by rw [HV.out]; rfl, bt (bl1 _ _) (by assumption)⟩
  · cases hn : rdB n
    · have HV : Hid (zoneOfV r z n = .tuple #[.int .i64 0, .int .i64 2]) := Lib.hid (by simp [zoneOfV, hp, hn])
      have HP := Lib.hid hp
      have HN := Lib.hid hn
      clear hp hn
      go_enter Try.func29, Try.ntmps29
      go_wp2_with (first
        | (go_at_call 44; refine (l06Placement_c _ _ hr hz _).mono ?_; rintro e w1 ⟨rfl, hb⟩; rw [HP.out])
        | (go_at_call 40; refine (l06Reading_c _ _).mono ?_; rintro e w' ⟨rfl, rfl⟩; rw [HN.out]))
      go_ret2
      exact ⟨by rw [HV.out]; rfl, bt (bl1 _ _) (by assumption)⟩
    · have HV : Hid (zoneOfV r z n = .tuple #[.int .i64 (znV r z n), .int .i64 0]) := Lib.hid (by simp [zoneOfV, hp, hn])
      have hn' := (rdB_iff n).1 hn
      have HP := Lib.hid hp
      have HN := Lib.hid hn
      clear hp hn
      go_enter Try.func29, Try.ntmps29
      go_wp2_with (first
        | (go_at_call 44; refine (l06Placement_c _ _ hr hz _).mono ?_; rintro e w1 ⟨rfl, hb⟩; rw [HP.out]; have hB1 := bt (bl1 _ _) hb; obtain ⟨hc1, hf1⟩ := bcell hb; have hz1 : w.heap.size + 1 ≤ w1.heap.size := by (have := hb.size; simpa using this))
        | (go_at_call 40; refine (l06Reading_c _ _).mono ?_; rintro e w' ⟨rfl, rfl⟩; rw [HN.out])
        | (go_at_call 51; refine (l06Zone_c _ _ _ hr hz (by omega) _).mono ?_; rintro e w2 ⟨rfl, hb2⟩; have hB2 := bt hB1 hb2))
      go_ret2
      exact ⟨by rw [HV.out]; rfl, by assumption⟩
theorem implZoneOf_c (r z n : Int) (hr : -128 ≤ r ∧ r ≤ 127) (hz : -128 ≤ z ∧ z ≤ 127) (w : World) :
    Calls Try.prog 30 #[.agg #[.int .i8 r, .int .i8 z], .int .i64 n] w fun e w' => e = .returned (zoneOfV r z n) ∧ Below w.heap.size w w' := by
  cases hp : plB r z
  · have HV : Hid (zoneOfV r z n = .tuple #[.int .i64 0, .int .i64 1]) := Lib.hid (by simp [zoneOfV, hp])
    have HP := Lib.hid hp
    clear hp
    go_enter Try.func30, Try.ntmps30
    go_wp2_with (go_at_call 45; refine (isPlacement_c _ _ hr hz _).mono ?_; rintro e w1 ⟨rfl, hb⟩; rw [HP.out])
    go_ret2
    exact ⟨by rw [HV.out]; rfl, bt (bl1 _ _) (by assumption)⟩
  · cases hn : rdB n
    · have HV : Hid (zoneOfV r z n = .tuple #[.int .i64 0, .int .i64 2]) := Lib.hid (by simp [zoneOfV, hp, hn])
      have HP := Lib.hid hp
      have HN := Lib.hid hn
      clear hp hn
      go_enter Try.func30, Try.ntmps30
      go_wp2_with (first
        | (go_at_call 45; refine (isPlacement_c _ _ hr hz _).mono ?_; rintro e w1 ⟨rfl, hb⟩; rw [HP.out])
        | (go_at_call 42; refine (isReading_c _ _).mono ?_; rintro e w' ⟨rfl, rfl⟩; rw [HN.out]))
      go_ret2
      exact ⟨by rw [HV.out]; rfl, bt (bl1 _ _) (by assumption)⟩
    · have HV : Hid (zoneOfV r z n = .tuple #[.int .i64 (znV r z n), .int .i64 0]) := Lib.hid (by simp [zoneOfV, hp, hn])
      have hn' := (rdB_iff n).1 hn
      have HP := Lib.hid hp
      have HN := Lib.hid hn
      clear hp hn
      go_enter Try.func30, Try.ntmps30
      go_wp2_with (first
        | (go_at_call 45; refine (isPlacement_c _ _ hr hz _).mono ?_; rintro e w1 ⟨rfl, hb⟩; rw [HP.out]; have hB1 := bt (bl1 _ _) hb; obtain ⟨hc1, hf1⟩ := bcell hb; have hz1 : w.heap.size + 1 ≤ w1.heap.size := by (have := hb.size; simpa using this))
        | (go_at_call 42; refine (isReading_c _ _).mono ?_; rintro e w' ⟨rfl, rfl⟩; rw [HN.out])
        | (go_at_call 52; refine (zone_c _ _ _ hr hz (by omega) _).mono ?_; rintro e w2 ⟨rfl, hb2⟩; have hB2 := bt hB1 hb2))
      go_ret2
      exact ⟨by rw [HV.out]; rfl, by assumption⟩
def PairV (v : Value) (a b : Int) : Prop := v = .tuple #[.int .i64 a, .int .i64 b]
theorem zoneOfV_pair (r z n : Int) : ∃ a b, PairV (zoneOfV r z n) a b := by
  unfold zoneOfV PairV
  split
  · split
    · exact ⟨_, _, rfl⟩
    · exact ⟨_, _, rfl⟩
  · exact ⟨_, _, rfl⟩
theorem lawZoneOf_c (r z : Int) (hr : -128 ≤ r ∧ r ≤ 127) (hz : -128 ≤ z ∧ z ≤ 127) (n : Int) (_ : -9223372036854775808 ≤ n ∧ n ≤ 9223372036854775807) (w : World) :
    Calls Try.prog 9 #[.agg #[.int .i8 r, .int .i8 z], .int .i64 n] w fun e w' => e = .returned (.bool true) ∧ Below w.heap.size w w' := by
  obtain ⟨a, b, hv⟩ := zoneOfV_pair r z n
  go_enter Try.func9, Try.ntmps9
  go_wp2_with fail
  refine (toPlacement_c _ _ _).mono ?_
  rintro e w1 ⟨rfl, hb1⟩
  have hB1 := bt (bl1 _ _) hb1
  obtain ⟨hc1, hf1⟩ := bcell hb1
  have hz1 : w.heap.size < w1.heap.size := by (have := hb1.size; simp at this; omega)
  go_wp2_with fail
  refine (specZoneOf_c _ _ _ hr hz _).mono ?_
  rintro e w2 ⟨rfl, hb2⟩
  unfold PairV at hv
  rw [hv]
  have hB2 := bt hB1 hb2
  obtain ⟨hc2, hf2⟩ := bcell hb2
  have hz2 : w.heap.size < w2.heap.size := Nat.lt_of_lt_of_le hz1 hb2.size
  have HV := Lib.hid hv
  clear hv
  go_wp2_with fail
  refine (toPlacement_c _ _ _).mono ?_
  rintro e w3 ⟨rfl, hb3⟩
  have hB3 := bt hB2 hb3
  obtain ⟨hc3, hf3⟩ := bcell hb3
  have hz3 : w.heap.size < w3.heap.size := Nat.lt_of_lt_of_le hz2 hb3.size
  go_wp2_with fail
  refine (implZoneOf_c _ _ _ hr hz _).mono ?_
  rintro e w4 ⟨rfl, hb4⟩
  rw [HV.out]
  have hB4 := bt hB3 hb4
  go_wp2_with fail
  go_ret
  exact ⟨rfl, hB4⟩
end Go.Proofs.Ytloejlidcofbjaa
