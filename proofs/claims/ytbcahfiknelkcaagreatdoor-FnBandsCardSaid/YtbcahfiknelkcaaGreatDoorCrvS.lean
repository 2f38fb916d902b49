/- Curves: short functions; how a curve lies in memory. -/
import Derived.Test.YtbcahfiknelkcaaGreatDoorCrvP
import Derived.Deep.RegionHeld3
import Derived.Deep.DeepCutAuto
import Derived.StillTailTactics
namespace Go.Proofs.YtbcahfiknelkcaaGreatDoor
open Go.RowKit
theorem cIn_c (n a b : Int) (w : World) :
    Calls Tryz.prog 80 #[.int .i64 n, .int .i64 a, .int .i64 b] w fun e w' => e = .returned (.bool (decide (a ≤ n) && decide (n ≤ b))) ∧ w = w' := by
  by_cases h1 : a ≤ n
  · go_enter Tryz.func80, Tryz.ntmps80
    go_wp2
    go_ret
    exact ⟨by simp [h1], rfl⟩
  · have h1' : n < a := by omega
    go_enter Tryz.func80, Tryz.ntmps80
    go_wp2
    go_ret
    exact ⟨by simp; omega, rfl⟩
theorem cWithin_c (n a b : Int) (w : World) :
    Calls Tryz.prog 65 #[.int .i64 n, .int .i64 a, .int .i64 b] w fun e w' => e = .returned (.bool (decide (a ≤ n) && decide (n ≤ b))) ∧ w = w' := by
  by_cases h1 : a ≤ n
  · go_enter Tryz.func65, Tryz.ntmps65
    go_wp2
    go_ret
    exact ⟨by simp [h1], rfl⟩
  · have h1' : n < a := by omega
    go_enter Tryz.func65, Tryz.ntmps65
    go_wp2
    go_ret
    exact ⟨by simp; omega, rfl⟩
def thB (n : Int) : Bool := decide (0 ≤ n) && decide (n ≤ 36)
theorem cDensity_c (n : Int) (w : World) :
    Calls Tryz.prog 78 #[.int .i64 n] w fun e w' => e = .returned (.bool (ydB n)) ∧ w = w' := by
  go_enter Tryz.func78, Tryz.ntmps78
  go_wp2_with (go_at_call 80; refine (cIn_c _ _ _ _).mono ?_; rintro e w' ⟨rfl, rfl⟩)
  go_ret
  exact ⟨rfl, rfl⟩
theorem cIsDensity_c (n : Int) (w : World) :
    Calls Tryz.prog 75 #[.int .i64 n] w fun e w' => e = .returned (.bool (ydB n)) ∧ w = w' := by
  go_enter Tryz.func75, Tryz.ntmps75
  go_wp2_with (go_at_call 65; refine (cWithin_c _ _ _ _).mono ?_; rintro e w' ⟨rfl, rfl⟩)
  go_ret
  exact ⟨rfl, rfl⟩
theorem cPlace_c (n : Int) (w : World) :
    Calls Tryz.prog 142 #[.int .i64 n] w fun e w' => e = .returned (.bool (plcB n)) ∧ w = w' := by
  go_enter Tryz.func142, Tryz.ntmps142
  go_wp2_with (go_at_call 80; refine (cIn_c _ _ _ _).mono ?_; rintro e w' ⟨rfl, rfl⟩)
  go_ret
  exact ⟨rfl, rfl⟩
theorem cIsPlace_c (n : Int) (w : World) :
    Calls Tryz.prog 107 #[.int .i64 n] w fun e w' => e = .returned (.bool (plcB n)) ∧ w = w' := by
  go_enter Tryz.func107, Tryz.ntmps107
  go_wp2_with (go_at_call 65; refine (cWithin_c _ _ _ _).mono ?_; rintro e w' ⟨rfl, rfl⟩)
  go_ret
  exact ⟨rfl, rfl⟩
theorem cAreThirds_c (n : Int) (w : World) :
    Calls Tryz.prog 64 #[.int .i64 n] w fun e w' => e = .returned (.bool (thB n)) ∧ w = w' := by
  go_enter Tryz.func64, Tryz.ntmps64
  go_wp2_with (go_at_call 65; refine (cWithin_c _ _ _ _).mono ?_; rintro e w' ⟨rfl, rfl⟩)
  go_ret
  exact ⟨rfl, rfl⟩
theorem cPoint_c (x y : Int) (hx : -32768 ≤ x ∧ x ≤ 32767) (hy : -32768 ≤ y ∧ y ≤ 32767) (w : World) :
    Calls Tryz.prog 177 #[.agg #[.int .i16 x, .int .i16 y]] w fun e w' => e = .returned (.bool (ptB x y)) ∧ Below w.heap.size w w' := by
  have h1 := Go.IntWalk.i64_in x (by omega)
  have h2 := Go.IntWalk.i64_in y (by omega)
  cases hp : plcB x
  · have HP := Lib.hid hp
    clear hp
    go_enter Tryz.func177, Tryz.ntmps177
    go_wp2_with (go_at_call 142; refine (cPlace_c _ _).mono ?_; rintro e w' ⟨rfl, rfl⟩; rw [HP.out])
    go_ret
    exact ⟨ret_bool (by simp [ptB, HP.out]), bl1 _ _⟩
  · have HP := Lib.hid hp
    clear hp
    go_enter Tryz.func177, Tryz.ntmps177
    go_wp2_with (first | (go_at_call 142; refine (cPlace_c _ _).mono ?_; rintro e w' ⟨rfl, rfl⟩; rw [HP.out]) | (go_at_call 78; refine (cDensity_c _ _).mono ?_; rintro e w' ⟨rfl, rfl⟩))
    go_ret
    exact ⟨ret_bool (by simp [ptB, HP.out]), bl1 _ _⟩
theorem cIsPoint_c (x y : Int) (hx : -32768 ≤ x ∧ x ≤ 32767) (hy : -32768 ≤ y ∧ y ≤ 32767) (w : World) :
    Calls Tryz.prog 178 #[.agg #[.int .i16 x, .int .i16 y]] w fun e w' => e = .returned (.bool (ptB x y)) ∧ Below w.heap.size w w' := by
  have h1 := Go.IntWalk.i64_in x (by omega)
  have h2 := Go.IntWalk.i64_in y (by omega)
  cases hp : plcB x
  · have HP := Lib.hid hp
    clear hp
    go_enter Tryz.func178, Tryz.ntmps178
    go_wp2_with (go_at_call 107; refine (cIsPlace_c _ _).mono ?_; rintro e w' ⟨rfl, rfl⟩; rw [HP.out])
    go_ret
    exact ⟨ret_bool (by simp [ptB, HP.out]), bl1 _ _⟩
  · have HP := Lib.hid hp
    clear hp
    go_enter Tryz.func178, Tryz.ntmps178
    go_wp2_with (first | (go_at_call 107; refine (cIsPlace_c _ _).mono ?_; rintro e w' ⟨rfl, rfl⟩; rw [HP.out]) | (go_at_call 75; refine (cIsDensity_c _ _).mono ?_; rintro e w' ⟨rfl, rfl⟩))
    go_ret
    exact ⟨ret_bool (by simp [ptB, HP.out]), bl1 _ _⟩
theorem four_cases (a b c d : Int) : fourB a b c d = ((((ydB a && ydB b) && ydB c) && ydB d) && decide (a ≤ b)) := rfl
theorem cSize_c (x : Int) (hx : -9223372036854775807 ≤ x ∧ x ≤ 9223372036854775807) (w : World) :
    Calls Tryz.prog 71 #[.int .i64 x] w fun e w' => e = .returned (.int .i64 (absV x)) ∧ w = w' := by
  by_cases h : x < 0
  · have h1 := Go.IntWalk.i64_in (-x) (by omega)
    have HV : Hid (absV x = -x) := Lib.hid (by simp [absV, h])
    go_enter Tryz.func71, Tryz.ntmps71
    go_wp2
    go_ret
    exact ⟨ret_int HV.out.symm, rfl⟩
  · have HV : Hid (absV x = x) := Lib.hid (by simp [absV, h])
    go_enter Tryz.func71, Tryz.ntmps71
    go_wp2
    go_ret
    exact ⟨ret_int HV.out.symm, rfl⟩
theorem cImplSize_c (x : Int) (hx : -9223372036854775807 ≤ x ∧ x ≤ 9223372036854775807) (w : World) :
    Calls Tryz.prog 69 #[.int .i64 x] w fun e w' => e = .returned (.int .i64 (absV x)) ∧ w = w' := by
  have h1 := Go.IntWalk.i64_in (-x) (by omega)
  go_enter Tryz.func69, Tryz.ntmps69
  go_wp2
  all_goals
    go_ret
    exact ⟨ret_int (by unfold absV; split <;> omega), rfl⟩
/-- Where a curve lies. -/
def CvS (w : World) (p : Option Addr) (c : Cv) : Prop := c ≠ [] → ∃ b o, p = some ⟨b, o, none⟩ ∧ b < w.heap.size ∧ ∀ i, i < c.length → w.cell? ⟨b, o + i * 2, none⟩ = some (.int .i16 (px c i)) ∧ w.cell? ⟨b, o + i * 2 + 1, none⟩ = some (.int .i16 (py c i))
theorem CvS_below {w w1 : World} {p : Option Addr} {c : Cv} (hb : Below w.heap.size w w1) (h : CvS w p c) : CvS w1 p c := fun hl => by
  obtain ⟨b, o, h1, h2, h3⟩ := h hl
  exact ⟨b, o, h1, Nat.lt_of_lt_of_le h2 hb.size, fun i hi => ⟨by rw [hb.cell (p := ⟨b, o + i * 2, none⟩) h2]; exact (h3 i hi).1, by rw [hb.cell (p := ⟨b, o + i * 2 + 1, none⟩) h2]; exact (h3 i hi).2⟩⟩
theorem cne_of_lt {c : Cv} {k : Nat} (h : k < c.length) : c ≠ [] := by rintro rfl; simp at h
theorem CvS_drew {w : World} {p : Option Addr} {c : Cv} (h : CvS w p c) : CvS w.drew p c := h
end Go.Proofs.YtbcahfiknelkcaaGreatDoor
