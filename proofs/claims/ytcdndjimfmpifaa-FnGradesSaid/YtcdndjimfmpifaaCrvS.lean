/- Curves: short functions; how a curve lies in memory. -/
import Derived.Test.YtcdndjimfmpifaaCrvP
import Derived.Deep.RegionHeld3
import Derived.Deep.DeepCutAuto
import Derived.StillTailTactics
namespace Go.Proofs.Ytcdndjimfmpifaa
open Go.RowKit
theorem cIn_c (n a b : Int) (w : World) :
    Calls Try.prog 66 #[.int .i64 n, .int .i64 a, .int .i64 b] w fun e w' => e = .returned (.bool (decide (a ≤ n) && decide (n ≤ b))) ∧ w = w' := by
  by_cases h1 : a ≤ n
  · go_enter Try.func66, Try.ntmps66
    go_wp2
    go_ret
    exact ⟨by simp [h1], rfl⟩
  · have h1' : n < a := by omega
    go_enter Try.func66, Try.ntmps66
    go_wp2
    go_ret
    exact ⟨by simp; omega, rfl⟩
theorem cWithin_c (n a b : Int) (w : World) :
    Calls Try.prog 71 #[.int .i64 n, .int .i64 a, .int .i64 b] w fun e w' => e = .returned (.bool (decide (a ≤ n) && decide (n ≤ b))) ∧ w = w' := by
  by_cases h1 : a ≤ n
  · go_enter Try.func71, Try.ntmps71
    go_wp2
    go_ret
    exact ⟨by simp [h1], rfl⟩
  · have h1' : n < a := by omega
    go_enter Try.func71, Try.ntmps71
    go_wp2
    go_ret
    exact ⟨by simp; omega, rfl⟩
def thB (n : Int) : Bool := decide (0 ≤ n) && decide (n ≤ 36)
theorem cDensity_c (n : Int) (w : World) :
    Calls Try.prog 65 #[.int .i64 n] w fun e w' => e = .returned (.bool (ydB n)) ∧ w = w' := by
  go_enter Try.func65, Try.ntmps65
  go_wp2_with (go_at_call 66; refine (cIn_c _ _ _ _).mono ?_; rintro e w' ⟨rfl, rfl⟩)
  go_ret
  exact ⟨rfl, rfl⟩
theorem cIsDensity_c (n : Int) (w : World) :
    Calls Try.prog 64 #[.int .i64 n] w fun e w' => e = .returned (.bool (ydB n)) ∧ w = w' := by
  go_enter Try.func64, Try.ntmps64
  go_wp2_with (go_at_call 71; refine (cWithin_c _ _ _ _).mono ?_; rintro e w' ⟨rfl, rfl⟩)
  go_ret
  exact ⟨rfl, rfl⟩
theorem cPlace_c (n : Int) (w : World) :
    Calls Try.prog 89 #[.int .i64 n] w fun e w' => e = .returned (.bool (plcB n)) ∧ w = w' := by
  go_enter Try.func89, Try.ntmps89
  go_wp2_with (go_at_call 66; refine (cIn_c _ _ _ _).mono ?_; rintro e w' ⟨rfl, rfl⟩)
  go_ret
  exact ⟨rfl, rfl⟩
theorem cIsPlace_c (n : Int) (w : World) :
    Calls Try.prog 63 #[.int .i64 n] w fun e w' => e = .returned (.bool (plcB n)) ∧ w = w' := by
  go_enter Try.func63, Try.ntmps63
  go_wp2_with (go_at_call 71; refine (cWithin_c _ _ _ _).mono ?_; rintro e w' ⟨rfl, rfl⟩)
  go_ret
  exact ⟨rfl, rfl⟩
theorem cAreThirds_c (n : Int) (w : World) :
    Calls Try.prog 53 #[.int .i64 n] w fun e w' => e = .returned (.bool (thB n)) ∧ w = w' := by
  go_enter Try.func53, Try.ntmps53
  go_wp2_with (go_at_call 71; refine (cWithin_c _ _ _ _).mono ?_; rintro e w' ⟨rfl, rfl⟩)
  go_ret
  exact ⟨rfl, rfl⟩
theorem cPoint_c (x y : Int) (hx : -32768 ≤ x ∧ x ≤ 32767) (hy : -32768 ≤ y ∧ y ≤ 32767) (w : World) :
    Calls Try.prog 86 #[.agg #[.int .i16 x, .int .i16 y]] w fun e w' => e = .returned (.bool (ptB x y)) ∧ Below w.heap.size w w' := by
  have h1 := Go.IntWalk.i64_in x (by omega)
  have h2 := Go.IntWalk.i64_in y (by omega)
  cases hp : plcB x
  · have HP := Lib.hid hp
    clear hp
    go_enter Try.func86, Try.ntmps86
    go_wp2_with (go_at_call 89; refine (cPlace_c _ _).mono ?_; rintro e w' ⟨rfl, rfl⟩; rw [HP.out])
    go_ret
    exact ⟨ret_bool (by simp [ptB, HP.out]), bl1 _ _⟩
  · have HP := Lib.hid hp
    clear hp
    go_enter Try.func86, Try.ntmps86
    go_wp2_with (first | (go_at_call 89; refine (cPlace_c _ _).mono ?_; rintro e w' ⟨rfl, rfl⟩; rw [HP.out]) | (go_at_call 65; refine (cDensity_c _ _).mono ?_; rintro e w' ⟨rfl, rfl⟩))
    go_ret
    exact ⟨ret_bool (by simp [ptB, HP.out]), bl1 _ _⟩
theorem cIsPoint_c (x y : Int) (hx : -32768 ≤ x ∧ x ≤ 32767) (hy : -32768 ≤ y ∧ y ≤ 32767) (w : World) :
    Calls Try.prog 87 #[.agg #[.int .i16 x, .int .i16 y]] w fun e w' => e = .returned (.bool (ptB x y)) ∧ Below w.heap.size w w' := by
  have h1 := Go.IntWalk.i64_in x (by omega)
  have h2 := Go.IntWalk.i64_in y (by omega)
  cases hp : plcB x
  · have HP := Lib.hid hp
    clear hp
    go_enter Try.func87, Try.ntmps87
    go_wp2_with (go_at_call 63; refine (cIsPlace_c _ _).mono ?_; rintro e w' ⟨rfl, rfl⟩; rw [HP.out])
    go_ret
    exact ⟨ret_bool (by simp [ptB, HP.out]), bl1 _ _⟩
  · have HP := Lib.hid hp
    clear hp
    go_enter Try.func87, Try.ntmps87
    go_wp2_with (first | (go_at_call 63; refine (cIsPlace_c _ _).mono ?_; rintro e w' ⟨rfl, rfl⟩; rw [HP.out]) | (go_at_call 64; refine (cIsDensity_c _ _).mono ?_; rintro e w' ⟨rfl, rfl⟩))
    go_ret
    exact ⟨ret_bool (by simp [ptB, HP.out]), bl1 _ _⟩
theorem four_cases (a b c d : Int) : fourB a b c d = ((((ydB a && ydB b) && ydB c) && ydB d) && decide (a ≤ b)) := rfl
theorem cFour_c (a b c d : Int) (w : World) :
    Calls Try.prog 34 #[.int .i64 a, .int .i64 b, .int .i64 c, .int .i64 d] w fun e w' => e = .returned (.bool (fourB a b c d)) ∧ w = w' := by
  cases h1 : ydB a <;> cases h2 : ydB b <;> cases h3 : ydB c <;> cases h4 : ydB d
  all_goals
    have hf := four_cases a b c d
    rw [h1, h2, h3, h4] at hf
    have HF := Lib.hid hf
    clear hf
    have C1 := fun w => cDensity_c a w
    have C2 := fun w => cDensity_c b w
    have C3 := fun w => cDensity_c c w
    have C4 := fun w => cDensity_c d w
    rw [h1] at C1
    rw [h2] at C2
    rw [h3] at C3
    rw [h4] at C4
    have D1 := Lib.hid C1
    have D2 := Lib.hid C2
    have D3 := Lib.hid C3
    have D4 := Lib.hid C4
    clear h1 h2 h3 h4 C1 C2 C3 C4
    go_enter Try.func34, Try.ntmps34
    go_wp2_with (first | (go_at_call_of 65 (Value.int .i64 a); refine (D1.out _).mono ?_; rintro e w' ⟨rfl, rfl⟩) | (go_at_call_of 65 (Value.int .i64 b); refine (D2.out _).mono ?_; rintro e w' ⟨rfl, rfl⟩) | (go_at_call_of 65 (Value.int .i64 c); refine (D3.out _).mono ?_; rintro e w' ⟨rfl, rfl⟩) | (go_at_call_of 65 (Value.int .i64 d); refine (D4.out _).mono ?_; rintro e w' ⟨rfl, rfl⟩))
    go_ret
    exact ⟨ret_bool (HF.out.trans (by simp)).symm, rfl⟩
theorem cAreFour_c (a b c d : Int) (w : World) :
    Calls Try.prog 38 #[.int .i64 a, .int .i64 b, .int .i64 c, .int .i64 d] w fun e w' => e = .returned (.bool (fourB a b c d)) ∧ w = w' := by
  cases h1 : ydB a <;> cases h2 : ydB b <;> cases h3 : ydB c <;> cases h4 : ydB d
  all_goals
    have hf := four_cases a b c d
    rw [h1, h2, h3, h4] at hf
    have HF := Lib.hid hf
    clear hf
    have C1 := fun w => cIsDensity_c a w
    have C2 := fun w => cIsDensity_c b w
    have C3 := fun w => cIsDensity_c c w
    have C4 := fun w => cIsDensity_c d w
    rw [h1] at C1
    rw [h2] at C2
    rw [h3] at C3
    rw [h4] at C4
    have D1 := Lib.hid C1
    have D2 := Lib.hid C2
    have D3 := Lib.hid C3
    have D4 := Lib.hid C4
    clear h1 h2 h3 h4 C1 C2 C3 C4
    go_enter Try.func38, Try.ntmps38
    go_wp2_with (first | (go_at_call_of 64 (Value.int .i64 a); refine (D1.out _).mono ?_; rintro e w' ⟨rfl, rfl⟩) | (go_at_call_of 64 (Value.int .i64 b); refine (D2.out _).mono ?_; rintro e w' ⟨rfl, rfl⟩) | (go_at_call_of 64 (Value.int .i64 c); refine (D3.out _).mono ?_; rintro e w' ⟨rfl, rfl⟩) | (go_at_call_of 64 (Value.int .i64 d); refine (D4.out _).mono ?_; rintro e w' ⟨rfl, rfl⟩))
    go_ret
    exact ⟨ret_bool (HF.out.trans (by simp)).symm, rfl⟩
theorem cSize_c (x : Int) (hx : -9223372036854775807 ≤ x ∧ x ≤ 9223372036854775807) (w : World) :
    Calls Try.prog 35 #[.int .i64 x] w fun e w' => e = .returned (.int .i64 (absV x)) ∧ w = w' := by
  by_cases h : x < 0
  · have h1 := Go.IntWalk.i64_in (-x) (by omega)
    have HV : Hid (absV x = -x) := Lib.hid (by simp [absV, h])
    go_enter Try.func35, Try.ntmps35
    go_wp2
    go_ret
    exact ⟨ret_int HV.out.symm, rfl⟩
  · have HV : Hid (absV x = x) := Lib.hid (by simp [absV, h])
    go_enter Try.func35, Try.ntmps35
    go_wp2
    go_ret
    exact ⟨ret_int HV.out.symm, rfl⟩
theorem cImplSize_c (x : Int) (hx : -9223372036854775807 ≤ x ∧ x ≤ 9223372036854775807) (w : World) :
    Calls Try.prog 39 #[.int .i64 x] w fun e w' => e = .returned (.int .i64 (absV x)) ∧ w = w' := by
  have h1 := Go.IntWalk.i64_in (-x) (by omega)
  go_enter Try.func39, Try.ntmps39
  go_wp2
  all_goals
    go_ret
    exact ⟨ret_int (by unfold absV; split <;> omega), rfl⟩
/-- Where a curve lies. -/
def CvS (w : World) (p : Option Addr) (c : Cv) : Prop := c ≠ [] → ∃ b o, p = some ⟨b, o, none⟩ ∧ b < w.heap.size ∧ ∀ i, i < c.length → w.cell? ⟨b, o + i * 2, none⟩ = some (.int .i16 (px c i)) ∧ w.cell? ⟨b, o + i * 2 + 1, none⟩ = some (.int .i16 (py c i))
theorem CvS_below {w w1 : World} {p : Option Addr} {c : Cv} (hb : Below w.heap.size w w1) (h : CvS w p c) : CvS w1 p c := fun hl => by
  obtain ⟨b, o, h1, h2, h3⟩ := h hl
  exact ⟨b, o, h1, Nat.lt_of_lt_of_le h2 hb.size, fun i hi => ⟨by rw [hb.cell (p := ⟨b, o + i * 2, none⟩) h2]; exact (h3 i hi).1, by rw [hb.cell (p := ⟨b, o + i * 2 + 1, none⟩) h2]; exact (h3 i hi).2⟩⟩
theorem cne_of_lt {c : Cv} {k : Nat} (h : k < c.length) : c ≠ [] := by rintro rfl; simp at h
theorem CvS_drew {w : World} {p : Option Addr} {c : Cv} (h : CvS w p c) : CvS w.drew p c := h
end Go.Proofs.Ytcdndjimfmpifaa
