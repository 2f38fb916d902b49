/- Strips: valid ones, their lights, their texts. -/
import Derived.Test.YtbcahfiknelkcaaGreatDoorInts
import Derived.Test.YtbcahfiknelkcaaGreatDoorStP
import Derived.Deep.QuietTactic
namespace Go.Proofs.YtbcahfiknelkcaaGreatDoor
open Go.RowKit
set_option maxRecDepth 100000
def Sr8 (a e b : Int) : Prop := (-128 ≤ a ∧ a ≤ 127) ∧ (-128 ≤ e ∧ e ≤ 127) ∧ -128 ≤ b ∧ b ≤ 127
theorem mul_bdS {x y : Int} {A B : Nat} (hx : x.natAbs ≤ A) (hy : y.natAbs ≤ B) : -((A * B : Nat) : Int) ≤ x * y ∧ x * y ≤ ((A * B : Nat) : Int) := by
  have h : (x * y).natAbs ≤ A * B := by rw [Int.natAbs_mul]; exact Nat.mul_le_mul hx hy
  generalize A * B = C at *
  generalize x * y = z at *
  omega
theorem szStrip : (Tryz.prog.info? 26).map (·.size) = some 3 := by kernel_rfl
def sthB (n : Int) : Bool := decide (0 ≤ n) && decide (n ≤ 36)
theorem srThI_c (n : Int) (w : World) : Calls Tryz.prog 64 #[.int .i64 n] w fun e w' => e = .returned (.bool (sthB n)) ∧ w = w' := by
  go_enter Tryz.func64, Tryz.ntmps64
  go_wp2_with (go_at_call 65; refine (within_c _ _ _ _).mono ?_; rintro e w' ⟨rfl, rfl⟩)
  go_ret
  exact ⟨rfl, rfl⟩
theorem srThS_c (n : Int) (w : World) : Calls Tryz.prog 129 #[.int .i64 n] w fun e w' => e = .returned (.bool (sthB n)) ∧ w = w' := by
  go_enter Tryz.func129, Tryz.ntmps129
  go_wp2_with (go_at_call 80; refine (l00In_c _ _ _ _).mono ?_; rintro e w' ⟨rfl, rfl⟩)
  go_ret
  exact ⟨rfl, rfl⟩
theorem srLight_c (a e b k : Int) (h : Sr8 a e b) (hk : -1000 ≤ k ∧ k ≤ 1000) (w : World) :
    Calls Tryz.prog 66 #[.agg #[.int .i8 a, .int .i8 e, .int .i8 b], .int .i64 k] w fun x w' => x = .returned (.int .i64 (a + e * k)) ∧ Below w.heap.size w w' := by
  obtain ⟨⟨h1, h2⟩, ⟨h3, h4⟩, h5, h6⟩ := h
  have hm := mul_bdS (x := e) (y := k) (A := 128) (B := 1000) (by omega) (by omega)
  have hw1 : IntKind.i64.wrap (e * k) = e * k := Go.IntWalk.i64_in _ (by omega)
  have hw2 : IntKind.i64.wrap (a + e * k) = a + e * k := Go.IntWalk.i64_in _ (by omega)
  clear hk
  go_enter Tryz.func66, Tryz.ntmps66
  go_wp2
  go_ret
  exact ⟨rfl, bl1 _ _⟩
def seB (n : Int) : Bool := decide (1 ≤ n) && decide (n ≤ 9)
def sbB (n : Int) : Bool := decide (1 ≤ n) && decide (n ≤ 20)
theorem srB_a {a e b : Int} (h : sthB a = false) : srB a e b = false := by
  have : (decide (0 ≤ a) && decide (a ≤ 36)) = false := h
  simp [srB, this]
theorem srB_e {a e b : Int} (h : seB e = false) : srB a e b = false := by
  have : (decide (1 ≤ e) && decide (e ≤ 9)) = false := h
  simp [srB, this]
theorem srB_b {a e b : Int} (h : sbB b = false) : srB a e b = false := by
  have : (decide (1 ≤ b) && decide (b ≤ 20)) = false := h
  simp [srB, this]
theorem srB_l {a e b : Int} (h1 : sthB a = true) (h2 : seB e = true) (h3 : sbB b = true) : srB a e b = sthB (a + e * (b - 1)) := by
  have g1 : (decide (0 ≤ a) && decide (a ≤ 36)) = true := h1
  have g2 : (decide (1 ≤ e) && decide (e ≤ 9)) = true := h2
  have g3 : (decide (1 ≤ b) && decide (b ≤ 20)) = true := h3
  unfold srB
  rw [g1, g2, g3]; rfl
theorem srB_i {a e b : Int} (h1 : sthB a = true) (h2 : seB e = true) (h3 : sbB b = true) : srB a e b = decide (a + e * (b - 1) ≤ 36) := by
  rw [srB_l h1 h2 h3]
  have g1 : 0 ≤ a := by simp [sthB] at h1; omega
  have g2 : 1 ≤ e := by simp [seB] at h2; omega
  have g3 : 1 ≤ b := by simp [sbB] at h3; omega
  have g4 : 0 ≤ e * (b - 1) := Int.mul_nonneg (by omega) (by omega)
  have : decide (0 ≤ a + e * (b - 1)) = true := decide_eq_true (by omega)
  unfold sthB
  rw [this]; rfl
set_option maxHeartbeats 400000 in
theorem srValid_c (a e b : Int) (h : Sr8 a e b) (w : World) :
    Calls Tryz.prog 18 #[.agg #[.int .i8 a, .int .i8 e, .int .i8 b]] w fun x w' => x = .returned (.bool (srB a e b)) ∧ Below w.heap.size w w' := by
  have h' := h
  obtain ⟨⟨ha1, ha2⟩, ⟨he1, he2⟩, hb1, hb2⟩ := h'
  cases hA : sthB a
  · have HV := Lib.hid (srB_a (e := e) (b := b) hA)
    have HA := Lib.hid hA
    clear hA
    go_enter Tryz.func18, Tryz.ntmps18
    go_wp2_with (go_at_call 64; refine (srThI_c _ _).mono ?_; rintro e w' ⟨rfl, rfl⟩; rw [HA.out])
    go_ret
    exact ⟨ret_bool HV.out.symm, bl1 _ _⟩
  cases hE : seB e
  · have HV := Lib.hid (srB_e (a := a) (b := b) hE)
    have HA := Lib.hid hA
    have HE : Hid ((decide (1 ≤ e) && decide (e ≤ 9)) = false) := Lib.hid hE
    clear hA hE
    go_enter Tryz.func18, Tryz.ntmps18
    go_wp2_with (first | (go_at_call 64; refine (srThI_c _ _).mono ?_; rintro e w' ⟨rfl, rfl⟩; rw [HA.out]) | (go_at_call 65; refine (within_c _ _ _ _).mono ?_; rintro e w' ⟨rfl, rfl⟩; rw [HE.out]))
    go_ret
    exact ⟨ret_bool HV.out.symm, bl1 _ _⟩
  cases hB : sbB b
  · have HV := Lib.hid (srB_b (a := a) (e := e) hB)
    have HA := Lib.hid hA
    have HE : Hid ((decide (1 ≤ e) && decide (e ≤ 9)) = true) := Lib.hid hE
    have HB : Hid ((decide (1 ≤ b) && decide (b ≤ 20)) = false) := Lib.hid hB
    clear hA hE hB
    go_enter Tryz.func18, Tryz.ntmps18
    go_wp2_with (first | (go_at_call 64; refine (srThI_c _ _).mono ?_; rintro e w' ⟨rfl, rfl⟩; rw [HA.out]) | (go_at_call 65; refine (within_c _ _ _ _).mono ?_; rintro e w' ⟨rfl, rfl⟩; first | rw [HE.out] | rw [HB.out]))
    go_ret
    exact ⟨ret_bool HV.out.symm, bl1 _ _⟩
  have HV := Lib.hid (srB_i hA hE hB)
  have HA := Lib.hid hA
  have HE : Hid ((decide (1 ≤ e) && decide (e ≤ 9)) = true) := Lib.hid hE
  have HB : Hid ((decide (1 ≤ b) && decide (b ≤ 20)) = true) := Lib.hid hB
  have HC := Lib.hid (fun w0 => srLight_c a e b (b - 1) h (by omega) w0)
  clear hA hE hB
  go_enter Tryz.func18, Tryz.ntmps18
  go_wp2_with (first | (go_at_call 64; refine (srThI_c _ _).mono ?_; rintro e w' ⟨rfl, rfl⟩; rw [HA.out]) | (go_at_call 65; refine (within_c _ _ _ _).mono ?_; rintro e w' ⟨rfl, rfl⟩; first | rw [HE.out] | rw [HB.out]) | (go_at_call 66; refine (HC.out _).mono ?_; rintro e w9 ⟨rfl, hb9⟩))
  go_ret
  exact ⟨ret_bool HV.out.symm, bt (bl1 _ _) hb9⟩
set_option maxHeartbeats 400000 in
theorem srOkS_c (a e b : Int) (h : Sr8 a e b) (w : World) :
    Calls Tryz.prog 60 #[.agg #[.int .i8 a, .int .i8 e, .int .i8 b]] w fun x w' => x = .returned (.bool (srB a e b)) ∧ Below w.heap.size w w' := by
  obtain ⟨⟨h1, h2⟩, ⟨h3, h4⟩, h5, h6⟩ := h
  have hm := mul_bdS (x := e) (y := b - 1) (A := 128) (B := 129) (by omega) (by omega)
  have hw1 : IntKind.i64.wrap (e * (b - 1)) = e * (b - 1) := Go.IntWalk.i64_in _ (by omega)
  have hw2 : IntKind.i64.wrap (a + e * (b - 1)) = a + e * (b - 1) := Go.IntWalk.i64_in _ (by omega)
  clear hm
  cases hA : sthB a
  · have HV := Lib.hid (srB_a (e := e) (b := b) hA)
    have HA := Lib.hid hA
    clear hA
    go_enter Tryz.func60, Tryz.ntmps60
    go_wp2_with (go_at_call 129; refine (srThS_c _ _).mono ?_; rintro e w' ⟨rfl, rfl⟩; rw [HA.out])
    go_ret
    exact ⟨ret_bool HV.out.symm, bl1 _ _⟩
  cases hE : seB e
  · have HV := Lib.hid (srB_e (a := a) (b := b) hE)
    have HA := Lib.hid hA
    have HE : Hid ((decide (1 ≤ e) && decide (e ≤ 9)) = false) := Lib.hid hE
    clear hA hE
    go_enter Tryz.func60, Tryz.ntmps60
    go_wp2_with (first | (go_at_call 129; refine (srThS_c _ _).mono ?_; rintro e w' ⟨rfl, rfl⟩; rw [HA.out]) | (go_at_call 80; refine (l00In_c _ _ _ _).mono ?_; rintro e w' ⟨rfl, rfl⟩; rw [HE.out]))
    go_ret
    exact ⟨ret_bool HV.out.symm, bl1 _ _⟩
  cases hB : sbB b
  · have HV := Lib.hid (srB_b (a := a) (e := e) hB)
    have HA := Lib.hid hA
    have HE : Hid ((decide (1 ≤ e) && decide (e ≤ 9)) = true) := Lib.hid hE
    have HB : Hid ((decide (1 ≤ b) && decide (b ≤ 20)) = false) := Lib.hid hB
    clear hA hE hB
    go_enter Tryz.func60, Tryz.ntmps60
    go_wp2_with (first | (go_at_call 129; refine (srThS_c _ _).mono ?_; rintro e w' ⟨rfl, rfl⟩; rw [HA.out]) | (go_at_call 80; refine (l00In_c _ _ _ _).mono ?_; rintro e w' ⟨rfl, rfl⟩; first | rw [HE.out] | rw [HB.out]))
    go_ret
    exact ⟨ret_bool HV.out.symm, bl1 _ _⟩
  have HV := Lib.hid (srB_l hA hE hB)
  have HA := Lib.hid hA
  have HE : Hid ((decide (1 ≤ e) && decide (e ≤ 9)) = true) := Lib.hid hE
  have HB : Hid ((decide (1 ≤ b) && decide (b ≤ 20)) = true) := Lib.hid hB
  clear hA hE hB
  go_enter Tryz.func60, Tryz.ntmps60
  go_wp2_with (first | (go_at_call 129; refine (srThS_c _ _).mono ?_; rintro e w' ⟨rfl, rfl⟩; first | rw [HA.out] | skip) | (go_at_call 80; refine (l00In_c _ _ _ _).mono ?_; rintro e w' ⟨rfl, rfl⟩; first | rw [HE.out] | rw [HB.out]))
  go_ret
  exact ⟨ret_bool HV.out.symm, bl1 _ _⟩
theorem srText_c (a e b : Int) (h : srB a e b = true) (w : World) :
    Calls Tryz.prog 57 #[.agg #[.int .i8 a, .int .i8 e, .int .i8 b]] w fun x w' => x = .returned (.string (srT a e b)) ∧ Below w.heap.size w w' := by
  have hs := srB_small h
  obtain ⟨x, rfl⟩ := Int.eq_ofNat_of_zero_le hs.1.1
  obtain ⟨y, rfl⟩ := Int.eq_ofNat_of_zero_le hs.2.1.1
  obtain ⟨z, rfl⟩ := Int.eq_ofNat_of_zero_le hs.2.2.1
  have hx : x < 100 := by omega
  have hy : y < 100 := by omega
  have hz : z < 100 := by omega
  have HT : Hid (srT (x : Int) (y : Int) (z : Int) = dgS x ++ ⟨#[32]⟩ ++ dgS y ++ ⟨#[32]⟩ ++ dgS z) := Lib.hid rfl
  have CX := Lib.hid (fun w0 => implDec_c x hx w0)
  have CY := Lib.hid (fun w0 => implDec_c y hy w0)
  have CZ := Lib.hid (fun w0 => implDec_c z hz w0)
  have hwx : IntKind.i64.wrap (x : Int) = x := Go.IntWalk.i64_in _ (by omega)
  have hwy : IntKind.i64.wrap (y : Int) = y := Go.IntWalk.i64_in _ (by omega)
  have hwz : IntKind.i64.wrap (z : Int) = z := Go.IntWalk.i64_in _ (by omega)
  have zx := dgS_size hx
  have zy := dgS_size hy
  have zz := dgS_size hz
  rw [HT.out]
  generalize dgS x = sx at *
  generalize dgS y = sy at *
  generalize dgS z = sz at *
  have q1 : ¬ 9223372036854775807 < sx.size + 1 := by omega
  have q2 : ¬ 9223372036854775807 < sx.size + 1 + sy.size := by omega
  have q3 : ¬ 9223372036854775807 < sx.size + 1 + sy.size + 1 := by omega
  have q4 : ¬ 9223372036854775807 < sx.size + 1 + sy.size + 1 + sz.size := by omega
  clear HT h hs
  have H0 := al1_0 w (.cells #[.int .i8 (x : Int), .int .i8 (y : Int), .int .i8 (z : Int)] 26)
  have c0 := blk3_0 H0
  have c1 := blk3_1 H0
  have c2 := blk3_2 H0
  clear H0
  go_enter Tryz.func57, Tryz.ntmps57
  go_wp2_with fail
  go_quiet ((go_at_call 127; first | exact quiet_c (CX.out _) | exact quiet_c (CY.out _) | exact quiet_c (CZ.out _)))
  go_wp2
  go_ret
  exact ⟨rfl, bl_drewN (bl1 _ _) _⟩
end Go.Proofs.YtbcahfiknelkcaaGreatDoor
