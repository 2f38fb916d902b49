/- How many bits a number of 64 bits has: the walk. -/
import Derived.Test.YtdmlefccajaniaaDoorOnesP
import Derived.Deep.DeepCutAuto
namespace Go.Proofs.YtdmlefccajaniaaDoor
open Go.RowKit Go.Lib
theorem and_lit (a m : Nat) (ha : a < 2 ^ 64) (hm : m < 2 ^ 64) : bits .and .u64 (a : Int) (m : Int) = ((a &&& m : Nat) : Int) := and64 a m ha hm
theorem and127 (a : Nat) (ha : a < 2 ^ 63) : bits .and .i64 (a : Int) 127 = ((a % 128 : Nat) : Int) := by
  have h1 : bits .and .i64 (a : Int) ((127 : Nat) : Int) = ((a &&& 127 : Nat) : Int) := (bits_nat .i64 63 (by decide) (fun n h0 h1 => Go.IntWalk.i64_in n (by omega)) a 127 ha (by decide)).1
  have h2 : a &&& 127 = a % 128 := Nat.and_two_pow_sub_one_eq_mod a 7
  rw [← h2, ← h1]; rfl
set_option maxHeartbeats 1000000 in
theorem ones_c (x : Nat) (hx : x < 2 ^ 64) (w : World) :
    Calls Tryd.prog 47 #[.int .u64 x] w fun e w' => e = .returned (.int .i64 (cnt x : Nat)) ∧ w = w' := by
  have HS := Lib.hid (ones_spec x hx)
  have A1 : Hid (bits .and .u64 ((x : Int) / 2) 6148914691236517205 = ((x / 2 &&& rep 85 8 : Nat) : Int)) := Lib.hid (by rw [rep85]; exact and_lit (x / 2) 6148914691236517205 (by omega) (by decide))
  have A2 : Hid (bits .and .u64 (x : Int) 6148914691236517205 = ((x &&& rep 85 8 : Nat) : Int)) := Lib.hid (by rw [rep85]; exact and_lit x 6148914691236517205 hx (by decide))
  have L1 : x / 2 &&& rep 85 8 ≤ 6148914691236517205 := by rw [← rep85]; exact Nat.and_le_right
  have L2 : x &&& rep 85 8 ≤ 6148914691236517205 := by rw [← rep85]; exact Nat.and_le_right
  have E1 : s1 8 x = (x / 2 &&& rep 85 8) + (x &&& rep 85 8) := rfl
  generalize (x / 2 &&& rep 85 8) = p1 at *
  generalize (x &&& rep 85 8) = q1 at *
  have a1 := A1.out
  have a2 := A2.out
  generalize s1 8 x = X1 at *
  go_enter Tryd.func47, Tryd.ntmps47
  go_upto_region 2 with fail
  have F1 : (p1 : Int) + (q1 : Int) = (X1 : Int) := by omega
  rw [F1]
  have B1 : X1 < 2 ^ 64 := by omega
  clear a1 a2 A1 A2 F1 E1 L1 L2
  have A1 : Hid (bits .and .u64 ((X1 : Int) / 4) 3689348814741910323 = ((X1 / 4 &&& rep 51 8 : Nat) : Int)) := Lib.hid (by rw [rep51]; exact and_lit (X1 / 4) 3689348814741910323 (by omega) (by decide))
  have A2 : Hid (bits .and .u64 (X1 : Int) 3689348814741910323 = ((X1 &&& rep 51 8 : Nat) : Int)) := Lib.hid (by rw [rep51]; exact and_lit X1 3689348814741910323 B1 (by decide))
  have L1 : X1 / 4 &&& rep 51 8 ≤ 3689348814741910323 := by rw [← rep51]; exact Nat.and_le_right
  have L2 : X1 &&& rep 51 8 ≤ 3689348814741910323 := by rw [← rep51]; exact Nat.and_le_right
  have E1 : s2 8 X1 = (X1 / 4 &&& rep 51 8) + (X1 &&& rep 51 8) := rfl
  generalize (X1 / 4 &&& rep 51 8) = p2 at *
  generalize (X1 &&& rep 51 8) = q2 at *
  have a1 := A1.out
  have a2 := A2.out
  generalize s2 8 X1 = X2 at *
  go_upto_region 3 with fail
  have F1 : (p2 : Int) + (q2 : Int) = (X2 : Int) := by omega
  rw [F1]
  have B2 : X2 ≤ 7378697629483820646 := by omega
  clear a1 a2 A1 A2 F1 E1 L1 L2
  have A1 : Hid (bits .and .u64 ((X2 : Int) / 16 + (X2 : Int)) 1085102592571150095 = ((s3 8 X2 : Nat) : Int)) := Lib.hid (by
    unfold s3; rw [rep15]
    have := and_lit (X2 / 16 + X2) 1085102592571150095 (by omega) (by decide)
    rw [← this]; congr 1)
  have L1 : s3 8 X2 ≤ 1085102592571150095 := by unfold s3; rw [← rep15]; exact Nat.and_le_right
  generalize s3 8 X2 = X3 at *
  have a1 := A1.out
  go_upto_region 4 with fail
  clear a1 A1
  obtain ⟨Y1, hY1⟩ : ∃ Y1, Y1 = X3 + X3 / 256 := ⟨_, rfl⟩
  obtain ⟨Y2, hY2⟩ : ∃ Y2, Y2 = Y1 + Y1 / 65536 := ⟨_, rfl⟩
  obtain ⟨Y3, hY3⟩ : ∃ Y3, Y3 = Y2 + Y2 / 4294967296 := ⟨_, rfl⟩
  have HF : Hid (Y3 % 128 = cnt x) := Lib.hid (by rw [← HS.out, fold3, hY3, hY2, hY1])
  have A3 := Lib.hid (and127 Y3 (by omega))
  go_upto_region 5 with fail
  have F1 : (X3 : Int) + (X3 : Int) / 256 = (Y1 : Int) := by omega
  rw [F1]
  have G1 : Y1 ≤ 1089341274573381200 := by omega
  clear hY1 F1
  go_upto_region 6 with fail
  have F2 : (Y1 : Int) + (Y1 : Int) / 65536 = (Y2 : Int) := by omega
  rw [F2]
  have G2 : Y2 ≤ 1099341274571818900 := by omega
  clear hY2 F2
  go_upto_region 7 with fail
  have F3 : (Y2 : Int) + (Y2 : Int) / 4294967296 = (Y3 : Int) := by omega
  rw [F3]
  have G3 : Y3 ≤ 1199341274571818900 := by omega
  clear hY3 F3
  have a3 := A3.out
  go_wp2
  go_ret
  exact ⟨ret_int (by have := HF.out; omega), rfl⟩
end Go.Proofs.YtdmlefccajaniaaDoor
