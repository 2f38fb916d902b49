/- FnBands: thirds in a time: the program's and the reference's. -/
import Derived.Test.YtbcahfiknelkcaaGreatDoorBandT
namespace Go.Proofs.YtbcahfiknelkcaaGreatDoor
open Go.RowKit
set_option maxRecDepth 100000
def msB (n : Int) : Bool := decide (0 ≤ n) && decide (n ≤ 100000000)
theorem areMs_c (n : Int) (w : World) : Calls Tryz.prog 175 #[.int .i64 n] w fun e w' => e = .returned (.bool (msB n)) ∧ w = w' := by
  go_enter Tryz.func175, Tryz.ntmps175
  go_wp2_with (go_at_call 65; refine (within_c _ _ _ _).mono ?_; rintro e w' ⟨rfl, rfl⟩)
  go_ret
  exact ⟨rfl, rfl⟩
set_option maxHeartbeats 1000000 in
theorem thirdsIn_c (s : Int) (h0 : 1000 ≤ s) (h1 : s ≤ 100000000) (w : World) : Calls Tryz.prog 128 #[.int .i64 s] w fun e w' => e = .returned (.tuple #[.int .i64 (tinV s : Nat), .int .i64 0]) ∧ w = w' := by
  have HM : Hid (msB s = true) := Lib.hid (by simp [msB]; omega)
  have T0 := Lib.hid (implTime_c 0 (by omega))
  rw [tim_zero] at T0
  obtain ⟨V, hV⟩ : ∃ V, V = tinV s := ⟨_, rfl⟩
  have HV := Lib.hid hV
  rw [← hV]
  clear hV
  have hs : ¬ s < 1000 := by omega
  go_enter Tryz.func128, Tryz.ntmps128
  go_wp2_with fail
  refine (areMs_c s _).mono ?_
  rintro e w' ⟨rfl, rfl⟩
  rw [HM.out]
  go_wp2_with fail
  refine (T0.out _).mono ?_
  rintro e w' ⟨rfl, rfl⟩
  go_wp2_with fail
  go_loop [4] (fun k => ∃ j : Nat, j ≤ 36 ∧ k = .int .i64 j ∧ (j = 36 ∨ s < timK (j + 1))) (fun k => (intOf k).toNat)
  case atStart => exact ⟨36, by omega, rfl, Or.inl rfl⟩
  case round =>
    obtain ⟨j, hj, rfl, hn⟩ := hrel
    have TJ := Lib.hid (implTime_c j hj)
    have hb := tim_bd hj
    by_cases hlt : s < timK j
    · have hj0 : 1 ≤ j := by
        rcases Nat.eq_zero_or_pos j with e | e
        · subst e; rw [tim_zero] at hlt; omega
        · exact e
      have HNx : Hid (j - 1 = 36 ∨ s < timK (j - 1 + 1)) := Lib.hid (Or.inr (by rw [show j - 1 + 1 = j by omega]; exact hlt))
      have hw : IntKind.i64.wrap ((j : Int) - 1) = (j : Int) - 1 := Go.IntWalk.i64_in _ (by omega)
      clear hn
      generalize timK j = T at *
      go_wp2_with fail
      refine (TJ.out _).mono ?_
      rintro e w' ⟨rfl, rfl⟩
      go_wp2
      go_round
      case rel => exact ⟨j - 1, by omega, by first | rfl | (congr 1; omega), HNx.out⟩
      case measure => simp [intOf]; omega
    · have HE : Hid (V = j) := Lib.hid (by rw [HV.out]; exact tin_down hj (by omega) h0 hn)
      clear hn
      generalize timK j = T at *
      go_wp2_with fail
      refine (TJ.out _).mono ?_
      rintro e w' ⟨rfl, rfl⟩
      go_wp2
      go_ret2
      exact ⟨by rw [HE.out] <;> rfl, rfl⟩
set_option maxHeartbeats 1000000 in
theorem specTime_c (k : Nat) (hk : k ≤ 36) (w : World) : Calls Tryz.prog 131 #[.int .i64 k] w fun e w' => e = .returned (.int .i64 (timK k)) ∧ Below w.heap.size w w' := by
  have t1 := tmod3 k
  have t2 := tdiv3 k
  have HB := Lib.hid (tim_bd hk)
  have HT : Hid (timK k = tab3 (k % 3) * 2 ^ (k / 3)) := Lib.hid rfl
  have hc : k / 3 ≤ 12 := by omega
  have hr : k % 3 = 0 ∨ k % 3 = 1 ∨ k % 3 = 2 := by omega
  generalize timK k = T at *
  generalize k / 3 = c at *
  have hcw : IntKind.i64.wrap (c : Int) = c := Go.IntWalk.i64_in _ (by omega)
  have hcu : IntKind.u64.wrap (c : Int) = c := by rw [IntKind.wrap_u64]; omega
  have K := al1_0 w (.cells #[.int .i64 1000, .int .i64 1260, .int .i64 1587] 2)
  have c0 := blk3_0 K
  have c1 := blk3_1 K
  have c2 := blk3_2 K
  clear K
  rcases hr with hr | hr | hr
  · rw [hr] at t1 HT
    have HE : Hid (T = 1000 * 2 ^ c) := HT
    have htw : IntKind.i64.wrap (1000 * 2 ^ c) = 1000 * 2 ^ c := by have := HB.out; rw [← HE.out]; exact Go.IntWalk.i64_in _ (by omega)
    go_enter Tryz.func131, Tryz.ntmps131
    go_wp2
    go_ret
    exact ⟨ret_int (by first | exact HE.out.symm | (simp; exact HE.out.symm)), bl1 _ _⟩
  · rw [hr] at t1 HT
    have HE : Hid (T = 1260 * 2 ^ c) := HT
    have htw : IntKind.i64.wrap (1260 * 2 ^ c) = 1260 * 2 ^ c := by have := HB.out; rw [← HE.out]; exact Go.IntWalk.i64_in _ (by omega)
    go_enter Tryz.func131, Tryz.ntmps131
    go_wp2
    go_ret
    exact ⟨ret_int (by first | exact HE.out.symm | (simp; exact HE.out.symm)), bl1 _ _⟩
  · rw [hr] at t1 HT
    have HE : Hid (T = 1587 * 2 ^ c) := HT
    have htw : IntKind.i64.wrap (1587 * 2 ^ c) = 1587 * 2 ^ c := by have := HB.out; rw [← HE.out]; exact Go.IntWalk.i64_in _ (by omega)
    go_enter Tryz.func131, Tryz.ntmps131
    go_wp2
    go_ret
    exact ⟨ret_int (by first | exact HE.out.symm | (simp; exact HE.out.symm)), bl1 _ _⟩
set_option maxHeartbeats 1000000 in
theorem specIn_c (s : Int) (h0 : 1000 ≤ s) (h1 : s ≤ 100000000) (w : World) : Calls Tryz.prog 132 #[.int .i64 s] w fun e w' => e = .returned (.int .i64 (tinV s : Nat)) ∧ Below w.heap.size w w' := by
  obtain ⟨V, hV⟩ : ∃ V, V = tinV s := ⟨_, rfl⟩
  have HV := Lib.hid hV
  rw [← hV]
  clear hV
  go_enter Tryz.func132, Tryz.ntmps132
  go_wp2_with fail
  go_loopw [3] (fun k wr => ∃ (j : Nat) (x : Int), x = (j : Int) - 1 ∧ j ≤ 37 ∧ k = .int .i64 x ∧ (j = 0 ∨ timK (j - 1) ≤ s) ∧ Below w.heap.size w wr) (fun k _ => (37 - intOf k).toNat)
  case atStart => exact ⟨0, -1, by omega, by omega, rfl, Or.inl rfl, Below.refl _ _⟩
  case round =>
    obtain ⟨j, x, hx, hj, rfl, hn, hW⟩ := hrel
    have HW := Lib.hid hW
    clear hW
    have hw : IntKind.i64.wrap (x + 1) = (j : Int) := by rw [Go.IntWalk.i64_in _ (by omega)]; omega
    by_cases h36 : j ≤ 36
    · have hd : decide (x < 36) = true := by simp; omega
      have hb := tim_bd h36
      by_cases hle : timK j ≤ s
      · have hd2 : decide (timK j ≤ s) = true := by simpa using hle
        have HNx : Hid (j + 1 = 0 ∨ timK (j + 1 - 1) ≤ s) := Lib.hid (Or.inr (by rw [Nat.add_sub_cancel]; exact hle))
        have TJ := Lib.hid (specTime_c j h36)
        clear hn
        generalize timK j = T at *
        go_wp2_with fail
        refine (TJ.out _).mono ?_
        rintro e w2 ⟨rfl, hb2⟩
        have HW2 := Lib.hid (bt HW.out hb2)
        clear hb2 HW
        go_wp2
        go_roundw
        case rel => exact ⟨j + 1, j, by omega, by omega, rfl, HNx.out, HW2.out⟩
        case measure => simp [intOf]; omega
      · have hd2 : decide (timK j ≤ s) = false := by simpa using hle
        have hj1 : 1 ≤ j := by
          rcases Nat.eq_zero_or_pos j with e | e
          · subst e; rw [tim_zero] at hle; omega
          · exact e
        have HE : Hid (V = j - 1) := Lib.hid (by rw [HV.out]; exact tin_up h0 (by omega) (hn.resolve_left (by omega)) (Or.inr (by rw [show j - 1 + 1 = j by omega]; omega)))
        have TJ := Lib.hid (specTime_c j h36)
        clear hn
        generalize timK j = T at *
        go_wp2_with fail
        refine (TJ.out _).mono ?_
        rintro e w2 ⟨rfl, hb2⟩
        have HW2 := Lib.hid (bt HW.out hb2)
        clear hb2 HW
        go_wp2
        go_ret
        exact ⟨ret_int (by rw [HE.out]; omega), HW2.out⟩
    · have hj37 : j = 37 := by omega
      subst hj37
      have hd : decide (x < 36) = false := by simp; omega
      have HE : Hid (V = 36) := Lib.hid (by rw [HV.out]; exact tin_up h0 (by omega) (hn.resolve_left (by omega)) (Or.inl rfl))
      clear hn
      go_wp2
      go_ret
      exact ⟨ret_int (by rw [HE.out]; omega), HW.out⟩
end Go.Proofs.YtbcahfiknelkcaaGreatDoor
