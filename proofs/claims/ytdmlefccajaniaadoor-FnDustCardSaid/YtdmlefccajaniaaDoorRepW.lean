/- The repair of cells: the walks of one round. -/
import Derived.Test.YtdmlefccajaniaaDoorRepP
import Derived.Test.YtdmlefccajaniaaDoorSpotW
import Derived.Test.YtdmlefccajaniaaDoorVSheet
import Derived.Deep.DeepCutAuto
namespace Go.Proofs.YtdmlefccajaniaaDoor
open Go.RowKit Go.Lib
theorem ne0_int (A : Nat) (h : A ≠ 0) : ((A : Int) != 0) = true := by simp only [bne_iff_ne, ne_eq]; omega
theorem count_c (D : Nat) (hD : D < 2 ^ 64) (w : World) :
    Calls Tryd.prog 51 #[.int .u64 D] w fun e w' => e = .returned (.int .i64 (cnt D : Nat)) ∧ w = w' := by
  have HD := Lib.hid hD
  clear hD
  go_enter Tryd.func51, Tryd.ntmps51
  go_wp2
  go_loop [0, 3] (fun a n => ∃ k : Nat, k ≤ 64 ∧ a = .int .u64 (D / 2 ^ k : Nat) ∧ n = .int .i64 (cntN D.testBit k : Nat)) (fun a _ => (intOf a).toNat)
  case atStart => exact ⟨0, by omega, by simp, rfl⟩
  case round =>
    obtain ⟨k, hk, rfl, rfl⟩ := hrel
    have hc := cntN_le D.testBit k
    have hle : D / 2 ^ k < 2 ^ 64 := Nat.lt_of_le_of_lt (Nat.div_le_self _ _) HD.out
    have HB : Hid (bits .and .u64 ((D / 2 ^ k : Nat) : Int) 1 = (if D.testBit k then 1 else 0)) := Lib.hid (by
      rw [show (1 : Int) = ((1 : Nat) : Int) from rfl, and64 _ 1 hle (by decide), Nat.and_one_is_mod, Nat.testBit_eq_decide_div_mod_eq]
      rcases Nat.mod_two_eq_zero_or_one (D / 2 ^ k) with h | h <;> simp [h])
    have HDD : Hid (D / 2 ^ k / 2 = D / 2 ^ (k + 1)) := Lib.hid (by rw [Nat.div_div_eq_div_mul, Nat.pow_succ])
    have HS : Hid (cntN D.testBit (k + 1) = cntN D.testBit k + if D.testBit k then 1 else 0) := Lib.hid rfl
    by_cases h0 : D / 2 ^ k = 0
    · have HE : Hid (cntN D.testBit k = cnt D) := Lib.hid (by
        have hz : ∀ j, k ≤ j → D.testBit j = false := fun j hj => by
          have h1 : D < 2 ^ k := by
            rcases Nat.lt_or_ge D (2 ^ k) with h | h
            · exact h
            · have := Nat.div_pos h (Nat.two_pow_pos k); omega
          exact Nat.testBit_lt_two_pow (Nat.lt_of_lt_of_le h1 (Nat.pow_le_pow_right (by omega) hj))
        have : ∀ d, cntN D.testBit (k + d) = cntN D.testBit k := fun d => by
          induction d with
          | zero => rfl
          | succ d ih => rw [← Nat.add_assoc]; simp only [cntN, ih, hz (k + d) (by omega)]; simp
        have h2 := this (64 - k)
        rw [show k + (64 - k) = 64 by omega] at h2
        exact h2.symm)
      rw [h0] at *
      clear HB HDD HS
      go_wp2
      go_ret
      exact ⟨ret_int (by rw [HE.out]), rfl⟩
    · have hne : (((D / 2 ^ k : Nat) : Int) != 0) = true := ne0_int _ h0
      have hk64 : k < 64 := by
        rcases Nat.lt_or_ge k 64 with h | h
        · exact h
        · exfalso
          apply h0
          rw [Nat.div_eq_of_lt (Nat.lt_of_lt_of_le HD.out (Nat.pow_le_pow_right (by omega) h))]
      have hdec : D / 2 ^ k / 2 < D / 2 ^ k := Nat.div_lt_self (Nat.pos_of_ne_zero h0) (by omega)
      have HH := Lib.hid hdec
      clear hdec h0
      generalize hA : D / 2 ^ k = A at *
      generalize hC : cntN D.testBit k = C at *
      cases hb : D.testBit k
      all_goals
        rw [hb] at HB HS
        have HB' := HB.out
        simp only [Bool.false_eq_true, if_false, if_true] at HB'
        clear HB hA hC
        go_wp2
        go_round
        case rel => exact ⟨k + 1, by omega, by rw [← HDD.out]; congr 1; try omega, by rw [HS.out]; simp⟩
        case measure => simp only [intOf]; have := HH.out; omega
end Go.Proofs.YtdmlefccajaniaaDoor

