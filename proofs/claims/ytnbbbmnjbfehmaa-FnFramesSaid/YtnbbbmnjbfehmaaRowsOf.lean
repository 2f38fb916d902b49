/- RowsOf, FrameAt. -/
import Derived.Test.YtnbbbmnjbfehmaaVSheet
namespace Go.Proofs.Ytnbbbmnjbfehmaa
open Go.RowKit
def rowsV (a : Int) (l : List (List Int)) : Int × Int := if shB a l then ((l.length + a - 1) / a, 0) else (0, 1)
theorem quo_in (n a : Int) (hn : 0 ≤ n) (hm : n ≤ 12) (h1 : 1 ≤ a) (h2 : a ≤ 12) : 0 ≤ (n + a - 1) / a ∧ (n + a - 1) / a ≤ 23 := by
  constructor
  · exact Int.ediv_nonneg (by omega) (by omega)
  · exact Int.le_trans (Int.ediv_le_self _ (by omega)) (by omega)
set_option linter.unusedVariables false in
theorem length_c (p : Option Addr) (n c : Nat) (w : World) (hn : n ≤ 1048576) :
    Calls Try.prog 53 #[.slice p n c] w fun e w' => e = .returned (.int .i64 n) ∧ w = w' := by
  go_enter Try.func53, Try.ntmps53
  go_wp2
  go_ret
  exact ⟨rfl, rfl⟩
set_option maxHeartbeats 400000 in
theorem specRowsOf_c (a : Int) (ha : -128 ≤ a ∧ a ≤ 127) (p : Option Addr) (n c : Nat) (l : List (List Int)) (hl : Prs l) (hn : n = l.length) (hm : n ≤ 1048576) (w : World) (hp : PS w p l) :
    Calls Try.prog 21 #[.agg #[.int .i8 a, .slice p n c]] w fun e w' => e = .returned (.tuple #[.int .i64 (rowsV a l).1, .int .i64 (rowsV a l).2]) ∧ Below w.heap.size w w' := by
  have HN := Lib.hid hn
  have HA := Lib.hid hp
  clear hp hn
  cases hv : shB a l
  · have HV := Lib.hid hv
    have HR : Hid (rowsV a l = (0, 1)) := Lib.hid (by simp [rowsV, hv])
    clear hv
    go_enter Try.func21, Try.ntmps21
    go_wp2_with fail
    refine (l07Ok_c a ha p n c l hl HN.out hm _ _ _ (PS_below (bl1 _ _) HA.out) (al1_0 _ _)).mono ?_
    rintro e w1 ⟨rfl, hb1⟩
    rw [HV.out]
    have hB := Lib.hid (bt (bl1 _ _) hb1)
    clear hb1
    go_wp2
    go_ret2
    exact ⟨by rw [HR.out] <;> rfl, hB.out⟩
  · obtain ⟨h1, h2, h3, _⟩ := shB_get hv
    have h3 : n ≤ 12 := by rw [HN.out]; exact h3
    have HV := Lib.hid hv
    have HR : Hid (rowsV a l = (((n : Int) + a - 1) / a, 0)) := Lib.hid (by simp [rowsV, hv, ← HN.out])
    obtain ⟨q1, q2⟩ := quo_in n a (by omega) (by omega) h1 h2
    have ha0 : a ≠ 0 := by omega
    clear hv
    go_enter Try.func21, Try.ntmps21
    go_wp2_with fail
    refine (l07Ok_c a ha p n c l hl HN.out hm _ _ _ (PS_below (bl1 _ _) HA.out) (al1_0 _ _)).mono ?_
    rintro e w1 ⟨rfl, hb1⟩
    rw [HV.out]
    have H1 := Lib.hid (heap_below hb1 (by simp) (al1_0 w _))
    have c0 := bk2_0 H1.out
    have c1 := bk2_1 H1.out
    have hB := Lib.hid (bt (bl1 _ _) hb1)
    clear hb1
    go_wp2
    go_ret2
    exact ⟨by rw [HR.out] <;> rfl, hB.out⟩
set_option maxHeartbeats 400000 in
theorem implRowsOf_c (a : Int) (ha : -128 ≤ a ∧ a ≤ 127) (p : Option Addr) (n c : Nat) (l : List (List Int)) (hl : Prs l) (hn : n = l.length) (hm : n ≤ 1048576) (w : World) (hp : PS w p l) :
    Calls Try.prog 22 #[.agg #[.int .i8 a, .slice p n c]] w fun e w' => e = .returned (.tuple #[.int .i64 (rowsV a l).1, .int .i64 (rowsV a l).2]) ∧ Below w.heap.size w w' := by
  have HN := Lib.hid hn
  have HA := Lib.hid hp
  clear hp hn
  cases hv : shB a l
  · have HV := Lib.hid hv
    have HR : Hid (rowsV a l = (0, 1)) := Lib.hid (by simp [rowsV, hv])
    clear hv
    go_enter Try.func22, Try.ntmps22
    go_wp2_with fail
    refine (implValidSheet_c a ha p n c l hl HN.out hm _ (PS_below (bl1 _ _) HA.out)).mono ?_
    rintro e w1 ⟨rfl, hb1⟩
    rw [HV.out]
    have hB := Lib.hid (bt (bl1 _ _) hb1)
    clear hb1
    go_wp2
    go_ret2
    exact ⟨by rw [HR.out] <;> rfl, hB.out⟩
  · obtain ⟨h1, h2, h3, _⟩ := shB_get hv
    have h3 : n ≤ 12 := by rw [HN.out]; exact h3
    have HV := Lib.hid hv
    have HR : Hid (rowsV a l = (((n : Int) + a - 1) / a, 0)) := Lib.hid (by simp [rowsV, hv, ← HN.out])
    obtain ⟨q1, q2⟩ := quo_in n a (by omega) (by omega) h1 h2
    have ha0 : a ≠ 0 := by omega
    clear hv
    go_enter Try.func22, Try.ntmps22
    go_wp2_with fail
    refine (implValidSheet_c a ha p n c l hl HN.out hm _ (PS_below (bl1 _ _) HA.out)).mono ?_
    rintro e w1 ⟨rfl, hb1⟩
    rw [HV.out]
    have H1 := Lib.hid (heap_below hb1 (by simp) (al1_0 w _))
    have c0 := bk2_0 H1.out
    have c1 := bk2_1 H1.out
    have hB := Lib.hid (bt (bl1 _ _) hb1)
    clear hb1
    go_wp2_with (go_at_call 53; refine (length_c _ _ _ _ hm).mono ?_; rintro e w' ⟨rfl, rfl⟩)
    go_ret2
    exact ⟨by rw [HR.out] <;> rfl, hB.out⟩
end Go.Proofs.Ytnbbbmnjbfehmaa
