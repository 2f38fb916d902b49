/- FrameAt. -/
import Derived.Test.YtnbbbmnjbfehmaaRowsOf
namespace Go.Proofs.Ytnbbbmnjbfehmaa
open Go.RowKit
def frAt (a : Int) (n : Nat) (x y : Int) : Bool := ((decide (0 ≤ x) && decide (x ≤ a - 1)) && (decide (0 ≤ y) && decide (y ≤ 12))) && decide (y * a + x < n)
def frV (a : Int) (l : List (List Int)) (x y : Int) : Int × Int := if shB a l then (if frAt a l.length x y then (y * a + x, 0) else (0, 6)) else (0, 1)
theorem mul_in (y a : Int) (h0 : 0 ≤ y) (h1 : y ≤ 12) (h2 : 1 ≤ a) (h3 : a ≤ 12) : 0 ≤ y * a ∧ y * a ≤ 144 := by
  constructor
  · exact Int.mul_nonneg h0 (by omega)
  · exact Int.le_trans (Int.mul_le_mul h1 h3 (by omega) (by omega)) (by omega)
theorem isFrame_c (a : Int) (p : Option Addr) (n c : Nat) (i : Int) (w : World) (hn : n ≤ 1048576) :
    Calls Try.prog 55 #[.agg #[.int .i8 a, .slice p n c], .int .i64 i] w fun e w' => e = .returned (.bool (decide (0 ≤ i) && decide (i ≤ (n : Int) - 1))) ∧ Below w.heap.size w w' := by
  go_enter Try.func55, Try.ntmps55
  go_wp2_with (first
    | (go_at_call 53; refine (length_c _ _ _ _ hn).mono ?_; rintro e w' ⟨rfl, rfl⟩)
    | (go_at_call 51; refine (within_c _ _ _ _).mono ?_; rintro e w' ⟨rfl, rfl⟩))
  go_ret
  exact ⟨rfl, bl1 _ _⟩
set_option maxHeartbeats 1000000 in
theorem specFrameAt_c (a : Int) (ha : -128 ≤ a ∧ a ≤ 127) (p : Option Addr) (n c : Nat) (l : List (List Int)) (hl : Prs l) (hn : n = l.length) (hm : n ≤ 1048576) (x : Int) (_ : -9223372036854775808 ≤ x ∧ x ≤ 9223372036854775807) (y : Int) (_ : -9223372036854775808 ≤ y ∧ y ≤ 9223372036854775807) (w : World) (hp : PS w p l) :
    Calls Try.prog 23 #[.agg #[.int .i8 a, .slice p n c], .int .i64 x, .int .i64 y] w fun e w' => e = .returned (.tuple #[.int .i64 (frV a l x y).1, .int .i64 (frV a l x y).2]) ∧ Below w.heap.size w w' := by
  have HN := Lib.hid hn
  have HA := Lib.hid hp
  have HS := Lib.hid ha
  clear hp hn ha
  cases hv : shB a l
  · have HV := Lib.hid hv
    have HR : Hid (frV a l x y = (0, 1)) := Lib.hid (by simp [frV, hv])
    clear hv
    go_enter Try.func23, Try.ntmps23
    go_wp2_with fail
    refine (l07Ok_c a HS.out p n c l hl HN.out hm _ _ _ (PS_below (bl1 _ _) HA.out) (al1_0 _ _)).mono ?_
    rintro e w1 ⟨rfl, hb1⟩
    rw [HV.out]
    have hB := Lib.hid (bt (bl1 _ _) hb1)
    clear hb1
    go_wp2
    go_ret2
    exact ⟨by rw [HR.out] <;> rfl, hB.out⟩
  · obtain ⟨h1, h2, h3, _⟩ := shB_get hv
    have h3 : n ≤ 12 := by rw [HN.out]; exact h3
    have HV := Lib.hid hv
    have HR : Hid (frV a l x y = if frAt a n x y then (y * a + x, 0) else (0, 6)) := Lib.hid (by simp [frV, hv, ← HN.out])
    clear hv
    go_enter Try.func23, Try.ntmps23
    go_wp2_with fail
    refine (l07Ok_c a HS.out p n c l hl HN.out hm _ _ _ (PS_below (bl1 _ _) HA.out) (al1_0 _ _)).mono ?_
    rintro e w1 ⟨rfl, hb1⟩
    rw [HV.out]
    have H1 := Lib.hid (heap_below hb1 (by simp) (al1_0 w _))
    have c0 := bk2_0 H1.out
    have c1 := bk2_1 H1.out
    have hB := Lib.hid (bt (bl1 _ _) hb1)
    clear hb1
    by_cases hx : 0 ≤ x ∧ x ≤ a - 1
    · obtain ⟨x1, x2⟩ := hx
      by_cases hy : 0 ≤ y ∧ y ≤ 12
      · obtain ⟨y1, y2⟩ := hy
        obtain ⟨m1, m2⟩ := mul_in y a y1 y2 h1 h2
        have HF : Hid (frAt a n x y = decide (y * a + x < n)) := Lib.hid (by simp [frAt, x1, x2, y1, y2])
        have HC : Hid (x + y * a = y * a + x) := Lib.hid (by omega)
        by_cases hi : y * a + x < n
        · have hi2 : x + y * a < n := by omega
          have HR2 : Hid (frV a l x y = (y * a + x, 0)) := Lib.hid (by rw [HR.out, HF.out]; simp [hi])
          go_wp2_with (go_at_call 54; refine (l00In_c _ _ _ _).mono ?_; rintro e w' ⟨rfl, rfl⟩)
          go_ret2
          exact ⟨by rw [HR2.out, HC.out] <;> rfl, hB.out⟩
        · have hi2 : (n : Int) ≤ x + y * a := by omega
          have HR2 : Hid (frV a l x y = (0, 6)) := Lib.hid (by rw [HR.out, HF.out]; simp [hi])
          clear hi
          go_wp2_with (go_at_call 54; refine (l00In_c _ _ _ _).mono ?_; rintro e w' ⟨rfl, rfl⟩)
          go_ret2
          exact ⟨by rw [HR2.out] <;> rfl, hB.out⟩
      · have HD : Hid ((decide (0 ≤ y) && decide (y ≤ 12)) = false) := Lib.hid (by simpa using hy)
        have HR2 : Hid (frV a l x y = (0, 6)) := Lib.hid (by rw [HR.out]; unfold frAt; rw [HD.out]; simp)
        clear hy
        go_wp2_with (go_at_call 54; refine (l00In_c _ _ _ _).mono ?_; rintro e w' ⟨rfl, rfl⟩; try rw [HD.out])
        go_ret2
        exact ⟨by rw [HR2.out] <;> rfl, hB.out⟩
    · have HD : Hid ((decide (0 ≤ x) && decide (x ≤ a - 1)) = false) := Lib.hid (by simp; omega)
      have HR2 : Hid (frV a l x y = (0, 6)) := Lib.hid (by rw [HR.out]; unfold frAt; rw [HD.out]; simp)
      clear hx
      go_wp2_with (go_at_call 54; refine (l00In_c _ _ _ _).mono ?_; rintro e w' ⟨rfl, rfl⟩; try rw [HD.out])
      go_ret2
      exact ⟨by rw [HR2.out] <;> rfl, hB.out⟩
set_option maxHeartbeats 1000000 in
theorem implFrameAt_c (a : Int) (ha : -128 ≤ a ∧ a ≤ 127) (p : Option Addr) (n c : Nat) (l : List (List Int)) (hl : Prs l) (hn : n = l.length) (hm : n ≤ 1048576) (x : Int) (_ : -9223372036854775808 ≤ x ∧ x ≤ 9223372036854775807) (y : Int) (_ : -9223372036854775808 ≤ y ∧ y ≤ 9223372036854775807) (w : World) (hp : PS w p l) :
    Calls Try.prog 24 #[.agg #[.int .i8 a, .slice p n c], .int .i64 x, .int .i64 y] w fun e w' => e = .returned (.tuple #[.int .i64 (frV a l x y).1, .int .i64 (frV a l x y).2]) ∧ Below w.heap.size w w' := by
  have HN := Lib.hid hn
  have HA := Lib.hid hp
  have HS := Lib.hid ha
  clear hp hn ha
  cases hv : shB a l
  · have HV := Lib.hid hv
    have HR : Hid (frV a l x y = (0, 1)) := Lib.hid (by simp [frV, hv])
    clear hv
    go_enter Try.func24, Try.ntmps24
    go_wp2_with fail
    refine (implValidSheet_c a HS.out p n c l hl HN.out hm _ (PS_below (bl1 _ _) HA.out)).mono ?_
    rintro e w1 ⟨rfl, hb1⟩
    rw [HV.out]
    have hB := Lib.hid (bt (bl1 _ _) hb1)
    clear hb1
    go_wp2
    go_ret2
    exact ⟨by rw [HR.out] <;> rfl, hB.out⟩
  · obtain ⟨h1, h2, h3, _⟩ := shB_get hv
    have h3 : n ≤ 12 := by rw [HN.out]; exact h3
    have HV := Lib.hid hv
    have HR : Hid (frV a l x y = if frAt a n x y then (y * a + x, 0) else (0, 6)) := Lib.hid (by simp [frV, hv, ← HN.out])
    clear hv
    go_enter Try.func24, Try.ntmps24
    go_wp2_with fail
    refine (implValidSheet_c a HS.out p n c l hl HN.out hm _ (PS_below (bl1 _ _) HA.out)).mono ?_
    rintro e w1 ⟨rfl, hb1⟩
    rw [HV.out]
    have H1 := Lib.hid (heap_below hb1 (by simp) (al1_0 w _))
    have c0 := bk2_0 H1.out
    have c1 := bk2_1 H1.out
    have hB := Lib.hid (bt (bl1 _ _) hb1)
    clear hb1
    by_cases hx : 0 ≤ x ∧ x ≤ a - 1
    · obtain ⟨x1, x2⟩ := hx
      by_cases hy : 0 ≤ y ∧ y ≤ 12
      · obtain ⟨y1, y2⟩ := hy
        obtain ⟨m1, m2⟩ := mul_in y a y1 y2 h1 h2
        have HF : Hid (frAt a n x y = decide (y * a + x < n)) := Lib.hid (by simp [frAt, x1, x2, y1, y2])
        by_cases hi : y * a + x < n
        · have HI : Hid ((decide (0 ≤ y * a + x) && decide (y * a + x ≤ (n : Int) - 1)) = true) := Lib.hid (by simp; omega)
          have HR2 : Hid (frV a l x y = (y * a + x, 0)) := Lib.hid (by rw [HR.out, HF.out]; simp [hi])
          go_wp2_with (first
            | (go_at_call 51; refine (within_c _ _ _ _).mono ?_; rintro e w' ⟨rfl, rfl⟩)
            | (go_at_call 55; refine (isFrame_c _ _ _ _ _ _ hm).mono ?_; rintro e w2 ⟨rfl, hb2⟩; rw [HI.out]; have hB := Lib.hid (bt hB.out hb2); clear hb2))
          go_ret2
          exact ⟨by rw [HR2.out] <;> rfl, hB.out⟩
        · have HI : Hid ((decide (0 ≤ y * a + x) && decide (y * a + x ≤ (n : Int) - 1)) = false) := Lib.hid (by simp; omega)
          have HR2 : Hid (frV a l x y = (0, 6)) := Lib.hid (by rw [HR.out, HF.out]; simp [hi])
          clear hi
          go_wp2_with (first
            | (go_at_call 51; refine (within_c _ _ _ _).mono ?_; rintro e w' ⟨rfl, rfl⟩)
            | (go_at_call 55; refine (isFrame_c _ _ _ _ _ _ hm).mono ?_; rintro e w2 ⟨rfl, hb2⟩; rw [HI.out]; have hB := Lib.hid (bt hB.out hb2); clear hb2))
          go_ret2
          exact ⟨by rw [HR2.out] <;> rfl, hB.out⟩
      · have HD : Hid ((decide (0 ≤ y) && decide (y ≤ 12)) = false) := Lib.hid (by simpa using hy)
        have HR2 : Hid (frV a l x y = (0, 6)) := Lib.hid (by rw [HR.out]; unfold frAt; rw [HD.out]; simp)
        clear hy
        go_wp2_with (go_at_call 51; refine (within_c _ _ _ _).mono ?_; rintro e w' ⟨rfl, rfl⟩; try rw [HD.out])
        go_ret2
        exact ⟨by rw [HR2.out] <;> rfl, hB.out⟩
    · have HD : Hid ((decide (0 ≤ x) && decide (x ≤ a - 1)) = false) := Lib.hid (by simp; omega)
      have HR2 : Hid (frV a l x y = (0, 6)) := Lib.hid (by rw [HR.out]; unfold frAt; rw [HD.out]; simp)
      clear hx
      go_wp2_with (go_at_call 51; refine (within_c _ _ _ _).mono ?_; rintro e w' ⟨rfl, rfl⟩; try rw [HD.out])
      go_ret2
      exact ⟨by rw [HR2.out] <;> rfl, hB.out⟩
end Go.Proofs.Ytnbbbmnjbfehmaa
