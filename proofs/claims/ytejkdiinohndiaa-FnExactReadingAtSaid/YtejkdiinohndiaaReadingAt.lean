/- ReadingAt. -/
import Derived.Test.YtejkdiinohndiaaScene
namespace Go.Proofs.Ytejkdiinohndiaa
open Go.RowKit
def atB (x y : Int) : Bool := (decide (0 ≤ x) && decide (x ≤ 5)) && (decide (0 ≤ y) && decide (y ≤ 3))
theorem atB_iff (x y : Int) : atB x y = true ↔ (0 ≤ x ∧ x ≤ 5) ∧ 0 ≤ y ∧ y ≤ 3 := by simp [atB]
def readAt (xs : List Int) (x y : Int) : Int × Int := if okS xs then (if atB x y then (xs.getD (x + 6 * y).toNat 0, 0) else (0, 2)) else (0, 1)
set_option maxHeartbeats 400000 in
theorem specReadingAt_c (xs : List Int) (hs : Sc xs) (x y : Int) (w : World) :
    Calls Try.prog 35 #[.agg (arr .i8 xs), .int .i64 x, .int .i64 y] w fun e w' => e = .returned (.tuple #[.int .i64 (readAt xs x y).1, .int .i64 (readAt xs x y).2]) ∧ Below w.heap.size w w' := by
  have HL := Lib.hid hs.1
  have H0 := Lib.hid (al1_0 w (.cells (arr .i8 xs) 36))
  cases hok : okS xs
  · have HV : Hid (readAt xs x y = (0, 1)) := Lib.hid (by simp [readAt, hok])
    have HO := Lib.hid hok
    clear hok
    go_enter Try.func35, Try.ntmps35
    go_wp2_with fail
    refine (l06Ok_c xs hs _ _ _ H0.out).mono ?_
    rintro e w' ⟨rfl, rfl⟩
    rw [HO.out]
    have H1 := H0
    go_wp2
    go_ret2
    exact ⟨by rw [HV.out] <;> rfl, bl1 _ _⟩
  · have hg := okS_get hok
    have HO := Lib.hid hok
    clear hok
    by_cases h1 : 0 ≤ x ∧ x ≤ 5
    · by_cases h2 : 0 ≤ y ∧ y ≤ 3
      · have HV : Hid (readAt xs x y = (xs.getD (x + 6 * y).toNat 0, 0)) := Lib.hid (by simp [readAt, HO.out, (atB_iff x y).2 ⟨h1, h2⟩])
        obtain ⟨a1, a2⟩ := h1
        obtain ⟨a3, a4⟩ := h2
        obtain ⟨v, hv⟩ : ∃ v, v = xs.getD (x + 6 * y).toNat 0 := ⟨_, rfl⟩
        have hv1 : 0 ≤ v := by rw [hv]; exact (hg _).1
        have hv2 : v ≤ 60 := by rw [hv]; exact (hg _).2
        have hi : (x + 6 * y).toNat < 24 := by omega
        have E := Lib.hid hv
        clear hv hg
        go_enter Try.func35, Try.ntmps35
        go_wp2_with fail
        refine (l06Ok_c xs hs _ _ _ H0.out).mono ?_
        rintro e w' ⟨rfl, rfl⟩
        rw [HO.out]
        have H1 := H0
        have hcell : (w.alloc (.cells (arr .i8 xs) 36)).cell? ⟨w.heap.size, (x + 6 * y).toNat, none⟩ = some (.int .i8 v) := by rw [E.out]; exact arr_cell H1.out _ (by rw [HL.out]; exact hi)
        go_wp2_with (go_at_call 85; refine (l00In_c _ _ _ _).mono ?_; rintro e w' ⟨rfl, rfl⟩)
        go_ret2
        exact ⟨by rw [HV.out, E.out] <;> rfl, bl1 _ _⟩
      · have HV : Hid (readAt xs x y = (0, 2)) := Lib.hid (by
          have : atB x y = false := by
            cases h : atB x y
            · rfl
            · exact absurd ((atB_iff x y).1 h).2 h2
          simp [readAt, HO.out, this])
        have hd : (decide (0 ≤ y) && decide (y ≤ 3)) = false := by simpa using h2
        obtain ⟨a1, a2⟩ := h1
        have HD := Lib.hid hd
        clear hd hg h2
        go_enter Try.func35, Try.ntmps35
        go_wp2_with fail
        refine (l06Ok_c xs hs _ _ _ H0.out).mono ?_
        rintro e w' ⟨rfl, rfl⟩
        rw [HO.out]
        have H1 := H0
        go_wp2_with (go_at_call 85; refine (l00In_c _ _ _ _).mono ?_; rintro e w' ⟨rfl, rfl⟩; try rw [HD.out])
        go_ret2
        exact ⟨by rw [HV.out] <;> rfl, bl1 _ _⟩
    · have HV : Hid (readAt xs x y = (0, 2)) := Lib.hid (by
        have : atB x y = false := by
          cases h : atB x y
          · rfl
          · exact absurd ((atB_iff x y).1 h).1 h1
        simp [readAt, HO.out, this])
      have hd : (decide (0 ≤ x) && decide (x ≤ 5)) = false := by simpa using h1
      have HD := Lib.hid hd
      clear hd hg h1
      go_enter Try.func35, Try.ntmps35
      go_wp2_with fail
      refine (l06Ok_c xs hs _ _ _ H0.out).mono ?_
      rintro e w' ⟨rfl, rfl⟩
      rw [HO.out]
      have H1 := H0
      go_wp2_with (go_at_call 85; refine (l00In_c _ _ _ _).mono ?_; rintro e w' ⟨rfl, rfl⟩; rw [HD.out])
      go_ret2
      exact ⟨by rw [HV.out] <;> rfl, bl1 _ _⟩
set_option maxHeartbeats 400000 in
theorem implReadingAt_c (xs : List Int) (hs : Sc xs) (x y : Int) (w : World) :
    Calls Try.prog 36 #[.agg (arr .i8 xs), .int .i64 x, .int .i64 y] w fun e w' => e = .returned (.tuple #[.int .i64 (readAt xs x y).1, .int .i64 (readAt xs x y).2]) ∧ Below w.heap.size w w' := by
  have HL := Lib.hid hs.1
  have H0 := Lib.hid (al1_0 w (.cells (arr .i8 xs) 36))
  cases hok : okS xs
  · have HV : Hid (readAt xs x y = (0, 1)) := Lib.hid (by simp [readAt, hok])
    have HO := Lib.hid hok
    clear hok
    go_enter Try.func36, Try.ntmps36
    go_wp2_with (refine wpList_load_row rfl 36 (.tmp 3) rfl _ rfl _ _ _ _ H0.out Try.underlying36 rfl (by rw [szScene, arr_size, HL.out]) ?_)
    refine (implValidScene_c xs hs _).mono ?_
    rintro e w1 ⟨rfl, hb1⟩
    rw [HO.out]
    have hB1 := bt (bl1 _ _) hb1
    have H1 := Lib.hid (heap_below hb1 (by simp) H0.out)
    go_wp2
    go_ret2
    exact ⟨by rw [HV.out] <;> rfl, hB1⟩
  · have hg := okS_get hok
    have HO := Lib.hid hok
    clear hok
    by_cases h1 : 0 ≤ x ∧ x ≤ 5
    · by_cases h2 : 0 ≤ y ∧ y ≤ 3
      · have HV : Hid (readAt xs x y = (xs.getD (x + 6 * y).toNat 0, 0)) := Lib.hid (by simp [readAt, HO.out, (atB_iff x y).2 ⟨h1, h2⟩])
        obtain ⟨a1, a2⟩ := h1
        obtain ⟨a3, a4⟩ := h2
        obtain ⟨v, hv⟩ : ∃ v, v = xs.getD (x + 6 * y).toNat 0 := ⟨_, rfl⟩
        have hv1 : 0 ≤ v := by rw [hv]; exact (hg _).1
        have hv2 : v ≤ 60 := by rw [hv]; exact (hg _).2
        have hi : (x + 6 * y).toNat < 24 := by omega
        have E := Lib.hid hv
        clear hv hg
        go_enter Try.func36, Try.ntmps36
        go_wp2_with (refine wpList_load_row rfl 36 (.tmp 3) rfl _ rfl _ _ _ _ H0.out Try.underlying36 rfl (by rw [szScene, arr_size, HL.out]) ?_)
        refine (implValidScene_c xs hs _).mono ?_
        rintro e w1 ⟨rfl, hb1⟩
        rw [HO.out]
        have hB1 := bt (bl1 _ _) hb1
        have H1 := Lib.hid (heap_below hb1 (by simp) H0.out)
        have hcell : w1.cell? ⟨w.heap.size, (x + 6 * y).toNat, none⟩ = some (.int .i8 v) := by rw [E.out]; exact arr_cell H1.out _ (by rw [HL.out]; exact hi)
        go_wp2_with (go_at_call 94; refine (within_c _ _ _ _).mono ?_; rintro e w' ⟨rfl, rfl⟩)
        go_ret2
        exact ⟨by rw [HV.out, E.out] <;> rfl, hB1⟩
      · have HV : Hid (readAt xs x y = (0, 2)) := Lib.hid (by
          have : atB x y = false := by
            cases h : atB x y
            · rfl
            · exact absurd ((atB_iff x y).1 h).2 h2
          simp [readAt, HO.out, this])
        have hd : (decide (0 ≤ y) && decide (y ≤ 3)) = false := by simpa using h2
        obtain ⟨a1, a2⟩ := h1
        have HD := Lib.hid hd
        clear hd hg h2
        go_enter Try.func36, Try.ntmps36
        go_wp2_with (refine wpList_load_row rfl 36 (.tmp 3) rfl _ rfl _ _ _ _ H0.out Try.underlying36 rfl (by rw [szScene, arr_size, HL.out]) ?_)
        refine (implValidScene_c xs hs _).mono ?_
        rintro e w1 ⟨rfl, hb1⟩
        rw [HO.out]
        have hB1 := bt (bl1 _ _) hb1
        have H1 := Lib.hid (heap_below hb1 (by simp) H0.out)
        go_wp2_with (go_at_call 94; refine (within_c _ _ _ _).mono ?_; rintro e w' ⟨rfl, rfl⟩; try rw [HD.out])
        go_ret2
        exact ⟨by rw [HV.out] <;> rfl, hB1⟩
    · have HV : Hid (readAt xs x y = (0, 2)) := Lib.hid (by
        have : atB x y = false := by
          cases h : atB x y
          · rfl
          · exact absurd ((atB_iff x y).1 h).1 h1
        simp [readAt, HO.out, this])
      have hd : (decide (0 ≤ x) && decide (x ≤ 5)) = false := by simpa using h1
      have HD := Lib.hid hd
      clear hd hg h1
      go_enter Try.func36, Try.ntmps36
      go_wp2_with (refine wpList_load_row rfl 36 (.tmp 3) rfl _ rfl _ _ _ _ H0.out Try.underlying36 rfl (by rw [szScene, arr_size, HL.out]) ?_)
      refine (implValidScene_c xs hs _).mono ?_
      rintro e w1 ⟨rfl, hb1⟩
      rw [HO.out]
      have hB1 := bt (bl1 _ _) hb1
      have H1 := Lib.hid (heap_below hb1 (by simp) H0.out)
      go_wp2_with (go_at_call 94; refine (within_c _ _ _ _).mono ?_; rintro e w' ⟨rfl, rfl⟩; rw [HD.out])
      go_ret2
      exact ⟨by rw [HV.out] <;> rfl, hB1⟩

set_option linter.unusedVariables false in
theorem lawReadingAt_c (xs : List Int) (hl : xs.length = 24) (hx : I8 xs) (x : Int) (bd_x : -9223372036854775808 ≤ x ∧ x ≤ 9223372036854775807) (y : Int) (bd_y : -9223372036854775808 ≤ y ∧ y ≤ 9223372036854775807) (w : World) :
    Calls Try.prog 6 #[.agg (arr .i8 xs), .int .i64 x, .int .i64 y] w fun e w' => e = .returned (.bool true) ∧ Below w.heap.size w w' := by
  have hs : Sc xs := ⟨hl, hx⟩
  have HL := Lib.hid hl
  clear hl hx
  go_enter Try.func6, Try.ntmps6
  have H0 := Lib.hid (al1_0 w (.cells (arr .i8 xs) 34))
  go_wp2_with (refine wpList_load_row rfl 34 (.tmp 3) rfl _ rfl _ _ _ _ H0.out Try.underlying34 rfl (by rw [szA24, arr_size, HL.out]) ?_)
  refine (toScene_c xs hs _).mono ?_
  rintro e w1 ⟨rfl, hb1⟩
  have hB1 := bt (bl1 _ _) hb1
  have hz1 : w.heap.size < w1.heap.size := Nat.lt_of_lt_of_le (by simp) hb1.size
  have H1 := Lib.hid (heap_below hb1 (by simp) H0.out)
  clear hb1
  go_wp2_with fail
  refine (specReadingAt_c xs hs x y _).mono ?_
  rintro e w2 ⟨rfl, hb2⟩
  have hB2 := bt hB1 hb2
  have hz2 : w.heap.size < w2.heap.size := Nat.lt_of_lt_of_le hz1 hb2.size
  have H2 := Lib.hid (heap_below hb2 hz1 H1.out)
  clear hb2
  go_wp2_with (refine wpList_load_row rfl 34 (.tmp 3) rfl _ rfl _ _ _ _ H2.out Try.underlying34 rfl (by rw [szA24, arr_size, HL.out]) ?_)
  refine (toScene_c xs hs _).mono ?_
  rintro e w3 ⟨rfl, hb3⟩
  have hB3 := bt hB2 hb3
  have hz3 : w.heap.size < w3.heap.size := Nat.lt_of_lt_of_le hz2 hb3.size
  have H3 := Lib.hid (heap_below hb3 hz2 H2.out)
  clear hb3
  go_wp2_with fail
  refine (implReadingAt_c xs hs x y _).mono ?_
  rintro e w4 ⟨rfl, hb4⟩
  have hB4 := bt hB3 hb4
  have hz4 : w.heap.size < w4.heap.size := Nat.lt_of_lt_of_le hz3 hb4.size
  have H4 := Lib.hid (heap_below hb4 hz3 H3.out)
  clear hb4
  go_wp2_with fail
  go_ret
  exact ⟨rfl, hB4⟩
end Go.Proofs.Ytejkdiinohndiaa
