/- Settings: valid ones, their values, more light. -/
import Derived.Test.YtmnidldpkkpeoaaPlac
namespace Go.Proofs.Ytmnidldpkkpeoaa
open Go.RowKit
/-- Three numbers of eight bits. -/
def S8 (a b c : Int) : Prop := (-128 ≤ a ∧ a ≤ 127) ∧ (-128 ≤ b ∧ b ≤ 127) ∧ -128 ≤ c ∧ c ≤ 127
def shB (a : Int) : Bool := decide (0 ≤ a) && decide (a ≤ 45)
def apB (b : Int) : Bool := decide (0 ≤ b) && decide (b ≤ 30)
def spB (c : Int) : Bool := decide (0 ≤ c) && decide (c ≤ 21)
def stB (a b c : Int) : Bool := shB a && (apB b && spB c)
theorem stB_iff (a b c : Int) : stB a b c = true ↔ (0 ≤ a ∧ a ≤ 45) ∧ (0 ≤ b ∧ b ≤ 30) ∧ 0 ≤ c ∧ c ≤ 21 := by simp [stB, shB, apB, spB]
theorem isShutter_c (n : Int) (w : World) :
    Calls Try.prog 84 #[.int .i64 n] w fun e w' => e = .returned (.bool (shB n)) ∧ w = w' := by
  go_enter Try.func84, Try.ntmps84
  go_wp2_with (go_at_call 72; refine (within_c _ _ _ _).mono ?_; rintro e w' ⟨rfl, rfl⟩)
  go_ret
  exact ⟨rfl, rfl⟩
theorem validSetting_c (a b c : Int) (h : S8 a b c) (w : World) :
    Calls Try.prog 70 #[.agg #[.int .i8 a, .int .i8 b, .int .i8 c]] w fun e w' => e = .returned (.bool (stB a b c)) ∧ Below w.heap.size w w' := by
  obtain ⟨⟨h1, h2⟩, ⟨h3, h4⟩, h5, h6⟩ := h
  cases hb : shB a
  · have HV : Hid (stB a b c = false) := Lib.hid (by simp [stB, hb])
    have HB := Lib.hid hb
    clear hb
    go_enter Try.func70, Try.ntmps70
    go_wp2_with (go_at_call 84; refine (isShutter_c _ _).mono ?_; rintro e w' ⟨rfl, rfl⟩; rw [HB.out])
    go_ret
    exact ⟨ret_bool HV.out.symm, bl1 _ _⟩
  · cases ha : apB b
    · have HV : Hid (stB a b c = false) := Lib.hid (by simp [stB, ha])
      have HB := Lib.hid hb
      have HA := Lib.hid ha
      unfold apB at HA
      clear hb ha
      go_enter Try.func70, Try.ntmps70
      go_wp2_with (first | (go_at_call 84; refine (isShutter_c _ _).mono ?_; rintro e w' ⟨rfl, rfl⟩; rw [HB.out]) | (go_at_call 72; refine (within_c _ _ _ _).mono ?_; rintro e w' ⟨rfl, rfl⟩; rw [HA.out]))
      go_ret
      exact ⟨ret_bool HV.out.symm, bl1 _ _⟩
    · have HV : Hid (stB a b c = spB c) := Lib.hid (by simp [stB, ha, hb])
      have HB := Lib.hid hb
      have HA := Lib.hid ha
      unfold apB at HA
      clear hb ha
      go_enter Try.func70, Try.ntmps70
      go_wp2_with (first | (go_at_call 84; refine (isShutter_c _ _).mono ?_; rintro e w' ⟨rfl, rfl⟩; rw [HB.out]) | (go_at_call 72; refine (within_c _ _ _ _).mono ?_; rintro e w' ⟨rfl, rfl⟩; first | rw [HA.out] | skip))
      go_ret
      exact ⟨ret_bool HV.out.symm, bl1 _ _⟩
def valV (a b c : Int) : Int × Int := if stB a b c then (a - b + c, 0) else (0, 1)
theorem within_t (n a b : Int) (h : a ≤ n ∧ n ≤ b) (w : World) : Calls Try.prog 72 #[.int .i64 n, .int .i64 a, .int .i64 b] w fun e w' => e = .returned (.bool true) ∧ w = w' :=
  (within_c n a b w).mono fun _ _ ⟨he, hw⟩ => ⟨by rw [he]; simp [h], hw⟩
theorem within_f (n a b : Int) (h : n < a ∨ b < n) (w : World) : Calls Try.prog 72 #[.int .i64 n, .int .i64 a, .int .i64 b] w fun e w' => e = .returned (.bool false) ∧ w = w' :=
  (within_c n a b w).mono fun _ _ ⟨he, hw⟩ => ⟨by rw [he]; exact ret_bool (by simp; omega), hw⟩
theorem l00In_t (n a b : Int) (h : a ≤ n ∧ n ≤ b) (w : World) : Calls Try.prog 67 #[.int .i64 n, .int .i64 a, .int .i64 b] w fun e w' => e = .returned (.bool true) ∧ w = w' :=
  (l00In_c n a b w).mono fun _ _ ⟨he, hw⟩ => ⟨by rw [he]; simp [h], hw⟩
theorem l00In_f (n a b : Int) (h : n < a ∨ b < n) (w : World) : Calls Try.prog 67 #[.int .i64 n, .int .i64 a, .int .i64 b] w fun e w' => e = .returned (.bool false) ∧ w = w' :=
  (l00In_c n a b w).mono fun _ _ ⟨he, hw⟩ => ⟨by rw [he]; exact ret_bool (by simp; omega), hw⟩
/-- The shutter of a setting with some thirds more. -/
def moreSh (a th : Int) : Int := if a + th ≤ 0 then 0 else if a + th < 45 then a + th else 45
def moreAp (a b th : Int) : Int := b - (th - (moreSh a th - a))
def moreV (a b c th : Int) : Int × Int × Int × Int := if apB (moreAp a b th) then (moreSh a th, moreAp a b th, c, 0) else (0, 0, 0, 6)
set_option maxHeartbeats 400000 in
theorem more_c (a b c : Int) (h : stB a b c = true) (th : Int) (ht : -1000 ≤ th ∧ th ≤ 1000) (w : World) :
    Calls Try.prog 71 #[.agg #[.int .i8 a, .int .i8 b, .int .i8 c], .int .i64 th] w fun e w' => e = .returned (.tuple #[.agg #[.int .i8 (moreV a b c th).1, .int .i8 (moreV a b c th).2.1, .int .i8 (moreV a b c th).2.2.1], .int .i64 (moreV a b c th).2.2.2]) ∧ Below w.heap.size w w' := by
  obtain ⟨⟨h1, h2⟩, ⟨h3, h4⟩, h5, h6⟩ := (stB_iff a b c).1 h
  obtain ⟨h7, h8⟩ := ht
  clear h
  obtain ⟨sh, hsh⟩ : ∃ s, s = moreSh a th := ⟨_, rfl⟩
  obtain ⟨ap, hap⟩ : ∃ s, s = moreAp a b th := ⟨_, rfl⟩
  have e2 : ap = b - (th - (sh - a)) := by rw [hap, hsh]; rfl
  have e1 : (a + th ≤ 0 ∧ sh = 0) ∨ (0 < a + th ∧ a + th < 45 ∧ sh = a + th) ∨ (45 ≤ a + th ∧ sh = 45) := by
    rw [hsh]; unfold moreSh; split
    · left; exact ⟨by assumption, rfl⟩
    · split
      · right; left; exact ⟨by omega, by assumption, rfl⟩
      · right; right; exact ⟨by omega, rfl⟩
  have HV : Hid (moreV a b c th = if apB ap then (sh, ap, c, 0) else (0, 0, 0, 6)) := Lib.hid (by unfold moreV; rw [← hap, ← hsh])
  clear hsh hap
  by_cases hb : 0 ≤ ap ∧ ap ≤ 30
  · have HV2 : Hid (moreV a b c th = (sh, ap, c, 0)) := Lib.hid (by rw [HV.out]; simp [apB, hb])
    obtain ⟨b1, b2⟩ := hb
    subst e2
    rcases e1 with ⟨q1, rfl⟩ | ⟨q1, q2, rfl⟩ | ⟨q1, rfl⟩
    all_goals
      go_enter Try.func71, Try.ntmps71
      go_wp2_with (go_at_call 72; refine (within_t _ _ _ ⟨by omega, by omega⟩ _).mono ?_; rintro e w' ⟨rfl, rfl⟩)
      refine bodyPost_ret (v := .tuple #[.agg #[.int .i8 (moreV a b c th).1, .int .i8 (moreV a b c th).2.1, .int .i8 (moreV a b c th).2.2.1], .int .i64 (moreV a b c th).2.2.2]) ?_ rfl ⟨rfl, bl2 _ _ _⟩
      rw [HV2.out]
      simp [results, Try.results71, go_sem]
      try omega
  · have HV2 : Hid (moreV a b c th = (0, 0, 0, 6)) := Lib.hid (by
      have : apB ap = false := by cases hq : apB ap; rfl; exact absurd (by simpa [apB] using hq) hb
      rw [HV.out, this]; rfl)
    have hb' : ap < 0 ∨ 30 < ap := by omega
    clear hb
    subst e2
    rcases e1 with ⟨q1, rfl⟩ | ⟨q1, q2, rfl⟩ | ⟨q1, rfl⟩ <;> rcases hb' with hb' | hb' <;> try (exfalso; omega)
    all_goals
      go_enter Try.func71, Try.ntmps71
      go_wp2_with (go_at_call 72; refine (within_f _ _ _ (by omega) _).mono ?_; rintro e w' ⟨rfl, rfl⟩)
      all_goals
        refine bodyPost_ret (v := .tuple #[.agg #[.int .i8 (moreV a b c th).1, .int .i8 (moreV a b c th).2.1, .int .i8 (moreV a b c th).2.2.1], .int .i64 (moreV a b c th).2.2.2]) ?_ rfl ⟨rfl, bl2 _ _ _⟩
        rw [HV2.out]
        simp [results, Try.results71, go_sem]
def moreB (a b c th : Int) : Int × Int × Int × Bool := if apB (moreAp a b th) then (moreSh a th, moreAp a b th, c, true) else (0, 0, 0, false)
def mlV (a b c th : Int) : Int × Int × Int × Int := if stB a b c then (if -100 ≤ th ∧ th ≤ 100 then moreV a b c th else (0, 0, 0, 2)) else (0, 0, 0, 1)
def stV (p : Int × Int × Int × Int) : Value := .tuple #[.agg #[.int .i8 p.1, .int .i8 p.2.1, .int .i8 p.2.2.1], .int .i64 p.2.2.2]
theorem szSet : (Try.prog.info? 59).map (·.size) = some 3 := by kernel_rfl
theorem hasMoreLight : True := trivial
set_option maxHeartbeats 400000 in
theorem implMoreLight_c (a b c : Int) (h : S8 a b c) (th : Int) (w : World) :
    Calls Try.prog 37 #[.agg #[.int .i8 a, .int .i8 b, .int .i8 c], .int .i64 th] w fun e w' => e = .returned (stV (mlV a b c th)) ∧ Below w.heap.size w w' := by
  have B0 := Lib.hid (al2_0 w (.cells #[.int .i8 a, .int .i8 b, .int .i8 c] 59) (.cells #[.int .i8 0, .int .i8 0, .int .i8 0] 59))
  have R0 := Lib.hid (al2_1 w (.cells #[.int .i8 a, .int .i8 b, .int .i8 c] 59) (.cells #[.int .i8 0, .int .i8 0, .int .i8 0] 59))
  cases hb : stB a b c
  · have HV : Hid (mlV a b c th = (0, 0, 0, 1)) := Lib.hid (by simp [mlV, hb])
    have HB := Lib.hid hb
    clear hb
    go_enter Try.func37, Try.ntmps37
    go_wp2_with fail
    refine (validSetting_c a b c h _).mono ?_
    rintro e w1 ⟨rfl, hb1⟩
    rw [HB.out]
    have HB0 := Lib.hid (heap_below hb1 (by simp <;> omega) B0.out)
    have HR := Lib.hid (heap_below hb1 (by simp) R0.out)
    have BL := Lib.hid (bt (bl2 _ _ _) hb1)
    have hz1 : w.heap.size + 1 < w1.heap.size := Nat.lt_of_lt_of_le (by simp) hb1.size
    clear hb1
    have c0 := blk3_0 HB0.out
    have c1 := blk3_1 HB0.out
    have c2 := blk3_2 HB0.out
    have r0 := blk3_0 HR.out
    have rf0 := blk_f HR.out 0
    have r1 := blk3_1 HR.out
    have rf1 := blk_f HR.out 1
    have r2 := blk3_2 HR.out
    have rf2 := blk_f HR.out 2
    go_wp2
    exact bodyPost_ret (results_ct rfl _ _ _ 59 _ _ _ rfl (blk3 HR.out) Try.underlying59 rfl szSet) rfl ⟨by rw [HV.out] <;> rfl, below3 BL.out (by omega) _ _ _⟩
  · by_cases ht : -100 ≤ th ∧ th ≤ 100
    · have HV : Hid (mlV a b c th = moreV a b c th) := Lib.hid (by simp [mlV, hb, ht])
      obtain ⟨t1, t2⟩ := ht
      have HB := Lib.hid hb
      clear hb
      go_enter Try.func37, Try.ntmps37
      go_wp2_with fail
      refine (validSetting_c a b c h _).mono ?_
      rintro e w1 ⟨rfl, hb1⟩
      rw [HB.out]
      have HB0 := Lib.hid (heap_below hb1 (by simp <;> omega) B0.out)
      have HR := Lib.hid (heap_below hb1 (by simp) R0.out)
      have BL := Lib.hid (bt (bl2 _ _ _) hb1)
      have hz1 : w.heap.size + 1 < w1.heap.size := Nat.lt_of_lt_of_le (by simp) hb1.size
      clear hb1
      have c0 := blk3_0 HB0.out
      have c1 := blk3_1 HB0.out
      have c2 := blk3_2 HB0.out
      have r0 := blk3_0 HR.out
      have rf0 := blk_f HR.out 0
      have r1 := blk3_1 HR.out
      have rf1 := blk_f HR.out 1
      have r2 := blk3_2 HR.out
      have rf2 := blk_f HR.out 2
      go_wp2_with (go_at_call 72; refine (within_t _ _ _ ⟨by omega, by omega⟩ _).mono ?_; rintro e w' ⟨rfl, rfl⟩)
      refine (more_c a b c HB.out th ⟨by omega, by omega⟩ _).mono ?_
      rintro e w2 ⟨rfl, hb2⟩
      have HR2 := Lib.hid (heap_below hb2 hz1 HR.out)
      have BL2 := Lib.hid (bt BL.out hb2)
      clear hb2 r0 r1 r2 rf0 rf1 rf2 c0 c1 c2
      generalize moreV a b c th = M at *
      have s0 := blk3_0 HR2.out
      have sf0 := blk_f HR2.out 0
      have s1 := blk3_1 HR2.out
      have sf1 := blk_f HR2.out 1
      have s2 := blk3_2 HR2.out
      have sf2 := blk_f HR2.out 2
      go_wp2
      exact bodyPost_ret (results_ct rfl _ _ _ 59 _ _ _ rfl (blk3 HR2.out) Try.underlying59 rfl szSet) rfl ⟨by rw [HV.out] <;> rfl, below3 BL2.out (by omega) _ _ _⟩
    · have HV : Hid (mlV a b c th = (0, 0, 0, 2)) := Lib.hid (by simp [mlV, hb, ht])
      have ht' : th < -100 ∨ 100 < th := by omega
      have HB := Lib.hid hb
      clear hb ht
      rcases ht' with ht' | ht'
      all_goals
        go_enter Try.func37, Try.ntmps37
        go_wp2_with fail
        refine (validSetting_c a b c h _).mono ?_
        rintro e w1 ⟨rfl, hb1⟩
        rw [HB.out]
        have HB0 := Lib.hid (heap_below hb1 (by simp <;> omega) B0.out)
        have HR := Lib.hid (heap_below hb1 (by simp) R0.out)
        have BL := Lib.hid (bt (bl2 _ _ _) hb1)
        have hz1 : w.heap.size + 1 < w1.heap.size := Nat.lt_of_lt_of_le (by simp) hb1.size
        clear hb1
        have c0 := blk3_0 HB0.out
        have c1 := blk3_1 HB0.out
        have c2 := blk3_2 HB0.out
        have r0 := blk3_0 HR.out
        have rf0 := blk_f HR.out 0
        have r1 := blk3_1 HR.out
        have rf1 := blk_f HR.out 1
        have r2 := blk3_2 HR.out
        have rf2 := blk_f HR.out 2
        go_wp2_with (go_at_call 72; refine (within_f _ _ _ (by omega) _).mono ?_; rintro e w' ⟨rfl, rfl⟩)
        exact bodyPost_ret (results_ct rfl _ _ _ 59 _ _ _ rfl (blk3 HR.out) Try.underlying59 rfl szSet) rfl ⟨by rw [HV.out] <;> rfl, below3 BL.out (by omega) _ _ _⟩
end Go.Proofs.Ytmnidldpkkpeoaa
