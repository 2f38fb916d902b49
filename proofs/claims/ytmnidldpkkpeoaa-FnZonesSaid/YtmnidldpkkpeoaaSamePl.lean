/- SamePlacing: the program's and the reference's; PlaceFor's law. -/
import Derived.Test.YtmnidldpkkpeoaaPlac
namespace Go.Proofs.Ytmnidldpkkpeoaa
open Go.RowKit
theorem szPl : (Try.prog.info? 42).map (·.size) = some 2 := by kernel_rfl
def plcV (p : Int × Int × Int) : Value := .tuple #[.agg #[.int .i8 p.1, .int .i8 p.2.1], .int .i64 p.2.2]
def samV (r z q : Int) : Int × Int × Int := if plB r z then (if znB q then (if rdB (r + 3 * (q - z)) then (r + 3 * (q - z), q, 0) else (0, 0, 6)) else (0, 0, 2)) else (0, 0, 1)
set_option maxHeartbeats 400000 in
theorem specSame_c (r z : Int) (hr : -128 ≤ r ∧ r ≤ 127) (hz : -128 ≤ z ∧ z ≤ 127) (q : Int) (w : World) :
    Calls Try.prog 33 #[.agg #[.int .i8 r, .int .i8 z], .int .i64 q] w fun e w' => e = .returned (plcV (samV r z q)) ∧ Below w.heap.size w w' := by
  have B0 := Lib.hid (al2_0 w (.cells #[.int .i8 r, .int .i8 z] 42) (.cells #[.int .i8 0, .int .i8 0] 42))
  have R0 := Lib.hid (al2_1 w (.cells #[.int .i8 r, .int .i8 z] 42) (.cells #[.int .i8 0, .int .i8 0] 42))
  obtain ⟨r1, r2⟩ := hr
  obtain ⟨z1, z2⟩ := hz
  have hr : -128 ≤ r ∧ r ≤ 127 := ⟨r1, r2⟩
  have hz : -128 ≤ z ∧ z ≤ 127 := ⟨z1, z2⟩
  cases hb : plB r z
  · have HV : Hid (samV r z q = (0, 0, 1)) := Lib.hid (by simp [samV, hb])
    have HB := Lib.hid hb
    clear hb
    go_enter Try.func33, Try.ntmps33
    go_wp2_with fail
    refine (l06Placement_c r z hr hz _).mono ?_
    rintro e w1 ⟨rfl, hb1⟩
    rw [HB.out]
    have HB0 := Lib.hid (heap_below hb1 (by simp <;> omega) B0.out)
    have HR := Lib.hid (heap_below hb1 (by simp) R0.out)
    have BL := Lib.hid (bt (bl2 _ _ _) hb1)
    clear hb1
    have c0 := bk2_0 HB0.out
    have c1 := bk2_1 HB0.out
    have r0 := bk2_0 HR.out
    have rf0 := blk_f HR.out 0
    have r1 := bk2_1 HR.out
    have rf1 := blk_f HR.out 1
    go_wp2
    exact bodyPost_ret (results_ct rfl _ _ _ 42 _ _ _ rfl (bk2 HR.out) Try.underlying42 rfl szPl) rfl ⟨by rw [HV.out] <;> rfl, below2 BL.out (by omega) _ _⟩
  · obtain ⟨⟨r3, r4⟩, z3, z4⟩ := (plB_iff r z).1 hb
    cases hq : znB q
    · have HV : Hid (samV r z q = (0, 0, 2)) := Lib.hid (by simp [samV, hb, hq])
      have HB := Lib.hid hb
      have HZ := Lib.hid hq
      unfold znB at HZ
      clear hb hq
      go_enter Try.func33, Try.ntmps33
      go_wp2_with fail
      refine (l06Placement_c r z hr hz _).mono ?_
      rintro e w1 ⟨rfl, hb1⟩
      rw [HB.out]
      have HB0 := Lib.hid (heap_below hb1 (by simp <;> omega) B0.out)
      have HR := Lib.hid (heap_below hb1 (by simp) R0.out)
      have BL := Lib.hid (bt (bl2 _ _ _) hb1)
      clear hb1
      have c0 := bk2_0 HB0.out
      have c1 := bk2_1 HB0.out
      have r0 := bk2_0 HR.out
      have rf0 := blk_f HR.out 0
      have r1 := bk2_1 HR.out
      have rf1 := blk_f HR.out 1
      go_wp2_with (go_at_call 67; refine (l00In_c _ _ _ _).mono ?_; rintro e w' ⟨rfl, rfl⟩; rw [HZ.out])
      exact bodyPost_ret (results_ct rfl _ _ _ 42 _ _ _ rfl (bk2 HR.out) Try.underlying42 rfl szPl) rfl ⟨by rw [HV.out] <;> rfl, below2 BL.out (by omega) _ _⟩
    · obtain ⟨q1, q2⟩ := (znB_iff q).1 hq
      cases hn : rdB (r + 3 * (q - z))
      · have HV : Hid (samV r z q = (0, 0, 6)) := Lib.hid (by simp [samV, hb, hq, hn])
        have HB := Lib.hid hb
        have HZ := Lib.hid hq
        have HN := Lib.hid hn
        unfold znB at HZ
        clear hb hq hn
        go_enter Try.func33, Try.ntmps33
        go_wp2_with fail
        refine (l06Placement_c r z hr hz _).mono ?_
        rintro e w1 ⟨rfl, hb1⟩
        rw [HB.out]
        have HB0 := Lib.hid (heap_below hb1 (by simp <;> omega) B0.out)
        have HR := Lib.hid (heap_below hb1 (by simp) R0.out)
        have BL := Lib.hid (bt (bl2 _ _ _) hb1)
        clear hb1
        have c0 := bk2_0 HB0.out
        have c1 := bk2_1 HB0.out
        have r0 := bk2_0 HR.out
        have rf0 := blk_f HR.out 0
        have r1 := bk2_1 HR.out
        have rf1 := blk_f HR.out 1
        go_wp2_with (first | (go_at_call 67; refine (l00In_c _ _ _ _).mono ?_; rintro e w' ⟨rfl, rfl⟩; rw [HZ.out]) | (go_at_call 43; refine (l06Reading_c _ _).mono ?_; rintro e w' ⟨rfl, rfl⟩; rw [HN.out]))
        exact bodyPost_ret (results_ct rfl _ _ _ 42 _ _ _ rfl (bk2 HR.out) Try.underlying42 rfl szPl) rfl ⟨by rw [HV.out] <;> rfl, below2 BL.out (by omega) _ _⟩
      · have HV : Hid (samV r z q = (r + 3 * (q - z), q, 0)) := Lib.hid (by simp [samV, hb, hq, hn])
        obtain ⟨n1, n2⟩ := (rdB_iff _).1 hn
        have HB := Lib.hid hb
        have HZ := Lib.hid hq
        have HN := Lib.hid hn
        unfold znB at HZ
        clear hb hq hn
        go_enter Try.func33, Try.ntmps33
        go_wp2_with fail
        refine (l06Placement_c r z hr hz _).mono ?_
        rintro e w1 ⟨rfl, hb1⟩
        rw [HB.out]
        have HB0 := Lib.hid (heap_below hb1 (by simp <;> omega) B0.out)
        have HR := Lib.hid (heap_below hb1 (by simp) R0.out)
        have BL := Lib.hid (bt (bl2 _ _ _) hb1)
        clear hb1
        have c0 := bk2_0 HB0.out
        have c1 := bk2_1 HB0.out
        have r0 := bk2_0 HR.out
        have rf0 := blk_f HR.out 0
        have r1 := bk2_1 HR.out
        have rf1 := blk_f HR.out 1
        go_wp2_with (first | (go_at_call 67; refine (l00In_c _ _ _ _).mono ?_; rintro e w' ⟨rfl, rfl⟩; rw [HZ.out]) | (go_at_call 43; refine (l06Reading_c _ _).mono ?_; rintro e w' ⟨rfl, rfl⟩; rw [HN.out]))
        exact bodyPost_ret (results_ct rfl _ _ _ 42 _ _ _ rfl (bk2 HR.out) Try.underlying42 rfl szPl) rfl ⟨by rw [HV.out] <;> rfl, below2 BL.out (by omega) _ _⟩
set_option maxHeartbeats 400000 in
theorem implSame_c (r z : Int) (hr : -128 ≤ r ∧ r ≤ 127) (hz : -128 ≤ z ∧ z ≤ 127) (q : Int) (w : World) :
    Calls Try.prog 31 #[.agg #[.int .i8 r, .int .i8 z], .int .i64 q] w fun e w' => e = .returned (plcV (samV r z q)) ∧ Below w.heap.size w w' := by
  have B0 := Lib.hid (al2_0 w (.cells #[.int .i8 r, .int .i8 z] 42) (.cells #[.int .i8 0, .int .i8 0] 42))
  have R0 := Lib.hid (al2_1 w (.cells #[.int .i8 r, .int .i8 z] 42) (.cells #[.int .i8 0, .int .i8 0] 42))
  obtain ⟨r1, r2⟩ := hr
  obtain ⟨z1, z2⟩ := hz
  have hr : -128 ≤ r ∧ r ≤ 127 := ⟨r1, r2⟩
  have hz : -128 ≤ z ∧ z ≤ 127 := ⟨z1, z2⟩
  cases hb : plB r z
  · have HV : Hid (samV r z q = (0, 0, 1)) := Lib.hid (by simp [samV, hb])
    have HB := Lib.hid hb
    clear hb
    go_enter Try.func31, Try.ntmps31
    go_wp2_with fail
    refine (isPlacement_c r z hr hz _).mono ?_
    rintro e w1 ⟨rfl, hb1⟩
    rw [HB.out]
    have HB0 := Lib.hid (heap_below hb1 (by simp <;> omega) B0.out)
    have HR := Lib.hid (heap_below hb1 (by simp) R0.out)
    have BL := Lib.hid (bt (bl2 _ _ _) hb1)
    clear hb1
    have c0 := bk2_0 HB0.out
    have c1 := bk2_1 HB0.out
    have r0 := bk2_0 HR.out
    have rf0 := blk_f HR.out 0
    have r1 := bk2_1 HR.out
    have rf1 := blk_f HR.out 1
    go_wp2
    exact bodyPost_ret (results_ct rfl _ _ _ 42 _ _ _ rfl (bk2 HR.out) Try.underlying42 rfl szPl) rfl ⟨by rw [HV.out] <;> rfl, below2 BL.out (by omega) _ _⟩
  · obtain ⟨⟨r3, r4⟩, z3, z4⟩ := (plB_iff r z).1 hb
    cases hq : znB q
    · have HV : Hid (samV r z q = (0, 0, 2)) := Lib.hid (by simp [samV, hb, hq])
      have HB := Lib.hid hb
      have HZ := Lib.hid hq
      clear hb hq
      go_enter Try.func31, Try.ntmps31
      go_wp2_with fail
      refine (isPlacement_c r z hr hz _).mono ?_
      rintro e w1 ⟨rfl, hb1⟩
      rw [HB.out]
      have HB0 := Lib.hid (heap_below hb1 (by simp <;> omega) B0.out)
      have HR := Lib.hid (heap_below hb1 (by simp) R0.out)
      have BL := Lib.hid (bt (bl2 _ _ _) hb1)
      clear hb1
      have c0 := bk2_0 HB0.out
      have c1 := bk2_1 HB0.out
      have r0 := bk2_0 HR.out
      have rf0 := blk_f HR.out 0
      have r1 := bk2_1 HR.out
      have rf1 := blk_f HR.out 1
      go_wp2_with (go_at_call 62; refine (isZone_c _ _).mono ?_; rintro e w' ⟨rfl, rfl⟩; rw [HZ.out])
      exact bodyPost_ret (results_ct rfl _ _ _ 42 _ _ _ rfl (bk2 HR.out) Try.underlying42 rfl szPl) rfl ⟨by rw [HV.out] <;> rfl, below2 BL.out (by omega) _ _⟩
    · obtain ⟨q1, q2⟩ := (znB_iff q).1 hq
      cases hn : rdB (r + 3 * (q - z))
      · have HV : Hid (samV r z q = (0, 0, 6)) := Lib.hid (by simp [samV, hb, hq, hn])
        have HB := Lib.hid hb
        have HZ := Lib.hid hq
        have HN := Lib.hid hn
        clear hb hq hn
        go_enter Try.func31, Try.ntmps31
        go_wp2_with fail
        refine (isPlacement_c r z hr hz _).mono ?_
        rintro e w1 ⟨rfl, hb1⟩
        rw [HB.out]
        have HB0 := Lib.hid (heap_below hb1 (by simp <;> omega) B0.out)
        have HR := Lib.hid (heap_below hb1 (by simp) R0.out)
        have BL := Lib.hid (bt (bl2 _ _ _) hb1)
        clear hb1
        have c0 := bk2_0 HB0.out
        have c1 := bk2_1 HB0.out
        have r0 := bk2_0 HR.out
        have rf0 := blk_f HR.out 0
        have r1 := bk2_1 HR.out
        have rf1 := blk_f HR.out 1
        go_wp2_with (first | (go_at_call 62; refine (isZone_c _ _).mono ?_; rintro e w' ⟨rfl, rfl⟩; rw [HZ.out]) | (go_at_call 47; refine (isReading_c _ _).mono ?_; rintro e w' ⟨rfl, rfl⟩; rw [HN.out]))
        exact bodyPost_ret (results_ct rfl _ _ _ 42 _ _ _ rfl (bk2 HR.out) Try.underlying42 rfl szPl) rfl ⟨by rw [HV.out] <;> rfl, below2 BL.out (by omega) _ _⟩
      · have HV : Hid (samV r z q = (r + 3 * (q - z), q, 0)) := Lib.hid (by simp [samV, hb, hq, hn])
        obtain ⟨n1, n2⟩ := (rdB_iff _).1 hn
        have HB := Lib.hid hb
        have HZ := Lib.hid hq
        have HN := Lib.hid hn
        clear hb hq hn
        go_enter Try.func31, Try.ntmps31
        go_wp2_with fail
        refine (isPlacement_c r z hr hz _).mono ?_
        rintro e w1 ⟨rfl, hb1⟩
        rw [HB.out]
        have HB0 := Lib.hid (heap_below hb1 (by simp <;> omega) B0.out)
        have HR := Lib.hid (heap_below hb1 (by simp) R0.out)
        have BL := Lib.hid (bt (bl2 _ _ _) hb1)
        clear hb1
        have c0 := bk2_0 HB0.out
        have c1 := bk2_1 HB0.out
        have r0 := bk2_0 HR.out
        have rf0 := blk_f HR.out 0
        have r1 := bk2_1 HR.out
        have rf1 := blk_f HR.out 1
        go_wp2_with (first | (go_at_call 62; refine (isZone_c _ _).mono ?_; rintro e w' ⟨rfl, rfl⟩; rw [HZ.out]) | (go_at_call 47; refine (isReading_c _ _).mono ?_; rintro e w' ⟨rfl, rfl⟩; rw [HN.out]))
        exact bodyPost_ret (results_ct rfl _ _ _ 42 _ _ _ rfl (bk2 HR.out) Try.underlying42 rfl szPl) rfl ⟨by rw [HV.out] <;> rfl, below2 BL.out (by omega) _ _⟩
end Go.Proofs.Ytmnidldpkkpeoaa
