/- SettingFor: the program's and the reference's. -/
import Derived.Test.YtmnidldpkkpeoaaSet
import Derived.Test.YtmnidldpkkpeoaaExpThirds
import Derived.Test.YtmnidldpkkpeoaaSamePl
import Derived.Deep.RegionHeld3
namespace Go.Proofs.Ytmnidldpkkpeoaa
open Go.RowKit
/-- What is kept in mind inside the last statement of the program's SettingFor. -/
def Q6 (w0 : World) (b0 b1 b2 : Nat) (a b c r z : Int) (w : World) : Prop :=
  Below w0.heap.size w0 w ∧ (w.cell? ⟨b0, 0, none⟩ = some (.int .i8 a) ∧ w.cell? ⟨b0, 1, none⟩ = some (.int .i8 b) ∧ w.cell? ⟨b0, 2, none⟩ = some (.int .i8 c)) ∧
    (w.cell? ⟨b1, 0, none⟩ = some (.int .i8 r) ∧ w.cell? ⟨b1, 1, none⟩ = some (.int .i8 z)) ∧ ∃ x1 x2 x3, w.heap[b2]? = some (.cells #[x1, x2, x3] 59 (0, 0))
theorem q6_next {w0 w w1 : World} {b0 b1 b2 : Nat} {a b c r z : Int} (hb : Below w.heap.size w w1) (h : Q6 w0 b0 b1 b2 a b c r z w) : Q6 w0 b0 b1 b2 a b c r z w1 := by
  obtain ⟨h0, ⟨h1, h2, h3⟩, ⟨h4, h5⟩, x1, x2, x3, h6⟩ := h
  have l0 : b0 < w.heap.size := World.block_lt_of_cell? w _ h1
  have l1 : b1 < w.heap.size := World.block_lt_of_cell? w _ h4
  exact ⟨bt h0 hb, ⟨(hb.cell (p := ⟨b0, 0, none⟩) l0).trans h1, (hb.cell (p := ⟨b0, 1, none⟩) l0).trans h2, (hb.cell (p := ⟨b0, 2, none⟩) l0).trans h3⟩,
    ⟨(hb.cell (p := ⟨b1, 0, none⟩) l1).trans h4, (hb.cell (p := ⟨b1, 1, none⟩) l1).trans h5⟩, x1, x2, x3, heap_below hb (lt_of_heap h6) h6⟩
theorem q6_drew {w0 w : World} {b0 b1 b2 : Nat} {a b c r z : Int} (h : Q6 w0 b0 b1 b2 a b c r z w) : Q6 w0 b0 b1 b2 a b c r z w.drew := ⟨bl_drew h.1, h.2⟩
theorem q6_store {w0 w : World} {b0 b1 b2 : Nat} {a b c r z : Int} (h : Q6 w0 b0 b1 b2 a b c r z w) (n0 : b2 ≠ b0) (n1 : b2 ≠ b1) (n2 : w0.heap.size ≤ b2) (x y u : Value) :
    Q6 w0 b0 b1 b2 a b c r z (((w.setCell ⟨b2, 0, none⟩ x).setCell ⟨b2, 1, none⟩ y).setCell ⟨b2, 2, none⟩ u) := by
  obtain ⟨h0, ⟨h1, h2, h3⟩, ⟨h4, h5⟩, x1, x2, x3, h6⟩ := h
  have f : ∀ (p : Addr), p.block ≠ b2 → (((w.setCell ⟨b2, 0, none⟩ x).setCell ⟨b2, 1, none⟩ y).setCell ⟨b2, 2, none⟩ u).cell? p = w.cell? p := fun p hp => by
    rw [World.cell?_setCell_other _ _ _ _ (fun e => hp (by rw [← e])), World.cell?_setCell_other _ _ _ _ (fun e => hp (by rw [← e])), World.cell?_setCell_other _ _ _ _ (fun e => hp (by rw [← e]))]
  exact ⟨below3 h0 n2 _ _ _, ⟨(f _ (fun e => n0 e.symm)).trans h1, (f _ (fun e => n0 e.symm)).trans h2, (f _ (fun e => n0 e.symm)).trans h3⟩, ⟨(f _ (fun e => n1 e.symm)).trans h4, (f _ (fun e => n1 e.symm)).trans h5⟩, _, _, _, blk3 h6⟩
def sfV (a b c q r z : Int) : Int × Int × Int × Int := if stB a b c && plB r z then (if rdB q then moreV a b c (3 * (z - 5) + q - r) else (0, 0, 0, 2)) else (0, 0, 0, 1)
theorem mlV_near (a b c th : Int) (h : stB a b c = true) (ht : -100 ≤ th ∧ th ≤ 100) : mlV a b c th = moreV a b c th := by simp [mlV, h, ht]
set_option maxHeartbeats 1000000 in
set_option maxRecDepth 100000 in
theorem implSettingFor_c (a b c : Int) (h : S8 a b c) (q r z : Int) (hr : -128 ≤ r ∧ r ≤ 127) (hz : -128 ≤ z ∧ z ≤ 127) (w : World) :
    Calls Try.prog 36 #[.agg #[.int .i8 a, .int .i8 b, .int .i8 c], .int .i64 q, .agg #[.int .i8 r, .int .i8 z]] w fun e w' => e = .returned (stV (sfV a b c q r z)) ∧ Below w.heap.size w w' := by
  have B0 := Lib.hid (al3_0 w (.cells #[.int .i8 a, .int .i8 b, .int .i8 c] 59) (.cells #[.int .i8 r, .int .i8 z] 42) (.cells #[.int .i8 0, .int .i8 0, .int .i8 0] 59))
  have B1 := Lib.hid (al3_1 w (.cells #[.int .i8 a, .int .i8 b, .int .i8 c] 59) (.cells #[.int .i8 r, .int .i8 z] 42) (.cells #[.int .i8 0, .int .i8 0, .int .i8 0] 59))
  have B2 := Lib.hid (al3_2 w (.cells #[.int .i8 a, .int .i8 b, .int .i8 c] 59) (.cells #[.int .i8 r, .int .i8 z] 42) (.cells #[.int .i8 0, .int .i8 0, .int .i8 0] 59))
  cases hb : stB a b c
  · have HV : Hid (sfV a b c q r z = (0, 0, 0, 1)) := Lib.hid (by simp [sfV, hb])
    have HB := Lib.hid hb
    clear hb
    go_enter Try.func36, Try.ntmps36
    go_wp2_with fail
    refine (validSetting_c a b c h _).mono ?_
    rintro e w1 ⟨rfl, hb1⟩
    rw [HB.out]
    have S1 := Lib.hid (heap_below hb1 (by simp <;> omega) B0.out)
    have P1 := Lib.hid (heap_below hb1 (by simp <;> omega) B1.out)
    have R1 := Lib.hid (heap_below hb1 (by simp) B2.out)
    have L1 := Lib.hid (bt (bl3 _ _ _ _) hb1)
    have z1 : w.heap.size + 1 + 1 < w1.heap.size := Nat.lt_of_lt_of_le (by simp) hb1.size
    clear hb1
    have r0 := blk3_0 R1.out
    have rf0 := blk_f R1.out 0
    have r1 := blk3_1 R1.out
    have rf1 := blk_f R1.out 1
    have r2 := blk3_2 R1.out
    have rf2 := blk_f R1.out 2
    go_wp2
    exact bodyPost_ret (results_ct rfl _ _ _ 59 _ _ _ rfl (blk3 R1.out) Try.underlying59 rfl szSet) rfl ⟨by rw [HV.out] <;> rfl, below3 L1.out (by omega) _ _ _⟩
  · cases hp : plB r z
    · have HV : Hid (sfV a b c q r z = (0, 0, 0, 1)) := Lib.hid (by simp [sfV, hp])
      have HB := Lib.hid hb
      have HP := Lib.hid hp
      clear hb hp
      go_enter Try.func36, Try.ntmps36
      go_wp2_with fail
      refine (validSetting_c a b c h _).mono ?_
      rintro e w1 ⟨rfl, hb1⟩
      rw [HB.out]
      have S1 := Lib.hid (heap_below hb1 (by simp <;> omega) B0.out)
      have P1 := Lib.hid (heap_below hb1 (by simp <;> omega) B1.out)
      have R1 := Lib.hid (heap_below hb1 (by simp) B2.out)
      have L1 := Lib.hid (bt (bl3 _ _ _ _) hb1)
      have z1 : w.heap.size + 1 + 1 < w1.heap.size := Nat.lt_of_lt_of_le (by simp) hb1.size
      clear hb1
      have p0 := bk2_0 P1.out
      have p1 := bk2_1 P1.out
      go_wp2_with fail
      refine (isPlacement_c r z hr hz _).mono ?_
      rintro e w2 ⟨rfl, hb2⟩
      rw [HP.out]
      have S2 := Lib.hid (heap_below hb2 (by omega) S1.out)
      have P2 := Lib.hid (heap_below hb2 (by omega) P1.out)
      have R2 := Lib.hid (heap_below hb2 z1 R1.out)
      have L2 := Lib.hid (bt L1.out hb2)
      have z2 : w.heap.size + 1 + 1 < w2.heap.size := Nat.lt_of_lt_of_le z1 hb2.size
      clear hb2 p0 p1
      have r0 := blk3_0 R2.out
      have rf0 := blk_f R2.out 0
      have r1 := blk3_1 R2.out
      have rf1 := blk_f R2.out 1
      have r2 := blk3_2 R2.out
      have rf2 := blk_f R2.out 2
      go_wp2
      exact bodyPost_ret (results_ct rfl _ _ _ 59 _ _ _ rfl (blk3 R2.out) Try.underlying59 rfl szSet) rfl ⟨by rw [HV.out] <;> rfl, below3 L2.out (by omega) _ _ _⟩
    · cases hn : rdB q
      · have HV : Hid (sfV a b c q r z = (0, 0, 0, 2)) := Lib.hid (by simp [sfV, hb, hp, hn])
        have HB := Lib.hid hb
        have HP := Lib.hid hp
        have HN := Lib.hid hn
        clear hb hp hn
        go_enter Try.func36, Try.ntmps36
        go_wp2_with fail
        refine (validSetting_c a b c h _).mono ?_
        rintro e w1 ⟨rfl, hb1⟩
        rw [HB.out]
        have S1 := Lib.hid (heap_below hb1 (by simp <;> omega) B0.out)
        have P1 := Lib.hid (heap_below hb1 (by simp <;> omega) B1.out)
        have R1 := Lib.hid (heap_below hb1 (by simp) B2.out)
        have L1 := Lib.hid (bt (bl3 _ _ _ _) hb1)
        have z1 : w.heap.size + 1 + 1 < w1.heap.size := Nat.lt_of_lt_of_le (by simp) hb1.size
        clear hb1
        have p0 := bk2_0 P1.out
        have p1 := bk2_1 P1.out
        go_wp2_with fail
        refine (isPlacement_c r z hr hz _).mono ?_
        rintro e w2 ⟨rfl, hb2⟩
        rw [HP.out]
        have S2 := Lib.hid (heap_below hb2 (by omega) S1.out)
        have P2 := Lib.hid (heap_below hb2 (by omega) P1.out)
        have R2 := Lib.hid (heap_below hb2 z1 R1.out)
        have L2 := Lib.hid (bt L1.out hb2)
        have z2 : w.heap.size + 1 + 1 < w2.heap.size := Nat.lt_of_lt_of_le z1 hb2.size
        clear hb2 p0 p1
        have r0 := blk3_0 R2.out
        have rf0 := blk_f R2.out 0
        have r1 := blk3_1 R2.out
        have rf1 := blk_f R2.out 1
        have r2 := blk3_2 R2.out
        have rf2 := blk_f R2.out 2
        go_wp2_with (go_at_call 47; refine (isReading_c _ _).mono ?_; rintro e w' ⟨rfl, rfl⟩; rw [HN.out])
        exact bodyPost_ret (results_ct rfl _ _ _ 59 _ _ _ rfl (blk3 R2.out) Try.underlying59 rfl szSet) rfl ⟨by rw [HV.out] <;> rfl, below3 L2.out (by omega) _ _ _⟩
      · have HV : Hid (sfV a b c q r z = moreV a b c (3 * (z - 5) + q - r)) := Lib.hid (by simp [sfV, hb, hp, hn])
        obtain ⟨n1, n2⟩ := (rdB_iff _).1 hn
        obtain ⟨⟨m1, m2⟩, m3, m4⟩ := (plB_iff r z).1 hp
        have HB := Lib.hid hb
        have HP := Lib.hid hp
        have HN := Lib.hid hn
        clear hb hp hn
        go_enter Try.func36, Try.ntmps36
        go_wp2_with fail
        refine (validSetting_c a b c h _).mono ?_
        rintro e w1 ⟨rfl, hb1⟩
        rw [HB.out]
        have S1 := Lib.hid (heap_below hb1 (by simp <;> omega) B0.out)
        have P1 := Lib.hid (heap_below hb1 (by simp <;> omega) B1.out)
        have R1 := Lib.hid (heap_below hb1 (by simp) B2.out)
        have L1 := Lib.hid (bt (bl3 _ _ _ _) hb1)
        have z1 : w.heap.size + 1 + 1 < w1.heap.size := Nat.lt_of_lt_of_le (by simp) hb1.size
        clear hb1
        have p0 := bk2_0 P1.out
        have p1 := bk2_1 P1.out
        go_wp2_with fail
        refine (isPlacement_c r z hr hz _).mono ?_
        rintro e w2 ⟨rfl, hb2⟩
        rw [HP.out]
        have S2 := Lib.hid (heap_below hb2 (by omega) S1.out)
        have P2 := Lib.hid (heap_below hb2 (by omega) P1.out)
        have R2 := Lib.hid (heap_below hb2 z1 R1.out)
        have L2 := Lib.hid (bt L1.out hb2)
        have z2 : w.heap.size + 1 + 1 < w2.heap.size := Nat.lt_of_lt_of_le z1 hb2.size
        clear hb2 p0 p1
        have s0 := blk3_0 S2.out
        have s1 := blk3_1 S2.out
        have s2 := blk3_2 S2.out
        have p0 := bk2_0 P2.out
        have p1 := bk2_1 P2.out
        go_wp2_with (go_at_call 47; refine (isReading_c _ _).mono ?_; rintro e w' ⟨rfl, rfl⟩; rw [HN.out])
        have s6 : Q6 w w.heap.size (w.heap.size + 1) (w.heap.size + 1 + 1) a b c r z w2 := ⟨L2.out, ⟨s0, s1, s2⟩, ⟨p0, p1⟩, _, _, _, R2.out⟩
        have zb : -128 ≤ z ∧ z ≤ 127 := hz
        clear s0 s1 s2 p0 p1
        have wr1 : IntKind.i64.wrap r = r := IntWalk.i64_in _ (by omega)
        have wr2 : IntKind.i64.wrap (3 * (z - 5) + q) = 3 * (z - 5) + q := IntWalk.i64_in _ (by omega)
        have wr3 : IntKind.i64.wrap (3 * (z - 5) + q - r) = 3 * (z - 5) + q - r := IntWalk.i64_in _ (by omega)
        go_region_held3 (fun w' => Below w.heap.size w w' ∧ (w'.cell? ⟨w.heap.size, 0, none⟩ = some (.int .i8 a) ∧ w'.cell? ⟨w.heap.size, 1, none⟩ = some (.int .i8 b) ∧ w'.cell? ⟨w.heap.size, 2, none⟩ = some (.int .i8 c)) ∧ (w'.cell? ⟨w.heap.size + 1, 0, none⟩ = some (.int .i8 r) ∧ w'.cell? ⟨w.heap.size + 1, 1, none⟩ = some (.int .i8 z)) ∧ ∃ x1 x2 x3, w'.heap[w.heap.size + 1 + 1]? = some (.cells #[x1, x2, x3] 59 (0, 0))) (first | (with_reducible assumption) | exact q6_drew s6 | exact q6_store (by assumption) (by omega) (by omega) (by omega) _ _ _)
          (first
            | (go_at_call 69; refine (exposure_c r z zb _).mono ?_; rintro e w3 ⟨rfl, hb3⟩; have s7 := q6_next (w0 := w) (b0 := w.heap.size) (b1 := w.heap.size + 1) (b2 := w.heap.size + 1 + 1) (a := a) (b := b) (c := c) (r := r) (z := z) hb3 (by assumption); unfold Q6 at s7)
            | (go_at_call 71; refine (more_c a b c HB.out _ ⟨by omega, by omega⟩ _).mono ?_; rintro e w3 ⟨rfl, hb3⟩; have s7 := q6_next (w0 := w) (b0 := w.heap.size) (b1 := w.heap.size + 1) (b2 := w.heap.size + 1 + 1) (a := a) (b := b) (c := c) (r := r) (z := z) hb3 (by assumption); unfold Q6 at s7; obtain ⟨_, _, _, x1, x2, x3, hR⟩ := id s7; have r0 := blk3_0 hR; have r1 := blk3_1 hR; have r2 := blk3_2 hR; have rf0 := blk_f hR 0; have rf1 := blk_f hR 1; have rf2 := blk_f hR 2))
        have HR3 := Lib.hid hR
        have L3 := Lib.hid s7.1
        go_wp2
        exact bodyPost_ret (results_ct rfl _ _ _ 59 _ _ _ rfl (blk3 HR3.out) Try.underlying59 rfl szSet) rfl ⟨by rw [HV.out] <;> rfl, below3 L3.out (by omega) _ _ _⟩
end Go.Proofs.Ytmnidldpkkpeoaa
