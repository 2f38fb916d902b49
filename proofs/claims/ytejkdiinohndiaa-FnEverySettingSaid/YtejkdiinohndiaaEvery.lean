/- The law on every setting. -/
import Derived.Test.YtejkdiinohndiaaSetFor
namespace Go.Proofs.Ytejkdiinohndiaa
open Go.RowKit
theorem moreV_code (a b c th : Int) : (moreV a b c th).2.2.2 = 0 ∨ (moreV a b c th).2.2.2 = 6 := by
  unfold moreV; split <;> simp
theorem moreV_val (a b c th : Int) (h : stB a b c = true) (h0 : (moreV a b c th).2.2.2 = 0) :
    stB (moreV a b c th).1 (moreV a b c th).2.1 (moreV a b c th).2.2.1 = true ∧ (moreV a b c th).1 - (moreV a b c th).2.1 + (moreV a b c th).2.2.1 = a - b + c + th := by
  have h' := (stB_iff a b c).1 h
  unfold moreV at h0 ⊢
  split
  · rename_i hq
    have hq' : 0 ≤ moreAp a b th ∧ moreAp a b th ≤ 30 := by simpa [apB] using hq
    refine ⟨(stB_iff _ _ _).2 ⟨?_, hq', h'.2.2⟩, ?_⟩
    · simp only [moreSh]; split
      · omega
      · split <;> omega
    · simp only [moreAp]; omega
  · rename_i hq; simp [hq] at h0
theorem sfV_code (a b c q r z : Int) (h : (sfV a b c q r z).2.2.2 = 0) : stB a b c = true ∧ plB r z = true ∧ rdB q = true ∧ sfV a b c q r z = moreV a b c (3 * (z - 5) + q - r) := by
  unfold sfV at h ⊢
  split at h
  · rename_i hb
    simp only [Bool.and_eq_true] at hb
    split at h
    · rename_i hq; exact ⟨hb.1, hb.2, hq, by simp [hb.1, hb.2, hq]⟩
    · simp at h
  · simp at h
theorem sfV_s8 (a b c q r z : Int) : S8 (sfV a b c q r z).1 (sfV a b c q r z).2.1 (sfV a b c q r z).2.2.1 := by
  unfold sfV
  split
  · split
    · rename_i hb _
      simp only [Bool.and_eq_true] at hb
      have h' := (stB_iff a b c).1 hb.1
      unfold moreV
      split
      · rename_i hq
        have hq' : 0 ≤ moreAp a b (3 * (z - 5) + q - r) ∧ moreAp a b (3 * (z - 5) + q - r) ≤ 30 := by simpa [apB] using hq
        unfold S8
        refine ⟨?_, by simp only; omega, by simp only; omega⟩
        simp only [moreSh]; split
        · omega
        · split <;> omega
      · simp [S8]
    · simp [S8]
  · simp [S8]
set_option maxHeartbeats 1000000 in
theorem lawEvery_c (a b c : Int) (ha : -128 ≤ a ∧ a ≤ 127) (hb : -128 ≤ b ∧ b ≤ 127) (hc : -128 ≤ c ∧ c ≤ 127) (q : Int) (hq : -9223372036854775808 ≤ q ∧ q ≤ 9223372036854775807) (r z : Int) (hr : -128 ≤ r ∧ r ≤ 127) (hz : -128 ≤ z ∧ z ≤ 127) (w : World) :
    Calls Try.prog 13 #[.agg #[.int .i8 a, .int .i8 b, .int .i8 c], .int .i64 q, .agg #[.int .i8 r, .int .i8 z]] w fun e w' => e = .returned (.bool true) ∧ Below w.heap.size w w' := by
  have h8 : S8 a b c := ⟨ha, hb, hc⟩
  obtain ⟨q1, q2⟩ := hq
  obtain ⟨⟨x, y, u, k⟩, hv⟩ : ∃ p, sfV a b c q r z = p := ⟨_, rfl⟩
  have HV : Hid (stV (sfV a b c q r z) = .tuple #[.agg #[.int .i8 x, .int .i8 y, .int .i8 u], .int .i64 k]) := Lib.hid (by rw [hv]; rfl)
  have HV0 := Lib.hid hv
  have B0 := Lib.hid (al2_0 w (.cells #[.int .i8 a, .int .i8 b, .int .i8 c] 51) (.cells #[.int .i8 r, .int .i8 z] 24))
  have B1 := Lib.hid (al2_1 w (.cells #[.int .i8 a, .int .i8 b, .int .i8 c] 51) (.cells #[.int .i8 r, .int .i8 z] 24))
  clear hv ha hb hc
  go_enter Try.func13, Try.ntmps13
  go_wp2_with fail
  refine (implSettingFor_c a b c h8 q r z hr hz _).mono ?_
  rintro e w1 ⟨rfl, hb1⟩
  rw [HV.out]
  have S1 := Lib.hid (heap_below hb1 (by simp <;> omega) B0.out)
  have P1 := Lib.hid (heap_below hb1 (by simp) B1.out)
  have L1 := Lib.hid (bt (bl2 _ _ _) hb1)
  have z1 : w.heap.size + 1 < w1.heap.size := Nat.lt_of_lt_of_le (by simp) hb1.size
  clear hb1
  have s0 := blk3_0 S1.out
  have s1 := blk3_1 S1.out
  have s2 := blk3_2 S1.out
  have p0 := bk2_0 P1.out
  have p1 := bk2_1 P1.out
  have y0 : w.heap.size < w1.heap.size := by omega
  have A1 := Lib.hid (L1.out.alloc L1.out.size (.cells #[.int .i8 x, .int .i8 y, .int .i8 u] 51))
  go_wp2_with fail
  refine (specSettingFor_c a b c h8 q r z hr hz _).mono ?_
  rintro e w2 ⟨rfl, hb2⟩
  rw [HV.out]
  have S2 := Lib.hid (heap_below hb2 (by simp; omega) (heap_old (.cells #[.int .i8 x, .int .i8 y, .int .i8 u] 51) _ (by omega) S1.out))
  have P2 := Lib.hid (heap_below hb2 (by simp; omega) (heap_old (.cells #[.int .i8 x, .int .i8 y, .int .i8 u] 51) _ (by omega) P1.out))
  have T2 := Lib.hid (heap_below hb2 (by simp) (al1_0 w1 (.cells #[.int .i8 x, .int .i8 y, .int .i8 u] 51)))
  have L2 := Lib.hid (bt A1.out hb2)
  have z2 : w1.heap.size < w2.heap.size := Nat.lt_of_lt_of_le (by simp) hb2.size
  have A2 := Lib.hid (L2.out.alloc L2.out.size (.cells #[.int .i8 x, .int .i8 y, .int .i8 u] 51))
  clear hb2 s0 s1 s2 p0 p1
  have s0 := blk3_0 S2.out
  have s1 := blk3_1 S2.out
  have s2 := blk3_2 S2.out
  have p0 := bk2_0 P2.out
  have p1 := bk2_1 P2.out
  have y2 : w.heap.size < w2.heap.size := by omega
  have y3 : w.heap.size + 1 < w2.heap.size := by omega
  have t0 := blk3_0 T2.out
  have t1 := blk3_1 T2.out
  have t2 := blk3_2 T2.out
  by_cases hk : k = 0
  · subst hk
    by_cases hqr : r = q
    · subst hqr
      have hc0 := sfV_code a b c r r z (by rw [HV0.out])
      obtain ⟨g1, g2, _, g3⟩ := hc0
      have g4 := moreV_val a b c (3 * (z - 5) + r - r) g1 (by rw [← g3, HV0.out])
      rw [← g3, HV0.out] at g4
      obtain ⟨g5, g6⟩ := g4
      simp only at g5 g6
      have h8' : S8 x y u := by have := sfV_s8 a b c r r z; rw [HV0.out] at this; exact this
      have HV1 : Hid (valV a b c = (a - b + c, 0)) := Lib.hid (by simp [valV, g1])
      have HV2 : Hid (valV x y u = (x - y + u, 0)) := Lib.hid (by simp [valV, g5])
      have HV3 : Hid (expV r z = .tuple #[.int .i64 (3 * (z - 5)), .int .i64 0]) := Lib.hid (by simp [expV, g2])
      have G6 := Lib.hid g6
      obtain ⟨⟨i1, i2⟩, ⟨i3, i4⟩, i5, i6⟩ := (stB_iff a b c).1 g1
      obtain ⟨⟨m1, m2⟩, m3, m4⟩ := (plB_iff r z).1 g2
      clear g1 g2 g3 g5 g6
      go_wp2_with fail
      refine (valueOf_c a b c h8 _).mono ?_
      rintro e w3 ⟨rfl, hb3⟩
      rw [HV1.out]
      obtain ⟨hc3, hf3⟩ := bcell hb3
      have L3 := Lib.hid (bt A2.out hb3)
      have z3 : w2.heap.size < w3.heap.size := Nat.lt_of_lt_of_le (by simp) hb3.size
      clear hb3
      go_wp2_with fail
      refine (valueOf_c x y u h8' _).mono ?_
      rintro e w4 ⟨rfl, hb4⟩
      rw [HV2.out]
      obtain ⟨hc4, hf4⟩ := bcell hb4
      have L4 := Lib.hid (bt L3.out hb4)
      have z4 : w2.heap.size < w4.heap.size := Nat.lt_of_lt_of_le z3 hb4.size
      have y5 : w.heap.size + 1 < w3.heap.size := by omega
      clear hb4
      go_wp2_with fail
      refine (implExp_c r z hr hz _).mono ?_
      rintro e w5 ⟨rfl, hb5⟩
      rw [HV3.out]
      have L5 := Lib.hid (bt L4.out hb5)
      clear hb5
      have HD : Hid ((x - y + u == a - b + c + 3 * (z - 5)) = true) := Lib.hid (by rw [beq_iff_eq]; have := G6.out; omega)
      go_wp2_with fail
      go_ret
      refine ⟨?_, L5.out⟩
      first | exact ret_bool HD.out | (simp; simpa using HD.out)
    · have d1 : (r != q) = true := by simpa using hqr
      go_wp2_with fail
      go_ret
      exact ⟨rfl, A2.out⟩
  · have d1 : (k != 0) = true := by simpa using hk
    go_wp2_with fail
    go_ret
    exact ⟨rfl, A2.out⟩
end Go.Proofs.Ytejkdiinohndiaa
