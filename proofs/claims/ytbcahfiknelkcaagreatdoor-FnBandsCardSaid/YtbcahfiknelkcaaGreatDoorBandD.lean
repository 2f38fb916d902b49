/- FnBands: a strip is drawn. -/
import Derived.Test.YtbcahfiknelkcaaGreatDoorSrc
import Derived.Test.YtbcahfiknelkcaaGreatDoorStK
import Derived.Test.YtbcahfiknelkcaaGreatDoorBandP
namespace Go.Proofs.YtbcahfiknelkcaaGreatDoor
open Go.RowKit Go.Lib
set_option maxRecDepth 100000
theorem strip_ok {a e m b : Int} (a0 : 0 ≤ a) (a1 : a ≤ 19) (e0 : 1 ≤ e) (e1 : e ≤ 6) (hm : m = (36 - a) / e) (b0 : 1 ≤ b) (b1 : b ≤ 1 + m) (b2 : b ≤ 20) : srB a e b = true := by
  have h1 : m * e ≤ 36 - a := by rw [hm]; exact Int.ediv_mul_le _ (by omega)
  have h2 : e * (b - 1) ≤ e * m := Int.mul_le_mul_of_nonneg_left (by omega) (by omega)
  have h3 : 0 ≤ e * (b - 1) := Int.mul_nonneg (by omega) (by omega)
  rw [Int.mul_comm m e] at h1
  exact (srB_iff _ _ _).2 ⟨⟨a0, by omega⟩, ⟨e0, by omega⟩, ⟨b0, b2⟩, by omega, by omega⟩
set_option maxHeartbeats 1000000 in
theorem stripDrawn_c (g k : Nat) (w : World) (h : Src w g k) (hk : k ≤ 1000) :
    Calls Tryz.prog 51 #[.pointer (some ⟨g, 0, none⟩)] w fun x w' => ∃ a e b, x = .returned (.agg #[.int .i8 a, .int .i8 e, .int .i8 b]) ∧ srB a e b = true ∧ But g w w' := by
  have hgl := src_lt h
  have HS := Lib.hid (src_keep h (bl1 w (.cells #[.int .i8 0, .int .i8 0, .int .i8 0] 26)))
  have K0 := Lib.hid (al1_0 w (.cells #[.int .i8 0, .int .i8 0, .int .i8 0] 26))
  have HB := Lib.hid (but_alloc (but_refl g w) hgl (.cells #[.int .i8 0, .int .i8 0, .int .i8 0] 26))
  have hz : (w.alloc (.cells #[.int .i8 0, .int .i8 0, .int .i8 0] 26)).heap.size = w.heap.size + 1 := by simp
  clear h
  go_enter Tryz.func51, Tryz.ntmps51
  go_wp2_with fail
  generalize w.alloc (.cells #[.int .i8 0, .int .i8 0, .int .i8 0] 26) = w1 at *
  refine (srcPick_c g k 20 _ HS.out (by omega) (by omega) (by omega)).mono ?_
  rintro x w2 ⟨a, rfl, a0, a1, hS2, hO2⟩
  have HS2 := Lib.hid hS2
  have HB2 := Lib.hid (but_only HB.out hO2)
  have J0 := Lib.hid ((hO2.apart _ (by omega)).trans K0.out)
  have hz2 : w2.heap.size = w.heap.size + 1 := hO2.size.trans hz
  have hwa := Go.IntWalk.i8_in a (by omega)
  clear hS2 hO2 K0 HB HS hz
  go_wp2_with fail
  refine (srcPick_c g (k + 2) 6 _ HS2.out (by omega) (by omega) (by omega)).mono ?_
  rintro x w3 ⟨e0, rfl, b0, b1, hS3, hO3⟩
  have hw64 : IntKind.i64.wrap (1 + e0) = 1 + e0 := Go.IntWalk.i64_in _ (by omega)
  have hwb : IntKind.i8.wrap (1 + e0) = 1 + e0 := Go.IntWalk.i8_in _ (by omega)
  have HS3 := Lib.hid (src_keep hS3 (bl1 w3 (.cells #[.int .i8 a, .int .i8 (1 + e0), .int .i8 0] 26)))
  have HB3 := Lib.hid (but_alloc (but_only HB2.out hO3) (by rw [hO3.size]; omega) (.cells #[.int .i8 a, .int .i8 (1 + e0), .int .i8 0] 26))
  have J3 := Lib.hid ((hO3.apart _ (by omega)).trans J0.out)
  have K3 := Lib.hid (heap_old (.cells #[.int .i8 a, .int .i8 (1 + e0), .int .i8 0] 26) _ (lt_of_heap J3.out) J3.out)
  have K4 := Lib.hid (al1_0 w3 (.cells #[.int .i8 a, .int .i8 (1 + e0), .int .i8 0] 26))
  have hz3 : w3.heap.size = w.heap.size + 1 := hO3.size.trans hz2
  rw [hz3] at K4
  clear hS3 hO3 J0 HB2 HS2 J3 hz2
  go_upto_region 2 with fail
  have q0 := blk3_0 K4.out
  have q1 := blk3_1 K4.out
  generalize w3.alloc (.cells #[.int .i8 a, .int .i8 (1 + e0), .int .i8 0] 26) = w5 at *
  have he1 : 1 ≤ 1 + e0 := by omega
  have he6 : 1 + e0 ≤ 6 := by omega
  clear hwb hw64
  generalize 1 + e0 = e at *
  clear b0 b1
  obtain ⟨m, hm⟩ : ∃ m, m = (36 - a) / e := ⟨_, rfl⟩
  have HM := Lib.hid hm
  have hm0 : 0 ≤ m := by rw [hm]; exact Int.ediv_nonneg (by omega) (by omega)
  have hm1 : m ≤ 36 := by have := Int.ediv_le_self (a := 36 - a) e (by omega); omega
  have ht : (36 - a).tdiv e = m := by rw [Int.tdiv_eq_ediv_of_nonneg (by omega), hm]
  have hne : ¬ e = 0 := by omega
  have hw1 : IntKind.i64.wrap (36 - a) = 36 - a := Go.IntWalk.i64_in _ (by omega)
  have hw2 : IntKind.i64.wrap m = m := Go.IntWalk.i64_in _ (by omega)
  have hw3 : IntKind.i64.wrap (m + 1) = m + 1 := Go.IntWalk.i64_in _ (by omega)
  have hwe := Go.IntWalk.i64_in e (by omega)
  have hwa2 := Go.IntWalk.i64_in a (by omega)
  clear hm
  go_wp2_with fail
  refine (srcPickAny_c g (k + 4) (m + 1) _ HS3.out (by omega) (by omega)).mono ?_
  rintro x w6 ⟨c, rfl, c0, c1, hS6, hO6⟩
  have HB6 := Lib.hid (but_only HB3.out hO6)
  have M3 := Lib.hid ((hO6.apart _ (by omega)).trans K3.out)
  have M4 := Lib.hid ((hO6.apart _ (by omega)).trans K4.out)
  have hwc1 : IntKind.i64.wrap (1 + c) = 1 + c := Go.IntWalk.i64_in _ (by omega)
  have hwc : IntKind.i8.wrap (1 + c) = 1 + c := Go.IntWalk.i8_in _ (by omega)
  clear q0 q1 hS6 hO6 HS3 K3 K4 HB3 ht hne hw1 hw2 hw3 hwe hwa2
  have hc1 : 1 ≤ 1 + c := by omega
  have hc2 : 1 + c ≤ 1 + m := by omega
  have N3 : Hid ((w6.setCell ⟨(w.heap.size + 1), 2, none⟩ (.int .i8 (1 + c))).heap[w.heap.size]? = some (.cells #[.int .i8 0, .int .i8 0, .int .i8 0] 26 (0, 0))) := Lib.hid (heap_far _ (by show w.heap.size ≠ (w.heap.size + 1); omega) M3.out)
  have HB7 := Lib.hid (but_set HB6.out hgl (show w.heap.size ≤ (w.heap.size + 1) by omega) 2 (.int .i8 (1 + c)))
  have q0 := blk3_0 M4.out
  have q1 := blk3_1 M4.out
  have q2 := blk3_2 M4.out
  have f2 := blk_f M4.out 2
  have e0 := blk3_0 M3.out
  have e1 := blk3_1 M3.out
  have e2 := blk3_2 M3.out
  have g0 := blk_f M3.out 0
  have g1 := blk_f M3.out 1
  have g2 := blk_f M3.out 2
  by_cases hb : 1 + c ≤ 20
  · have hng : ¬ 20 < 1 + c := by omega
    have HOK := Lib.hid (strip_ok (a := a) (e := e) (m := m) (b := 1 + c) a0 (by omega) he1 he6 HM.out hc1 hc2 hb)
    clear HM hc1 hc2 c0 c1
    go_wp2
    exact bodyPost_ret (results_cell_row rfl _ _ _ _ _ _ _ rfl (blk3 N3.out) Tryz.underlying26 rfl szStrip) rfl ⟨a, e, 1 + c, rfl, HOK.out,
      but_set (but_set (but_set HB7.out hgl (Nat.le_refl _) _ _) hgl (Nat.le_refl _) _ _) hgl (Nat.le_refl _) _ _⟩
  · have hng : 20 < 1 + c := by omega
    have HOK := Lib.hid (strip_ok (a := a) (e := e) (m := m) (b := 20) a0 (by omega) he1 he6 HM.out (by omega) (by omega) (by omega))
    have N4 := Lib.hid (heap_far (a := ⟨(w.heap.size + 1), 2, none⟩) (.int .i8 20) (by show w.heap.size ≠ (w.heap.size + 1); omega) N3.out)
    have HB8 := Lib.hid (but_set HB7.out hgl (show w.heap.size ≤ (w.heap.size + 1) by omega) 2 (.int .i8 20))
    clear HM hc1 hc2 c0 c1
    go_wp2
    exact bodyPost_ret (results_cell_row rfl _ _ _ _ _ _ _ rfl (blk3 N4.out) Tryz.underlying26 rfl szStrip) rfl ⟨a, e, 20, rfl, HOK.out,
      but_set (but_set (but_set HB8.out hgl (Nat.le_refl _) _ _) hgl (Nat.le_refl _) _ _) hgl (Nat.le_refl _) _ _⟩
theorem p6Strip_c (v : Value) (n : Nat) (w : World) (h : Bytes w v n) :
    Calls Tryz.prog 6 #[v] w fun x w' => ∃ a e b, x = .returned (.agg #[.int .i8 a, .int .i8 e, .int .i8 b]) ∧ srB a e b = true ∧ Below w.heap.size w w' := by
  have HS := Lib.hid (bytes_keep h (bl1 w (.cells #[.int .i8 0, .int .i8 0, .int .i8 0] 26)))
  have K0 := Lib.hid (al1_0 w (.cells #[.int .i8 0, .int .i8 0, .int .i8 0] 26))
  have HB := Lib.hid (bl1 w (.cells #[.int .i8 0, .int .i8 0, .int .i8 0] 26))
  clear h
  go_enter Tryz.func6, Tryz.ntmps6
  go_wp2_with fail
  generalize w.alloc (.cells #[.int .i8 0, .int .i8 0, .int .i8 0] 26) = w1 at *
  refine (srcFrom_c _ _ _ HS.out).mono ?_
  rintro x w2 ⟨g, rfl, hg, hS, hb⟩
  have HS2 := Lib.hid hS
  have K2 := Lib.hid (heap_below hb (lt_of_heap K0.out) K0.out)
  have HB2 := Lib.hid (bt HB.out hb)
  have hg1 := lt_of_heap K0.out
  clear hS hb K0 HB HS
  go_wp2_with fail
  refine (stripDrawn_c g 0 _ HS2.out (by omega)).mono ?_
  rintro x w3 ⟨a, e, b, rfl, hst, hB3⟩
  have K3 := Lib.hid ((hB3.apart _ (lt_of_heap K2.out) (by omega)).trans K2.out)
  have HB3 := Lib.hid (but_new HB2.out hB3 (by omega))
  have e0 := blk3_0 K3.out
  have e1 := blk3_1 K3.out
  have e2 := blk3_2 K3.out
  have g0 := blk_f K3.out 0
  have g1 := blk_f K3.out 1
  have g2 := blk_f K3.out 2
  clear hB3
  go_wp2
  exact bodyPost_ret (results_cell_row rfl _ _ _ _ _ _ _ rfl (blk3 K3.out) Tryz.underlying26 rfl szStrip) rfl ⟨a, e, b, rfl, hst, (HB3.out.setCell (p := ⟨w.heap.size, 0, none⟩) (Nat.le_refl _) _).setCell (p := ⟨w.heap.size, 1, none⟩) (Nat.le_refl _) _ |>.setCell (p := ⟨w.heap.size, 2, none⟩) (Nat.le_refl _) _⟩
end Go.Proofs.YtbcahfiknelkcaaGreatDoor
