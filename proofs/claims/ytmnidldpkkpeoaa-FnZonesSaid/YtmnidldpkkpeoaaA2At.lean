/- a2At: a number that depends on one byte; settings that are drawn. -/
import Derived.Test.YtmnidldpkkpeoaaSrc
import Derived.Test.YtmnidldpkkpeoaaSet
namespace Go.Proofs.Ytmnidldpkkpeoaa
open Go.RowKit Go.Lib
theorem a2At_c (v : Value) (n : Nat) (w0 : World) (h : Bytes w0 v n) (k : Nat) (hk : k ≤ 1000) (m : Int) (m1 : 1 ≤ m) (m2 : m ≤ 1000) :
    ∃ q : Int, 0 ≤ q ∧ q < m ∧ ∀ w, Below w0.heap.size w0 w → Calls Try.prog 32 #[v, .int .i64 k, .int .i64 m] w fun e w' => e = .returned (.int .i64 q) ∧ w = w' := by
  obtain ⟨p, c, rfl, hn, hx⟩ := bytes_shape h
  have hm1 : ¬ m < 1 := by omega
  by_cases hlt : k < n
  · obtain ⟨b, o, rfl, hz, hx'⟩ := hx (by omega)
    obtain ⟨x, x0, x1, hc⟩ := hx' k hlt
    have hmz : ¬ m = 0 := by omega
    have ht : x.tmod m = x % m := Int.tmod_eq_emod_of_nonneg (by omega)
    have ht0 := Int.emod_nonneg x hmz
    have ht1 := Int.emod_lt_of_pos x (show 0 < m by omega)
    have hw : IntKind.i64.wrap (x % m) = x % m := Go.IntWalk.i64_in _ (by omega)
    refine ⟨x % m, ht0, ht1, fun w hb => ?_⟩
    have hcell : w.cell? ⟨b, o + k, none⟩ = some (.int .u8 x) := by rw [hb.cell (p := ⟨b, o + k, none⟩) hz]; exact hc
    have hkn : (k : Int) < n := by omega
    have hkn' : ¬ (n : Int) ≤ k := by omega
    clear hx hx' hc hb h
    go_enter Try.func32, Try.ntmps32
    go_wp2
    go_ret
    exact ⟨rfl, rfl⟩
  · refine ⟨0, by omega, by omega, fun w hb => ?_⟩
    have hkn' : (n : Int) ≤ k := by omega
    clear hx hb h
    go_enter Try.func32, Try.ntmps32
    go_wp2
    go_ret
    exact ⟨rfl, rfl⟩
theorem settingDrawn_c (g k : Nat) (w : World) (h : Src w g k) (hk : k ≤ 1000) :
    Calls Try.prog 68 #[.pointer (some ⟨g, 0, none⟩)] w fun e w' => ∃ a b c, e = .returned (.agg #[.int .i8 a, .int .i8 b, .int .i8 c]) ∧ stB a b c = true ∧ Src w' g (k + 100) ∧ But g w w' := by
  have hgl := src_lt h
  have HS := Lib.hid (src_keep h (bl1 w (.cells #[.int .i8 0, .int .i8 0, .int .i8 0] 59)))
  have K0 := Lib.hid (al1_0 w (.cells #[.int .i8 0, .int .i8 0, .int .i8 0] 59))
  have HB := Lib.hid (but_alloc (but_refl g w) hgl (.cells #[.int .i8 0, .int .i8 0, .int .i8 0] 59))
  have hz : (w.alloc (.cells #[.int .i8 0, .int .i8 0, .int .i8 0] 59)).heap.size = w.heap.size + 1 := by simp
  clear h
  go_enter Try.func68, Try.ntmps68
  go_wp2_with fail
  generalize w.alloc (.cells #[.int .i8 0, .int .i8 0, .int .i8 0] 59) = w1 at *
  refine (srcPick_c g k 46 _ HS.out (by omega) (by omega) (by omega)).mono ?_
  rintro e w2 ⟨a, rfl, a0, a1, hS2, hO2⟩
  have HS2 := Lib.hid hS2
  have HB2 := Lib.hid (but_only HB.out hO2)
  have J0 := Lib.hid ((hO2.apart _ (by omega)).trans K0.out)
  have hz2 : w2.heap.size = w.heap.size + 1 := hO2.size.trans hz
  have hwa := Go.IntWalk.i8_in a (by omega)
  clear hS2 hO2 K0 HB HS hz
  go_wp2_with fail
  refine (srcPick_c g (k + 2) 31 _ HS2.out (by omega) (by omega) (by omega)).mono ?_
  rintro e w3 ⟨b, rfl, b0, b1, hS3, hO3⟩
  have HS3 := Lib.hid (src_keep hS3 (bl1 w3 (.cells #[.int .i8 a, .int .i8 b, .int .i8 0] 59)))
  have HB3 := Lib.hid (but_alloc (but_only HB2.out hO3) (by rw [hO3.size]; omega) (.cells #[.int .i8 a, .int .i8 b, .int .i8 0] 59))
  have J3 := Lib.hid ((hO3.apart _ (by omega)).trans J0.out)
  have K3 := Lib.hid (heap_old (.cells #[.int .i8 a, .int .i8 b, .int .i8 0] 59) _ (lt_of_heap J3.out) J3.out)
  have K4 := Lib.hid (al1_0 w3 (.cells #[.int .i8 a, .int .i8 b, .int .i8 0] 59))
  have hz3 : w3.heap.size = w.heap.size + 1 := hO3.size.trans hz2
  have hwb := Go.IntWalk.i8_in b (by omega)
  rw [hz3] at K4
  clear hS3 hO3 J0 HB2 HS2 J3 hz2
  go_wp2_with fail
  generalize w3.alloc (.cells #[.int .i8 a, .int .i8 b, .int .i8 0] 59) = w5 at *
  refine (srcPick_c g (k + 4) 22 _ HS3.out (by omega) (by omega) (by omega)).mono ?_
  rintro e w6 ⟨c, rfl, c0, c1, hS6, hO6⟩
  have HS6 := Lib.hid hS6
  have HB6 := Lib.hid (but_only HB3.out hO6)
  have M3 := Lib.hid ((hO6.apart _ (by omega)).trans K3.out)
  have M4 := Lib.hid ((hO6.apart _ (by omega)).trans K4.out)
  have hwc := Go.IntWalk.i8_in c (by omega)
  have N3 : Hid ((w6.setCell ⟨(w.heap.size + 1), 2, none⟩ (.int .i8 c)).heap[w.heap.size]? = some (.cells #[.int .i8 0, .int .i8 0, .int .i8 0] 59 (0, 0))) := Lib.hid (heap_far _ (by show w.heap.size ≠ (w.heap.size + 1); omega) M3.out)
  have HB7 := Lib.hid (but_set HB6.out hgl (show w.heap.size ≤ (w.heap.size + 1) by omega) 2 (.int .i8 c))
  have HS7 := Lib.hid (src_far HS6.out (a := ⟨(w.heap.size + 1), 2, none⟩) (v := .int .i8 c) (by show g ≠ (w.heap.size + 1); omega) (by show g ≤ (w.heap.size + 1); omega))
  have q0 := blk3_0 M4.out
  have q1 := blk3_1 M4.out
  have q2 := blk3_2 M4.out
  have f2 := blk_f M4.out 2
  have e0 := blk3_0 M3.out
  have e1 := blk3_1 M3.out
  have e2 := blk3_2 M3.out
  have g0 := blk_f M3.out 0
  have g1 := blk_f M3.out 1
  have g2 := blk_f M3.out 2
  clear hS6 hO6 HS3 K3 K4 HB3
  go_wp2
  exact bodyPost_ret (results_cell_row rfl _ _ _ _ _ _ _ rfl (blk3 N3.out) Try.underlying59 rfl szSet) rfl ⟨a, b, c, rfl, (stB_iff _ _ _).2 ⟨⟨a0, by omega⟩, ⟨b0, by omega⟩, c0, by omega⟩,
    src_mono (src_far (src_far (src_far HS7.out (by show g ≠ w.heap.size; omega) (by show g ≤ w.heap.size; omega)) (by show g ≠ w.heap.size; omega) (by show g ≤ w.heap.size; omega)) (by show g ≠ w.heap.size; omega) (by show g ≤ w.heap.size; omega)) (by omega),
    but_set (but_set (but_set HB7.out hgl (Nat.le_refl _) _ _) hgl (Nat.le_refl _) _ _) hgl (Nat.le_refl _) _ _⟩
theorem a2Setting_c (v : Value) (n : Nat) (w : World) (h : Bytes w v n) :
    Calls Try.prog 34 #[v] w fun e w' => ∃ a b c, e = .returned (.agg #[.int .i8 a, .int .i8 b, .int .i8 c]) ∧ stB a b c = true ∧ Below w.heap.size w w' := by
  have HS := Lib.hid (bytes_keep h (bl1 w (.cells #[.int .i8 0, .int .i8 0, .int .i8 0] 59)))
  have K0 := Lib.hid (al1_0 w (.cells #[.int .i8 0, .int .i8 0, .int .i8 0] 59))
  have HB := Lib.hid (bl1 w (.cells #[.int .i8 0, .int .i8 0, .int .i8 0] 59))
  clear h
  go_enter Try.func34, Try.ntmps34
  go_wp2_with fail
  generalize w.alloc (.cells #[.int .i8 0, .int .i8 0, .int .i8 0] 59) = w1 at *
  refine (srcFrom_c _ _ _ HS.out).mono ?_
  rintro e w2 ⟨g, rfl, hg, hS, hb⟩
  have HS2 := Lib.hid hS
  have K2 := Lib.hid (heap_below hb (lt_of_heap K0.out) K0.out)
  have HB2 := Lib.hid (bt HB.out hb)
  have hg1 := lt_of_heap K0.out
  clear hS hb K0 HB HS
  go_wp2_with fail
  refine (settingDrawn_c g 0 _ HS2.out (by omega)).mono ?_
  rintro e w3 ⟨a, b, c, rfl, hst, _, hB3⟩
  have K3 := Lib.hid ((hB3.apart _ (lt_of_heap K2.out) (by omega)).trans K2.out)
  have HB3 := Lib.hid (but_new HB2.out hB3 (by omega))
  have e0 := blk3_0 K3.out
  have e1 := blk3_1 K3.out
  have e2 := blk3_2 K3.out
  have g0 := blk_f K3.out 0
  have g1 := blk_f K3.out 1
  have g2 := blk_f K3.out 2
  clear hB3 HB2 K2 HS2
  go_wp2
  exact bodyPost_ret (results_cell_row rfl _ _ _ _ _ _ _ rfl (blk3 K3.out) Try.underlying59 rfl szSet) rfl ⟨a, b, c, rfl, hst, below3 HB3.out (Nat.le_refl _) _ _ _⟩
end Go.Proofs.Ytmnidldpkkpeoaa
