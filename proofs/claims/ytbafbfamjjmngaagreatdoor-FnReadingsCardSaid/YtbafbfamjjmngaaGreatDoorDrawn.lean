/- What is drawn from bytes: scenes, fields, placements. -/
import Derived.Test.YtbafbfamjjmngaaGreatDoorSrc
import Derived.Test.YtbafbfamjjmngaaGreatDoorPop
namespace Go.Proofs.YtbafbfamjjmngaaGreatDoor
open Go.RowKit Go.Lib
theorem okS_z24 : okS z24 = true := by decide
theorem okS_set {xs : List Int} (h : okS xs = true) (i : Nat) {x : Int} (h0 : 0 ≤ x) (h1 : x ≤ 60) : okS (xs.set i x) = true := by
  unfold okS at h ⊢
  rw [List.all_eq_true] at h ⊢
  intro y hy
  rcases List.mem_or_eq_of_mem_set hy with hy | hy
  · exact h y hy
  · subst hy; exact (rdB_iff _).2 ⟨h0, h1⟩
theorem sc_ok {xs : List Int} (hl : xs.length = 24) (h : okS xs = true) : Sc xs := ⟨hl, fun i => by have := okS_get h i; omega⟩
set_option maxHeartbeats 1000000 in
theorem sceneDrawn_c (g k : Nat) (w : World) (h : Src w g k) (hk : k ≤ 1000) :
    Calls Tryz.prog 23 #[.pointer (some ⟨g, 0, none⟩)] w fun e w' => ∃ xs, e = .returned (.agg (arr .i8 xs)) ∧ xs.length = 24 ∧ okS xs = true ∧ Src w' g (k + 100) ∧ But g w w' := by
  have HS := Lib.hid h
  have hgl := src_lt h
  have HSa := Lib.hid (src_keep h (bl2 w (.cells z24a 26) (.cells z24a 26)))
  have K0 := Lib.hid (al2_0 w (.cells z24a 26) (.cells z24a 26))
  have K1 := Lib.hid (al2_1 w (.cells z24a 26) (.cells z24a 26))
  have HB := Lib.hid (but_alloc (but_alloc (but_refl g w) hgl (.cells z24a 26)) (by simp; omega) (.cells z24a 26))
  have hz : ((w.alloc (.cells z24a 26)).alloc (.cells z24a 26)).heap.size = w.heap.size + 1 + 1 := by simp
  clear h
  go_enter Tryz.func23, Tryz.ntmps23
  go_wp2_with (rw [z24a_eq]; refine wpList_store_row rfl 26 (.tmp 3) (.tmp 8) rfl _ z24a rfl rfl _ z24a K1.out (by rw [szScene]; rfl) rfl (arr_one .i8 z24) ?_; rw [setRow_id _ _ _ _ _ K1.out]; generalize ((w.alloc (.cells z24a 26)).alloc (.cells z24a 26)) = w4 at *)
  refine (srcPick_c g k 40 _ HSa.out (by omega) (by omega) (by omega)).mono ?_
  rintro e w5 ⟨base, rfl, b0, b1, hS5, hO5⟩
  have HS5 := Lib.hid hS5
  have HB5 := Lib.hid (but_only HB.out hO5)
  have H0 := Lib.hid ((hO5.apart _ (by omega)).trans K0.out)
  have H1 := Lib.hid ((hO5.apart _ (by omega)).trans K1.out)
  have z5 : w5.heap.size = w.heap.size + 1 + 1 := hO5.size.trans hz
  clear hS5 hO5 K0 K1 HB HSa hz
  go_wp2_with fail
  refine (srcPick_c g (k + 2) 21 _ HS5.out (by omega) (by omega) (by omega)).mono ?_
  rintro e w6 ⟨wd, rfl, d0, d1, hS6, hO6⟩
  have HS6 := Lib.hid hS6
  have HB6 := Lib.hid (but_only HB5.out hO6)
  have J0 := Lib.hid ((hO6.apart _ (by omega)).trans H0.out)
  have J1 := Lib.hid ((hO6.apart _ (by omega)).trans H1.out)
  have z6 : w6.heap.size = w.heap.size + 1 + 1 := hO6.size.trans z5
  have hwd : IntKind.i64.wrap (1 + wd) = 1 + wd := Go.IntWalk.i64_in _ (by omega)
  clear hS6 hO6 H0 H1 HB5 HS5 z5
  go_wp2_with fail
  go_loopw [6] (fun i wr => ∃ j : Nat, j ≤ 24 ∧ i = .int .i64 j ∧ wr.heap.size = w.heap.size + 1 + 1 ∧ wr.heap[w.heap.size]? = some (.cells z24a 26 (0, 0)) ∧ (∃ xs, xs.length = 24 ∧ okS xs = true ∧ wr.heap[w.heap.size + 1]? = some (.cells (arr .i8 xs) 26 (0, 0))) ∧ Src wr g (k + 4 + 2 * j) ∧ But g w wr) (fun i _ => 24 - (intOf i).toNat)
  case atStart => exact ⟨0, Nat.zero_le _, rfl, z6, J0.out, ⟨z24, rfl, okS_z24, J1.out⟩, HS6.out, HB6.out⟩
  case round =>
    clear J0 J1 HS6 HB6
    obtain ⟨j, hj, rfl, zr, h0, ⟨xs, hl, hok, h1⟩, hS, hB⟩ := hrel
    have HS := Lib.hid hS
    have HB := Lib.hid hB
    have H0 := Lib.hid h0
    have H1 := Lib.hid h1
    have HL := Lib.hid hl
    have HO := Lib.hid hok
    clear hS hB h0 h1 hl hok
    by_cases hlt : j < 24
    · have hj24 : (j : Int) < 24 := by omega
      go_wp2_with fail
      refine (srcPickAny_c g (k + 4 + 2 * j) (1 + wd) _ HS.out (by omega) (by omega)).mono ?_
      rintro e w7 ⟨x, rfl, x0, x1, hS7, hO7⟩
      have HS7 := Lib.hid hS7
      have HB7 := Lib.hid (but_only HB.out hO7)
      have G0 := Lib.hid ((hO7.apart _ (by omega)).trans H0.out)
      have G1 := Lib.hid ((hO7.apart _ (by omega)).trans H1.out)
      have z7 : w7.heap.size = w.heap.size + 1 + 1 := hO7.size.trans zr
      have hx0 : 0 ≤ base + x := by omega
      have hx1 : base + x ≤ 60 := by omega
      have hw1 : IntKind.i64.wrap (base + x) = base + x := Go.IntWalk.i64_in _ (by omega)
      have hw2 : IntKind.i8.wrap (base + x) = base + x := Go.IntWalk.i8_in _ (by omega)
      have hcell := arr_cell G1.out j (by rw [HL.out]; exact hlt)
      have hfr : w7.frozen? ⟨w.heap.size + 1, j, none⟩ = false := frozen_of_row _ _ _ _ _ G1.out
      clear hS7 hO7 H0 H1 HB HS zr
      go_wp2
      go_roundw
      case rel =>
        exact ⟨j + 1, by omega, by go_num, by simpa using z7, heap_far _ (by simp) G0.out, ⟨xs.set j (base + x), by rw [List.length_set, HL.out], okS_set HO.out j hx0 hx1, arr_store G1.out j _⟩, src_mono (src_far HS7.out (by show g ≠ w.heap.size + 1; omega) (by show g ≤ w.heap.size + 1; omega)) (by omega), but_set HB7.out hgl (by omega) _ _⟩
      case measure => simp [intOf]; omega
    · have hj24 : ¬ (j : Int) < 24 := by omega
      go_wp2_with fail
      refine (srcPick_c g (k + 4 + 2 * j) 5 _ HS.out (by omega) (by omega) (by omega)).mono ?_
      rintro e w7 ⟨q, rfl, q0, q1, hS7, hO7⟩
      have HS7 := Lib.hid (src_mono hS7 (show _ ≤ k + 56 by omega))
      have HB7 := Lib.hid (but_only HB.out hO7)
      have G0 := Lib.hid ((hO7.apart _ (by omega)).trans H0.out)
      have G1 := Lib.hid ((hO7.apart _ (by omega)).trans H1.out)
      have z7 : w7.heap.size = w.heap.size + 1 + 1 := hO7.size.trans zr
      obtain ⟨qn, rfl⟩ : ∃ qn : Nat, q = qn := ⟨q.toNat, by omega⟩
      have q1' : qn < 5 := by omega
      clear hS7 hO7 H0 H1 HB HS zr
      go_wp2_with fail
      go_loopw [7] (fun i wr => ∃ m : Nat, m ≤ qn ∧ i = .int .i64 m ∧ wr.heap.size = w.heap.size + 1 + 1 ∧ wr.heap[w.heap.size]? = some (.cells z24a 26 (0, 0)) ∧ (∃ xs, xs.length = 24 ∧ okS xs = true ∧ wr.heap[w.heap.size + 1]? = some (.cells (arr .i8 xs) 26 (0, 0))) ∧ Src wr g (k + 56 + 4 * (qn - m)) ∧ But g w wr) (fun i _ => (intOf i).toNat)
      case atStart => exact ⟨qn, Nat.le_refl _, rfl, z7, G0.out, ⟨xs, HL.out, HO.out, G1.out⟩, src_mono HS7.out (by omega), HB7.out⟩
      case round =>
        clear G0 G1 HS7 HB7 HL HO
        obtain ⟨m, hm, rfl, zr, h0, ⟨ys, hl, hok, h1⟩, hS, hB⟩ := hrel
        have HS := Lib.hid hS
        have HB := Lib.hid hB
        have H0 := Lib.hid h0
        have H1 := Lib.hid h1
        have HL := Lib.hid hl
        have HO := Lib.hid hok
        clear hS hB h0 h1 hl hok
        by_cases hlt : 0 < m
        · have hm0 : (0 : Int) < m := by omega
          have hmw : IntKind.i64.wrap ((m : Int) - 1) = ((m - 1 : Nat) : Int) := by rw [Go.IntWalk.i64_in _ (by omega)]; omega
          go_wp2_with fail
          refine (srcPick_c g (k + 56 + 4 * (qn - m)) 24 _ HS.out (by omega) (by omega) (by omega)).mono ?_
          rintro e w8 ⟨a, rfl, a0, a1, hS8, hO8⟩
          have HS8 := Lib.hid hS8
          have HB8 := Lib.hid (but_only HB.out hO8)
          have I0 := Lib.hid ((hO8.apart _ (by omega)).trans H0.out)
          have I1 := Lib.hid ((hO8.apart _ (by omega)).trans H1.out)
          have z8 : w8.heap.size = w.heap.size + 1 + 1 := hO8.size.trans zr
          obtain ⟨an, rfl⟩ : ∃ an : Nat, a = an := ⟨a.toNat, by omega⟩
          clear hS8 hO8 H0 H1 HB HS zr
          go_wp2_with fail
          refine (srcPick_c g (k + 56 + 4 * (qn - m) + 2) 61 _ HS8.out (by omega) (by omega) (by omega)).mono ?_
          rintro e w9 ⟨x, rfl, x0, x1, hS9, hO9⟩
          have HS9 := Lib.hid hS9
          have HB9 := Lib.hid (but_only HB8.out hO9)
          have M0 := Lib.hid ((hO9.apart _ (by omega)).trans I0.out)
          have M1 := Lib.hid ((hO9.apart _ (by omega)).trans I1.out)
          have z9 : w9.heap.size = w.heap.size + 1 + 1 := hO9.size.trans z8
          have hw2 : IntKind.i8.wrap x = x := Go.IntWalk.i8_in _ (by omega)
          have hcell := arr_cell M1.out an (by rw [HL.out]; omega)
          have hfr : w9.frozen? ⟨w.heap.size + 1, an, none⟩ = false := frozen_of_row _ _ _ _ _ M1.out
          clear hS9 hO9 I0 I1 HB8 HS8 z8
          go_wp2
          go_roundw
          case rel =>
            exact ⟨m - 1, by omega, rfl, by simpa using z9, heap_far _ (by simp) M0.out, ⟨ys.set an x, by rw [List.length_set, HL.out], okS_set HO.out an x0 (by omega), arr_store M1.out an _⟩, src_mono (src_far HS9.out (by show g ≠ w.heap.size + 1; omega) (by show g ≤ w.heap.size + 1; omega)) (by omega), but_set HB9.out hgl (by omega) _ _⟩
          case measure => simp [intOf]; omega
        · have hm0 : ¬ (0 : Int) < m := by omega
          go_wp2_with (first
            | (refine wpList_load_row rfl 26 (.tmp 3) rfl _ rfl _ _ _ _ H1.out Tryz.underlying26 rfl (by rw [szScene, arr_size, HL.out]) ?_)
            | (refine wpList_store_row rfl 26 (.tmp 2) (.tmp 38) rfl _ _ rfl rfl _ _ H0.out (by rw [szScene, arr_size, HL.out]) (by rw [arr_size, HL.out]; rfl) (arr_one _ _) ?_))
          exact bodyPost_ret (results_cell_row rfl _ _ _ _ _ _ _ rfl (setRow_heap _ _ _ _ _ _ H0.out) Tryz.underlying26 rfl (by rw [szScene, arr_size, HL.out])) rfl ⟨ys, rfl, HL.out, HO.out, src_mono (src_setRow HS.out (by omega)) (by omega), but_setRow HB.out hgl (Nat.le_refl _) _⟩
set_option maxHeartbeats 400000 in
theorem a2Scene_c (v : Value) (n : Nat) (w : World) (h : Bytes w v n) :
    Calls Tryz.prog 5 #[v] w fun e w' => ∃ xs, e = .returned (.agg (arr .i8 xs)) ∧ xs.length = 24 ∧ okS xs = true ∧ Below w.heap.size w w' := by
  have HS := Lib.hid (bytes_keep h (bl1 w (.cells z24a 26)))
  have K0 := Lib.hid (al1_0 w (.cells z24a 26))
  have HB := Lib.hid (bl1 w (.cells z24a 26))
  clear h
  go_enter Tryz.func5, Tryz.ntmps5
  go_wp2_with fail
  rw [z24a_eq]
  generalize w.alloc (.cells z24a 26) = w1 at *
  refine (srcFrom_c _ _ _ HS.out).mono ?_
  rintro e w2 ⟨g, rfl, hg, hS, hb⟩
  have HS2 := Lib.hid hS
  have K2 := Lib.hid (heap_below hb (lt_of_heap K0.out) K0.out)
  have HB2 := Lib.hid (bt HB.out hb)
  have hg1 := lt_of_heap K0.out
  clear hS hb K0 HB HS
  go_wp2_with fail
  refine (sceneDrawn_c g 0 _ HS2.out (by omega)).mono ?_
  rintro e w3 ⟨xs, rfl, hl, hok, _, hB3⟩
  have K3 := Lib.hid ((hB3.apart _ (lt_of_heap K2.out) (by omega)).trans K2.out)
  have HB3 := Lib.hid (but_new HB2.out hB3 (by omega))
  have HL := Lib.hid hl
  have HO := Lib.hid hok
  clear hl hok hB3 HB2 K2 HS2
  go_wp2_with (first
    | (refine wpList_store_row rfl 26 (.tmp 2) (.tmp 5) rfl _ _ rfl rfl _ _ K3.out (by rw [szScene, arr_size, HL.out]) (by rw [arr_size, HL.out]; rfl) (arr_one _ _) ?_))
  exact bodyPost_ret (results_cell_row rfl _ _ _ _ _ _ _ rfl (setRow_heap _ _ _ _ _ _ K3.out) Tryz.underlying26 rfl (by rw [szScene, arr_size, HL.out])) rfl ⟨xs, rfl, HL.out, HO.out, below_setRow HB3.out (Nat.le_refl _) _⟩
theorem a2Field_c (v : Value) (n : Nat) (w : World) (h : Bytes w v n) :
    Calls Tryz.prog 14 #[v] w fun e w' => ∃ f : Int, e = .returned (.int .u32 f) ∧ 0 ≤ f ∧ f < 16777216 ∧ Below w.heap.size w w' := by
  have HS := Lib.hid h
  clear h
  go_enter Tryz.func14, Tryz.ntmps14
  go_wp2_with fail
  refine (srcFrom_c _ _ _ HS.out).mono ?_
  rintro e w2 ⟨g, rfl, hg, hS, hb⟩
  have HS2 := Lib.hid hS
  clear hS
  go_wp2_with fail
  refine (srcPick_c g 0 16777216 _ HS2.out (by omega) (by omega) (by omega)).mono ?_
  rintro e w3 ⟨x, rfl, x0, x1, _, hO⟩
  have hw : IntKind.u32.wrap x = x := Go.IntWalk.u32_in _ (by omega)
  go_wp2
  go_ret
  exact ⟨x, rfl, x0, x1, only_above hb hO hg⟩
theorem a2Long_c (v1 v2 : Value) (n1 n2 : Nat) (p1 p2 : Option Addr) (c1 c2 : Nat) (h1 : v1 = .slice p1 n1 c1) (h2 : v2 = .slice p2 n2 c2) (w : World) :
    Calls Tryz.prog 4 #[v1, v2] w fun e w' => e = .returned (.bool (decide (3000 < (n1 : Int)) || decide (3000 < (n2 : Int)))) ∧ w = w' := by
  subst h1 h2
  by_cases h : 3000 < (n1 : Int)
  · go_enter Tryz.func4, Tryz.ntmps4
    go_wp2
    go_ret
    exact ⟨by simp [h], rfl⟩
  · go_enter Tryz.func4, Tryz.ntmps4
    go_wp2
    go_ret
    exact ⟨by simp; omega, rfl⟩
end Go.Proofs.YtbafbfamjjmngaaGreatDoor
