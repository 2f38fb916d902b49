/- ZonesOf: the program's and the reference's. -/
import Derived.Test.YtmnidldpkkpeoaaOffF
namespace Go.Proofs.Ytmnidldpkkpeoaa
open Go.RowKit
theorem setRow_id (w : World) (g : Nat) (cs : Array Value) (t : TypeId) (fr : Nat × Nat) (hg : w.heap[g]? = some (.cells cs t fr)) : w.setRow g cs = w := by
  have hlt : g < w.heap.size := (Array.getElem?_eq_some_iff.1 hg).1
  have hv : w.heap[g] = .cells cs t fr := (Array.getElem?_eq_some_iff.1 hg).2
  have e : (w.setRow g cs).heap = w.heap := by
    unfold World.setRow
    apply Array.ext
    · simp
    · intro k h1 h2
      simp only [Array.getElem_modify]
      split
      · rename_i hk; subst hk; simp [hv]
      · rfl
  have : w.setRow g cs = { w with heap := (w.setRow g cs).heap } := rfl
  rw [this, e]
theorem cell_far {w : World} {a p : Addr} {v : Value} {x : Option Value} (h : p.block ≠ a.block) (hx : w.cell? p = x) : (w.setCell a v).cell? p = x := by
  rw [World.cell?_setCell_other _ _ _ _ (fun e => h (by rw [← e]))]; exact hx
abbrev z24 : List Int := List.replicate 24 0
def z24a : Array Value := arr .i8 z24
theorem z24a_eq : (#[.int .i8 0, .int .i8 0, .int .i8 0, .int .i8 0, .int .i8 0, .int .i8 0, .int .i8 0, .int .i8 0, .int .i8 0, .int .i8 0, .int .i8 0, .int .i8 0, .int .i8 0, .int .i8 0, .int .i8 0, .int .i8 0, .int .i8 0, .int .i8 0, .int .i8 0, .int .i8 0, .int .i8 0, .int .i8 0, .int .i8 0, .int .i8 0] : Array Value) = z24a := rfl
def znsV (xs : List Int) (r z : Int) : List Int × Int := if bothV xs r z = 0 then (zonesL xs r z, 0) else (z24, 1)
set_option maxHeartbeats 1000000 in
set_option maxRecDepth 100000 in
theorem specZonesOf_c (xs : List Int) (hs : Sc xs) (r z : Int) (hr : -128 ≤ r ∧ r ≤ 127) (hz : -128 ≤ z ∧ z ≤ 127) (w : World) :
    Calls Try.prog 25 #[.agg (arr .i8 xs), .agg #[.int .i8 r, .int .i8 z]] w fun e w' => e = .returned (.tuple #[.agg (arr .i8 (znsV xs r z).1), .int .i64 (znsV xs r z).2]) ∧ Below w.heap.size w w' := by
  have HL := Lib.hid hs.1
  have HZ : Hid ((zonesL xs r z).length = 24) := Lib.hid (by rw [zonesL_len, HL.out])
  have K0 := Lib.hid (al4_0 w (.cells (arr .i8 xs) 27) (.cells #[.int .i8 r, .int .i8 z] 42) (.cells z24a 23) (.cells z24a 23))
  have K1 := Lib.hid (al4_1 w (.cells (arr .i8 xs) 27) (.cells #[.int .i8 r, .int .i8 z] 42) (.cells z24a 23) (.cells z24a 23))
  have K2 := Lib.hid (al4_2 w (.cells (arr .i8 xs) 27) (.cells #[.int .i8 r, .int .i8 z] 42) (.cells z24a 23) (.cells z24a 23))
  have K3 := Lib.hid (al4_3 w (.cells (arr .i8 xs) 27) (.cells #[.int .i8 r, .int .i8 z] 42) (.cells z24a 23) (.cells z24a 23))
  have HW0 := Lib.hid (bl4 w (.cells (arr .i8 xs) 27) (.cells #[.int .i8 r, .int .i8 z] 42) (.cells z24a 23) (.cells z24a 23))
  rcases both_01 xs r z with hb | hb
  · have HV : Hid (znsV xs r z = (zonesL xs r z, 0)) := Lib.hid (by simp [znsV, hb])
    obtain ⟨hok, hp⟩ := both_split hb
    have hg := okS_get hok
    have HB := Lib.hid hb
    clear hb hok
    go_enter Try.func25, Try.ntmps25
    go_wp2_with (rw [z24a_eq]; refine wpList_store_row rfl 23 (.tmp 6) (.tmp 9) rfl _ z24a rfl rfl _ z24a K3.out (by rw [szA24]; rfl) rfl (arr_one .i8 z24) ?_; rw [setRow_id _ _ _ _ _ K3.out]; generalize ((((w.alloc (.cells (arr .i8 xs) 27)).alloc (.cells #[.int .i8 r, .int .i8 z] 42)).alloc (.cells z24a 23)).alloc (.cells z24a 23)) = w4 at *; have c0 := bk2_0 K1.out; have c1 := bk2_1 K1.out)
    refine (l06Both_c xs hs r z hr hz _ _ _ K0.out).mono ?_
    rintro e w1 ⟨rfl, hb1⟩
    rw [HB.out]
    have H0 := Lib.hid (heap_below hb1 (lt_of_heap K0.out) K0.out)
    have H1 := Lib.hid (heap_below hb1 (lt_of_heap K1.out) K1.out)
    have H2 := Lib.hid (heap_below hb1 (lt_of_heap K2.out) K2.out)
    have H3 := Lib.hid (heap_below hb1 (lt_of_heap K3.out) K3.out)
    have HW1 := Lib.hid (bt HW0.out hb1)
    clear K0 K1 K2 K3 hb1 HW0
    go_wp2
    go_loopw [8] (fun i wr => ∃ k : Nat, k ≤ 24 ∧ i = .int .i64 k ∧ wr.heap[w.heap.size]? = some (.cells (arr .i8 xs) 27 (0, 0)) ∧ wr.heap[w.heap.size + 1]? = some (.cells #[.int .i8 r, .int .i8 z] 42 (0, 0)) ∧ wr.heap[w.heap.size + 1 + 1]? = some (.cells (arr .i8 z24) 23 (0, 0)) ∧
        wr.heap[w.heap.size + 1 + 1 + 1]? = some (.cells (arr .i8 ((zonesL xs r z).take k ++ List.replicate (24 - k) 0)) 23 (0, 0)) ∧ Below w.heap.size w wr) (fun i _ => 24 - (intOf i).toNat)
    case atStart => exact ⟨0, Nat.zero_le _, rfl, H0.out, H1.out, H2.out, H3.out, HW1.out⟩
    case round =>
      clear H0 H1 H2 H3 HW1
      obtain ⟨k, hk, rfl, hS, hA, hB, hC, hW⟩ := hrel
      have HS := Lib.hid hS
      have HA := Lib.hid hA
      have HB := Lib.hid hB
      have HC := Lib.hid hC
      have HW := Lib.hid hW
      clear hS hA hB hC hW
      by_cases hlt : k < 24
      · obtain ⟨x, hxe⟩ : ∃ x, x = xs.getD k 0 := ⟨_, rfl⟩
        have hx1 : 0 ≤ x := by rw [hxe]; exact (hg k).1
        have hx2 : x ≤ 60 := by rw [hxe]; exact (hg k).2
        have hcell : wr.cell? ⟨w.heap.size, k, none⟩ = some (.int .i8 x) := by rw [hxe]; exact arr_cell HS.out k (by rw [HL.out]; exact hlt)
        have HX : Hid ((zonesL xs r z).getD k 0 = znV r z x) := Lib.hid (by rw [zonesL_get _ _ _ _ (by rw [HL.out]; exact hlt), hxe])
        have hc0 : wr.cell? ⟨w.heap.size + 1, 0, none⟩ = some (.int .i8 r) := bk2_0 HA.out
        have hc1 : wr.cell? ⟨w.heap.size + 1, 1, none⟩ = some (.int .i8 z) := bk2_1 HA.out
        obtain ⟨q1, q2⟩ := zn_bd hp ⟨hx1, hx2⟩
        have hwx : IntKind.i64.wrap x = x := IntWalk.i64_in _ (by omega)
        have hz8 : IntKind.i8.wrap (znV r z x) = znV r z x := IntWalk.i8_in _ (by omega)
        clear hxe
        go_wp2
        have l1 : w.heap.size < wr.heap.size := World.block_lt_of_cell? wr _ hcell
        have l2 : w.heap.size + 1 < wr.heap.size := World.block_lt_of_cell? wr _ hc0
        have l3 : w.heap.size + 1 + 1 + 1 < wr.heap.size := lt_of_heap HC.out
        have l4 : w.heap.size + 1 + 1 < wr.heap.size := by omega
        go_region_held3 (fun w' => w'.cell? ⟨w.heap.size, k, none⟩ = some (.int .i8 x) ∧ w'.cell? ⟨w.heap.size + 1, 0, none⟩ = some (.int .i8 r) ∧ w'.cell? ⟨w.heap.size + 1, 1, none⟩ = some (.int .i8 z)) (first | exact ⟨cell_far (by dsimp only; omega) s1, cell_far (by dsimp only; omega) s2, cell_far (by dsimp only; omega) s3⟩ | go_keep) (first | (go_at_call 60; refine (l06Zone_c r z x hr hz ⟨by omega, by omega⟩ _).mono ?_; rintro e w2 ⟨rfl, hb2⟩; have s1 : w2.cell? ⟨w.heap.size, k, none⟩ = some (.int .i8 x) := (hb2.cell (p := ⟨w.heap.size, k, none⟩) l1).trans hcell; have s2 : w2.cell? ⟨w.heap.size + 1, 0, none⟩ = some (.int .i8 r) := (hb2.cell (p := ⟨w.heap.size + 1, 0, none⟩) l2).trans hc0; have s3 : w2.cell? ⟨w.heap.size + 1, 1, none⟩ = some (.int .i8 z) := (hb2.cell (p := ⟨w.heap.size + 1, 1, none⟩) l2).trans hc1; have HC2 := Lib.hid (heap_below hb2 l3 HC.out); have s4 := arr_cell HC2.out k (by simp [HZ.out]; omega); have s5 : w2.frozen? ⟨w.heap.size + 1 + 1 + 1, k, none⟩ = false := frozen_of_row _ _ _ _ _ HC2.out))
        have HW2 := Lib.hid (below_trans HW.out HW.out.size (show Below wr.heap.size wr w2 from ⟨hb2.os, hb2.tape, hb2.output, hb2.size, hb2.block⟩))
        have HS2 := Lib.hid (heap_below hb2 l1 HS.out)
        have HA2 := Lib.hid (heap_below hb2 l2 HA.out)
        have HB2 := Lib.hid (heap_below hb2 l4 HB.out)
        have HC2 := Lib.hid (heap_below hb2 l3 HC.out)
        clear hb2 s1 s2 s3 s4 s5 hc0 hc1 hcell l1 l2 l3 l4 hwx hz8
        generalize znV r z x = zv at *
        go_wp2
        go_roundw
        case rel =>
          exact ⟨k + 1, by omega, by go_num, heap_far _ (by simp <;> omega) HS2.out, heap_far _ (by simp <;> omega) HA2.out, heap_far _ (by simp) HB2.out, by rw [arr_store HC2.out, ← HX.out, set_step _ _ _ HZ.out hlt], HW2.out.setCell (by simp <;> omega) _⟩
        case measure => simp [intOf]; omega
      · have hk24 : k = 24 := by omega
        subst hk24
        have HC2 : Hid (wr.heap[w.heap.size + 1 + 1 + 1]? = some (.cells (arr .i8 (zonesL xs r z)) 23 (0, 0))) := Lib.hid (by
          have := HC.out
          rwa [List.take_of_length_le (by rw [HZ.out]; omega), Nat.sub_self, List.replicate_zero, List.append_nil] at this)
        go_wp2_with (first
          | (refine wpList_load_row rfl 23 (.tmp 6) rfl _ rfl _ _ _ _ HC2.out Try.underlying23 rfl (by rw [szA24, arr_size, HZ.out]) ?_)
          | (refine wpList_store_row rfl 23 (.tmp 4) (.tmp 29) rfl _ _ rfl rfl _ _ HB.out (by rw [szA24, arr_size, HZ.out]) (by rw [arr_size, arr_size, HZ.out]; rfl) (arr_one _ _) ?_))
        exact bodyPost_ret (results_ct rfl _ _ _ 23 _ _ _ rfl (setRow_heap _ _ _ _ _ _ HB.out) Try.underlying23 rfl (by rw [szA24, arr_size, HZ.out])) rfl ⟨by rw [HV.out] <;> rfl, below_setRow HW.out (by omega) _⟩
  · have HV : Hid (znsV xs r z = (z24, 1)) := Lib.hid (by simp [znsV, hb])
    have HB := Lib.hid hb
    clear hb
    go_enter Try.func25, Try.ntmps25
    go_wp2_with (rw [z24a_eq]; refine wpList_store_row rfl 23 (.tmp 6) (.tmp 9) rfl _ z24a rfl rfl _ z24a K3.out (by rw [szA24]; rfl) rfl (arr_one .i8 z24) ?_; rw [setRow_id _ _ _ _ _ K3.out]; generalize ((((w.alloc (.cells (arr .i8 xs) 27)).alloc (.cells #[.int .i8 r, .int .i8 z] 42)).alloc (.cells z24a 23)).alloc (.cells z24a 23)) = w4 at *; have c0 := bk2_0 K1.out; have c1 := bk2_1 K1.out)
    refine (l06Both_c xs hs r z hr hz _ _ _ K0.out).mono ?_
    rintro e w1 ⟨rfl, hb1⟩
    rw [HB.out]
    have H2 := Lib.hid (heap_below hb1 (lt_of_heap K2.out) K2.out)
    have H3 := Lib.hid (heap_below hb1 (lt_of_heap K3.out) K3.out)
    have HW1 := Lib.hid (bt HW0.out hb1)
    clear K0 K1 K2 K3 hb1 HW0
    go_wp2_with (first
      | (refine wpList_load_row rfl 23 (.tmp 6) rfl _ rfl _ _ _ _ H3.out Try.underlying23 rfl (by rw [szA24]; rfl) ?_)
      | (refine wpList_store_row rfl 23 (.tmp 4) (.tmp 14) rfl _ _ rfl rfl _ _ H2.out (by rw [szA24]; rfl) rfl (arr_one _ _) ?_))
    exact bodyPost_ret (results_ct rfl _ _ _ 23 _ _ _ rfl (setRow_heap _ _ _ _ _ _ H2.out) Try.underlying23 rfl (by rw [szA24]; rfl)) rfl ⟨by rw [HV.out] <;> rfl, below_setRow HW1.out (by omega) _⟩
set_option maxHeartbeats 1000000 in
theorem implZonesOf_c (xs : List Int) (hs : Sc xs) (r z : Int) (hr : -128 ≤ r ∧ r ≤ 127) (hz : -128 ≤ z ∧ z ≤ 127) (w : World) :
    Calls Try.prog 24 #[.agg (arr .i8 xs), .agg #[.int .i8 r, .int .i8 z]] w fun e w' => e = .returned (.tuple #[.agg (arr .i8 (znsV xs r z).1), .int .i64 (znsV xs r z).2]) ∧ Below w.heap.size w w' := by
  have HL := Lib.hid hs.1
  have HZ : Hid ((zonesL xs r z).length = 24) := Lib.hid (by rw [zonesL_len, HL.out])
  have K0 := Lib.hid (al3_0 w (.cells (arr .i8 xs) 27) (.cells #[.int .i8 r, .int .i8 z] 42) (.cells z24a 23))
  have K1 := Lib.hid (al3_1 w (.cells (arr .i8 xs) 27) (.cells #[.int .i8 r, .int .i8 z] 42) (.cells z24a 23))
  have K2 := Lib.hid (al3_2 w (.cells (arr .i8 xs) 27) (.cells #[.int .i8 r, .int .i8 z] 42) (.cells z24a 23))
  have HW0 := Lib.hid (bl3 w (.cells (arr .i8 xs) 27) (.cells #[.int .i8 r, .int .i8 z] 42) (.cells z24a 23))
  rcases both_01 xs r z with hb | hb
  · have HV : Hid (znsV xs r z = (zonesL xs r z, 0)) := Lib.hid (by simp [znsV, hb])
    obtain ⟨hok, hp⟩ := both_split hb
    have HB := Lib.hid hb
    clear hb
    go_enter Try.func24, Try.ntmps24
    go_wp2_with (rw [z24a_eq]; refine wpList_load_row rfl 27 (.tmp 2) rfl _ rfl _ _ _ _ K0.out Try.underlying27 rfl (by rw [szScene, arr_size, HL.out]) ?_; generalize (((w.alloc (.cells (arr .i8 xs) 27)).alloc (.cells #[.int .i8 r, .int .i8 z] 42)).alloc (.cells z24a 23)) = w4 at *; have c0 := bk2_0 K1.out; have c1 := bk2_1 K1.out)
    refine (placeCode_c xs hs r z hr hz _).mono ?_
    rintro e w1 ⟨rfl, hb1⟩
    rw [HB.out]
    have H0 := Lib.hid (heap_below hb1 (lt_of_heap K0.out) K0.out)
    have H1 := heap_below hb1 (lt_of_heap K1.out) K1.out
    have H2 := Lib.hid (heap_below hb1 (lt_of_heap K2.out) K2.out)
    have HW1 := Lib.hid (bt HW0.out hb1)
    have c0 := bk2_0 H1
    have c1 := bk2_1 H1
    clear K0 K1 K2 hb1 HW0 H1
    go_wp2_with (refine wpList_load_row rfl 27 (.tmp 2) rfl _ rfl _ _ _ _ H0.out Try.underlying27 rfl (by rw [szScene, arr_size, HL.out]) ?_)
    refine (zones_c xs hs hok r z hp _).mono ?_
    rintro e w2 ⟨rfl, hb2⟩
    have H2 := Lib.hid (heap_below hb2 (lt_of_heap H2.out) H2.out)
    have HW2 := Lib.hid (bt HW1.out hb2)
    clear hb2 c0 c1 H0 HW1
    go_wp2_with (refine wpList_store_row rfl 23 (.tmp 4) (.tmp 16) rfl _ _ rfl rfl _ _ H2.out (by rw [szA24, arr_size, HZ.out]) (by rw [arr_size, HZ.out]; rfl) (arr_one _ _) ?_)
    exact bodyPost_ret (results_ct rfl _ _ _ 23 _ _ _ rfl (setRow_heap _ _ _ _ _ _ H2.out) Try.underlying23 rfl (by rw [szA24, arr_size, HZ.out])) rfl ⟨by rw [HV.out] <;> rfl, below_setRow HW2.out (by omega) _⟩
  · have HV : Hid (znsV xs r z = (z24, 1)) := Lib.hid (by simp [znsV, hb])
    have HB := Lib.hid hb
    clear hb
    go_enter Try.func24, Try.ntmps24
    go_wp2_with (rw [z24a_eq]; refine wpList_load_row rfl 27 (.tmp 2) rfl _ rfl _ _ _ _ K0.out Try.underlying27 rfl (by rw [szScene, arr_size, HL.out]) ?_; generalize (((w.alloc (.cells (arr .i8 xs) 27)).alloc (.cells #[.int .i8 r, .int .i8 z] 42)).alloc (.cells z24a 23)) = w4 at *; have c0 := bk2_0 K1.out; have c1 := bk2_1 K1.out)
    refine (placeCode_c xs hs r z hr hz _).mono ?_
    rintro e w1 ⟨rfl, hb1⟩
    rw [HB.out]
    have H2 := Lib.hid (heap_below hb1 (lt_of_heap K2.out) K2.out)
    have HW1 := Lib.hid (bt HW0.out hb1)
    clear K0 K1 K2 hb1 HW0
    go_wp2_with (refine wpList_store_row rfl 23 (.tmp 4) (.tmp 12) rfl _ (arr .i8 z24) rfl rfl _ (arr .i8 z24) H2.out (by rw [szA24]; rfl) rfl (arr_one _ _) ?_)
    exact bodyPost_ret (results_ct rfl _ _ _ 23 _ _ _ rfl (setRow_heap _ _ _ _ _ _ H2.out) Try.underlying23 rfl (by rw [szA24]; rfl)) rfl ⟨by rw [HV.out] <;> rfl, below_setRow HW1.out (by omega) _⟩
end Go.Proofs.Ytmnidldpkkpeoaa
