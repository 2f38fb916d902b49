/- Zones of all cells, and the masks of those off the scale. -/
import Derived.Test.YtmnidldpkkpeoaaScene
import Derived.Test.YtmnidldpkkpeoaaBits
import Derived.Test.YtmnidldpkkpeoaaPlac
import Derived.Deep.RegionHeld3
namespace Go.Proofs.Ytmnidldpkkpeoaa
open Go.RowKit
def zonesL (xs : List Int) (r z : Int) : List Int := xs.map (znV r z)
theorem zonesL_len (xs : List Int) (r z : Int) : (zonesL xs r z).length = xs.length := by simp [zonesL]
theorem zonesL_get (xs : List Int) (r z : Int) (k : Nat) (h : k < xs.length) : (zonesL xs r z).getD k 0 = znV r z (xs.getD k 0) := by
  simp [zonesL, List.getD_eq_getElem?_getD, h]
/-- A valid placement. -/
def Pl (r z : Int) : Prop := (0 ≤ r ∧ r ≤ 60) ∧ 0 ≤ z ∧ z ≤ 10
theorem zn_bd {r z n : Int} (hp : Pl r z) (hn : 0 ≤ n ∧ n ≤ 60) : -20 ≤ znV r z n ∧ znV r z n ≤ 30 := by
  obtain ⟨⟨h1, h2⟩, h3, h4⟩ := hp
  unfold znV; omega
set_option maxHeartbeats 400000 in
theorem zones_c (xs : List Int) (hs : Sc xs) (hok : okS xs = true) (r z : Int) (hp : Pl r z) (w : World) :
    Calls Try.prog 58 #[.agg (arr .i8 xs), .agg #[.int .i8 r, .int .i8 z]] w fun e w' => e = .returned (.agg (arr .i8 (zonesL xs r z))) ∧ Below w.heap.size w w' := by
  have HL := Lib.hid hs.1
  have HZ : Hid ((zonesL xs r z).length = 24) := Lib.hid (by rw [zonesL_len, HL.out])
  have hg := okS_get hok
  have p1 : -128 ≤ r ∧ r ≤ 127 := by obtain ⟨⟨h1, h2⟩, h3, h4⟩ := hp; omega
  have p2 : -128 ≤ z ∧ z ≤ 127 := by obtain ⟨⟨h1, h2⟩, h3, h4⟩ := hp; omega
  have K0 := Lib.hid (al4_0 w (.cells (arr .i8 xs) 27) (.cells #[.int .i8 r, .int .i8 z] 42) (.cells (arr .i8 (List.replicate 24 0)) 23) (.cells (arr .i8 (List.replicate 24 0)) 23))
  have K1 := Lib.hid (al4_1 w (.cells (arr .i8 xs) 27) (.cells #[.int .i8 r, .int .i8 z] 42) (.cells (arr .i8 (List.replicate 24 0)) 23) (.cells (arr .i8 (List.replicate 24 0)) 23))
  have K2 := Lib.hid (al4_2 w (.cells (arr .i8 xs) 27) (.cells #[.int .i8 r, .int .i8 z] 42) (.cells (arr .i8 (List.replicate 24 0)) 23) (.cells (arr .i8 (List.replicate 24 0)) 23))
  have K3 := Lib.hid (al4_3 w (.cells (arr .i8 xs) 27) (.cells #[.int .i8 r, .int .i8 z] 42) (.cells (arr .i8 (List.replicate 24 0)) 23) (.cells (arr .i8 (List.replicate 24 0)) 23))
  go_enter Try.func58, Try.ntmps58
  go_wp2_with (first
    | (refine wpList_store_row rfl 23 (.tmp 5) (.tmp 8) rfl _ (arr .i8 (List.replicate 24 0)) rfl rfl _ (arr .i8 (List.replicate 24 0)) K3.out (by rw [szA24]; rfl) rfl (arr_one _ _) ?_)
    | (refine wpList_load_row rfl 27 (.tmp 2) rfl _ rfl _ (arr .i8 xs) _ _ (by rw [setRow_other _ _ _ _ (by simp <;> omega)]; exact K0.out) Try.underlying27 rfl (by rw [szScene, arr_size, HL.out]) ?_))
  go_loopw [10] (fun i wr => ∃ k : Nat, k ≤ 24 ∧ i = .int .i64 k ∧ wr.heap[w.heap.size + 1]? = some (.cells #[.int .i8 r, .int .i8 z] 42 (0, 0)) ∧ wr.heap[w.heap.size + 1 + 1]? = some (.cells (arr .i8 (List.replicate 24 0)) 23 (0, 0)) ∧
      wr.heap[w.heap.size + 1 + 1 + 1]? = some (.cells (arr .i8 ((zonesL xs r z).take k ++ List.replicate (24 - k) 0)) 23 (0, 0)) ∧ Below w.heap.size w wr) (fun i _ => 24 - (intOf i).toNat)
  case atStart => exact ⟨0, Nat.zero_le _, rfl, by rw [setRow_other _ _ _ _ (by simp <;> omega)]; exact K1.out, by rw [setRow_other _ _ _ _ (by simp)]; exact K2.out, setRow_heap _ _ _ _ _ _ K3.out, below_setRow (bl4 _ _ _ _ _) (by omega) _⟩
  case round =>
    obtain ⟨k, hk, rfl, hA, hB, hC, hW⟩ := hrel
    have HA := Lib.hid hA
    have HB := Lib.hid hB
    have HC := Lib.hid hC
    have HW := Lib.hid hW
    clear hA hB hC hW
    by_cases hlt : k < 24
    · obtain ⟨x, hxe⟩ : ∃ x, x = xs.getD k 0 := ⟨_, rfl⟩
      have hx1 : 0 ≤ x := by rw [hxe]; exact (hg k).1
      have hx2 : x ≤ 60 := by rw [hxe]; exact (hg k).2
      have HX := Lib.hid hxe
      have hzb := zn_bd hp ⟨hx1, hx2⟩
      obtain ⟨z1, z2⟩ := hzb
      have HS : Hid ((zonesL xs r z).getD k 0 = znV r z x) := Lib.hid (by rw [zonesL_get _ _ _ _ (by rw [HL.out]; exact hlt), hxe])
      have hc0 : wr.cell? ⟨w.heap.size + 1, 0, none⟩ = some (.int .i8 r) := by rw [cell_of_row _ _ 0 _ _ _ HA.out]; rfl
      have hc1 : wr.cell? ⟨w.heap.size + 1, 1, none⟩ = some (.int .i8 z) := by rw [cell_of_row _ _ 1 _ _ _ HA.out]; rfl
      clear hxe
      go_wp2_with (refine wpList_index_arr rfl 27 (.tmp 9) (.tmp 10) rfl xs rfl k rfl 24 22 Try.underlying27 (by kernel_rfl) Try.underlying22 hlt HL.out ?_; rw [← HX.out])
      refine (zone_c r z x p1 p2 ⟨by omega, by omega⟩ _).mono ?_
      rintro e w1 ⟨rfl, hb1⟩
      have hz1 := lt_of_heap HC.out
      have HA1 := Lib.hid (heap_below hb1 (by omega) HA.out)
      have HB1 := Lib.hid (heap_below hb1 (by omega) HB.out)
      have HC1 := Lib.hid (heap_below hb1 hz1 HC.out)
      have HW1 := Lib.hid (below_trans HW.out HW.out.size hb1)
      have hcell2 := arr_cell HC1.out k (by simp [HZ.out]; omega)
      have hfr : w1.frozen? ⟨w.heap.size + 1 + 1 + 1, k, none⟩ = false := frozen_of_row _ _ _ _ _ HC1.out
      clear hb1 hz1
      generalize znV r z x = zv at *
      go_wp2
      go_roundw
      case rel =>
        exact ⟨k + 1, by omega, by go_num, heap_far _ (by simp <;> omega) HA1.out, heap_far _ (by simp) HB1.out, by rw [arr_store HC1.out, ← HS.out, set_step _ _ _ HZ.out hlt], HW1.out.setCell (by simp <;> omega) _⟩
      case measure => simp [intOf]; omega
    · have hk24 : k = 24 := by omega
      subst hk24
      have HC2 : Hid (wr.heap[w.heap.size + 1 + 1 + 1]? = some (.cells (arr .i8 (zonesL xs r z)) 23 (0, 0))) := Lib.hid (by
        have := HC.out
        rwa [List.take_of_length_le (by rw [HZ.out]; omega), Nat.sub_self, List.replicate_zero, List.append_nil] at this)
      go_wp2_with (first
        | (refine wpList_load_row rfl 23 (.tmp 5) rfl _ rfl _ _ _ _ HC2.out Try.underlying23 rfl (by rw [szA24, arr_size, HZ.out]) ?_)
        | (refine wpList_store_row rfl 23 (.tmp 4) (.tmp 22) rfl _ _ rfl rfl _ _ HB.out (by rw [szA24, arr_size, HZ.out]) (by rw [arr_size, arr_size, HZ.out]; rfl) (arr_one _ _) ?_))
      exact bodyPost_ret (results_cell_row rfl _ _ _ _ _ _ _ rfl (setRow_heap _ _ _ _ _ _ HB.out) Try.underlying23 rfl (by rw [szA24, arr_size, HZ.out])) rfl ⟨rfl, below_setRow HW.out (by omega) _⟩
end Go.Proofs.Ytmnidldpkkpeoaa
