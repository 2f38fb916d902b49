/- Prints: copied, compared, valid or not (parts of Shts, Shts2, Dens, VSheet, for a seat without sheets). -/
import Derived.Test.YtmnidldpkkpeoaaDoorPrs
import Derived.Outline
namespace Go.Proofs.YtmnidldpkkpeoaaDoor
open Go.RowKit
theorem szPrint : (Tryd.prog.info? 35).map (·.size) = some 64 := by kernel_rfl
theorem szA64 : (Tryd.prog.info? 34).map (·.size) = some 64 := by kernel_rfl
theorem szI16 : (Tryd.prog.info? 33).map (·.size) = some 1 := by kernel_rfl
theorem z64_eq : (#[.int .i16 0, .int .i16 0, .int .i16 0, .int .i16 0, .int .i16 0, .int .i16 0, .int .i16 0, .int .i16 0, .int .i16 0, .int .i16 0, .int .i16 0, .int .i16 0, .int .i16 0, .int .i16 0, .int .i16 0, .int .i16 0, .int .i16 0, .int .i16 0, .int .i16 0, .int .i16 0, .int .i16 0, .int .i16 0, .int .i16 0, .int .i16 0, .int .i16 0, .int .i16 0, .int .i16 0, .int .i16 0, .int .i16 0, .int .i16 0, .int .i16 0, .int .i16 0, .int .i16 0, .int .i16 0, .int .i16 0, .int .i16 0, .int .i16 0, .int .i16 0, .int .i16 0, .int .i16 0, .int .i16 0, .int .i16 0, .int .i16 0, .int .i16 0, .int .i16 0, .int .i16 0, .int .i16 0, .int .i16 0, .int .i16 0, .int .i16 0, .int .i16 0, .int .i16 0, .int .i16 0, .int .i16 0, .int .i16 0, .int .i16 0, .int .i16 0, .int .i16 0, .int .i16 0, .int .i16 0, .int .i16 0, .int .i16 0, .int .i16 0, .int .i16 0] : Array Value) = arr .i16 (List.replicate 64 0) := by kernel_rfl
def Z64 : List Int := List.replicate 64 0
theorem Z64_length : Z64.length = 64 := by simp [Z64]
theorem z64_Z : (#[.int .i16 0, .int .i16 0, .int .i16 0, .int .i16 0, .int .i16 0, .int .i16 0, .int .i16 0, .int .i16 0, .int .i16 0, .int .i16 0, .int .i16 0, .int .i16 0, .int .i16 0, .int .i16 0, .int .i16 0, .int .i16 0, .int .i16 0, .int .i16 0, .int .i16 0, .int .i16 0, .int .i16 0, .int .i16 0, .int .i16 0, .int .i16 0, .int .i16 0, .int .i16 0, .int .i16 0, .int .i16 0, .int .i16 0, .int .i16 0, .int .i16 0, .int .i16 0, .int .i16 0, .int .i16 0, .int .i16 0, .int .i16 0, .int .i16 0, .int .i16 0, .int .i16 0, .int .i16 0, .int .i16 0, .int .i16 0, .int .i16 0, .int .i16 0, .int .i16 0, .int .i16 0, .int .i16 0, .int .i16 0, .int .i16 0, .int .i16 0, .int .i16 0, .int .i16 0, .int .i16 0, .int .i16 0, .int .i16 0, .int .i16 0, .int .i16 0, .int .i16 0, .int .i16 0, .int .i16 0, .int .i16 0, .int .i16 0, .int .i16 0, .int .i16 0] : Array Value) = arr .i16 Z64 := by kernel_rfl
set_option maxHeartbeats 400000 in
theorem toPrint_c (xs : List Int) (hs : Pr xs) (w : World) :
    Calls Tryd.prog 22 #[.agg (arr .i16 xs)] w fun e w' => e = .returned (.agg (arr .i16 xs)) ∧ Below w.heap.size w w' := by
  have HL := Lib.hid hs.1
  go_enter Tryd.func22, Tryd.ntmps22
  go_wp2
  rw [z64_eq]
  go_loopw [4] (fun i wr => ∃ k : Nat, k ≤ 64 ∧ i = .int .i64 k ∧ wr.heap[w.heap.size]? = some (.cells (arr .i16 xs) 34 (0, 0)) ∧ wr.heap[w.heap.size + 1]? = some (.cells (arr .i16 (List.replicate 64 0)) 35 (0, 0)) ∧
      wr.heap[w.heap.size + 1 + 1]? = some (.cells (arr .i16 (xs.take k ++ List.replicate (64 - k) 0)) 35 (0, 0)) ∧ Below w.heap.size w wr) (fun i _ => 64 - (intOf i).toNat)
  case atStart => exact ⟨0, Nat.zero_le _, rfl, al3_0 _ _ _ _, al3_1 _ _ _ _, al3_2 _ _ _ _, bl3 _ _ _ _⟩
  case round =>
    obtain ⟨k, hk, rfl, hA, hB, hC, hW⟩ := hrel
    have HA := Lib.hid hA
    have HB := Lib.hid hB
    have HC := Lib.hid hC
    have HW := Lib.hid hW
    clear hA hB hC hW
    by_cases hlt : k < 64
    · obtain ⟨x, hxe⟩ : ∃ x, x = xs.getD k 0 := ⟨_, rfl⟩
      have hcell : wr.cell? ⟨w.heap.size, k, none⟩ = some (.int .i16 x) := by rw [hxe]; exact arr_cell HA.out k (by rw [HL.out]; exact hlt)
      have hcell2 := arr_cell HC.out k (by simp [HL.out]; omega)
      have hfr : wr.frozen? ⟨w.heap.size + 1 + 1, k, none⟩ = false := frozen_of_row _ _ _ _ _ HC.out
      have HE := Lib.hid hxe
      clear hxe
      go_wp2
      go_roundw
      case rel =>
        exact ⟨k + 1, by omega, by go_num, heap_far _ (by simp; omega) HA.out, heap_far _ (by simp) HB.out, by rw [arr_store HC.out, HE.out, set_step _ _ _ HL.out hlt], HW.out.setCell (by simp; omega) _⟩
      case measure => simp [intOf]; omega
    · have hk64 : k = 64 := by omega
      subst hk64
      have HC2 : Hid (wr.heap[w.heap.size + 1 + 1]? = some (.cells (arr .i16 xs) 35 (0, 0))) := Lib.hid (by
        have := HC.out
        rwa [List.take_of_length_le (by rw [HL.out]; omega), Nat.sub_self, List.replicate_zero, List.append_nil] at this)
      go_wp2_with (first
        | (refine wpList_load_row rfl 35 (.tmp 3) rfl _ rfl _ _ _ _ HC2.out Tryd.underlying35 rfl (by rw [szPrint, arr_size, HL.out]) ?_)
        | (refine wpList_store_row rfl 35 (.tmp 2) (.tmp 14) rfl _ _ rfl rfl _ _ HB.out (by rw [szPrint, arr_size, HL.out]) (by rw [arr_size, arr_size, HL.out]; rfl) (arr_one _ _) ?_))
      exact bodyPost_ret (results_cell_row rfl _ _ _ _ _ _ _ rfl (setRow_heap _ _ _ _ _ _ HB.out) Tryd.underlying35 rfl (by rw [szPrint, arr_size, HL.out])) rfl ⟨rfl, below_setRow HW.out (by omega) _⟩
set_option maxHeartbeats 400000 in
theorem eqPrint_same (ys : List Int) (hl : ys.length = 64) (w : World) :
    Calls Tryd.prog 24 #[.agg (arr .i16 ys), .agg (arr .i16 ys)] w fun e w' => e = .returned (.bool true) ∧ Below w.heap.size w w' := by
  have HL := Lib.hid hl
  clear hl
  go_enter Tryd.func24, Tryd.ntmps24
  go_wp2
  go_loopw [5] (fun i wr => ∃ k : Nat, k ≤ 64 ∧ i = .int .i64 k ∧ wr.heap[w.heap.size]? = some (.cells (arr .i16 ys) 35 (0, 0)) ∧ wr.heap[w.heap.size + 1]? = some (.cells (arr .i16 ys) 35 (0, 0)) ∧ Below w.heap.size w wr) (fun i _ => 64 - (intOf i).toNat)
  case atStart => exact ⟨0, Nat.zero_le _, rfl, al2_0 _ _ _, al2_1 _ _ _, bl2 _ _ _⟩
  case round =>
    obtain ⟨k, hk, rfl, hA, hB, hW⟩ := hrel
    have HA := Lib.hid hA
    have HB := Lib.hid hB
    have HW := Lib.hid hW
    clear hA hB hW
    by_cases hlt : k < 64
    · obtain ⟨x, hxe⟩ : ∃ x, x = ys.getD k 0 := ⟨_, rfl⟩
      have h1 : wr.cell? ⟨w.heap.size, k, none⟩ = some (.int .i16 x) := by rw [hxe]; exact arr_cell HA.out k (by rw [HL.out]; exact hlt)
      have h2 : wr.cell? ⟨w.heap.size + 1, k, none⟩ = some (.int .i16 x) := by rw [hxe]; exact arr_cell HB.out k (by rw [HL.out]; exact hlt)
      have hself : (x != x) = false := by simp
      clear hxe
      go_wp2_with fail
      go_quiet (fail)
      go_wp2
      go_roundw
      case rel => exact ⟨k + 1, by omega, by go_num, by first | exact HA.out | (simp; exact HA.out), by first | exact HB.out | (simp; exact HB.out), by first | exact HW.out | exact bl_drew HW.out | exact bl_drewN HW.out _⟩
      case measure => simp [intOf]; omega
    · have hk24 : k = 64 := by omega
      subst hk24
      go_wp2
      go_ret
      exact ⟨rfl, HW.out⟩
theorem l00In_c (n a b : Int) (w : World) :
    Calls Tryd.prog 70 #[.int .i64 n, .int .i64 a, .int .i64 b] w fun e w' => e = .returned (.bool (decide (a ≤ n) && decide (n ≤ b))) ∧ w = w' := by
  by_cases h1 : a ≤ n
  · go_enter Tryd.func70, Tryd.ntmps70
    go_wp2
    go_ret
    exact ⟨by simp [h1], rfl⟩
  · have h1' : n < a := by omega
    go_enter Tryd.func70, Tryd.ntmps70
    go_wp2
    go_ret
    exact ⟨by simp; omega, rfl⟩
theorem within_c (n a b : Int) (w : World) :
    Calls Tryd.prog 72 #[.int .i64 n, .int .i64 a, .int .i64 b] w fun e w' => e = .returned (.bool (decide (a ≤ n) && decide (n ≤ b))) ∧ w = w' := by
  by_cases h1 : a ≤ n
  · go_enter Tryd.func72, Tryd.ntmps72
    go_wp2
    go_ret
    exact ⟨by simp [h1], rfl⟩
  · have h1' : n < a := by omega
    go_enter Tryd.func72, Tryd.ntmps72
    go_wp2
    go_ret
    exact ⟨by simp; omega, rfl⟩
def dnB (n : Int) : Bool := decide (0 ≤ n) && decide (n ≤ 400)
theorem dnB_iff (n : Int) : dnB n = true ↔ 0 ≤ n ∧ n ≤ 400 := by simp [dnB]
theorem l02Density_c (n : Int) (w : World) :
    Calls Tryd.prog 67 #[.int .i64 n] w fun e w' => e = .returned (.bool (dnB n)) ∧ w = w' := by
  go_enter Tryd.func67, Tryd.ntmps67
  go_wp2_with (go_at_call 70; refine (l00In_c _ _ _ _).mono ?_; rintro e w' ⟨rfl, rfl⟩)
  go_ret
  exact ⟨rfl, rfl⟩
theorem isDensity_c (n : Int) (w : World) :
    Calls Tryd.prog 68 #[.int .i64 n] w fun e w' => e = .returned (.bool (dnB n)) ∧ w = w' := by
  go_enter Tryd.func68, Tryd.ntmps68
  go_wp2_with (go_at_call 72; refine (within_c _ _ _ _).mono ?_; rintro e w' ⟨rfl, rfl⟩)
  go_ret
  exact ⟨rfl, rfl⟩
def okP (xs : List Int) : Bool := xs.all dnB
theorem okP_take (xs : List Int) (k : Nat) (h : k < xs.length) : okP (xs.take (k + 1)) = (okP (xs.take k) && dnB (xs.getD k 0)) := by
  unfold okP
  rw [take_snoc xs k h, List.all_append]; simp
theorem okP_bad (xs : List Int) (k : Nat) (h : k < xs.length) (hb : dnB (xs.getD k 0) = false) : okP xs = false := by
  unfold okP
  rw [List.all_eq_false]
  refine ⟨xs[k], List.getElem_mem h, ?_⟩
  rw [List.getD_eq_getElem?_getD, List.getElem?_eq_getElem h] at hb
  simpa using hb
theorem okP_full {xs : List Int} (k : Nat) (h : xs.length = 64) (hk : ¬ k < 64) (ht : okP (xs.take k) = true) : okP xs = true := by
  rwa [List.take_of_length_le (by omega)] at ht
theorem okP_get {xs : List Int} (h : okP xs = true) (i : Nat) : 0 ≤ xs.getD i 0 ∧ xs.getD i 0 ≤ 400 := by
  by_cases hi : i < xs.length
  · have := List.all_eq_true.1 h _ (List.getElem_mem hi)
    rw [List.getD_eq_getElem?_getD, List.getElem?_eq_getElem hi]
    exact (dnB_iff _).1 this
  · rw [List.getD_eq_getElem?_getD, List.getElem?_eq_none (by omega)]; simp
set_option maxHeartbeats 400000 in
theorem l03Dense_c (xs : List Int) (hs : Pr xs) (g : Nat) (t : TypeId) (w : World) (hb : w.heap[g]? = some (.cells (arr .i16 xs) t (0, 0))) :
    Calls Tryd.prog 56 #[.pointer (some ⟨g, 0, none⟩)] w fun e w' => e = .returned (.bool (okP xs)) ∧ w = w' := by
  have HL := Lib.hid hs.1
  have HB := Lib.hid hb
  clear hb
  go_enter Tryd.func56, Tryd.ntmps56
  go_wp2
  go_loop [3] (fun i => ∃ k : Nat, k ≤ 64 ∧ i = .int .i64 k ∧ okP (xs.take k) = true) (fun i => 64 - (intOf i).toNat)
  case atStart => exact ⟨0, Nat.zero_le _, rfl, rfl⟩
  case round =>
    obtain ⟨k, hk, rfl, hok⟩ := hrel
    have HK := Lib.hid hok
    clear hok
    by_cases hlt : k < 64
    · obtain ⟨x, hxe⟩ : ∃ x, x = xs.getD k 0 := ⟨_, rfl⟩
      have hcell : w.cell? ⟨g, k, none⟩ = some (.int .i16 x) := by rw [hxe]; exact arr_cell HB.out k (by rw [HL.out]; exact hlt)
      have hx1 : -32768 ≤ x := by rw [hxe]; exact (hs.2 k).1
      have hx2 : x ≤ 32767 := by rw [hxe]; exact (hs.2 k).2
      have HE := Lib.hid hxe
      clear hxe
      cases hr : dnB x
      · have HR := Lib.hid hr
        clear hr
        go_wp2_with (go_at_call 67; refine (l02Density_c _ _).mono ?_; rintro e w' ⟨rfl, rfl⟩; rw [HR.out])
        go_ret
        exact ⟨ret_bool (okP_bad xs k (by rw [HL.out]; exact hlt) (by rw [← HE.out, HR.out])).symm, rfl⟩
      · have HR := Lib.hid hr
        clear hr
        go_wp2_with (go_at_call 67; refine (l02Density_c _ _).mono ?_; rintro e w' ⟨rfl, rfl⟩; rw [HR.out])
        go_round
        case rel => exact ⟨k + 1, by omega, by go_num, by rw [okP_take _ _ (by rw [HL.out]; exact hlt), HK.out, ← HE.out, HR.out]; rfl⟩
        case measure => simp [intOf]; omega
    · go_wp2
      go_ret
      exact ⟨ret_bool (okP_full k HL.out hlt HK.out).symm, rfl⟩
set_option maxHeartbeats 400000 in
theorem l03Print_c (xs : List Int) (hs : Pr xs) (b o : Nat) (w : World) (hb : w.rangeAt b o (cellsP xs)) :
    Calls Tryd.prog 42 #[.pointer (some ⟨b, o, none⟩)] w fun e w' => e = .returned (.bool (okP xs)) ∧ Below w.heap.size w w' := by
  have H64 : Hid ((cellsP xs).length = 64) := Lib.hid (by rw [cellsP_length]; exact hs.1)
  have HB := Lib.hid hb
  clear hb
  go_enter Tryd.func42, Tryd.ntmps42
  have HL := Lib.hid hs.1
  go_wp2_with (first
    | (refine wpList_load_mid rfl 35 (.tmp 5) rfl b o rfl (cellsP xs) _ HB.out Tryd.underlying35 rfl (by rw [szPrint, H64.out]) ?_)
    | (rw [z64_Z]; refine wpList_store_row rfl 34 (.tmp 3) (.tmp 6) rfl w.heap.size (arr .i16 xs) rfl rfl 34 (arr .i16 Z64) (al1_0 _ _) (by rw [szA64, arr_size, HL.out]) (by rw [arr_size, arr_size, HL.out]; rfl) (arr_one _ _) ?_))
  have HR := Lib.hid (setRow_heap (w.alloc (.cells (arr .i16 Z64) 34)) w.heap.size _ (arr .i16 xs) 34 (0, 0) (al1_0 _ _))
  have HW := Lib.hid (below_setRow (bl1 w (.cells (arr .i16 Z64) 34)) (Nat.le_refl _) (arr .i16 xs))
  generalize (w.alloc (.cells (arr .i16 Z64) 34)).setRow w.heap.size (arr .i16 xs) = w1 at *
  refine (l03Dense_c xs hs _ _ _ HR.out).mono ?_
  rintro e w' ⟨rfl, rfl⟩
  go_wp2
  go_ret
  exact ⟨rfl, HW.out⟩
set_option maxHeartbeats 400000 in
theorem areDensities_c (xs : List Int) (hs : Pr xs) (w : World) :
    Calls Tryd.prog 57 #[.agg (arr .i16 xs)] w fun e w' => e = .returned (.bool (okP xs)) ∧ Below w.heap.size w w' := by
  have HL := Lib.hid hs.1
  go_enter Tryd.func57, Tryd.ntmps57
  go_wp2_with (refine wpList_load_row rfl 34 (.tmp 1) rfl _ rfl _ _ _ _ (al1_0 w (.cells (arr .i16 xs) 34)) Tryd.underlying34 rfl (by rw [szA64, arr_size, HL.out]) ?_)
  have HB := Lib.hid (bl1 w (.cells (arr .i16 xs) 34))
  generalize w.alloc (.cells (arr .i16 xs) 34) = w1 at *
  go_loop [6] (fun i => ∃ k : Nat, k ≤ 64 ∧ i = .int .i64 k ∧ okP (xs.take k) = true) (fun i => 64 - (intOf i).toNat)
  case atStart => exact ⟨0, Nat.zero_le _, rfl, rfl⟩
  case round =>
    obtain ⟨k, hk, rfl, hok⟩ := hrel
    have HK := Lib.hid hok
    clear hok
    by_cases hlt : k < 64
    · obtain ⟨x, hxe⟩ : ∃ x, x = xs.getD k 0 := ⟨_, rfl⟩
      have hx1 : -32768 ≤ x := by rw [hxe]; exact (hs.2 k).1
      have hx2 : x ≤ 32767 := by rw [hxe]; exact (hs.2 k).2
      have HE := Lib.hid hxe
      clear hxe
      cases hr : dnB x
      all_goals
        have HR := Lib.hid hr
        clear hr
        go_wp2_with (first
          | (refine wpList_index_arr rfl 34 (.tmp 5) (.tmp 6) rfl xs rfl k rfl 64 33 Tryd.underlying34 szI16 Tryd.underlying33 hlt HL.out ?_; rw [← HE.out])
          | (go_at_call 68; refine (isDensity_c _ _).mono ?_; rintro e w' ⟨rfl, rfl⟩; rw [HR.out]))
      · go_ret
        exact ⟨ret_bool (okP_bad xs k (by rw [HL.out]; exact hlt) (by rw [← HE.out, HR.out])).symm, HB.out⟩
      · go_round
        case rel => exact ⟨k + 1, by omega, by go_num, by rw [okP_take _ _ (by rw [HL.out]; exact hlt), HK.out, ← HE.out, HR.out]; rfl⟩
        case measure => simp [intOf]; omega
    · go_wp2
      go_ret
      exact ⟨ret_bool (okP_full k HL.out hlt HK.out).symm, HB.out⟩
theorem implValidPrint_c (xs : List Int) (hs : Pr xs) (w : World) :
    Calls Tryd.prog 44 #[.agg (arr .i16 xs)] w fun e w' => e = .returned (.bool (okP xs)) ∧ Below w.heap.size w w' := by
  have HL := Lib.hid hs.1
  go_enter Tryd.func44, Tryd.ntmps44
  go_wp2_with (refine wpList_load_row rfl 35 (.tmp 1) rfl _ rfl _ _ _ _ (al1_0 w (.cells (arr .i16 xs) 35)) Tryd.underlying35 rfl (by rw [szPrint, arr_size, HL.out]) ?_)
  refine (areDensities_c xs hs _).mono ?_
  rintro e w1 ⟨rfl, hb1⟩
  have hB := Lib.hid (bt (bl1 _ _) hb1)
  clear hb1
  go_wp2
  go_ret
  exact ⟨rfl, hB.out⟩
theorem rangeAt_arr {w : World} {g : Nat} {xs : List Int} {t : TypeId} {fr : Nat × Nat} (h : w.heap[g]? = some (.cells (arr .i16 xs) t fr)) : w.rangeAt g 0 (cellsP xs) := fun j v hv => by
  rw [cell_of_row w g _ _ t fr h, Nat.zero_add, arr, List.getElem?_toArray]; exact hv
end Go.Proofs.YtmnidldpkkpeoaaDoor
