/- Sheets and lists of prints: how the laws copy and compare them. -/
import Derived.Test.YtnbbbmnjbfehmaaPrs
import Derived.Outline
import Derived.StillTailTactics
namespace Go.Proofs.Ytnbbbmnjbfehmaa
open Go.RowKit
theorem szPrint : (Try.prog.info? 45).map (·.size) = some 64 := by kernel_rfl
theorem szA64 : (Try.prog.info? 40).map (·.size) = some 64 := by kernel_rfl
theorem szI16 : (Try.prog.info? 39).map (·.size) = some 1 := by kernel_rfl
theorem z64_eq : (#[.int .i16 0, .int .i16 0, .int .i16 0, .int .i16 0, .int .i16 0, .int .i16 0, .int .i16 0, .int .i16 0, .int .i16 0, .int .i16 0, .int .i16 0, .int .i16 0, .int .i16 0, .int .i16 0, .int .i16 0, .int .i16 0, .int .i16 0, .int .i16 0, .int .i16 0, .int .i16 0, .int .i16 0, .int .i16 0, .int .i16 0, .int .i16 0, .int .i16 0, .int .i16 0, .int .i16 0, .int .i16 0, .int .i16 0, .int .i16 0, .int .i16 0, .int .i16 0, .int .i16 0, .int .i16 0, .int .i16 0, .int .i16 0, .int .i16 0, .int .i16 0, .int .i16 0, .int .i16 0, .int .i16 0, .int .i16 0, .int .i16 0, .int .i16 0, .int .i16 0, .int .i16 0, .int .i16 0, .int .i16 0, .int .i16 0, .int .i16 0, .int .i16 0, .int .i16 0, .int .i16 0, .int .i16 0, .int .i16 0, .int .i16 0, .int .i16 0, .int .i16 0, .int .i16 0, .int .i16 0, .int .i16 0, .int .i16 0, .int .i16 0, .int .i16 0] : Array Value) = arr .i16 (List.replicate 64 0) := by kernel_rfl
def Z64 : List Int := List.replicate 64 0
theorem Z64_length : Z64.length = 64 := by simp [Z64]
theorem z64_Z : (#[.int .i16 0, .int .i16 0, .int .i16 0, .int .i16 0, .int .i16 0, .int .i16 0, .int .i16 0, .int .i16 0, .int .i16 0, .int .i16 0, .int .i16 0, .int .i16 0, .int .i16 0, .int .i16 0, .int .i16 0, .int .i16 0, .int .i16 0, .int .i16 0, .int .i16 0, .int .i16 0, .int .i16 0, .int .i16 0, .int .i16 0, .int .i16 0, .int .i16 0, .int .i16 0, .int .i16 0, .int .i16 0, .int .i16 0, .int .i16 0, .int .i16 0, .int .i16 0, .int .i16 0, .int .i16 0, .int .i16 0, .int .i16 0, .int .i16 0, .int .i16 0, .int .i16 0, .int .i16 0, .int .i16 0, .int .i16 0, .int .i16 0, .int .i16 0, .int .i16 0, .int .i16 0, .int .i16 0, .int .i16 0, .int .i16 0, .int .i16 0, .int .i16 0, .int .i16 0, .int .i16 0, .int .i16 0, .int .i16 0, .int .i16 0, .int .i16 0, .int .i16 0, .int .i16 0, .int .i16 0, .int .i16 0, .int .i16 0, .int .i16 0, .int .i16 0] : Array Value) = arr .i16 Z64 := by kernel_rfl
set_option maxHeartbeats 400000 in
theorem toPrint_c (xs : List Int) (hs : Pr xs) (w : World) :
    Calls Try.prog 27 #[.agg (arr .i16 xs)] w fun e w' => e = .returned (.agg (arr .i16 xs)) ∧ Below w.heap.size w w' := by
  have HL := Lib.hid hs.1
  go_enter Try.func27, Try.ntmps27
  go_wp2
  rw [z64_eq]
  go_loopw [4] (fun i wr => ∃ k : Nat, k ≤ 64 ∧ i = .int .i64 k ∧ wr.heap[w.heap.size]? = some (.cells (arr .i16 xs) 40 (0, 0)) ∧ wr.heap[w.heap.size + 1]? = some (.cells (arr .i16 (List.replicate 64 0)) 45 (0, 0)) ∧
      wr.heap[w.heap.size + 1 + 1]? = some (.cells (arr .i16 (xs.take k ++ List.replicate (64 - k) 0)) 45 (0, 0)) ∧ Below w.heap.size w wr) (fun i _ => 64 - (intOf i).toNat)
  case atStart => exact ⟨0, Nat.zero_le _, rfl, al3_0 _ _ _ _, al3_1 _ _ _ _, al3_2 _ _ _ _, bl3 _ _ _ _⟩
  case round =>
    obtain ⟨k, hk, rfl, hA, hB, hC, hW⟩ := hrel
    have HA := Lib.hid hA
    have HB := Lib.hid hB
    have HC := Lib.hid hC
    have HW := Lib.hid hW
    clear hA hB hC hW
    by_cases hlt : k < 64
    · obtain ⟨x, hxe⟩ : ∃ x, x = xs.getD k 0 := ⟨_, rfl⟩
      have hcell : wr.cell? ⟨w.heap.size, k, none⟩ = some (.int .i16 x) := by rw [hxe]; exact arr_cell HA.out k (by rw [HL.out]; exact hlt)
      have hcell2 := arr_cell HC.out k (by simp [HL.out]; omega)
      have hfr : wr.frozen? ⟨w.heap.size + 1 + 1, k, none⟩ = false := frozen_of_row _ _ _ _ _ HC.out
      have HE := Lib.hid hxe
      clear hxe
      go_wp2
      go_roundw
      case rel =>
        exact ⟨k + 1, by omega, by go_num, heap_far _ (by simp; omega) HA.out, heap_far _ (by simp) HB.out, by rw [arr_store HC.out, HE.out, set_step _ _ _ HL.out hlt], HW.out.setCell (by simp; omega) _⟩
      case measure => simp [intOf]; omega
    · have hk64 : k = 64 := by omega
      subst hk64
      have HC2 : Hid (wr.heap[w.heap.size + 1 + 1]? = some (.cells (arr .i16 xs) 45 (0, 0))) := Lib.hid (by
        have := HC.out
        rwa [List.take_of_length_le (by rw [HL.out]; omega), Nat.sub_self, List.replicate_zero, List.append_nil] at this)
      go_wp2_with (first
        | (refine wpList_load_row rfl 45 (.tmp 3) rfl _ rfl _ _ _ _ HC2.out Try.underlying45 rfl (by rw [szPrint, arr_size, HL.out]) ?_)
        | (refine wpList_store_row rfl 45 (.tmp 2) (.tmp 14) rfl _ _ rfl rfl _ _ HB.out (by rw [szPrint, arr_size, HL.out]) (by rw [arr_size, arr_size, HL.out]; rfl) (arr_one _ _) ?_))
      exact bodyPost_ret (results_cell_row rfl _ _ _ _ _ _ _ rfl (setRow_heap _ _ _ _ _ _ HB.out) Try.underlying45 rfl (by rw [szPrint, arr_size, HL.out])) rfl ⟨rfl, below_setRow HW.out (by omega) _⟩
theorem infoPrint : (Try.prog.info? 45).map (fun i => (i.zero, i.size, i.bytes)) = some (some (.agg (arr .i16 (List.replicate 64 0))), 64, 128) := by kernel_rfl
theorem made_zeros (N m : Nat) (hN : 0 < N) : madeCells (Value.agg (arr .i16 (List.replicate N 0))).cells m = (List.replicate m (Value.int .i16 0)).toArray := by
  apply Array.ext
  · simp [madeCells]
  · intro i h1 h2
    have h3 : i % N < N := Nat.mod_lt _ hN
    simp [madeCells, Value.cells, arr, List.map_replicate, h3]
theorem made_ZP (n : Nat) : madeCells (Value.agg (arr .i16 (List.replicate 64 0))).cells (n * 64) = ZP n := made_zeros 64 _ (by omega)
theorem makePrints (n : Nat) (hn : n ≤ 1048576) (w : World) : (Instr.makeSlice 28 (.int .i64 n) (.int .i64 n)).run Try.prog w = .ok (.slice (some ⟨w.heap.size, 0, none⟩) n n) (w.alloc (.cells (ZP n) 45)) := by
  obtain ⟨i, hi, hz0, hz1, hz2⟩ := info_parts infoPrint
  have h := run_make w 28 45 i _ Try.underlying28 hi hz0 .i64 .i64 n n (by omega) (Int.le_refl _) (by rw [hz2]; omega) (by omega)
  rw [h, hz1, Int.toNat_natCast, made_ZP]
set_option maxHeartbeats 400000 in
theorem toPrintS_c (p : Option Addr) (n c : Nat) (l : List (List Int)) (hl : Prs l) (hn : n = l.length) (hm : n ≤ 1048576) (w : World) (hp : PS w p l) :
    Calls Try.prog 28 #[.slice p n c] w fun e w' => e = .returned (.slice (some ⟨w.heap.size, 0, none⟩) n n) ∧ w'.heap[w.heap.size]? = some (.cells (flatP l).toArray 45 (0, 0)) ∧ Below w.heap.size w w' := by
  have hmk := fun w => makePrints n hm w
  have HN := Lib.hid hn
  have HA := Lib.hid hp
  have HP := Lib.hid hl
  clear hn hp hl
  go_enter Try.func28, Try.ntmps28
  go_wp2
  clear hmk
  go_loopw [4] (fun i wr => ∃ k : Nat, k ≤ n ∧ i = .int .i64 k ∧ wr.heap[w.heap.size]? = some (.cells (partP l k) 45 (0, 0)) ∧ Below w.heap.size w wr) (fun i _ => n - (intOf i).toNat)
  case atStart => exact ⟨0, Nat.zero_le _, rfl, by rw [partP_zero, ← HN.out]; exact al1_0 _ _, bl1 _ _⟩
  case round =>
    obtain ⟨k, hk, rfl, hA, hW⟩ := hrel
    have HA1 := Lib.hid hA
    have HW := Lib.hid hW
    clear hA hW
    by_cases hlt : k < n
    · obtain ⟨b, o, rfl, hb, hat⟩ := HA.out (ne_of_lt (k := k) (by have := HN.out; omega))
      obtain ⟨q, hpe⟩ : ∃ q, q = l.getD k [] := ⟨_, rfl⟩
      have HPr : Hid (Pr q) := Lib.hid (by rw [hpe]; exact HP.out k (by have := HN.out; omega))
      have HR : Hid (wr.rangeAt b (o + k * 64) (cellsP q)) := Lib.hid (by rw [hpe]; exact rangeAt_below HW.out hb (hat k (by have := HN.out; omega)))
      have H64 : Hid ((cellsP q).length = 64) := Lib.hid (by rw [cellsP_length]; exact HPr.out.1)
      have HE := Lib.hid hpe
      clear hpe hat
      go_wp2_with (refine wpList_load_mid rfl 40 (.tmp 18) rfl b (o + k * 64) rfl (cellsP q) _ HR.out Try.underlying40 rfl (by rw [szA64, H64.out]) ?_)
      rw [cellsP_arr]
      refine (toPrint_c q HPr.out _).mono ?_
      rintro e w1 ⟨rfl, hb1⟩
      have hW1 := Lib.hid (bt HW.out hb1)
      have hA2 := Lib.hid (heap_below hb1 (lt_of_heap HA1.out) HA1.out)
      clear hb1
      have HT : Hid (w1.there w.heap.size (k * 64) (cellsP q).toArray.size) := Lib.hid (there_part hA2.out _ _ (by
        rw [partP_size l HP.out k (by have := HN.out; omega), List.size_toArray, H64.out]; have := HN.out; omega))
      go_wp2_with (refine wpList_store_mid rfl 45 (.tmp 21) (.tmp 20) rfl w.heap.size (k * 64) (cellsP q).toArray rfl rfl HT.out (by rw [szPrint, List.size_toArray, H64.out]) (all_oneCell_toArray (cellsP_one q)) ?_)
      go_roundw
      case rel => exact ⟨k + 1, by omega, by go_num, by rw [HE.out]; exact partP_step HP.out (by have := HN.out; omega) hA2.out, bsc (by omega) _ _ _ hW1.out⟩
      case measure => simp [intOf]; omega
    · have hkn : k = n := by omega
      subst hkn
      go_wp2
      go_ret
      exact ⟨rfl, by rw [← partP_full, ← HN.out]; exact HA1.out, HW.out⟩
theorem szPrintS_c (p : Option Addr) (n c : Nat) (hn : n ≤ 9223372036854775807) (w : World) :
    Calls Try.prog 25 #[.slice p n c, .int .i64 1048576] w fun e w' => e = .returned (.int .i64 (if 1048576 < n then -1 else 1048576 - n)) ∧ w = w' := by
  by_cases h : 1048576 < n
  · have h1 : (1048576 : Int) - n < 0 := by omega
    rw [if_pos h]
    go_enter Try.func25, Try.ntmps25
    go_wp2
    go_ret
    exact ⟨rfl, rfl⟩
  · have h1 : 0 ≤ (1048576 : Int) - n := by omega
    rw [if_neg h]
    go_enter Try.func25, Try.ntmps25
    go_wp2
    go_ret
    exact ⟨rfl, rfl⟩
end Go.Proofs.Ytnbbbmnjbfehmaa
