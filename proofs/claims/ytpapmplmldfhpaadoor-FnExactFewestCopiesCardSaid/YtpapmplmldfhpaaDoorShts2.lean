/- Sheets: how the laws copy and compare them. -/
import Derived.Test.YtpapmplmldfhpaaDoorShts
namespace Go.Proofs.YtpapmplmldfhpaaDoor
open Go.RowKit
set_option maxHeartbeats 400000 in
theorem eqPrint_same (ys : List Int) (hl : ys.length = 64) (w : World) :
    Calls Tryd.prog 9 #[.agg (arr .i16 ys), .agg (arr .i16 ys)] w fun e w' => e = .returned (.bool true) ∧ Below w.heap.size w w' := by
  have HL := Lib.hid hl
  clear hl
  go_enter Tryd.func9, Tryd.ntmps9
  go_wp2
  go_loopw [5] (fun i wr => ∃ k : Nat, k ≤ 64 ∧ i = .int .i64 k ∧ wr.heap[w.heap.size]? = some (.cells (arr .i16 ys) 26 (0, 0)) ∧ wr.heap[w.heap.size + 1]? = some (.cells (arr .i16 ys) 26 (0, 0)) ∧ Below w.heap.size w wr) (fun i _ => 64 - (intOf i).toNat)
  case atStart => exact ⟨0, Nat.zero_le _, rfl, al2_0 _ _ _, al2_1 _ _ _, bl2 _ _ _⟩
  case round =>
    obtain ⟨k, hk, rfl, hA, hB, hW⟩ := hrel
    have HA := Lib.hid hA
    have HB := Lib.hid hB
    have HW := Lib.hid hW
    clear hA hB hW
    by_cases hlt : k < 64
    · obtain ⟨x, hxe⟩ : ∃ x, x = ys.getD k 0 := ⟨_, rfl⟩
      have h1 : wr.cell? ⟨w.heap.size, k, none⟩ = some (.int .i16 x) := by rw [hxe]; exact arr_cell HA.out k (by rw [HL.out]; exact hlt)
      have h2 : wr.cell? ⟨w.heap.size + 1, k, none⟩ = some (.int .i16 x) := by rw [hxe]; exact arr_cell HB.out k (by rw [HL.out]; exact hlt)
      have hself : (x != x) = false := by simp
      clear hxe
      go_wp2_with fail
      go_quiet (fail)
      go_wp2
      go_roundw
      case rel => exact ⟨k + 1, by omega, by go_num, by first | exact HA.out | (simp; exact HA.out), by first | exact HB.out | (simp; exact HB.out), by first | exact HW.out | exact bl_drew HW.out | exact bl_drewN HW.out _⟩
      case measure => simp [intOf]; omega
    · have hk24 : k = 64 := by omega
      subst hk24
      go_wp2
      go_ret
      exact ⟨rfl, HW.out⟩
set_option maxHeartbeats 1000000 in
set_option maxRecDepth 100000 in
theorem eqPrintS_same (b1 b2 n c1 c2 : Nat) (l : List (List Int)) (hl : Prs l) (hn : n = l.length) (hm : n ≤ 1048576) (w : World) (h1 : w.heap[b1]? = some (.cells (flatP l).toArray 26 (0, 0))) (h2 : w.heap[b2]? = some (.cells (flatP l).toArray 26 (0, 0))) :
    Calls Tryd.prog 10 #[.slice (some ⟨b1, 0, none⟩) n c1, .slice (some ⟨b2, 0, none⟩) n c2] w fun e w' => e = .returned (.bool true) ∧ Below w.heap.size w w' := by
  have HN := Lib.hid hn
  have HP := Lib.hid hl
  have H1 := Lib.hid h1
  have H2 := Lib.hid h2
  have hu := Tryd.underlying26
  clear hn hl h1 h2
  go_enter Tryd.func10, Tryd.ntmps10
  go_wp2
  go_loopw [5] (fun i wr => ∃ k : Nat, k ≤ n ∧ i = .int .i64 k ∧ Below w.heap.size w wr) (fun i _ => n - (intOf i).toNat)
  case atStart => exact ⟨0, Nat.zero_le _, rfl, Below.refl _ _⟩
  case round =>
    obtain ⟨k, hk, rfl, hW⟩ := hrel
    have HW := Lib.hid hW
    clear hW
    by_cases hlt : k < n
    · obtain ⟨q, hpe⟩ : ∃ q, q = l.getD k [] := ⟨_, rfl⟩
      have HPr : Hid (Pr q) := Lib.hid (by rw [hpe]; exact HP.out k (by have := HN.out; omega))
      have hi : (Tryd.prog.info? 26).map (·.size) = some (cellsP q).length := by rw [szPrint, cellsP_length, HPr.out.1]
      have K : Hid (∀ w', Below wr.heap.size wr w' → (Below wr.heap.size wr w' ∧ w'.rangeAt b1 (k * 64) (cellsP q) ∧ w'.rangeAt b2 (k * 64) (cellsP q))) := Lib.hid fun w' hb => by
        have hb1 := bt HW.out hb
        have r1 := PrAt_block (heap_below hb1 (lt_of_heap H1.out) H1.out) HP.out k (by have := HN.out; omega)
        have r2 := PrAt_block (heap_below hb1 (lt_of_heap H2.out) H2.out) HP.out k (by have := HN.out; omega)
        rw [Nat.zero_add, ← hpe] at r1 r2
        exact ⟨hb, r1, r2⟩
      have HE := Lib.hid hpe
      clear hpe
      have L1 : Sem.run Tryd.prog (Instr.loadAt 26 (.pointer (some ⟨b1, k * 64, none⟩))) wr.drew = .ok (.agg (arr .i16 q)) wr.drew :=
        run_loadAt_mid _ _ _ _ _ _ (K.out _ (bl_drew (Below.refl _ _))).2.1 hu rfl hi
      have L2 : Sem.run Tryd.prog (Instr.loadAt 26 (.pointer (some ⟨b2, k * 64, none⟩))) wr.drew = .ok (.agg (arr .i16 q)) wr.drew :=
        run_loadAt_mid _ _ _ _ _ _ (K.out _ (bl_drew (Below.refl _ _))).2.2 hu rfl hi
      clear hu hi
      go_upto_region 6 with fail
      refine wp_region_still_tail 8 (by kernel_rfl) (by kernel_rfl) ?_
      simp only [List.take_succ_cons, List.take_zero, List.drop_succ_cons, List.drop_zero]
      still_step
      still_step
      still_step
      refine wpStill_load rfl _ _ rfl _ _ rfl L1 ?_
      still_step
      still_step
      still_step
      refine wpStill_load rfl _ _ rfl _ _ rfl L2 ?_
      refine wpStill_nil ?_
      change wpList _ _ _ _ _ wr.drew
      go_wp2_with (go_at_call 9; refine (eqPrint_same q HPr.out.1 _).mono ?_; rintro e w9 ⟨rfl, hb9⟩; have HB9 := Lib.hid hb9; clear hb9)
      go_roundw
      case rel => exact ⟨k + 1, by omega, by go_num, bt HW.out (bt (bl_drew (Below.refl _ _)) HB9.out)⟩
      case measure => simp [intOf]; omega
    · have hkn : k = n := by omega
      subst hkn
      go_wp2
      go_ret
      exact ⟨rfl, HW.out⟩
end Go.Proofs.YtpapmplmldfhpaaDoor
