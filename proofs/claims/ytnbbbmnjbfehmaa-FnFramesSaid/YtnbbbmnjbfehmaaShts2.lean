/- Sheets: how the laws copy and compare them. -/
import Derived.Test.YtnbbbmnjbfehmaaShts
namespace Go.Proofs.Ytnbbbmnjbfehmaa
open Go.RowKit
theorem szSheetL : (Try.prog.info? 25).map (·.size) = some 2 := by kernel_rfl
theorem szSheetI : (Try.prog.info? 30).map (·.size) = some 2 := by kernel_rfl
theorem szSheet_c (a : Int) (p : Option Addr) (n c : Nat) (hn : n ≤ 9223372036854775807) (w : World) :
    Calls Try.prog 14 #[.agg #[.int .i8 a, .slice p n c], .int .i64 1048576] w fun e w' => e = .returned (.int .i64 (if 1048576 < n then -1 else 1048576 - n)) ∧ Below w.heap.size w w' := by
  by_cases h : 1048576 < n
  · rw [if_pos h]
    go_enter Try.func14, Try.ntmps14
    go_wp2_with fail
    refine (szPrintS_c p n c hn _).mono ?_
    rintro e w1 ⟨rfl, rfl⟩
    rw [if_pos h]
    go_wp2
    go_ret
    exact ⟨rfl, bl1 _ _⟩
  · have h1 : 0 ≤ (1048576 : Int) - n := by omega
    rw [if_neg h]
    go_enter Try.func14, Try.ntmps14
    go_wp2_with fail
    refine (szPrintS_c p n c hn _).mono ?_
    rintro e w1 ⟨rfl, rfl⟩
    rw [if_neg h]
    go_wp2
    go_ret
    exact ⟨rfl, bl1 _ _⟩
set_option maxHeartbeats 400000 in
theorem toSheet_c (a : Int) (p : Option Addr) (n c : Nat) (l : List (List Int)) (hl : Prs l) (hn : n = l.length) (hm : n ≤ 1048576) (w : World) (hp : PS w p l) :
    Calls Try.prog 16 #[.agg #[.int .i8 a, .slice p n c]] w fun e w' => e = .returned (.agg #[.int .i8 a, .slice (some ⟨w.heap.size + 1 + 1 + 1, 0, none⟩) n n]) ∧ w'.heap[w.heap.size + 1 + 1 + 1]? = some (.cells (flatP l).toArray 45 (0, 0)) ∧ Below w.heap.size w w' := by
  have HN := Lib.hid hn
  have HA := Lib.hid hp
  have HP := Lib.hid hl
  clear hn hp hl
  go_enter Try.func16, Try.ntmps16
  go_wp2_with fail
  refine (toPrintS_c p n c l HP.out HN.out hm _ (PS_below (bl3 _ _ _ _) HA.out)).mono ?_
  rintro e w1 ⟨rfl, hf, hb1⟩
  have e3 : (((w.alloc (.cells #[.int .i8 a, .slice p n c] 25)).alloc (.cells #[.int .i8 0, .slice none 0 0] 30)).alloc (.cells #[.int .i8 a, .slice none 0 0] 30)).heap.size = w.heap.size + 1 + 1 + 1 := by simp
  rw [e3] at hf ⊢
  have hB := Lib.hid (bt (bl3 _ _ _ _) hb1)
  have H1 := Lib.hid (heap_below hb1 (by simp <;> omega) (al3_1 w _ _ _))
  have H2 := Lib.hid (heap_below hb1 (by simp) (al3_2 w _ _ _))
  have HF := Lib.hid hf
  have HZ := Lib.hid (lt_of_heap hf)
  clear hf hb1 e3
  have c10 := bk2_0 H1.out
  have c11 := bk2_1 H1.out
  have f10 := blk_f H1.out 0
  have f11 := blk_f H1.out 1
  have c20 := bk2_0 H2.out
  have c21 := bk2_1 H2.out
  have f21 := blk_f H2.out 1
  go_wp2
  refine bodyPost_ret (v := .agg #[.int .i8 a, .slice (some ⟨w.heap.size + 1 + 1 + 1, 0, none⟩) n n]) (by simp [results, Try.results16, go_sem, c10, c11]) rfl ⟨rfl, ?_, ?_⟩
  · exact heap_far _ (by simp <;> omega) (heap_far _ (by simp <;> omega) (heap_far _ (by simp) HF.out))
  · exact ((hB.out.setCell (by simp <;> omega) _).setCell (by simp <;> omega) _).setCell (by simp <;> omega) _
set_option maxHeartbeats 400000 in
theorem eqPrint_same (ys : List Int) (hl : ys.length = 64) (w : World) :
    Calls Try.prog 61 #[.agg (arr .i16 ys), .agg (arr .i16 ys)] w fun e w' => e = .returned (.bool true) ∧ Below w.heap.size w w' := by
  have HL := Lib.hid hl
  clear hl
  go_enter Try.func61, Try.ntmps61
  go_wp2
  go_loopw [5] (fun i wr => ∃ k : Nat, k ≤ 64 ∧ i = .int .i64 k ∧ wr.heap[w.heap.size]? = some (.cells (arr .i16 ys) 45 (0, 0)) ∧ wr.heap[w.heap.size + 1]? = some (.cells (arr .i16 ys) 45 (0, 0)) ∧ Below w.heap.size w wr) (fun i _ => 64 - (intOf i).toNat)
  case atStart => exact ⟨0, Nat.zero_le _, rfl, al2_0 _ _ _, al2_1 _ _ _, bl2 _ _ _⟩
  case round =>
    obtain ⟨k, hk, rfl, hA, hB, hW⟩ := hrel
    have HA := Lib.hid hA
    have HB := Lib.hid hB
    have HW := Lib.hid hW
    clear hA hB hW
    by_cases hlt : k < 64
    · obtain ⟨x, hxe⟩ : ∃ x, x = ys.getD k 0 := ⟨_, rfl⟩
      have h1 : wr.cell? ⟨w.heap.size, k, none⟩ = some (.int .i16 x) := by rw [hxe]; exact arr_cell HA.out k (by rw [HL.out]; exact hlt)
      have h2 : wr.cell? ⟨w.heap.size + 1, k, none⟩ = some (.int .i16 x) := by rw [hxe]; exact arr_cell HB.out k (by rw [HL.out]; exact hlt)
      have hself : (x != x) = false := by simp
      clear hxe
      go_wp2_with fail
      go_quiet (fail)
      go_wp2
      go_roundw
      case rel => exact ⟨k + 1, by omega, by go_num, by first | exact HA.out | (simp; exact HA.out), by first | exact HB.out | (simp; exact HB.out), by first | exact HW.out | exact bl_drew HW.out | exact bl_drewN HW.out _⟩
      case measure => simp [intOf]; omega
    · have hk24 : k = 64 := by omega
      subst hk24
      go_wp2
      go_ret
      exact ⟨rfl, HW.out⟩
set_option maxHeartbeats 1000000 in
set_option maxRecDepth 100000 in
theorem eqPrintS_same (b1 b2 n c1 c2 : Nat) (l : List (List Int)) (hl : Prs l) (hn : n = l.length) (hm : n ≤ 1048576) (w : World) (h1 : w.heap[b1]? = some (.cells (flatP l).toArray 45 (0, 0))) (h2 : w.heap[b2]? = some (.cells (flatP l).toArray 45 (0, 0))) :
    Calls Try.prog 30 #[.slice (some ⟨b1, 0, none⟩) n c1, .slice (some ⟨b2, 0, none⟩) n c2] w fun e w' => e = .returned (.bool true) ∧ Below w.heap.size w w' := by
  have HN := Lib.hid hn
  have HP := Lib.hid hl
  have H1 := Lib.hid h1
  have H2 := Lib.hid h2
  have hu := Try.underlying45
  clear hn hl h1 h2
  go_enter Try.func30, Try.ntmps30
  go_wp2
  go_loopw [5] (fun i wr => ∃ k : Nat, k ≤ n ∧ i = .int .i64 k ∧ Below w.heap.size w wr) (fun i _ => n - (intOf i).toNat)
  case atStart => exact ⟨0, Nat.zero_le _, rfl, Below.refl _ _⟩
  case round =>
    obtain ⟨k, hk, rfl, hW⟩ := hrel
    have HW := Lib.hid hW
    clear hW
    by_cases hlt : k < n
    · obtain ⟨q, hpe⟩ : ∃ q, q = l.getD k [] := ⟨_, rfl⟩
      have HPr : Hid (Pr q) := Lib.hid (by rw [hpe]; exact HP.out k (by have := HN.out; omega))
      have hi : (Try.prog.info? 45).map (·.size) = some (cellsP q).length := by rw [szPrint, cellsP_length, HPr.out.1]
      have K : Hid (∀ w', Below wr.heap.size wr w' → (Below wr.heap.size wr w' ∧ w'.rangeAt b1 (k * 64) (cellsP q) ∧ w'.rangeAt b2 (k * 64) (cellsP q))) := Lib.hid fun w' hb => by
        have hb1 := bt HW.out hb
        have r1 := PrAt_block (heap_below hb1 (lt_of_heap H1.out) H1.out) HP.out k (by have := HN.out; omega)
        have r2 := PrAt_block (heap_below hb1 (lt_of_heap H2.out) H2.out) HP.out k (by have := HN.out; omega)
        rw [Nat.zero_add, ← hpe] at r1 r2
        exact ⟨hb, r1, r2⟩
      have HE := Lib.hid hpe
      clear hpe
      have L1 : Sem.run Try.prog (Instr.loadAt 45 (.pointer (some ⟨b1, k * 64, none⟩))) wr.drew = .ok (.agg (arr .i16 q)) wr.drew :=
        run_loadAt_mid _ _ _ _ _ _ (K.out _ (bl_drew (Below.refl _ _))).2.1 hu rfl hi
      have L2 : Sem.run Try.prog (Instr.loadAt 45 (.pointer (some ⟨b2, k * 64, none⟩))) wr.drew = .ok (.agg (arr .i16 q)) wr.drew :=
        run_loadAt_mid _ _ _ _ _ _ (K.out _ (bl_drew (Below.refl _ _))).2.2 hu rfl hi
      clear hu hi
      go_upto_region 6 with fail
      refine wp_region_still_tail 8 (by kernel_rfl) (by kernel_rfl) ?_
      simp only [List.take_succ_cons, List.take_zero, List.drop_succ_cons, List.drop_zero]
      still_step
      still_step
      still_step
      refine wpStill_load rfl _ _ rfl _ _ rfl L1 ?_
      still_step
      still_step
      still_step
      refine wpStill_load rfl _ _ rfl _ _ rfl L2 ?_
      refine wpStill_nil ?_
      change wpList _ _ _ _ _ wr.drew
      go_wp2_with (go_at_call 61; refine (eqPrint_same q HPr.out.1 _).mono ?_; rintro e w9 ⟨rfl, hb9⟩; have HB9 := Lib.hid hb9; clear hb9)
      go_roundw
      case rel => exact ⟨k + 1, by omega, by go_num, bt HW.out (bt (bl_drew (Below.refl _ _)) HB9.out)⟩
      case measure => simp [intOf]; omega
    · have hkn : k = n := by omega
      subst hkn
      go_wp2
      go_ret
      exact ⟨rfl, HW.out⟩
set_option maxHeartbeats 400000 in
theorem eqSheet_same (a : Int) (b1 b2 n c1 c2 : Nat) (l : List (List Int)) (hl : Prs l) (hn : n = l.length) (hm : n ≤ 1048576) (w : World) (h1 : w.heap[b1]? = some (.cells (flatP l).toArray 45 (0, 0))) (h2 : w.heap[b2]? = some (.cells (flatP l).toArray 45 (0, 0))) :
    Calls Try.prog 18 #[.agg #[.int .i8 a, .slice (some ⟨b1, 0, none⟩) n c1], .agg #[.int .i8 a, .slice (some ⟨b2, 0, none⟩) n c2]] w fun e w' => e = .returned (.bool true) ∧ Below w.heap.size w w' := by
  have HN := Lib.hid hn
  have HP := Lib.hid hl
  have H1 := Lib.hid h1
  have H2 := Lib.hid h2
  clear hn hl h1 h2
  have hself : (a != a) = false := by simp
  go_enter Try.func18, Try.ntmps18
  go_wp2_with fail
  refine (eqPrintS_same b1 b2 n c1 c2 l HP.out HN.out hm _ (heap_below (bl2 _ _ _) (lt_of_heap H1.out) H1.out) (heap_below (bl2 _ _ _) (lt_of_heap H2.out) H2.out)).mono ?_
  rintro e w1 ⟨rfl, hb1⟩
  have hB := Lib.hid (bt (bl2 _ _ _) hb1)
  clear hb1
  go_wp2
  go_ret
  exact ⟨rfl, hB.out⟩
end Go.Proofs.Ytnbbbmnjbfehmaa
