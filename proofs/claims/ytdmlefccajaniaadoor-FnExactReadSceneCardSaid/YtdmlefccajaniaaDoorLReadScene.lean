/- ReadScene: the law's walk. -/
import Derived.Test.YtdmlefccajaniaaDoorRdK
import Derived.BigQuiet
namespace Go.Proofs.YtdmlefccajaniaaDoor
open Go.RowKit
theorem ext_size (s : ByteArray) (a b : Nat) : (s.extract a b).size ≤ s.size := by rw [ByteArray.size_extract]; omega
theorem spO_size (s : ByteArray) (c : Nat) : ∀ i p, p ∈ (spO s c i).1 → p.size ≤ s.size
  | 0, p, h => by simp [spO] at h
  | i + 1, p, h => by
    unfold spO at h
    split at h
    · rw [List.mem_append, List.mem_singleton] at h
      rcases h with h | rfl
      · exact spO_size s c i p h
      · exact ext_size _ _ _
    · exact spO_size s c i p h
theorem spL_size (s : ByteArray) (c : Nat) (p : ByteArray) (h : p ∈ spL s c) : p.size ≤ s.size := by
  unfold spL at h
  rw [List.mem_append, List.mem_singleton] at h
  rcases h with h | rfl
  · exact spO_size s c _ p h
  · exact ext_size _ _ _
theorem getD_size {l : List ByteArray} {n : Nat} (h : ∀ p, p ∈ l → p.size ≤ n) (i : Nat) : (l.getD i ⟨#[]⟩).size ≤ n := by
  by_cases hi : i < l.length
  · rw [List.getD_eq_getElem?_getD, List.getElem?_eq_getElem hi]
    exact h _ (List.getElem_mem hi)
  · rw [List.getD_eq_getElem?_getD, List.getElem?_eq_none (by omega)]
    exact Nat.zero_le _
theorem splitB_size (sep : ByteArray) : ∀ (k : Nat) (s p : ByteArray), p ∈ Lib.splitB sep 0 k s → p.size ≤ s.size
  | 0, s, p, h => by
    rw [Lib.splitB_zero, List.mem_singleton] at h
    rw [h]; exact Nat.le_refl _
  | k + 1, s, p, h => by
    unfold Lib.splitB at h
    split at h
    · rw [List.mem_singleton] at h
      rw [h]; exact Nat.le_refl _
    · rw [List.mem_cons] at h
      rcases h with rfl | h
      · exact ext_size _ _ _
      · exact Nat.le_trans (splitB_size sep k _ p h) (ext_size _ _ _)
set_option maxHeartbeats 400000 in
theorem eqScene_same (ys : List Int) (hl : ys.length = 24) (w : World) :
    Calls Tryd.prog 42 #[.agg (arr .i8 ys), .agg (arr .i8 ys)] w fun e w' => e = .returned (.bool true) ∧ Below w.heap.size w w' := by
  have HL := Lib.hid hl
  clear hl
  go_enter Tryd.func42, Tryd.ntmps42
  go_wp2
  go_loopw [5] (fun i wr => ∃ k : Nat, k ≤ 24 ∧ i = .int .i64 k ∧ wr.heap[w.heap.size]? = some (.cells (arr .i8 ys) 64 (0, 0)) ∧ wr.heap[w.heap.size + 1]? = some (.cells (arr .i8 ys) 64 (0, 0)) ∧ Below w.heap.size w wr) (fun i _ => 24 - (intOf i).toNat)
  case atStart => exact ⟨0, Nat.zero_le _, rfl, al2_0 _ _ _, al2_1 _ _ _, bl2 _ _ _⟩
  case round =>
    obtain ⟨k, hk, rfl, hA, hB, hW⟩ := hrel
    have HA := Lib.hid hA
    have HB := Lib.hid hB
    have HW := Lib.hid hW
    clear hA hB hW
    by_cases hlt : k < 24
    · obtain ⟨x, hxe⟩ : ∃ x, x = ys.getD k 0 := ⟨_, rfl⟩
      have h1 : wr.cell? ⟨w.heap.size, k, none⟩ = some (.int .i8 x) := by rw [hxe]; exact arr_cell HA.out k (by rw [HL.out]; exact hlt)
      have h2 : wr.cell? ⟨w.heap.size + 1, k, none⟩ = some (.int .i8 x) := by rw [hxe]; exact arr_cell HB.out k (by rw [HL.out]; exact hlt)
      have hself : (x != x) = false := by simp
      clear hxe
      go_wp2_with fail
      go_quiet (fail)
      go_wp2
      go_roundw
      case rel => exact ⟨k + 1, by omega, by go_num, by first | exact HA.out | (simp; exact HA.out), by first | exact HB.out | (simp; exact HB.out), by first | exact HW.out | exact bl_drew HW.out | exact bl_drewN HW.out _⟩
      case measure => simp [intOf]; omega
    · have hk24 : k = 24 := by omega
      subst hk24
      go_wp2
      go_ret
      exact ⟨rfl, HW.out⟩

set_option maxHeartbeats 1000000 in
set_option maxRecDepth 100000 in
theorem lawReadScene_c (t : ByteArray) (w : World) (hE : EV w) :
    Calls Tryd.prog 6 #[.string t] w fun e w' => e = .returned (.bool true) ∧ Below w.heap.size w w' := by
  by_cases hz : (t.size : Int) > 1048576
  · go_enter Tryd.func6, Tryd.ntmps6
    go_wp2
    go_ret
    exact ⟨rfl, Below.refl _ _⟩
  have hm : t.size ≤ 1048576 := by omega
  have HE := Lib.hid hE
  have CS := fun w0 => specRS_c t hm (fun y => Nat.le_trans (getD_size (fun p hp => spL_size t 47 p hp) y) hm) w0
  have CI := fun w0 h0 => implRS_c t hm (fun i => Nat.le_trans (getD_size (fun p hp => splitB_size ⟨#[32]⟩ _ _ p hp) i) (by rw [repT_size]; exact hm)) w0 h0
  have HCS := Lib.hid CS
  have HCI := Lib.hid CI
  have HLn : Hid ((rsV t).1.length = 24) := Lib.hid (by
    by_cases h : RdOk t
    · rw [rsV_yes h]; exact rdL_length t
    · rw [rsV_no h]; simp)
  clear CS CI hE
  generalize hR : rsV t = R at *
  obtain ⟨X, c⟩ := R
  clear hR
  have HSz : Hid ((arr .i8 X).size = 24) := Lib.hid (by rw [arr_size]; exact HLn.out)
  go_enter Tryd.func6, Tryd.ntmps6
  go_wp2_with fail
  refine (HCS.out _).mono ?_
  rintro e w1 ⟨rfl, hb1⟩
  have HB1 := Lib.hid hb1
  have E1 := Lib.hid (ev_below hb1 HE.out)
  have K2 := Lib.hid (setRow_heap (w1.alloc (.cells zA 64)) w1.heap.size _ (arr .i8 X) 64 (0, 0) (al1_0 _ _))
  have hb2 : Below w1.heap.size w1 ((w1.alloc (.cells zA 64)).setRow w1.heap.size (arr .i8 X)) := below_setRow (bl1 w1 (.cells zA 64)) (Nat.le_refl _) (arr .i8 X)
  have HB2 := Lib.hid (bt HB1.out hb2)
  have E2 := Lib.hid (ev_below hb2 E1.out)
  clear hb1 hb2 HB1 E1
  go_upto_region 4 with (rw [zA_eq]; refine wpList_store_row rfl 64 (.tmp 3) (.tmp 13) rfl w1.heap.size (arr .i8 X) rfl rfl 64 zA (al1_0 _ _) (by rw [szScene, HSz.out]) (by rw [HSz.out]; rfl) (arr_one _ _) ?_)
  generalize (w1.alloc (.cells zA 64)).setRow w1.heap.size (arr .i8 X) = w2 at *
  generalize w1.heap.size = ga at *
  go_wp2_with fail
  refine (HCI.out _ E2.out).mono ?_
  rintro e w3 ⟨rfl, hb3⟩
  have HB3 := Lib.hid (bt HB2.out hb3)
  have K3 := Lib.hid (heap_below hb3 (lt_of_heap K2.out) K2.out)
  have J4 := Lib.hid (setRow_heap (w3.alloc (.cells zA 64)) w3.heap.size _ (arr .i8 X) 64 (0, 0) (al1_0 _ _))
  have hb4 : Below w3.heap.size w3 ((w3.alloc (.cells zA 64)).setRow w3.heap.size (arr .i8 X)) := below_setRow (bl1 w3 (.cells zA 64)) (Nat.le_refl _) (arr .i8 X)
  have HB4 := Lib.hid (bt HB3.out hb4)
  have K4 := Lib.hid (heap_below hb4 (lt_of_heap K3.out) K3.out)
  clear hb3 hb4 HB2 E2 K2 HB3 K3
  go_upto_region 5 with (rw [zA_eq]; refine wpList_store_row rfl 64 (.tmp 5) (.tmp 18) rfl w3.heap.size (arr .i8 X) rfl rfl 64 zA (al1_0 _ _) (by rw [szScene, HSz.out]) (by rw [HSz.out]; rfl) (arr_one _ _) ?_)
  generalize (w3.alloc (.cells zA 64)).setRow w3.heap.size (arr .i8 X) = w4 at *
  generalize w3.heap.size = gb at *
  have e2 : (c != c) = false := by simp
  go_wp2_with (first
    | (refine wpList_load_row rfl 64 (.tmp 5) rfl gb rfl _ _ _ _ J4.out Tryd.underlying64 rfl (by rw [szScene, HSz.out]) ?_)
    | (refine wpList_load_row rfl 64 (.tmp 3) rfl ga rfl _ _ _ _ K4.out Tryd.underlying64 rfl (by rw [szScene, HSz.out]) ?_)
    | (go_at_call 42; refine (eqScene_same X HLn.out _).mono ?_; rintro e9 w9 ⟨rfl, hb9⟩; have HB9 := Lib.hid (bt HB4.out hb9); clear hb9))
  go_ret
  exact ⟨rfl, HB9.out⟩
end Go.Proofs.YtdmlefccajaniaaDoor
