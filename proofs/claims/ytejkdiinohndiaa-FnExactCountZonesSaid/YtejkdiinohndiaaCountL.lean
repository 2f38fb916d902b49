/- CountZones: the law. -/
import Derived.Test.YtejkdiinohndiaaCount
import Derived.Test.YtejkdiinohndiaaStoreArr
import Derived.Test.YtejkdiinohndiaaLawPl
namespace Go.Proofs.Ytejkdiinohndiaa
open Go.RowKit
theorem z11e : (#[.int .i64 0, .int .i64 0, .int .i64 0, .int .i64 0, .int .i64 0, .int .i64 0, .int .i64 0, .int .i64 0, .int .i64 0, .int .i64 0, .int .i64 0] : Array Value).size = 11 := rfl
set_option maxHeartbeats 400000 in
theorem eqA11_same (ys : List Int) (hl : ys.length = 11) (w : World) :
    Calls Try.prog 67 #[.agg (arr .i64 ys), .agg (arr .i64 ys)] w fun e w' => e = .returned (.bool true) ∧ Below w.heap.size w w' := by
  have HL := Lib.hid hl
  clear hl
  go_enter Try.func67, Try.ntmps67
  go_wp2
  go_loopw [5] (fun i wr => ∃ k : Nat, k ≤ 11 ∧ i = .int .i64 k ∧ wr.heap[w.heap.size]? = some (.cells (arr .i64 ys) 70 (0, 0)) ∧ wr.heap[w.heap.size + 1]? = some (.cells (arr .i64 ys) 70 (0, 0)) ∧ Below w.heap.size w wr) (fun i _ => 11 - (intOf i).toNat)
  case atStart => exact ⟨0, Nat.zero_le _, rfl, al2_0 _ _ _, al2_1 _ _ _, bl2 _ _ _⟩
  case round =>
    obtain ⟨k, hk, rfl, hA, hB, hW⟩ := hrel
    have HA := Lib.hid hA
    have HB := Lib.hid hB
    have HW := Lib.hid hW
    clear hA hB hW
    by_cases hlt : k < 11
    · obtain ⟨x, hxe⟩ : ∃ x, x = ys.getD k 0 := ⟨_, rfl⟩
      have h1 : wr.cell? ⟨w.heap.size, k, none⟩ = some (.int .i64 x) := by rw [hxe]; exact arr_cell HA.out k (by rw [HL.out]; exact hlt)
      have h2 : wr.cell? ⟨w.heap.size + 1, k, none⟩ = some (.int .i64 x) := by rw [hxe]; exact arr_cell HB.out k (by rw [HL.out]; exact hlt)
      have hself : (x != x) = false := by simp
      clear hxe
      go_wp2_with fail
      go_quiet (fail)
      go_wp2
      go_roundw
      case rel => exact ⟨k + 1, by omega, by go_num, by first | exact HA.out | (simp; exact HA.out), by first | exact HB.out | (simp; exact HB.out), by first | exact HW.out | exact bl_drew HW.out | exact bl_drewN HW.out _⟩
      case measure => simp [intOf]; omega
    · have hk24 : k = 11 := by omega
      subst hk24
      go_wp2
      go_ret
      exact ⟨rfl, HW.out⟩
set_option maxHeartbeats 2000000 in
set_option maxRecDepth 100000 in
set_option linter.unusedVariables false in
theorem lawCountZones_c (xs : List Int) (hl : xs.length = 24) (hx : I8 xs) (r z : Int) (hr : -128 ≤ r ∧ r ≤ 127) (hz : -128 ≤ z ∧ z ≤ 127) (w : World) :
    Calls Try.prog 20 #[.agg (arr .i8 xs), .agg #[.int .i8 r, .int .i8 z]] w fun e w' => e = .returned (.bool true) ∧ Below w.heap.size w w' := by
  have hs : Sc xs := ⟨hl, hx⟩
  have hu := Try.underlying34
  have hi : (Try.prog.info? 34).map (·.size) = some (xs.map (Value.int .i8)).length := by rw [szA24, List.length_map, hl]
  have hn : (xs.map (Value.int .i8)).length = 24 := by rw [List.length_map, hl]
  have hp0 : 0 < (xs.map (Value.int .i8)).length := by omega
  have h1c : ∀ v ∈ xs.map (Value.int .i8), v.oneCell' = true := by intro v hv; obtain ⟨z, _, rfl⟩ := List.mem_map.1 hv; rfl
  obtain ⟨ys, n1, n2, k, hv⟩ : ∃ ys n1 n2 k, czV xs r z = (ys, n1, n2, k) := ⟨_, _, _, _, rfl⟩
  have hly : ys.length = 11 := by
    have : ys = (czV xs r z).1 := by rw [hv]
    rw [this]; unfold czV; split
    · exact czL_len xs r z 24
    · simp
  have HV : Hid (czV xs r z = (ys, n1, n2, k)) := Lib.hid hv
  have hiy : (Try.prog.info? 70).map (·.size) = some (ys.map (Value.int .i64)).length := by rw [szI11, List.length_map, hly]
  have hny : (ys.map (Value.int .i64)).length = 11 := by rw [List.length_map, hly]
  have h1y : ∀ v ∈ ys.map (Value.int .i64), v.oneCell' = true := by intro v hv; obtain ⟨z, _, rfl⟩ := List.mem_map.1 hv; rfl
  have hu11 := Try.underlying70
  have B0 := Lib.hid (al2_0 w (.cells (arr .i8 xs) 34) (.cells #[.int .i8 r, .int .i8 z] 29))
  have B1 := Lib.hid (al2_1 w (.cells (arr .i8 xs) 34) (.cells #[.int .i8 r, .int .i8 z] 29))
  have L := Lib.hid (bl2 w (.cells (arr .i8 xs) 34) (.cells #[.int .i8 r, .int .i8 z] 29))
  clear hv hl hx
  go_enter Try.func20, Try.ntmps20
  go_upto_region 1 with fail
  generalize ((w.alloc (.cells (arr .i8 xs) 34)).alloc (.cells #[.int .i8 r, .int .i8 z] 29)) = w1 at *
  have K : Hid (∀ w', Below w1.heap.size w1 w' → (Below w1.heap.size w1 w' ∧ w'.rangeAt w.heap.size 0 (xs.map (Value.int .i8)) ∧ (w'.cell? ⟨w.heap.size + 1, 0, none⟩ = some (.int .i8 r) ∧ w'.cell? ⟨w.heap.size + 1, 1, none⟩ = some (.int .i8 z)))) := Lib.hid fun w' hb => by
    have b0 := heap_below hb (lt_of_heap B0.out) B0.out
    have b1 := heap_below hb (lt_of_heap B1.out) B1.out
    exact ⟨hb, (startS hb b0 b1).2.1, bk2_0 b1, bk2_1 b1⟩
  go_cut [5, 6, 7, 8] (fun s7 sa sb s8 wx => ∃ g : Nat, s7 = .pointer (some ⟨g, 0, none⟩) ∧ sa = .int .i64 (n1 : Nat) ∧ sb = .int .i64 (n2 : Nat) ∧ s8 = .int .i64 k ∧ wx.heap[g]? = some (.cells (ys.map (Value.int .i64)).toArray 70 (0, 0)) ∧ Below w1.heap.size w1 wx)
  case first =>
    have TH : ∀ v : World, (v.alloc (.cells #[.int .i64 0, .int .i64 0, .int .i64 0, .int .i64 0, .int .i64 0, .int .i64 0, .int .i64 0, .int .i64 0, .int .i64 0, .int .i64 0, .int .i64 0] 70)).there v.heap.size 0 11 := fun v => there_of (al1_0 v _) 11 z11e
    have s0 := K.out _ (Below.refl _ _)
    go_region_held3 (fun w' => Below w1.heap.size w1 w' ∧ w'.rangeAt w.heap.size 0 (xs.map (Value.int .i8)) ∧ (w'.cell? ⟨w.heap.size + 1, 0, none⟩ = some (.int .i8 r) ∧ w'.cell? ⟨w.heap.size + 1, 1, none⟩ = some (.int .i8 z)))
      (first | (with_reducible assumption) | exact K.out _ (bl_drew (Below.refl _ _)) | exact K.out _ (bl_drew (bal (Below.refl _ _) _)) | exact K.out _ (bal (‹Below w1.heap.size w1 _ ∧ _›).1 _) | exact K.out _ (bsa (‹Below w1.heap.size w1 _ ∧ _›).1 (Below.refl _ _) _) | exact K.out _ (bsa (‹Below w1.heap.size w1 _ ∧ _›).1 (‹Below w1.heap.size w1 _ ∧ _›).1 _) | exact K.out _ (bsa (bal (‹Below w1.heap.size w1 _ ∧ _›).1 _) (‹Below w1.heap.size w1 _ ∧ _›).1 _))
      (first
        | (go_at_call 33; refine (toScene_c xs hs _).mono ?_; rintro e w9 ⟨rfl, hb9⟩; have s9 := K.out _ (bt (‹Below w1.heap.size w1 _ ∧ _›).1 hb9); (try have n9 := heap_below hb9 (lt_of_heap n9) n9); (try have n9 := heap_below hb9 (by simp) (al1_0 _ _)))
        | (go_at_call 30; refine (toPlacement_c r z _).mono ?_; rintro e w9 ⟨rfl, hb9⟩; have s9 := K.out _ (bt (‹Below w1.heap.size w1 _ ∧ _›).1 hb9); (try have n9 := heap_below hb9 (lt_of_heap n9) n9); (try have n9 := heap_below hb9 (by simp) (al1_0 _ _)))
        | (go_at_call 65; refine (specCountZones_c xs hs r z hr hz _).mono ?_; rintro e w9 ⟨rfl, hb9⟩; rw [HV.out]; have s9 := K.out _ (bt (‹Below w1.heap.size w1 _ ∧ _›).1 hb9); (try have n9 := heap_below hb9 (lt_of_heap n9) n9); (try have n9 := heap_below hb9 (by simp) (al1_0 _ _)); (try have t9 := there_of n9 11 z11e)))
    all_goals (go_wp2_with fail; go_meet)
    all_goals with_reducible (first | exact ⟨_, rfl, rfl, rfl, rfl, new_store _ (hny.trans z11e.symm), bsa (bal (‹Below w1.heap.size w1 _ ∧ _›).1 _) (‹Below w1.heap.size w1 _ ∧ _›).1 _⟩ | exact ⟨_, rfl, rfl, rfl, rfl, setCells_heap _ (by assumption) (hny.trans z11e.symm), bsa (‹Below w1.heap.size w1 _ ∧ _›).1 (‹Below w1.heap.size w1 _ ∧ _›).1 _⟩ | exact ⟨_, rfl, rfl, rfl, rfl, setCells_heap _ (by assumption) (hny.trans z11e.symm), bsa (‹Below w1.heap.size w1 _ ∧ _›).1 (Below.refl _ _) _⟩)
  case rest =>
    obtain ⟨g, rfl, rfl, rfl, rfl, G1, L1⟩ := hcut
    have B0 := Lib.hid (heap_below L1 (lt_of_heap B0.out) B0.out)
    have B1 := Lib.hid (heap_below L1 (lt_of_heap B1.out) B1.out)
    have L := Lib.hid (bt L.out L1)
    have G1 := Lib.hid G1
    clear K L1
    generalize wc = w1 at *
    go_upto_region 2 with fail
    have K : Hid (∀ w', Below w1.heap.size w1 w' → (Below w1.heap.size w1 w' ∧ w'.rangeAt w.heap.size 0 (xs.map (Value.int .i8)) ∧ (w'.cell? ⟨w.heap.size + 1, 0, none⟩ = some (.int .i8 r) ∧ w'.cell? ⟨w.heap.size + 1, 1, none⟩ = some (.int .i8 z)))) := Lib.hid fun w' hb => by
      have b0 := heap_below hb (lt_of_heap B0.out) B0.out
      have b1 := heap_below hb (lt_of_heap B1.out) B1.out
      exact ⟨hb, (startS hb b0 b1).2.1, bk2_0 b1, bk2_1 b1⟩
    go_cut [9, 10, 11, 12] (fun s7 sa sb s8 wx => ∃ g : Nat, s7 = .pointer (some ⟨g, 0, none⟩) ∧ sa = .int .i64 (n1 : Nat) ∧ sb = .int .i64 (n2 : Nat) ∧ s8 = .int .i64 k ∧ wx.heap[g]? = some (.cells (ys.map (Value.int .i64)).toArray 70 (0, 0)) ∧ Below w1.heap.size w1 wx)
    case first =>
      have TH : ∀ v : World, (v.alloc (.cells #[.int .i64 0, .int .i64 0, .int .i64 0, .int .i64 0, .int .i64 0, .int .i64 0, .int .i64 0, .int .i64 0, .int .i64 0, .int .i64 0, .int .i64 0] 70)).there v.heap.size 0 11 := fun v => there_of (al1_0 v _) 11 z11e
      have s0 := K.out _ (Below.refl _ _)
      go_region_held3 (fun w' => Below w1.heap.size w1 w' ∧ w'.rangeAt w.heap.size 0 (xs.map (Value.int .i8)) ∧ (w'.cell? ⟨w.heap.size + 1, 0, none⟩ = some (.int .i8 r) ∧ w'.cell? ⟨w.heap.size + 1, 1, none⟩ = some (.int .i8 z)))
        (first | (with_reducible assumption) | exact K.out _ (bl_drew (Below.refl _ _)) | exact K.out _ (bl_drew (bal (Below.refl _ _) _)) | exact K.out _ (bal (‹Below w1.heap.size w1 _ ∧ _›).1 _) | exact K.out _ (bsa (‹Below w1.heap.size w1 _ ∧ _›).1 (Below.refl _ _) _) | exact K.out _ (bsa (‹Below w1.heap.size w1 _ ∧ _›).1 (‹Below w1.heap.size w1 _ ∧ _›).1 _) | exact K.out _ (bsa (bal (‹Below w1.heap.size w1 _ ∧ _›).1 _) (‹Below w1.heap.size w1 _ ∧ _›).1 _))
        (first
          | (go_at_call 33; refine (toScene_c xs hs _).mono ?_; rintro e w9 ⟨rfl, hb9⟩; have s9 := K.out _ (bt (‹Below w1.heap.size w1 _ ∧ _›).1 hb9); (try have n9 := heap_below hb9 (lt_of_heap n9) n9); (try have n9 := heap_below hb9 (by simp) (al1_0 _ _)))
          | (go_at_call 30; refine (toPlacement_c r z _).mono ?_; rintro e w9 ⟨rfl, hb9⟩; have s9 := K.out _ (bt (‹Below w1.heap.size w1 _ ∧ _›).1 hb9); (try have n9 := heap_below hb9 (lt_of_heap n9) n9); (try have n9 := heap_below hb9 (by simp) (al1_0 _ _)))
          | (go_at_call 66; refine (implCountZones_c xs hs r z hr hz _).mono ?_; rintro e w9 ⟨rfl, hb9⟩; rw [HV.out]; have s9 := K.out _ (bt (‹Below w1.heap.size w1 _ ∧ _›).1 hb9); (try have n9 := heap_below hb9 (lt_of_heap n9) n9); (try have n9 := heap_below hb9 (by simp) (al1_0 _ _)); (try have t9 := there_of n9 11 z11e)))
      all_goals (go_wp2_with fail; go_meet)
      all_goals with_reducible (first | exact ⟨_, rfl, rfl, rfl, rfl, new_store _ (hny.trans z11e.symm), bsa (bal (‹Below w1.heap.size w1 _ ∧ _›).1 _) (‹Below w1.heap.size w1 _ ∧ _›).1 _⟩ | exact ⟨_, rfl, rfl, rfl, rfl, setCells_heap _ (by assumption) (hny.trans z11e.symm), bsa (‹Below w1.heap.size w1 _ ∧ _›).1 (‹Below w1.heap.size w1 _ ∧ _›).1 _⟩ | exact ⟨_, rfl, rfl, rfl, rfl, setCells_heap _ (by assumption) (hny.trans z11e.symm), bsa (‹Below w1.heap.size w1 _ ∧ _›).1 (Below.refl _ _) _⟩)
    case rest =>
      obtain ⟨g2, rfl, rfl, rfl, rfl, G2, L2⟩ := hcut
      have G1 := Lib.hid (heap_below L2 (lt_of_heap G1.out) G1.out)
      have G2 := Lib.hid G2
      have L := Lib.hid (bt L.out L2)
      clear K L2
      go_wp2_with (first
        | (refine wpList_load_row rfl 70 (.tmp 9) rfl _ rfl _ _ _ _ G2.out hu11 rfl (by rw [List.size_toArray]; exact hiy) ?_)
        | (refine wpList_load_row rfl 70 (.tmp 5) rfl _ rfl _ _ _ _ G1.out hu11 rfl (by rw [List.size_toArray]; exact hiy) ?_)
        | (go_at_call 67; refine (eqA11_same ys hly _).mono ?_; rintro e w3 ⟨rfl, hb3⟩; have L := Lib.hid (bt L.out hb3)))
      go_ret
      exact ⟨rfl, L.out⟩
end Go.Proofs.Ytejkdiinohndiaa
