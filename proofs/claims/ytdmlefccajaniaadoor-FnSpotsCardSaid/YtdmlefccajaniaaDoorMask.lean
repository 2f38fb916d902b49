/- A mask as text: the program's and the reference's. -/
import Derived.Test.YtdmlefccajaniaaDoorRow
import Derived.Test.YtdmlefccajaniaaDoorBits
import Derived.Laws.IdiomStrings
import Derived.Deep.MidRow
namespace Go.Proofs.YtdmlefccajaniaaDoor
open Go.RowKit
/-- The bytes of the first k cells. -/
def mtB (m : Nat) : Nat → List Int
  | 0 => []
  | k + 1 => (mtB m k ++ [if m.testBit k then 35 else 46]) ++ (if k % 8 = 7 then [10] else [])
theorem mtB_len (m k : Nat) : (mtB m k).length ≤ 2 * k := by
  induction k with
  | zero => simp [mtB]
  | succ k ih =>
    simp only [mtB]
    by_cases h : k % 8 = 7
    · simp [h]; omega
    · simp [h]; omega
theorem bit_of (m k : Nat) (hm : m < 2 ^ 64) : bits .and .u64 ((m : Int) / 2 ^ k) 1 = (if m.testBit k then 1 else 0) := by
  have e : ((m : Int) / 2 ^ k) = ((m / 2 ^ k : Nat) : Int) := by simp
  rw [e, show (1 : Int) = ((1 : Nat) : Int) from rfl, and64 _ 1 (Nat.lt_of_le_of_lt (Nat.div_le_self _ _) hm) (by decide), Nat.and_one_is_mod]
  rw [Nat.testBit_eq_decide_div_mod_eq]
  rcases Nat.mod_two_eq_zero_or_one (m / 2 ^ k) with h | h <;> simp [h]
theorem info_u8 : (Tryd.prog.info? 5).map (fun i => (i.zero, i.size, i.bytes)) = some (some (.int .u8 0), 1, 1) := by kernel_rfl
def mtS (m : Nat) : ByteArray := (mtB m 64).foldl (fun r n => r.push (UInt8.ofNat n.toNat)) ByteArray.empty
theorem mtB_ne (m : Nat) : mtB m 64 ≠ [] := by rw [mtB]; simp
theorem mt_conv (m g cap : Nat) (w : World) (hc : ∀ i, i < (mtB m 64).length → w.cell? ⟨g, i, none⟩ = some (.int .u8 ((mtB m 64).getD i 0))) :
    (convert 22 9 (.slice (some ⟨g, 0, none⟩) (mtB m 64).length cap)).run Tryd.prog w = .ok (.string (mtS m)) w := by
  rw [run_convert_bytes_string w _ _ 5 _ _ _ Tryd.underlying22 Tryd.underlying5 Tryd.underlying9]
  have hl := run_loadCells_list (P := Tryd.prog) (w := w) ⟨g, 0, none⟩ ((mtB m 64).map (Value.int .u8)) (fun j v hj => by
    have hj' : j < (mtB m 64).length := by have := (List.getElem?_eq_some_iff.1 hj).1; simpa using this
    have := hc j hj'
    rw [Addr.add_mid, Nat.zero_add, this]
    simp [List.getElem?_eq_getElem hj'] at hj
    rw [← hj]; simp [List.getD_eq_getElem?_getD, hj'])
  simp only [List.length_map] at hl
  exact run_bytesToString w _ _ _ _ hl
theorem has_c (m k : Nat) (hm : m < 2 ^ 64) (hk : k < 64) (w : World) :
    Calls Tryd.prog 45 #[.int .u64 m, .int .i64 k] w fun e w' => e = .returned (.bool (m.testBit k)) ∧ w = w' := by
  have HB := Lib.hid (bit_of m k hm)
  go_enter Tryd.func45, Tryd.ntmps45
  go_wp2
  go_ret
  refine ⟨?_, rfl⟩
  rw [HB.out]
  cases m.testBit k <;> rfl
set_option maxHeartbeats 1000000 in
set_option maxRecDepth 100000 in
theorem implMaskText_c (m : Nat) (hm : m < 2 ^ 64) (w : World) :
    Calls Tryd.prog 10 #[.int .u64 m] w fun e w' => e = .returned (.string (mtS m)) ∧ Below w.heap.size w w' := by
  go_enter Tryd.func10, Tryd.ntmps10
  go_wp2
  go_loopw [3, 6] (fun v i wr => ∃ k : Nat, k ≤ 64 ∧ i = .int .i64 k ∧ Row wr w.heap.size 5 .u8 v (mtB m k) ∧ Below w.heap.size w wr) (fun _ i _ => 64 - (intOf i).toNat)
  case atStart => exact ⟨0, by omega, rfl, row_new _ _ _ _ (Nat.le_refl _), bl1 _ _⟩
  case round =>
    obtain ⟨k, hk, rfl, hR, hW⟩ := hrel
    have HR := Lib.hid hR
    have HW := Lib.hid hW
    clear hR hW
    by_cases hlt : k < 64
    · have hsz := HW.out.size
      cases hb : m.testBit k
      · have hB : bits .and .u64 ((m : Int) / 2 ^ k) 1 = 0 := by rw [bit_of m k hm, hb]; rfl
        have HT := Lib.hid hb
        clear hb
        by_cases h7 : k % 8 = 7
        · have H7 := Lib.hid h7
          have ht1 : (k : Int).tmod 8 = 7 := by rw [Int.tmod_eq_emod_of_nonneg (by omega)]; omega
          have ht2 : (k : Int) % 8 = 7 := by omega
          clear h7
          go_wp2_with (first | (go_at_call 45; refine (has_c m k hm hlt _).mono ?_; rintro e w' ⟨rfl, rfl⟩; rw [HT.out]) | (at_builtin; refine wpList_app rfl (.tmp 15) (.tmp 16) 22 rfl w.heap.size 5 .u8 1 Tryd.underlying22 info_u8 (by decide) _ _ rfl (row_alloc HR.out _) wr.heap.size 1 46 rfl (by simp) (by have := mtB_len m k; simp; omega) (by simp; have := HW.out.size; omega) ?_; intro v1 w1 hrow hgr hbk; have HW3 := Lib.hid (below_app (HW.out.alloc HW.out.size _) hgr (Nat.le_refl _) hbk); have HR3 := Lib.hid hrow; clear hrow hgr hbk) | (at_builtin; refine wpList_app rfl (.tmp 21) (.tmp 22) 22 rfl w.heap.size 5 .u8 1 Tryd.underlying22 info_u8 (by decide) _ _ rfl (row_alloc HR3.out _) w1.heap.size 1 10 rfl (by simp) (by have := mtB_len m k; simp; omega) (by simp; have := HW3.out.size; omega) ?_; intro v2 w2 hrow hgr hbk; have HW4 := Lib.hid (below_app (HW3.out.alloc HW3.out.size _) hgr (Nat.le_refl _) hbk); have HR4 := Lib.hid hrow; clear hrow hgr hbk))
          go_roundw
          case rel => exact ⟨k + 1, by omega, by go_num, by simp only [mtB, HT.out, H7.out, if_true]; exact HR4.out, HW4.out⟩
          case measure => simp [intOf]; omega
        · have H7 := Lib.hid h7
          have hd : ((k : Int).tmod 8 == 7) = false := by rw [Int.tmod_eq_emod_of_nonneg (by omega)]; simp; omega
          have hd2 : ((k : Int) % 8 == 7) = false := by simp; omega
          clear h7
          go_wp2_with (first | (go_at_call 45; refine (has_c m k hm hlt _).mono ?_; rintro e w' ⟨rfl, rfl⟩; rw [HT.out]) | (at_builtin; refine wpList_app rfl (.tmp 15) (.tmp 16) 22 rfl w.heap.size 5 .u8 1 Tryd.underlying22 info_u8 (by decide) _ _ rfl (row_alloc HR.out _) wr.heap.size 1 46 rfl (by simp) (by have := mtB_len m k; simp; omega) (by simp; have := HW.out.size; omega) ?_; intro v1 w1 hrow hgr hbk; have HW3 := Lib.hid (below_app (HW.out.alloc HW.out.size _) hgr (Nat.le_refl _) hbk); have HR3 := Lib.hid hrow; clear hrow hgr hbk))
          go_roundw
          case rel => exact ⟨k + 1, by omega, by go_num, by simp only [mtB, HT.out, H7.out, if_false, List.append_nil]; exact HR3.out, HW3.out⟩
          case measure => simp [intOf]; omega
      · have hB : bits .and .u64 ((m : Int) / 2 ^ k) 1 = 1 := by rw [bit_of m k hm, hb]; rfl
        have HT := Lib.hid hb
        clear hb
        by_cases h7 : k % 8 = 7
        · have H7 := Lib.hid h7
          have ht1 : (k : Int).tmod 8 = 7 := by rw [Int.tmod_eq_emod_of_nonneg (by omega)]; omega
          have ht2 : (k : Int) % 8 = 7 := by omega
          clear h7
          go_wp2_with (first | (go_at_call 45; refine (has_c m k hm hlt _).mono ?_; rintro e w' ⟨rfl, rfl⟩; rw [HT.out]) | (at_builtin; refine wpList_app rfl (.tmp 12) (.tmp 13) 22 rfl w.heap.size 5 .u8 1 Tryd.underlying22 info_u8 (by decide) _ _ rfl (row_alloc HR.out _) wr.heap.size 1 35 rfl (by simp) (by have := mtB_len m k; simp; omega) (by simp; have := HW.out.size; omega) ?_; intro v1 w1 hrow hgr hbk; have HW3 := Lib.hid (below_app (HW.out.alloc HW.out.size _) hgr (Nat.le_refl _) hbk); have HR3 := Lib.hid hrow; clear hrow hgr hbk) | (at_builtin; refine wpList_app rfl (.tmp 21) (.tmp 22) 22 rfl w.heap.size 5 .u8 1 Tryd.underlying22 info_u8 (by decide) _ _ rfl (row_alloc HR3.out _) w1.heap.size 1 10 rfl (by simp) (by have := mtB_len m k; simp; omega) (by simp; have := HW3.out.size; omega) ?_; intro v2 w2 hrow hgr hbk; have HW4 := Lib.hid (below_app (HW3.out.alloc HW3.out.size _) hgr (Nat.le_refl _) hbk); have HR4 := Lib.hid hrow; clear hrow hgr hbk))
          go_roundw
          case rel => exact ⟨k + 1, by omega, by go_num, by simp only [mtB, HT.out, H7.out, if_true]; exact HR4.out, HW4.out⟩
          case measure => simp [intOf]; omega
        · have H7 := Lib.hid h7
          have hd : ((k : Int).tmod 8 == 7) = false := by rw [Int.tmod_eq_emod_of_nonneg (by omega)]; simp; omega
          have hd2 : ((k : Int) % 8 == 7) = false := by simp; omega
          clear h7
          go_wp2_with (first | (go_at_call 45; refine (has_c m k hm hlt _).mono ?_; rintro e w' ⟨rfl, rfl⟩; rw [HT.out]) | (at_builtin; refine wpList_app rfl (.tmp 12) (.tmp 13) 22 rfl w.heap.size 5 .u8 1 Tryd.underlying22 info_u8 (by decide) _ _ rfl (row_alloc HR.out _) wr.heap.size 1 35 rfl (by simp) (by have := mtB_len m k; simp; omega) (by simp; have := HW.out.size; omega) ?_; intro v1 w1 hrow hgr hbk; have HW3 := Lib.hid (below_app (HW.out.alloc HW.out.size _) hgr (Nat.le_refl _) hbk); have HR3 := Lib.hid hrow; clear hrow hgr hbk))
          go_roundw
          case rel => exact ⟨k + 1, by omega, by go_num, by simp only [mtB, HT.out, H7.out, if_false, List.append_nil]; exact HR3.out, HW3.out⟩
          case measure => simp [intOf]; omega
    · have hk64 : k = 64 := by omega
      subst hk64
      obtain ⟨g, cap, rfl, _, _, _, _, hc⟩ := row_shape HR.out (mtB_ne m)
      have hcv := mt_conv m g cap wr hc
      clear hc HR
      go_wp2
      go_ret
      exact ⟨rfl, HW.out⟩
end Go.Proofs.YtdmlefccajaniaaDoor
