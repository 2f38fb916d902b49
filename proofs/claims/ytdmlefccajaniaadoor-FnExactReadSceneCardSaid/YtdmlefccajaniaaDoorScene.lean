/- Scenes: 24 readings: valid or not. -/
import Derived.Test.YtdmlefccajaniaaDoorInts
namespace Go.Proofs.YtdmlefccajaniaaDoor
open Go.RowKit
theorem szScene : (Tryd.prog.info? 64).map (·.size) = some 24 := by kernel_rfl
theorem szA24 : (Tryd.prog.info? 62).map (·.size) = some 24 := by kernel_rfl
/-- 24 numbers of eight bits. -/
def Sc (xs : List Int) : Prop := xs.length = 24 ∧ I8 xs
def okS (xs : List Int) : Bool := xs.all rdB
theorem okS_take (xs : List Int) (k : Nat) (h : k < xs.length) : okS (xs.take (k + 1)) = (okS (xs.take k) && rdB (xs.getD k 0)) := by
  unfold okS
  rw [take_snoc xs k h, List.all_append]; simp
theorem okS_bad (xs : List Int) (k : Nat) (h : k < xs.length) (hb : rdB (xs.getD k 0) = false) : okS xs = false := by
  unfold okS
  rw [List.all_eq_false]
  refine ⟨xs[k], List.getElem_mem h, ?_⟩
  rw [List.getD_eq_getElem?_getD, List.getElem?_eq_getElem h] at hb
  simpa using hb
theorem okS_get {xs : List Int} (h : okS xs = true) (i : Nat) : 0 ≤ xs.getD i 0 ∧ xs.getD i 0 ≤ 60 := by
  by_cases hi : i < xs.length
  · have := List.all_eq_true.1 h _ (List.getElem_mem hi)
    rw [List.getD_eq_getElem?_getD, List.getElem?_eq_getElem hi]
    exact (rdB_iff _).1 this
  · rw [List.getD_eq_getElem?_getD, List.getElem?_eq_none (by omega)]; simp
theorem okS_full {xs : List Int} (k : Nat) (h : xs.length = 24) (hk : ¬ k < 24) (ht : okS (xs.take k) = true) : okS xs = true := by
  rwa [List.take_of_length_le (by omega)] at ht
set_option maxHeartbeats 400000 in
theorem toScene_c (xs : List Int) (hs : Sc xs) (w : World) :
    Calls Tryd.prog 38 #[.agg (arr .i8 xs)] w fun e w' => e = .returned (.agg (arr .i8 xs)) ∧ Below w.heap.size w w' := by
  have HL := Lib.hid hs.1
  go_enter Tryd.func38, Tryd.ntmps38
  go_wp2
  go_loopw [4] (fun i wr => ∃ k : Nat, k ≤ 24 ∧ i = .int .i64 k ∧ wr.heap[w.heap.size]? = some (.cells (arr .i8 xs) 62 (0, 0)) ∧ wr.heap[w.heap.size + 1]? = some (.cells (arr .i8 (List.replicate 24 0)) 64 (0, 0)) ∧
      wr.heap[w.heap.size + 1 + 1]? = some (.cells (arr .i8 (xs.take k ++ List.replicate (24 - k) 0)) 64 (0, 0)) ∧ Below w.heap.size w wr) (fun i _ => 24 - (intOf i).toNat)
  case atStart => exact ⟨0, Nat.zero_le _, rfl, al3_0 _ _ _ _, al3_1 _ _ _ _, al3_2 _ _ _ _, bl3 _ _ _ _⟩
  case round =>
    obtain ⟨k, hk, rfl, hA, hB, hC, hW⟩ := hrel
    have HA := Lib.hid hA
    have HB := Lib.hid hB
    have HC := Lib.hid hC
    have HW := Lib.hid hW
    clear hA hB hC hW
    by_cases hlt : k < 24
    · obtain ⟨x, hxe⟩ : ∃ x, x = xs.getD k 0 := ⟨_, rfl⟩
      have hcell : wr.cell? ⟨w.heap.size, k, none⟩ = some (.int .i8 x) := by rw [hxe]; exact arr_cell HA.out k (by rw [HL.out]; exact hlt)
      have hcell2 := arr_cell HC.out k (by simp [HL.out]; omega)
      have hfr : wr.frozen? ⟨w.heap.size + 1 + 1, k, none⟩ = false := frozen_of_row _ _ _ _ _ HC.out
      have HE := Lib.hid hxe
      clear hxe
      go_wp2
      go_roundw
      case rel =>
        exact ⟨k + 1, by omega, by go_num, heap_far _ (by simp; omega) HA.out, heap_far _ (by simp) HB.out, by rw [arr_store HC.out, HE.out, set_step _ _ _ HL.out hlt], HW.out.setCell (by simp; omega) _⟩
      case measure => simp [intOf]; omega
    · have hk24 : k = 24 := by omega
      subst hk24
      have HC2 : Hid (wr.heap[w.heap.size + 1 + 1]? = some (.cells (arr .i8 xs) 64 (0, 0))) := Lib.hid (by
        have := HC.out
        rwa [List.take_of_length_le (by rw [HL.out]; omega), Nat.sub_self, List.replicate_zero, List.append_nil] at this)
      go_wp2_with (first
        | (refine wpList_load_row rfl 64 (.tmp 3) rfl _ rfl _ _ _ _ HC2.out Tryd.underlying64 rfl (by rw [szScene, arr_size, HL.out]) ?_)
        | (refine wpList_store_row rfl 64 (.tmp 2) (.tmp 14) rfl _ _ rfl rfl _ _ HB.out (by rw [szScene, arr_size, HL.out]) (by rw [arr_size, arr_size, HL.out]; rfl) (arr_one _ _) ?_))
      exact bodyPost_ret (results_cell_row rfl _ _ _ _ _ _ _ rfl (setRow_heap _ _ _ _ _ _ HB.out) Tryd.underlying64 rfl (by rw [szScene, arr_size, HL.out])) rfl ⟨rfl, below_setRow HW.out (by omega) _⟩
set_option maxHeartbeats 400000 in
theorem l06Ok_c (xs : List Int) (hs : Sc xs) (g : Nat) (t : TypeId) (w : World) (hb : w.heap[g]? = some (.cells (arr .i8 xs) t (0, 0))) :
    Calls Tryd.prog 71 #[.pointer (some ⟨g, 0, none⟩)] w fun e w' => e = .returned (.bool (okS xs)) ∧ w = w' := by
  have HL := Lib.hid hs.1
  have HB := Lib.hid hb
  clear hb
  go_enter Tryd.func71, Tryd.ntmps71
  go_wp2
  go_loop [3] (fun i => ∃ k : Nat, k ≤ 24 ∧ i = .int .i64 k ∧ okS (xs.take k) = true) (fun i => 24 - (intOf i).toNat)
  case atStart => exact ⟨0, Nat.zero_le _, rfl, rfl⟩
  case round =>
    obtain ⟨k, hk, rfl, hok⟩ := hrel
    have HK := Lib.hid hok
    clear hok
    by_cases hlt : k < 24
    · obtain ⟨x, hxe⟩ : ∃ x, x = xs.getD k 0 := ⟨_, rfl⟩
      have hcell : w.cell? ⟨g, k, none⟩ = some (.int .i8 x) := by rw [hxe]; exact arr_cell HB.out k (by rw [HL.out]; exact hlt)
      have hx1 : -128 ≤ x := by rw [hxe]; exact (hs.2 k).1
      have hx2 : x ≤ 127 := by rw [hxe]; exact (hs.2 k).2
      have HE := Lib.hid hxe
      clear hxe
      cases hr : rdB x
      · have HR := Lib.hid hr
        clear hr
        go_wp2_with (go_at_call 77; refine (l06Reading_c _ _).mono ?_; rintro e w' ⟨rfl, rfl⟩; rw [HR.out])
        go_ret
        exact ⟨ret_bool (okS_bad xs k (by rw [HL.out]; exact hlt) (by rw [← HE.out, HR.out])).symm, rfl⟩
      · have HR := Lib.hid hr
        clear hr
        go_wp2_with (go_at_call 77; refine (l06Reading_c _ _).mono ?_; rintro e w' ⟨rfl, rfl⟩; rw [HR.out])
        go_round
        case rel => exact ⟨k + 1, by omega, by go_num, by rw [okS_take _ _ (by rw [HL.out]; exact hlt), HK.out, ← HE.out, HR.out]; rfl⟩
        case measure => simp [intOf]; omega
    · go_wp2
      go_ret
      exact ⟨ret_bool (okS_full k HL.out hlt HK.out).symm, rfl⟩
theorem validFn_c (n : Int) (hn : -128 ≤ n ∧ n ≤ 127) (w : World) :
    Calls Tryd.prog 96 #[.int .i8 n] w fun e w' => e = .returned (.bool (!rdB n)) ∧ w = w' := by
  obtain ⟨h1, h2⟩ := hn
  go_enter Tryd.func96, Tryd.ntmps96
  go_wp2_with (go_at_call 97; refine (isReading_c _ _).mono ?_; rintro e w' ⟨rfl, rfl⟩)
  go_ret
  exact ⟨rfl, rfl⟩
/-- A place of a number that is no reading, or -1. -/
def BadAt (xs : List Int) (e : Ending) : Prop := ∃ v : Int, e = .returned (.int .i64 v) ∧ decide (0 ≤ v) = !okS xs
set_option maxHeartbeats 400000 in
theorem indexFunc8_c (xs : List Int) (hs : Sc xs) (g : Nat) (t : TypeId) (w : World) (hb : w.heap[g]? = some (.cells (arr .i8 xs) t (0, 0))) :
    Calls Tryd.prog 111 #[.slice (some ⟨g, 0, none⟩) 24 24, .func (.func 96) #[] #[]] w fun e w' => BadAt xs e ∧ w = w' := by
  have HL := Lib.hid hs.1
  have HB := Lib.hid hb
  clear hb
  go_enter Tryd.func111, Tryd.ntmps111
  go_wp2
  go_loop [8] (fun i => ∃ k : Nat, k ≤ 24 ∧ i = .int .i64 k ∧ okS (xs.take k) = true) (fun i => 24 - (intOf i).toNat)
  case atStart => exact ⟨0, Nat.zero_le _, rfl, rfl⟩
  case round =>
    obtain ⟨k, hk, rfl, hok⟩ := hrel
    have HK := Lib.hid hok
    clear hok
    by_cases hlt : k < 24
    · obtain ⟨x, hxe⟩ : ∃ x, x = xs.getD k 0 := ⟨_, rfl⟩
      have hcell : w.cell? ⟨g, k, none⟩ = some (.int .i8 x) := by rw [hxe]; exact arr_cell HB.out k (by rw [HL.out]; exact hlt)
      have hx : -128 ≤ x ∧ x ≤ 127 := by rw [hxe]; exact hs.2 k
      have HE := Lib.hid hxe
      clear hxe
      cases hr : rdB x
      · have HR := Lib.hid hr
        clear hr
        go_wp2_with (go_at_call 96; refine (validFn_c _ hx _).mono ?_; rintro e w' ⟨rfl, rfl⟩; rw [HR.out])
        go_ret
        exact ⟨⟨_, rfl, by rw [okS_bad xs k (by rw [HL.out]; exact hlt) (by rw [← HE.out, HR.out])]; simp⟩, rfl⟩
      · have HR := Lib.hid hr
        clear hr
        go_wp2_with (go_at_call 96; refine (validFn_c _ hx _).mono ?_; rintro e w' ⟨rfl, rfl⟩; rw [HR.out])
        go_round
        case rel => exact ⟨k + 1, by omega, by go_num, by rw [okS_take _ _ (by rw [HL.out]; exact hlt), HK.out, ← HE.out, HR.out]; rfl⟩
        case measure => simp [intOf]; omega
    · go_wp2
      go_ret
      exact ⟨⟨_, rfl, by rw [okS_full k HL.out hlt HK.out]; rfl⟩, rfl⟩
theorem containsFunc8_c (xs : List Int) (hs : Sc xs) (g : Nat) (t : TypeId) (w : World) (hb : w.heap[g]? = some (.cells (arr .i8 xs) t (0, 0))) :
    Calls Tryd.prog 95 #[.slice (some ⟨g, 0, none⟩) 24 24, .func (.func 96) #[] #[]] w fun e w' => e = .returned (.bool (!okS xs)) ∧ w = w' := by
  have HB := Lib.hid hb
  clear hb
  go_enter Tryd.func95, Tryd.ntmps95
  go_wp2_with fail
  refine (indexFunc8_c xs hs g t _ HB.out).mono ?_
  rintro e w' ⟨⟨v, rfl, hv⟩, rfl⟩
  have HV := Lib.hid hv
  clear hv
  go_wp2
  go_ret
  exact ⟨ret_bool HV.out, rfl⟩
theorem implValidScene_c (xs : List Int) (hs : Sc xs) (w : World) :
    Calls Tryd.prog 73 #[.agg (arr .i8 xs)] w fun e w' => e = .returned (.bool (okS xs)) ∧ Below w.heap.size w w' := by
  go_enter Tryd.func73, Tryd.ntmps73
  go_wp2_with fail
  refine (containsFunc8_c xs hs _ _ _ (al1_0 _ _)).mono ?_
  rintro e w' ⟨rfl, rfl⟩
  go_wp2
  go_ret
  exact ⟨ret_bool (by simp), bl1 _ _⟩
end Go.Proofs.YtdmlefccajaniaaDoor
