/- Densities and prints: valid or not; lists of prints; sheets. -/
import Derived.Test.YtdmlefccajaniaaDoorShts2
namespace Go.Proofs.YtdmlefccajaniaaDoor
open Go.RowKit
theorem l00In_c (n a b : Int) (w : World) :
    Calls Tryd.prog 90 #[.int .i64 n, .int .i64 a, .int .i64 b] w fun e w' => e = .returned (.bool (decide (a ≤ n) && decide (n ≤ b))) ∧ w = w' := by
  by_cases h1 : a ≤ n
  · go_enter Tryd.func90, Tryd.ntmps90
    go_wp2
    go_ret
    exact ⟨by simp [h1], rfl⟩
  · have h1' : n < a := by omega
    go_enter Tryd.func90, Tryd.ntmps90
    go_wp2
    go_ret
    exact ⟨by simp; omega, rfl⟩
theorem within_c (n a b : Int) (w : World) :
    Calls Tryd.prog 88 #[.int .i64 n, .int .i64 a, .int .i64 b] w fun e w' => e = .returned (.bool (decide (a ≤ n) && decide (n ≤ b))) ∧ w = w' := by
  by_cases h1 : a ≤ n
  · go_enter Tryd.func88, Tryd.ntmps88
    go_wp2
    go_ret
    exact ⟨by simp [h1], rfl⟩
  · have h1' : n < a := by omega
    go_enter Tryd.func88, Tryd.ntmps88
    go_wp2
    go_ret
    exact ⟨by simp; omega, rfl⟩
def dnB (n : Int) : Bool := decide (0 ≤ n) && decide (n ≤ 400)
theorem dnB_iff (n : Int) : dnB n = true ↔ 0 ≤ n ∧ n ≤ 400 := by simp [dnB]
theorem l02Density_c (n : Int) (w : World) :
    Calls Tryd.prog 91 #[.int .i64 n] w fun e w' => e = .returned (.bool (dnB n)) ∧ w = w' := by
  go_enter Tryd.func91, Tryd.ntmps91
  go_wp2_with (go_at_call 90; refine (l00In_c _ _ _ _).mono ?_; rintro e w' ⟨rfl, rfl⟩)
  go_ret
  exact ⟨rfl, rfl⟩
theorem isDensity_c (n : Int) (w : World) :
    Calls Tryd.prog 62 #[.int .i64 n] w fun e w' => e = .returned (.bool (dnB n)) ∧ w = w' := by
  go_enter Tryd.func62, Tryd.ntmps62
  go_wp2_with (go_at_call 88; refine (within_c _ _ _ _).mono ?_; rintro e w' ⟨rfl, rfl⟩)
  go_ret
  exact ⟨rfl, rfl⟩
def okP (xs : List Int) : Bool := xs.all dnB
theorem okP_take (xs : List Int) (k : Nat) (h : k < xs.length) : okP (xs.take (k + 1)) = (okP (xs.take k) && dnB (xs.getD k 0)) := by
  unfold okP
  rw [take_snoc xs k h, List.all_append]; simp
theorem okP_bad (xs : List Int) (k : Nat) (h : k < xs.length) (hb : dnB (xs.getD k 0) = false) : okP xs = false := by
  unfold okP
  rw [List.all_eq_false]
  refine ⟨xs[k], List.getElem_mem h, ?_⟩
  rw [List.getD_eq_getElem?_getD, List.getElem?_eq_getElem h] at hb
  simpa using hb
theorem okP_full {xs : List Int} (k : Nat) (h : xs.length = 64) (hk : ¬ k < 64) (ht : okP (xs.take k) = true) : okP xs = true := by
  rwa [List.take_of_length_le (by omega)] at ht
theorem okP_get {xs : List Int} (h : okP xs = true) (i : Nat) : 0 ≤ xs.getD i 0 ∧ xs.getD i 0 ≤ 400 := by
  by_cases hi : i < xs.length
  · have := List.all_eq_true.1 h _ (List.getElem_mem hi)
    rw [List.getD_eq_getElem?_getD, List.getElem?_eq_getElem hi]
    exact (dnB_iff _).1 this
  · rw [List.getD_eq_getElem?_getD, List.getElem?_eq_none (by omega)]; simp
set_option maxHeartbeats 400000 in
theorem l03Dense_c (xs : List Int) (hs : Pr xs) (g : Nat) (t : TypeId) (w : World) (hb : w.heap[g]? = some (.cells (arr .i16 xs) t (0, 0))) :
    Calls Tryd.prog 86 #[.pointer (some ⟨g, 0, none⟩)] w fun e w' => e = .returned (.bool (okP xs)) ∧ w = w' := by
  have HL := Lib.hid hs.1
  have HB := Lib.hid hb
  clear hb
  go_enter Tryd.func86, Tryd.ntmps86
  go_wp2
  go_loop [3] (fun i => ∃ k : Nat, k ≤ 64 ∧ i = .int .i64 k ∧ okP (xs.take k) = true) (fun i => 64 - (intOf i).toNat)
  case atStart => exact ⟨0, Nat.zero_le _, rfl, rfl⟩
  case round =>
    obtain ⟨k, hk, rfl, hok⟩ := hrel
    have HK := Lib.hid hok
    clear hok
    by_cases hlt : k < 64
    · obtain ⟨x, hxe⟩ : ∃ x, x = xs.getD k 0 := ⟨_, rfl⟩
      have hcell : w.cell? ⟨g, k, none⟩ = some (.int .i16 x) := by rw [hxe]; exact arr_cell HB.out k (by rw [HL.out]; exact hlt)
      have hx1 : -32768 ≤ x := by rw [hxe]; exact (hs.2 k).1
      have hx2 : x ≤ 32767 := by rw [hxe]; exact (hs.2 k).2
      have HE := Lib.hid hxe
      clear hxe
      cases hr : dnB x
      · have HR := Lib.hid hr
        clear hr
        go_wp2_with (go_at_call 91; refine (l02Density_c _ _).mono ?_; rintro e w' ⟨rfl, rfl⟩; rw [HR.out])
        go_ret
        exact ⟨ret_bool (okP_bad xs k (by rw [HL.out]; exact hlt) (by rw [← HE.out, HR.out])).symm, rfl⟩
      · have HR := Lib.hid hr
        clear hr
        go_wp2_with (go_at_call 91; refine (l02Density_c _ _).mono ?_; rintro e w' ⟨rfl, rfl⟩; rw [HR.out])
        go_round
        case rel => exact ⟨k + 1, by omega, by go_num, by rw [okP_take _ _ (by rw [HL.out]; exact hlt), HK.out, ← HE.out, HR.out]; rfl⟩
        case measure => simp [intOf]; omega
    · go_wp2
      go_ret
      exact ⟨ret_bool (okP_full k HL.out hlt HK.out).symm, rfl⟩
set_option maxHeartbeats 400000 in
theorem l03Print_c (xs : List Int) (hs : Pr xs) (b o : Nat) (w : World) (hb : w.rangeAt b o (cellsP xs)) :
    Calls Tryd.prog 56 #[.pointer (some ⟨b, o, none⟩)] w fun e w' => e = .returned (.bool (okP xs)) ∧ Below w.heap.size w w' := by
  have H64 : Hid ((cellsP xs).length = 64) := Lib.hid (by rw [cellsP_length]; exact hs.1)
  have HB := Lib.hid hb
  clear hb
  go_enter Tryd.func56, Tryd.ntmps56
  have HL := Lib.hid hs.1
  go_wp2_with (first
    | (refine wpList_load_mid rfl 37 (.tmp 5) rfl b o rfl (cellsP xs) _ HB.out Tryd.underlying37 rfl (by rw [szPrint, H64.out]) ?_)
    | (rw [z64_Z]; refine wpList_store_row rfl 36 (.tmp 3) (.tmp 6) rfl w.heap.size (arr .i16 xs) rfl rfl 36 (arr .i16 Z64) (al1_0 _ _) (by rw [szA64, arr_size, HL.out]) (by rw [arr_size, arr_size, HL.out]; rfl) (arr_one _ _) ?_))
  have HR := Lib.hid (setRow_heap (w.alloc (.cells (arr .i16 Z64) 36)) w.heap.size _ (arr .i16 xs) 36 (0, 0) (al1_0 _ _))
  have HW := Lib.hid (below_setRow (bl1 w (.cells (arr .i16 Z64) 36)) (Nat.le_refl _) (arr .i16 xs))
  generalize (w.alloc (.cells (arr .i16 Z64) 36)).setRow w.heap.size (arr .i16 xs) = w1 at *
  refine (l03Dense_c xs hs _ _ _ HR.out).mono ?_
  rintro e w' ⟨rfl, rfl⟩
  go_wp2
  go_ret
  exact ⟨rfl, HW.out⟩
end Go.Proofs.YtdmlefccajaniaaDoor
