/- Decimal numerals of numbers below 100: the reference's and the program's. -/
import Derived.Test.YtdmlefccajaniaaDoorRow
import Derived.Test.YtdmlefccajaniaaDoorStoreArr
import Derived.Test.YtdmlefccajaniaaDoorShelf
import Derived.Laws.IdiomStrings
import Derived.Deep.RegionHeld3
namespace Go.Proofs.YtdmlefccajaniaaDoor
open Go.RowKit Go.Lib
def dgS (n : Nat) : ByteArray := ⟨(Lib.decDigits n).toArray⟩
theorem dg_one {n : Nat} (h : n < 10) : Lib.decDigits n = [UInt8.ofNat (48 + n)] := by rw [Lib.decDigits, dif_pos h]
theorem dg_two {n : Nat} (h : ¬ n < 10) : Lib.decDigits n = Lib.decDigits (n / 10) ++ [UInt8.ofNat (48 + n % 10)] := by rw [Lib.decDigits, dif_neg h]
theorem conv1 (x : Int) (w : World) (g c : Nat) (h : w.cell? ⟨g, 0, none⟩ = some (.int .u8 x)) : (convert 22 9 (.slice (some ⟨g, 0, none⟩) 1 c)).run Tryd.prog w = .ok (.string ⟨#[UInt8.ofNat x.toNat]⟩) w := by
  rw [run_convert_bytes_string w _ _ 5 _ _ _ Tryd.underlying22 Tryd.underlying5 Tryd.underlying9]
  have hl := run_loadCells_list (P := Tryd.prog) (w := w) ⟨g, 0, none⟩ [Value.int .u8 x] (fun j v hj => by
    match j with
    | 0 => simp at hj; rw [← hj]; exact h
    | j + 1 => simp at hj)
  exact run_bytesToString w _ _ _ [x] hl
set_option maxHeartbeats 1000000 in
set_option maxRecDepth 100000 in
theorem specDec1_c (n : Nat) (h : n < 10) (w : World) :
    Calls Tryd.prog 94 #[.int .i64 n] w fun e w' => e = .returned (.string (dgS n)) ∧ Below w.heap.size w w' := by
  have hn : (n : Int) < 10 := by omega
  have ht : (n : Int).tmod 10 = (n : Int) := by rw [Int.tmod_eq_emod_of_nonneg (by omega)]; omega
  have hcv := conv1 (48 + (n : Int)) (w.alloc (.cells #[.int .u8 (48 + (n : Int))] 5)) w.heap.size 1 (by rw [cell_of_row _ _ _ _ _ _ (al1_0 _ _)]; rfl)
  have HD : Hid (dgS n = ⟨#[UInt8.ofNat (48 + (n : Int)).toNat]⟩) := Lib.hid (by unfold dgS; rw [dg_one h, show (48 + (n : Int)).toNat = 48 + n by omega])
  go_enter Tryd.func94, Tryd.ntmps94
  go_wp2
  go_ret
  exact ⟨by rw [HD.out] <;> rfl, bl1 _ _⟩
set_option maxHeartbeats 1000000 in
set_option maxRecDepth 100000 in
theorem specDec2_c (n : Nat) (h : ¬ n < 10) (h2 : n < 100) (w : World) :
    Calls Tryd.prog 94 #[.int .i64 n] w fun e w' => e = .returned (.string (dgS n)) ∧ Below w.heap.size w w' := by
  have hn : ¬ (n : Int) < 10 := by omega
  have ht : (n : Int).tmod 10 = ((n % 10 : Nat) : Int) := by rw [Int.tmod_eq_emod_of_nonneg (by omega)]; omega
  have hq : (n : Int).tdiv 10 = ((n / 10 : Nat) : Int) := by rw [Int.tdiv_eq_ediv_of_nonneg (by omega)]; omega
  have HD : Hid (dgS n = ⟨(dgS (n / 10)).data ++ #[UInt8.ofNat (48 + ((n % 10 : Nat) : Int)).toNat]⟩) := Lib.hid (by unfold dgS; rw [dg_two h, show (48 + ((n % 10 : Nat) : Int)).toNat = 48 + n % 10 by omega]; simp only [List.append_toArray])
  have hr10 : n % 10 < 10 := by omega
  have hq10 : n / 10 < 10 := by omega
  generalize n % 10 = r at *
  generalize n / 10 = q at *
  go_enter Tryd.func94, Tryd.ntmps94
  go_upto_region 3 with fail
  have hw0 : IntKind.i64.wrap (q : Int) = q := Go.IntWalk.i64_in _ (by omega)
  have hw1 : IntKind.i64.wrap (48 + (r : Int)) = 48 + r := Go.IntWalk.i64_in _ (by omega)
  have hw2 : IntKind.u8.wrap (48 + (r : Int)) = 48 + r := by rw [IntKind.wrap_u8]; omega
  have D1 : dgS n = dgS q ++ ⟨#[UInt8.ofNat (48 + (r : Int)).toNat]⟩ := by
    rw [HD.out]; apply ByteArray.ext; rw [ByteArray.data_append]
  have hadd : ¬ 9223372036854775807 < (dgS q).size + 1 := by
    have : (dgS q).size = 1 := by unfold dgS; rw [dg_one hq10]; rfl
    omega
  refine wp_region_noPanic ?_
  refine wp_region_held_drew (S := fun _ => True) (by kernel_rfl) trivial (fun hHeld => ?_)
  refine wpAnyH_take (i := 0) (v := .int .i64 n) rfl (by kernel_rfl) (by kernel_rfl) (by kernel_rfl) (fun _ _ _ h => h) (Or.inl ⟨by rfl, fun w1 hSw => by go_simp⟩) trivial ?_
  refine wpAnyH_take (i := 1) (v := .int .i64 q) rfl (by kernel_rfl) (by kernel_rfl) (by kernel_rfl) (fun _ _ _ h => h) (Or.inl ⟨by rfl, fun w1 hSw => by go_simp⟩) trivial ?_
  refine wpAnyH_take (i := 3) (v := .int .i64 n) rfl (by kernel_rfl) (by kernel_rfl) (by kernel_rfl) (fun _ _ _ h => h) (Or.inl ⟨by rfl, fun w1 hSw => by go_simp⟩) trivial ?_
  refine wpAnyH_take (i := 4) (v := .int .i64 r) rfl (by kernel_rfl) (by kernel_rfl) (by kernel_rfl) (fun _ _ _ h => h) (Or.inl ⟨by rfl, fun w1 hSw => by go_simp⟩) trivial ?_
  refine wpAnyH_take (i := 5) (v := .int .i64 (48 + (r : Int))) rfl (by kernel_rfl) (by kernel_rfl) (by kernel_rfl) (fun _ _ _ h => h) (Or.inl ⟨by rfl, fun w1 hSw => by go_simp⟩) trivial ?_
  refine wpAnyH_take (i := 6) (v := .int .u8 (48 + (r : Int))) rfl (by kernel_rfl) (by kernel_rfl) (by kernel_rfl) (fun _ _ _ h => h) (Or.inl ⟨by rfl, fun w1 hSw => by go_simp⟩) trivial ?_
  simp only [Act.put, List.setIfInBounds_toArray]
  refine wpAnyH_ready (rs := [2, 7]) (by kernel_rfl) (by simp) ?_
  refine AllReadyH.cons rfl (fun K hK => ?_) (AllReadyH.cons rfl (fun K hK => ?_) AllReadyH.nil)
  · go_simp
    refine (specDec1_c q hq10 _).mono ?_
    rintro e w5 ⟨rfl, hb5⟩
    refine hK.out _ _ trivial (fun _ => ?_)
    clear hK K
    refine wpAnyH_ready (rs := [7]) (by kernel_rfl) (by simp) ?_
    refine AllReadyH.cons rfl (fun K hK => ?_) AllReadyH.nil
    go_simp
    refine hK.out _ _ trivial (fun _ => ?_)
    clear hK K
    refine wpAnyH_ready (rs := [8]) (by kernel_rfl) (by simp) ?_
    refine AllReadyH.cons rfl (fun K hK => ?_) AllReadyH.nil
    have hcv := conv1 (48 + (r : Int)) (w5.alloc (.cells #[.int .u8 (48 + (r : Int))] 5)) w5.heap.size 1 (by rw [cell_of_row _ _ _ _ _ _ (al1_0 _ _)]; rfl)
    go_simp
    refine hK.out _ _ trivial (fun _ => ?_)
    clear hK K
    refine wpAnyH_ready (rs := [9]) (by kernel_rfl) (by simp) ?_
    refine AllReadyH.cons rfl (fun K hK => ?_) AllReadyH.nil
    go_simp
    refine hK.out _ _ trivial (fun _ => ?_)
    clear hK K
    refine wpAnyH_ready (rs := [10]) (by kernel_rfl) (by simp) ?_
    refine AllReadyH.cons rfl (fun K hK => ?_) AllReadyH.nil
    go_simp
    refine hK.out _ _ trivial (fun _ => ?_)
    clear hK K
    refine wpAnyH_done (by kernel_rfl) ?_ _
    refine NoPanic.normal ?_
    go_wp2
    go_ret
    exact ⟨rfl, bal (bt (bl_drew (Below.refl _ _)) hb5) _⟩
  · go_simp
    refine hK.out _ _ trivial (fun _ => ?_)
    clear hK K
    refine wpAnyH_ready (rs := [2, 8]) (by kernel_rfl) (by simp) ?_
    refine AllReadyH.cons rfl (fun K hK => ?_) (AllReadyH.cons rfl (fun K hK => ?_) AllReadyH.nil)
    · go_simp
      refine (specDec1_c q hq10 _).mono ?_
      rintro e w5 ⟨rfl, hb5⟩
      refine hK.out _ _ trivial (fun _ => ?_)
      clear hK K
      refine wpAnyH_ready (rs := [8]) (by kernel_rfl) (by simp) ?_
      refine AllReadyH.cons rfl (fun K hK => ?_) AllReadyH.nil
      have hcv := conv1 (48 + (r : Int)) w5 w.heap.size 1 (by rw [hb5.cell (p := ⟨w.heap.size, 0, none⟩) (by simp)]; show (w.alloc _).cell? _ = _; rw [cell_of_row _ _ _ _ _ _ (al1_0 w _)]; rfl)
      go_simp
      refine hK.out _ _ trivial (fun _ => ?_)
      clear hK K
      refine wpAnyH_ready (rs := [9]) (by kernel_rfl) (by simp) ?_
      refine AllReadyH.cons rfl (fun K hK => ?_) AllReadyH.nil
      go_simp
      refine hK.out _ _ trivial (fun _ => ?_)
      clear hK K
      refine wpAnyH_ready (rs := [10]) (by kernel_rfl) (by simp) ?_
      refine AllReadyH.cons rfl (fun K hK => ?_) AllReadyH.nil
      go_simp
      refine hK.out _ _ trivial (fun _ => ?_)
      clear hK K
      refine wpAnyH_done (by kernel_rfl) ?_ _
      refine NoPanic.normal ?_
      go_wp2
      go_ret
      exact ⟨rfl, bt (bl_drew (bl1 _ _)) hb5⟩
    · have hcv := conv1 (48 + (r : Int)) (w.alloc (.cells #[.int .u8 (48 + (r : Int))] 5)).drew w.heap.size 1 (by show (w.alloc _).cell? _ = _; rw [cell_of_row _ _ _ _ _ _ (al1_0 w _)]; rfl)
      go_simp
      refine hK.out _ _ trivial (fun _ => ?_)
      clear hK K
      refine wpAnyH_ready (rs := [2]) (by kernel_rfl) (by simp) ?_
      refine AllReadyH.cons rfl (fun K hK => ?_) AllReadyH.nil
      go_simp
      refine (specDec1_c q hq10 _).mono ?_
      rintro e w5 ⟨rfl, hb5⟩
      refine hK.out _ _ trivial (fun _ => ?_)
      clear hK K
      refine wpAnyH_ready (rs := [9]) (by kernel_rfl) (by simp) ?_
      refine AllReadyH.cons rfl (fun K hK => ?_) AllReadyH.nil
      go_simp
      refine hK.out _ _ trivial (fun _ => ?_)
      clear hK K
      refine wpAnyH_ready (rs := [10]) (by kernel_rfl) (by simp) ?_
      refine AllReadyH.cons rfl (fun K hK => ?_) AllReadyH.nil
      go_simp
      refine hK.out _ _ trivial (fun _ => ?_)
      clear hK K
      refine wpAnyH_done (by kernel_rfl) ?_ _
      refine NoPanic.normal ?_
      go_wp2
      go_ret
      exact ⟨rfl, bt (bl_drew (bl1 _ _)) hb5⟩
theorem specDec_c (n : Nat) (h : n < 100) (w : World) :
    Calls Tryd.prog 94 #[.int .i64 n] w fun e w' => e = .returned (.string (dgS n)) ∧ Below w.heap.size w w' := by
  by_cases h1 : n < 10
  · exact specDec1_c n h1 w
  · exact specDec2_c n h1 h w
theorem implDec_c (n : Nat) (h : n < 100) (w : World) :
    Calls Tryd.prog 98 #[.int .i64 n] w fun e w' => e = .returned (.string (dgS n)) ∧ w = w' := by
  go_enter Tryd.func98, Tryd.ntmps98
  go_wp2_with fail
  refine (Go.Proofs.Tryd.strconv_FormatInt_10_small n h _).mono ?_
  rintro e w1 ⟨rfl, rfl⟩
  go_wp2
  go_ret
  exact ⟨rfl, rfl⟩
end Go.Proofs.YtdmlefccajaniaaDoor
