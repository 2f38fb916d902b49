/- Means of scenes, each cell counting so often as told. -/
import Derived.Test.YtbafbfamjjmngaaGreatDoorScene
import Derived.Test.YtbafbfamjjmngaaGreatDoorBits
import Derived.Deep.QuietTactic
import Derived.BigQuiet
namespace Go.Proofs.YtbafbfamjjmngaaGreatDoor
open Go.RowKit
def sumC (c : Nat → Int) (xs : List Int) : Nat → Int
  | 0 => 0
  | k + 1 => sumC c xs k + c k * xs.getD k 0
def cnt (c : Nat → Int) : Nat → Int
  | 0 => 0
  | k + 1 => cnt c k + c k
/-- Weights of 0 to 3. -/
def Wt (c : Nat → Int) : Prop := ∀ i, 0 ≤ c i ∧ c i ≤ 3
theorem mul_bd (a b : Int) (h1 : 0 ≤ a) (h2 : a ≤ 3) (h3 : 0 ≤ b) (h4 : b ≤ 60) : 0 ≤ a * b ∧ a * b ≤ 180 := by
  have e1 := Int.mul_nonneg h1 h3
  have e2 := Int.mul_le_mul h2 h4 h3 (by omega)
  omega
theorem sumC_bd {c : Nat → Int} (hc : Wt c) {xs : List Int} (hok : okS xs = true) (k : Nat) : 0 ≤ sumC c xs k ∧ sumC c xs k ≤ 180 * k := by
  induction k with
  | zero => simp [sumC]
  | succ k ih =>
    have b := mul_bd _ _ (hc k).1 (hc k).2 (okS_get hok k).1 (okS_get hok k).2
    simp only [sumC]
    omega
theorem cnt_bd {c : Nat → Int} (hc : Wt c) (k : Nat) : 0 ≤ cnt c k ∧ cnt c k ≤ 3 * k := by
  induction k with
  | zero => simp [cnt]
  | succ k ih =>
    have b := hc k
    simp only [cnt]
    omega
def one (_ : Nat) : Int := 1
def heavy (i : Nat) : Int := if (1 ≤ i % 6 ∧ i % 6 ≤ 4) ∧ 1 ≤ i / 6 ∧ i / 6 ≤ 2 then 3 else 1
def bitOf (f : Int) (i : Nat) : Int := f / 2 ^ i % 2
theorem one_wt : Wt one := fun _ => by unfold one; omega
theorem heavy_wt : Wt heavy := fun _ => by unfold heavy; split <;> omega
theorem bit_wt (f : Int) : Wt (bitOf f) := fun _ => by unfold bitOf; omega
theorem oneFn_c (i : Nat) (w : World) :
    Calls Tryz.prog 32 #[.int .i64 i] w fun e w' => e = .returned (.int .i64 (one i)) ∧ w = w' := by
  go_enter Tryz.func32, Tryz.ntmps32
  go_wp2
  go_ret
  exact ⟨rfl, rfl⟩
theorem heavy_if (i : Nat) : heavy i = if (decide (1 ≤ (i : Int) % 6) && decide ((i : Int) % 6 ≤ 4)) && (decide (1 ≤ (i : Int) / 6) && decide ((i : Int) / 6 ≤ 2)) then 3 else 1 := by
  unfold heavy
  have e : ((decide (1 ≤ (i : Int) % 6) && decide ((i : Int) % 6 ≤ 4)) && (decide (1 ≤ (i : Int) / 6) && decide ((i : Int) / 6 ≤ 2))) = decide ((1 ≤ i % 6 ∧ i % 6 ≤ 4) ∧ 1 ≤ i / 6 ∧ i / 6 ≤ 2) := by
    rw [Bool.eq_iff_iff]
    simp only [Bool.and_eq_true, decide_eq_true_eq]
    omega
  rw [e]
  simp
theorem heavyFn_c (i : Nat) (hi : i < 24) (w : World) :
    Calls Tryz.prog 33 #[.int .i64 i] w fun e w' => e = .returned (.int .i64 (heavy i)) ∧ w = w' := by
  have HH := Lib.hid (heavy_if i)
  cases h1 : (decide (1 ≤ (i : Int) % 6) && decide ((i : Int) % 6 ≤ 4))
  · have H1 := Lib.hid h1
    have HV : Hid (heavy i = 1) := Lib.hid (by rw [HH.out, h1]; rfl)
    clear h1
    go_enter Tryz.func33, Tryz.ntmps33
    go_wp2_with (go_at_call 34; refine (within_c _ _ _ _).mono ?_; rintro e w' ⟨rfl, rfl⟩; rw [H1.out])
    go_ret
    exact ⟨by rw [HV.out] <;> rfl, rfl⟩
  · cases h2 : (decide (1 ≤ (i : Int) / 6) && decide ((i : Int) / 6 ≤ 2))
    · have H1 := Lib.hid h1
      have H2 := Lib.hid h2
      have HV : Hid (heavy i = 1) := Lib.hid (by rw [HH.out, h1, h2]; rfl)
      clear h1 h2
      go_enter Tryz.func33, Tryz.ntmps33
      go_wp2_with (go_at_call 34; refine (within_c _ _ _ _).mono ?_; rintro e w' ⟨rfl, rfl⟩; first | rw [H1.out] | rw [H2.out])
      go_ret
      exact ⟨by rw [HV.out] <;> rfl, rfl⟩
    · have H1 := Lib.hid h1
      have H2 := Lib.hid h2
      have HV : Hid (heavy i = 3) := Lib.hid (by rw [HH.out, h1, h2]; rfl)
      clear h1 h2
      go_enter Tryz.func33, Tryz.ntmps33
      go_wp2_with (go_at_call 34; refine (within_c _ _ _ _).mono ?_; rintro e w' ⟨rfl, rfl⟩; first | rw [H1.out] | rw [H2.out])
      go_ret
      exact ⟨by rw [HV.out] <;> rfl, rfl⟩
theorem bitFn_c (i : Nat) (hi : i < 24) (f : Int) (hf : 0 ≤ f ∧ f ≤ 4294967295) (g : Nat) (w : World) (hg : w.cell? ⟨g, 0, none⟩ = some (.int .u32 f)) :
    Calls Tryz.prog 43 #[.int .i64 i, .pointer (some ⟨g, 0, none⟩)] w fun e w' => e = .returned (.int .i64 (bitOf f i)) ∧ w = w' := by
  obtain ⟨h1, h2⟩ := hf
  go_enter Tryz.func43, Tryz.ntmps43
  go_wp2
  go_ret
  refine ⟨ret_int ?_, rfl⟩
  have hb := shr_bd f i ⟨h1, h2⟩
  rw [and32_one _ hb]
  unfold bitOf wrap64
  omega
set_option maxHeartbeats 400000 in
theorem meanOne_c (xs : List Int) (hs : Sc xs) (hok : okS xs = true) (hpos : 0 < cnt (one) 24) (w : World) :
    Calls Tryz.prog 31 #[.agg (arr .i8 xs), .func (.func 32) #[] #[]] w fun e w' => e = .returned (.int .i64 (sumC (one) xs 24 / cnt (one) 24)) ∧ Below w.heap.size w w' := by
  have HL := Lib.hid hs.1
  have hg := okS_get hok
  have hcw : Wt (one) := one_wt
  have H0 := Lib.hid (al1_0 w (.cells (arr .i8 xs) 26))
  have HP := Lib.hid hpos
  clear hpos
  go_enter Tryz.func31, Tryz.ntmps31
  go_wp2_with (refine wpList_load_row rfl 26 (.tmp 2) rfl _ rfl _ _ _ _ H0.out Tryz.underlying26 rfl (by rw [szScene, arr_size, HL.out]) ?_)
  go_loopw [5, 6, 11] (fun s m i wr => ∃ k : Nat, k ≤ 24 ∧ i = .int .i64 k ∧ s = .int .i64 (sumC (one) xs k) ∧ m = .int .i64 (cnt (one) k) ∧ Below w.heap.size w wr) (fun _ _ i _ => 24 - (intOf i).toNat)
  case atStart => exact ⟨0, Nat.zero_le _, rfl, rfl, rfl, bl1 _ _⟩
  case round =>
    obtain ⟨k, hk, rfl, rfl, rfl, hW⟩ := hrel
    have HW := Lib.hid hW
    clear hW
    have hsb := sumC_bd hcw hok k
    have hcb := cnt_bd hcw k
    obtain ⟨s1, s2⟩ := hsb
    obtain ⟨m1, m2⟩ := hcb
    by_cases hlt : k < 24
    · obtain ⟨x, hxe⟩ : ∃ x, x = xs.getD k 0 := ⟨_, rfl⟩
      have hx1 : 0 ≤ x := by rw [hxe]; exact (hg k).1
      have hx2 : x ≤ 60 := by rw [hxe]; exact (hg k).2
      have HX := Lib.hid hxe
      obtain ⟨c, hce⟩ : ∃ c, c = (one) k := ⟨_, rfl⟩
      have hc1 : 0 ≤ c := by rw [hce]; exact (hcw k).1
      have hc2 : c ≤ 3 := by rw [hce]; exact (hcw k).2
      have hm := mul_bd c x hc1 hc2 hx1 hx2
      obtain ⟨q1, q2⟩ := hm
      have HC := Lib.hid hce
      have HS : Hid (sumC (one) xs (k + 1) = sumC (one) xs k + c * x) := Lib.hid (by rw [hce, hxe]; rfl)
      have HN : Hid (cnt (one) (k + 1) = cnt (one) k + c) := Lib.hid (by rw [hce]; rfl)
      clear hxe hce
      generalize sumC (one) xs k = S at *
      generalize cnt (one) k = M at *
      go_wp2_with (first
        | (refine wpList_index_arr rfl 26 (.tmp 10) (.tmp 11) rfl xs rfl k rfl 24 24 Tryz.underlying26 (by kernel_rfl) Tryz.underlying24 hlt HL.out ?_; rw [← HX.out])
        | (go_at_call 32; refine (oneFn_c k _).mono ?_; rintro e w' ⟨rfl, rfl⟩; rw [← HC.out]))
      go_roundw
      case rel => exact ⟨k + 1, by omega, by go_num, by rw [HS.out] <;> rfl, by rw [HN.out] <;> rfl, HW.out⟩
      case measure => simp [intOf]; omega
    · have hk24 : k = 24 := by omega
      subst hk24
      have hpos := HP.out
      go_wp2
      go_ret
      exact ⟨rfl, HW.out⟩
set_option maxHeartbeats 400000 in
theorem meanHeavy_c (xs : List Int) (hs : Sc xs) (hok : okS xs = true) (hpos : 0 < cnt (heavy) 24) (w : World) :
    Calls Tryz.prog 31 #[.agg (arr .i8 xs), .func (.func 33) #[] #[]] w fun e w' => e = .returned (.int .i64 (sumC (heavy) xs 24 / cnt (heavy) 24)) ∧ Below w.heap.size w w' := by
  have HL := Lib.hid hs.1
  have hg := okS_get hok
  have hcw : Wt (heavy) := heavy_wt
  have H0 := Lib.hid (al1_0 w (.cells (arr .i8 xs) 26))
  have HP := Lib.hid hpos
  clear hpos
  go_enter Tryz.func31, Tryz.ntmps31
  go_wp2_with (refine wpList_load_row rfl 26 (.tmp 2) rfl _ rfl _ _ _ _ H0.out Tryz.underlying26 rfl (by rw [szScene, arr_size, HL.out]) ?_)
  go_loopw [5, 6, 11] (fun s m i wr => ∃ k : Nat, k ≤ 24 ∧ i = .int .i64 k ∧ s = .int .i64 (sumC (heavy) xs k) ∧ m = .int .i64 (cnt (heavy) k) ∧ Below w.heap.size w wr) (fun _ _ i _ => 24 - (intOf i).toNat)
  case atStart => exact ⟨0, Nat.zero_le _, rfl, rfl, rfl, bl1 _ _⟩
  case round =>
    obtain ⟨k, hk, rfl, rfl, rfl, hW⟩ := hrel
    have HW := Lib.hid hW
    clear hW
    have hsb := sumC_bd hcw hok k
    have hcb := cnt_bd hcw k
    obtain ⟨s1, s2⟩ := hsb
    obtain ⟨m1, m2⟩ := hcb
    by_cases hlt : k < 24
    · obtain ⟨x, hxe⟩ : ∃ x, x = xs.getD k 0 := ⟨_, rfl⟩
      have hx1 : 0 ≤ x := by rw [hxe]; exact (hg k).1
      have hx2 : x ≤ 60 := by rw [hxe]; exact (hg k).2
      have HX := Lib.hid hxe
      obtain ⟨c, hce⟩ : ∃ c, c = (heavy) k := ⟨_, rfl⟩
      have hc1 : 0 ≤ c := by rw [hce]; exact (hcw k).1
      have hc2 : c ≤ 3 := by rw [hce]; exact (hcw k).2
      have hm := mul_bd c x hc1 hc2 hx1 hx2
      obtain ⟨q1, q2⟩ := hm
      have HC := Lib.hid hce
      have HS : Hid (sumC (heavy) xs (k + 1) = sumC (heavy) xs k + c * x) := Lib.hid (by rw [hce, hxe]; rfl)
      have HN : Hid (cnt (heavy) (k + 1) = cnt (heavy) k + c) := Lib.hid (by rw [hce]; rfl)
      clear hxe hce
      generalize sumC (heavy) xs k = S at *
      generalize cnt (heavy) k = M at *
      go_wp2_with (first
        | (refine wpList_index_arr rfl 26 (.tmp 10) (.tmp 11) rfl xs rfl k rfl 24 24 Tryz.underlying26 (by kernel_rfl) Tryz.underlying24 hlt HL.out ?_; rw [← HX.out])
        | (go_at_call 33; refine (heavyFn_c k hlt _).mono ?_; rintro e w' ⟨rfl, rfl⟩; rw [← HC.out]))
      go_roundw
      case rel => exact ⟨k + 1, by omega, by go_num, by rw [HS.out] <;> rfl, by rw [HN.out] <;> rfl, HW.out⟩
      case measure => simp [intOf]; omega
    · have hk24 : k = 24 := by omega
      subst hk24
      have hpos := HP.out
      go_wp2
      go_ret
      exact ⟨rfl, HW.out⟩
set_option maxHeartbeats 400000 in
theorem meanBit_c (xs : List Int) (hs : Sc xs) (hok : okS xs = true) (f : Int) (hf : 0 ≤ f ∧ f ≤ 4294967295) (g : Nat) (hpos : 0 < cnt (bitOf f) 24) (w : World) (hgl : g < w.heap.size) (hgc : w.cell? ⟨g, 0, none⟩ = some (.int .u32 f)) :
    Calls Tryz.prog 31 #[.agg (arr .i8 xs), .func (.func 43) #[] #[.pointer (some ⟨g, 0, none⟩)]] w fun e w' => e = .returned (.int .i64 (sumC (bitOf f) xs 24 / cnt (bitOf f) 24)) ∧ Below w.heap.size w w' := by
  have HL := Lib.hid hs.1
  have hg := okS_get hok
  have hcw : Wt (bitOf f) := bit_wt f
  have H0 := Lib.hid (al1_0 w (.cells (arr .i8 xs) 26))
  have HP := Lib.hid hpos
  clear hpos
  go_enter Tryz.func31, Tryz.ntmps31
  go_wp2_with (refine wpList_load_row rfl 26 (.tmp 2) rfl _ rfl _ _ _ _ H0.out Tryz.underlying26 rfl (by rw [szScene, arr_size, HL.out]) ?_)
  go_loopw [5, 6, 11] (fun s m i wr => ∃ k : Nat, k ≤ 24 ∧ i = .int .i64 k ∧ s = .int .i64 (sumC (bitOf f) xs k) ∧ m = .int .i64 (cnt (bitOf f) k) ∧ Below w.heap.size w wr) (fun _ _ i _ => 24 - (intOf i).toNat)
  case atStart => exact ⟨0, Nat.zero_le _, rfl, rfl, rfl, bl1 _ _⟩
  case round =>
    obtain ⟨k, hk, rfl, rfl, rfl, hW⟩ := hrel
    have HW := Lib.hid hW
    clear hW
    have hsb := sumC_bd hcw hok k
    have hcb := cnt_bd hcw k
    obtain ⟨s1, s2⟩ := hsb
    obtain ⟨m1, m2⟩ := hcb
    by_cases hlt : k < 24
    · obtain ⟨x, hxe⟩ : ∃ x, x = xs.getD k 0 := ⟨_, rfl⟩
      have hx1 : 0 ≤ x := by rw [hxe]; exact (hg k).1
      have hx2 : x ≤ 60 := by rw [hxe]; exact (hg k).2
      have HX := Lib.hid hxe
      obtain ⟨c, hce⟩ : ∃ c, c = (bitOf f) k := ⟨_, rfl⟩
      have hc1 : 0 ≤ c := by rw [hce]; exact (hcw k).1
      have hc2 : c ≤ 3 := by rw [hce]; exact (hcw k).2
      have hm := mul_bd c x hc1 hc2 hx1 hx2
      obtain ⟨q1, q2⟩ := hm
      have HC := Lib.hid hce
      have HS : Hid (sumC (bitOf f) xs (k + 1) = sumC (bitOf f) xs k + c * x) := Lib.hid (by rw [hce, hxe]; rfl)
      have HN : Hid (cnt (bitOf f) (k + 1) = cnt (bitOf f) k + c) := Lib.hid (by rw [hce]; rfl)
      clear hxe hce
      generalize sumC (bitOf f) xs k = S at *
      generalize cnt (bitOf f) k = M at *
      go_wp2_with (first
        | (refine wpList_index_arr rfl 26 (.tmp 10) (.tmp 11) rfl xs rfl k rfl 24 24 Tryz.underlying26 (by kernel_rfl) Tryz.underlying24 hlt HL.out ?_; rw [← HX.out])
        | (go_at_call 43; refine (bitFn_c k hlt f hf g _ ((HW.out.cell (p := ⟨g, 0, none⟩) hgl).trans hgc)).mono ?_; rintro e w' ⟨rfl, rfl⟩; rw [← HC.out]))
      go_roundw
      case rel => exact ⟨k + 1, by omega, by go_num, by rw [HS.out] <;> rfl, by rw [HN.out] <;> rfl, HW.out⟩
      case measure => simp [intOf]; omega
    · have hk24 : k = 24 := by omega
      subst hk24
      have hpos := HP.out
      go_wp2
      go_ret
      exact ⟨rfl, HW.out⟩
end Go.Proofs.YtbafbfamjjmngaaGreatDoor
namespace Go.Proofs.YtbafbfamjjmngaaGreatDoor
open Go.RowKit
theorem szC24 : (Tryz.prog.info? 65).map (·.size) = some 24 := by kernel_rfl
def wts (c : Nat → Int) : List Int := (List.range 24).map c
theorem wts_len (c : Nat → Int) : (wts c).length = 24 := by simp [wts]
theorem wts_get (c : Nat → Int) (k : Nat) (h : k < 24) : (wts c).getD k 0 = c k := by simp [wts, List.getD_eq_getElem?_getD, h]
set_option maxHeartbeats 400000 in
theorem l06Counts_c (f : Int) (hf : 0 ≤ f ∧ f ≤ 4294967295) (w : World) :
    Calls Tryz.prog 59 #[.int .u32 f] w fun e w' => e = .returned (.agg (arr .i64 (wts (bitOf f)))) ∧ Below w.heap.size w w' := by
  have HL := Lib.hid (wts_len (bitOf f))
  have K0 := Lib.hid (al2_0 w (.cells (arr .i64 (List.replicate 24 0)) 65) (.cells (arr .i64 (List.replicate 24 0)) 65))
  have K1 := Lib.hid (al2_1 w (.cells (arr .i64 (List.replicate 24 0)) 65) (.cells (arr .i64 (List.replicate 24 0)) 65))
  go_enter Tryz.func59, Tryz.ntmps59
  go_wp2_with (refine wpList_store_row rfl 65 (.tmp 3) (.tmp 5) rfl _ (arr .i64 (List.replicate 24 0)) rfl rfl _ (arr .i64 (List.replicate 24 0)) K1.out (by rw [szC24]; rfl) rfl (arr_one _ _) ?_)
  go_loopw [4] (fun i wr => ∃ k : Nat, k ≤ 24 ∧ i = .int .i64 k ∧ wr.heap[w.heap.size]? = some (.cells (arr .i64 (List.replicate 24 0)) 65 (0, 0)) ∧
      wr.heap[w.heap.size + 1]? = some (.cells (arr .i64 ((wts (bitOf f)).take k ++ List.replicate (24 - k) 0)) 65 (0, 0)) ∧ Below w.heap.size w wr) (fun i _ => 24 - (intOf i).toNat)
  case atStart => exact ⟨0, Nat.zero_le _, rfl, by rw [setRow_other _ _ _ _ (by simp)]; exact K0.out, setRow_heap _ _ _ _ _ _ K1.out, below_setRow (bl2 _ _ _) (by omega) _⟩
  case round =>
    obtain ⟨k, hk, rfl, hA, hB, hW⟩ := hrel
    have HA := Lib.hid hA
    have HB := Lib.hid hB
    have HW := Lib.hid hW
    clear hA hB hW
    by_cases hlt : k < 24
    · have hcell2 := arr_cell HB.out k (by simp [HL.out]; omega)
      have hfr : wr.frozen? ⟨w.heap.size + 1, k, none⟩ = false := frozen_of_row _ _ _ _ _ HB.out
      have hbd := shr_bd f k hf
      obtain ⟨b1, b2⟩ := hbd
      obtain ⟨f1, f2⟩ := hf
      go_wp2
      go_roundw
      case rel =>
        exact ⟨k + 1, by omega, by go_num, heap_far _ (by simp) HA.out, by rw [← set_step _ _ _ HL.out hlt, wts_get _ _ hlt]; exact arr_store HB.out _ _, HW.out.setCell (by simp) _⟩
      case measure => simp [intOf]; omega
    · have hk24 : k = 24 := by omega
      subst hk24
      have HC2 : Hid (wr.heap[w.heap.size + 1]? = some (.cells (arr .i64 (wts (bitOf f))) 65 (0, 0))) := Lib.hid (by
        have := HB.out
        rwa [List.take_of_length_le (by rw [HL.out]; omega), Nat.sub_self, List.replicate_zero, List.append_nil] at this)
      go_wp2_with (first
        | (refine wpList_load_row rfl 65 (.tmp 3) rfl _ rfl _ _ _ _ HC2.out Tryz.underlying65 rfl (by rw [szC24, arr_size, HL.out]) ?_)
        | (refine wpList_store_row rfl 65 (.tmp 2) (.tmp 18) rfl _ _ rfl rfl _ _ HA.out (by rw [szC24, arr_size, HL.out]) (by rw [arr_size, arr_size, HL.out]; rfl) (arr_one _ _) ?_))
      exact bodyPost_ret (results_cell_row rfl _ _ _ _ _ _ _ rfl (setRow_heap _ _ _ _ _ _ HA.out) Tryz.underlying65 rfl (by rw [szC24, arr_size, HL.out])) rfl ⟨rfl, below_setRow HW.out (by omega) _⟩
set_option maxHeartbeats 400000 in
theorem l06Mean_c (xs : List Int) (hs : Sc xs) (hok : okS xs = true) (c : Nat → Int) (hcw : Wt c) (hpos : 0 < cnt c 24) (g1 g2 : Nat) (t1 t2 : TypeId) (w : World)
    (h1 : w.heap[g1]? = some (.cells (arr .i8 xs) t1 (0, 0))) (h2 : w.heap[g2]? = some (.cells (arr .i64 (wts c)) t2 (0, 0))) :
    Calls Tryz.prog 38 #[.pointer (some ⟨g1, 0, none⟩), .pointer (some ⟨g2, 0, none⟩)] w fun e w' => e = .returned (.int .i64 (sumC c xs 24 / cnt c 24)) ∧ Below w.heap.size w w' := by
  have HL := Lib.hid hs.1
  have hg := okS_get hok
  have HP := Lib.hid hpos
  have H1 := Lib.hid h1
  have H2 := Lib.hid h2
  clear hpos h1 h2
  go_enter Tryz.func38, Tryz.ntmps38
  go_wp2
  go_loopw [5, 6, 7] (fun s m i wr => ∃ k : Nat, k ≤ 24 ∧ i = .int .i64 k ∧ s = .int .i64 (sumC c xs k) ∧ m = .int .i64 (cnt c k) ∧ Below w.heap.size w wr) (fun _ _ i _ => 24 - (intOf i).toNat)
  case atStart => exact ⟨0, Nat.zero_le _, rfl, rfl, rfl, Below.refl _ _⟩
  case round =>
    obtain ⟨k, hk, rfl, rfl, rfl, hW⟩ := hrel
    have HW := Lib.hid hW
    clear hW
    have hsb := sumC_bd hcw hok k
    have hcb := cnt_bd hcw k
    obtain ⟨s1, s2⟩ := hsb
    obtain ⟨m1, m2⟩ := hcb
    by_cases hlt : k < 24
    · obtain ⟨x, hxe⟩ : ∃ x, x = xs.getD k 0 := ⟨_, rfl⟩
      have hx1 : 0 ≤ x := by rw [hxe]; exact (hg k).1
      have hx2 : x ≤ 60 := by rw [hxe]; exact (hg k).2
      obtain ⟨d, hce⟩ : ∃ d, d = c k := ⟨_, rfl⟩
      have hc1 : 0 ≤ d := by rw [hce]; exact (hcw k).1
      have hc2 : d ≤ 3 := by rw [hce]; exact (hcw k).2
      have hm := mul_bd d x hc1 hc2 hx1 hx2
      obtain ⟨q1, q2⟩ := hm
      have e1 : wr.cell? ⟨g1, k, none⟩ = some (.int .i8 x) := by rw [hxe]; exact arr_cell (heap_below HW.out (lt_of_heap H1.out) H1.out) k (by rw [HL.out]; exact hlt)
      have e2 : wr.cell? ⟨g2, k, none⟩ = some (.int .i64 d) := by rw [hce, ← wts_get c k hlt]; exact arr_cell (heap_below HW.out (lt_of_heap H2.out) H2.out) k (by rw [wts_len]; exact hlt)
      have HS : Hid (sumC c xs (k + 1) = sumC c xs k + d * x) := Lib.hid (by rw [hce, hxe]; rfl)
      have HN : Hid (cnt c (k + 1) = cnt c k + d) := Lib.hid (by rw [hce]; rfl)
      clear hxe hce
      generalize sumC c xs k = S at *
      generalize cnt c k = M at *
      go_wp2
      go_quiet (fail)
      go_wp2
      go_roundw
      case rel => exact ⟨k + 1, by omega, by go_num, by rw [HS.out] <;> rfl, by rw [HN.out] <;> rfl, bl_drewN HW.out _⟩
      case measure => simp [intOf]; omega
    · have hk24 : k = 24 := by omega
      subst hk24
      have hpos := HP.out
      go_wp2
      go_ret
      exact ⟨rfl, HW.out⟩
end Go.Proofs.YtbafbfamjjmngaaGreatDoor
namespace Go.Proofs.YtbafbfamjjmngaaGreatDoor
open Go.RowKit
theorem sumC_congr {c d : Nat → Int} (xs : List Int) (n : Nat) (h : ∀ i, i < n → c i = d i) : sumC c xs n = sumC d xs n := by
  induction n with
  | zero => rfl
  | succ n ih => simp only [sumC]; rw [ih (fun i hi => h i (by omega)), h n (by omega)]
theorem cnt_congr {c d : Nat → Int} (n : Nat) (h : ∀ i, i < n → c i = d i) : cnt c n = cnt d n := by
  induction n with
  | zero => rfl
  | succ n ih => simp only [cnt]; rw [ih (fun i hi => h i (by omega)), h n (by omega)]
theorem bit_all (i : Nat) (h : i < 24) : bitOf 16777215 i = one i := by
  have : ∀ i : Fin 24, bitOf 16777215 i.val = one i.val := by decide
  exact this ⟨i, h⟩
theorem cnt_bit (f : Int) (k : Nat) (h : cnt (bitOf f) k = 0) : f % 2 ^ k = 0 := by
  induction k with
  | zero => simp
  | succ k ih =>
    have b1 := cnt_bd (bit_wt f) k
    have b2 := bit_wt f k
    simp only [cnt] at h
    have h1 := ih (by omega)
    have h2 : f / 2 ^ k % 2 = 0 := by have : bitOf f k = 0 := by omega
                                      exact this
    have hp : (0 : Int) < 2 ^ k := Int.pow_pos (by omega)
    have e1 := Int.emod_add_mul_ediv f (2 ^ k)
    have e2 := Int.emod_add_mul_ediv (f / 2 ^ k) 2
    rw [h1] at e1
    rw [h2] at e2
    rw [← e1, ← e2, Int.pow_succ]
    simp [← Int.mul_assoc]
theorem cnt_pos (f : Int) (h0 : 0 < f) (h1 : f < 16777216) : 0 < cnt (bitOf f) 24 := by
  have b := cnt_bd (bit_wt f) 24
  by_cases h : cnt (bitOf f) 24 = 0
  · have := cnt_bit f 24 h
    omega
  · omega
def meanOf (c : Nat → Int) (xs : List Int) : Int := sumC c xs 24 / cnt c 24
def meanV (xs : List Int) : Int × Int := if okS xs then (meanOf one xs, 0) else (0, 1)
def heavyV (xs : List Int) : Int × Int := if okS xs then (meanOf heavy xs, 0) else (0, 1)
def fieldV (xs : List Int) (f : Int) : Int × Int := if okS xs then (if f / 16777216 = 0 then (if f = 0 then (0, 4) else (meanOf (bitOf f) xs, 0)) else (0, 2)) else (0, 1)
set_option maxHeartbeats 400000 in
theorem implMeanReading_c (xs : List Int) (hs : Sc xs) (w : World) :
    Calls Tryz.prog 9 #[.agg (arr .i8 xs)] w fun e w' => e = .returned (.tuple #[.int .i64 (meanV xs).1, .int .i64 (meanV xs).2]) ∧ Below w.heap.size w w' := by
  have HL := Lib.hid hs.1
  have H0 := Lib.hid (al1_0 w (.cells (arr .i8 xs) 26))
  cases hok : okS xs
  · have HV : Hid (meanV xs = (0, 1)) := Lib.hid (by simp [meanV, hok])
    have HO := Lib.hid hok
    clear hok
    go_enter Tryz.func9, Tryz.ntmps9
    go_wp2_with (refine wpList_load_row rfl 26 (.tmp 1) rfl _ rfl _ _ _ _ H0.out Tryz.underlying26 rfl (by rw [szScene, arr_size, HL.out]) ?_)
    refine (implValidScene_c xs hs _).mono ?_
    rintro e w1 ⟨rfl, hb1⟩
    rw [HO.out]
    go_wp2
    go_ret2
    exact ⟨by rw [HV.out] <;> rfl, bt (bl1 _ _) hb1⟩
  · have HV : Hid (meanV xs = (meanOf one xs, 0)) := Lib.hid (by simp [meanV, hok])
    have HO := Lib.hid hok
    clear hok
    go_enter Tryz.func9, Tryz.ntmps9
    go_wp2_with (refine wpList_load_row rfl 26 (.tmp 1) rfl _ rfl _ _ _ _ H0.out Tryz.underlying26 rfl (by rw [szScene, arr_size, HL.out]) ?_)
    refine (implValidScene_c xs hs _).mono ?_
    rintro e w1 ⟨rfl, hb1⟩
    rw [HO.out]
    have H1 := Lib.hid (heap_below hb1 (by simp) H0.out)
    go_wp2_with (refine wpList_load_row rfl 26 (.tmp 1) rfl _ rfl _ _ _ _ H1.out Tryz.underlying26 rfl (by rw [szScene, arr_size, HL.out]) ?_)
    refine (meanOne_c xs hs HO.out (by decide) _).mono ?_
    rintro e w2 ⟨rfl, hb2⟩
    go_wp2
    go_ret2
    exact ⟨by rw [HV.out] <;> rfl, bt (bt (bl1 _ _) hb1) hb2⟩
set_option maxHeartbeats 400000 in
theorem implWeightedReading_c (xs : List Int) (hs : Sc xs) (w : World) :
    Calls Tryz.prog 10 #[.agg (arr .i8 xs)] w fun e w' => e = .returned (.tuple #[.int .i64 (heavyV xs).1, .int .i64 (heavyV xs).2]) ∧ Below w.heap.size w w' := by
  have HL := Lib.hid hs.1
  have H0 := Lib.hid (al1_0 w (.cells (arr .i8 xs) 26))
  cases hok : okS xs
  · have HV : Hid (heavyV xs = (0, 1)) := Lib.hid (by simp [heavyV, hok])
    have HO := Lib.hid hok
    clear hok
    go_enter Tryz.func10, Tryz.ntmps10
    go_wp2_with (refine wpList_load_row rfl 26 (.tmp 1) rfl _ rfl _ _ _ _ H0.out Tryz.underlying26 rfl (by rw [szScene, arr_size, HL.out]) ?_)
    refine (implValidScene_c xs hs _).mono ?_
    rintro e w1 ⟨rfl, hb1⟩
    rw [HO.out]
    go_wp2
    go_ret2
    exact ⟨by rw [HV.out] <;> rfl, bt (bl1 _ _) hb1⟩
  · have HV : Hid (heavyV xs = (meanOf heavy xs, 0)) := Lib.hid (by simp [heavyV, hok])
    have HO := Lib.hid hok
    clear hok
    go_enter Tryz.func10, Tryz.ntmps10
    go_wp2_with (refine wpList_load_row rfl 26 (.tmp 1) rfl _ rfl _ _ _ _ H0.out Tryz.underlying26 rfl (by rw [szScene, arr_size, HL.out]) ?_)
    refine (implValidScene_c xs hs _).mono ?_
    rintro e w1 ⟨rfl, hb1⟩
    rw [HO.out]
    have H1 := Lib.hid (heap_below hb1 (by simp) H0.out)
    go_wp2_with (refine wpList_load_row rfl 26 (.tmp 1) rfl _ rfl _ _ _ _ H1.out Tryz.underlying26 rfl (by rw [szScene, arr_size, HL.out]) ?_)
    refine (meanHeavy_c xs hs HO.out (by decide) _).mono ?_
    rintro e w2 ⟨rfl, hb2⟩
    go_wp2
    go_ret2
    exact ⟨by rw [HV.out] <;> rfl, bt (bt (bl1 _ _) hb1) hb2⟩
set_option maxHeartbeats 400000 in
theorem l06Field_c (xs : List Int) (hs : Sc xs) (f : Int) (hf : 0 ≤ f ∧ f ≤ 4294967295) (g : Nat) (t : TypeId) (w : World) (hb : w.heap[g]? = some (.cells (arr .i8 xs) t (0, 0))) :
    Calls Tryz.prog 44 #[.pointer (some ⟨g, 0, none⟩), .int .u32 f] w fun e w' => e = .returned (.tuple #[.int .i64 (fieldV xs f).1, .int .i64 (fieldV xs f).2]) ∧ Below w.heap.size w w' := by
  have HB := Lib.hid hb
  clear hb
  cases hok : okS xs
  · have HV : Hid (fieldV xs f = (0, 1)) := Lib.hid (by simp [fieldV, hok])
    have HO := Lib.hid hok
    clear hok
    go_enter Tryz.func44, Tryz.ntmps44
    go_wp2_with fail
    refine (l06Ok_c xs hs _ _ _ HB.out).mono ?_
    rintro e w' ⟨rfl, rfl⟩
    rw [HO.out]
    go_wp2
    go_ret2
    exact ⟨by rw [HV.out] <;> rfl, Below.refl _ _⟩
  · by_cases h24 : f / 16777216 = 0
    · by_cases h0 : f = 0
      · subst h0
        have HV : Hid (fieldV xs 0 = (0, 4)) := Lib.hid (by simp [fieldV, hok])
        have HO := Lib.hid hok
        clear hok
        go_enter Tryz.func44, Tryz.ntmps44
        go_wp2_with fail
        refine (l06Ok_c xs hs _ _ _ HB.out).mono ?_
        rintro e w' ⟨rfl, rfl⟩
        rw [HO.out]
        go_wp2
        go_ret2
        exact ⟨by rw [HV.out] <;> rfl, Below.refl _ _⟩
      · have HV : Hid (fieldV xs f = (meanOf (bitOf f) xs, 0)) := Lib.hid (by simp [fieldV, hok, h24, h0])
        have hpos := cnt_pos f (by omega) (by omega)
        have e0 : (f == 0) = false := by simpa using h0
        have e1 : (f / 16777216 != 0) = false := by simp [h24]
        have HO := Lib.hid hok
        have HP := Lib.hid hpos
        have hlt : f < 16777216 := by omega
        clear hok hpos h24 h0
        go_enter Tryz.func44, Tryz.ntmps44
        go_wp2_with fail
        refine (l06Ok_c xs hs _ _ _ HB.out).mono ?_
        rintro e w' ⟨rfl, rfl⟩
        rw [HO.out]
        go_wp2_with fail
        refine (l06Counts_c f hf _).mono ?_
        rintro e w1 ⟨rfl, hb1⟩
        have hg := lt_of_heap HB.out
        have H1 := Lib.hid (heap_below hb1 hg HB.out)
        have hz1 := hb1.size
        go_wp2_with (refine wpList_store_row rfl 65 (.tmp 6) (.tmp 16) rfl _ _ rfl rfl _ _ (al1_0 _ _) (by rw [szC24, arr_size, wts_len]) (by rw [arr_size, wts_len]; rfl) (arr_one _ _) ?_)
        refine (l06Mean_c xs hs HO.out _ (bit_wt _) HP.out _ _ _ _ _ (by rw [setRow_other _ _ _ _ (by omega)]; exact heap_old _ _ (by omega) H1.out) (setRow_heap _ _ _ _ _ _ (al1_0 _ _))).mono ?_
        rintro e w2 ⟨rfl, hb2⟩
        go_wp2
        go_ret2
        exact ⟨by rw [HV.out] <;> rfl, bt (below_setRow (hb1.alloc hb1.size _) (by omega) _) hb2⟩
    · have HV : Hid (fieldV xs f = (0, 2)) := Lib.hid (by simp [fieldV, hok, h24])
      have e1 : (f / 16777216 != 0) = true := by simpa using h24
      have HO := Lib.hid hok
      clear hok h24
      go_enter Tryz.func44, Tryz.ntmps44
      go_wp2_with fail
      refine (l06Ok_c xs hs _ _ _ HB.out).mono ?_
      rintro e w' ⟨rfl, rfl⟩
      rw [HO.out]
      go_wp2
      go_ret2
      exact ⟨by rw [HV.out] <;> rfl, Below.refl _ _⟩
theorem specFieldMean_c (xs : List Int) (hs : Sc xs) (f : Int) (hf : 0 ≤ f ∧ f ≤ 4294967295) (w : World) :
    Calls Tryz.prog 16 #[.agg (arr .i8 xs), .int .u32 f] w fun e w' => e = .returned (.tuple #[.int .i64 (fieldV xs f).1, .int .i64 (fieldV xs f).2]) ∧ Below w.heap.size w w' := by
  go_enter Tryz.func16, Tryz.ntmps16
  go_wp2_with fail
  refine (l06Field_c xs hs f hf _ _ _ (al1_0 _ _)).mono ?_
  rintro e w1 ⟨rfl, hb1⟩
  go_wp2
  go_ret2
  exact ⟨rfl, bt (bl1 _ _) hb1⟩
end Go.Proofs.YtbafbfamjjmngaaGreatDoor
