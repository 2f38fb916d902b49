/- Means of scenes, each cell counting so often as told. -/
import Derived.Test.YtmnidldpkkpeoaaScene
import Derived.Test.YtmnidldpkkpeoaaBits
import Derived.Deep.QuietTactic
import Derived.BigQuiet
namespace Go.Proofs.Ytmnidldpkkpeoaa
open Go.RowKit
def sumC (c : Nat → Int) (xs : List Int) : Nat → Int
  | 0 => 0
  | k + 1 => sumC c xs k + c k * xs.getD k 0
def cnt (c : Nat → Int) : Nat → Int
  | 0 => 0
  | k + 1 => cnt c k + c k
/-- Weights of 0 to 3. -/
def Wt (c : Nat → Int) : Prop := ∀ i, 0 ≤ c i ∧ c i ≤ 3
theorem mul_bd (a b : Int) (h1 : 0 ≤ a) (h2 : a ≤ 3) (h3 : 0 ≤ b) (h4 : b ≤ 60) : 0 ≤ a * b ∧ a * b ≤ 180 := by
  have e1 := Int.mul_nonneg h1 h3
  have e2 := Int.mul_le_mul h2 h4 h3 (by omega)
  omega
theorem sumC_bd {c : Nat → Int} (hc : Wt c) {xs : List Int} (hok : okS xs = true) (k : Nat) : 0 ≤ sumC c xs k ∧ sumC c xs k ≤ 180 * k := by
  induction k with
  | zero => simp [sumC]
  | succ k ih =>
    have b := mul_bd _ _ (hc k).1 (hc k).2 (okS_get hok k).1 (okS_get hok k).2
    simp only [sumC]
    omega
theorem cnt_bd {c : Nat → Int} (hc : Wt c) (k : Nat) : 0 ≤ cnt c k ∧ cnt c k ≤ 3 * k := by
  induction k with
  | zero => simp [cnt]
  | succ k ih =>
    have b := hc k
    simp only [cnt]
    omega
def one (_ : Nat) : Int := 1
def heavy (i : Nat) : Int := if (1 ≤ i % 6 ∧ i % 6 ≤ 4) ∧ 1 ≤ i / 6 ∧ i / 6 ≤ 2 then 3 else 1
def bitOf (f : Int) (i : Nat) : Int := f / 2 ^ i % 2
theorem one_wt : Wt one := fun _ => by unfold one; omega
theorem heavy_wt : Wt heavy := fun _ => by unfold heavy; split <;> omega
theorem bit_wt (f : Int) : Wt (bitOf f) := fun _ => by unfold bitOf; omega
theorem heavy_if (i : Nat) : heavy i = if (decide (1 ≤ (i : Int) % 6) && decide ((i : Int) % 6 ≤ 4)) && (decide (1 ≤ (i : Int) / 6) && decide ((i : Int) / 6 ≤ 2)) then 3 else 1 := by
  unfold heavy
  have e : ((decide (1 ≤ (i : Int) % 6) && decide ((i : Int) % 6 ≤ 4)) && (decide (1 ≤ (i : Int) / 6) && decide ((i : Int) / 6 ≤ 2))) = decide ((1 ≤ i % 6 ∧ i % 6 ≤ 4) ∧ 1 ≤ i / 6 ∧ i / 6 ≤ 2) := by
    rw [Bool.eq_iff_iff]
    simp only [Bool.and_eq_true, decide_eq_true_eq]
    omega
  rw [e]
  simp
theorem bitFn_c (i : Nat) (hi : i < 24) (f : Int) (hf : 0 ≤ f ∧ f ≤ 4294967295) (g : Nat) (w : World) (hg : w.cell? ⟨g, 0, none⟩ = some (.int .u32 f)) :
    Calls Try.prog 89 #[.int .i64 i, .pointer (some ⟨g, 0, none⟩)] w fun e w' => e = .returned (.int .i64 (bitOf f i)) ∧ w = w' := by
  obtain ⟨h1, h2⟩ := hf
  go_enter Try.func89, Try.ntmps89
  go_wp2
  go_ret
  refine ⟨ret_int ?_, rfl⟩
  have hb := shr_bd f i ⟨h1, h2⟩
  rw [and32_one _ hb]
  unfold bitOf wrap64
  omega
set_option maxHeartbeats 400000 in
theorem meanBit_c (xs : List Int) (hs : Sc xs) (hok : okS xs = true) (f : Int) (hf : 0 ≤ f ∧ f ≤ 4294967295) (g : Nat) (hpos : 0 < cnt (bitOf f) 24) (w : World) (hgl : g < w.heap.size) (hgc : w.cell? ⟨g, 0, none⟩ = some (.int .u32 f)) :
    Calls Try.prog 88 #[.agg (arr .i8 xs), .func (.func 89) #[] #[.pointer (some ⟨g, 0, none⟩)]] w fun e w' => e = .returned (.int .i64 (sumC (bitOf f) xs 24 / cnt (bitOf f) 24)) ∧ Below w.heap.size w w' := by
  have HL := Lib.hid hs.1
  have hg := okS_get hok
  have hcw : Wt (bitOf f) := bit_wt f
  have H0 := Lib.hid (al1_0 w (.cells (arr .i8 xs) 27))
  have HP := Lib.hid hpos
  clear hpos
  go_enter Try.func88, Try.ntmps88
  go_wp2_with (refine wpList_load_row rfl 27 (.tmp 2) rfl _ rfl _ _ _ _ H0.out Try.underlying27 rfl (by rw [szScene, arr_size, HL.out]) ?_)
  go_loopw [5, 6, 11] (fun s m i wr => ∃ k : Nat, k ≤ 24 ∧ i = .int .i64 k ∧ s = .int .i64 (sumC (bitOf f) xs k) ∧ m = .int .i64 (cnt (bitOf f) k) ∧ Below w.heap.size w wr) (fun _ _ i _ => 24 - (intOf i).toNat)
  case atStart => exact ⟨0, Nat.zero_le _, rfl, rfl, rfl, bl1 _ _⟩
  case round =>
    obtain ⟨k, hk, rfl, rfl, rfl, hW⟩ := hrel
    have HW := Lib.hid hW
    clear hW
    have hsb := sumC_bd hcw hok k
    have hcb := cnt_bd hcw k
    obtain ⟨s1, s2⟩ := hsb
    obtain ⟨m1, m2⟩ := hcb
    by_cases hlt : k < 24
    · obtain ⟨x, hxe⟩ : ∃ x, x = xs.getD k 0 := ⟨_, rfl⟩
      have hx1 : 0 ≤ x := by rw [hxe]; exact (hg k).1
      have hx2 : x ≤ 60 := by rw [hxe]; exact (hg k).2
      have HX := Lib.hid hxe
      obtain ⟨c, hce⟩ : ∃ c, c = (bitOf f) k := ⟨_, rfl⟩
      have hc1 : 0 ≤ c := by rw [hce]; exact (hcw k).1
      have hc2 : c ≤ 3 := by rw [hce]; exact (hcw k).2
      have hm := mul_bd c x hc1 hc2 hx1 hx2
      obtain ⟨q1, q2⟩ := hm
      have HC := Lib.hid hce
      have HS : Hid (sumC (bitOf f) xs (k + 1) = sumC (bitOf f) xs k + c * x) := Lib.hid (by rw [hce, hxe]; rfl)
      have HN : Hid (cnt (bitOf f) (k + 1) = cnt (bitOf f) k + c) := Lib.hid (by rw [hce]; rfl)
      clear hxe hce
      generalize sumC (bitOf f) xs k = S at *
      generalize cnt (bitOf f) k = M at *
      go_wp2_with (first
        | (refine wpList_index_arr rfl 27 (.tmp 10) (.tmp 11) rfl xs rfl k rfl 24 22 Try.underlying27 (by kernel_rfl) Try.underlying22 hlt HL.out ?_; rw [← HX.out])
        | (go_at_call 89; refine (bitFn_c k hlt f hf g _ ((HW.out.cell (p := ⟨g, 0, none⟩) hgl).trans hgc)).mono ?_; rintro e w' ⟨rfl, rfl⟩; rw [← HC.out]))
      go_roundw
      case rel => exact ⟨k + 1, by omega, by go_num, by rw [HS.out] <;> rfl, by rw [HN.out] <;> rfl, HW.out⟩
      case measure => simp [intOf]; omega
    · have hk24 : k = 24 := by omega
      subst hk24
      have hpos := HP.out
      go_wp2
      go_ret
      exact ⟨rfl, HW.out⟩
end Go.Proofs.Ytmnidldpkkpeoaa
