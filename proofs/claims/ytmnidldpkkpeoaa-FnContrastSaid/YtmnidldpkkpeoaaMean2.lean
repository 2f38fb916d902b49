/- The reference's means. -/
import Derived.Test.YtmnidldpkkpeoaaMean
namespace Go.Proofs.Ytmnidldpkkpeoaa
open Go.RowKit
theorem szC24 : (Try.prog.info? 109).map (·.size) = some 24 := by kernel_rfl
def wts (c : Nat → Int) : List Int := (List.range 24).map c
theorem wts_len (c : Nat → Int) : (wts c).length = 24 := by simp [wts]
theorem wts_get (c : Nat → Int) (k : Nat) (h : k < 24) : (wts c).getD k 0 = c k := by simp [wts, List.getD_eq_getElem?_getD, h]
set_option maxHeartbeats 400000 in
theorem l06Counts_c (f : Int) (hf : 0 ≤ f ∧ f ≤ 4294967295) (w : World) :
    Calls Try.prog 80 #[.int .u32 f] w fun e w' => e = .returned (.agg (arr .i64 (wts (bitOf f)))) ∧ Below w.heap.size w w' := by
  have HL := Lib.hid (wts_len (bitOf f))
  have K0 := Lib.hid (al2_0 w (.cells (arr .i64 (List.replicate 24 0)) 109) (.cells (arr .i64 (List.replicate 24 0)) 109))
  have K1 := Lib.hid (al2_1 w (.cells (arr .i64 (List.replicate 24 0)) 109) (.cells (arr .i64 (List.replicate 24 0)) 109))
  go_enter Try.func80, Try.ntmps80
  go_wp2_with (refine wpList_store_row rfl 109 (.tmp 3) (.tmp 5) rfl _ (arr .i64 (List.replicate 24 0)) rfl rfl _ (arr .i64 (List.replicate 24 0)) K1.out (by rw [szC24]; rfl) rfl (arr_one _ _) ?_)
  go_loopw [4] (fun i wr => ∃ k : Nat, k ≤ 24 ∧ i = .int .i64 k ∧ wr.heap[w.heap.size]? = some (.cells (arr .i64 (List.replicate 24 0)) 109 (0, 0)) ∧
      wr.heap[w.heap.size + 1]? = some (.cells (arr .i64 ((wts (bitOf f)).take k ++ List.replicate (24 - k) 0)) 109 (0, 0)) ∧ Below w.heap.size w wr) (fun i _ => 24 - (intOf i).toNat)
  case atStart => exact ⟨0, Nat.zero_le _, rfl, by rw [setRow_other _ _ _ _ (by simp)]; exact K0.out, setRow_heap _ _ _ _ _ _ K1.out, below_setRow (bl2 _ _ _) (by omega) _⟩
  case round =>
    obtain ⟨k, hk, rfl, hA, hB, hW⟩ := hrel
    have HA := Lib.hid hA
    have HB := Lib.hid hB
    have HW := Lib.hid hW
    clear hA hB hW
    by_cases hlt : k < 24
    · have hcell2 := arr_cell HB.out k (by simp [HL.out]; omega)
      have hfr : wr.frozen? ⟨w.heap.size + 1, k, none⟩ = false := frozen_of_row _ _ _ _ _ HB.out
      have hbd := shr_bd f k hf
      obtain ⟨b1, b2⟩ := hbd
      obtain ⟨f1, f2⟩ := hf
      go_wp2
      go_roundw
      case rel =>
        exact ⟨k + 1, by omega, by go_num, heap_far _ (by simp) HA.out, by rw [← set_step _ _ _ HL.out hlt, wts_get _ _ hlt]; exact arr_store HB.out _ _, HW.out.setCell (by simp) _⟩
      case measure => simp [intOf]; omega
    · have hk24 : k = 24 := by omega
      subst hk24
      have HC2 : Hid (wr.heap[w.heap.size + 1]? = some (.cells (arr .i64 (wts (bitOf f))) 109 (0, 0))) := Lib.hid (by
        have := HB.out
        rwa [List.take_of_length_le (by rw [HL.out]; omega), Nat.sub_self, List.replicate_zero, List.append_nil] at this)
      go_wp2_with (first
        | (refine wpList_load_row rfl 109 (.tmp 3) rfl _ rfl _ _ _ _ HC2.out Try.underlying109 rfl (by rw [szC24, arr_size, HL.out]) ?_)
        | (refine wpList_store_row rfl 109 (.tmp 2) (.tmp 18) rfl _ _ rfl rfl _ _ HA.out (by rw [szC24, arr_size, HL.out]) (by rw [arr_size, arr_size, HL.out]; rfl) (arr_one _ _) ?_))
      exact bodyPost_ret (results_cell_row rfl _ _ _ _ _ _ _ rfl (setRow_heap _ _ _ _ _ _ HA.out) Try.underlying109 rfl (by rw [szC24, arr_size, HL.out])) rfl ⟨rfl, below_setRow HW.out (by omega) _⟩
set_option maxHeartbeats 400000 in
theorem l06Mean_c (xs : List Int) (hs : Sc xs) (hok : okS xs = true) (c : Nat → Int) (hcw : Wt c) (hpos : 0 < cnt c 24) (g1 g2 : Nat) (t1 t2 : TypeId) (w : World)
    (h1 : w.heap[g1]? = some (.cells (arr .i8 xs) t1 (0, 0))) (h2 : w.heap[g2]? = some (.cells (arr .i64 (wts c)) t2 (0, 0))) :
    Calls Try.prog 81 #[.pointer (some ⟨g1, 0, none⟩), .pointer (some ⟨g2, 0, none⟩)] w fun e w' => e = .returned (.int .i64 (sumC c xs 24 / cnt c 24)) ∧ Below w.heap.size w w' := by
  have HL := Lib.hid hs.1
  have hg := okS_get hok
  have HP := Lib.hid hpos
  have H1 := Lib.hid h1
  have H2 := Lib.hid h2
  clear hpos h1 h2
  go_enter Try.func81, Try.ntmps81
  go_wp2
  go_loopw [5, 6, 7] (fun s m i wr => ∃ k : Nat, k ≤ 24 ∧ i = .int .i64 k ∧ s = .int .i64 (sumC c xs k) ∧ m = .int .i64 (cnt c k) ∧ Below w.heap.size w wr) (fun _ _ i _ => 24 - (intOf i).toNat)
  case atStart => exact ⟨0, Nat.zero_le _, rfl, rfl, rfl, Below.refl _ _⟩
  case round =>
    obtain ⟨k, hk, rfl, rfl, rfl, hW⟩ := hrel
    have HW := Lib.hid hW
    clear hW
    have hsb := sumC_bd hcw hok k
    have hcb := cnt_bd hcw k
    obtain ⟨s1, s2⟩ := hsb
    obtain ⟨m1, m2⟩ := hcb
    by_cases hlt : k < 24
    · obtain ⟨x, hxe⟩ : ∃ x, x = xs.getD k 0 := ⟨_, rfl⟩
      have hx1 : 0 ≤ x := by rw [hxe]; exact (hg k).1
      have hx2 : x ≤ 60 := by rw [hxe]; exact (hg k).2
      obtain ⟨d, hce⟩ : ∃ d, d = c k := ⟨_, rfl⟩
      have hc1 : 0 ≤ d := by rw [hce]; exact (hcw k).1
      have hc2 : d ≤ 3 := by rw [hce]; exact (hcw k).2
      have hm := mul_bd d x hc1 hc2 hx1 hx2
      obtain ⟨q1, q2⟩ := hm
      have e1 : wr.cell? ⟨g1, k, none⟩ = some (.int .i8 x) := by rw [hxe]; exact arr_cell (heap_below HW.out (lt_of_heap H1.out) H1.out) k (by rw [HL.out]; exact hlt)
      have e2 : wr.cell? ⟨g2, k, none⟩ = some (.int .i64 d) := by rw [hce, ← wts_get c k hlt]; exact arr_cell (heap_below HW.out (lt_of_heap H2.out) H2.out) k (by rw [wts_len]; exact hlt)
      have HS : Hid (sumC c xs (k + 1) = sumC c xs k + d * x) := Lib.hid (by rw [hce, hxe]; rfl)
      have HN : Hid (cnt c (k + 1) = cnt c k + d) := Lib.hid (by rw [hce]; rfl)
      clear hxe hce
      generalize sumC c xs k = S at *
      generalize cnt c k = M at *
      go_wp2
      go_quiet (fail)
      go_wp2
      go_roundw
      case rel => exact ⟨k + 1, by omega, by go_num, by rw [HS.out] <;> rfl, by rw [HN.out] <;> rfl, bl_drewN HW.out _⟩
      case measure => simp [intOf]; omega
    · have hk24 : k = 24 := by omega
      subst hk24
      have hpos := HP.out
      go_wp2
      go_ret
      exact ⟨rfl, HW.out⟩
end Go.Proofs.Ytmnidldpkkpeoaa
