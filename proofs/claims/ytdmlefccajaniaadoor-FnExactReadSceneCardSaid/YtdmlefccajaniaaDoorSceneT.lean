/- The text of a scene: the reference's. -/
import Derived.Test.YtdmlefccajaniaaDoorScene
import Derived.Test.YtdmlefccajaniaaDoorDec
namespace Go.Proofs.YtdmlefccajaniaaDoor
open Go.RowKit
def dgI (x : Int) : ByteArray := dgS x.toNat
theorem dgS_size {n : Nat} (h : n < 100) : (dgS n).size ≤ 2 := by
  by_cases h1 : n < 10
  · unfold dgS; rw [dg_one h1]; show (1 : Nat) ≤ 2; omega
  · unfold dgS; rw [dg_two h1, dg_one (show n / 10 < 10 by omega)]; show (2 : Nat) ≤ 2; omega
def sepB (k : Nat) : ByteArray := if k = 0 then ⟨#[]⟩ else if k % 6 = 0 then ⟨#[47]⟩ else ⟨#[32]⟩
/-- The text of the first k cells. -/
def scT (xs : List Int) : Nat → ByteArray
  | 0 => ⟨#[]⟩
  | k + 1 => (scT xs k ++ sepB k) ++ dgI (xs.getD k 0)
theorem scT_size (xs : List Int) (h : ∀ k, 0 ≤ xs.getD k 0 ∧ xs.getD k 0 ≤ 60) : ∀ k, (scT xs k).size ≤ 3 * k
  | 0 => Nat.le_refl _
  | k + 1 => by
    have ih := scT_size xs h k
    have hd := dgS_size (n := (xs.getD k 0).toNat) (by have := h k; omega)
    have hs : (sepB k).size ≤ 1 := by
      unfold sepB; split
      · decide
      · split <;> decide
    show ((scT xs k ++ sepB k) ++ dgS (xs.getD k 0).toNat).size ≤ _
    rw [ByteArray.size_append, ByteArray.size_append]
    omega
theorem okS_all {xs : List Int} (h : okS xs = true) (k : Nat) : 0 ≤ xs.getD k 0 ∧ xs.getD k 0 ≤ 60 := okS_get h k
set_option maxHeartbeats 2000000 in
set_option maxRecDepth 100000 in
theorem l06Text_c (xs : List Int) (hs : Sc xs) (hok : okS xs = true) (g : Nat) (t : TypeId) (w : World) (hb : w.heap[g]? = some (.cells (arr .i8 xs) t (0, 0))) :
    Calls Tryd.prog 72 #[.pointer (some ⟨g, 0, none⟩)] w fun e w' => e = .returned (.string (scT xs 24)) ∧ Below w.heap.size w w' := by
  have HL := Lib.hid hs.1
  have HB := Lib.hid hb
  have HA := Lib.hid (okS_all hok)
  clear hb hok
  go_enter Tryd.func72, Tryd.ntmps72
  go_wp2
  go_loopw [3, 4] (fun ov iv wr => ∃ k : Nat, k ≤ 24 ∧ iv = .int .i64 k ∧ ov = .string (scT xs k) ∧ Below w.heap.size w wr) (fun _ iv _ => 24 - (intOf iv).toNat)
  case atStart => exact ⟨0, Nat.zero_le _, rfl, rfl, Below.refl _ _⟩
  case round =>
    obtain ⟨k, hk, rfl, rfl, hW⟩ := hrel
    have HW := Lib.hid hW
    clear hW
    by_cases hlt : k < 24
    · have hk24 : (k : Int) < 24 := by omega
      have hcell := arr_cell (heap_below HW.out (lt_of_heap HB.out) HB.out) k (by rw [HL.out]; exact hlt)
      have hx := HA.out k
      have hsz := scT_size xs HA.out k
      have hst := Lib.hid (show scT xs (k + 1) = (scT xs k ++ sepB k) ++ dgI (xs.getD k 0) from rfl)
      generalize scT xs k = out at *
      generalize xs.getD k 0 = x at *
      obtain ⟨n, rfl⟩ : ∃ n : Nat, x = n := ⟨x.toNat, by omega⟩
      have hn : n < 100 := by omega
      have hst2 : Hid (scT xs (k + 1) = (out ++ sepB k) ++ dgS n) := Lib.hid hst.out
      have hdz := dgS_size hn
      clear hst
      by_cases h0 : k = 0
      · subst h0
        have hs1 : Hid (out ++ sepB 0 = out) := Lib.hid (by apply ByteArray.ext; rw [ByteArray.data_append]; show out.data ++ #[] = out.data; simp)
        have hz : ¬ 9223372036854775807 < out.size + (dgS n).size := by omega
        go_wp2_with fail
        refine (specDec_c n hn _).mono ?_
        rintro e w1 ⟨rfl, hb1⟩
        have HW1 := Lib.hid (bt HW.out hb1)
        clear hb1
        go_wp2
        go_roundw
        case rel => exact ⟨1, by omega, rfl, by rw [hst2.out, hs1.out], HW1.out⟩
        case measure => simp [intOf]
      · have h0i : ((k : Int) == 0) = false := by simp; omega
        by_cases h6 : k % 6 = 0
        · have ht : (k : Int).tmod 6 = 0 := by rw [Int.tmod_eq_emod_of_nonneg (by omega)]; omega
          have hs1 : Hid (sepB k = ⟨#[47]⟩) := Lib.hid (by unfold sepB; rw [if_neg h0, if_pos h6])
          have hz : ¬ 9223372036854775807 < out.size + 1 := by omega
          have hz2 : ¬ 9223372036854775807 < (out ++ ⟨#[47]⟩ : ByteArray).size + (dgS n).size := by rw [ByteArray.size_append]; have : (⟨#[47]⟩ : ByteArray).size = 1 := rfl; omega
          go_wp2_with fail
          refine (specDec_c n hn _).mono ?_
          rintro e w1 ⟨rfl, hb1⟩
          have HW1 := Lib.hid (bt HW.out hb1)
          clear hb1
          go_wp2
          go_roundw
          case rel => exact ⟨k + 1, by omega, by go_num, by rw [hst2.out, hs1.out], HW1.out⟩
          case measure => simp [intOf]; omega
        · have ht : ((k : Int).tmod 6 == 0) = false := by rw [Int.tmod_eq_emod_of_nonneg (by omega)]; simp; omega
          have ht2 : ((k : Int) % 6 == 0) = false := by simp; omega
          have hs1 : Hid (sepB k = ⟨#[32]⟩) := Lib.hid (by unfold sepB; rw [if_neg h0, if_neg h6])
          have hz : ¬ 9223372036854775807 < out.size + 1 := by omega
          have hz2 : ¬ 9223372036854775807 < (out ++ ⟨#[32]⟩ : ByteArray).size + (dgS n).size := by rw [ByteArray.size_append]; have : (⟨#[32]⟩ : ByteArray).size = 1 := rfl; omega
          go_wp2_with fail
          refine (specDec_c n hn _).mono ?_
          rintro e w1 ⟨rfl, hb1⟩
          have HW1 := Lib.hid (bt HW.out hb1)
          clear hb1
          go_wp2
          go_roundw
          case rel => exact ⟨k + 1, by omega, by go_num, by rw [hst2.out, hs1.out], HW1.out⟩
          case measure => simp [intOf]; omega
    · have hk24 : ¬ (k : Int) < 24 := by omega
      have hke : k = 24 := by omega
      subst hke
      go_wp2
      go_ret
      exact ⟨rfl, HW.out⟩
end Go.Proofs.YtdmlefccajaniaaDoor
