/- MeanReading, WeightedReading, FieldMean: the program's and the reference's. -/
import Derived.Test.YtmnidldpkkpeoaaMean2
namespace Go.Proofs.Ytmnidldpkkpeoaa
open Go.RowKit
theorem sumC_congr {c d : Nat → Int} (xs : List Int) (n : Nat) (h : ∀ i, i < n → c i = d i) : sumC c xs n = sumC d xs n := by
  induction n with
  | zero => rfl
  | succ n ih => simp only [sumC]; rw [ih (fun i hi => h i (by omega)), h n (by omega)]
theorem cnt_congr {c d : Nat → Int} (n : Nat) (h : ∀ i, i < n → c i = d i) : cnt c n = cnt d n := by
  induction n with
  | zero => rfl
  | succ n ih => simp only [cnt]; rw [ih (fun i hi => h i (by omega)), h n (by omega)]
theorem bit_all (i : Nat) (h : i < 24) : bitOf 16777215 i = one i := by
  have : ∀ i : Fin 24, bitOf 16777215 i.val = one i.val := by decide
  exact this ⟨i, h⟩
theorem cnt_bit (f : Int) (k : Nat) (h : cnt (bitOf f) k = 0) : f % 2 ^ k = 0 := by
  induction k with
  | zero => simp
  | succ k ih =>
    have b1 := cnt_bd (bit_wt f) k
    have b2 := bit_wt f k
    simp only [cnt] at h
    have h1 := ih (by omega)
    have h2 : f / 2 ^ k % 2 = 0 := by have : bitOf f k = 0 := by omega
                                      exact this
    have hp : (0 : Int) < 2 ^ k := Int.pow_pos (by omega)
    have e1 := Int.emod_add_mul_ediv f (2 ^ k)
    have e2 := Int.emod_add_mul_ediv (f / 2 ^ k) 2
    rw [h1] at e1
    rw [h2] at e2
    rw [← e1, ← e2, Int.pow_succ]
    simp [← Int.mul_assoc]
theorem cnt_pos (f : Int) (h0 : 0 < f) (h1 : f < 16777216) : 0 < cnt (bitOf f) 24 := by
  have b := cnt_bd (bit_wt f) 24
  by_cases h : cnt (bitOf f) 24 = 0
  · have := cnt_bit f 24 h
    omega
  · omega
def meanOf (c : Nat → Int) (xs : List Int) : Int := sumC c xs 24 / cnt c 24
def meanV (xs : List Int) : Int × Int := if okS xs then (meanOf one xs, 0) else (0, 1)
def heavyV (xs : List Int) : Int × Int := if okS xs then (meanOf heavy xs, 0) else (0, 1)
def fieldV (xs : List Int) (f : Int) : Int × Int := if okS xs then (if f / 16777216 = 0 then (if f = 0 then (0, 4) else (meanOf (bitOf f) xs, 0)) else (0, 2)) else (0, 1)
set_option maxHeartbeats 400000 in
theorem l06Field_c (xs : List Int) (hs : Sc xs) (f : Int) (hf : 0 ≤ f ∧ f ≤ 4294967295) (g : Nat) (t : TypeId) (w : World) (hb : w.heap[g]? = some (.cells (arr .i8 xs) t (0, 0))) :
    Calls Try.prog 54 #[.pointer (some ⟨g, 0, none⟩), .int .u32 f] w fun e w' => e = .returned (.tuple #[.int .i64 (fieldV xs f).1, .int .i64 (fieldV xs f).2]) ∧ Below w.heap.size w w' := by
  have HB := Lib.hid hb
  clear hb
  cases hok : okS xs
  · have HV : Hid (fieldV xs f = (0, 1)) := Lib.hid (by simp [fieldV, hok])
    have HO := Lib.hid hok
    clear hok
    go_enter Try.func54, Try.ntmps54
    go_wp2_with fail
    refine (l06Ok_c xs hs _ _ _ HB.out).mono ?_
    rintro e w' ⟨rfl, rfl⟩
    rw [HO.out]
    go_wp2
    go_ret2
    exact ⟨by rw [HV.out] <;> rfl, Below.refl _ _⟩
  · by_cases h24 : f / 16777216 = 0
    · by_cases h0 : f = 0
      · subst h0
        have HV : Hid (fieldV xs 0 = (0, 4)) := Lib.hid (by simp [fieldV, hok])
        have HO := Lib.hid hok
        clear hok
        go_enter Try.func54, Try.ntmps54
        go_wp2_with fail
        refine (l06Ok_c xs hs _ _ _ HB.out).mono ?_
        rintro e w' ⟨rfl, rfl⟩
        rw [HO.out]
        go_wp2
        go_ret2
        exact ⟨by rw [HV.out] <;> rfl, Below.refl _ _⟩
      · have HV : Hid (fieldV xs f = (meanOf (bitOf f) xs, 0)) := Lib.hid (by simp [fieldV, hok, h24, h0])
        have hpos := cnt_pos f (by omega) (by omega)
        have e0 : (f == 0) = false := by simpa using h0
        have e1 : (f / 16777216 != 0) = false := by simp [h24]
        have HO := Lib.hid hok
        have HP := Lib.hid hpos
        have hlt : f < 16777216 := by omega
        clear hok hpos h24 h0
        go_enter Try.func54, Try.ntmps54
        go_wp2_with fail
        refine (l06Ok_c xs hs _ _ _ HB.out).mono ?_
        rintro e w' ⟨rfl, rfl⟩
        rw [HO.out]
        go_wp2_with fail
        refine (l06Counts_c f hf _).mono ?_
        rintro e w1 ⟨rfl, hb1⟩
        have hg := lt_of_heap HB.out
        have H1 := Lib.hid (heap_below hb1 hg HB.out)
        have hz1 := hb1.size
        go_wp2_with (refine wpList_store_row rfl 109 (.tmp 6) (.tmp 16) rfl _ _ rfl rfl _ _ (al1_0 _ _) (by rw [szC24, arr_size, wts_len]) (by rw [arr_size, wts_len]; rfl) (arr_one _ _) ?_)
        refine (l06Mean_c xs hs HO.out _ (bit_wt _) HP.out _ _ _ _ _ (by rw [setRow_other _ _ _ _ (by omega)]; exact heap_old _ _ (by omega) H1.out) (setRow_heap _ _ _ _ _ _ (al1_0 _ _))).mono ?_
        rintro e w2 ⟨rfl, hb2⟩
        go_wp2
        go_ret2
        exact ⟨by rw [HV.out] <;> rfl, bt (below_setRow (hb1.alloc hb1.size _) (by omega) _) hb2⟩
    · have HV : Hid (fieldV xs f = (0, 2)) := Lib.hid (by simp [fieldV, hok, h24])
      have e1 : (f / 16777216 != 0) = true := by simpa using h24
      have HO := Lib.hid hok
      clear hok h24
      go_enter Try.func54, Try.ntmps54
      go_wp2_with fail
      refine (l06Ok_c xs hs _ _ _ HB.out).mono ?_
      rintro e w' ⟨rfl, rfl⟩
      rw [HO.out]
      go_wp2
      go_ret2
      exact ⟨by rw [HV.out] <;> rfl, Below.refl _ _⟩
theorem specFieldMean_c (xs : List Int) (hs : Sc xs) (f : Int) (hf : 0 ≤ f ∧ f ≤ 4294967295) (w : World) :
    Calls Try.prog 21 #[.agg (arr .i8 xs), .int .u32 f] w fun e w' => e = .returned (.tuple #[.int .i64 (fieldV xs f).1, .int .i64 (fieldV xs f).2]) ∧ Below w.heap.size w w' := by
  go_enter Try.func21, Try.ntmps21
  go_wp2_with fail
  refine (l06Field_c xs hs f hf _ _ _ (al1_0 _ _)).mono ?_
  rintro e w1 ⟨rfl, hb1⟩
  go_wp2
  go_ret2
  exact ⟨rfl, bt (bl1 _ _) hb1⟩
end Go.Proofs.Ytmnidldpkkpeoaa
