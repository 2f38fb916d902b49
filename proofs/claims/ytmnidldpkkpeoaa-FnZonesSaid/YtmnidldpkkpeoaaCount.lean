/- CountZones: the program's and the reference's. -/
import Derived.Test.YtmnidldpkkpeoaaZonesOf
import Derived.Test.YtmnidldpkkpeoaaSet
import Derived.Test.YtmnidldpkkpeoaaStoreArr
import Derived.Deep.DeepCutAuto
namespace Go.Proofs.Ytmnidldpkkpeoaa
open Go.RowKit
abbrev z11 : List Int := List.replicate 11 0
def z11a : Array Value := arr .i64 z11
theorem z11a_eq : (#[.int .i64 0, .int .i64 0, .int .i64 0, .int .i64 0, .int .i64 0, .int .i64 0, .int .i64 0, .int .i64 0, .int .i64 0, .int .i64 0, .int .i64 0] : Array Value) = z11a := rfl
theorem szI11 : (Try.prog.info? 46).map (·.size) = some 11 := by kernel_rfl
/-- How many of the first k cells are in each zone. -/
def czL (xs : List Int) (r z : Int) : Nat → List Int
  | 0 => z11
  | k + 1 => if 0 ≤ znV r z (xs.getD k 0) ∧ znV r z (xs.getD k 0) ≤ 10 then (czL xs r z k).set (znV r z (xs.getD k 0)).toNat ((czL xs r z k).getD (znV r z (xs.getD k 0)).toNat 0 + 1) else czL xs r z k
theorem czL_len (xs : List Int) (r z : Int) (k : Nat) : (czL xs r z k).length = 11 := by
  induction k with
  | zero => simp [czL]
  | succ k ih => simp only [czL]; split <;> simp [ih]
theorem czL_bd (xs : List Int) (r z : Int) (k j : Nat) : 0 ≤ (czL xs r z k).getD j 0 ∧ (czL xs r z k).getD j 0 ≤ k := by
  induction k with
  | zero =>
    simp only [czL, List.getD_eq_getElem?_getD, List.getElem?_replicate]
    split <;> simp
  | succ k ih =>
    simp only [czL]
    split
    · rw [List.getD_eq_getElem?_getD, List.getElem?_set]
      split
      · split
        · rename_i h _; subst h; simp only [Option.getD_some]; omega
        · simp only [Option.getD_none]; omega
      · rw [← List.getD_eq_getElem?_getD]; omega
    · omega
def czV (xs : List Int) (r z : Int) : List Int × Nat × Nat × Int := if bothV xs r z = 0 then (czL xs r z 24, howMany (lowP xs r z) 24, howMany (highP xs r z) 24, 0) else (z11, 0, 0, 1)
theorem results_cttt {P : Program} {fn : Func} {p t t2 t3 : Tmp} {ty : TypeId} (h : fn.results = #[.cell p ty, .tmp t, .tmp t2, .tmp t3]) (tmps : Array Value) (w : World) (g : Nat) (tt : TypeId) (cs : Array Value) (fr : Nat × Nat) (d : TypeDesc)
    (hp : tmps.getD p undef = .pointer (some ⟨g, 0, none⟩)) (hg : w.heap[g]? = some (.cells cs tt fr))
    (hu : P.underlying ty = some d) (hd : (match d with | .struct _ | .array _ _ => true | _ => false) = true) (hi : (P.info? ty).map (·.size) = some cs.size) :
    (results fn tmps).run P w = .ok (.tuple #[.agg cs, tmps.getD t undef, tmps.getD t2 undef, tmps.getD t3 undef]) w := by
  have hp' : tmps[p]?.getD undef = .pointer (some ⟨g, 0, none⟩) := by simpa using hp
  simp [results, h, hp', asAddr, run_loadVar_row w g tt ty cs fr d hg hu hd hi]
set_option maxHeartbeats 2000000 in
set_option maxRecDepth 100000 in
theorem implCountZones_c (xs : List Int) (hs : Sc xs) (r z : Int) (hr : -128 ≤ r ∧ r ≤ 127) (hz : -128 ≤ z ∧ z ≤ 127) (w : World) :
    Calls Try.prog 26 #[.agg (arr .i8 xs), .agg #[.int .i8 r, .int .i8 z]] w fun e w' => e = .returned (.tuple #[.agg (arr .i64 (czV xs r z).1), .int .i64 ((czV xs r z).2.1 : Nat), .int .i64 ((czV xs r z).2.2.1 : Nat), .int .i64 (czV xs r z).2.2.2]) ∧ Below w.heap.size w w' := by
  have HL := Lib.hid hs.1
  have HZ : Hid ((zonesL xs r z).length = 24) := Lib.hid (by rw [zonesL_len, HL.out])
  have K0 := Lib.hid (al3_0 w (.cells (arr .i8 xs) 27) (.cells #[.int .i8 r, .int .i8 z] 42) (.cells z11a 46))
  have K1 := Lib.hid (al3_1 w (.cells (arr .i8 xs) 27) (.cells #[.int .i8 r, .int .i8 z] 42) (.cells z11a 46))
  have K2 := Lib.hid (al3_2 w (.cells (arr .i8 xs) 27) (.cells #[.int .i8 r, .int .i8 z] 42) (.cells z11a 46))
  have HW0 := Lib.hid (bl3 w (.cells (arr .i8 xs) 27) (.cells #[.int .i8 r, .int .i8 z] 42) (.cells z11a 46))
  rcases both_01 xs r z with hb | hb
  · have HV : Hid (czV xs r z = (czL xs r z 24, howMany (lowP xs r z) 24, howMany (highP xs r z) 24, 0)) := Lib.hid (by simp [czV, hb])
    obtain ⟨hok, hp⟩ := both_split hb
    have hg := okS_get hok
    have HB := Lib.hid hb
    clear hb
    go_enter Try.func26, Try.ntmps26
    go_wp2_with (rw [z11a_eq]; refine wpList_load_row rfl 27 (.tmp 2) rfl _ rfl _ _ _ _ K0.out Try.underlying27 rfl (by rw [szScene, arr_size, HL.out]) ?_; generalize (((w.alloc (.cells (arr .i8 xs) 27)).alloc (.cells #[.int .i8 r, .int .i8 z] 42)).alloc (.cells z11a 46)) = w4 at *; have c0 := bk2_0 K1.out; have c1 := bk2_1 K1.out)
    refine (placeCode_c xs hs r z hr hz _).mono ?_
    rintro e w1 ⟨rfl, hb1⟩
    rw [HB.out]
    have H0 := Lib.hid (heap_below hb1 (lt_of_heap K0.out) K0.out)
    have H1 := Lib.hid (heap_below hb1 (lt_of_heap K1.out) K1.out)
    have H2 := Lib.hid (heap_below hb1 (lt_of_heap K2.out) K2.out)
    have HW1 := Lib.hid (bt HW0.out hb1)
    clear K0 K1 K2 hb1 HW0
    have N0 := Lib.hid (heap_old (.cells z11a 46) _ (lt_of_heap H0.out) H0.out)
    have N1 := Lib.hid (heap_old (.cells z11a 46) _ (lt_of_heap H1.out) H1.out)
    have N2 := Lib.hid (heap_old (.cells z11a 46) _ (lt_of_heap H2.out) H2.out)
    have N3 := Lib.hid (al1_0 w1 (.cells z11a 46))
    have NW := Lib.hid (bt HW1.out (bl1 w1 (.cells z11a 46)))
    have G1 : w.heap.size + 1 + 1 < w1.heap.size := lt_of_heap H2.out
    clear H0 H1 H2 HW1
    go_wp2_with (first
      | (rw [z11a_eq]; refine wpList_store_row rfl 46 (.tmp 9) (.tmp 21) rfl _ z11a rfl rfl _ z11a N3.out (by rw [szI11]; rfl) rfl (arr_one .i64 z11) ?_; rw [setRow_id _ _ _ _ _ N3.out]; generalize (w1.alloc (.cells z11a 46)) = w5 at *; have c0 := bk2_0 N1.out; have c1 := bk2_1 N1.out)
      | (refine wpList_load_row rfl 27 (.tmp 2) rfl _ rfl _ _ _ _ N0.out Try.underlying27 rfl (by rw [szScene, arr_size, HL.out]) ?_))
    refine (zones_c xs hs hok r z hp _).mono ?_
    rintro e w2 ⟨rfl, hb2⟩
    have M2 := Lib.hid (heap_below hb2 (lt_of_heap N2.out) N2.out)
    have M3 := Lib.hid (heap_below hb2 (lt_of_heap N3.out) N3.out)
    have MW := Lib.hid (bt NW.out hb2)
    clear N0 N1 N2 N3 NW hb2
    generalize w1.heap.size = G at *
    go_wp2
    go_loopw [10, 11, 25] (fun b a i wr => ∃ k : Nat, k ≤ 24 ∧ i = .int .i64 k ∧ b = .int .i64 (howMany (lowP xs r z) k : Nat) ∧ a = .int .i64 (howMany (highP xs r z) k : Nat) ∧ wr.heap[w.heap.size + 1 + 1]? = some (.cells z11a 46 (0, 0)) ∧
        wr.heap[G]? = some (.cells (arr .i64 (czL xs r z k)) 46 (0, 0)) ∧ Below w.heap.size w wr) (fun _ _ i _ => 24 - (intOf i).toNat)
    case atStart => exact ⟨0, Nat.zero_le _, rfl, rfl, rfl, M2.out, M3.out, MW.out⟩
    case round =>
      clear M2 M3 MW
      obtain ⟨k, hk, rfl, rfl, rfl, hB, hC, hW⟩ := hrel
      have HB := Lib.hid hB
      have HC := Lib.hid hC
      have HW := Lib.hid hW
      clear hB hC hW
      by_cases hlt : k < 24
      · obtain ⟨v, hv⟩ : ∃ v, v = znV r z (xs.getD k 0) := ⟨_, rfl⟩
        have hzb := zn_bd hp (hg k)
        rw [← hv] at hzb
        have HS : Hid ((zonesL xs r z).getD k 0 = v) := Lib.hid (by rw [zonesL_get _ _ _ _ (by rw [HL.out]; exact hlt), hv])
        have HV := Lib.hid hv
        have E1 : Hid (howMany (lowP xs r z) (k + 1) = howMany (lowP xs r z) k + if lowP xs r z k then 1 else 0) := Lib.hid rfl
        have E2 : Hid (howMany (highP xs r z) (k + 1) = howMany (highP xs r z) k + if highP xs r z k then 1 else 0) := Lib.hid rfl
        have E3 : Hid (czL xs r z (k + 1) = if 0 ≤ v ∧ v ≤ 10 then (czL xs r z k).set v.toNat ((czL xs r z k).getD v.toNat 0 + 1) else czL xs r z k) := Lib.hid (by simp only [czL]; rw [← hv])
        have b1 := howMany_le (lowP xs r z) k
        have b2 := howMany_le (highP xs r z) k
        obtain ⟨q1, q2⟩ := hzb
        clear hv
        generalize howMany (lowP xs r z) k = lo at *
        generalize howMany (highP xs r z) k = hi at *
        by_cases c1 : v < 0
        · have HP1 : Hid (lowP xs r z k = true) := Lib.hid (by simp only [lowP]; rw [← HV.out]; simpa using c1)
          have HP2 : Hid (highP xs r z k = false) := Lib.hid (by simp only [highP]; rw [← HV.out]; simp; omega)
          have c3 : ¬ (0 ≤ v ∧ v ≤ 10) := by omega
          have C3 := Lib.hid c3
          clear c3
          go_wp2_with (refine wpList_index_arr rfl 23 (.tmp 24) (.tmp 25) rfl _ rfl k rfl 24 22 Try.underlying23 (by kernel_rfl) Try.underlying22 hlt HZ.out ?_; rw [HS.out])
          go_roundw
          case rel => exact ⟨k + 1, by omega, by go_num, by rw [E1.out, HP1.out]; go_num, by rw [E2.out, HP2.out]; go_num, HB.out, by rw [E3.out, if_neg C3.out]; exact HC.out, HW.out⟩
          case measure => simp [intOf]; omega
        · by_cases c2 : 11 ≤ v
          · have HP1 : Hid (lowP xs r z k = false) := Lib.hid (by simp only [lowP]; rw [← HV.out]; simpa using c1)
            have HP2 : Hid (highP xs r z k = true) := Lib.hid (by simp only [highP]; rw [← HV.out]; simpa using c2)
            have c3 : ¬ (0 ≤ v ∧ v ≤ 10) := by omega
            have C3 := Lib.hid c3
            clear c3
            go_wp2_with (refine wpList_index_arr rfl 23 (.tmp 24) (.tmp 25) rfl _ rfl k rfl 24 22 Try.underlying23 (by kernel_rfl) Try.underlying22 hlt HZ.out ?_; rw [HS.out])
            go_roundw
            case rel => exact ⟨k + 1, by omega, by go_num, by rw [E1.out, HP1.out]; go_num, by rw [E2.out, HP2.out]; go_num, HB.out, by rw [E3.out, if_neg C3.out]; exact HC.out, HW.out⟩
            case measure => simp [intOf]; omega
          · have HP1 : Hid (lowP xs r z k = false) := Lib.hid (by simp only [lowP]; rw [← HV.out]; simpa using c1)
            have HP2 : Hid (highP xs r z k = false) := Lib.hid (by simp only [highP]; rw [← HV.out]; simpa using c2)
            obtain ⟨j, rfl⟩ : ∃ j : Nat, v = j := ⟨v.toNat, by omega⟩
            have C3 : Hid ((0 : Int) ≤ (j : Int) ∧ (j : Int) ≤ 10) := Lib.hid ⟨by omega, by omega⟩
            have CL := Lib.hid (czL_len xs r z k)
            have hj : j < 11 := by omega
            have hcell := arr_cell HC.out j (by rw [CL.out]; exact hj)
            have hfr : wr.frozen? ⟨G, j, none⟩ = false := frozen_of_row _ _ _ _ _ HC.out
            obtain ⟨d1, d2⟩ := czL_bd xs r z k j
            obtain ⟨y, hy⟩ : ∃ y, y = (czL xs r z k).getD j 0 := ⟨_, rfl⟩
            rw [← hy] at hcell d1 d2
            have HY := Lib.hid hy
            clear hy
            go_wp2_with (refine wpList_index_arr rfl 23 (.tmp 24) (.tmp 25) rfl _ rfl k rfl 24 22 Try.underlying23 (by kernel_rfl) Try.underlying22 hlt HZ.out ?_; rw [HS.out])
            go_roundw
            case rel => exact ⟨k + 1, by omega, by go_num, by rw [E1.out, HP1.out]; go_num, by rw [E2.out, HP2.out]; go_num, heap_far _ (by simp <;> omega) HB.out, by rw [E3.out, if_pos C3.out, Int.toNat_natCast, ← HY.out]; exact arr_store HC.out j (y + 1), HW.out.setCell (by simp <;> omega) _⟩
            case measure => simp [intOf]; omega
      · have hk24 : k = 24 := by omega
        subst hk24
        have CL := Lib.hid (czL_len xs r z 24)
        go_wp2_with (first
          | (refine wpList_load_row rfl 46 (.tmp 9) rfl _ rfl _ _ _ _ HC.out Try.underlying46 rfl (by rw [szI11, arr_size, CL.out]) ?_)
          | (refine wpList_store_row rfl 46 (.tmp 4) (.tmp 44) rfl _ _ rfl rfl _ _ HB.out (by rw [szI11, arr_size, CL.out]) (by rw [arr_size, CL.out]; rfl) (arr_one _ _) ?_))
        exact bodyPost_ret (results_cttt rfl _ _ _ 46 _ _ _ rfl (setRow_heap _ _ _ _ _ _ HB.out) Try.underlying46 rfl (by rw [szI11, arr_size, CL.out])) rfl ⟨by rw [HV.out] <;> rfl, below_setRow HW.out (by omega) _⟩
  · have HV : Hid (czV xs r z = (z11, 0, 0, 1)) := Lib.hid (by simp [czV, hb])
    have HB := Lib.hid hb
    clear hb
    go_enter Try.func26, Try.ntmps26
    go_wp2_with (rw [z11a_eq]; refine wpList_load_row rfl 27 (.tmp 2) rfl _ rfl _ _ _ _ K0.out Try.underlying27 rfl (by rw [szScene, arr_size, HL.out]) ?_; generalize (((w.alloc (.cells (arr .i8 xs) 27)).alloc (.cells #[.int .i8 r, .int .i8 z] 42)).alloc (.cells z11a 46)) = w4 at *; have c0 := bk2_0 K1.out; have c1 := bk2_1 K1.out)
    refine (placeCode_c xs hs r z hr hz _).mono ?_
    rintro e w1 ⟨rfl, hb1⟩
    rw [HB.out]
    have H2 := Lib.hid (heap_below hb1 (lt_of_heap K2.out) K2.out)
    have HW1 := Lib.hid (bt HW0.out hb1)
    clear K0 K1 K2 hb1 HW0
    go_wp2_with (rw [z11a_eq]; refine wpList_store_row rfl 46 (.tmp 4) (.tmp 19) rfl _ z11a rfl rfl _ z11a H2.out (by rw [szI11]; rfl) rfl (arr_one .i64 z11) ?_)
    exact bodyPost_ret (results_cttt rfl _ _ _ 46 _ _ _ rfl (setRow_heap _ _ _ _ _ _ H2.out) Try.underlying46 rfl (by rw [szI11]; rfl)) rfl ⟨by rw [HV.out] <;> rfl, below_setRow HW1.out (by omega) _⟩
end Go.Proofs.Ytmnidldpkkpeoaa
