/- CountZones: the program's and the reference's. -/
import Derived.Test.YtejkdiinohndiaaZonesOf
import Derived.Test.YtejkdiinohndiaaSet
import Derived.Test.YtejkdiinohndiaaStoreArr
import Derived.Deep.DeepCutAuto
namespace Go.Proofs.Ytejkdiinohndiaa
open Go.RowKit
abbrev z11 : List Int := List.replicate 11 0
def z11a : Array Value := arr .i64 z11
theorem z11a_eq : (#[.int .i64 0, .int .i64 0, .int .i64 0, .int .i64 0, .int .i64 0, .int .i64 0, .int .i64 0, .int .i64 0, .int .i64 0, .int .i64 0, .int .i64 0] : Array Value) = z11a := rfl
theorem szI11 : (Try.prog.info? 70).map (·.size) = some 11 := by kernel_rfl
/-- How many of the first k cells are in each zone. -/
def czL (xs : List Int) (r z : Int) : Nat → List Int
  | 0 => z11
  | k + 1 => if 0 ≤ znV r z (xs.getD k 0) ∧ znV r z (xs.getD k 0) ≤ 10 then (czL xs r z k).set (znV r z (xs.getD k 0)).toNat ((czL xs r z k).getD (znV r z (xs.getD k 0)).toNat 0 + 1) else czL xs r z k
theorem czL_len (xs : List Int) (r z : Int) (k : Nat) : (czL xs r z k).length = 11 := by
  induction k with
  | zero => simp [czL]
  | succ k ih => simp only [czL]; split <;> simp [ih]
theorem czL_bd (xs : List Int) (r z : Int) (k j : Nat) : 0 ≤ (czL xs r z k).getD j 0 ∧ (czL xs r z k).getD j 0 ≤ k := by
  induction k with
  | zero =>
    simp only [czL, List.getD_eq_getElem?_getD, List.getElem?_replicate]
    split <;> simp
  | succ k ih =>
    simp only [czL]
    split
    · rw [List.getD_eq_getElem?_getD, List.getElem?_set]
      split
      · split
        · rename_i h _; subst h; simp only [Option.getD_some]; omega
        · simp only [Option.getD_none]; omega
      · rw [← List.getD_eq_getElem?_getD]; omega
    · omega
def czV (xs : List Int) (r z : Int) : List Int × Nat × Nat × Int := if bothV xs r z = 0 then (czL xs r z 24, howMany (lowP xs r z) 24, howMany (highP xs r z) 24, 0) else (z11, 0, 0, 1)
theorem results_cttt {P : Program} {fn : Func} {p t t2 t3 : Tmp} {ty : TypeId} (h : fn.results = #[.cell p ty, .tmp t, .tmp t2, .tmp t3]) (tmps : Array Value) (w : World) (g : Nat) (tt : TypeId) (cs : Array Value) (fr : Nat × Nat) (d : TypeDesc)
    (hp : tmps.getD p undef = .pointer (some ⟨g, 0, none⟩)) (hg : w.heap[g]? = some (.cells cs tt fr))
    (hu : P.underlying ty = some d) (hd : (match d with | .struct _ | .array _ _ => true | _ => false) = true) (hi : (P.info? ty).map (·.size) = some cs.size) :
    (results fn tmps).run P w = .ok (.tuple #[.agg cs, tmps.getD t undef, tmps.getD t2 undef, tmps.getD t3 undef]) w := by
  have hp' : tmps[p]?.getD undef = .pointer (some ⟨g, 0, none⟩) := by simpa using hp
  simp [results, h, hp', asAddr, run_loadVar_row w g tt ty cs fr d hg hu hd hi]
set_option maxHeartbeats 2000000 in
set_option maxRecDepth 100000 in
theorem implCountZones_c (xs : List Int) (hs : Sc xs) (r z : Int) (hr : -128 ≤ r ∧ r ≤ 127) (hz : -128 ≤ z ∧ z ≤ 127) (w : World) :
    Calls Try.prog 66 #[.agg (arr .i8 xs), .agg #[.int .i8 r, .int .i8 z]] w fun e w' => e = .returned (.tuple #[.agg (arr .i64 (czV xs r z).1), .int .i64 ((czV xs r z).2.1 : Nat), .int .i64 ((czV xs r z).2.2.1 : Nat), .int .i64 (czV xs r z).2.2.2]) ∧ Below w.heap.size w w' := by
  have HL := Lib.hid hs.1
  have HZ : Hid ((zonesL xs r z).length = 24) := Lib.hid (by rw [zonesL_len, HL.out])
  have K0 := Lib.hid (al3_0 w (.cells (arr .i8 xs) 36) (.cells #[.int .i8 r, .int .i8 z] 24) (.cells z11a 70))
  have K1 := Lib.hid (al3_1 w (.cells (arr .i8 xs) 36) (.cells #[.int .i8 r, .int .i8 z] 24) (.cells z11a 70))
  have K2 := Lib.hid (al3_2 w (.cells (arr .i8 xs) 36) (.cells #[.int .i8 r, .int .i8 z] 24) (.cells z11a 70))
  have HW0 := Lib.hid (bl3 w (.cells (arr .i8 xs) 36) (.cells #[.int .i8 r, .int .i8 z] 24) (.cells z11a 70))
  rcases both_01 xs r z with hb | hb
  · have HV : Hid (czV xs r z = (czL xs r z 24, howMany (lowP xs r z) 24, howMany (highP xs r z) 24, 0)) := Lib.hid (by simp [czV, hb])
    obtain ⟨hok, hp⟩ := both_split hb
    have hg := okS_get hok
    have HB := Lib.hid hb
    clear hb
    go_enter Try.func66, Try.ntmps66
    go_wp2_with (rw [z11a_eq]; refine wpList_load_row rfl 36 (.tmp 2) rfl _ rfl _ _ _ _ K0.out Try.underlying36 rfl (by rw [szScene, arr_size, HL.out]) ?_; generalize (((w.alloc (.cells (arr .i8 xs) 36)).alloc (.cells #[.int .i8 r, .int .i8 z] 24)).alloc (.cells z11a 70)) = w4 at *; have c0 := bk2_0 K1.out; have c1 := bk2_1 K1.out)
    refine (placeCode_c xs hs r z hr hz _).mono ?_
    rintro e w1 ⟨rfl, hb1⟩
    rw [HB.out]
    have H0 := Lib.hid (heap_below hb1 (lt_of_heap K0.out) K0.out)
    have H1 := Lib.hid (heap_below hb1 (lt_of_heap K1.out) K1.out)
    have H2 := Lib.hid (heap_below hb1 (lt_of_heap K2.out) K2.out)
    have HW1 := Lib.hid (bt HW0.out hb1)
    clear K0 K1 K2 hb1 HW0
    have N0 := Lib.hid (heap_old (.cells z11a 70) _ (lt_of_heap H0.out) H0.out)
    have N1 := Lib.hid (heap_old (.cells z11a 70) _ (lt_of_heap H1.out) H1.out)
    have N2 := Lib.hid (heap_old (.cells z11a 70) _ (lt_of_heap H2.out) H2.out)
    have N3 := Lib.hid (al1_0 w1 (.cells z11a 70))
    have NW := Lib.hid (bt HW1.out (bl1 w1 (.cells z11a 70)))
    have G1 : w.heap.size + 1 + 1 < w1.heap.size := lt_of_heap H2.out
    clear H0 H1 H2 HW1
    go_wp2_with (first
      | (rw [z11a_eq]; refine wpList_store_row rfl 70 (.tmp 9) (.tmp 21) rfl _ z11a rfl rfl _ z11a N3.out (by rw [szI11]; rfl) rfl (arr_one .i64 z11) ?_; rw [setRow_id _ _ _ _ _ N3.out]; generalize (w1.alloc (.cells z11a 70)) = w5 at *; have c0 := bk2_0 N1.out; have c1 := bk2_1 N1.out)
      | (refine wpList_load_row rfl 36 (.tmp 2) rfl _ rfl _ _ _ _ N0.out Try.underlying36 rfl (by rw [szScene, arr_size, HL.out]) ?_))
    refine (zones_c xs hs hok r z hp _).mono ?_
    rintro e w2 ⟨rfl, hb2⟩
    have M2 := Lib.hid (heap_below hb2 (lt_of_heap N2.out) N2.out)
    have M3 := Lib.hid (heap_below hb2 (lt_of_heap N3.out) N3.out)
    have MW := Lib.hid (bt NW.out hb2)
    clear N0 N1 N2 N3 NW hb2
    generalize w1.heap.size = G at *
    go_wp2
    go_loopw [10, 11, 25] (fun b a i wr => ∃ k : Nat, k ≤ 24 ∧ i = .int .i64 k ∧ b = .int .i64 (howMany (lowP xs r z) k : Nat) ∧ a = .int .i64 (howMany (highP xs r z) k : Nat) ∧ wr.heap[w.heap.size + 1 + 1]? = some (.cells z11a 70 (0, 0)) ∧
        wr.heap[G]? = some (.cells (arr .i64 (czL xs r z k)) 70 (0, 0)) ∧ Below w.heap.size w wr) (fun _ _ i _ => 24 - (intOf i).toNat)
    case atStart => exact ⟨0, Nat.zero_le _, rfl, rfl, rfl, M2.out, M3.out, MW.out⟩
    case round =>
      clear M2 M3 MW
      obtain ⟨k, hk, rfl, rfl, rfl, hB, hC, hW⟩ := hrel
      have HB := Lib.hid hB
      have HC := Lib.hid hC
      have HW := Lib.hid hW
      clear hB hC hW
      by_cases hlt : k < 24
      · obtain ⟨v, hv⟩ : ∃ v, v = znV r z (xs.getD k 0) := ⟨_, rfl⟩
        have hzb := zn_bd hp (hg k)
        rw [← hv] at hzb
        have HS : Hid ((zonesL xs r z).getD k 0 = v) := Lib.hid (by rw [zonesL_get _ _ _ _ (by rw [HL.out]; exact hlt), hv])
        have HV := Lib.hid hv
        have E1 : Hid (howMany (lowP xs r z) (k + 1) = howMany (lowP xs r z) k + if lowP xs r z k then 1 else 0) := Lib.hid rfl
        have E2 : Hid (howMany (highP xs r z) (k + 1) = howMany (highP xs r z) k + if highP xs r z k then 1 else 0) := Lib.hid rfl
        have E3 : Hid (czL xs r z (k + 1) = if 0 ≤ v ∧ v ≤ 10 then (czL xs r z k).set v.toNat ((czL xs r z k).getD v.toNat 0 + 1) else czL xs r z k) := Lib.hid (by simp only [czL]; rw [← hv])
        have b1 := howMany_le (lowP xs r z) k
        have b2 := howMany_le (highP xs r z) k
        obtain ⟨q1, q2⟩ := hzb
        clear hv
        generalize howMany (lowP xs r z) k = lo at *
        generalize howMany (highP xs r z) k = hi at *
        by_cases c1 : v < 0
        · have HP1 : Hid (lowP xs r z k = true) := Lib.hid (by simp only [lowP]; rw [← HV.out]; simpa using c1)
          have HP2 : Hid (highP xs r z k = false) := Lib.hid (by simp only [highP]; rw [← HV.out]; simp; omega)
          have c3 : ¬ (0 ≤ v ∧ v ≤ 10) := by omega
          have C3 := Lib.hid c3
          clear c3
          go_wp2_with (refine wpList_index_arr rfl 34 (.tmp 24) (.tmp 25) rfl _ rfl k rfl 24 22 Try.underlying34 (by kernel_rfl) Try.underlying22 hlt HZ.out ?_; rw [HS.out])
          go_roundw
          case rel => exact ⟨k + 1, by omega, by go_num, by rw [E1.out, HP1.out]; go_num, by rw [E2.out, HP2.out]; go_num, HB.out, by rw [E3.out, if_neg C3.out]; exact HC.out, HW.out⟩
          case measure => simp [intOf]; omega
        · by_cases c2 : 11 ≤ v
          · have HP1 : Hid (lowP xs r z k = false) := Lib.hid (by simp only [lowP]; rw [← HV.out]; simpa using c1)
            have HP2 : Hid (highP xs r z k = true) := Lib.hid (by simp only [highP]; rw [← HV.out]; simpa using c2)
            have c3 : ¬ (0 ≤ v ∧ v ≤ 10) := by omega
            have C3 := Lib.hid c3
            clear c3
            go_wp2_with (refine wpList_index_arr rfl 34 (.tmp 24) (.tmp 25) rfl _ rfl k rfl 24 22 Try.underlying34 (by kernel_rfl) Try.underlying22 hlt HZ.out ?_; rw [HS.out])
            go_roundw
            case rel => exact ⟨k + 1, by omega, by go_num, by rw [E1.out, HP1.out]; go_num, by rw [E2.out, HP2.out]; go_num, HB.out, by rw [E3.out, if_neg C3.out]; exact HC.out, HW.out⟩
            case measure => simp [intOf]; omega
          · have HP1 : Hid (lowP xs r z k = false) := Lib.hid (by simp only [lowP]; rw [← HV.out]; simpa using c1)
            have HP2 : Hid (highP xs r z k = false) := Lib.hid (by simp only [highP]; rw [← HV.out]; simpa using c2)
            obtain ⟨j, rfl⟩ : ∃ j : Nat, v = j := ⟨v.toNat, by omega⟩
            have C3 : Hid ((0 : Int) ≤ (j : Int) ∧ (j : Int) ≤ 10) := Lib.hid ⟨by omega, by omega⟩
            have CL := Lib.hid (czL_len xs r z k)
            have hj : j < 11 := by omega
            have hcell := arr_cell HC.out j (by rw [CL.out]; exact hj)
            have hfr : wr.frozen? ⟨G, j, none⟩ = false := frozen_of_row _ _ _ _ _ HC.out
            obtain ⟨d1, d2⟩ := czL_bd xs r z k j
            obtain ⟨y, hy⟩ : ∃ y, y = (czL xs r z k).getD j 0 := ⟨_, rfl⟩
            rw [← hy] at hcell d1 d2
            have HY := Lib.hid hy
            clear hy
            go_wp2_with (refine wpList_index_arr rfl 34 (.tmp 24) (.tmp 25) rfl _ rfl k rfl 24 22 Try.underlying34 (by kernel_rfl) Try.underlying22 hlt HZ.out ?_; rw [HS.out])
            go_roundw
            case rel => exact ⟨k + 1, by omega, by go_num, by rw [E1.out, HP1.out]; go_num, by rw [E2.out, HP2.out]; go_num, heap_far _ (by simp <;> omega) HB.out, by rw [E3.out, if_pos C3.out, Int.toNat_natCast, ← HY.out]; exact arr_store HC.out j (y + 1), HW.out.setCell (by simp <;> omega) _⟩
            case measure => simp [intOf]; omega
      · have hk24 : k = 24 := by omega
        subst hk24
        have CL := Lib.hid (czL_len xs r z 24)
        go_wp2_with (first
          | (refine wpList_load_row rfl 70 (.tmp 9) rfl _ rfl _ _ _ _ HC.out Try.underlying70 rfl (by rw [szI11, arr_size, CL.out]) ?_)
          | (refine wpList_store_row rfl 70 (.tmp 4) (.tmp 44) rfl _ _ rfl rfl _ _ HB.out (by rw [szI11, arr_size, CL.out]) (by rw [arr_size, CL.out]; rfl) (arr_one _ _) ?_))
        exact bodyPost_ret (results_cttt rfl _ _ _ 70 _ _ _ rfl (setRow_heap _ _ _ _ _ _ HB.out) Try.underlying70 rfl (by rw [szI11, arr_size, CL.out])) rfl ⟨by rw [HV.out] <;> rfl, below_setRow HW.out (by omega) _⟩
  · have HV : Hid (czV xs r z = (z11, 0, 0, 1)) := Lib.hid (by simp [czV, hb])
    have HB := Lib.hid hb
    clear hb
    go_enter Try.func66, Try.ntmps66
    go_wp2_with (rw [z11a_eq]; refine wpList_load_row rfl 36 (.tmp 2) rfl _ rfl _ _ _ _ K0.out Try.underlying36 rfl (by rw [szScene, arr_size, HL.out]) ?_; generalize (((w.alloc (.cells (arr .i8 xs) 36)).alloc (.cells #[.int .i8 r, .int .i8 z] 24)).alloc (.cells z11a 70)) = w4 at *; have c0 := bk2_0 K1.out; have c1 := bk2_1 K1.out)
    refine (placeCode_c xs hs r z hr hz _).mono ?_
    rintro e w1 ⟨rfl, hb1⟩
    rw [HB.out]
    have H2 := Lib.hid (heap_below hb1 (lt_of_heap K2.out) K2.out)
    have HW1 := Lib.hid (bt HW0.out hb1)
    clear K0 K1 K2 hb1 HW0
    go_wp2_with (rw [z11a_eq]; refine wpList_store_row rfl 70 (.tmp 4) (.tmp 19) rfl _ z11a rfl rfl _ z11a H2.out (by rw [szI11]; rfl) rfl (arr_one .i64 z11) ?_)
    exact bodyPost_ret (results_cttt rfl _ _ _ 70 _ _ _ rfl (setRow_heap _ _ _ _ _ _ H2.out) Try.underlying70 rfl (by rw [szI11]; rfl)) rfl ⟨by rw [HV.out] <;> rfl, below_setRow HW1.out (by omega) _⟩
set_option maxHeartbeats 2000000 in
set_option maxRecDepth 100000 in
theorem specCountZones_c (xs : List Int) (hs : Sc xs) (r z : Int) (hr : -128 ≤ r ∧ r ≤ 127) (hz : -128 ≤ z ∧ z ≤ 127) (w : World) :
    Calls Try.prog 65 #[.agg (arr .i8 xs), .agg #[.int .i8 r, .int .i8 z]] w fun e w' => e = .returned (.tuple #[.agg (arr .i64 (czV xs r z).1), .int .i64 ((czV xs r z).2.1 : Nat), .int .i64 ((czV xs r z).2.2.1 : Nat), .int .i64 (czV xs r z).2.2.2]) ∧ Below w.heap.size w w' := by
  have HL := Lib.hid hs.1
  have K0 := Lib.hid (al4_0 w (.cells (arr .i8 xs) 36) (.cells #[.int .i8 r, .int .i8 z] 24) (.cells z11a 70) (.cells z11a 70))
  have K1 := Lib.hid (al4_1 w (.cells (arr .i8 xs) 36) (.cells #[.int .i8 r, .int .i8 z] 24) (.cells z11a 70) (.cells z11a 70))
  have K2 := Lib.hid (al4_2 w (.cells (arr .i8 xs) 36) (.cells #[.int .i8 r, .int .i8 z] 24) (.cells z11a 70) (.cells z11a 70))
  have K3 := Lib.hid (al4_3 w (.cells (arr .i8 xs) 36) (.cells #[.int .i8 r, .int .i8 z] 24) (.cells z11a 70) (.cells z11a 70))
  have HW0 := Lib.hid (bl4 w (.cells (arr .i8 xs) 36) (.cells #[.int .i8 r, .int .i8 z] 24) (.cells z11a 70) (.cells z11a 70))
  rcases both_01 xs r z with hb | hb
  · have HV : Hid (czV xs r z = (czL xs r z 24, howMany (lowP xs r z) 24, howMany (highP xs r z) 24, 0)) := Lib.hid (by simp [czV, hb])
    obtain ⟨hok, hp⟩ := both_split hb
    have hg := okS_get hok
    have HB := Lib.hid hb
    clear hb
    go_enter Try.func65, Try.ntmps65
    go_wp2_with (rw [z11a_eq]; refine wpList_store_row rfl 70 (.tmp 8) (.tmp 14) rfl _ z11a rfl rfl _ z11a K3.out (by rw [szI11]; rfl) rfl (arr_one .i64 z11) ?_; rw [setRow_id _ _ _ _ _ K3.out]; generalize ((((w.alloc (.cells (arr .i8 xs) 36)).alloc (.cells #[.int .i8 r, .int .i8 z] 24)).alloc (.cells z11a 70)).alloc (.cells z11a 70)) = w4 at *; have c0 := bk2_0 K1.out; have c1 := bk2_1 K1.out)
    refine (l06Both_c xs hs r z hr hz _ _ _ K0.out).mono ?_
    rintro e w1 ⟨rfl, hb1⟩
    rw [HB.out]
    have H0 := Lib.hid (heap_below hb1 (lt_of_heap K0.out) K0.out)
    have H1 := Lib.hid (heap_below hb1 (lt_of_heap K1.out) K1.out)
    have H2 := Lib.hid (heap_below hb1 (lt_of_heap K2.out) K2.out)
    have H3 := Lib.hid (heap_below hb1 (lt_of_heap K3.out) K3.out)
    have HW1 := Lib.hid (bt HW0.out hb1)
    clear K0 K1 K2 K3 hb1 HW0
    go_wp2
    go_loopw [10] (fun i wr => ∃ k : Nat, k ≤ 24 ∧ i = .int .i64 k ∧ wr.heap[w.heap.size]? = some (.cells (arr .i8 xs) 36 (0, 0)) ∧ wr.heap[w.heap.size + 1]? = some (.cells #[.int .i8 r, .int .i8 z] 24 (0, 0)) ∧ wr.heap[w.heap.size + 1 + 1]? = some (.cells z11a 70 (0, 0)) ∧
        wr.heap[w.heap.size + 1 + 1 + 1]? = some (.cells (arr .i64 (czL xs r z k)) 70 (0, 0)) ∧ Below w.heap.size w wr) (fun i _ => 24 - (intOf i).toNat)
    case atStart => exact ⟨0, Nat.zero_le _, rfl, H0.out, H1.out, H2.out, H3.out, HW1.out⟩
    case round =>
      clear H0 H1 H2 H3 HW1
      obtain ⟨k, hk, rfl, hS, hA, hB, hC, hW⟩ := hrel
      have HS := Lib.hid hS
      have HA := Lib.hid hA
      have HB := Lib.hid hB
      have HC := Lib.hid hC
      have HW := Lib.hid hW
      clear hS hA hB hC hW
      by_cases hlt : k < 24
      · obtain ⟨x, hxe⟩ : ∃ x, x = xs.getD k 0 := ⟨_, rfl⟩
        have hx1 : 0 ≤ x := by rw [hxe]; exact (hg k).1
        have hx2 : x ≤ 60 := by rw [hxe]; exact (hg k).2
        have hcell : wr.cell? ⟨w.heap.size, k, none⟩ = some (.int .i8 x) := by rw [hxe]; exact arr_cell HS.out k (by rw [HL.out]; exact hlt)
        have hc0 : wr.cell? ⟨w.heap.size + 1, 0, none⟩ = some (.int .i8 r) := bk2_0 HA.out
        have hc1 : wr.cell? ⟨w.heap.size + 1, 1, none⟩ = some (.int .i8 z) := bk2_1 HA.out
        have E3 : Hid (czL xs r z (k + 1) = if 0 ≤ znV r z x ∧ znV r z x ≤ 10 then (czL xs r z k).set (znV r z x).toNat ((czL xs r z k).getD (znV r z x).toNat 0 + 1) else czL xs r z k) := Lib.hid (by simp only [czL]; rw [← hxe])
        have hwx : IntKind.i64.wrap x = x := IntWalk.i64_in _ (by omega)
        clear hxe
        go_wp2
        have l1 : w.heap.size < wr.heap.size := World.block_lt_of_cell? wr _ hcell
        have l2 : w.heap.size + 1 < wr.heap.size := World.block_lt_of_cell? wr _ hc0
        have l3 : w.heap.size + 1 + 1 + 1 < wr.heap.size := lt_of_heap HC.out
        have l4 : w.heap.size + 1 + 1 < wr.heap.size := by omega
        go_region_held3 (fun w' => w'.cell? ⟨w.heap.size, k, none⟩ = some (.int .i8 x) ∧ w'.cell? ⟨w.heap.size + 1, 0, none⟩ = some (.int .i8 r) ∧ w'.cell? ⟨w.heap.size + 1, 1, none⟩ = some (.int .i8 z)) (go_keep) (first | (go_at_call 95; refine (l06Zone_c r z x hr hz ⟨by omega, by omega⟩ _).mono ?_; rintro e w2 ⟨rfl, hb2⟩; have s1 : w2.cell? ⟨w.heap.size, k, none⟩ = some (.int .i8 x) := (hb2.cell (p := ⟨w.heap.size, k, none⟩) l1).trans hcell; have s2 : w2.cell? ⟨w.heap.size + 1, 0, none⟩ = some (.int .i8 r) := (hb2.cell (p := ⟨w.heap.size + 1, 0, none⟩) l2).trans hc0; have s3 : w2.cell? ⟨w.heap.size + 1, 1, none⟩ = some (.int .i8 z) := (hb2.cell (p := ⟨w.heap.size + 1, 1, none⟩) l2).trans hc1))
        have HW2 := Lib.hid (below_trans HW.out HW.out.size (show Below wr.heap.size wr w2 from ⟨hb2.os, hb2.tape, hb2.output, hb2.size, hb2.block⟩))
        have HS2 := Lib.hid (heap_below hb2 l1 HS.out)
        have HA2 := Lib.hid (heap_below hb2 l2 HA.out)
        have HB2 := Lib.hid (heap_below hb2 l4 HB.out)
        have HC2 := Lib.hid (heap_below hb2 l3 HC.out)
        obtain ⟨q1, q2⟩ := zn_bd hp ⟨hx1, hx2⟩
        clear hb2 s1 s2 s3 hc0 hc1 hcell l1 l2 l3 l4 hwx HS HA HB HC HW
        generalize znV r z x = v at *
        by_cases c3 : 0 ≤ v ∧ v ≤ 10
        · obtain ⟨j, rfl⟩ : ∃ j : Nat, v = j := ⟨v.toNat, by omega⟩
          have C3 := Lib.hid c3
          have hj : j < 11 := by omega
          have CL := Lib.hid (czL_len xs r z k)
          have hcell := arr_cell HC2.out j (by rw [CL.out]; exact hj)
          have hfr : w2.frozen? ⟨w.heap.size + 1 + 1 + 1, j, none⟩ = false := frozen_of_row _ _ _ _ _ HC2.out
          obtain ⟨d1, d2⟩ := czL_bd xs r z k j
          obtain ⟨y, hy⟩ : ∃ y, y = (czL xs r z k).getD j 0 := ⟨_, rfl⟩
          rw [← hy] at hcell d1 d2
          have HY := Lib.hid hy
          clear hy c3
          go_wp2_with (go_at_call 85; refine (l00In_t _ _ _ ⟨by omega, by omega⟩ _).mono ?_; rintro e w' ⟨rfl, rfl⟩)
          go_roundw
          case rel => exact ⟨k + 1, by omega, by go_num, heap_far _ (by simp <;> omega) HS2.out, heap_far _ (by simp <;> omega) HA2.out, heap_far _ (by simp <;> omega) HB2.out, by rw [E3.out, if_pos C3.out, Int.toNat_natCast, ← HY.out]; exact arr_store HC2.out j (y + 1), HW2.out.setCell (by simp <;> omega) _⟩
          case measure => simp [intOf]; omega
        · have C3 := Lib.hid c3
          have c4 : v < 0 ∨ 10 < v := by omega
          clear c3
          go_wp2_with (go_at_call 85; refine (l00In_f _ _ _ (by omega) _).mono ?_; rintro e w' ⟨rfl, rfl⟩)
          go_roundw
          case rel => exact ⟨k + 1, by omega, by go_num, HS2.out, HA2.out, HB2.out, by rw [E3.out, if_neg C3.out]; exact HC2.out, HW2.out⟩
          case measure => simp [intOf]; omega
      · have hk24 : k = 24 := by omega
        subst hk24
        have CL := Lib.hid (czL_len xs r z 24)
        have hc0 : wr.cell? ⟨w.heap.size + 1, 0, none⟩ = some (.int .i8 r) := bk2_0 HA.out
        have hc1 : wr.cell? ⟨w.heap.size + 1, 1, none⟩ = some (.int .i8 z) := bk2_1 HA.out
        go_wp2_with fail
        refine (l06Off_c xs hs hok r z hp _ _ _ HS.out).mono ?_
        rintro e w2 ⟨rfl, hb2⟩
        have HB2 := Lib.hid (heap_below hb2 (lt_of_heap HB.out) HB.out)
        have HC2 := Lib.hid (heap_below hb2 (lt_of_heap HC.out) HC.out)
        have HW2 := Lib.hid (bt HW.out hb2)
        have m1 : maskOf (lowP xs r z) 24 < 2 ^ 32 := Nat.lt_of_lt_of_le (maskOf_lt _ _) (Nat.pow_le_pow_right (by omega) (by omega))
        have m2 : maskOf (highP xs r z) 24 < 2 ^ 32 := Nat.lt_of_lt_of_le (maskOf_lt _ _) (Nat.pow_le_pow_right (by omega) (by omega))
        have P1 := Lib.hid (pc_maskOf (lowP xs r z) 24)
        have P2 := Lib.hid (pc_maskOf (highP xs r z) 24)
        clear hb2 hc0 hc1 HS HA HB HC HW hg
        generalize maskOf (lowP xs r z) 24 = M1 at *
        generalize maskOf (highP xs r z) 24 = M2 at *
        generalize howMany (lowP xs r z) 24 = N1 at *
        generalize howMany (highP xs r z) 24 = N2 at *
        generalize czL xs r z 24 = cl at *
        have hu := Try.underlying70
        have hiy : (Try.prog.info? 70).map (·.size) = some (cl.map (Value.int .i64)).length := by rw [szI11, List.length_map, CL.out]
        have hny : (cl.map (Value.int .i64)).length = 11 := by rw [List.length_map, CL.out]
        have h1y : ∀ v ∈ cl.map (Value.int .i64), v.oneCell' = true := by intro v hv; obtain ⟨z, _, rfl⟩ := List.mem_map.1 hv; rfl
        have r1 : w2.rangeAt (w.heap.size + 1 + 1 + 1) 0 (cl.map (Value.int .i64)) := fun j v hv => by rw [cell_of_row _ _ _ _ _ _ HC2.out, Nat.zero_add]; simpa [arr] using hv
        have r2 : w2.there (w.heap.size + 1 + 1) 0 11 := there_of HB2.out 11 rfl
        have KS : ∀ w' : World, (w'.rangeAt (w.heap.size + 1 + 1 + 1) 0 (cl.map (Value.int .i64)) ∧ w'.there (w.heap.size + 1 + 1) 0 11) → ((w'.setCells (w.heap.size + 1 + 1) 0 (cl.map (Value.int .i64))).rangeAt (w.heap.size + 1 + 1 + 1) 0 (cl.map (Value.int .i64)) ∧ (w'.setCells (w.heap.size + 1 + 1) 0 (cl.map (Value.int .i64))).there (w.heap.size + 1 + 1) 0 11) := fun w' h => ⟨World.rangeAt_setCells_apart h.1 _ _ _ (Or.inl (by omega)), World.there_setCells h.2 _ _ _⟩
        go_wp2_with fail
        go_region_held3 (fun w' => w'.rangeAt (w.heap.size + 1 + 1 + 1) 0 (cl.map (Value.int .i64)) ∧ w'.there (w.heap.size + 1 + 1) 0 11) (first | (with_reducible assumption) | exact ⟨r1, r2⟩ | exact KS _ (by with_reducible assumption)) (first | (go_at_call_of 119 (Value.int .u32 (M1 : Int)); refine (l06Size_c M1 m1 _).mono ?_; rintro e w' ⟨rfl, rfl⟩; rw [P1.out]) | (go_at_call_of 119 (Value.int .u32 (M2 : Int)); refine (l06Size_c M2 m2 _).mono ?_; rintro e w' ⟨rfl, rfl⟩; rw [P2.out]))
        go_wp2_with fail
        have hz0 : (cl.map (Value.int .i64)).length = z11a.size := by rw [hny]; rfl
        exact bodyPost_ret (results_cttt rfl _ _ _ 70 _ _ _ rfl (setCells_heap (cl.map (Value.int .i64)) (show w2.drew.heap[w.heap.size + 1 + 1]? = some (.cells z11a 70 (0, 0)) from HB2.out) hz0) hu rfl (by rw [List.size_toArray]; exact hiy)) rfl ⟨by rw [HV.out] <;> rfl, bsc (by omega) _ _ _ (bl_drew HW2.out)⟩
  · have HV : Hid (czV xs r z = (z11, 0, 0, 1)) := Lib.hid (by simp [czV, hb])
    have HB := Lib.hid hb
    clear hb
    go_enter Try.func65, Try.ntmps65
    go_wp2_with (rw [z11a_eq]; refine wpList_store_row rfl 70 (.tmp 8) (.tmp 14) rfl _ z11a rfl rfl _ z11a K3.out (by rw [szI11]; rfl) rfl (arr_one .i64 z11) ?_; rw [setRow_id _ _ _ _ _ K3.out]; generalize ((((w.alloc (.cells (arr .i8 xs) 36)).alloc (.cells #[.int .i8 r, .int .i8 z] 24)).alloc (.cells z11a 70)).alloc (.cells z11a 70)) = w4 at *; have c0 := bk2_0 K1.out; have c1 := bk2_1 K1.out)
    refine (l06Both_c xs hs r z hr hz _ _ _ K0.out).mono ?_
    rintro e w1 ⟨rfl, hb1⟩
    rw [HB.out]
    have H2 := Lib.hid (heap_below hb1 (lt_of_heap K2.out) K2.out)
    have H3 := Lib.hid (heap_below hb1 (lt_of_heap K3.out) K3.out)
    have HW1 := Lib.hid (bt HW0.out hb1)
    clear K0 K1 K2 K3 hb1 HW0
    go_wp2_with (first
      | (refine wpList_load_row rfl 70 (.tmp 8) rfl _ rfl _ _ _ _ H3.out Try.underlying70 rfl (by rw [szI11]; rfl) ?_)
      | (refine wpList_store_row rfl 70 (.tmp 4) (.tmp 19) rfl _ _ rfl rfl _ _ H2.out (by rw [szI11]; rfl) rfl (arr_one .i64 z11) ?_))
    exact bodyPost_ret (results_cttt rfl _ _ _ 70 _ _ _ rfl (setRow_heap _ _ _ _ _ _ H2.out) Try.underlying70 rfl (by rw [szI11]; rfl)) rfl ⟨by rw [HV.out] <;> rfl, below_setRow HW1.out (by omega) _⟩
end Go.Proofs.Ytejkdiinohndiaa
