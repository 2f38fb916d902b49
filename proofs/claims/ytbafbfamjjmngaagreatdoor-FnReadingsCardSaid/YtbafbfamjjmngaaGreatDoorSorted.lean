/- The reference's readings in ascending order. -/
import Derived.Test.YtbafbfamjjmngaaGreatDoorScene
import Derived.Test.YtbafbfamjjmngaaGreatDoorRow
namespace Go.Proofs.YtbafbfamjjmngaaGreatDoor
open Go.RowKit
/-- The readings below n, in ascending order. -/
def sortN (xs : List Int) : Nat → List Int
  | 0 => []
  | n + 1 => sortN xs n ++ xs.filter (fun x : Int => decide (x = (n : Int)))
theorem filt_len (xs : List Int) (n : Int) (k : Nat) : ((xs.take k).filter (fun x => decide (x = n))).length ≤ k := by
  have := List.length_filter_le (fun x : Int => decide (x = n)) (xs.take k)
  have := List.length_take_le k xs
  omega
theorem sortN_len (xs : List Int) (hl : xs.length = 24) (n : Nat) : (sortN xs n).length ≤ 24 * n := by
  induction n with
  | zero => simp [sortN]
  | succ n ih =>
    have h := List.length_filter_le (fun x : Int => decide (x = (n : Int))) xs
    simp only [sortN, List.length_append]
    omega
theorem filt_yes (xs : List Int) (n : Int) (k : Nat) (h : k < xs.length) (hx : xs.getD k 0 = n) : (xs.take (k + 1)).filter (fun x => decide (x = n)) = (xs.take k).filter (fun x => decide (x = n)) ++ [n] := by
  rw [take_snoc xs k h, List.filter_append, hx]; simp
theorem filt_no (xs : List Int) (n : Int) (k : Nat) (h : k < xs.length) (hx : xs.getD k 0 ≠ n) : (xs.take (k + 1)).filter (fun x => decide (x = n)) = (xs.take k).filter (fun x => decide (x = n)) := by
  rw [take_snoc xs k h, List.filter_append]; simpa using hx
theorem info_i64 : (Tryz.prog.info? 2).map (fun i => (i.zero, i.size, i.bytes)) = some (some (.int .i64 0), 1, 8) := by kernel_rfl
/-- A slice that the call has made, with these numbers. -/
def SomeRow (P : List Int) (w0 : World) (e : Ending) (w' : World) : Prop := ∃ v, e = .returned v ∧ Row w' w0.heap.size 2 .i64 v P ∧ Below w0.heap.size w0 w'
end Go.Proofs.YtbafbfamjjmngaaGreatDoor
namespace Go.Proofs.YtbafbfamjjmngaaGreatDoor
open Go.RowKit
/-- The least and the greatest of the first numbers. -/
def minK (xs : List Int) : Nat → Int
  | 0 => xs.getD 0 0
  | k + 1 => if xs.getD k 0 < minK xs k then xs.getD k 0 else minK xs k
def maxK (xs : List Int) : Nat → Int
  | 0 => xs.getD 0 0
  | k + 1 => if maxK xs k < xs.getD k 0 then xs.getD k 0 else maxK xs k
theorem minK_one (xs : List Int) : minK xs 1 = xs.getD 0 0 := by simp [minK]
theorem maxK_one (xs : List Int) : maxK xs 1 = xs.getD 0 0 := by simp [maxK]
theorem minK_le (xs : List Int) (k i : Nat) (h : i < k) : minK xs k ≤ xs.getD i 0 := by
  induction k with
  | zero => omega
  | succ k ih =>
    simp only [minK]
    by_cases e : i = k
    · subst e; split <;> omega
    · have := ih (by omega); split <;> omega
theorem le_maxK (xs : List Int) (k i : Nat) (h : i < k) : xs.getD i 0 ≤ maxK xs k := by
  induction k with
  | zero => omega
  | succ k ih =>
    simp only [maxK]
    by_cases e : i = k
    · subst e; split <;> omega
    · have := ih (by omega); split <;> omega
theorem minK_at (xs : List Int) (k : Nat) (h : 0 < k) : ∃ i, i < k ∧ minK xs k = xs.getD i 0 := by
  induction k with
  | zero => omega
  | succ k ih =>
    simp only [minK]
    by_cases e : k = 0
    · subst e; exact ⟨0, by omega, by simp [minK]⟩
    · obtain ⟨i, hi, he⟩ := ih (by omega)
      split
      · exact ⟨k, by omega, rfl⟩
      · exact ⟨i, by omega, he⟩
theorem maxK_at (xs : List Int) (k : Nat) (h : 0 < k) : ∃ i, i < k ∧ maxK xs k = xs.getD i 0 := by
  induction k with
  | zero => omega
  | succ k ih =>
    simp only [maxK]
    by_cases e : k = 0
    · subst e; exact ⟨0, by omega, by simp [maxK]⟩
    · obtain ⟨i, hi, he⟩ := ih (by omega)
      split
      · exact ⟨k, by omega, rfl⟩
      · exact ⟨i, by omega, he⟩
/-- The sorted readings are the readings, in ascending order. -/
theorem sortN_count (xs : List Int) (v : Int) (n : Nat) : (sortN xs n).count v = if 0 ≤ v ∧ v < n then xs.count v else 0 := by
  induction n with
  | zero => simp [sortN]; omega
  | succ n ih =>
    simp only [sortN, List.count_append, ih]
    by_cases e : v = n
    · subst e
      rw [if_neg (by omega), if_pos (by omega), List.count_filter (by simp)]; omega
    · have : (xs.filter (fun x : Int => decide (x = (n : Int)))).count v = 0 := by
        rw [List.count_eq_zero]; intro h; simp at h; exact e h.2
      rw [this, Nat.add_zero]
      by_cases h : 0 ≤ v ∧ v < n
      · rw [if_pos h, if_pos (by omega)]
      · rw [if_neg h, if_neg (by omega)]
theorem sortN_perm (xs : List Int) (hok : okS xs = true) : (sortN xs 61).Perm xs := by
  rw [List.perm_iff_count]
  intro v
  rw [sortN_count]
  by_cases h : 0 ≤ v ∧ v < (61 : Nat)
  · rw [if_pos h]
  · rw [if_neg h]
    symm
    rw [List.count_eq_zero]
    intro hm
    have := (rdB_iff v).1 (List.all_eq_true.1 hok v hm)
    omega
theorem sortN_mem (xs : List Int) (n : Nat) (v : Int) (h : v ∈ sortN xs n) : v < n := by
  induction n with
  | zero => simp [sortN] at h
  | succ n ih =>
    simp only [sortN, List.mem_append, List.mem_filter, decide_eq_true_eq] at h
    rcases h with h | h
    · have := ih h; omega
    · omega
theorem sortN_sorted (xs : List Int) (n : Nat) : (sortN xs n).Pairwise (· ≤ ·) := by
  induction n with
  | zero => simp [sortN]
  | succ n ih =>
    simp only [sortN]
    rw [List.pairwise_append]
    refine ⟨ih, ?_, ?_⟩
    · apply List.Pairwise.imp_of_mem (R := fun _ _ => True)
      · intro a b ha hb _
        simp at ha hb; omega
      · exact List.pairwise_of_forall (fun _ _ => trivial)
    · intro a ha b hb
      have := sortN_mem xs n a ha
      simp at hb; omega
theorem sortN_len24 (xs : List Int) (hl : xs.length = 24) (hok : okS xs = true) : (sortN xs 61).length = 24 := by
  rw [(sortN_perm xs hok).length_eq, hl]
theorem mem_getD {l : List Int} {v : Int} (h : v ∈ l) : ∃ i, i < l.length ∧ l.getD i 0 = v := by
  obtain ⟨i, hi, he⟩ := List.mem_iff_getElem.1 h
  exact ⟨i, hi, by rw [List.getD_eq_getElem?_getD, List.getElem?_eq_getElem hi]; exact he⟩
theorem getD_mem {l : List Int} {i : Nat} (h : i < l.length) : l.getD i 0 ∈ l := by
  rw [List.getD_eq_getElem?_getD, List.getElem?_eq_getElem h]; exact List.getElem_mem h
theorem sorted_getD {l : List Int} (h : l.Pairwise (· ≤ ·)) (i j : Nat) (hij : i ≤ j) (hj : j < l.length) : l.getD i 0 ≤ l.getD j 0 := by
  by_cases e : i = j
  · subst e; exact Int.le_refl _
  · have := List.pairwise_iff_getElem.1 h i j (by omega) hj (by omega)
    rw [List.getD_eq_getElem?_getD, List.getD_eq_getElem?_getD, List.getElem?_eq_getElem hj, List.getElem?_eq_getElem (by omega : i < l.length)]
    exact this
theorem sort_first (xs : List Int) (hl : xs.length = 24) (hok : okS xs = true) : (sortN xs 61).getD 0 0 = minK xs 24 := by
  have hp := sortN_perm xs hok
  have hlen := sortN_len24 xs hl hok
  apply Int.le_antisymm
  · obtain ⟨i, hi, he⟩ := minK_at xs 24 (by omega)
    have hm : minK xs 24 ∈ sortN xs 61 := hp.mem_iff.2 (by rw [he]; exact getD_mem (by omega))
    obtain ⟨j, hj, hje⟩ := mem_getD hm
    rw [← hje]
    exact sorted_getD (sortN_sorted xs 61) 0 j (by omega) hj
  · have hm : (sortN xs 61).getD 0 0 ∈ xs := hp.mem_iff.1 (getD_mem (by omega))
    obtain ⟨j, hj, hje⟩ := mem_getD hm
    rw [← hje]
    exact minK_le xs 24 j (by omega)
theorem sort_last (xs : List Int) (hl : xs.length = 24) (hok : okS xs = true) : (sortN xs 61).getD 23 0 = maxK xs 24 := by
  have hp := sortN_perm xs hok
  have hlen := sortN_len24 xs hl hok
  apply Int.le_antisymm
  · have hm : (sortN xs 61).getD 23 0 ∈ xs := hp.mem_iff.1 (getD_mem (by omega))
    obtain ⟨j, hj, hje⟩ := mem_getD hm
    rw [← hje]
    exact le_maxK xs 24 j (by omega)
  · obtain ⟨i, hi, he⟩ := maxK_at xs 24 (by omega)
    have hm : maxK xs 24 ∈ sortN xs 61 := hp.mem_iff.2 (by rw [he]; exact getD_mem (by omega))
    obtain ⟨j, hj, hje⟩ := mem_getD hm
    rw [← hje]
    exact sorted_getD (sortN_sorted xs 61) j 23 (by omega) (by omega)
def rangeV (xs : List Int) : Int × Int × Int := if okS xs then (minK xs 24, maxK xs 24, 0) else (0, 0, 1)
theorem minK_bd {xs : List Int} (hok : okS xs = true) (k : Nat) : 0 ≤ minK xs k ∧ minK xs k ≤ 60 := by
  induction k with
  | zero => exact okS_get hok 0
  | succ k ih => have := okS_get hok k; simp only [minK]; split <;> omega
theorem maxK_bd {xs : List Int} (hok : okS xs = true) (k : Nat) : 0 ≤ maxK xs k ∧ maxK xs k ≤ 60 := by
  induction k with
  | zero => exact okS_get hok 0
  | succ k ih => have := okS_get hok k; simp only [maxK]; split <;> omega
set_option maxHeartbeats 400000 in
theorem min8_c (xs : List Int) (hs : Sc xs) (g : Nat) (t : TypeId) (w : World) (hb : w.heap[g]? = some (.cells (arr .i8 xs) t (0, 0))) :
    Calls Tryz.prog 29 #[.slice (some ⟨g, 0, none⟩) 24 24] w fun e w' => e = .returned (.int .i8 (minK xs 24)) ∧ w = w' := by
  have HL := Lib.hid hs.1
  have HB := Lib.hid hb
  clear hb
  have hc0 : w.cell? ⟨g, 0, none⟩ = some (.int .i8 (minK xs 1)) := by rw [minK_one]; exact arr_cell HB.out 0 (by rw [HL.out]; omega)
  go_enter Tryz.func29, Tryz.ntmps29
  go_wp2
  go_loop [3, 4] (fun m i => ∃ k : Nat, 1 ≤ k ∧ k ≤ 24 ∧ i = .int .i64 k ∧ m = .int .i8 (minK xs k)) (fun _ i => 24 - (intOf i).toNat)
  case atStart => exact ⟨1, by omega, by omega, rfl, rfl⟩
  case round =>
    obtain ⟨k, hk1, hk, rfl, rfl⟩ := hrel
    by_cases hlt : k < 24
    · obtain ⟨x, hxe⟩ : ∃ x, x = xs.getD k 0 := ⟨_, rfl⟩
      have hcell : w.cell? ⟨g, k, none⟩ = some (.int .i8 x) := by rw [hxe]; exact arr_cell HB.out k (by rw [HL.out]; exact hlt)
      have HM : Hid (minK xs (k + 1) = if x < minK xs k then x else minK xs k) := Lib.hid (by rw [hxe]; rfl)
      clear hxe
      generalize minK xs k = m at *
      by_cases hq : x < m
      all_goals
        go_wp2
        go_round
        case rel => exact ⟨k + 1, by omega, by omega, by go_num, by first | (rw [HM.out, if_pos hq]) | (rw [HM.out, if_neg (by omega)])⟩
        case measure => simp [intOf]; omega
    · have hk24 : k = 24 := by omega
      subst hk24
      go_wp2
      go_ret
      exact ⟨rfl, rfl⟩
set_option maxHeartbeats 400000 in
theorem max8_c (xs : List Int) (hs : Sc xs) (g : Nat) (t : TypeId) (w : World) (hb : w.heap[g]? = some (.cells (arr .i8 xs) t (0, 0))) :
    Calls Tryz.prog 30 #[.slice (some ⟨g, 0, none⟩) 24 24] w fun e w' => e = .returned (.int .i8 (maxK xs 24)) ∧ w = w' := by
  have HL := Lib.hid hs.1
  have HB := Lib.hid hb
  clear hb
  have hc0 : w.cell? ⟨g, 0, none⟩ = some (.int .i8 (maxK xs 1)) := by rw [maxK_one]; exact arr_cell HB.out 0 (by rw [HL.out]; omega)
  go_enter Tryz.func30, Tryz.ntmps30
  go_wp2
  go_loop [3, 4] (fun m i => ∃ k : Nat, 1 ≤ k ∧ k ≤ 24 ∧ i = .int .i64 k ∧ m = .int .i8 (maxK xs k)) (fun _ i => 24 - (intOf i).toNat)
  case atStart => exact ⟨1, by omega, by omega, rfl, rfl⟩
  case round =>
    obtain ⟨k, hk1, hk, rfl, rfl⟩ := hrel
    by_cases hlt : k < 24
    · obtain ⟨x, hxe⟩ : ∃ x, x = xs.getD k 0 := ⟨_, rfl⟩
      have hcell : w.cell? ⟨g, k, none⟩ = some (.int .i8 x) := by rw [hxe]; exact arr_cell HB.out k (by rw [HL.out]; exact hlt)
      have HM : Hid (maxK xs (k + 1) = if maxK xs k < x then x else maxK xs k) := Lib.hid (by rw [hxe]; rfl)
      clear hxe
      generalize maxK xs k = m at *
      by_cases hq : m < x
      all_goals
        go_wp2
        go_round
        case rel => exact ⟨k + 1, by omega, by omega, by go_num, by first | (rw [HM.out, if_pos hq]) | (rw [HM.out, if_neg (by omega)])⟩
        case measure => simp [intOf]; omega
    · have hk24 : k = 24 := by omega
      subst hk24
      go_wp2
      go_ret
      exact ⟨rfl, rfl⟩
set_option maxHeartbeats 400000 in
theorem implSceneRange_c (xs : List Int) (hs : Sc xs) (w : World) :
    Calls Tryz.prog 8 #[.agg (arr .i8 xs)] w fun e w' => e = .returned (.tuple #[.int .i64 (rangeV xs).1, .int .i64 (rangeV xs).2.1, .int .i64 (rangeV xs).2.2]) ∧ Below w.heap.size w w' := by
  have HL := Lib.hid hs.1
  have H0 := Lib.hid (al1_0 w (.cells (arr .i8 xs) 26))
  cases hok : okS xs
  · have HV : Hid (rangeV xs = (0, 0, 1)) := Lib.hid (by simp [rangeV, hok])
    have HO := Lib.hid hok
    clear hok
    go_enter Tryz.func8, Tryz.ntmps8
    go_wp2_with (refine wpList_load_row rfl 26 (.tmp 1) rfl _ rfl _ _ _ _ H0.out Tryz.underlying26 rfl (by rw [szScene, arr_size, HL.out]) ?_)
    refine (implValidScene_c xs hs _).mono ?_
    rintro e w1 ⟨rfl, hb1⟩
    rw [HO.out]
    go_wp2
    go_ret3
    exact ⟨by rw [HV.out] <;> rfl, bt (bl1 _ _) hb1⟩
  · have HV : Hid (rangeV xs = (minK xs 24, maxK xs 24, 0)) := Lib.hid (by simp [rangeV, hok])
    have HO := Lib.hid hok
    obtain ⟨m1, m2⟩ := minK_bd hok 24
    obtain ⟨m3, m4⟩ := maxK_bd hok 24
    clear hok
    go_enter Tryz.func8, Tryz.ntmps8
    go_wp2_with (refine wpList_load_row rfl 26 (.tmp 1) rfl _ rfl _ _ _ _ H0.out Tryz.underlying26 rfl (by rw [szScene, arr_size, HL.out]) ?_)
    refine (implValidScene_c xs hs _).mono ?_
    rintro e w1 ⟨rfl, hb1⟩
    rw [HO.out]
    have H1 := Lib.hid (heap_below hb1 (by simp) H0.out)
    have hB1 := bt (bl1 _ _) hb1
    clear hb1
    have e1 : IntKind.i64.wrap (minK xs 24) = minK xs 24 := IntWalk.i64_in _ (by omega)
    have e2 : IntKind.i64.wrap (maxK xs 24) = maxK xs 24 := IntWalk.i64_in _ (by omega)
    go_wp2
    go_quiet ((first | (go_at_call 29; exact quiet_c (min8_c xs hs _ _ _ H1.out)) | (go_at_call 30; exact quiet_c (max8_c xs hs _ _ _ H1.out))))
    go_wp2
    go_ret3
    exact ⟨by rw [HV.out] <;> rfl, bl_drewN hB1 _⟩
end Go.Proofs.YtbafbfamjjmngaaGreatDoor
