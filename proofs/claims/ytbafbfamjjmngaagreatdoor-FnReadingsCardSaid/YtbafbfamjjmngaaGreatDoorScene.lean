/- Scenes: 24 readings: valid or not. -/
import Derived.Test.YtbafbfamjjmngaaGreatDoorInts
namespace Go.Proofs.YtbafbfamjjmngaaGreatDoor
open Go.RowKit
theorem szScene : (Tryz.prog.info? 26).map (·.size) = some 24 := by kernel_rfl
theorem szA24 : (Tryz.prog.info? 25).map (·.size) = some 24 := by kernel_rfl
/-- 24 numbers of eight bits. -/
def Sc (xs : List Int) : Prop := xs.length = 24 ∧ I8 xs
def okS (xs : List Int) : Bool := xs.all rdB
theorem okS_take (xs : List Int) (k : Nat) (h : k < xs.length) : okS (xs.take (k + 1)) = (okS (xs.take k) && rdB (xs.getD k 0)) := by
  unfold okS
  rw [take_snoc xs k h, List.all_append]; simp
theorem okS_bad (xs : List Int) (k : Nat) (h : k < xs.length) (hb : rdB (xs.getD k 0) = false) : okS xs = false := by
  unfold okS
  rw [List.all_eq_false]
  refine ⟨xs[k], List.getElem_mem h, ?_⟩
  rw [List.getD_eq_getElem?_getD, List.getElem?_eq_getElem h] at hb
  simpa using hb
theorem okS_get {xs : List Int} (h : okS xs = true) (i : Nat) : 0 ≤ xs.getD i 0 ∧ xs.getD i 0 ≤ 60 := by
  by_cases hi : i < xs.length
  · have := List.all_eq_true.1 h _ (List.getElem_mem hi)
    rw [List.getD_eq_getElem?_getD, List.getElem?_eq_getElem hi]
    exact (rdB_iff _).1 this
  · rw [List.getD_eq_getElem?_getD, List.getElem?_eq_none (by omega)]; simp
theorem okS_full {xs : List Int} (k : Nat) (h : xs.length = 24) (hk : ¬ k < 24) (ht : okS (xs.take k) = true) : okS xs = true := by
  rwa [List.take_of_length_le (by omega)] at ht
set_option maxHeartbeats 400000 in
theorem l06Ok_c (xs : List Int) (hs : Sc xs) (g : Nat) (t : TypeId) (w : World) (hb : w.heap[g]? = some (.cells (arr .i8 xs) t (0, 0))) :
    Calls Tryz.prog 36 #[.pointer (some ⟨g, 0, none⟩)] w fun e w' => e = .returned (.bool (okS xs)) ∧ w = w' := by
  have HL := Lib.hid hs.1
  have HB := Lib.hid hb
  clear hb
  go_enter Tryz.func36, Tryz.ntmps36
  go_wp2
  go_loop [3] (fun i => ∃ k : Nat, k ≤ 24 ∧ i = .int .i64 k ∧ okS (xs.take k) = true) (fun i => 24 - (intOf i).toNat)
  case atStart => exact ⟨0, Nat.zero_le _, rfl, rfl⟩
  case round =>
    obtain ⟨k, hk, rfl, hok⟩ := hrel
    have HK := Lib.hid hok
    clear hok
    by_cases hlt : k < 24
    · obtain ⟨x, hxe⟩ : ∃ x, x = xs.getD k 0 := ⟨_, rfl⟩
      have hcell : w.cell? ⟨g, k, none⟩ = some (.int .i8 x) := by rw [hxe]; exact arr_cell HB.out k (by rw [HL.out]; exact hlt)
      have hx1 : -128 ≤ x := by rw [hxe]; exact (hs.2 k).1
      have hx2 : x ≤ 127 := by rw [hxe]; exact (hs.2 k).2
      have HE := Lib.hid hxe
      clear hxe
      cases hr : rdB x
      · have HR := Lib.hid hr
        clear hr
        go_wp2_with (go_at_call 46; refine (l06Reading_c _ _).mono ?_; rintro e w' ⟨rfl, rfl⟩; rw [HR.out])
        go_ret
        exact ⟨ret_bool (okS_bad xs k (by rw [HL.out]; exact hlt) (by rw [← HE.out, HR.out])).symm, rfl⟩
      · have HR := Lib.hid hr
        clear hr
        go_wp2_with (go_at_call 46; refine (l06Reading_c _ _).mono ?_; rintro e w' ⟨rfl, rfl⟩; rw [HR.out])
        go_round
        case rel => exact ⟨k + 1, by omega, by go_num, by rw [okS_take _ _ (by rw [HL.out]; exact hlt), HK.out, ← HE.out, HR.out]; rfl⟩
        case measure => simp [intOf]; omega
    · go_wp2
      go_ret
      exact ⟨ret_bool (okS_full k HL.out hlt HK.out).symm, rfl⟩
theorem validFn_c (n : Int) (hn : -128 ≤ n ∧ n ≤ 127) (w : World) :
    Calls Tryz.prog 40 #[.int .i8 n] w fun e w' => e = .returned (.bool (!rdB n)) ∧ w = w' := by
  obtain ⟨h1, h2⟩ := hn
  go_enter Tryz.func40, Tryz.ntmps40
  go_wp2_with (go_at_call 41; refine (isReading_c _ _).mono ?_; rintro e w' ⟨rfl, rfl⟩)
  go_ret
  exact ⟨rfl, rfl⟩
/-- A place of a number that is no reading, or -1. -/
def BadAt (xs : List Int) (e : Ending) : Prop := ∃ v : Int, e = .returned (.int .i64 v) ∧ decide (0 ≤ v) = !okS xs
set_option maxHeartbeats 400000 in
theorem indexFunc8_c (xs : List Int) (hs : Sc xs) (g : Nat) (t : TypeId) (w : World) (hb : w.heap[g]? = some (.cells (arr .i8 xs) t (0, 0))) :
    Calls Tryz.prog 57 #[.slice (some ⟨g, 0, none⟩) 24 24, .func (.func 40) #[] #[]] w fun e w' => BadAt xs e ∧ w = w' := by
  have HL := Lib.hid hs.1
  have HB := Lib.hid hb
  clear hb
  go_enter Tryz.func57, Tryz.ntmps57
  go_wp2
  go_loop [8] (fun i => ∃ k : Nat, k ≤ 24 ∧ i = .int .i64 k ∧ okS (xs.take k) = true) (fun i => 24 - (intOf i).toNat)
  case atStart => exact ⟨0, Nat.zero_le _, rfl, rfl⟩
  case round =>
    obtain ⟨k, hk, rfl, hok⟩ := hrel
    have HK := Lib.hid hok
    clear hok
    by_cases hlt : k < 24
    · obtain ⟨x, hxe⟩ : ∃ x, x = xs.getD k 0 := ⟨_, rfl⟩
      have hcell : w.cell? ⟨g, k, none⟩ = some (.int .i8 x) := by rw [hxe]; exact arr_cell HB.out k (by rw [HL.out]; exact hlt)
      have hx : -128 ≤ x ∧ x ≤ 127 := by rw [hxe]; exact hs.2 k
      have HE := Lib.hid hxe
      clear hxe
      cases hr : rdB x
      · have HR := Lib.hid hr
        clear hr
        go_wp2_with (go_at_call 40; refine (validFn_c _ hx _).mono ?_; rintro e w' ⟨rfl, rfl⟩; rw [HR.out])
        go_ret
        exact ⟨⟨_, rfl, by rw [okS_bad xs k (by rw [HL.out]; exact hlt) (by rw [← HE.out, HR.out])]; simp⟩, rfl⟩
      · have HR := Lib.hid hr
        clear hr
        go_wp2_with (go_at_call 40; refine (validFn_c _ hx _).mono ?_; rintro e w' ⟨rfl, rfl⟩; rw [HR.out])
        go_round
        case rel => exact ⟨k + 1, by omega, by go_num, by rw [okS_take _ _ (by rw [HL.out]; exact hlt), HK.out, ← HE.out, HR.out]; rfl⟩
        case measure => simp [intOf]; omega
    · go_wp2
      go_ret
      exact ⟨⟨_, rfl, by rw [okS_full k HL.out hlt HK.out]; rfl⟩, rfl⟩
theorem containsFunc8_c (xs : List Int) (hs : Sc xs) (g : Nat) (t : TypeId) (w : World) (hb : w.heap[g]? = some (.cells (arr .i8 xs) t (0, 0))) :
    Calls Tryz.prog 39 #[.slice (some ⟨g, 0, none⟩) 24 24, .func (.func 40) #[] #[]] w fun e w' => e = .returned (.bool (!okS xs)) ∧ w = w' := by
  have HB := Lib.hid hb
  clear hb
  go_enter Tryz.func39, Tryz.ntmps39
  go_wp2_with fail
  refine (indexFunc8_c xs hs g t _ HB.out).mono ?_
  rintro e w' ⟨⟨v, rfl, hv⟩, rfl⟩
  have HV := Lib.hid hv
  clear hv
  go_wp2
  go_ret
  exact ⟨ret_bool HV.out, rfl⟩
theorem implValidScene_c (xs : List Int) (hs : Sc xs) (w : World) :
    Calls Tryz.prog 13 #[.agg (arr .i8 xs)] w fun e w' => e = .returned (.bool (okS xs)) ∧ Below w.heap.size w w' := by
  go_enter Tryz.func13, Tryz.ntmps13
  go_wp2_with fail
  refine (containsFunc8_c xs hs _ _ _ (al1_0 _ _)).mono ?_
  rintro e w' ⟨rfl, rfl⟩
  go_wp2
  go_ret
  exact ⟨ret_bool (by simp), bl1 _ _⟩
end Go.Proofs.YtbafbfamjjmngaaGreatDoor
