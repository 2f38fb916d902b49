/- Sheets: valid or not. -/
import Derived.Test.YtnbbbmnjbfehmaaDens
namespace Go.Proofs.Ytnbbbmnjbfehmaa
open Go.RowKit
def okL (l : List (List Int)) : Bool := l.all okP
theorem okL_take (l : List (List Int)) (k : Nat) (h : k < l.length) : okL (l.take (k + 1)) = (okL (l.take k) && okP (l.getD k [])) := by
  unfold okL
  rw [takeP_snoc l k h, List.all_append]; simp
theorem okL_bad (l : List (List Int)) (k : Nat) (h : k < l.length) (hb : okP (l.getD k []) = false) : okL l = false := by
  unfold okL
  rw [List.all_eq_false]
  refine ⟨l[k], List.getElem_mem h, ?_⟩
  rw [List.getD_eq_getElem?_getD, List.getElem?_eq_getElem h] at hb
  simpa using hb
theorem okL_full {l : List (List Int)} (k : Nat) (hk : ¬ k < l.length) (ht : okL (l.take k) = true) : okL l = true := by
  rwa [List.take_of_length_le (by omega)] at ht
theorem okL_get {l : List (List Int)} (h : okL l = true) (k : Nat) (hk : k < l.length) : okP (l.getD k []) = true := by
  rw [List.getD_eq_getElem?_getD, List.getElem?_eq_getElem hk]
  exact List.all_eq_true.1 h _ (List.getElem_mem hk)
def inS (a : Int) : Bool := decide (1 ≤ a) && decide (a ≤ 12)
def shB (a : Int) (l : List (List Int)) : Bool := (inS a && decide (l.length ≤ 12)) && okL l
theorem shB_get {a : Int} {l : List (List Int)} (h : shB a l = true) : 1 ≤ a ∧ a ≤ 12 ∧ l.length ≤ 12 ∧ okL l = true := by
  simp only [shB, inS, Bool.and_eq_true, decide_eq_true_eq] at h; exact ⟨h.1.1.1, h.1.1.2, h.1.2, h.2⟩
theorem shB_bad {a : Int} {l : List (List Int)} (h : okL l = false) : shB a l = false := by simp [shB, h]
set_option maxHeartbeats 1000000 in
theorem l07Ok_c (a : Int) (ha : -128 ≤ a ∧ a ≤ 127) (p : Option Addr) (n c : Nat) (l : List (List Int)) (hl : Prs l) (hn : n = l.length) (hm : n ≤ 1048576) (g : Nat) (t : TypeId) (w : World) (hp : PS w p l) (hg : w.heap[g]? = some (.cells #[.int .i8 a, .slice p n c] t (0, 0))) :
    Calls Try.prog 50 #[.pointer (some ⟨g, 0, none⟩)] w fun e w' => e = .returned (.bool (shB a l)) ∧ Below w.heap.size w w' := by
  obtain ⟨ha1, ha2⟩ := ha
  have HN := Lib.hid hn
  have HA := Lib.hid hp
  have HP := Lib.hid hl
  have HG := Lib.hid hg
  have hgz := lt_of_heap hg
  have c0 := bk2_0 hg
  have c1 := bk2_1 hg
  clear hn hp hl hg
  go_enter Try.func50, Try.ntmps50
  go_wp2
  go_loopw [3] (fun i wr => ∃ k : Nat, k ≤ n ∧ i = .int .i64 k ∧ okL (l.take k) = true ∧ Below w.heap.size w wr) (fun i _ => n - (intOf i).toNat)
  case atStart => exact ⟨0, Nat.zero_le _, rfl, rfl, Below.refl _ _⟩
  case round =>
    obtain ⟨k, hk, rfl, hok, hW⟩ := hrel
    have HW := Lib.hid hW
    have HK := Lib.hid hok
    have HG1 := Lib.hid (heap_below hW hgz HG.out)
    have c0 := bk2_0 HG1.out
    have c1 := bk2_1 HG1.out
    clear hW hok
    by_cases hlt : k < n
    · obtain ⟨b, o, rfl, hb, hat⟩ := HA.out (ne_of_lt (k := k) (by have := HN.out; omega))
      obtain ⟨q, hpe⟩ : ∃ q, q = l.getD k [] := ⟨_, rfl⟩
      have HPr : Hid (Pr q) := Lib.hid (by rw [hpe]; exact HP.out k (by have := HN.out; omega))
      have HR : Hid (wr.rangeAt b (o + k * 64) (cellsP q)) := Lib.hid (by rw [hpe]; exact rangeAt_below HW.out hb (hat k (by have := HN.out; omega)))
      have HE := Lib.hid hpe
      clear hpe hat
      cases hr : okP q
      · have HV : Hid (shB a l = false) := Lib.hid (shB_bad (okL_bad l k (by have := HN.out; omega) (by rw [← HE.out, hr])))
        have HR2 := Lib.hid hr
        clear hr
        go_wp2_with fail
        refine (l03Print_c q HPr.out b _ _ HR.out).mono ?_
        rintro e w1 ⟨rfl, hb1⟩
        rw [HR2.out]
        have hB := Lib.hid (bt HW.out hb1)
        clear hb1
        go_wp2
        go_ret
        exact ⟨ret_bool HV.out.symm, hB.out⟩
      · have HR2 := Lib.hid hr
        clear hr
        go_wp2_with fail
        refine (l03Print_c q HPr.out b _ _ HR.out).mono ?_
        rintro e w1 ⟨rfl, hb1⟩
        rw [HR2.out]
        have hB := Lib.hid (bt HW.out hb1)
        clear hb1
        go_wp2
        go_roundw
        case rel => exact ⟨k + 1, by omega, by go_num, by rw [okL_take _ _ (by have := HN.out; omega), HK.out, ← HE.out, HR2.out]; rfl, hB.out⟩
        case measure => simp [intOf]; omega
    · have HV : Hid (shB a l = (inS a && decide (n ≤ 12))) := Lib.hid (by
        have h1 := okL_full k (by have := HN.out; omega) HK.out
        simp [shB, h1, ← HN.out])
      by_cases h1 : 1 ≤ a ∧ a ≤ 12
      · obtain ⟨h1, h2⟩ := h1
        have HV2 : Hid (shB a l = decide (n ≤ 12)) := Lib.hid (by rw [HV.out]; simp [inS, h1, h2])
        by_cases h3 : n ≤ 12
        · go_wp2_with (go_at_call 54; refine (l00In_c _ _ _ _).mono ?_; rintro e w' ⟨rfl, rfl⟩)
          go_ret
          exact ⟨ret_bool (by rw [HV2.out]; simp; omega), HW.out⟩
        · go_wp2_with (go_at_call 54; refine (l00In_c _ _ _ _).mono ?_; rintro e w' ⟨rfl, rfl⟩)
          go_ret
          exact ⟨ret_bool (by rw [HV2.out]; simp; omega), HW.out⟩
      · have HD : Hid ((decide (1 ≤ a) && decide (a ≤ 12)) = false) := Lib.hid (by simp; omega)
        have HV2 : Hid (shB a l = false) := Lib.hid (by rw [HV.out]; unfold inS; rw [HD.out]; rfl)
        go_wp2_with (go_at_call 54; refine (l00In_c _ _ _ _).mono ?_; rintro e w' ⟨rfl, rfl⟩; rw [HD.out])
        go_ret
        exact ⟨ret_bool (by rw [HV2.out]), HW.out⟩
theorem specValidSheet_c (a : Int) (ha : -128 ≤ a ∧ a ≤ 127) (p : Option Addr) (n c : Nat) (l : List (List Int)) (hl : Prs l) (hn : n = l.length) (hm : n ≤ 1048576) (w : World) (hp : PS w p l) :
    Calls Try.prog 19 #[.agg #[.int .i8 a, .slice p n c]] w fun e w' => e = .returned (.bool (shB a l)) ∧ Below w.heap.size w w' := by
  have HN := Lib.hid hn
  have HA := Lib.hid hp
  clear hp hn
  go_enter Try.func19, Try.ntmps19
  go_wp2_with fail
  refine (l07Ok_c a ha p n c l hl HN.out hm _ _ _ (PS_below (bl1 _ _) HA.out) (al1_0 _ _)).mono ?_
  rintro e w1 ⟨rfl, hb1⟩
  have hB := Lib.hid (bt (bl1 _ _) hb1)
  clear hb1
  go_wp2
  go_ret
  exact ⟨rfl, hB.out⟩
set_option maxHeartbeats 400000 in
theorem areDensities_c (xs : List Int) (hs : Pr xs) (w : World) :
    Calls Try.prog 76 #[.agg (arr .i16 xs)] w fun e w' => e = .returned (.bool (okP xs)) ∧ Below w.heap.size w w' := by
  have HL := Lib.hid hs.1
  go_enter Try.func76, Try.ntmps76
  go_wp2_with (refine wpList_load_row rfl 40 (.tmp 1) rfl _ rfl _ _ _ _ (al1_0 w (.cells (arr .i16 xs) 40)) Try.underlying40 rfl (by rw [szA64, arr_size, HL.out]) ?_)
  have HB := Lib.hid (bl1 w (.cells (arr .i16 xs) 40))
  generalize w.alloc (.cells (arr .i16 xs) 40) = w1 at *
  go_loop [6] (fun i => ∃ k : Nat, k ≤ 64 ∧ i = .int .i64 k ∧ okP (xs.take k) = true) (fun i => 64 - (intOf i).toNat)
  case atStart => exact ⟨0, Nat.zero_le _, rfl, rfl⟩
  case round =>
    obtain ⟨k, hk, rfl, hok⟩ := hrel
    have HK := Lib.hid hok
    clear hok
    by_cases hlt : k < 64
    · obtain ⟨x, hxe⟩ : ∃ x, x = xs.getD k 0 := ⟨_, rfl⟩
      have hx1 : -32768 ≤ x := by rw [hxe]; exact (hs.2 k).1
      have hx2 : x ≤ 32767 := by rw [hxe]; exact (hs.2 k).2
      have HE := Lib.hid hxe
      clear hxe
      cases hr : dnB x
      all_goals
        have HR := Lib.hid hr
        clear hr
        go_wp2_with (first
          | (refine wpList_index_arr rfl 40 (.tmp 5) (.tmp 6) rfl xs rfl k rfl 64 39 Try.underlying40 szI16 Try.underlying39 hlt HL.out ?_; rw [← HE.out])
          | (go_at_call 60; refine (isDensity_c _ _).mono ?_; rintro e w' ⟨rfl, rfl⟩; rw [HR.out]))
      · go_ret
        exact ⟨ret_bool (okP_bad xs k (by rw [HL.out]; exact hlt) (by rw [← HE.out, HR.out])).symm, HB.out⟩
      · go_round
        case rel => exact ⟨k + 1, by omega, by go_num, by rw [okP_take _ _ (by rw [HL.out]; exact hlt), HK.out, ← HE.out, HR.out]; rfl⟩
        case measure => simp [intOf]; omega
    · go_wp2
      go_ret
      exact ⟨ret_bool (okP_full k HL.out hlt HK.out).symm, HB.out⟩
theorem implValidPrint_c (xs : List Int) (hs : Pr xs) (w : World) :
    Calls Try.prog 58 #[.agg (arr .i16 xs)] w fun e w' => e = .returned (.bool (okP xs)) ∧ Below w.heap.size w w' := by
  have HL := Lib.hid hs.1
  go_enter Try.func58, Try.ntmps58
  go_wp2_with (refine wpList_load_row rfl 45 (.tmp 1) rfl _ rfl _ _ _ _ (al1_0 w (.cells (arr .i16 xs) 45)) Try.underlying45 rfl (by rw [szPrint, arr_size, HL.out]) ?_)
  refine (areDensities_c xs hs _).mono ?_
  rintro e w1 ⟨rfl, hb1⟩
  have hB := Lib.hid (bt (bl1 _ _) hb1)
  clear hb1
  go_wp2
  go_ret
  exact ⟨rfl, hB.out⟩
theorem arePrintsFn_c (xs : List Int) (hs : Pr xs) (w : World) :
    Calls Try.prog 73 #[.agg (arr .i16 xs)] w fun e w' => e = .returned (.bool (!okP xs)) ∧ Below w.heap.size w w' := by
  have HL := Lib.hid hs.1
  go_enter Try.func73, Try.ntmps73
  go_wp2_with (refine wpList_load_row rfl 45 (.tmp 1) rfl _ rfl _ _ _ _ (al1_0 w (.cells (arr .i16 xs) 45)) Try.underlying45 rfl (by rw [szPrint, arr_size, HL.out]) ?_)
  refine (implValidPrint_c xs hs _).mono ?_
  rintro e w1 ⟨rfl, hb1⟩
  have hB := Lib.hid (bt (bl1 _ _) hb1)
  clear hb1
  go_wp2
  go_ret
  exact ⟨rfl, hB.out⟩
def BadAt (b : Bool) (e : Ending) : Prop := ∃ v : Int, e = .returned (.int .i64 v) ∧ decide (0 ≤ v) = !b
set_option maxHeartbeats 400000 in
theorem indexFuncP_c (p : Option Addr) (n c : Nat) (l : List (List Int)) (hl : Prs l) (hn : n = l.length) (hm : n ≤ 1048576) (w : World) (hp : PS w p l) :
    Calls Try.prog 81 #[.slice p n c, .func (.func 73) #[] #[]] w fun e w' => BadAt (okL l) e ∧ Below w.heap.size w w' := by
  have HN := Lib.hid hn
  have HA := Lib.hid hp
  have HP := Lib.hid hl
  clear hn hp hl
  go_enter Try.func81, Try.ntmps81
  go_wp2
  go_loopw [8] (fun i wr => ∃ k : Nat, k ≤ n ∧ i = .int .i64 k ∧ okL (l.take k) = true ∧ Below w.heap.size w wr) (fun i _ => n - (intOf i).toNat)
  case atStart => exact ⟨0, Nat.zero_le _, rfl, rfl, Below.refl _ _⟩
  case round =>
    obtain ⟨k, hk, rfl, hok, hW⟩ := hrel
    have HW := Lib.hid hW
    have HK := Lib.hid hok
    clear hW hok
    by_cases hlt : k < n
    · obtain ⟨b, o, rfl, hb, hat⟩ := HA.out (ne_of_lt (k := k) (by have := HN.out; omega))
      obtain ⟨q, hpe⟩ : ∃ q, q = l.getD k [] := ⟨_, rfl⟩
      have HPr : Hid (Pr q) := Lib.hid (by rw [hpe]; exact HP.out k (by have := HN.out; omega))
      have HR : Hid (wr.rangeAt b (o + k * 64) (cellsP q)) := Lib.hid (by rw [hpe]; exact rangeAt_below HW.out hb (hat k (by have := HN.out; omega)))
      have H64 : Hid ((cellsP q).length = 64) := Lib.hid (by rw [cellsP_length]; exact HPr.out.1)
      have HE := Lib.hid hpe
      clear hpe hat
      cases hr : okP q
      all_goals
        have HR2 := Lib.hid hr
        clear hr
        go_wp2_with (refine wpList_load_mid rfl 45 (.tmp 14) rfl b (o + k * 64) rfl (cellsP q) _ HR.out Try.underlying45 rfl (by rw [szPrint, H64.out]) ?_)
        rw [cellsP_arr]
        refine (arePrintsFn_c q HPr.out _).mono ?_
        rintro e w1 ⟨rfl, hb1⟩
        rw [HR2.out]
        have hB := Lib.hid (bt HW.out hb1)
        clear hb1
        go_wp2
      · go_ret
        exact ⟨⟨_, rfl, by rw [okL_bad l k (by have := HN.out; omega) (by rw [← HE.out, HR2.out])]; simp⟩, hB.out⟩
      · go_roundw
        case rel => exact ⟨k + 1, by omega, by go_num, by rw [okL_take _ _ (by have := HN.out; omega), HK.out, ← HE.out, HR2.out]; rfl, hB.out⟩
        case measure => simp [intOf]; omega
    · go_wp2
      go_ret
      exact ⟨⟨_, rfl, by rw [okL_full k (by have := HN.out; omega) HK.out]; rfl⟩, HW.out⟩
theorem containsFuncP_c (p : Option Addr) (n c : Nat) (l : List (List Int)) (hl : Prs l) (hn : n = l.length) (hm : n ≤ 1048576) (w : World) (hp : PS w p l) :
    Calls Try.prog 72 #[.slice p n c, .func (.func 73) #[] #[]] w fun e w' => e = .returned (.bool (!okL l)) ∧ Below w.heap.size w w' := by
  have HN := Lib.hid hn
  have HA := Lib.hid hp
  clear hp hn
  go_enter Try.func72, Try.ntmps72
  go_wp2_with fail
  refine (indexFuncP_c p n c l hl HN.out hm _ HA.out).mono ?_
  rintro e w1 ⟨⟨v, rfl, hv⟩, hb1⟩
  have HV := Lib.hid hv
  have hB := Lib.hid hb1
  clear hv hb1
  go_wp2
  go_ret
  exact ⟨ret_bool HV.out, hB.out⟩
theorem arePrints_c (p : Option Addr) (n c : Nat) (l : List (List Int)) (hl : Prs l) (hn : n = l.length) (hm : n ≤ 1048576) (w : World) (hp : PS w p l) :
    Calls Try.prog 52 #[.slice p n c] w fun e w' => e = .returned (.bool (okL l)) ∧ Below w.heap.size w w' := by
  have HN := Lib.hid hn
  have HA := Lib.hid hp
  clear hp hn
  go_enter Try.func52, Try.ntmps52
  go_wp2_with fail
  refine (containsFuncP_c p n c l hl HN.out hm _ HA.out).mono ?_
  rintro e w1 ⟨rfl, hb1⟩
  have hB := Lib.hid hb1
  clear hb1
  go_wp2
  go_ret
  exact ⟨ret_bool (by simp), hB.out⟩
set_option maxHeartbeats 400000 in
theorem implValidSheet_c (a : Int) (ha : -128 ≤ a ∧ a ≤ 127) (p : Option Addr) (n c : Nat) (l : List (List Int)) (hl : Prs l) (hn : n = l.length) (hm : n ≤ 1048576) (w : World) (hp : PS w p l) :
    Calls Try.prog 20 #[.agg #[.int .i8 a, .slice p n c]] w fun e w' => e = .returned (.bool (shB a l)) ∧ Below w.heap.size w w' := by
  obtain ⟨ha1, ha2⟩ := ha
  have HN := Lib.hid hn
  have HA := Lib.hid hp
  have HP := Lib.hid hl
  clear hn hp hl
  by_cases h1 : 1 ≤ a ∧ a ≤ 12
  · obtain ⟨h1, h2⟩ := h1
    by_cases h3 : n ≤ 12
    · have HV2 : Hid (shB a l = okL l) := Lib.hid (by simp [shB, inS, h1, h2, ← HN.out, h3])
      go_enter Try.func20, Try.ntmps20
      go_wp2_with (first
        | (go_at_call 51; refine (within_c _ _ _ _).mono ?_; rintro e w' ⟨rfl, rfl⟩)
        | (go_at_call 52; refine (arePrints_c p n c l HP.out HN.out hm _ (PS_below (bl1 _ _) HA.out)).mono ?_; rintro e w1 ⟨rfl, hb1⟩; have hB := Lib.hid (bt (bl1 _ _) hb1); clear hb1))
      go_ret
      exact ⟨ret_bool HV2.out.symm, hB.out⟩
    · have HV2 : Hid (shB a l = false) := Lib.hid (by simp [shB, inS, h1, h2, ← HN.out, h3])
      go_enter Try.func20, Try.ntmps20
      go_wp2_with (go_at_call 51; refine (within_c _ _ _ _).mono ?_; rintro e w' ⟨rfl, rfl⟩)
      go_ret
      exact ⟨ret_bool HV2.out.symm, bl1 _ _⟩
  · have HD : Hid ((decide (1 ≤ a) && decide (a ≤ 12)) = false) := Lib.hid (by simp; omega)
    have HV2 : Hid (shB a l = false) := Lib.hid (by unfold shB inS; rw [HD.out]; rfl)
    go_enter Try.func20, Try.ntmps20
    go_wp2_with (go_at_call 51; refine (within_c _ _ _ _).mono ?_; rintro e w' ⟨rfl, rfl⟩; rw [HD.out])
    go_ret
    exact ⟨ret_bool HV2.out.symm, bl1 _ _⟩
end Go.Proofs.Ytnbbbmnjbfehmaa
