/- Sheets: valid or not. -/
import Derived.Test.YtdmlefccajaniaaDoorDens
namespace Go.Proofs.YtdmlefccajaniaaDoor
open Go.RowKit
def okL (l : List (List Int)) : Bool := l.all okP
theorem okL_take (l : List (List Int)) (k : Nat) (h : k < l.length) : okL (l.take (k + 1)) = (okL (l.take k) && okP (l.getD k [])) := by
  unfold okL
  rw [takeP_snoc l k h, List.all_append]; simp
theorem okL_bad (l : List (List Int)) (k : Nat) (h : k < l.length) (hb : okP (l.getD k []) = false) : okL l = false := by
  unfold okL
  rw [List.all_eq_false]
  refine ⟨l[k], List.getElem_mem h, ?_⟩
  rw [List.getD_eq_getElem?_getD, List.getElem?_eq_getElem h] at hb
  simpa using hb
theorem okL_full {l : List (List Int)} (k : Nat) (hk : ¬ k < l.length) (ht : okL (l.take k) = true) : okL l = true := by
  rwa [List.take_of_length_le (by omega)] at ht
theorem okL_get {l : List (List Int)} (h : okL l = true) (k : Nat) (hk : k < l.length) : okP (l.getD k []) = true := by
  rw [List.getD_eq_getElem?_getD, List.getElem?_eq_getElem hk]
  exact List.all_eq_true.1 h _ (List.getElem_mem hk)
def inS (a : Int) : Bool := decide (1 ≤ a) && decide (a ≤ 12)
def shB (a : Int) (l : List (List Int)) : Bool := (inS a && decide (l.length ≤ 12)) && okL l
theorem shB_get {a : Int} {l : List (List Int)} (h : shB a l = true) : 1 ≤ a ∧ a ≤ 12 ∧ l.length ≤ 12 ∧ okL l = true := by
  simp only [shB, inS, Bool.and_eq_true, decide_eq_true_eq] at h; exact ⟨h.1.1.1, h.1.1.2, h.1.2, h.2⟩
theorem shB_bad {a : Int} {l : List (List Int)} (h : okL l = false) : shB a l = false := by simp [shB, h]
set_option maxHeartbeats 400000 in
theorem areDensities_c (xs : List Int) (hs : Pr xs) (w : World) :
    Calls Tryd.prog 84 #[.agg (arr .i16 xs)] w fun e w' => e = .returned (.bool (okP xs)) ∧ Below w.heap.size w w' := by
  have HL := Lib.hid hs.1
  go_enter Tryd.func84, Tryd.ntmps84
  go_wp2_with (refine wpList_load_row rfl 36 (.tmp 1) rfl _ rfl _ _ _ _ (al1_0 w (.cells (arr .i16 xs) 36)) Tryd.underlying36 rfl (by rw [szA64, arr_size, HL.out]) ?_)
  have HB := Lib.hid (bl1 w (.cells (arr .i16 xs) 36))
  generalize w.alloc (.cells (arr .i16 xs) 36) = w1 at *
  go_loop [6] (fun i => ∃ k : Nat, k ≤ 64 ∧ i = .int .i64 k ∧ okP (xs.take k) = true) (fun i => 64 - (intOf i).toNat)
  case atStart => exact ⟨0, Nat.zero_le _, rfl, rfl⟩
  case round =>
    obtain ⟨k, hk, rfl, hok⟩ := hrel
    have HK := Lib.hid hok
    clear hok
    by_cases hlt : k < 64
    · obtain ⟨x, hxe⟩ : ∃ x, x = xs.getD k 0 := ⟨_, rfl⟩
      have hx1 : -32768 ≤ x := by rw [hxe]; exact (hs.2 k).1
      have hx2 : x ≤ 32767 := by rw [hxe]; exact (hs.2 k).2
      have HE := Lib.hid hxe
      clear hxe
      cases hr : dnB x
      all_goals
        have HR := Lib.hid hr
        clear hr
        go_wp2_with (first
          | (refine wpList_index_arr rfl 36 (.tmp 5) (.tmp 6) rfl xs rfl k rfl 64 35 Tryd.underlying36 szI16 Tryd.underlying35 hlt HL.out ?_; rw [← HE.out])
          | (go_at_call 62; refine (isDensity_c _ _).mono ?_; rintro e w' ⟨rfl, rfl⟩; rw [HR.out]))
      · go_ret
        exact ⟨ret_bool (okP_bad xs k (by rw [HL.out]; exact hlt) (by rw [← HE.out, HR.out])).symm, HB.out⟩
      · go_round
        case rel => exact ⟨k + 1, by omega, by go_num, by rw [okP_take _ _ (by rw [HL.out]; exact hlt), HK.out, ← HE.out, HR.out]; rfl⟩
        case measure => simp [intOf]; omega
    · go_wp2
      go_ret
      exact ⟨ret_bool (okP_full k HL.out hlt HK.out).symm, HB.out⟩
theorem implValidPrint_c (xs : List Int) (hs : Pr xs) (w : World) :
    Calls Tryd.prog 54 #[.agg (arr .i16 xs)] w fun e w' => e = .returned (.bool (okP xs)) ∧ Below w.heap.size w w' := by
  have HL := Lib.hid hs.1
  go_enter Tryd.func54, Tryd.ntmps54
  go_wp2_with (refine wpList_load_row rfl 37 (.tmp 1) rfl _ rfl _ _ _ _ (al1_0 w (.cells (arr .i16 xs) 37)) Tryd.underlying37 rfl (by rw [szPrint, arr_size, HL.out]) ?_)
  refine (areDensities_c xs hs _).mono ?_
  rintro e w1 ⟨rfl, hb1⟩
  have hB := Lib.hid (bt (bl1 _ _) hb1)
  clear hb1
  go_wp2
  go_ret
  exact ⟨rfl, hB.out⟩
theorem arePrintsFn_c (xs : List Int) (hs : Pr xs) (w : World) :
    Calls Tryd.prog 106 #[.agg (arr .i16 xs)] w fun e w' => e = .returned (.bool (!okP xs)) ∧ Below w.heap.size w w' := by
  have HL := Lib.hid hs.1
  go_enter Tryd.func106, Tryd.ntmps106
  go_wp2_with (refine wpList_load_row rfl 37 (.tmp 1) rfl _ rfl _ _ _ _ (al1_0 w (.cells (arr .i16 xs) 37)) Tryd.underlying37 rfl (by rw [szPrint, arr_size, HL.out]) ?_)
  refine (implValidPrint_c xs hs _).mono ?_
  rintro e w1 ⟨rfl, hb1⟩
  have hB := Lib.hid (bt (bl1 _ _) hb1)
  clear hb1
  go_wp2
  go_ret
  exact ⟨rfl, hB.out⟩
def BadAt (b : Bool) (e : Ending) : Prop := ∃ v : Int, e = .returned (.int .i64 v) ∧ decide (0 ≤ v) = !b
set_option maxHeartbeats 400000 in
theorem indexFuncP_c (p : Option Addr) (n c : Nat) (l : List (List Int)) (hl : Prs l) (hn : n = l.length) (hm : n ≤ 1048576) (w : World) (hp : PS w p l) :
    Calls Tryd.prog 127 #[.slice p n c, .func (.func 106) #[] #[]] w fun e w' => BadAt (okL l) e ∧ Below w.heap.size w w' := by
  have HN := Lib.hid hn
  have HA := Lib.hid hp
  have HP := Lib.hid hl
  clear hn hp hl
  go_enter Tryd.func127, Tryd.ntmps127
  go_wp2
  go_loopw [8] (fun i wr => ∃ k : Nat, k ≤ n ∧ i = .int .i64 k ∧ okL (l.take k) = true ∧ Below w.heap.size w wr) (fun i _ => n - (intOf i).toNat)
  case atStart => exact ⟨0, Nat.zero_le _, rfl, rfl, Below.refl _ _⟩
  case round =>
    obtain ⟨k, hk, rfl, hok, hW⟩ := hrel
    have HW := Lib.hid hW
    have HK := Lib.hid hok
    clear hW hok
    by_cases hlt : k < n
    · obtain ⟨b, o, rfl, hb, hat⟩ := HA.out (ne_of_lt (k := k) (by have := HN.out; omega))
      obtain ⟨q, hpe⟩ : ∃ q, q = l.getD k [] := ⟨_, rfl⟩
      have HPr : Hid (Pr q) := Lib.hid (by rw [hpe]; exact HP.out k (by have := HN.out; omega))
      have HR : Hid (wr.rangeAt b (o + k * 64) (cellsP q)) := Lib.hid (by rw [hpe]; exact rangeAt_below HW.out hb (hat k (by have := HN.out; omega)))
      have H64 : Hid ((cellsP q).length = 64) := Lib.hid (by rw [cellsP_length]; exact HPr.out.1)
      have HE := Lib.hid hpe
      clear hpe hat
      cases hr : okP q
      all_goals
        have HR2 := Lib.hid hr
        clear hr
        go_wp2_with (refine wpList_load_mid rfl 37 (.tmp 14) rfl b (o + k * 64) rfl (cellsP q) _ HR.out Tryd.underlying37 rfl (by rw [szPrint, H64.out]) ?_)
        rw [cellsP_arr]
        refine (arePrintsFn_c q HPr.out _).mono ?_
        rintro e w1 ⟨rfl, hb1⟩
        rw [HR2.out]
        have hB := Lib.hid (bt HW.out hb1)
        clear hb1
        go_wp2
      · go_ret
        exact ⟨⟨_, rfl, by rw [okL_bad l k (by have := HN.out; omega) (by rw [← HE.out, HR2.out])]; simp⟩, hB.out⟩
      · go_roundw
        case rel => exact ⟨k + 1, by omega, by go_num, by rw [okL_take _ _ (by have := HN.out; omega), HK.out, ← HE.out, HR2.out]; rfl, hB.out⟩
        case measure => simp [intOf]; omega
    · go_wp2
      go_ret
      exact ⟨⟨_, rfl, by rw [okL_full k (by have := HN.out; omega) HK.out]; rfl⟩, HW.out⟩
theorem containsFuncP_c (p : Option Addr) (n c : Nat) (l : List (List Int)) (hl : Prs l) (hn : n = l.length) (hm : n ≤ 1048576) (w : World) (hp : PS w p l) :
    Calls Tryd.prog 105 #[.slice p n c, .func (.func 106) #[] #[]] w fun e w' => e = .returned (.bool (!okL l)) ∧ Below w.heap.size w w' := by
  have HN := Lib.hid hn
  have HA := Lib.hid hp
  clear hp hn
  go_enter Tryd.func105, Tryd.ntmps105
  go_wp2_with fail
  refine (indexFuncP_c p n c l hl HN.out hm _ HA.out).mono ?_
  rintro e w1 ⟨⟨v, rfl, hv⟩, hb1⟩
  have HV := Lib.hid hv
  have hB := Lib.hid hb1
  clear hv hb1
  go_wp2
  go_ret
  exact ⟨ret_bool HV.out, hB.out⟩
theorem arePrints_c (p : Option Addr) (n c : Nat) (l : List (List Int)) (hl : Prs l) (hn : n = l.length) (hm : n ≤ 1048576) (w : World) (hp : PS w p l) :
    Calls Tryd.prog 87 #[.slice p n c] w fun e w' => e = .returned (.bool (okL l)) ∧ Below w.heap.size w w' := by
  have HN := Lib.hid hn
  have HA := Lib.hid hp
  clear hp hn
  go_enter Tryd.func87, Tryd.ntmps87
  go_wp2_with fail
  refine (containsFuncP_c p n c l hl HN.out hm _ HA.out).mono ?_
  rintro e w1 ⟨rfl, hb1⟩
  have hB := Lib.hid hb1
  clear hb1
  go_wp2
  go_ret
  exact ⟨ret_bool (by simp), hB.out⟩
end Go.Proofs.YtdmlefccajaniaaDoor
namespace Go.Proofs.YtdmlefccajaniaaDoor
open Go.RowKit
theorem rangeAt_arr {w : World} {g : Nat} {xs : List Int} {t : TypeId} {fr : Nat × Nat} (h : w.heap[g]? = some (.cells (arr .i16 xs) t fr)) : w.rangeAt g 0 (cellsP xs) := fun j v hv => by
  rw [cell_of_row w g _ _ t fr h, Nat.zero_add, arr, List.getElem?_toArray]; exact hv
end Go.Proofs.YtdmlefccajaniaaDoor
