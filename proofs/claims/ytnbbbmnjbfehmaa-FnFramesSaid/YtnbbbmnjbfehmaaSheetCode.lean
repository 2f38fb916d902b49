/- The code of a sheet and of frames. -/
import Derived.Test.YtnbbbmnjbfehmaaFrameAt
namespace Go.Proofs.Ytnbbbmnjbfehmaa
open Go.RowKit
/-- Where a list of numbers lies. -/
def PI (w : World) (q : Option Addr) (fs : List Int) : Prop := fs ≠ [] → ∃ b o, q = some ⟨b, o, none⟩ ∧ b < w.heap.size ∧ ∀ i, i < fs.length → w.cell? ⟨b, o + i, none⟩ = some (.int .i64 (fs.getD i 0))
theorem PI_below {w w1 : World} {q : Option Addr} {fs : List Int} (hb : Below w.heap.size w w1) (h : PI w q fs) : PI w1 q fs := fun hl => by
  obtain ⟨b, o, h1, h2, h3⟩ := h hl
  exact ⟨b, o, h1, Nat.lt_of_lt_of_le h2 hb.size, fun i hi => by rw [hb.cell (p := ⟨b, o + i, none⟩) h2]; exact h3 i hi⟩
theorem PI_block {w : World} {b : Nat} {fs : List Int} {t : TypeId} {fr : Nat × Nat} (h : w.heap[b]? = some (.cells (arr .i64 fs) t fr)) : PI w (some ⟨b, 0, none⟩) fs :=
  fun _ => ⟨b, 0, rfl, (Array.getElem?_eq_some_iff.1 h).1, fun i hi => by rw [cell_of_row w b _ _ t fr h, Nat.zero_add, arr_get _ _ _ hi]⟩
theorem neI_of_lt {l : List Int} {k : Nat} (h : k < l.length) : l ≠ [] := by rintro rfl; simp at h
def inF (n : Nat) (i : Int) : Bool := decide (0 ≤ i) && decide (i ≤ (n : Int) - 1)
theorem inF_iff (n : Nat) (i : Int) : inF n i = true ↔ 0 ≤ i ∧ i < n := by simp [inF]; omega
def okI (n : Nat) (fs : List Int) : Bool := fs.all (inF n)
theorem okI_take (n : Nat) (xs : List Int) (k : Nat) (h : k < xs.length) : okI n (xs.take (k + 1)) = (okI n (xs.take k) && inF n (xs.getD k 0)) := by
  unfold okI
  rw [take_snoc xs k h, List.all_append]; simp
theorem okI_bad (n : Nat) (xs : List Int) (k : Nat) (h : k < xs.length) (hb : inF n (xs.getD k 0) = false) : okI n xs = false := by
  unfold okI
  rw [List.all_eq_false]
  refine ⟨xs[k], List.getElem_mem h, ?_⟩
  rw [List.getD_eq_getElem?_getD, List.getElem?_eq_getElem h] at hb
  simpa using hb
theorem okI_full {n : Nat} {xs : List Int} (k : Nat) (hk : ¬ k < xs.length) (ht : okI n (xs.take k) = true) : okI n xs = true := by
  rwa [List.take_of_length_le (by omega)] at ht
theorem okI_get {n : Nat} {xs : List Int} (h : okI n xs = true) (i : Nat) (hi : i < xs.length) : 0 ≤ xs.getD i 0 ∧ xs.getD i 0 < n := by
  have := List.all_eq_true.1 h _ (List.getElem_mem hi)
  rw [List.getD_eq_getElem?_getD, List.getElem?_eq_getElem hi]
  exact (inF_iff _ _).1 this
def scV (a : Int) (l : List (List Int)) (fs : List Int) : Int := if shB a l then (if okI l.length fs then 0 else 2) else 1
theorem sheetCodeFn_c (a : Int) (p : Option Addr) (n c : Nat) (i : Int) (g : Nat) (t : TypeId) (w : World) (hn : n ≤ 1048576) (hg : w.heap[g]? = some (.cells #[.int .i8 a, .slice p n c] t (0, 0))) :
    Calls Try.prog 78 #[.int .i64 i, .pointer (some ⟨g, 0, none⟩)] w fun e w' => e = .returned (.bool (!inF n i)) ∧ Below w.heap.size w w' := by
  have HG := Lib.hid hg
  have c0 := bk2_0 hg
  have c1 := bk2_1 hg
  clear hg
  go_enter Try.func78, Try.ntmps78
  go_wp2_with fail
  refine (isFrame_c a p n c i _ hn).mono ?_
  rintro e w1 ⟨rfl, hb1⟩
  have hB := Lib.hid hb1
  clear hb1
  go_wp2
  go_ret
  exact ⟨ret_bool (by simp [inF]), hB.out⟩
set_option maxHeartbeats 400000 in
theorem indexFuncI_c (a : Int) (p : Option Addr) (n c : Nat) (g : Nat) (t : TypeId) (q : Option Addr) (m cm : Nat) (fs : List Int) (hf : m = fs.length) (hm : m ≤ 9223372036854775807) (w : World) (hn : n ≤ 1048576) (hg : w.heap[g]? = some (.cells #[.int .i8 a, .slice p n c] t (0, 0))) (hq : PI w q fs) :
    Calls Try.prog 82 #[.slice q m cm, .func (.func 78) #[] #[.pointer (some ⟨g, 0, none⟩)]] w fun e w' => BadAt (okI n fs) e ∧ Below w.heap.size w w' := by
  have HM := Lib.hid hf
  have HG := Lib.hid hg
  have HQ := Lib.hid hq
  clear hf hg hq
  go_enter Try.func82, Try.ntmps82
  go_wp2
  go_loopw [8] (fun i wr => ∃ k : Nat, k ≤ m ∧ i = .int .i64 k ∧ okI n (fs.take k) = true ∧ Below w.heap.size w wr) (fun i _ => m - (intOf i).toNat)
  case atStart => exact ⟨0, Nat.zero_le _, rfl, rfl, Below.refl _ _⟩
  case round =>
    obtain ⟨k, hk, rfl, hok, hW⟩ := hrel
    have HW := Lib.hid hW
    have HK := Lib.hid hok
    clear hW hok
    by_cases hlt : k < m
    · obtain ⟨b, o, rfl, hb, hat⟩ := HQ.out (neI_of_lt (k := k) (by have := HM.out; omega))
      obtain ⟨x, hxe⟩ : ∃ x, x = fs.getD k 0 := ⟨_, rfl⟩
      have hcell : wr.cell? ⟨b, o + k, none⟩ = some (.int .i64 x) := by rw [hxe, HW.out.cell (p := ⟨b, o + k, none⟩) hb]; exact hat k (by have := HM.out; omega)
      have HE := Lib.hid hxe
      clear hxe hat
      cases hr : inF n x
      all_goals
        have HR := Lib.hid hr
        clear hr
        go_wp2_with fail
        refine (sheetCodeFn_c a p n c x g t _ hn (heap_below HW.out (lt_of_heap HG.out) HG.out)).mono ?_
        rintro e w1 ⟨rfl, hb1⟩
        rw [HR.out]
        have hB := Lib.hid (bt HW.out hb1)
        clear hb1
        go_wp2
      · go_ret
        exact ⟨⟨_, rfl, by rw [okI_bad n fs k (by have := HM.out; omega) (by rw [← HE.out, HR.out])]; simp⟩, hB.out⟩
      · go_roundw
        case rel => exact ⟨k + 1, by omega, by go_num, by rw [okI_take _ _ _ (by have := HM.out; omega), HK.out, ← HE.out, HR.out]; rfl, hB.out⟩
        case measure => simp [intOf]; omega
    · go_wp2
      go_ret
      exact ⟨⟨_, rfl, by rw [okI_full k (by have := HM.out; omega) HK.out]; rfl⟩, HW.out⟩
theorem containsFuncI_c (a : Int) (p : Option Addr) (n c : Nat) (g : Nat) (t : TypeId) (q : Option Addr) (m cm : Nat) (fs : List Int) (hf : m = fs.length) (hm : m ≤ 9223372036854775807) (w : World) (hn : n ≤ 1048576) (hg : w.heap[g]? = some (.cells #[.int .i8 a, .slice p n c] t (0, 0))) (hq : PI w q fs) :
    Calls Try.prog 77 #[.slice q m cm, .func (.func 78) #[] #[.pointer (some ⟨g, 0, none⟩)]] w fun e w' => e = .returned (.bool (!okI n fs)) ∧ Below w.heap.size w w' := by
  have HM := Lib.hid hf
  have HG := Lib.hid hg
  have HQ := Lib.hid hq
  clear hf hg hq
  go_enter Try.func77, Try.ntmps77
  go_wp2_with fail
  refine (indexFuncI_c a p n c g t q m cm fs HM.out hm _ hn HG.out HQ.out).mono ?_
  rintro e w1 ⟨⟨v, rfl, hv⟩, hb1⟩
  have HV := Lib.hid hv
  have hB := Lib.hid hb1
  clear hv hb1
  go_wp2
  go_ret
  exact ⟨ret_bool HV.out, hB.out⟩
set_option maxHeartbeats 400000 in
theorem sheetCode_c (a : Int) (ha : -128 ≤ a ∧ a ≤ 127) (p : Option Addr) (n c : Nat) (l : List (List Int)) (hl : Prs l) (hn : n = l.length) (hm : n ≤ 1048576) (q : Option Addr) (m cm : Nat) (fs : List Int) (hf : m = fs.length) (hmm : m ≤ 9223372036854775807) (w : World) (hp : PS w p l) (hq : PI w q fs) :
    Calls Try.prog 63 #[.agg #[.int .i8 a, .slice p n c], .slice q m cm] w fun e w' => e = .returned (.int .i64 (scV a l fs)) ∧ Below w.heap.size w w' := by
  have HN := Lib.hid hn
  have HA := Lib.hid hp
  have HM := Lib.hid hf
  have HQ := Lib.hid hq
  clear hp hn hf hq
  cases hv : shB a l
  · have HV := Lib.hid hv
    have HR : Hid (scV a l fs = 1) := Lib.hid (by simp [scV, hv])
    clear hv
    go_enter Try.func63, Try.ntmps63
    go_wp2_with fail
    refine (implValidSheet_c a ha p n c l hl HN.out hm _ (PS_below (bl1 _ _) HA.out)).mono ?_
    rintro e w1 ⟨rfl, hb1⟩
    rw [HV.out]
    have hB := Lib.hid (bt (bl1 _ _) hb1)
    clear hb1
    go_wp2
    go_ret
    exact ⟨ret_int HR.out.symm, hB.out⟩
  · have HV := Lib.hid hv
    have HR : Hid (scV a l fs = if okI n fs then 0 else 2) := Lib.hid (by simp [scV, hv, ← HN.out])
    clear hv
    go_enter Try.func63, Try.ntmps63
    go_wp2_with fail
    refine (implValidSheet_c a ha p n c l hl HN.out hm _ (PS_below (bl1 _ _) HA.out)).mono ?_
    rintro e w1 ⟨rfl, hb1⟩
    rw [HV.out]
    have H1 := Lib.hid (heap_below hb1 (by simp) (al1_0 w _))
    have hB := Lib.hid (bt (bl1 _ _) hb1)
    clear hb1
    cases ho : okI n fs
    all_goals
      have HO := Lib.hid ho
      clear ho
      go_wp2_with fail
      refine (containsFuncI_c a p n c _ _ q m cm fs HM.out hmm _ hm H1.out (PI_below hB.out HQ.out)).mono ?_
      rintro e w2 ⟨rfl, hb2⟩
      rw [HO.out]
      have hB2 := Lib.hid (bt hB.out hb2)
      clear hb2
      go_wp2
      go_ret
      exact ⟨ret_int (by rw [HR.out, HO.out] <;> rfl), hB2.out⟩
end Go.Proofs.Ytnbbbmnjbfehmaa
