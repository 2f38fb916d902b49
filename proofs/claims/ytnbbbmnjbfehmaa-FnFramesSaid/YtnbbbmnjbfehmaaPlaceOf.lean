/- PlaceOf. -/
import Derived.Test.YtnbbbmnjbfehmaaSheetCode
namespace Go.Proofs.Ytnbbbmnjbfehmaa
open Go.RowKit
def plV (a : Int) (l : List (List Int)) (x : Int) : Int × Int × Int := if shB a l then (if inF l.length x then (x % a, x / a, 0) else (0, 0, 2)) else (0, 0, 1)
theorem okI_one (n : Nat) (x : Int) : okI n [x] = inF n x := by simp [okI]
theorem scV_bad {a : Int} {l : List (List Int)} {fs : List Int} (h : shB a l = false) : scV a l fs = 1 := by simp [scV, h]
set_option maxHeartbeats 400000 in
theorem l07Asked_c (a : Int) (ha : -128 ≤ a ∧ a ≤ 127) (p : Option Addr) (n c : Nat) (l : List (List Int)) (hl : Prs l) (hn : n = l.length) (hm : n ≤ 1048576) (g : Nat) (t : TypeId) (x : Int) (w : World) (hp : PS w p l) (hg : w.heap[g]? = some (.cells #[.int .i8 a, .slice p n c] t (0, 0))) :
    Calls Try.prog 62 #[.pointer (some ⟨g, 0, none⟩), .int .i64 x] w fun e w' => e = .returned (.int .i64 (scV a l [x])) ∧ Below w.heap.size w w' := by
  have HN := Lib.hid hn
  have HA := Lib.hid hp
  have HG := Lib.hid hg
  clear hp hn hg
  cases hv : shB a l
  · have HV := Lib.hid hv
    have HR : Hid (scV a l [x] = 1) := Lib.hid (scV_bad hv)
    clear hv
    go_enter Try.func62, Try.ntmps62
    go_wp2_with fail
    refine (l07Ok_c a ha p n c l hl HN.out hm _ _ _ HA.out HG.out).mono ?_
    rintro e w1 ⟨rfl, hb1⟩
    rw [HV.out]
    have hB := Lib.hid hb1
    clear hb1
    go_wp2
    go_ret
    exact ⟨ret_int HR.out.symm, hB.out⟩
  · have HV := Lib.hid hv
    have HR : Hid (scV a l [x] = if inF n x then 0 else 2) := Lib.hid (by simp [scV, hv, ← HN.out, okI_one])
    clear hv
    cases ho : inF n x
    all_goals
      have HO := Lib.hid ho
      have HD := Lib.hid (show (decide (0 ≤ x) && decide (x ≤ (n : Int) - 1)) = _ from ho)
      clear ho
      go_enter Try.func62, Try.ntmps62
      go_wp2_with fail
      refine (l07Ok_c a ha p n c l hl HN.out hm _ _ _ HA.out HG.out).mono ?_
      rintro e w1 ⟨rfl, hb1⟩
      rw [HV.out]
      have H1 := Lib.hid (heap_below hb1 (lt_of_heap HG.out) HG.out)
      have c0 := bk2_0 H1.out
      have c1 := bk2_1 H1.out
      have hB := Lib.hid hb1
      clear hb1
      go_wp2_with (go_at_call 54; refine (l00In_c _ _ _ _).mono ?_; rintro e w' ⟨rfl, rfl⟩; rw [HD.out])
      go_ret
      exact ⟨ret_int (by rw [HR.out, HO.out] <;> rfl), hB.out⟩
set_option maxHeartbeats 1000000 in
theorem specPlaceOf_c (a : Int) (ha : -128 ≤ a ∧ a ≤ 127) (p : Option Addr) (n c : Nat) (l : List (List Int)) (hl : Prs l) (hn : n = l.length) (hm : n ≤ 1048576) (x : Int) (_ : -9223372036854775808 ≤ x ∧ x ≤ 9223372036854775807) (w : World) (hp : PS w p l) :
    Calls Try.prog 31 #[.agg #[.int .i8 a, .slice p n c], .int .i64 x] w fun e w' => e = .returned (.tuple #[.int .i64 (plV a l x).1, .int .i64 (plV a l x).2.1, .int .i64 (plV a l x).2.2]) ∧ Below w.heap.size w w' := by
  have HN := Lib.hid hn
  have HA := Lib.hid hp
  have HS := Lib.hid ha
  clear hp hn ha
  have H0 := Lib.hid (al1_0 w (.cells #[.int .i8 a, .slice p n c] 30))
  cases hv : shB a l
  · have HR : Hid (plV a l x = (0, 0, 1)) := Lib.hid (by simp [plV, hv])
    have HC : Hid (scV a l [x] = 1) := Lib.hid (scV_bad hv)
    clear hv
    go_enter Try.func31, Try.ntmps31
    go_wp2_with fail
    refine (l07Asked_c a HS.out p n c l hl HN.out hm _ _ x _ (PS_below (bl1 _ _) HA.out) H0.out).mono ?_
    rintro e w1 ⟨rfl, hb1⟩
    rw [HC.out]
    have hB := Lib.hid (bt (bl1 _ _) hb1)
    clear hb1
    go_wp2
    go_ret3
    exact ⟨by rw [HR.out] <;> rfl, hB.out⟩
  · cases ho : inF n x
    · have HR : Hid (plV a l x = (0, 0, 2)) := Lib.hid (by simp [plV, hv, ← HN.out, ho])
      have HC : Hid (scV a l [x] = 2) := Lib.hid (by simp [scV, hv, ← HN.out, okI_one, ho])
      clear hv ho
      go_enter Try.func31, Try.ntmps31
      go_wp2_with fail
      refine (l07Asked_c a HS.out p n c l hl HN.out hm _ _ x _ (PS_below (bl1 _ _) HA.out) H0.out).mono ?_
      rintro e w1 ⟨rfl, hb1⟩
      rw [HC.out]
      have hB := Lib.hid (bt (bl1 _ _) hb1)
      clear hb1
      go_wp2
      go_ret3
      exact ⟨by rw [HR.out] <;> rfl, hB.out⟩
    · have HR : Hid (plV a l x = (x % a, x / a, 0)) := Lib.hid (by simp [plV, hv, ← HN.out, ho])
      have HC : Hid (scV a l [x] = 0) := Lib.hid (by simp [scV, hv, ← HN.out, okI_one, ho])
      obtain ⟨h1, h2, h3, _⟩ := shB_get hv
      obtain ⟨x1, x2⟩ := (inF_iff n x).1 ho
      have h3 : n ≤ 12 := by rw [HN.out]; exact h3
      have ha0 : a ≠ 0 := by omega
      have q1 : 0 ≤ x / a := Int.ediv_nonneg x1 (by omega)
      have q2 : x / a ≤ 12 := Int.le_trans (Int.ediv_le_self _ x1) (by omega)
      have e1 : x.tmod a = x % a := Int.tmod_eq_emod_of_nonneg x1
      have e2 : x.tdiv a = x / a := Int.tdiv_eq_ediv_of_nonneg x1
      clear hv ho
      go_enter Try.func31, Try.ntmps31
      go_wp2_with fail
      refine (l07Asked_c a HS.out p n c l hl HN.out hm _ _ x _ (PS_below (bl1 _ _) HA.out) H0.out).mono ?_
      rintro e w1 ⟨rfl, hb1⟩
      rw [HC.out]
      have hB := Lib.hid (bt (bl1 _ _) hb1)
      have H1 := Lib.hid (heap_below hb1 (lt_of_heap H0.out) H0.out)
      have c0 := bk2_0 H1.out
      clear hb1
      go_wp2_with fail
      go_quiet (fail)
      go_wp2
      go_ret3
      exact ⟨by rw [HR.out] <;> rfl, bl_drewN hB.out _⟩
set_option maxHeartbeats 1000000 in
theorem implPlaceOf_c (a : Int) (ha : -128 ≤ a ∧ a ≤ 127) (p : Option Addr) (n c : Nat) (l : List (List Int)) (hl : Prs l) (hn : n = l.length) (hm : n ≤ 1048576) (x : Int) (_ : -9223372036854775808 ≤ x ∧ x ≤ 9223372036854775807) (w : World) (hp : PS w p l) :
    Calls Try.prog 32 #[.agg #[.int .i8 a, .slice p n c], .int .i64 x] w fun e w' => e = .returned (.tuple #[.int .i64 (plV a l x).1, .int .i64 (plV a l x).2.1, .int .i64 (plV a l x).2.2]) ∧ Below w.heap.size w w' := by
  have HN := Lib.hid hn
  have HA := Lib.hid hp
  have HS := Lib.hid ha
  clear hp hn ha
  cases hv : shB a l
  · have HR : Hid (plV a l x = (0, 0, 1)) := Lib.hid (by simp [plV, hv])
    have HC : Hid (scV a l [x] = 1) := Lib.hid (scV_bad hv)
    clear hv
    go_enter Try.func32, Try.ntmps32
    go_wp2_with fail
    refine (sheetCode_c a HS.out p n c l hl HN.out hm _ 1 1 [x] rfl (by omega) _ (PS_below (bl2 _ _ _) HA.out) (PI_block (al2_1 _ _ _))).mono ?_
    rintro e w1 ⟨rfl, hb1⟩
    rw [HC.out]
    have hB := Lib.hid (bt (bl2 _ _ _) hb1)
    clear hb1
    go_wp2
    go_ret3
    exact ⟨by rw [HR.out] <;> rfl, hB.out⟩
  · cases ho : inF n x
    · have HR : Hid (plV a l x = (0, 0, 2)) := Lib.hid (by simp [plV, hv, ← HN.out, ho])
      have HC : Hid (scV a l [x] = 2) := Lib.hid (by simp [scV, hv, ← HN.out, okI_one, ho])
      clear hv ho
      go_enter Try.func32, Try.ntmps32
      go_wp2_with fail
      refine (sheetCode_c a HS.out p n c l hl HN.out hm _ 1 1 [x] rfl (by omega) _ (PS_below (bl2 _ _ _) HA.out) (PI_block (al2_1 _ _ _))).mono ?_
      rintro e w1 ⟨rfl, hb1⟩
      rw [HC.out]
      have hB := Lib.hid (bt (bl2 _ _ _) hb1)
      clear hb1
      go_wp2
      go_ret3
      exact ⟨by rw [HR.out] <;> rfl, hB.out⟩
    · have HR : Hid (plV a l x = (x % a, x / a, 0)) := Lib.hid (by simp [plV, hv, ← HN.out, ho])
      have HC : Hid (scV a l [x] = 0) := Lib.hid (by simp [scV, hv, ← HN.out, okI_one, ho])
      obtain ⟨h1, h2, h3, _⟩ := shB_get hv
      obtain ⟨x1, x2⟩ := (inF_iff n x).1 ho
      have h3 : n ≤ 12 := by rw [HN.out]; exact h3
      have ha0 : a ≠ 0 := by omega
      have q1 : 0 ≤ x / a := Int.ediv_nonneg x1 (by omega)
      have q2 : x / a ≤ 12 := Int.le_trans (Int.ediv_le_self _ x1) (by omega)
      have e1 : x.tmod a = x % a := Int.tmod_eq_emod_of_nonneg x1
      have e2 : x.tdiv a = x / a := Int.tdiv_eq_ediv_of_nonneg x1
      clear hv ho
      go_enter Try.func32, Try.ntmps32
      go_wp2_with fail
      refine (sheetCode_c a HS.out p n c l hl HN.out hm _ 1 1 [x] rfl (by omega) _ (PS_below (bl2 _ _ _) HA.out) (PI_block (al2_1 _ _ _))).mono ?_
      rintro e w1 ⟨rfl, hb1⟩
      rw [HC.out]
      have hB := Lib.hid (bt (bl2 _ _ _) hb1)
      have H1 := Lib.hid (heap_below hb1 (by simp <;> omega) (al2_0 w _ _))
      have c0 := bk2_0 H1.out
      clear hb1
      go_wp2_with fail
      go_quiet (fail)
      go_wp2
      go_ret3
      exact ⟨by rw [HR.out] <;> rfl, bl_drewN hB.out _⟩
end Go.Proofs.Ytnbbbmnjbfehmaa
