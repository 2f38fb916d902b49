/- FewestCopies: lists compared. -/
import Derived.Test.YtdmlefccajaniaaDoorFewP
import Derived.Test.YtdmlefccajaniaaDoorLstInt64S
namespace Go.Proofs.YtdmlefccajaniaaDoor
open Go.RowKit Go.Lib
theorem lx_step {xs ys : List Nat} {k : Nat} (hx : k < xs.length) (hy : k < ys.length) : lxL (xs.drop k) (ys.drop k) = if xs.getD k 0 = ys.getD k 0 then lxL (xs.drop (k + 1)) (ys.drop (k + 1)) else decide (xs.getD k 0 < ys.getD k 0) := by
  rw [List.drop_eq_getElem_cons hx, List.drop_eq_getElem_cons hy, lxL]
  simp [List.getD_eq_getElem?_getD, hx, hy]
theorem natL_ne {l : List Nat} {k : Nat} (h : k < l.length) : natL l ≠ [] := by
  intro e
  have := natL_len l
  rw [e] at this; simp at this; omega
set_option maxHeartbeats 1000000 in
theorem before_c (xs ys : List Nat) (p1 p2 : Option Addr) (m c1 c2 : Nat) (h1 : m = xs.length) (h2 : m = ys.length) (hm : m ≤ 1024) (w : World) (B1 B2 : Nat) (P1 : PB_i64 w B1 p1 (natL xs)) (P2 : PB_i64 w B2 p2 (natL ys)) :
    Calls Tryd.prog 66 #[.slice p1 m c1, .slice p2 m c2] w fun e w' => e = .returned (.bool (lxL xs ys)) ∧ Below w.heap.size w w' := by
  have H1 := Lib.hid h1
  have H2 := Lib.hid h2
  have Q1 := Lib.hid P1
  have Q2 := Lib.hid P2
  clear h1 h2 P1 P2
  go_enter Tryd.func66, Tryd.ntmps66
  go_upto_region 2 with fail
  go_loopw [5] (fun i wr => ∃ k q : Nat, k ≤ m ∧ i = .int .i64 k ∧ lxL (xs.drop k) (ys.drop k) = lxL xs ys ∧ wr = w.drewN q) (fun i _ => m - (intOf i).toNat)
  case atStart => exact ⟨0, 0, Nat.zero_le _, rfl, by simp, rfl⟩
  case round =>
    obtain ⟨k, q, hk, rfl, hlx, hW⟩ := hrel
    have HW := Lib.hid hW
    have HLX := Lib.hid hlx
    clear hW hlx
    by_cases hlt : k < m
    · have hx : k < xs.length := by rw [← H1.out]; exact hlt
      have hy : k < ys.length := by rw [← H2.out]; exact hlt
      obtain ⟨b1, o1, rfl, _, hc1⟩ := Q1.out (natL_ne hx)
      obtain ⟨b2, o2, rfl, _, hc2⟩ := Q2.out (natL_ne hy)
      have d1 := hc1 k (by rw [natL_len]; exact hx)
      have d2 := hc2 k (by rw [natL_len]; exact hy)
      rw [natL_get _ _ hx] at d1
      rw [natL_get _ _ hy] at d2
      have HS := Lib.hid (lx_step hx hy)
      have e1 : wr.cell? ⟨b1, o1 + k, none⟩ = some (.int .i64 (xs.getD k 0 : Nat)) := by rw [HW.out, World.cell?_drewN]; exact d1
      have e2 : wr.cell? ⟨b2, o2 + k, none⟩ = some (.int .i64 (ys.getD k 0 : Nat)) := by rw [HW.out, World.cell?_drewN]; exact d2
      have hki : (k : Int) < m := by omega
      generalize xs.getD k 0 = x at *
      generalize ys.getD k 0 = y at *
      clear hc1 hc2 d1 d2 hx hy
      by_cases hxy : x = y
      · subst hxy
        have hself : ((x : Int) != (x : Int)) = false := by simp
        have HN : Hid (lxL (xs.drop (k + 1)) (ys.drop (k + 1)) = lxL xs ys) := Lib.hid (by rw [← HLX.out, HS.out, if_pos rfl])
        go_wp2_with fail
        go_quiet (fail)
        go_wp2
        go_roundw
        case rel => exact ⟨k + 1, q + nq, by omega, by go_num, HN.out, by rw [HW.out, World.drewN_drewN]⟩
        case measure => simp [intOf]; omega
      · have hne : ((x : Int) != (y : Int)) = true := by simp only [bne_iff_ne, ne_eq]; omega
        have HN : Hid (lxL xs ys = decide ((x : Int) < (y : Int))) := Lib.hid (by rw [← HLX.out, HS.out, if_neg hxy]; simp)
        clear hxy
        go_wp2_with fail
        go_quiet (fail)
        go_wp2_with fail
        go_quiet (fail)
        go_wp2
        go_ret
        exact ⟨ret_bool (by rw [HN.out]; simp), by first | exact bl_drewN (bl_drewN (by rw [HW.out]; exact bl_drewN (Below.refl _ _) _) _) _ | exact bl_drewN (by rw [HW.out]; exact bl_drewN (Below.refl _ _) _) _⟩
    · have hkn : k = m := by omega
      subst hkn
      have HN : Hid (lxL xs ys = false) := Lib.hid (by rw [← HLX.out, List.drop_of_length_le (by rw [← H1.out]; exact Nat.le_refl _), List.drop_of_length_le (by rw [← H2.out]; exact Nat.le_refl _)]; rfl)
      go_wp2
      go_ret
      exact ⟨ret_bool HN.out.symm, by rw [HW.out]; exact bl_drewN (Below.refl _ _) _⟩
theorem isNaN64_c (x : Int) (w : World) : Calls Tryd.prog 110 #[.int .i64 x] w fun e w' => e = .returned (.bool false) ∧ w = w' := by
  have hself : (x != x) = false := by simp
  go_enter Tryd.func110, Tryd.ntmps110
  go_wp2
  go_ret
  exact ⟨rfl, rfl⟩
theorem cmp64_c (x y : Int) (w : World) : Calls Tryd.prog 93 #[.int .i64 x, .int .i64 y] w fun e w' => e = .returned (.int .i64 (if x < y then -1 else if y < x then 1 else 0)) ∧ w = w' := by
  rcases Int.lt_trichotomy x y with h | h | h
  · have hr : (if x < y then (-1 : Int) else if y < x then 1 else 0) = -1 := by rw [if_pos h]
    rw [hr]
    go_enter Tryd.func93, Tryd.ntmps93
    go_wp2_with (go_at_call 110; refine (isNaN64_c _ _).mono ?_; rintro e w' ⟨rfl, rfl⟩)
    go_ret
    exact ⟨rfl, rfl⟩
  · subst h
    have hr : (if x < x then (-1 : Int) else if x < x then 1 else 0) = 0 := by simp
    have hno : ¬ x < x := by omega
    rw [hr]
    go_enter Tryd.func93, Tryd.ntmps93
    go_wp2_with (go_at_call 110; refine (isNaN64_c _ _).mono ?_; rintro e w' ⟨rfl, rfl⟩)
    go_ret
    exact ⟨rfl, rfl⟩
  · have hno : ¬ x < y := by omega
    have hr : (if x < y then (-1 : Int) else if y < x then 1 else 0) = 1 := by rw [if_neg hno, if_pos h]
    rw [hr]
    go_enter Tryd.func93, Tryd.ntmps93
    go_wp2_with (go_at_call 110; refine (isNaN64_c _ _).mono ?_; rintro e w' ⟨rfl, rfl⟩)
    go_ret
    exact ⟨rfl, rfl⟩
set_option maxHeartbeats 1000000 in
theorem compare_c (xs ys : List Nat) (p1 p2 : Option Addr) (m c1 c2 : Nat) (h1 : m = xs.length) (h2 : m = ys.length) (hm : m ≤ 1024) (w : World) (B1 B2 : Nat) (P1 : PB_i64 w B1 p1 (natL xs)) (P2 : PB_i64 w B2 p2 (natL ys)) :
    Calls Tryd.prog 65 #[.slice p1 m c1, .slice p2 m c2] w fun e w' => (∃ r : Int, e = .returned (.int .i64 r) ∧ decide (r < 0) = lxL xs ys) ∧ w = w' := by
  have H1 := Lib.hid h1
  have H2 := Lib.hid h2
  have Q1 := Lib.hid P1
  have Q2 := Lib.hid P2
  clear h1 h2 P1 P2
  go_enter Tryd.func65, Tryd.ntmps65
  go_upto_region 2 with fail
  go_loop [11] (fun i => ∃ k : Nat, k ≤ m ∧ i = .int .i64 k ∧ lxL (xs.drop k) (ys.drop k) = lxL xs ys) (fun i => m - (intOf i).toNat)
  case atStart => exact ⟨0, Nat.zero_le _, rfl, by simp⟩
  case round =>
    obtain ⟨k, hk, rfl, hlx⟩ := hrel
    have HLX := Lib.hid hlx
    clear hlx
    by_cases hlt : k < m
    · have hx : k < xs.length := by rw [← H1.out]; exact hlt
      have hy : k < ys.length := by rw [← H2.out]; exact hlt
      obtain ⟨b1, o1, rfl, _, hc1⟩ := Q1.out (natL_ne hx)
      obtain ⟨b2, o2, rfl, _, hc2⟩ := Q2.out (natL_ne hy)
      have d1 := hc1 k (by rw [natL_len]; exact hx)
      have d2 := hc2 k (by rw [natL_len]; exact hy)
      rw [natL_get _ _ hx] at d1
      rw [natL_get _ _ hy] at d2
      have HS := Lib.hid (lx_step hx hy)
      have hki : (k : Int) < m := by omega
      generalize xs.getD k 0 = x at *
      generalize ys.getD k 0 = y at *
      clear hc1 hc2 hx hy
      by_cases hxy : x = y
      · subst hxy
        have hz : (if (x : Int) < x then (-1 : Int) else if (x : Int) < x then 1 else 0) = 0 := by simp
        have HN : Hid (lxL (xs.drop (k + 1)) (ys.drop (k + 1)) = lxL xs ys) := Lib.hid (by rw [← HLX.out, HS.out, if_pos rfl])
        have HZ := Lib.hid hz
        clear hz
        go_wp2_with (go_at_call 93; refine (cmp64_c _ _ _).mono ?_; rintro e w' ⟨rfl, rfl⟩; rw [HZ.out])
        go_round
        case rel => exact ⟨k + 1, by omega, by go_num, HN.out⟩
        case measure => simp [intOf]; omega
      · have hr : (if (x : Int) < y then (-1 : Int) else if (y : Int) < x then 1 else 0) = if x < y then -1 else 1 := by
          by_cases h : x < y
          · rw [if_pos (by omega), if_pos h]
          · rw [if_neg (by omega), if_pos (by omega), if_neg h]
        have HN : Hid (lxL xs ys = decide (x < y)) := Lib.hid (by rw [← HLX.out, HS.out, if_neg hxy])
        have HR := Lib.hid hr
        clear hr
        by_cases h : x < y
        · have HX : Hid ((if x < y then (-1 : Int) else 1) = -1) := Lib.hid (if_pos h)
          have HL : Hid (lxL xs ys = true) := Lib.hid (by rw [HN.out]; simpa using h)
          go_wp2_with (go_at_call 93; refine (cmp64_c _ _ _).mono ?_; rintro e w' ⟨rfl, rfl⟩; rw [HR.out, HX.out])
          go_ret
          exact ⟨⟨_, rfl, by rw [HL.out]; rfl⟩, rfl⟩
        · have HX : Hid ((if x < y then (-1 : Int) else 1) = 1) := Lib.hid (if_neg h)
          have HL : Hid (lxL xs ys = false) := Lib.hid (by rw [HN.out]; simpa using h)
          go_wp2_with (go_at_call 93; refine (cmp64_c _ _ _).mono ?_; rintro e w' ⟨rfl, rfl⟩; rw [HR.out, HX.out])
          go_ret
          exact ⟨⟨_, rfl, by rw [HL.out]; rfl⟩, rfl⟩
    · have hkn : k = m := by omega
      subst hkn
      have HN : Hid (lxL xs ys = false) := Lib.hid (by rw [← HLX.out, List.drop_of_length_le (by rw [← H1.out]; exact Nat.le_refl _), List.drop_of_length_le (by rw [← H2.out]; exact Nat.le_refl _)]; rfl)
      go_wp2
      go_ret
      exact ⟨⟨_, rfl, by rw [HN.out]; rfl⟩, rfl⟩
end Go.Proofs.YtdmlefccajaniaaDoor
