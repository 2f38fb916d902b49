/- ReadStrip: the reference. -/
import Derived.Test.YtbafbfamjjmngaaDoorStK
import Derived.Test.YtbafbfamjjmngaaDoorRdS
namespace Go.Proofs.YtbafbfamjjmngaaDoor
open Go.RowKit
theorem sr_bad {t : ByteArray} {n0 n1 n2 : Nat} {b0 b1 b2 : Bool} (e0 : numV (wdT t 0) = (n0, b0)) (e1 : numV (wdT t 1) = (n1, b1)) (e2 : numV (wdT t 2) = (n2, b2))
    (hb : ¬ (b0 = true ∧ b1 = true ∧ b2 = true ∧ n0 ≤ 100 ∧ n1 ≤ 100 ∧ n2 ≤ 100 ∧ srB n0 n1 n2 = true)) : srV t = ((0, 0, 0), 5) := srV_no fun h => hb (by
  have a0 := h.num 0 (by omega)
  have a1 := h.num 1 (by omega)
  have a2 := h.num 2 (by omega)
  have s0 := srOk_small h 0 (by omega)
  have s1 := srOk_small h 1 (by omega)
  have s2 := srOk_small h 2 (by omega)
  have ho := h.ok
  unfold nW at s0 s1 s2 ho
  rw [e0] at a0 s0 ho
  rw [e1] at a1 s1 ho
  rw [e2] at a2 s2 ho
  simp only at a0 a1 a2 s0 s1 s2 ho
  exact ⟨a0, a1, a2, by omega, by omega, by omega, ho⟩)
theorem sr_good {t : ByteArray} {n0 n1 n2 : Nat} (hl : (spL t 32).length = 3) (e0 : numV (wdT t 0) = (n0, true)) (e1 : numV (wdT t 1) = (n1, true)) (e2 : numV (wdT t 2) = (n2, true))
    (hb : srB n0 n1 n2 = true) : srV t = (((n0 : Int), (n1 : Int), (n2 : Int)), 0) := by
  have w0 : nW t 0 = n0 := by unfold nW; rw [e0]
  have w1 : nW t 1 = n1 := by unfold nW; rw [e1]
  have w2 : nW t 2 = n2 := by unfold nW; rw [e2]
  have : SrOk t := ⟨hl, fun i hi => by
    rcases (show i = 0 ∨ i = 1 ∨ i = 2 by omega) with e | e | e <;> subst e
    · rw [e0]
    · rw [e1]
    · rw [e2], by rw [w0, w1, w2]; exact hb⟩
  rw [srV_yes this, w0, w1, w2]
theorem wd_at {t : ByteArray} (h : (spL t 32).length = 3) (i : Nat) (hi : i < 3) : (spL t 32)[i]? = some (wdT t i) := by
  unfold wdT
  rw [List.getD_eq_getElem?_getD, List.getElem?_eq_getElem (by omega)]; rfl
set_option maxHeartbeats 4000000 in
set_option maxRecDepth 100000 in
theorem specSr_c (t : ByteArray) (hm : t.size ≤ 1048576) (w : World) :
    Calls Tryd.prog 4 #[.string t] w fun e w' => e = .returned (.tuple #[.agg #[.int .i8 (srV t).1.1, .int .i8 (srV t).1.2.1, .int .i8 (srV t).1.2.2], .int .i64 (srV t).2]) ∧ Below w.heap.size w w' := by
  have K0 := Lib.hid (al1_0 w (.cells #[.int .i8 0, .int .i8 0, .int .i8 0] 24))
  have B0 := Lib.hid (bl1 w (.cells #[.int .i8 0, .int .i8 0, .int .i8 0] 24))
  go_enter Tryd.func4, Tryd.ntmps4
  go_wp2_with fail
  refine (l01Split_c t 32 (by omega) hm _).mono ?_
  rintro e w1 ⟨v1, rfl, hR, hb1⟩
  obtain ⟨gr, cr, hv1, hg1, hc1, hat1⟩ := rowS_shape hR (spL_ne t 32)
  subst hv1
  obtain ⟨nr, hnr⟩ : ∃ nr, nr = (spL t 32).length := ⟨_, rfl⟩
  have HNR := Lib.hid hnr
  rw [← hnr]
  have hnle : nr ≤ 1048577 := by rw [hnr]; exact Nat.le_trans (spL_le t 32) (by omega)
  have S1 : StrAt w1 gr (spL t 32) := ⟨hg1, hat1⟩
  have H2 := Lib.hid (heap_below hb1 (lt_of_heap K0.out) K0.out)
  have HB := Lib.hid (bt B0.out hb1)
  have hlt := lt_of_heap H2.out
  clear hR hb1 hat1 hc1 hg1 K0 B0 hnr
  have r0 := blk3_0 H2.out
  have rf0 := blk_f H2.out 0
  have r1 := blk3_1 H2.out
  have rf1 := blk_f H2.out 1
  have r2 := blk3_2 H2.out
  have rf2 := blk_f H2.out 2
  by_cases h3 : nr = 3
  · subst h3
    have hl : (spL t 32).length = 3 := HNR.out.symm
    have c0 := S1.at_ 0 _ (wd_at hl 0 (by omega))
    have c1 := S1.at_ 1 _ (wd_at hl 1 (by omega))
    have c2 := S1.at_ 2 _ (wd_at hl 2 (by omega))
    rw [Nat.zero_add] at c0 c1 c2
    obtain ⟨n0, b0, e0⟩ : ∃ n b, numV (wdT t 0) = (n, b) := ⟨_, _, rfl⟩
    obtain ⟨n1, b1, e1⟩ : ∃ n b, numV (wdT t 1) = (n, b) := ⟨_, _, rfl⟩
    obtain ⟨n2, b2, e2⟩ : ∃ n b, numV (wdT t 2) = (n, b) := ⟨_, _, rfl⟩
    have hbad := fun h => sr_bad e0 e1 e2 h
    have hgood : b0 = true → b1 = true → b2 = true → srB n0 n1 n2 = true → srV t = (((n0 : Int), (n1 : Int), (n2 : Int)), 0) := fun h0 h1 h2 h => by
      subst h0 h1 h2
      exact sr_good hl e0 e1 e2 h
    have C0 : Hid (∀ w0 : World, Calls Tryd.prog 8 #[.string (wdT t 0)] w0 fun e w' => e = .returned (.tuple #[.int .i64 (n0 : Nat), .bool b0]) ∧ w0 = w') := Lib.hid fun w0 => by have := l01Number_c (wdT t 0) w0; rwa [e0] at this
    have C1 : Hid (∀ w0 : World, Calls Tryd.prog 8 #[.string (wdT t 1)] w0 fun e w' => e = .returned (.tuple #[.int .i64 (n1 : Nat), .bool b1]) ∧ w0 = w') := Lib.hid fun w0 => by have := l01Number_c (wdT t 1) w0; rwa [e1] at this
    have C2 : Hid (∀ w0 : World, Calls Tryd.prog 8 #[.string (wdT t 2)] w0 fun e w' => e = .returned (.tuple #[.int .i64 (n2 : Nat), .bool b2]) ∧ w0 = w') := Lib.hid fun w0 => by have := l01Number_c (wdT t 2) w0; rwa [e2] at this
    clear e0 e1 e2 hl S1
    generalize wdT t 0 = s0 at *
    generalize wdT t 1 = s1 at *
    generalize wdT t 2 = s2 at *
    go_wp2_with fail
    refine (C0.out _).mono ?_
    rintro e4 w4 ⟨rfl, rfl⟩
    go_wp2_with fail
    refine (C1.out _).mono ?_
    rintro e4 w4 ⟨rfl, rfl⟩
    go_wp2_with fail
    refine (C2.out _).mono ?_
    rintro e4 w4 ⟨rfl, rfl⟩
    clear C0 C1 C2 c0 c1 c2
    by_cases hg : b0 = true ∧ b1 = true ∧ b2 = true ∧ n0 ≤ 100 ∧ n1 ≤ 100 ∧ n2 ≤ 100
    · obtain ⟨rfl, rfl, rfl, g0, g1, g2⟩ := hg
      have g0' : ¬ 100 < (n0 : Int) := by omega
      have g1' : ¬ 100 < (n1 : Int) := by omega
      have g2' : ¬ 100 < (n2 : Int) := by omega
      have HG := Lib.hid (hgood rfl rfl rfl)
      have HBd : Hid (srB n0 n1 n2 = false → srV t = ((0, 0, 0), 5)) := Lib.hid fun h => hbad (fun hh => by rw [hh.2.2.2.2.2.2] at h; cases h)
      have x0 : IntKind.i8.wrap (n0 : Int) = n0 := Go.IntWalk.i8_in _ (by omega)
      have x1 : IntKind.i8.wrap (n1 : Int) = n1 := Go.IntWalk.i8_in _ (by omega)
      have x2 : IntKind.i8.wrap (n2 : Int) = n2 := Go.IntWalk.i8_in _ (by omega)
      have HO : Hid (∀ w0 : World, Calls Tryd.prog 9 #[.agg #[.int .i8 (n0 : Int), .int .i8 (n1 : Int), .int .i8 (n2 : Int)]] w0 fun x w' => x = .returned (.bool (srB n0 n1 n2)) ∧ Below w0.heap.size w0 w') := Lib.hid fun w0 => srOkS_c n0 n1 n2 ⟨by omega, by omega, by omega⟩ w0
      have J0 := Lib.hid (al1_0 w1 (.cells #[.int .i8 (n0 : Int), .int .i8 (n1 : Int), .int .i8 (n2 : Int)] 24))
      have hbA := bl1 w1 (.cells #[.int .i8 (n0 : Int), .int .i8 (n1 : Int), .int .i8 (n2 : Int)] 24)
      have H3 := Lib.hid (heap_below hbA hlt H2.out)
      have HB3 := Lib.hid (bt HB.out hbA)
      clear hbA hgood hbad g0 g1 g2 H2 HB r0 rf0 r1 rf1 r2 rf2
      go_wp2_with fail
      refine (HO.out _).mono ?_
      rintro e5 w5 ⟨rfl, hb5⟩
      have J5 := Lib.hid (heap_below hb5 (lt_of_heap J0.out) J0.out)
      have H5 := Lib.hid (heap_below hb5 (lt_of_heap H3.out) H3.out)
      have HB5 := Lib.hid (bt HB3.out hb5)
      clear hb5 J0 H3 HB3 HO
      have r0 := blk3_0 H5.out
      have rf0 := blk_f H5.out 0
      have r1 := blk3_1 H5.out
      have rf1 := blk_f H5.out 1
      have r2 := blk3_2 H5.out
      have rf2 := blk_f H5.out 2
      cases hok : srB n0 n1 n2
      · have HV := Lib.hid (HBd.out hok)
        clear hok HG HBd
        go_wp2
        exact bodyPost_ret (results_ct rfl _ _ _ 24 _ _ _ rfl (blk3 H5.out) Tryd.underlying24 rfl szStrip) rfl ⟨by rw [HV.out] <;> rfl, below3 HB5.out (Nat.le_refl _) _ _ _⟩
      · have HV := Lib.hid (HG.out hok)
        have j0 := blk3_0 J5.out
        have j1 := blk3_1 J5.out
        have j2 := blk3_2 J5.out
        clear hok HG HBd
        go_wp2
        exact bodyPost_ret (results_ct rfl _ _ _ 24 _ _ _ rfl (blk3 H5.out) Tryd.underlying24 rfl szStrip) rfl ⟨by rw [HV.out] <;> rfl, below3 HB5.out (Nat.le_refl _) _ _ _⟩
    · have HV := Lib.hid (hbad (fun h => hg ⟨h.1, h.2.1, h.2.2.1, h.2.2.2.1, h.2.2.2.2.1, h.2.2.2.2.2.1⟩))
      have hc : b0 = false ∨ (b0 = true ∧ b1 = false) ∨ (b0 = true ∧ b1 = true ∧ b2 = false) ∨ (b0 = true ∧ b1 = true ∧ b2 = true ∧ 100 < (n0 : Int)) ∨ (b0 = true ∧ b1 = true ∧ b2 = true ∧ ¬ 100 < (n0 : Int) ∧ 100 < (n1 : Int)) ∨ (b0 = true ∧ b1 = true ∧ b2 = true ∧ ¬ 100 < (n0 : Int) ∧ ¬ 100 < (n1 : Int) ∧ 100 < (n2 : Int)) := by
        cases b0
        · exact Or.inl rfl
        cases b1
        · exact Or.inr (Or.inl ⟨rfl, rfl⟩)
        cases b2
        · exact Or.inr (Or.inr (Or.inl ⟨rfl, rfl, rfl⟩))
        simp only [true_and] at hg ⊢
        omega
      clear hbad hgood hg
      rcases hc with rfl | ⟨rfl, rfl⟩ | ⟨rfl, rfl, rfl⟩ | ⟨rfl, rfl, rfl, q0⟩ | ⟨rfl, rfl, rfl, q0, q1⟩ | ⟨rfl, rfl, rfl, q0, q1, q2⟩
      all_goals
        go_wp2
        exact bodyPost_ret (results_ct rfl _ _ _ 24 _ _ _ rfl (blk3 H2.out) Tryd.underlying24 rfl szStrip) rfl ⟨by rw [HV.out] <;> rfl, below3 HB.out (Nat.le_refl _) _ _ _⟩
  · have h3i : ((nr : Int) != 3) = true := by simp; omega
    have HV := Lib.hid (srV_no (t := t) (fun h => h3 (by rw [HNR.out]; exact h.len)))
    go_wp2
    exact bodyPost_ret (results_ct rfl _ _ _ 24 _ _ _ rfl (blk3 H2.out) Tryd.underlying24 rfl szStrip) rfl ⟨by rw [HV.out] <;> rfl, below3 HB.out (Nat.le_refl _) _ _ _⟩
end Go.Proofs.YtbafbfamjjmngaaDoor
