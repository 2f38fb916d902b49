/- FnBands: the nearest band, a finer strip, light by strips: the program's and the reference's. -/
import Derived.Test.YtbcahfiknelkcaaGreatDoorBandO
import Derived.BigQuiet
namespace Go.Proofs.YtbcahfiknelkcaaGreatDoor
open Go.RowKit
set_option maxRecDepth 100000
theorem below3B {w0 w : World} {g : Nat} (h : Below w0.heap.size w0 w) (hg : w0.heap.size ≤ g) (a b c : Value) : Below w0.heap.size w0 (((w.setCell ⟨g, 0, none⟩ a).setCell ⟨g, 1, none⟩ b).setCell ⟨g, 2, none⟩ c) :=
  ((h.setCell (p := ⟨g, 0, none⟩) hg _).setCell (p := ⟨g, 1, none⟩) hg _).setCell (p := ⟨g, 2, none⟩) hg _
set_option maxHeartbeats 2000000 in
theorem implNear_c (xs : List Int) (n c : Nat) (t : Int) (h : Bnd xs n t) (p : Option Addr) (w : World) (hp : PB_i64 w w.heap.size p xs) :
    Calls Tryz.prog 20 #[.slice p n c, .int .i64 t] w fun e w' => e = .returned (.tuple #[.int .i64 (nearN xs t n : Nat), .int .i64 (xs.getD (nearN xs t n) 0 - t), .int .i64 0]) ∧ Below w.heap.size w w' := by
  obtain ⟨b, o, rfl, hcl⟩ := h.cells hp
  have HB := Lib.hid h
  have HC := Lib.hid hcl
  have HP := Lib.hid hp
  have hn1 := h.n1
  have hn20 := h.n20
  have ht0 := h.t0
  have ht1 := h.t1
  obtain ⟨N, hN⟩ : ∃ N, N = nearN xs t := ⟨_, rfl⟩
  have HN1 : Hid (N 0 = 0 ∧ N 1 = 0) := Lib.hid (by rw [hN]; exact ⟨rfl, nearN_one xs t⟩)
  have HNs : Hid (∀ k, N (k + 1) = if absV (xs.getD k 0 - t) < absV (xs.getD (N k) 0 - t) then k else N k) := Lib.hid (by rw [hN]; exact fun k => rfl)
  have HNl : Hid (∀ k, 0 < k → N k < k) := Lib.hid (by rw [hN]; exact nearN_lt xs t)
  rw [← hN]
  clear h hcl hp hN
  go_enter Tryz.func20, Tryz.ntmps20
  go_wp2_with fail
  refine (areBands_c xs n c t HB.out _ _ _ HP.out).mono ?_
  rintro e w' ⟨rfl, rfl⟩
  go_wp2_with fail
  go_loopw [7, 8, 9, 16] (fun bs _ _ i wr => ∃ k q : Nat, k ≤ n ∧ True ∧ i = .int .i64 k ∧ bs = .int .i64 (N k : Nat) ∧ wr = w.drewN q) (fun bs _ _ i _ => n - (intOf i).toNat)
  case atStart => exact ⟨0, 0, by omega, trivial, rfl, by rw [HN1.out.1]; rfl, rfl⟩
  case round =>
    obtain ⟨k, q, hk, hk1, rfl, rfl, hW⟩ := hrel
    have HW := Lib.hid hW
    clear hW
    by_cases hlt : k < n
    · have hkn : (k : Int) < n := by omega
      have hNk : N k < n := by
        rcases Nat.eq_zero_or_pos k with e | e
        · rw [e, HN1.out.1]; omega
        · have := HNl.out k e; omega
      have c1 : wr.cell? ⟨b, o + k, none⟩ = some (.int .i64 (xs.getD k 0)) := by rw [HW.out, World.cell?_drewN]; exact HC.out k hlt
      have c2 : wr.cell? ⟨b, o + N k, none⟩ = some (.int .i64 (xs.getD (N k) 0)) := by rw [HW.out, World.cell?_drewN]; exact HC.out _ hNk
      have hx := HB.out.get hlt
      have hy := HB.out.get hNk
      have HS := Lib.hid (HNs.out k)
      have hni : ((N k : Nat) : Int) < n := by omega
      generalize xs.getD k 0 = x at *
      generalize xs.getD (N k) 0 = y at *
      obtain ⟨x0, x1⟩ := hx
      obtain ⟨y0, y1⟩ := hy
      have hw1 : IntKind.i64.wrap (x - t) = x - t := Go.IntWalk.i64_in _ (by omega)
      have hw2 : IntKind.i64.wrap (y - t) = y - t := Go.IntWalk.i64_in _ (by omega)
      have C1 := Lib.hid (cImplSize_c (x - t) ⟨by omega, by omega⟩)
      have C2 := Lib.hid (cImplSize_c (y - t) ⟨by omega, by omega⟩)
      generalize absV (x - t) = u at *
      generalize absV (y - t) = v at *
      generalize hbk : N k = bk at *
      by_cases huv : u < v
      · have HE : Hid (N (k + 1) = k) := Lib.hid (by rw [HS.out, if_pos huv])
        clear hbk
        go_wp2_with fail
        go_quiet (first | (go_at_call 69; exact quiet_c (C1.out _)) | (go_at_call 69; exact quiet_c (C2.out _)))
        go_wp2
        go_roundw
        case rel => exact ⟨k + 1, q + nq, by omega, trivial, by go_num, by rw [HE.out], by rw [HW.out, World.drewN_drewN]⟩
        case measure => simp [intOf]; omega
      · have HE : Hid (N (k + 1) = bk) := Lib.hid (by rw [HS.out, if_neg huv])
        clear hbk
        go_wp2_with fail
        go_quiet (first | (go_at_call 69; exact quiet_c (C1.out _)) | (go_at_call 69; exact quiet_c (C2.out _)))
        go_wp2
        go_roundw
        case rel => exact ⟨k + 1, q + nq, by omega, trivial, by go_num, by rw [HE.out], by rw [HW.out, World.drewN_drewN]⟩
        case measure => simp [intOf]; omega
    · have hke : k = n := by omega
      subst hke
      have hkn : ¬ (k : Int) < k := by omega
      have hNk := HNl.out k (by omega)
      obtain ⟨bk, hbk⟩ : ∃ bk, bk = N k := ⟨_, rfl⟩
      have HBk := Lib.hid hbk.symm
      rw [← hbk] at hNk ⊢
      obtain ⟨y, hye⟩ : ∃ y, y = xs.getD bk 0 := ⟨_, rfl⟩
      have HYe := Lib.hid hye.symm
      have c2 : wr.cell? ⟨b, o + bk, none⟩ = some (.int .i64 y) := by rw [HW.out, World.cell?_drewN, hye]; exact HC.out _ hNk
      have hy := HB.out.get hNk
      rw [← hye] at hy
      have hni : (bk : Int) < k := by omega
      obtain ⟨y0, y1⟩ := hy
      have hw2 : IntKind.i64.wrap (y - t) = y - t := Go.IntWalk.i64_in _ (by omega)
      clear hbk hye
      clear HNs HNl
      go_wp2_with fail
      go_quiet (fail)
      go_wp2
      go_ret3
      exact ⟨by rw [HBk.out, HYe.out] <;> rfl, by rw [HW.out]; exact bl_drewN (bl_drewN (Below.refl _ _) _) _⟩
set_option maxHeartbeats 2000000 in
theorem specNear_c (xs : List Int) (n c : Nat) (t : Int) (h : Bnd xs n t) (p : Option Addr) (w : World) (hp : PB_i64 w w.heap.size p xs) :
    Calls Tryz.prog 21 #[.slice p n c, .int .i64 t] w fun e w' => e = .returned (.tuple #[.int .i64 (nearN xs t n : Nat), .int .i64 (xs.getD (nearN xs t n) 0 - t), .int .i64 0]) ∧ Below w.heap.size w w' := by
  obtain ⟨b, o, rfl, hcl⟩ := h.cells hp
  have HB := Lib.hid h
  have HC := Lib.hid hcl
  have HP := Lib.hid hp
  have hn1 := h.n1
  have hn20 := h.n20
  have ht0 := h.t0
  have ht1 := h.t1
  obtain ⟨N, hN⟩ : ∃ N, N = nearN xs t := ⟨_, rfl⟩
  have HN1 : Hid (N 0 = 0 ∧ N 1 = 0) := Lib.hid (by rw [hN]; exact ⟨rfl, nearN_one xs t⟩)
  have HNs : Hid (∀ k, N (k + 1) = if absV (xs.getD k 0 - t) < absV (xs.getD (N k) 0 - t) then k else N k) := Lib.hid (by rw [hN]; exact fun k => rfl)
  have HNl : Hid (∀ k, 0 < k → N k < k) := Lib.hid (by rw [hN]; exact nearN_lt xs t)
  rw [← hN]
  clear h hcl hp hN
  go_enter Tryz.func21, Tryz.ntmps21
  go_wp2_with fail
  refine (bandsRead_c xs n c t HB.out _ _ _ HP.out).mono ?_
  rintro e w' ⟨rfl, rfl⟩
  go_wp2_with fail
  go_loopw [7, 8] (fun bs i wr => ∃ k q : Nat, k ≤ n ∧ 1 ≤ k ∧ i = .int .i64 k ∧ bs = .int .i64 (N k : Nat) ∧ wr = w.drewN q) (fun bs i _ => n - (intOf i).toNat)
  case atStart => exact ⟨1, 0, by omega, Nat.le_refl _, rfl, by rw [HN1.out.2]; rfl, rfl⟩
  case round =>
    obtain ⟨k, q, hk, hk1, rfl, rfl, hW⟩ := hrel
    have HW := Lib.hid hW
    clear hW
    by_cases hlt : k < n
    · have hkn : (k : Int) < n := by omega
      have hNk : N k < n := by
        rcases Nat.eq_zero_or_pos k with e | e
        · rw [e, HN1.out.1]; omega
        · have := HNl.out k e; omega
      have c1 : wr.cell? ⟨b, o + k, none⟩ = some (.int .i64 (xs.getD k 0)) := by rw [HW.out, World.cell?_drewN]; exact HC.out k hlt
      have c2 : wr.cell? ⟨b, o + N k, none⟩ = some (.int .i64 (xs.getD (N k) 0)) := by rw [HW.out, World.cell?_drewN]; exact HC.out _ hNk
      have hx := HB.out.get hlt
      have hy := HB.out.get hNk
      have HS := Lib.hid (HNs.out k)
      have hni : ((N k : Nat) : Int) < n := by omega
      generalize xs.getD k 0 = x at *
      generalize xs.getD (N k) 0 = y at *
      obtain ⟨x0, x1⟩ := hx
      obtain ⟨y0, y1⟩ := hy
      have hw1 : IntKind.i64.wrap (x - t) = x - t := Go.IntWalk.i64_in _ (by omega)
      have hw2 : IntKind.i64.wrap (y - t) = y - t := Go.IntWalk.i64_in _ (by omega)
      have C1 := Lib.hid (cSize_c (x - t) ⟨by omega, by omega⟩)
      have C2 := Lib.hid (cSize_c (y - t) ⟨by omega, by omega⟩)
      generalize absV (x - t) = u at *
      generalize absV (y - t) = v at *
      generalize hbk : N k = bk at *
      by_cases huv : u < v
      · have HE : Hid (N (k + 1) = k) := Lib.hid (by rw [HS.out, if_pos huv])
        clear hbk
        go_wp2_with fail
        go_quiet (first | (go_at_call 71; exact quiet_c (C1.out _)) | (go_at_call 71; exact quiet_c (C2.out _)))
        go_wp2
        go_roundw
        case rel => exact ⟨k + 1, q + nq, by omega, by omega, by go_num, by rw [HE.out], by rw [HW.out, World.drewN_drewN]⟩
        case measure => simp [intOf]; omega
      · have HE : Hid (N (k + 1) = bk) := Lib.hid (by rw [HS.out, if_neg huv])
        clear hbk
        go_wp2_with fail
        go_quiet (first | (go_at_call 71; exact quiet_c (C1.out _)) | (go_at_call 71; exact quiet_c (C2.out _)))
        go_wp2
        go_roundw
        case rel => exact ⟨k + 1, q + nq, by omega, by omega, by go_num, by rw [HE.out], by rw [HW.out, World.drewN_drewN]⟩
        case measure => simp [intOf]; omega
    · have hke : k = n := by omega
      subst hke
      have hkn : ¬ (k : Int) < k := by omega
      have hNk := HNl.out k (by omega)
      obtain ⟨bk, hbk⟩ : ∃ bk, bk = N k := ⟨_, rfl⟩
      have HBk := Lib.hid hbk.symm
      rw [← hbk] at hNk ⊢
      obtain ⟨y, hye⟩ : ∃ y, y = xs.getD bk 0 := ⟨_, rfl⟩
      have HYe := Lib.hid hye.symm
      have c2 : wr.cell? ⟨b, o + bk, none⟩ = some (.int .i64 y) := by rw [HW.out, World.cell?_drewN, hye]; exact HC.out _ hNk
      have hy := HB.out.get hNk
      rw [← hye] at hy
      have hni : (bk : Int) < k := by omega
      obtain ⟨y0, y1⟩ := hy
      have hw2 : IntKind.i64.wrap (y - t) = y - t := Go.IntWalk.i64_in _ (by omega)
      clear hbk hye
      clear HNs HNl
      go_wp2_with fail
      go_quiet (fail)
      go_wp2
      go_ret3
      exact ⟨by rw [HBk.out, HYe.out] <;> rfl, by rw [HW.out]; exact bl_drewN (bl_drewN (Below.refl _ _) _) _⟩
theorem l00MaxB_c (a b : Int) (w : World) : Calls Tryz.prog 81 #[.int .i64 a, .int .i64 b] w fun e w' => e = .returned (.int .i64 (max a b)) ∧ w = w' := by
  by_cases h : b < a
  all_goals
    go_enter Tryz.func81, Tryz.ntmps81
    go_wp2
    go_ret
    exact ⟨ret_int (by omega), rfl⟩
theorem l00MinB_c (a b : Int) (w : World) : Calls Tryz.prog 82 #[.int .i64 a, .int .i64 b] w fun e w' => e = .returned (.int .i64 (min a b)) ∧ w = w' := by
  by_cases h : a < b
  all_goals
    go_enter Tryz.func82, Tryz.ntmps82
    go_wp2
    go_ret
    exact ⟨ret_int (by omega), rfl⟩
set_option maxHeartbeats 2000000 in
theorem specFiner_c (a e : Int) (n : Nat) (h : Stp a e n) (i : Nat) (hi : i < n) (w : World) :
    Calls Tryz.prog 27 #[.agg #[.int .i8 a, .int .i8 e, .int .i8 n], .int .i64 i] w fun x w' => x = .returned (.tuple #[.agg #[.int .i8 (finA a e i), .int .i8 1, .int .i8 (finN n (finA a e i))], .int .i64 0]) ∧ Below w.heap.size w w' := by
  have HF := Lib.hid (fin_ok h hi)
  have HP := Lib.hid h
  have H8 := Lib.hid (stp_8 h)
  have HOK := Lib.hid (stp_ok h)
  have ha0 := h.a0
  have ha1 := h.a1
  have he1 := h.e1
  have he9 := h.e9
  have hn20 := h.n20
  have hlb := lig_bd h hi
  have HA : Hid (finA a e i = max 0 (a + e * i - e + 1)) := Lib.hid rfl
  have HNN : Hid (finN n (finA a e i) = min (n : Int) (36 - finA a e i + 1)) := Lib.hid rfl
  have hl : a + e * (i : Int) = ligK a e i := rfl
  rw [hl] at HA
  generalize ligK a e i = l at *
  generalize finN n (finA a e i) = NN at *
  generalize finA a e i = F at *
  obtain ⟨m, hm⟩ : ∃ m, m = (i : Int) * e := ⟨_, rfl⟩
  have hme : (i : Int) * e = m := hm.symm
  have hml : a + m = l := by rw [hm, Int.mul_comm, hl]
  have HM := Lib.hid hml
  have S0 := Lib.hid (al1_0 w (.cells #[.int .i8 a, .int .i8 e, .int .i8 n] 26))
  have B0 := Lib.hid (bl1 w (.cells #[.int .i8 a, .int .i8 e, .int .i8 n] 26))
  have hz : (w.alloc (.cells #[.int .i8 a, .int .i8 e, .int .i8 n] 26)).heap.size = w.heap.size + 1 := by simp
  clear h hl hm
  go_enter Tryz.func27, Tryz.ntmps27
  go_upto_region 1 with fail
  generalize w.alloc (.cells #[.int .i8 a, .int .i8 e, .int .i8 n] 26) = w1 at *
  have K0 := Lib.hid (heap_old (.cells #[.int .i8 0, .int .i8 0, .int .i8 0] 26) _ (lt_of_heap S0.out) S0.out)
  have R0 := al1_0 w1 (.cells #[.int .i8 0, .int .i8 0, .int .i8 0] 26)
  rw [hz] at R0
  replace R0 := Lib.hid R0
  have B1 := Lib.hid (bt B0.out (bl1 w1 (.cells #[.int .i8 0, .int .i8 0, .int .i8 0] 26)))
  generalize w1.alloc (.cells #[.int .i8 0, .int .i8 0, .int .i8 0] 26) = w2 at *
  have c0 := blk3_0 K0.out
  have c1 := blk3_1 K0.out
  have c2 := blk3_2 K0.out
  go_wp2_with fail
  refine (srOkS_c a e n H8.out _).mono ?_
  rw [HOK.out]
  rintro x w3 ⟨rfl, hb⟩
  have K1 := Lib.hid (heap_below hb (lt_of_heap K0.out) K0.out)
  have R1 := Lib.hid (heap_below hb (lt_of_heap R0.out) R0.out)
  have B2 := Lib.hid (bt B1.out hb)
  clear hb c0 c1 c2 K0 R0 B1
  have c0 := blk3_0 K1.out
  have c1 := blk3_1 K1.out
  have c2 := blk3_2 K1.out
  have hwn := Go.IntWalk.i64_in (n : Int) (by omega)
  have hwn1 : IntKind.i64.wrap ((n : Int) - 1) = (n : Int) - 1 := Go.IntWalk.i64_in _ (by omega)
  have HI : Hid (∀ w : World, Calls Tryz.prog 80 #[.int .i64 i, .int .i64 0, .int .i64 ((n : Int) - 1)] w fun e w' => e = .returned (.bool true) ∧ w = w') := Lib.hid (fun w => by
    have := cIn_c i 0 ((n : Int) - 1) w
    rwa [show (decide ((0 : Int) ≤ i) && decide ((i : Int) ≤ (n : Int) - 1)) = true by simp; omega] at this)
  go_wp2_with fail
  refine (HI.out _).mono ?_
  rintro x w' ⟨rfl, rfl⟩
  have hwa := Go.IntWalk.i64_in a (by omega)
  have hwe := Go.IntWalk.i64_in e (by omega)
  have hwm : IntKind.i64.wrap m = m := Go.IntWalk.i64_in _ (by omega)
  have hwam : IntKind.i64.wrap (a + m) = l := by rw [Go.IntWalk.i64_in _ (by omega), HM.out]
  have hwe1 : IntKind.i64.wrap (e - 1) = e - 1 := Go.IntWalk.i64_in _ (by omega)
  have hwl : IntKind.i64.wrap (l - (e - 1)) = l - (e - 1) := Go.IntWalk.i64_in _ (by omega)
  have hFe : max 0 (l - (e - 1)) = F := by rw [HA.out]; omega
  have hf := HF.out
  obtain ⟨f0, f1, f2, f3, f4, f5⟩ := hf
  have hw36 : IntKind.i64.wrap (36 - F) = 36 - F := Go.IntWalk.i64_in _ (by omega)
  have hw37 : IntKind.i64.wrap (36 - F + 1) = 36 - F + 1 := Go.IntWalk.i64_in _ (by omega)
  have hF8 := Go.IntWalk.i8_in F (by omega)
  have hN8 := Go.IntWalk.i8_in NN (by omega)
  have hNe : min (n : Int) (36 - F + 1) = NN := HNN.out.symm
  clear hml
  go_wp2_with fail
  refine (l00MaxB_c _ _ _).mono ?_
  rintro x w' ⟨rfl, rfl⟩
  rw [hFe]
  go_wp2_with fail
  refine (l00MinB_c _ _ _).mono ?_
  rintro x w' ⟨rfl, rfl⟩
  rw [hNe]
  have r0 := blk3_0 R1.out
  have r1 := blk3_1 R1.out
  have r2 := blk3_2 R1.out
  have g0 := blk_f R1.out 0
  have g1 := blk_f R1.out 1
  have g2 := blk_f R1.out 2
  have hsz : w.heap.size ≤ w.heap.size + 1 := by omega
  go_wp2
  exact bodyPost_ret (results_ct rfl _ _ _ 26 _ _ _ rfl (blk3 R1.out) Tryz.underlying26 rfl szStrip) rfl ⟨rfl, below3B B2.out hsz _ _ _⟩
set_option maxHeartbeats 2000000 in
theorem implFiner_c (a e : Int) (n : Nat) (h : Stp a e n) (i : Nat) (hi : i < n) (w : World) :
    Calls Tryz.prog 26 #[.agg #[.int .i8 a, .int .i8 e, .int .i8 n], .int .i64 i] w fun x w' => x = .returned (.tuple #[.agg #[.int .i8 (finA a e i), .int .i8 1, .int .i8 (finN n (finA a e i))], .int .i64 0]) ∧ Below w.heap.size w w' := by
  have HF := Lib.hid (fin_ok h hi)
  have HP := Lib.hid h
  have H8 := Lib.hid (stp_8 h)
  have HOK := Lib.hid (stp_ok h)
  have ha0 := h.a0
  have ha1 := h.a1
  have he1 := h.e1
  have he9 := h.e9
  have hn20 := h.n20
  have hlb := lig_bd h hi
  have HA : Hid (finA a e i = max 0 (a + e * i - e + 1)) := Lib.hid rfl
  have HNN : Hid (finN n (finA a e i) = min (n : Int) (36 - finA a e i + 1)) := Lib.hid rfl
  have hl : a + e * (i : Int) = ligK a e i := rfl
  have HLt := Lib.hid (fun w => srLight_c a e n i H8.out (by omega) w)
  rw [hl] at HA HLt
  generalize ligK a e i = l at *
  generalize finN n (finA a e i) = NN at *
  generalize finA a e i = F at *
  have S0 := Lib.hid (al1_0 w (.cells #[.int .i8 a, .int .i8 e, .int .i8 n] 26))
  have B0 := Lib.hid (bl1 w (.cells #[.int .i8 a, .int .i8 e, .int .i8 n] 26))
  have hz : (w.alloc (.cells #[.int .i8 a, .int .i8 e, .int .i8 n] 26)).heap.size = w.heap.size + 1 := by simp
  clear h hl
  go_enter Tryz.func26, Tryz.ntmps26
  go_upto_region 1 with fail
  generalize w.alloc (.cells #[.int .i8 a, .int .i8 e, .int .i8 n] 26) = w1 at *
  have K0 := Lib.hid (heap_old (.cells #[.int .i8 0, .int .i8 0, .int .i8 0] 26) _ (lt_of_heap S0.out) S0.out)
  have R0 := al1_0 w1 (.cells #[.int .i8 0, .int .i8 0, .int .i8 0] 26)
  rw [hz] at R0
  replace R0 := Lib.hid R0
  have B1 := Lib.hid (bt B0.out (bl1 w1 (.cells #[.int .i8 0, .int .i8 0, .int .i8 0] 26)))
  generalize w1.alloc (.cells #[.int .i8 0, .int .i8 0, .int .i8 0] 26) = w2 at *
  have c0 := blk3_0 K0.out
  have c1 := blk3_1 K0.out
  have c2 := blk3_2 K0.out
  go_wp2_with fail
  refine (srValid_c a e n H8.out _).mono ?_
  rw [HOK.out]
  rintro x w3 ⟨rfl, hb⟩
  have K1 := Lib.hid (heap_below hb (lt_of_heap K0.out) K0.out)
  have R1 := Lib.hid (heap_below hb (lt_of_heap R0.out) R0.out)
  have B2 := Lib.hid (bt B1.out hb)
  clear hb c0 c1 c2 K0 R0 B1
  have c0 := blk3_0 K1.out
  have c1 := blk3_1 K1.out
  have c2 := blk3_2 K1.out
  have hwn := Go.IntWalk.i64_in (n : Int) (by omega)
  have hwn1 : IntKind.i64.wrap ((n : Int) - 1) = (n : Int) - 1 := Go.IntWalk.i64_in _ (by omega)
  have HI : Hid (∀ w : World, Calls Tryz.prog 65 #[.int .i64 i, .int .i64 0, .int .i64 ((n : Int) - 1)] w fun e w' => e = .returned (.bool true) ∧ w = w') := Lib.hid (fun w => by
    have := cWithin_c i 0 ((n : Int) - 1) w
    rwa [show (decide ((0 : Int) ≤ i) && decide ((i : Int) ≤ (n : Int) - 1)) = true by simp; omega] at this)
  go_wp2_with fail
  refine (HI.out _).mono ?_
  rintro x w' ⟨rfl, rfl⟩
  have hwe := Go.IntWalk.i64_in e (by omega)
  have hwl : IntKind.i64.wrap (l - e) = l - e := Go.IntWalk.i64_in _ (by omega)
  have hwl1 : IntKind.i64.wrap (l - e + 1) = l - e + 1 := Go.IntWalk.i64_in _ (by omega)
  have hFe : max 0 (l - e + 1) = F := HA.out.symm
  have hf := HF.out
  obtain ⟨f0, f1, f2, f3, f4, f5⟩ := hf
  have hw36 : IntKind.i64.wrap (36 - F) = 36 - F := Go.IntWalk.i64_in _ (by omega)
  have hw37 : IntKind.i64.wrap (36 - F + 1) = 36 - F + 1 := Go.IntWalk.i64_in _ (by omega)
  have hF8 := Go.IntWalk.i8_in F (by omega)
  have hN8 := Go.IntWalk.i8_in NN (by omega)
  have hNe : min (n : Int) (36 - F + 1) = NN := HNN.out.symm
  have hsz : w.heap.size ≤ w.heap.size + 1 := by omega
  go_upto_region 5 with fail
  have s0 : Below w3.heap.size w3 w3 ∧ (w3.cell? ⟨w.heap.size, 0, none⟩ = some (.int .i8 a) ∧ w3.cell? ⟨w.heap.size, 1, none⟩ = some (.int .i8 e) ∧ w3.cell? ⟨w.heap.size, 2, none⟩ = some (.int .i8 n)) := ⟨Below.refl _ _, c0, c1, c2⟩
  have HK : Hid (∀ w', Below w3.heap.size w3 w' → (Below w3.heap.size w3 w' ∧ (w'.cell? ⟨w.heap.size, 0, none⟩ = some (.int .i8 a) ∧ w'.cell? ⟨w.heap.size, 1, none⟩ = some (.int .i8 e) ∧ w'.cell? ⟨w.heap.size, 2, none⟩ = some (.int .i8 n)))) := Lib.hid fun w' hb => by
    have k1 := heap_below hb (lt_of_heap K1.out) K1.out
    exact ⟨hb, blk3_0 k1, blk3_1 k1, blk3_2 k1⟩
  go_cut [6] from 21 to 29 (fun s wx => s = .int .i64 F ∧ Below w3.heap.size w3 wx)
  case first =>
    go_region_held3 (fun w' => Below w3.heap.size w3 w' ∧ (w'.cell? ⟨w.heap.size, 0, none⟩ = some (.int .i8 a) ∧ w'.cell? ⟨w.heap.size, 1, none⟩ = some (.int .i8 e) ∧ w'.cell? ⟨w.heap.size, 2, none⟩ = some (.int .i8 n)))
      (first | (with_reducible assumption) | exact HK.out _ (bl_drew (Below.refl _ _)))
      (first
        | (go_at_call 66; refine (HLt.out _).mono ?_; rintro e9 w9 ⟨rfl, hb9⟩; have s9 := HK.out _ (bt (‹Below w3.heap.size w3 _ ∧ _›).1 hb9)))
    all_goals (go_wp2_with fail; go_meet)
    all_goals with_reducible (first | exact ⟨by first | rfl | rw [hFe] | (congr 1; omega) | (congr 1; split <;> omega), (‹Below w3.heap.size w3 _ ∧ _›).1⟩)
  case rest =>
    obtain ⟨rfl, hb⟩ := hcut
    have K2 := Lib.hid (heap_below hb (lt_of_heap K1.out) K1.out)
    have R2 := Lib.hid (heap_below hb (lt_of_heap R1.out) R1.out)
    have B3 := Lib.hid (bt B2.out hb)
    clear hb c0 c1 c2 s0 HK
    have c2 := blk3_2 K2.out
    have r0 := blk3_0 R2.out
    have r1 := blk3_1 R2.out
    have r2 := blk3_2 R2.out
    have g0 := blk_f R2.out 0
    have g1 := blk_f R2.out 1
    have g2 := blk_f R2.out 2
    go_wp2
    exact bodyPost_ret (results_ct rfl _ _ _ 26 _ _ _ rfl (blk3 R2.out) Tryz.underlying26 rfl szStrip) rfl ⟨rfl, below3B B3.out hsz _ _ _⟩
def lbV (q : Cv) (d t : Int) : Int := if lstV q d t ≤ 36 then (lstV q d t : Int) else 0
def lbN (q : Cv) (d t : Int) : Int := if lstV q d t ≤ 36 then (if lstV q d t = 0 then 1 else 2) else 0
def lbC (q : Cv) (d t : Int) : Int := if lstV q d t ≤ 36 then 0 else 6
set_option maxHeartbeats 1000000 in
theorem implLbs_c (p : Option Addr) (m c : Nat) (q : Cv) (hq : Pap q) (hm : m = q.length) (hm2 : m ≤ 1048576) (d t : Int) (d0 : 0 ≤ d) (d1 : d ≤ 400) (t0 : 0 ≤ t) (t1 : t ≤ 400) (w : World) (hp : CvS w p q) :
    Calls Tryz.prog 24 #[.slice p m c, .int .i64 d, .int .i64 t] w fun x w' => x = .returned (.tuple #[.int .i64 (lbV q d t), .int .i64 (lbN q d t), .int .i64 (lbC q d t)]) ∧ Below w.heap.size w w' := by
  have HQ := Lib.hid hq
  have HM := Lib.hid hm
  have HA := Lib.hid hp
  have HD : Hid (ydB d = true) := Lib.hid ((ydB_iff d).2 ⟨d0, d1⟩)
  have HT : Hid (ydB t = true) := Lib.hid ((ydB_iff t).2 ⟨t0, t1⟩)
  have hle : lstV q d t ≤ 37 := firstN_le _ _
  have HCo := Lib.hid (fun w hp => cCode_c p m c q HQ.out.i16 HM.out hm2 true w hp)
  have ec : cdV q true = 0 := by simp [cdV, HQ.out.ok]
  rw [ec] at HCo
  have HL := Lib.hid (fun w hp => cLeastLight_c p m c q HQ.out.good HM.out d t d0 d1 w hp)
  unfold lbV lbN lbC
  generalize lstV q d t = L at *
  have HTh : Hid (thB (L : Nat) = decide (L ≤ 36)) := Lib.hid (by simp only [thB]; rw [Bool.eq_iff_iff]; simp; omega)
  clear hq hm hp ec
  rcases (show L = 37 ∨ L = 0 ∨ (1 ≤ L ∧ L ≤ 36) by omega) with h | h | h
  all_goals
    first
    | (subst h)
    | (have hL0 : ((L : Int) == 0) = false := by simp; omega
       have e1 : L ≤ 36 := h.2
       have e2 : ¬ L = 0 := by omega
       rw [if_pos e1, if_pos e1, if_neg e2, if_pos e1]
       rw [decide_eq_true e1] at HTh)
    go_enter Tryz.func24, Tryz.ntmps24
    go_wp2_with fail
    refine (cIsDensity_c d _).mono ?_
    rw [HD.out]
    rintro x w' ⟨rfl, rfl⟩
    go_wp2_with fail
    refine (cIsDensity_c t _).mono ?_
    rw [HT.out]
    rintro x w' ⟨rfl, rfl⟩
    go_wp2_with fail
    refine (HCo.out _ HA.out).mono ?_
    rintro x w1 ⟨rfl, hb1⟩
    have HB1 := Lib.hid hb1
    clear hb1
    go_wp2_with fail
    refine (HL.out _ (CvS_below HB1.out HA.out)).mono ?_
    rintro x w2 ⟨rfl, hb2⟩
    have HB2 := Lib.hid (bt HB1.out hb2)
    clear hb2
    go_wp2_with fail
    refine (cAreThirds_c _ _).mono ?_
    first | rw [HTh.out] | rw [show thB 37 = false by decide] | rw [show thB 0 = true by decide]
    rintro x w' ⟨rfl, rfl⟩
    go_wp2
    go_ret3
    exact ⟨rfl, HB2.out⟩
set_option maxHeartbeats 1000000 in
theorem specLbs_c (p : Option Addr) (m c : Nat) (q : Cv) (hq : Pap q) (hm : m = q.length) (hm2 : m ≤ 1048576) (d t : Int) (d0 : 0 ≤ d) (d1 : d ≤ 400) (t0 : 0 ≤ t) (t1 : t ≤ 400) (w : World) (hp : CvS w p q) :
    Calls Tryz.prog 25 #[.slice p m c, .int .i64 d, .int .i64 t] w fun x w' => x = .returned (.tuple #[.int .i64 (lbV q d t), .int .i64 (lbN q d t), .int .i64 (lbC q d t)]) ∧ Below w.heap.size w w' := by
  have HQ := Lib.hid hq
  have HM := Lib.hid hm
  have HA := Lib.hid hp
  have HD : Hid (ydB d = true) := Lib.hid ((ydB_iff d).2 ⟨d0, d1⟩)
  have HT : Hid (ydB t = true) := Lib.hid ((ydB_iff t).2 ⟨t0, t1⟩)
  have hle : lstV q d t ≤ 37 := firstN_le _ _
  have HL := Lib.hid (fun w hp => cLeast_c p m c q HQ.out.good HM.out d t d0 d1 w hp)
  unfold lbV lbN lbC
  unfold lstS at HL
  generalize lstV q d t = L at *
  clear hq hm hp
  rcases (show L = 37 ∨ L = 0 ∨ (1 ≤ L ∧ L ≤ 36) by omega) with h | h | h
  all_goals
    first
    | (subst h)
    | (have hL0 : ((L : Int) == 0) = false := by simp; omega
       have e1 : L ≤ 36 := h.2
       have e2 : ¬ L = 0 := by omega
       have e3 : ¬ (L : Int) < 0 := by omega
       rw [if_pos e1] at HL
       rw [if_pos e1, if_pos e1, if_neg e2, if_pos e1])
    go_enter Tryz.func25, Tryz.ntmps25
    go_wp2_with fail
    refine (cOk_c p m c q HQ.out.i16 HM.out hm2 _ HA.out).mono ?_
    rw [HQ.out.ok]
    rintro x w1 ⟨rfl, hb1⟩
    have HB1 := Lib.hid hb1
    clear hb1
    go_wp2_with fail
    refine (cDensity_c d _).mono ?_
    rw [HD.out]
    rintro x w' ⟨rfl, rfl⟩
    go_wp2_with fail
    refine (cDensity_c t _).mono ?_
    rw [HT.out]
    rintro x w' ⟨rfl, rfl⟩
    go_wp2_with fail
    refine (HL.out _ (CvS_below HB1.out HA.out)).mono ?_
    rintro x w2 ⟨rfl, hb2⟩
    have HB2 := Lib.hid (bt HB1.out hb2)
    clear hb2
    go_wp2
    go_ret3
    exact ⟨rfl, HB2.out⟩
end Go.Proofs.YtbcahfiknelkcaaGreatDoor
