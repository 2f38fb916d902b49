/- Masks that are drawn. -/
import Derived.Test.YtdmlefccajaniaaDoorSrc
import Derived.Test.YtdmlefccajaniaaDoorDens
import Derived.Test.YtdmlefccajaniaaDoorRepD
import Derived.Test.YtdmlefccajaniaaDoorVarQ
namespace Go.Proofs.YtdmlefccajaniaaDoor
open Go.RowKit Go.Lib
theorem l03Place_c (n : Int) (h : 0 ≤ n ∧ n ≤ 7) (w : World) :
    Calls Tryd.prog 125 #[.int .i64 n] w fun e w' => e = .returned (.bool true) ∧ w = w' := by
  have h1 := h.1
  have h2 := h.2
  go_enter Tryd.func125, Tryd.ntmps125
  go_wp2_with (go_at_call 90; refine (l00In_c _ _ _ _).mono ?_; rintro e w' ⟨rfl, rfl⟩)
  go_ret
  exact ⟨rfl, rfl⟩
theorem l03Bit_c (x y : Nat) (hx : x < 8) (hy : y < 8) (w : World) :
    Calls Tryd.prog 126 #[.int .i64 x, .int .i64 y] w fun e w' => (∃ b : Nat, e = .returned (.int .u64 b) ∧ b < 2 ^ 64) ∧ w = w' := by
  have h1 : IntKind.i64.wrap (8 * (y : Int)) = ((8 * y : Nat) : Int) := by rw [Go.IntWalk.i64_in _ (by omega)]; omega
  have h2 : IntKind.i64.wrap ((x : Int) + ((8 * y : Nat) : Int)) = ((x + 8 * y : Nat) : Int) := by rw [Go.IntWalk.i64_in _ (by omega)]; omega
  have h3 : IntKind.u64.wrap ((x + 8 * y : Nat) : Int) = ((x + 8 * y : Nat) : Int) := by rw [IntKind.wrap_u64]; omega
  have hp := pow64 (x + 8 * y) (by omega)
  go_enter Tryd.func126, Tryd.ntmps126
  go_wp2
  go_ret
  rw [hp]
  exact ⟨⟨2 ^ (x + 8 * y), by simp, Nat.pow_lt_pow_right (by omega) (by omega)⟩, rfl⟩
set_option maxHeartbeats 1000000 in
theorem specMaskOf_c (x y e s : Nat) (hx : x ≤ e) (he : e ≤ 7) (hy : y ≤ s) (hs : s ≤ 7) (w : World) :
    Calls Tryd.prog 104 #[.int .i64 x, .int .i64 y, .int .i64 e, .int .i64 s] w fun r w' => (∃ m : Nat, r = .returned (.tuple #[.int .u64 m, .int .i64 0]) ∧ m < 2 ^ 64) ∧ w = w' := by
  have g1 : decide ((x : Int) > e) = false := by simp; omega
  have g2 : decide ((y : Int) > s) = false := by simp; omega
  go_enter Tryd.func104, Tryd.ntmps104
  go_wp2_with (first
    | (go_at_call_of 125 (Value.int .i64 (x : Int)); refine (l03Place_c x (by omega) _).mono ?_; rintro e w' ⟨rfl, rfl⟩)
    | (go_at_call_of 125 (Value.int .i64 (y : Int)); refine (l03Place_c y (by omega) _).mono ?_; rintro e w' ⟨rfl, rfl⟩)
    | (go_at_call_of 125 (Value.int .i64 (e : Int)); refine (l03Place_c e (by omega) _).mono ?_; rintro e w' ⟨rfl, rfl⟩)
    | (go_at_call_of 125 (Value.int .i64 (s : Int)); refine (l03Place_c s (by omega) _).mono ?_; rintro e w' ⟨rfl, rfl⟩))
  go_loop [10, 11] (fun o i => ∃ k M : Nat, y ≤ k ∧ k ≤ s + 1 ∧ i = .int .i64 k ∧ o = .int .u64 M ∧ M < 2 ^ 64) (fun _ i => 9 - (intOf i).toNat)
  case atStart => exact ⟨y, 0, Nat.le_refl _, by omega, rfl, rfl, by decide⟩
  case round =>
    obtain ⟨k, M, hk, hk2, rfl, rfl, hM⟩ := hrel
    by_cases hlt : (k : Int) ≤ s
    · have hk8 : k < 8 := by omega
      go_wp2
      go_loop [10, 12] (fun o i => ∃ j M : Nat, x ≤ j ∧ j ≤ e + 1 ∧ i = .int .i64 j ∧ o = .int .u64 M ∧ M < 2 ^ 64) (fun _ i => 9 - (intOf i).toNat)
      case atStart => exact ⟨x, M, Nat.le_refl _, by omega, rfl, rfl, hM⟩
      case round =>
        obtain ⟨j, M2, hj, hj2, rfl, rfl, hM2⟩ := hrel
        by_cases hlj : (j : Int) ≤ e
        · have hj8 : j < 8 := by omega
          go_wp2_with fail
          refine (l03Bit_c j k hj8 hk8 _).mono ?_
          rintro e2 w2 ⟨⟨b, rfl, hb⟩, rfl⟩
          have ho := or64 M2 b hM2 hb
          go_wp2
          go_round
          case rel => exact ⟨j + 1, M2 ||| b, by omega, by omega, by go_num, rfl, Nat.or_lt_two_pow hM2 hb⟩
          case measure => simp [intOf]; omega
        · go_wp2
          go_round
          case rel => exact ⟨k + 1, by omega, by omega, by go_num, M2, rfl, hM2⟩
          case measure => simp [intOf]; omega
    · go_wp2
      go_ret2
      exact ⟨⟨M, rfl, hM⟩, rfl⟩
set_option maxHeartbeats 1000000 in
set_option maxRecDepth 100000 in
theorem maskDrawn_c (g k : Nat) (w : World) (h : Src w g k) (hk : k ≤ 1000000) :
    Calls Tryd.prog 81 #[.pointer (some ⟨g, 0, none⟩)] w fun e w' => (∃ m : Nat, e = .returned (.int .u64 m) ∧ m < 2 ^ 64) ∧ Src w' g (k + 10) ∧ Only g w w' := by
  have HS := Lib.hid h
  clear h
  go_enter Tryd.func81, Tryd.ntmps81
  go_wp2_with fail
  refine (srcPick_c g k 4 _ HS.out (by omega) (by omega) (by omega)).mono ?_
  rintro e w1 ⟨q, rfl, q0, q1, hS1, hO1⟩
  have HS1 := Lib.hid hS1
  have HO1 := Lib.hid hO1
  clear hS1 hO1 HS
  by_cases e0 : q = 0
  · subst e0
    go_wp2
    go_ret
    exact ⟨⟨18446744073709551615, rfl, by decide⟩, src_mono HS1.out (by omega), HO1.out⟩
  · by_cases e1 : q = 1
    · subst e1
      go_wp2_with fail
      refine (srcPick_c g (k + 2) 8 _ HS1.out (by omega) (by omega) (by omega)).mono ?_
      rintro e w2 ⟨x, rfl, x0, x1, hS2, hO2⟩
      have HS2 := Lib.hid hS2
      have HO2 := Lib.hid (only_trans HO1.out hO2)
      clear hS2 hO2 HS1 HO1
      obtain ⟨xn, rfl⟩ : ∃ xn : Nat, x = xn := ⟨x.toNat, by omega⟩
      go_wp2_with fail
      refine (srcPick_c g (k + 2 + 2) 8 _ HS2.out (by omega) (by omega) (by omega)).mono ?_
      rintro e w3 ⟨y, rfl, y0, y1, hS3, hO3⟩
      have HS3 := Lib.hid hS3
      have HO3 := Lib.hid (only_trans HO2.out hO3)
      clear hS3 hO3 HS2 HO2
      obtain ⟨yn, rfl⟩ : ∃ yn : Nat, y = yn := ⟨y.toNat, by omega⟩
      have hw1 : IntKind.i64.wrap (8 - (xn : Int)) = 8 - (xn : Int) := Go.IntWalk.i64_in _ (by omega)
      have hw2 : IntKind.i64.wrap (8 - (yn : Int)) = 8 - (yn : Int) := Go.IntWalk.i64_in _ (by omega)
      go_wp2_with fail
      refine (srcPickAny_c g (k + 2 + 2 + 2) (8 - (xn : Int)) _ HS3.out (by omega) (by omega)).mono ?_
      rintro e w4 ⟨a, rfl, a0, a1, hS4, hO4⟩
      have HS4 := Lib.hid hS4
      have HO4 := Lib.hid (only_trans HO3.out hO4)
      clear hS4 hO4 HS3 HO3
      obtain ⟨en, hen⟩ : ∃ en : Nat, (xn : Int) + a = en := ⟨((xn : Int) + a).toNat, by omega⟩
      have hw3 : IntKind.i64.wrap ((xn : Int) + a) = (en : Int) := by rw [Go.IntWalk.i64_in _ (by omega)]; exact hen
      have he7 : xn ≤ en ∧ en ≤ 7 := by omega
      clear hen
      go_wp2_with fail
      refine (srcPickAny_c g (k + 2 + 2 + 2 + 2) (8 - (yn : Int)) _ HS4.out (by omega) (by omega)).mono ?_
      rintro e w5 ⟨b, rfl, b0, b1, hS5, hO5⟩
      have HS5 := Lib.hid hS5
      have HO5 := Lib.hid (only_trans HO4.out hO5)
      clear hS5 hO5 HS4 HO4
      obtain ⟨sn, hsn⟩ : ∃ sn : Nat, (yn : Int) + b = sn := ⟨((yn : Int) + b).toNat, by omega⟩
      have hw4 : IntKind.i64.wrap ((yn : Int) + b) = (sn : Int) := by rw [Go.IntWalk.i64_in _ (by omega)]; exact hsn
      have hs7 : yn ≤ sn ∧ sn ≤ 7 := by omega
      clear hsn
      go_wp2_with fail
      refine (specMaskOf_c xn yn en sn he7.1 he7.2 hs7.1 hs7.2 _).mono ?_
      rintro e w6 ⟨⟨m, rfl, hm⟩, rfl⟩
      go_wp2
      go_ret
      exact ⟨⟨m, rfl, hm⟩, src_mono HS5.out (by omega), HO5.out⟩
    · by_cases e2 : q = 2
      · subst e2
        go_wp2_with fail
        refine (srcPick_c g (k + 2) 64 _ HS1.out (by omega) (by omega) (by omega)).mono ?_
        rintro e w2 ⟨x, rfl, x0, x1, hS2, hO2⟩
        obtain ⟨xn, rfl⟩ : ∃ xn : Nat, x = xn := ⟨x.toNat, by omega⟩
        have hw3 : IntKind.u64.wrap (xn : Int) = xn := by rw [IntKind.wrap_u64]; omega
        have hp := pow64 xn (by omega)
        go_wp2
        go_ret
        exact ⟨⟨2 ^ xn, ret_int (by simp), Nat.pow_lt_pow_right (by omega) (by omega)⟩, src_mono hS2 (by omega), only_trans HO1.out hO2⟩
      · go_wp2_with fail
        refine (srcPick_c g (k + 2) 1073741824 _ HS1.out (by omega) (by omega) (by omega)).mono ?_
        rintro e w2 ⟨x, rfl, x0, x1, hS2, hO2⟩
        have HS2 := Lib.hid hS2
        have HO2 := Lib.hid (only_trans HO1.out hO2)
        clear hS2 hO2 HS1 HO1
        obtain ⟨xn, rfl⟩ : ∃ xn : Nat, x = xn := ⟨x.toNat, by omega⟩
        have hw3 : IntKind.u64.wrap (xn : Int) = xn := by rw [IntKind.wrap_u64]; omega
        go_wp2_with fail
        refine (srcPick_c g (k + 2 + 2) 1073741824 _ HS2.out (by omega) (by omega) (by omega)).mono ?_
        rintro e w3 ⟨y, rfl, y0, y1, hS3, hO3⟩
        obtain ⟨yn, rfl⟩ : ∃ yn : Nat, y = yn := ⟨y.toNat, by omega⟩
        have hw4 : IntKind.u64.wrap (yn : Int) = yn := by rw [IntKind.wrap_u64]; omega
        have ho := or64 (xn * 17179869184) yn (by omega) (by omega)
        go_wp2
        go_ret
        exact ⟨⟨xn * 17179869184 ||| yn, ret_int (by rw [← ho]; simp), Nat.or_lt_two_pow (by omega) (by omega)⟩, src_mono hS3 (by omega), only_trans HO2.out hO3⟩
set_option maxHeartbeats 1000000 in
theorem maskedDrawn_c (g k : Nat) (w : World) (h : Src w g k) (hk : k ≤ 1000) :
    Calls Tryd.prog 43 #[.pointer (some ⟨g, 0, none⟩)] w fun e w' => (∃ m : Nat, e = .returned (.int .u64 m) ∧ m < 2 ^ 64) ∧ Only g w w' := by
  have HS := Lib.hid h
  clear h
  go_enter Tryd.func43, Tryd.ntmps43
  go_wp2_with fail
  refine (maskDrawn_c g k _ HS.out (by omega)).mono ?_
  rintro e w1 ⟨⟨m, rfl, hm⟩, hS1, hO1⟩
  have HS1 := Lib.hid hS1
  have HO1 := Lib.hid hO1
  clear hS1 hO1 HS
  go_wp2_with fail
  refine (srcPick_c g (k + 10) 4 _ HS1.out (by omega) (by omega) (by omega)).mono ?_
  rintro e w2 ⟨q, rfl, q0, q1, hS2, hO2⟩
  have HS2 := Lib.hid hS2
  have HO2 := Lib.hid (only_trans HO1.out hO2)
  clear hS2 hO2 HS1 HO1
  obtain ⟨qn, rfl⟩ : ∃ qn : Nat, q = qn := ⟨q.toNat, by omega⟩
  go_wp2_with fail
  go_loopw [3, 4] (fun mv i wr => ∃ j M : Nat, j ≤ qn ∧ i = .int .i64 j ∧ mv = .int .u64 M ∧ M < 2 ^ 64 ∧ Src wr g (k + 10 + 2 + 10 * (qn - j)) ∧ Only g w wr) (fun _ i _ => (intOf i).toNat)
  case atStart => exact ⟨qn, m, Nat.le_refl _, rfl, rfl, hm, src_mono HS2.out (by omega), HO2.out⟩
  case round =>
    clear HS2 HO2
    obtain ⟨j, M, hj, rfl, rfl, hM, hS, hO⟩ := hrel
    have HS := Lib.hid hS
    have HO := Lib.hid hO
    clear hS hO
    by_cases hlt : 0 < j
    · have hj0 : (0 : Int) < j := by omega
      have hjw : IntKind.i64.wrap ((j : Int) - 1) = ((j - 1 : Nat) : Int) := by rw [Go.IntWalk.i64_in _ (by omega)]; omega
      go_wp2_with fail
      refine (maskDrawn_c g (k + 10 + 2 + 10 * (qn - j)) _ HS.out (by omega)).mono ?_
      rintro e w3 ⟨⟨b, rfl, hb⟩, hS3, hO3⟩
      have HS3 := Lib.hid hS3
      have HO3 := Lib.hid (only_trans HO.out hO3)
      clear hS3 hO3 HS HO
      have hx := xor64 M b hM hb
      go_wp2
      go_roundw
      case rel => exact ⟨j - 1, M ^^^ b, by omega, rfl, rfl, Nat.xor_lt_two_pow hM hb, src_mono HS3.out (by omega), HO3.out⟩
      case measure => simp [intOf]; omega
    · have hj0 : ¬ (0 : Int) < j := by omega
      go_wp2
      go_ret
      exact ⟨⟨M, rfl, hM⟩, HO.out⟩
theorem p6Mask_c (v : Value) (n : Nat) (w : World) (h : Bytes w v n) :
    Calls Tryd.prog 8 #[v] w fun e w' => (∃ m : Nat, e = .returned (.int .u64 m) ∧ m < 2 ^ 64) ∧ Below w.heap.size w w' := by
  have HS := Lib.hid h
  clear h
  go_enter Tryd.func8, Tryd.ntmps8
  go_wp2_with fail
  refine (srcFrom_c _ _ _ HS.out).mono ?_
  rintro e w2 ⟨g, rfl, hg, hS, hb⟩
  have HS2 := Lib.hid hS
  clear hS
  go_wp2_with fail
  refine (maskedDrawn_c g 0 _ HS2.out (by omega)).mono ?_
  rintro e w3 ⟨⟨m, rfl, hm⟩, hO⟩
  go_wp2
  go_ret
  exact ⟨⟨m, rfl, hm⟩, only_above hb hO hg⟩
end Go.Proofs.YtdmlefccajaniaaDoor
