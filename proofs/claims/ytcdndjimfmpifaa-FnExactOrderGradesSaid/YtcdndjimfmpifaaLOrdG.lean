/- OrderGrades: the law. -/
import Derived.Test.YtcdndjimfmpifaaOrdS
import Derived.Test.YtcdndjimfmpifaaOrdM
import Derived.Test.YtcdndjimfmpifaaCrvM
import Derived.Test.YtcdndjimfmpifaaLstInt64S
namespace Go.Proofs.Ytcdndjimfmpifaa
open Go.RowKit Go.Lib
theorem ogV_len (cs : List Cv) (l d : Int) : (ogV cs l d).1.length ≤ cs.length := by
  unfold ogV
  split
  · split
    · simp only; rw [ordL_len]; exact Nat.le_refl _
    · simp
  · simp
theorem PB_mono {w w1 : World} {B B2 : Nat} {p : Option Addr} {xs : List Int} (hb : Below B2 w w1) (hB : B ≤ B2) (h : PB_i64 w B p xs) : PB_i64 w1 B p xs := PB_i64_below (hb.mono hB) h
set_option maxHeartbeats 2000000 in
theorem lawOrdG_c (p : Option Addr) (n cap : Nat) (cs : List Cv) (h16 : G16 cs) (hn : n = cs.length) (hm : n ≤ 9223372036854775807) (l : Int) (_ : -9223372036854775808 ≤ l ∧ l ≤ 9223372036854775807) (d : Int) (_ : -9223372036854775808 ≤ d ∧ d ≤ 9223372036854775807) (W : World) (hp : GrA W p cs) :
    Calls Try.prog 4 #[.slice p n cap, .int .i64 l, .int .i64 d] W fun e w' => e = .returned (.bool true) ∧ Below W.heap.size W w' := by
  have HN := Lib.hid hn
  have H16 := Lib.hid h16
  have HA := Lib.hid hp
  clear hn h16 hp
  go_enter Try.func4, Try.ntmps4
  go_wp2_with fail
  refine (szCurveS_c p n cap cs HN.out hm _ HA.out).mono ?_
  rintro e w' ⟨⟨v, rfl, v1, hv⟩, rfl⟩
  by_cases hneg : v < 0
  · go_wp2
    go_ret
    exact ⟨rfl, Below.refl _ _⟩
  obtain ⟨nm, hall⟩ := hv (by omega)
  have HS := Lib.hid (GrA_S HA.out (by rw [← HN.out]; exact hall))
  clear hall hv HA v1
  have hnd : decide (v < 0) = false := by simp; omega
  clear hneg
  go_wp2_with fail
  refine (toCurveS_c p n cap cs HN.out nm _ HS.out).mono ?_
  rintro e w1 ⟨rfl, hg1, hb1⟩
  have hxl := ogV_len cs l d
  obtain ⟨xs, hxs⟩ : ∃ xs, xs = (ogV cs l d).1 := ⟨_, rfl⟩
  obtain ⟨C, hC⟩ : ∃ C, C = (ogV cs l d).2 := ⟨_, rfl⟩
  rw [← hxs, ← HN.out] at hxl
  have HXS := Lib.hid hxs.symm
  have HCC := Lib.hid hC.symm
  have HG1 := Lib.hid hg1
  have HB1 := Lib.hid hb1
  clear hg1 hb1 hxs hC
  go_wp2_with fail
  refine (gOrder_c (some ⟨W.heap.size, 0, none⟩) n n cs H16.out HN.out nm l d _ HG1.out).mono ?_
  rintro e w2 ⟨v8, rfl, hR8, hb2⟩
  rw [HXS.out] at hR8
  rw [HCC.out]
  obtain ⟨p8, c8, rfl, hpb8⟩ := PB_i64_row hR8
  obtain ⟨ln, hln⟩ : ∃ ln, ln = xs.length := ⟨_, rfl⟩
  rw [← hln]
  have HLN := Lib.hid hln
  have hlm : ln ≤ 1048576 := by omega
  have HP8 := Lib.hid hpb8
  have HB2 := Lib.hid (bt HB1.out hb2)
  clear hb2 hR8 hpb8 hln hxl HG1
  go_wp2_with fail
  refine (toCurveSW_c p n cap cs HN.out nm _ (GrS_below HB2.out HS.out)).mono ?_
  rintro e w3 ⟨rfl, hg3, hw3, hb3⟩
  have HG3 := Lib.hid hg3
  have HW3 := Lib.hid hw3
  have HP83 := Lib.hid (PB_mono hb3 (Nat.le_refl _) HP8.out)
  have HZ3 : Hid (w2.heap.size < w3.heap.size ∨ n = 0) := Lib.hid (by
    by_cases h0 : n = 0
    · exact Or.inr h0
    · left
      obtain ⟨r, m, c, h1, _⟩ := hw3 0 (by rw [← HN.out]; omega)
      exact World.block_lt_of_cell? w3 _ h1)
  have HZ3' := Lib.hid hb3.size
  have HB3 := Lib.hid (bt HB2.out hb3)
  clear hg3 hw3 hb3 HP8
  go_wp2_with fail
  refine (gImplOrder_c (some ⟨w2.heap.size, 0, none⟩) n n cs H16.out HN.out nm l d _ HG3.out).mono ?_
  rintro e w4 ⟨v11, rfl, hR11, hb4⟩
  rw [HXS.out] at hR11
  rw [HCC.out]
  obtain ⟨p11, c11, rfl, hpb11⟩ := PB_i64_row hR11
  rw [← HLN.out] at hR11 ⊢
  have HR11 := Lib.hid hR11
  have HP11 := Lib.hid hpb11
  have HP84 := Lib.hid (PB_i64_below (hb4.mono HZ3'.out) HP83.out)
  have HG4 := Lib.hid (GrS_below hb4 HG3.out)
  have HW4 : Hid (n = 0 ∨ GrW w4 w2.heap.size w3.heap.size cs) := Lib.hid (by
    rcases HZ3.out with h | h
    · exact Or.inr (GrW_below hb4 HW3.out h)
    · exact Or.inl h)
  have HZ4 := Lib.hid hb4.size
  have HB4 := Lib.hid (bt HB3.out hb4)
  clear hb4 hR11 hpb11 HG3 HW3 HP83
  go_wp2_with fail
  refine (eqInt64S_same xs p11 p8 ln c11 c8 HLN.out hlm _ _ _ HP11.out HP84.out).mono ?_
  rintro e w5 ⟨rfl, hb5⟩
  have HR5 := Lib.hid (row_below HR11.out hb5)
  have HP85 := Lib.hid (PB_i64_below (hb5.mono (Nat.le_trans HZ3'.out HZ4.out)) HP84.out)
  have HG5 := Lib.hid (GrS_below hb5 HG4.out)
  have HW5 : Hid (n = 0 ∨ GrW w5 w2.heap.size w3.heap.size cs) := Lib.hid (by
    rcases HW4.out with h | h
    · exact Or.inl h
    · rcases HZ3.out with h3 | h3
      · exact Or.inr (GrW_below hb5 h (Nat.lt_of_lt_of_le h3 HZ4.out))
      · exact Or.inl h3)
  have HZ5 := Lib.hid (Nat.le_trans HZ4.out hb5.size)
  have HB5 := Lib.hid (bt HB4.out hb5)
  clear hb5 HR11 HP11 HP84 HG4 HW4
  go_wp2_with fail
  refine (toCurveS_c p n cap cs HN.out nm _ (GrS_below HB5.out HS.out)).mono ?_
  rintro e w6 ⟨rfl, hg6, hb6⟩
  have HG6 := Lib.hid hg6
  have HG6b := Lib.hid (GrS_below hb6 HG5.out)
  have HR6 := Lib.hid (row_below HR5.out hb6)
  have HP86 := Lib.hid (PB_i64_below (hb6.mono (Nat.le_trans HZ3'.out HZ5.out)) HP85.out)
  have HW6 : Hid (n = 0 ∨ GrW w6 w2.heap.size w3.heap.size cs) := Lib.hid (by
    rcases HW5.out with h | h
    · exact Or.inl h
    · rcases HZ3.out with h3 | h3
      · exact Or.inr (GrW_below hb6 h (Nat.lt_of_lt_of_le h3 HZ5.out))
      · exact Or.inl h3)
  have HZ6 := Lib.hid (Nat.le_trans HZ5.out hb6.size)
  have HB6 := Lib.hid (bt HB5.out hb6)
  clear hg6 hb6 HR5 HP85 HG5 HW5
  go_wp2_with fail
  refine (eqCurveS_c _ _ n n n cs HN.out nm _ HG6b.out HG6.out).mono ?_
  rintro e w7 ⟨rfl, hb7⟩
  have HR7 := Lib.hid (row_below HR6.out hb7)
  have HP87 := Lib.hid (PB_i64_below (hb7.mono (Nat.le_trans HZ3'.out HZ6.out)) HP86.out)
  have HW7 : Hid (GrW w7 w2.heap.size w3.heap.size cs) := Lib.hid (by
    rcases HW6.out with h | h
    · intro i hi; rw [← HN.out] at hi; omega
    · rcases HZ3.out with h3 | h3
      · exact GrW_below hb7 h (Nat.lt_of_lt_of_le h3 HZ6.out)
      · intro i hi; rw [← HN.out] at hi; omega)
  have HZ7 := Lib.hid (Nat.le_trans HZ6.out hb7.size)
  have HB7 := Lib.hid (bt HB6.out hb7)
  clear hb7 HR6 HP86 HG6 HG6b HW6
  go_wp2_with fail
  refine (markCurveS_c w2.heap.size w3.heap.size n n cs HN.out nm _ HW7.out).mono ?_
  rintro e w8 ⟨⟨K, rfl, k0⟩, ho8⟩
  have hkd : decide (K < 0) = false := by simp; omega
  have HR8 := Lib.hid (row_onlyR HR7.out ho8 (Nat.le_refl _))
  have HP88 := Lib.hid (PB_i64_below (ho8.below.mono (Nat.le_succ _)) HP87.out)
  have HZ8 : Hid (w3.heap.size ≤ w8.heap.size) := Lib.hid (by rw [ho8.size]; exact HZ7.out)
  have HB8 := Lib.hid (HB7.out.trans (ho8.below.mono (Nat.le_trans HB2.out.size (Nat.le_succ _))))
  obtain ⟨p11', c11', hv11, hpb88⟩ := PB_i64_row HR8.out
  simp only [Value.slice.injEq] at hv11
  obtain ⟨rfl, -, rfl⟩ := hv11
  have HP118 := Lib.hid hpb88
  clear ho8 k0 hpb88 HR7 HP87 HW7
  go_wp2_with fail
  refine (eqInt64S_same xs p11 p8 ln c11 c8 HLN.out hlm _ _ _ HP118.out HP88.out).mono ?_
  rintro e w9 ⟨rfl, hb9⟩
  have HR9 := Lib.hid (row_below HR8.out hb9)
  have HP89 := Lib.hid (PB_i64_below (hb9.mono (Nat.le_trans HZ3'.out HZ8.out)) HP88.out)
  have HZ9 := Lib.hid (Nat.le_trans HZ8.out hb9.size)
  have HB9 := Lib.hid (bt HB8.out hb9)
  have hm1 : Hid (xs.length ≤ 1048576) := Lib.hid (by rw [← HLN.out]; exact hlm)
  clear hb9 HR8 HP88 HP118
  go_wp2_with fail
  refine (markInt64S_c xs _ w3.heap.size 1 ⟨by omega, by omega⟩ hm1.out _ HR9.out HZ9.out).mono ?_
  rintro e w10 ⟨rfl, hR10, hb10⟩
  rw [← HLN.out] at hR10 ⊢
  have HR10 := Lib.hid hR10
  have HP810 := Lib.hid (PB_i64_below (hb10.mono HZ3'.out) HP89.out)
  have HZ10 := Lib.hid (Nat.le_trans HZ9.out hb10.size)
  have HB10 := Lib.hid (HB9.out.trans (hb10.mono (Nat.le_trans HB2.out.size HZ3'.out)))
  clear hR10 hb10 HR9 HP89
  have hq0 : decide ((1 : Int) + (ln : Int) < 0) = false := by simp; omega
  have hqq : ((1 : Int) + (ln : Int) != 1 + (ln : Int)) = false := by simp
  obtain ⟨Q, hQ⟩ : ∃ Q : Int, Q = 1 + (ln : Int) := ⟨_, rfl⟩
  rw [← hQ] at hq0 hqq ⊢
  have HQ := Lib.hid hQ.symm
  clear hQ
  go_wp2_with fail
  refine (heldInt64S_c _ w3.heap.size ln 1 ⟨by omega, by omega⟩ hlm _ HR10.out).mono ?_
  rintro e w' ⟨rfl, rfl⟩
  rw [HQ.out]
  go_wp2_with fail
  refine (toCurveS_c p n cap cs HN.out nm _ (GrS_below HB10.out HS.out)).mono ?_
  rintro e w11 ⟨rfl, hg11, hb11⟩
  have HG11 := Lib.hid hg11
  have HR11' := Lib.hid (row_below HR10.out hb11)
  have HP811 := Lib.hid (PB_i64_below (hb11.mono (Nat.le_trans HZ3'.out HZ10.out)) HP810.out)
  have HZ11 := Lib.hid (Nat.le_trans HZ10.out hb11.size)
  have HB11 := Lib.hid (bt HB10.out hb11)
  clear hg11 hb11 HR10 HP810
  go_wp2_with fail
  refine (gImplOrder_c _ n n cs H16.out HN.out nm l d _ HG11.out).mono ?_
  rintro e w12 ⟨v16, rfl, hR16, hb12⟩
  rw [HXS.out] at hR16
  rw [HCC.out]
  obtain ⟨p16, c16, rfl, hpb16⟩ := PB_i64_row hR16
  rw [← HLN.out]
  have HP16 := Lib.hid hpb16
  have HR12 := Lib.hid (row_below HR11'.out hb12)
  have HP812 := Lib.hid (PB_i64_below (hb12.mono (Nat.le_trans HZ3'.out HZ11.out)) HP811.out)
  have HB12 := Lib.hid (bt HB11.out hb12)
  clear hR16 hb12 hpb16 HR11' HP811 HG11
  go_wp2_with fail
  refine (eqInt64S_same xs p16 p8 ln c16 c8 HLN.out hlm _ _ _ HP16.out HP812.out).mono ?_
  rintro e w13 ⟨rfl, hb13⟩
  have HR13 := Lib.hid (row_below HR12.out hb13)
  have HB13 := Lib.hid (bt HB12.out hb13)
  clear hb13 HR12
  go_wp2_with fail
  refine (heldInt64S_c _ w3.heap.size ln 1 ⟨by omega, by omega⟩ hlm _ HR13.out).mono ?_
  rintro e w' ⟨rfl, rfl⟩
  rw [HQ.out]
  go_wp2
  go_ret
  exact ⟨rfl, HB13.out⟩
end Go.Proofs.Ytcdndjimfmpifaa
