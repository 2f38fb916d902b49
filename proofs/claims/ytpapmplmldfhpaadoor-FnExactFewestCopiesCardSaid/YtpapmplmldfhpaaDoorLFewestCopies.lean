/- FewestCopies: the law's walk. -/
import Derived.Test.YtpapmplmldfhpaaDoorFew
import Derived.Test.YtpapmplmldfhpaaDoorMarkQ
namespace Go.Proofs.YtpapmplmldfhpaaDoor
open Go.RowKit Go.Lib
theorem row_other {w w' : World} {b g : Nat} {e : TypeId} {k : IntKind} {v : Value} {xs : List Int} (h : Row w b e k v xs) (ho : OnlyB g w w') (hb : g < b) : Row w' b e k v xs := by
  obtain ⟨h1, h2⟩ := h
  refine ⟨h1, ?_⟩
  rcases h2 with h2 | ⟨gg, cap, cur, hv, hg, hh, r⟩
  · exact Or.inl h2
  · exact Or.inr ⟨gg, cap, cur, hv, hg, by rw [ho.apart gg (by omega)]; exact hh, r⟩
theorem PB_row {w : World} {b : Nat} {p : Option Addr} {m c : Nat} {xs : List Int} (h : Row w b 2 .i64 (.slice p m c) xs) : PB_i64 w w.heap.size p xs := by
  obtain ⟨p', c', hv, hP⟩ := PB_i64_row h
  simp only [Value.slice.injEq] at hv
  rw [hv.1]; exact hP
set_option maxHeartbeats 2000000 in
set_option maxRecDepth 100000 in
theorem lawFewestCopies_c (p : Option Addr) (n c : Nat) (l : List (List Int)) (hl : Prs l) (hn : n = l.length) (hz : n ≤ 9223372036854775807) (wi : Int) (bd_wi : -9223372036854775808 ≤ wi ∧ wi ≤ 9223372036854775807) (w : World) (hp : PS w p l) (hT : TabAt w) :
    Calls Tryd.prog 4 #[.slice p n c, .int .i64 wi] w fun e w' => e = .returned (.bool true) ∧ Below w.heap.size w w' := by
  have HN := Lib.hid hn
  have HA := Lib.hid hp
  have HP := Lib.hid hl
  clear hn hp hl
  have HT := Lib.hid hT
  have H00 := Lib.hid (TabAt_pos hT)
  clear hT
  have hml := fwV_len l wi
  obtain ⟨ys, code, hv⟩ : ∃ ys code, fwV l wi = (ys, code) := ⟨_, _, rfl⟩
  rw [hv] at hml
  simp only at hml
  obtain ⟨m, hm⟩ : ∃ m, m = ys.length := ⟨_, rfl⟩
  have hm8 : m ≤ 8 := by omega
  have HV := Lib.hid hv
  have HM := Lib.hid hm
  clear hv hml hm
  by_cases hm : 1048576 < n
  · go_enter Tryd.func4, Tryd.ntmps4
    go_wp2_with fail
    refine (szPrintS_c p n c hz _).mono ?_
    rintro e w1 ⟨rfl, rfl⟩
    rw [if_pos hm]
    go_wp2
    go_ret
    exact ⟨rfl, Below.refl _ _⟩
  · have hm' : n ≤ 1048576 := by omega
    have h1 : 0 ≤ (1048576 : Int) - n := by omega
    go_enter Tryd.func4, Tryd.ntmps4
    go_wp2_with fail
    refine (szPrintS_c p n c hz _).mono ?_
    rintro e w1 ⟨rfl, rfl⟩
    rw [if_neg (by omega)]
    go_wp2_with fail
    refine (toPrintS_c p n c l HP.out HN.out hm' _ HA.out).mono ?_
    rintro e w2 ⟨rfl, hf2, hb2⟩
    have F2 := Lib.hid hf2
    have B2 := Lib.hid hb2
    clear hf2 hb2
    go_wp2_with fail
    refine (specFew_c _ n n l HP.out HN.out hm' wi _ (PS_block F2.out HP.out)).mono ?_
    rintro e w3 ⟨v0, rfl, hR0, hb3⟩
    rw [HV.out] at hR0 ⊢
    obtain ⟨p0, c0, rfl, hP0⟩ := PB_i64_row hR0
    simp only at hP0 ⊢
    rw [← HM.out]
    have P0 := Lib.hid hP0
    have B3 := Lib.hid (bt B2.out hb3)
    clear hb3 F2 hR0 hP0 B2
    go_wp2_with fail
    refine (toPrintS_c p n c l HP.out HN.out hm' _ (PS_below B3.out HA.out)).mono ?_
    rintro e w5 ⟨rfl, hf5, hb5⟩
    have F5 := Lib.hid hf5
    have P5 := Lib.hid (PB_i64_below hb5 P0.out)
    have B5 := Lib.hid (bt B3.out hb5)
    have HWg := Lib.hid B3.out.size
    clear hf5 hb5 P0 B3
    generalize w3.heap.size = g5 at *
    go_wp2_with fail
    refine (implFew_c _ n n l HP.out HN.out hm' wi _ (PS_block F5.out HP.out) (TabAt_below B5.out H00.out HT.out)).mono ?_
    rintro e w6 ⟨v1, rfl, hR1, hb6⟩
    rw [HV.out] at hR1 ⊢
    simp only at hR1 ⊢
    obtain ⟨p1, c1, hv1, hP1⟩ := PB_i64_row hR1
    rw [← HM.out] at hv1
    subst hv1
    have P6 := Lib.hid hP1
    have R6 := Lib.hid hR1
    have HB6 := Lib.hid hb6.size
    have HG5 := Lib.hid (lt_of_heap F5.out)
    have F6 := Lib.hid (heap_below hb6 (lt_of_heap F5.out) F5.out)
    have Q6 := Lib.hid (PB_i64_below (hb6.mono (Nat.le_of_lt (lt_of_heap F5.out))) P5.out)
    have B6 := Lib.hid (bt B5.out hb6)
    have HWb := Lib.hid B5.out.size
    clear hb6 F5 hR1 hP1 P5 B5
    generalize w5.heap.size = base at *
    go_wp2_with fail
    refine (eqInt64S_same ys p1 p0 m c1 c0 HM.out (by omega) _ _ _ P6.out Q6.out).mono ?_
    rintro e w7 ⟨rfl, hb7⟩
    have R7 := Lib.hid (row_below R6.out hb7)
    have F7 := Lib.hid (heap_below hb7 (lt_of_heap F6.out) F6.out)
    have Q7 := Lib.hid (PB_i64_below (hb7.mono (Nat.le_trans (Nat.le_of_lt HG5.out) HB6.out)) Q6.out)
    have B7 := Lib.hid (bt B6.out hb7)
    have HB7 := Lib.hid (Nat.le_trans HB6.out hb7.size)
    clear hb7 R6 F6 Q6 B6 P6 HB6
    have hneq : (code != code) = false := by simp
    go_wp2_with fail
    refine (toPrintS_c p n c l HP.out HN.out hm' _ (PS_below B7.out HA.out)).mono ?_
    rintro e w9 ⟨rfl, hf9, hb9⟩
    have G9 := Lib.hid hf9
    have R9 := Lib.hid (row_below R7.out hb9)
    have F9 := Lib.hid (heap_below hb9 (lt_of_heap F7.out) F7.out)
    have Q9 := Lib.hid (PB_i64_below (hb9.mono (Nat.le_trans (Nat.le_of_lt HG5.out) HB7.out)) Q7.out)
    have B9 := Lib.hid (bt B7.out hb9)
    have HB9 := Lib.hid (Nat.le_trans HB7.out hb9.size)
    clear hf9 hb9 R7 F7 Q7 B7 HB7
    go_wp2_with fail
    refine (eqPrintS_same g5 _ n n n l HP.out HN.out hm' _ F9.out G9.out).mono ?_
    rintro e w10 ⟨rfl, hb10⟩
    have R10 := Lib.hid (row_below R9.out hb10)
    have F10 := Lib.hid (heap_below hb10 (lt_of_heap F9.out) F9.out)
    have Q10 := Lib.hid (PB_i64_below (hb10.mono (Nat.le_trans (Nat.le_of_lt HG5.out) HB9.out)) Q9.out)
    have B10 := Lib.hid (bt B9.out hb10)
    have HB10 := Lib.hid (Nat.le_trans HB9.out hb10.size)
    clear hb10 R9 F9 Q9 B9 G9 HB9
    go_wp2_with fail
    refine (markPrintS_c _ g5 n n _ 26 1 (by omega) hm' (Nat.le_of_eq (by show n * 64 = (flatP l).toArray.size; rw [List.size_toArray, flatP_length l HP.out, HN.out])) _ (fun _ => rfl) (fun _ => mkd_start F10.out 1)).mono ?_
    rintro e w11 ⟨rfl, _, ho⟩
    have R11 := Lib.hid (row_other R10.out ho HG5.out)
    have Q11 := Lib.hid (PB_i64_below ho.below Q10.out)
    have B11 := Lib.hid (B10.out.trans (ho.below.mono HWg.out))
    have HB11 : Hid (base ≤ w11.heap.size) := Lib.hid (by rw [ho.size]; exact HB10.out)
    clear ho R10 F10 Q10 B10 HB10
    have hq0 : (((1 : Int) + ((n * 64 : Nat) : Int)) < 0) = False := by simp; omega
    go_wp2_with fail
    refine (eqInt64S_same ys p1 p0 m c1 c0 HM.out (by omega) _ _ _ (PB_row R11.out) Q11.out).mono ?_
    rintro e w12 ⟨rfl, hb12⟩
    have R12 := Lib.hid (row_below R11.out hb12)
    have Q12 := Lib.hid (PB_i64_below (hb12.mono (Nat.le_trans (Nat.le_of_lt HG5.out) HB11.out)) Q11.out)
    have B12 := Lib.hid (bt B11.out hb12)
    have HB12 := Lib.hid (Nat.le_trans HB11.out hb12.size)
    clear hb12 R11 Q11 B11 HB11
    go_wp2_with fail
    refine (markInt64S_c ys _ base 1 (by omega) (by have := HM.out; omega) _ R12.out HB12.out).mono ?_
    rintro e w13 ⟨rfl, hR13, hb13⟩
    rw [← HM.out] at hR13 ⊢
    have R13 := Lib.hid hR13
    have Q13 := Lib.hid (PB_i64_below (hb13.mono (Nat.le_of_lt HG5.out)) Q12.out)
    have B13 := Lib.hid (B12.out.trans (hb13.mono HWb.out))
    have HB13 := Lib.hid (Nat.le_trans HB12.out hb13.size)
    clear hb13 hR13 R12 Q12 B12 HB12
    have hq1 : (((1 : Int) + (m : Int)) < 0) = False := by simp; omega
    go_wp2_with fail
    refine (heldInt64S_c _ base m 1 (by omega) (by omega) _ R13.out).mono ?_
    rintro e w' ⟨rfl, rfl⟩
    go_wp2_with fail
    refine (toPrintS_c p n c l HP.out HN.out hm' _ (PS_below B13.out HA.out)).mono ?_
    rintro e w14 ⟨rfl, hf14, hb14⟩
    have F14 := Lib.hid hf14
    have R14 := Lib.hid (row_below R13.out hb14)
    have Q14 := Lib.hid (PB_i64_below (hb14.mono (Nat.le_trans (Nat.le_of_lt HG5.out) HB13.out)) Q13.out)
    have B14 := Lib.hid (bt B13.out hb14)
    have HB14 := Lib.hid (Nat.le_trans HB13.out hb14.size)
    clear hf14 hb14 R13 Q13 B13 HB13
    go_wp2_with fail
    refine (implFew_c _ n n l HP.out HN.out hm' wi _ (PS_block F14.out HP.out) (TabAt_below B14.out H00.out HT.out)).mono ?_
    rintro e w15 ⟨v2, rfl, hR2, hb15⟩
    rw [HV.out] at hR2 ⊢
    simp only at hR2 ⊢
    obtain ⟨p2, c2, hv2, hP2⟩ := PB_i64_row hR2
    rw [← HM.out] at hv2
    subst hv2
    have P15 := Lib.hid hP2
    have R15 := Lib.hid (row_below R14.out hb15)
    have Q15 := Lib.hid (PB_i64_below (hb15.mono (Nat.le_trans (Nat.le_of_lt HG5.out) HB14.out)) Q14.out)
    have B15 := Lib.hid (bt B14.out hb15)
    have HB15 := Lib.hid (Nat.le_trans HB14.out hb15.size)
    clear hR2 hP2 hb15 R14 Q14 B14 HB14 F14
    go_wp2_with fail
    refine (eqInt64S_same ys p2 p0 m c2 c0 HM.out (by omega) _ _ _ P15.out Q15.out).mono ?_
    rintro e w16 ⟨rfl, hb16⟩
    have R16 := Lib.hid (row_below R15.out hb16)
    have B16 := Lib.hid (bt B15.out hb16)
    clear hb16 P15 Q15 R15 B15
    go_wp2_with fail
    refine (heldInt64S_c _ base m 1 (by omega) (by omega) _ R16.out).mono ?_
    rintro e w' ⟨rfl, rfl⟩
    go_wp2
    go_ret
    exact ⟨rfl, B16.out⟩
end Go.Proofs.YtpapmplmldfhpaaDoor
