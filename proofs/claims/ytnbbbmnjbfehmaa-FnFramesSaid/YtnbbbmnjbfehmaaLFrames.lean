/- FnFrames: the walk of the law. -/
import Derived.Test.YtnbbbmnjbfehmaaFramesQ
import Derived.Test.YtnbbbmnjbfehmaaVarQ
import Derived.Test.YtnbbbmnjbfehmaaRowAt
namespace Go.Proofs.Ytnbbbmnjbfehmaa
open Go.RowKit Go.Lib
theorem shB_ok {a : Int} {l : List (List Int)} (a1 : 1 ≤ a) (a5 : a ≤ 5) (l5 : l.length ≤ 5) (ho : okL l = true) : shB a l = true := by
  simp [shB, inS, ho]; omega
theorem scV_ok {a : Int} {l : List (List Int)} {fs : List Int} (h : shB a l = true) (hf : okI l.length fs = true) : scV a l fs = 0 := by simp [scV, h, hf]
theorem swV_ok {a : Int} {l : List (List Int)} {i k : Nat} (h : shB a l = true) (hi : i < l.length) (hk : k < l.length) : swV a l i k = ((a, swL l i k), 0) := by
  have h1 : inF l.length (i : Int) = true := (inF_iff _ _).2 (by omega)
  have h2 : inF l.length (k : Int) = true := (inF_iff _ _).2 (by omega)
  simp [swV, scV_ok h (show okI l.length [(i : Int), (k : Int)] = true by rw [okI_two, h1, h2]; rfl)]
theorem drV_ok {a : Int} {l : List (List Int)} {i : Nat} (h : shB a l = true) (hi : i < l.length) : drV a l i = ((a, drL l i), 0) := by
  have h1 : inF l.length (i : Int) = true := (inF_iff _ _).2 (by omega)
  simp [drV, scV_ok h (show okI l.length [(i : Int)] = true by rw [okI_one, h1])]
theorem shB_len {a : Int} {l m : List (List Int)} (h : shB a l = true) (hm : m.length = l.length) (ho : okL m = true) : shB a m = true := by
  have := shB_get h
  simp [shB, inS, ho]; omega
theorem drL_len (l : List (List Int)) (i : Nat) (hi : i < l.length) : (drL l i).length = l.length - 1 := by
  unfold drL; rw [List.length_append, List.length_take, List.length_drop]; omega
theorem row_PI {w : World} {base : Nat} {e : TypeId} {v : Value} {xs : List Int} (h : Row w base e .i64 v xs) : ∃ q cm, v = .slice q xs.length cm ∧ PI w q xs := by
  by_cases hx : xs = []
  · subst hx
    obtain ⟨_, h2⟩ := h
    rcases h2 with ⟨h2, _⟩ | ⟨g, cap, cur, hv, _⟩
    · exact ⟨none, 0, h2, fun h => absurd rfl h⟩
    · exact ⟨_, cap, hv, fun h => absurd rfl h⟩
  · obtain ⟨g, cap, hv, _, hg, _, _, hc⟩ := row_shape h hx
    exact ⟨_, cap, hv, fun _ => ⟨g, 0, rfl, hg, fun i hi => by rw [Nat.zero_add]; exact hc i hi⟩⟩
theorem info_i64 : (Try.prog.info? 2).map (fun i => (i.zero, i.size, i.bytes)) = some (some (.int .i64 0), 1, 8) := by kernel_rfl
/-- What is told of the places of a sheet. -/
structure PlaceFacts (a : Int) (l : List (List Int)) (n : Nat) (R : Int) : Prop where
  rows : rowsV a l = (R, 0)
  r0 : 0 ≤ R
  r1 : R ≤ 23
  mul : n ≤ R * a
  mul2 : ¬ (n : Int) ≤ (R - 1) * a
  m0 : 0 ≤ R * a
  m1 : R * a ≤ 115
  m2 : -5 ≤ (R - 1) * a
  m3 : (R - 1) * a ≤ 115
  zero : n = 0 → R = 0
  at_ : ∀ k : Nat, k < n → ∃ x y : Int, plV a l k = (x, y, 0) ∧ frV a l x y = ((k : Int), 0) ∧ 0 ≤ x ∧ x < a ∧ 0 ≤ y ∧ y < R
theorem place_facts {a : Int} {l : List (List Int)} {n : Nat} (hn : n = l.length) (h : shB a l = true) (a5 : a ≤ 5) : ∃ R, PlaceFacts a l n R := by
  obtain ⟨h1, h2, h3, _⟩ := shB_get h
  subst hn
  have hr := rows_law (l.length : Int) a h1
  have hb := quo_in (l.length : Int) a (by omega) (by omega) h1 h2
  have hm : (((l.length : Int) + a - 1) / a) * a ≤ (l.length : Int) + a - 1 := Int.ediv_mul_le _ (by omega)
  have hs : (((l.length : Int) + a - 1) / a - 1) * a = ((l.length : Int) + a - 1) / a * a - a := by rw [Int.sub_mul]; omega
  refine ⟨((l.length : Int) + a - 1) / a, ⟨by simp [rowsV, h], hb.1, hb.2, hr.1, ?_, by omega, by omega, by omega, by omega, fun h0 => ?_, fun k hk => ?_⟩⟩
  · rcases Nat.eq_zero_or_pos l.length with h0 | h0
    · have : ((l.length : Int) + a - 1) / a = 0 := Int.ediv_eq_zero_of_lt (by omega) (by omega)
      rw [this]; omega
    · have := hr.2 (by omega); omega
  · exact Int.ediv_eq_zero_of_lt (by omega) (by omega)
  · obtain ⟨p1, p2, p3, p4, p5⟩ := place_law (l.length : Int) a k (by omega) (by omega) h1
    have hf : inF l.length (k : Int) = true := (inF_iff _ _).2 (by omega)
    refine ⟨(k : Int) % a, (k : Int) / a, by simp [plV, h, hf], ?_, p1, p2, p3, p4⟩
    have p6 := Int.ediv_le_self a (show 0 ≤ (k : Int) by omega)
    have hfa : frAt a l.length ((k : Int) % a) ((k : Int) / a) = true := by
      simp only [frAt, Bool.and_eq_true, decide_eq_true_eq]
      omega
    simp [frV, h, hfa, p5]
theorem ssB_refl (a : Int) (l : List (List Int)) : ssB a l a l = true := by simp [ssB]
theorem FNk {p : Option Addr} {n c : Nat} {l : List (List Int)} {w w1 : World} (hb : Below w.heap.size w w1) (h : 0 < n → ∃ g, p = some ⟨g, 0, none⟩ ∧ PB w g l ∧ n ≤ c) : 0 < n → ∃ g, p = some ⟨g, 0, none⟩ ∧ PB w1 g l ∧ n ≤ c := fun h0 => by
  obtain ⟨g, e1, e2, e3⟩ := h h0
  exact ⟨g, e1, pb_below hb e2, e3⟩
set_option maxHeartbeats 8000000 in
set_option maxRecDepth 100000 in
theorem lawFrames_c (v1 : Value) (n1 : Nat) (v2 : Value) (n2 : Nat) (w : World) (h1 : Bytes w v1 n1) (h2 : Bytes w v2 n2) :
    Calls Try.prog 13 #[v1, v2] w fun e w' => e = .returned (.bool true) ∧ Below w.heap.size w w' := by
  obtain ⟨p1, c1, e1, -, -⟩ := bytes_shape h1
  obtain ⟨p2, c2, e2, -, -⟩ := bytes_shape h2
  have H1 := Lib.hid h1
  have H2 := Lib.hid h2
  have CL1 : Hid (∀ w0 : World, Calls Try.prog 46 #[v1] w0 fun e w' => e = .returned (.bool (decide (4096 < (n1 : Int)))) ∧ w0 = w') := Lib.hid fun w0 => f6big_c v1 n1 p1 c1 e1 w0
  have CL2 : Hid (∀ w0 : World, Calls Try.prog 46 #[v2] w0 fun e w' => e = .returned (.bool (decide (4096 < (n2 : Int)))) ∧ w0 = w') := Lib.hid fun w0 => f6big_c v2 n2 p2 c2 e2 w0
  clear h1 h2 e1 e2 p1 c1 p2 c2
  by_cases hl : 4096 < (n1 : Int)
  · have HLong : Hid (decide (4096 < (n1 : Int)) = true) := Lib.hid (by simpa using hl)
    clear hl
    go_enter Try.func13, Try.ntmps13
    go_wp2_with fail
    refine (CL1.out _).mono ?_
    rintro e w' ⟨rfl, rfl⟩
    rw [HLong.out]
    go_wp2
    go_ret
    exact ⟨rfl, Below.refl _ _⟩
  have HLong : Hid (decide (4096 < (n1 : Int)) = false) := Lib.hid (by simpa using hl)
  by_cases hl2 : 4096 < (n2 : Int)
  · have HLong2 : Hid (decide (4096 < (n2 : Int)) = true) := Lib.hid (by simpa using hl2)
    clear hl hl2
    go_enter Try.func13, Try.ntmps13
    go_wp2_with fail
    refine (CL1.out _).mono ?_
    rintro e w' ⟨rfl, rfl⟩
    rw [HLong.out]
    go_wp2_with fail
    refine (CL2.out _).mono ?_
    rintro e w' ⟨rfl, rfl⟩
    rw [HLong2.out]
    go_wp2
    go_ret
    exact ⟨rfl, Below.refl _ _⟩
  have HLong2 : Hid (decide (4096 < (n2 : Int)) = false) := Lib.hid (by simpa using hl2)
  clear hl hl2
  go_enter Try.func13, Try.ntmps13
  refine wp_var fun Q0 HQ0 => ?_
  go_wp2_with fail
  refine (CL1.out _).mono ?_
  rintro e w' ⟨rfl, rfl⟩
  rw [HLong.out]
  go_wp2_with fail
  refine (CL2.out _).mono ?_
  rintro e w' ⟨rfl, rfl⟩
  rw [HLong2.out]
  clear HLong HLong2 CL1 CL2
  go_wp2_with fail
  refine (p6Sheet_c v1 n1 _ H1.out).mono ?_
  rintro e w1 ⟨a, p, c, l, rfl, a1, a5, l5, hl, ho, hR, hB⟩
  obtain ⟨n, hn⟩ : ∃ n, n = l.length := ⟨_, rfl⟩
  have hsh := shB_ok a1 a5 l5 ho
  obtain ⟨q', c', hv', hps⟩ := rowP_PS hR hl
  simp only [Value.slice.injEq] at hv'
  obtain ⟨rfl, -, rfl⟩ := hv'
  have FP : Hid (PS w1 p l) := Lib.hid hps
  have FN : Hid (0 < n → ∃ g, p = some ⟨g, 0, none⟩ ∧ PB w1 g l ∧ n ≤ c) := Lib.hid fun h0 => by
    obtain ⟨g, c2, hv, hpb, hc⟩ := rowP_PB hR hl (by omega)
    simp only [Value.slice.injEq] at hv
    obtain ⟨rfl, -, rfl⟩ := hv
    exact ⟨g, rfl, hpb, by omega⟩
  have n5 : n ≤ 5 := by omega
  have nm : n ≤ 1048576 := by omega
  have HL := Lib.hid hl
  have HO := Lib.hid ho
  have HSH := Lib.hid hsh
  have HN := Lib.hid hn
  have ha : -128 ≤ a ∧ a ≤ 127 := by omega
  obtain ⟨R, hpf⟩ := place_facts HN.out HSH.out a5
  have PF := Lib.hid hpf
  rw [← hn] at hR ⊢
  clear hR hl ho hsh hn hps l5 hpf
  have hbA := bl1 w1 (.cells #[.int .i8 a, .slice p n c] 30)
  replace FP := Lib.hid (PS_below hbA FP.out)
  have FS := Lib.hid (al1_0 w1 (.cells #[.int .i8 a, .slice p n c] 30))
  replace hB := bt hB hbA
  clear hbA
  replace FN := Lib.hid (show 0 < n → ∃ g, p = some ⟨g, 0, none⟩ ∧ PB (w1.alloc (.cells #[.int .i8 a, .slice p n c] 30)) g l ∧ n ≤ c from fun h0 => by obtain ⟨g, e1, e2, e3⟩ := FN.out h0; exact ⟨g, e1, pb_below (bl1 _ _) e2, e3⟩)
  have cFS_0 := bk2_0 FS.out
  have cFS_1 := bk2_1 FS.out
  go_wp2_with fail
  clear cFS_0 cFS_1
  generalize w1.alloc (.cells #[.int .i8 a, .slice p n c] 30) = w2 at *
  generalize w1.heap.size = gs at *
  refine (implRowsOf_c a ha p n c l HL.out HN.out nm _ FP.out).mono ?_
  rintro e w3 ⟨rfl, hb⟩
  rw [PF.out.rows]
  replace FS := Lib.hid (heap_below hb (lt_of_heap FS.out) FS.out)
  replace FP := Lib.hid (PS_below hb FP.out)
  replace FN := Lib.hid (FNk hb FN.out)
  replace hB := bt hB hb
  clear hb
  have cFS_0 := bk2_0 FS.out
  have cFS_1 := bk2_1 FS.out
  go_wp2_with fail
  clear cFS_0 cFS_1
  refine (implDarkestFrame_c a ha p n c l HL.out HN.out nm _ FP.out).mono ?_
  rintro e w4 ⟨rfl, hb⟩
  replace FS := Lib.hid (heap_below hb (lt_of_heap FS.out) FS.out)
  replace FP := Lib.hid (PS_below hb FP.out)
  replace FN := Lib.hid (FNk hb FN.out)
  replace hB := bt hB hb
  clear hb
  have cFS_0 := bk2_0 FS.out
  have cFS_1 := bk2_1 FS.out
  go_wp2_with fail
  clear cFS_0 cFS_1
  refine (specDarkestFrame_c a ha p n c l HL.out HN.out nm _ FP.out).mono ?_
  rintro e w5 ⟨rfl, hb⟩
  replace FS := Lib.hid (heap_below hb (lt_of_heap FS.out) FS.out)
  replace FP := Lib.hid (PS_below hb FP.out)
  replace FN := Lib.hid (FNk hb FN.out)
  replace hB := bt hB hb
  clear hb
  have w1' := Go.IntWalk.i64_in (R * a) (by have := PF.out.m0; have := PF.out.m1; omega)
  have w2' := Go.IntWalk.i64_in (R - 1) (by have := PF.out.r0; have := PF.out.r1; omega)
  have w3' := Go.IntWalk.i64_in ((R - 1) * a) (by have := PF.out.m2; have := PF.out.m3; omega)
  have w4' := Go.IntWalk.i64_in a (by omega)
  have f1' : ¬ R * a < n := by have := PF.out.mul; omega
  have f2' := PF.out.mul2
  obtain ⟨d1, hd1⟩ : ∃ d, d = (dkV a l).1 := ⟨_, rfl⟩
  obtain ⟨d2, hd2⟩ : ∃ d, d = (dkV a l).2.1 := ⟨_, rfl⟩
  obtain ⟨d3, hd3⟩ : ∃ d, d = (dkV a l).2.2 := ⟨_, rfl⟩
  rw [← hd1, ← hd2, ← hd3]
  have D3 : Hid (d3 = if n = 0 then 6 else 0) := Lib.hid (by rw [hd3, dkV, if_pos HSH.out, HN.out]; split <;> rfl)
  clear hd1 hd2 hd3
  by_cases h0 : n = 0
  · have D6 : d3 = 6 := by rw [D3.out, if_pos h0]
    subst D6
    have hR0 : R = 0 := PF.out.zero h0
    have hn0 : (n : Int) = 0 := by omega
    have hng : ¬ (0 : Int) < n := by omega
    have hdn : decide ((0 : Int) < n) = false := by simp; omega
    have HH0 := Lib.hid h0
    clear h0 D3
    have cFS_0 := bk2_0 FS.out
    have cFS_1 := bk2_1 FS.out
    go_wp2_with fail
    clear cFS_0 cFS_1
    refine (implValidSheet_c a ha p n c l HL.out HN.out nm _ FP.out).mono ?_
    rintro e w8 ⟨rfl, hb⟩
    rw [HSH.out]
    replace FS := Lib.hid (heap_below hb (lt_of_heap FS.out) FS.out)
    replace FP := Lib.hid (PS_below hb FP.out)
    replace FN := Lib.hid (FNk hb FN.out)
    replace hB := bt hB hb
    clear hb
    have cFS_0 := bk2_0 FS.out
    have cFS_1 := bk2_1 FS.out
    go_wp2_with fail
    clear cFS_0 cFS_1
    go_loopw [15] (fun i wr => i = .int .i64 0 ∧ Below w8.heap.size w8 wr) (fun i _ => 0)
    case atStart => exact ⟨rfl, Below.refl _ _⟩
    case round =>
      obtain ⟨rfl, hW⟩ := hrel
      replace hB := bt hB hW
      have hr0 : (R == 0) = true := by rw [hR0]; rfl
      have he0 : ((n : Int) == 0) = true := by rw [hn0]; rfl
      have hgt : ¬ (0 : Int) < (n : Int) := by omega
      have hn9 : (n : Int) = 0 := hn0
      clear hW FS FP FN
      go_wp2
      go_ret
      exact ⟨rfl, hB⟩
  · have D6 : d3 = 0 := by rw [D3.out, if_neg h0]
    subst D6
    have hng : (0 : Int) < n := by omega
    have hn0 : 0 < n := by omega
    have hnz : ¬ (n : Int) = 0 := by omega
    have hdn : decide ((0 : Int) < n) = true := by simp; omega
    clear h0 D3
    have cFS_0 := bk2_0 FS.out
    have cFS_1 := bk2_1 FS.out
    go_wp2_with fail
    clear cFS_0 cFS_1
    refine (implValidSheet_c a ha p n c l HL.out HN.out nm _ FP.out).mono ?_
    rintro e w8 ⟨rfl, hb⟩
    rw [HSH.out]
    replace FS := Lib.hid (heap_below hb (lt_of_heap FS.out) FS.out)
    replace FP := Lib.hid (PS_below hb FP.out)
    replace FN := Lib.hid (FNk hb FN.out)
    replace hB := bt hB hb
    clear hb
    have cFS_0 := bk2_0 FS.out
    have cFS_1 := bk2_1 FS.out
    go_wp2_with fail
    clear cFS_0 cFS_1
    clear w1' w2' w3' f1' f2' hdn
    as_aux_lemma =>
      go_loopw [15] (fun i wr => ∃ k : Nat, k ≤ n ∧ i = .int .i64 k ∧ Below w8.heap.size w8 wr) (fun i _ => n - (intOf i).toNat)
      case atStart => exact ⟨0, Nat.zero_le _, rfl, Below.refl _ _⟩
      case round =>
        obtain ⟨k, hk, rfl, hW⟩ := hrel
        replace FS := Lib.hid (heap_below hW (lt_of_heap FS.out) FS.out)
        replace FP := Lib.hid (PS_below hW FP.out)
        replace FN := Lib.hid (FNk hW FN.out)
        have HW0 := Lib.hid hW
        replace hB : Below w.heap.size w wr := bt hB hW
        clear hW
        generalize wr = w20 at *
        by_cases hlt : k < n
        · have HW := Lib.hid (Below.refl w20.heap.size w20)
          have hki : (k : Int) < n := by omega
          obtain ⟨x, y, hpl, hfr, x0, x1, y0, y1⟩ := PF.out.at_ k hlt
          have HPL := Lib.hid hpl
          have HFR := Lib.hid hfr
          clear hpl hfr
          have R1 := PF.out.r1
          have cFS_0 := bk2_0 FS.out
          have cFS_1 := bk2_1 FS.out
          go_wp2_with fail
          clear cFS_0 cFS_1
          refine (implPlaceOf_c a ha p n c l HL.out HN.out nm k (by omega) _ FP.out).mono ?_
          rintro e w21 ⟨rfl, hb⟩
          rw [HPL.out]
          replace FS := Lib.hid (heap_below hb (lt_of_heap FS.out) FS.out)
          replace FP := Lib.hid (PS_below hb FP.out)
          replace FN := Lib.hid (FNk hb FN.out)
          replace HW := Lib.hid (bt HW.out hb)
          clear hb
          have cFS_0 := bk2_0 FS.out
          have cFS_1 := bk2_1 FS.out
          go_wp2_with fail
          clear cFS_0 cFS_1
          refine (implFrameAt_c a ha p n c l HL.out HN.out nm x (by omega) y (by omega) _ FP.out).mono ?_
          rintro e w22 ⟨rfl, hb⟩
          rw [HFR.out]
          replace FS := Lib.hid (heap_below hb (lt_of_heap FS.out) FS.out)
          replace FP := Lib.hid (PS_below hb FP.out)
          replace FN := Lib.hid (FNk hb FN.out)
          replace HW := Lib.hid (bt HW.out hb)
          clear hb
          have v1' : ¬ x < 0 := by omega
          have v2' : ¬ a ≤ x := by omega
          have v3' : ¬ y < 0 := by omega
          have v4' : ¬ R ≤ y := by omega
          have cFS_0 := bk2_0 FS.out
          have cFS_1 := bk2_1 FS.out
          go_wp2
          go_roundw
          case rel => exact ⟨k + 1, by omega, by go_num, HW0.out.trans (HW.out.mono HW0.out.size)⟩
          case measure => simp [intOf]; omega
        · have hki : ¬ (k : Int) < n := by omega
          clear HW0
          have cFS_0 := bk2_0 FS.out
          have cFS_1 := bk2_1 FS.out
          go_wp2_with fail
          clear cFS_0 cFS_1
          refine (p6Pick_c v2 n2 _ (bytes_keep H2.out hB) n (by omega)).mono ?_
          rintro e w21 ⟨i, rfl, i0, i1, hb⟩
          replace FS := Lib.hid (heap_below hb (lt_of_heap FS.out) FS.out)
          replace FP := Lib.hid (PS_below hb FP.out)
          replace FN := Lib.hid (FNk hb FN.out)
          replace hB := bt hB hb
          clear hb
          obtain ⟨i, rfl⟩ : ∃ j : Nat, i = j := ⟨i.toNat, by omega⟩
          have hi : i < n := by omega
          clear i0 i1
          have cFS_0 := bk2_0 FS.out
          have cFS_1 := bk2_1 FS.out
          go_wp2_with fail
          clear cFS_0 cFS_1
          refine (p6Pick_c v1 n1 _ (bytes_keep H1.out hB) n (by omega)).mono ?_
          rintro e w22 ⟨k2, rfl, i0, i1, hb⟩
          replace FS := Lib.hid (heap_below hb (lt_of_heap FS.out) FS.out)
          replace FP := Lib.hid (PS_below hb FP.out)
          replace FN := Lib.hid (FNk hb FN.out)
          replace hB := bt hB hb
          clear hb
          obtain ⟨k2, rfl⟩ : ∃ j : Nat, k2 = j := ⟨k2.toNat, by omega⟩
          have hk2 : k2 < n := by omega
          clear i0 i1
          obtain ⟨gp, rfl, hpb, hnc⟩ := FN.out hn0
          have FB := Lib.hid hpb
          clear hpb FN FP
          have hil : i < l.length := by rw [← HN.out]; exact hi
          have hkl : k2 < l.length := by rw [← HN.out]; exact hk2
          have SV := Lib.hid (swV_ok HSH.out hil hkl)
          have DV := Lib.hid (drV_ok HSH.out hil)
          obtain ⟨L, hL⟩ : ∃ L, L = swL l i k2 := ⟨_, rfl⟩
          have HPL : Hid (Prs L) := Lib.hid (by rw [hL]; exact prs_swL hil hkl HL.out)
          have HNL : Hid (n = L.length) := Lib.hid (by rw [hL, swL_len]; exact HN.out)
          have HSL : Hid (shB a L = true) := Lib.hid (shB_len HSH.out (by rw [hL, swL_len]) (by rw [hL]; exact okL_swL hil hkl HO.out))
          have SV2 : Hid (swV a L i k2 = ((a, l), 0)) := Lib.hid (by rw [swV_ok HSL.out (by rw [← HNL.out]; exact hi) (by rw [← HNL.out]; exact hk2), hL, swL_swL l i k2 hil hkl])
          obtain ⟨D, hD⟩ : ∃ D, D = drL l i := ⟨_, rfl⟩
          have HPD : Hid (Prs D) := Lib.hid (by rw [hD]; exact Prs_del HL.out i)
          have HND : Hid (n - 1 = D.length) := Lib.hid (by rw [hD, drL_len l i hil, HN.out])
          rw [← hL] at SV
          rw [← hD] at DV
          have HDD := Lib.hid hD
          clear hL hD hil hkl
          have cFS_0 := bk2_0 FS.out
          have cFS_1 := bk2_1 FS.out
          go_wp2_with fail
          clear cFS_0 cFS_1
          refine (implSwap_c a ha gp n c l HL.out HN.out nm i k2 _ FB.out).mono ?_
          rintro e w23 ⟨v, rfl, hR, hb⟩
          rw [SV.out] at hR ⊢
          dsimp only at hR ⊢
          replace FS := Lib.hid (heap_below hb (lt_of_heap FS.out) FS.out)
          replace FB := Lib.hid (pb_below hb FB.out)
          replace hB := bt hB hb
          clear hb
          obtain ⟨Ap, Ac, rfl, hps⟩ := rowP_PS hR HPL.out
          rw [← HNL.out]
          have PA := Lib.hid hps
          clear hR hps
          have hbA := bl1 w23 (.cells #[.int .i8 a, .slice Ap (n) Ac] 30)
          replace FS := Lib.hid (heap_below hbA (lt_of_heap FS.out) FS.out)
          replace FB := Lib.hid (pb_below hbA FB.out)
          replace PA := Lib.hid (PS_below hbA PA.out)
          have SA := Lib.hid (al1_0 w23 (.cells #[.int .i8 a, .slice Ap (n) Ac] 30))
          replace hB := bt hB hbA
          clear hbA
          as_aux_lemma =>
            have cFS_0 := bk2_0 FS.out
            have cFS_1 := bk2_1 FS.out
            have cSA_0 := bk2_0 SA.out
            have cSA_1 := bk2_1 SA.out
            go_wp2_with fail
            clear cFS_0 cFS_1 cSA_0 cSA_1
            generalize w23.alloc (.cells #[.int .i8 a, .slice Ap (n) Ac] 30) = w24 at *
            generalize w23.heap.size = ga at *
            refine (specSwap_c a ha gp n c l HL.out HN.out nm i k2 _ FB.out).mono ?_
            rintro e w25 ⟨v, rfl, hR, hb⟩
            rw [SV.out] at hR ⊢
            dsimp only at hR ⊢
            replace FS := Lib.hid (heap_below hb (lt_of_heap FS.out) FS.out)
            replace SA := Lib.hid (heap_below hb (lt_of_heap SA.out) SA.out)
            replace FB := Lib.hid (pb_below hb FB.out)
            replace PA := Lib.hid (PS_below hb PA.out)
            replace hB := bt hB hb
            clear hb
            obtain ⟨Bp, Bc, rfl, hpb, _⟩ := rowP_PB hR HPL.out (by rw [← HNL.out]; omega)
            rw [← HNL.out]
            have PBd := Lib.hid hpb
            clear hR hpb
            have hbA := bl1 w25 (.cells #[.int .i8 a, .slice (some ⟨Bp, 0, none⟩) n Bc] 30)
            replace FS := Lib.hid (heap_below hbA (lt_of_heap FS.out) FS.out)
            replace SA := Lib.hid (heap_below hbA (lt_of_heap SA.out) SA.out)
            replace FB := Lib.hid (pb_below hbA FB.out)
            replace PA := Lib.hid (PS_below hbA PA.out)
            replace PBd := Lib.hid (pb_below hbA PBd.out)
            have SB := Lib.hid (al1_0 w25 (.cells #[.int .i8 a, .slice (some ⟨Bp, 0, none⟩) n Bc] 30))
            replace hB := bt hB hbA
            clear hbA
            have cFS_0 := bk2_0 FS.out
            have cFS_1 := bk2_1 FS.out
            have cSA_0 := bk2_0 SA.out
            have cSA_1 := bk2_1 SA.out
            have cSB_0 := bk2_0 SB.out
            have cSB_1 := bk2_1 SB.out
            go_wp2_with fail
            clear cFS_0 cFS_1 cSA_0 cSA_1 cSB_0 cSB_1
            generalize w25.alloc (.cells #[.int .i8 a, .slice (some ⟨Bp, 0, none⟩) n Bc] 30) = w26 at *
            generalize w25.heap.size = gb at *
            refine (implSwap_c a ha Bp n Bc L HPL.out HNL.out nm i k2 _ PBd.out).mono ?_
            rintro e w27 ⟨v, rfl, hR, hb⟩
            rw [SV2.out] at hR ⊢
            dsimp only at hR ⊢
            replace FS := Lib.hid (heap_below hb (lt_of_heap FS.out) FS.out)
            replace SA := Lib.hid (heap_below hb (lt_of_heap SA.out) SA.out)
            replace SB := Lib.hid (heap_below hb (lt_of_heap SB.out) SB.out)
            replace FB := Lib.hid (pb_below hb FB.out)
            replace PA := Lib.hid (PS_below hb PA.out)
            replace PBd := Lib.hid (pb_below hb PBd.out)
            replace hB := bt hB hb
            clear hb
            obtain ⟨Cp, Cc, rfl, hps⟩ := rowP_PS hR HL.out
            rw [← HN.out]
            have PC := Lib.hid hps
            clear hR hps
            have hbA := bl1 w27 (.cells #[.int .i8 a, .slice Cp (n) Cc] 30)
            replace FS := Lib.hid (heap_below hbA (lt_of_heap FS.out) FS.out)
            replace SA := Lib.hid (heap_below hbA (lt_of_heap SA.out) SA.out)
            replace SB := Lib.hid (heap_below hbA (lt_of_heap SB.out) SB.out)
            replace FB := Lib.hid (pb_below hbA FB.out)
            replace PA := Lib.hid (PS_below hbA PA.out)
            replace PBd := Lib.hid (pb_below hbA PBd.out)
            replace PC := Lib.hid (PS_below hbA PC.out)
            have SC := Lib.hid (al1_0 w27 (.cells #[.int .i8 a, .slice Cp (n) Cc] 30))
            replace hB := bt hB hbA
            clear hbA
            as_aux_lemma =>
              have cFS_0 := bk2_0 FS.out
              have cFS_1 := bk2_1 FS.out
              have cSA_0 := bk2_0 SA.out
              have cSA_1 := bk2_1 SA.out
              have cSB_0 := bk2_0 SB.out
              have cSB_1 := bk2_1 SB.out
              have cSC_0 := bk2_0 SC.out
              have cSC_1 := bk2_1 SC.out
              go_wp2_with fail
              clear cFS_0 cFS_1 cSA_0 cSA_1 cSB_0 cSB_1 cSC_0 cSC_1
              generalize w27.alloc (.cells #[.int .i8 a, .slice Cp (n) Cc] 30) = w28 at *
              generalize w27.heap.size = gc at *
              refine (implDrop_c a ha gp n c l HL.out HN.out nm i _ FB.out).mono ?_
              rintro e w29 ⟨v, rfl, hR, hb⟩
              rw [DV.out] at hR ⊢
              dsimp only at hR ⊢
              replace FS := Lib.hid (heap_below hb (lt_of_heap FS.out) FS.out)
              replace SA := Lib.hid (heap_below hb (lt_of_heap SA.out) SA.out)
              replace SB := Lib.hid (heap_below hb (lt_of_heap SB.out) SB.out)
              replace SC := Lib.hid (heap_below hb (lt_of_heap SC.out) SC.out)
              replace FB := Lib.hid (pb_below hb FB.out)
              replace PA := Lib.hid (PS_below hb PA.out)
              replace PBd := Lib.hid (pb_below hb PBd.out)
              replace PC := Lib.hid (PS_below hb PC.out)
              replace hB := bt hB hb
              clear hb
              obtain ⟨Ep, Ec, rfl, hps⟩ := rowP_PS hR HPD.out
              rw [← HND.out]
              have PE := Lib.hid hps
              clear hR hps
              have hbA := bl1 w29 (.cells #[.int .i8 a, .slice Ep (n - 1) Ec] 30)
              replace FS := Lib.hid (heap_below hbA (lt_of_heap FS.out) FS.out)
              replace SA := Lib.hid (heap_below hbA (lt_of_heap SA.out) SA.out)
              replace SB := Lib.hid (heap_below hbA (lt_of_heap SB.out) SB.out)
              replace SC := Lib.hid (heap_below hbA (lt_of_heap SC.out) SC.out)
              replace FB := Lib.hid (pb_below hbA FB.out)
              replace PA := Lib.hid (PS_below hbA PA.out)
              replace PBd := Lib.hid (pb_below hbA PBd.out)
              replace PC := Lib.hid (PS_below hbA PC.out)
              replace PE := Lib.hid (PS_below hbA PE.out)
              have SE := Lib.hid (al1_0 w29 (.cells #[.int .i8 a, .slice Ep (n - 1) Ec] 30))
              replace hB := bt hB hbA
              clear hbA
              have cFS_0 := bk2_0 FS.out
              have cFS_1 := bk2_1 FS.out
              have cSA_0 := bk2_0 SA.out
              have cSA_1 := bk2_1 SA.out
              have cSB_0 := bk2_0 SB.out
              have cSB_1 := bk2_1 SB.out
              have cSC_0 := bk2_0 SC.out
              have cSC_1 := bk2_1 SC.out
              have cSE_0 := bk2_0 SE.out
              have cSE_1 := bk2_1 SE.out
              go_wp2_with fail
              clear cFS_0 cFS_1 cSA_0 cSA_1 cSB_0 cSB_1 cSC_0 cSC_1 cSE_0 cSE_1
              generalize w29.alloc (.cells #[.int .i8 a, .slice Ep (n - 1) Ec] 30) = w30 at *
              generalize w29.heap.size = ge at *
              refine (specDrop_c a ha gp n c l HL.out HN.out nm hnc i _ FB.out).mono ?_
              rintro e w31 ⟨v, rfl, hR, hb⟩
              rw [DV.out] at hR ⊢
              dsimp only at hR ⊢
              replace FS := Lib.hid (heap_below hb (lt_of_heap FS.out) FS.out)
              replace SA := Lib.hid (heap_below hb (lt_of_heap SA.out) SA.out)
              replace SB := Lib.hid (heap_below hb (lt_of_heap SB.out) SB.out)
              replace SC := Lib.hid (heap_below hb (lt_of_heap SC.out) SC.out)
              replace SE := Lib.hid (heap_below hb (lt_of_heap SE.out) SE.out)
              replace FB := Lib.hid (pb_below hb FB.out)
              replace PA := Lib.hid (PS_below hb PA.out)
              replace PBd := Lib.hid (pb_below hb PBd.out)
              replace PC := Lib.hid (PS_below hb PC.out)
              replace PE := Lib.hid (PS_below hb PE.out)
              replace hB := bt hB hb
              clear hb
              obtain ⟨Fp, Fc, rfl, hps⟩ := rowP_PS hR HPD.out
              rw [← HND.out]
              have PF2 := Lib.hid hps
              clear hR hps
              have hbA := bl1 w31 (.cells #[.int .i8 a, .slice Fp (n - 1) Fc] 30)
              replace FS := Lib.hid (heap_below hbA (lt_of_heap FS.out) FS.out)
              replace SA := Lib.hid (heap_below hbA (lt_of_heap SA.out) SA.out)
              replace SB := Lib.hid (heap_below hbA (lt_of_heap SB.out) SB.out)
              replace SC := Lib.hid (heap_below hbA (lt_of_heap SC.out) SC.out)
              replace SE := Lib.hid (heap_below hbA (lt_of_heap SE.out) SE.out)
              replace FB := Lib.hid (pb_below hbA FB.out)
              replace PA := Lib.hid (PS_below hbA PA.out)
              replace PBd := Lib.hid (pb_below hbA PBd.out)
              replace PC := Lib.hid (PS_below hbA PC.out)
              replace PE := Lib.hid (PS_below hbA PE.out)
              replace PF2 := Lib.hid (PS_below hbA PF2.out)
              have SF := Lib.hid (al1_0 w31 (.cells #[.int .i8 a, .slice Fp (n - 1) Fc] 30))
              replace hB := bt hB hbA
              clear hbA
              have cFS_0 := bk2_0 FS.out
              have cFS_1 := bk2_1 FS.out
              have cSA_0 := bk2_0 SA.out
              have cSA_1 := bk2_1 SA.out
              have cSB_0 := bk2_0 SB.out
              have cSB_1 := bk2_1 SB.out
              have cSC_0 := bk2_0 SC.out
              have cSC_1 := bk2_1 SC.out
              have cSE_0 := bk2_0 SE.out
              have cSE_1 := bk2_1 SE.out
              have cSF_0 := bk2_0 SF.out
              have cSF_1 := bk2_1 SF.out
              go_upto_region 26 with fail
              clear cFS_0 cFS_1 cSA_0 cSA_1 cSB_0 cSB_1 cSC_0 cSC_1 cSE_0 cSE_1 cSF_0 cSF_1
              generalize w31.alloc (.cells #[.int .i8 a, .slice Fp (n - 1) Fc] 30) = w32 at *
              generalize w31.heap.size = gf at *
              have HR0 := Lib.hid (row_new w32 2 .i64 w32.heap.size (Nat.le_refl _))
              go_wp2_with fail
              as_aux_lemma =>
                go_loopw [33, 34] (fun v ii wr => ∃ (j : Nat), j ≤ n ∧ ii = .int .i64 j ∧ Row wr w32.heap.size 2 .i64 v (skL i j) ∧ Below w32.heap.size w32 wr) (fun _ ii _ => n - (intOf ii).toNat)
                case atStart => exact ⟨0, Nat.zero_le _, rfl, HR0.out, bl1 _ _⟩
                case round =>
                  clear HR0
                  obtain ⟨j, hj, rfl, hR, hW⟩ := hrel
                  have HR := Lib.hid hR
                  have HW0 := Lib.hid hW
                  have LW := Lib.hid hW.size
                  clear hR
                  by_cases hlt : j < n
                  · clear hB hW
                    have hji : (j : Int) < n := by omega
                    have hlen := skL_len i j
                    by_cases hji2 : j = i
                    · have hne : ((j : Int) != (i : Int)) = false := by subst hji2; simp
                      have HS := Lib.hid (skL_step_eq hji2)
                      clear hji2
                      go_wp2
                      go_roundw
                      case rel => exact ⟨j + 1, by omega, by go_num, by rw [HS.out]; exact HR.out, HW0.out⟩
                      case measure => simp [intOf]; omega
                    · have hne : ((j : Int) != (i : Int)) = true := by simp; omega
                      have HS := Lib.hid (skL_step_ne hji2)
                      clear hji2
                      go_wp2_with (at_builtin; refine wpList_app rfl (.tmp 219) (.tmp 221) 58 rfl w32.heap.size 2 .i64 8 Try.underlying58 info_i64 (by decide) _ (skL i j) rfl (row_alloc HR.out _) wr.heap.size 1 j rfl (by simp) (by omega) (by have := LW.out; simp; omega) ?_; intro v1 w1 hrow hgr hbk; have HW3 := Lib.hid (below_app (HW0.out.alloc LW.out _) hgr (Nat.le_refl _) hbk); have HR3 := Lib.hid hrow; clear hrow hgr hbk)
                      go_roundw
                      case rel => exact ⟨j + 1, by omega, by go_num, by rw [HS.out]; exact HR3.out, HW3.out⟩
                      case measure => simp [intOf]; omega
                  · have hjn : n = j := by omega
                    subst hjn
                    have hji : ¬ (n : Int) < n := by omega
                    obtain ⟨q, cm, rfl, hpi⟩ := row_PI HR.out
                    replace FS := Lib.hid (heap_below hW (lt_of_heap FS.out) FS.out)
                    replace SA := Lib.hid (heap_below hW (lt_of_heap SA.out) SA.out)
                    replace SB := Lib.hid (heap_below hW (lt_of_heap SB.out) SB.out)
                    replace SC := Lib.hid (heap_below hW (lt_of_heap SC.out) SC.out)
                    replace SE := Lib.hid (heap_below hW (lt_of_heap SE.out) SE.out)
                    replace SF := Lib.hid (heap_below hW (lt_of_heap SF.out) SF.out)
                    replace FB := Lib.hid (pb_below hW FB.out)
                    replace PA := Lib.hid (PS_below hW PA.out)
                    replace PBd := Lib.hid (pb_below hW PBd.out)
                    replace PC := Lib.hid (PS_below hW PC.out)
                    replace PE := Lib.hid (PS_below hW PE.out)
                    replace PF2 := Lib.hid (PS_below hW PF2.out)
                    replace hB : Below w.heap.size w wr := bt hB hW
                    obtain ⟨m, hm⟩ : ∃ m, m = (skL i n).length := ⟨_, rfl⟩
                    rw [← hm]
                    have FI := Lib.hid hpi
                    have HM := Lib.hid hm
                    have hml : m ≤ 5 := by have := skL_len i n; omega
                    have PV : Hid (pkV a l (skL i n) = ((a, D), 0)) := Lib.hid (by rw [pkV, if_pos (scV_ok HSH.out (by rw [← HN.out]; exact okI_skL i n)), if_pos (by rw [← hm]; omega), HDD.out]; congr 2; have h9 := pick_all l i (by rw [← HN.out]; exact hi); rw [← HN.out] at h9; rw [h9])
                    clear hW hpi hm HR HW0 LW
                    generalize wr = w60 at *
                    as_aux_lemma =>
                      have cFS_0 := bk2_0 FS.out
                      have cFS_1 := bk2_1 FS.out
                      have cSA_0 := bk2_0 SA.out
                      have cSA_1 := bk2_1 SA.out
                      have cSB_0 := bk2_0 SB.out
                      have cSB_1 := bk2_1 SB.out
                      have cSC_0 := bk2_0 SC.out
                      have cSC_1 := bk2_1 SC.out
                      have cSE_0 := bk2_0 SE.out
                      have cSE_1 := bk2_1 SE.out
                      have cSF_0 := bk2_0 SF.out
                      have cSF_1 := bk2_1 SF.out
                      go_wp2_with fail
                      clear cFS_0 cFS_1 cSA_0 cSA_1 cSB_0 cSB_1 cSC_0 cSC_1 cSE_0 cSE_1 cSF_0 cSF_1
                      refine (implPick_c a ha (some ⟨gp, 0, none⟩) n c l HL.out HN.out nm q m cm (skL i n) HM.out (by omega) _ (pb_PS FB.out) FI.out).mono ?_
                      rintro e w61 ⟨v, rfl, hR, hb⟩
                      rw [PV.out] at hR ⊢
                      dsimp only at hR ⊢
                      replace FS := Lib.hid (heap_below hb (lt_of_heap FS.out) FS.out)
                      replace SA := Lib.hid (heap_below hb (lt_of_heap SA.out) SA.out)
                      replace SB := Lib.hid (heap_below hb (lt_of_heap SB.out) SB.out)
                      replace SC := Lib.hid (heap_below hb (lt_of_heap SC.out) SC.out)
                      replace SE := Lib.hid (heap_below hb (lt_of_heap SE.out) SE.out)
                      replace SF := Lib.hid (heap_below hb (lt_of_heap SF.out) SF.out)
                      replace FB := Lib.hid (pb_below hb FB.out)
                      replace PA := Lib.hid (PS_below hb PA.out)
                      replace PBd := Lib.hid (pb_below hb PBd.out)
                      replace PC := Lib.hid (PS_below hb PC.out)
                      replace PE := Lib.hid (PS_below hb PE.out)
                      replace PF2 := Lib.hid (PS_below hb PF2.out)
                      replace hB := bt hB hb
                      clear hb
                      obtain ⟨Kp, Kc, rfl, hps⟩ := rowP_PS hR HPD.out
                      rw [← HND.out]
                      have PK := Lib.hid hps
                      clear hR hps
                      have hbA := bl1 w61 (.cells #[.int .i8 a, .slice Kp (n - 1) Kc] 30)
                      replace FS := Lib.hid (heap_below hbA (lt_of_heap FS.out) FS.out)
                      replace SA := Lib.hid (heap_below hbA (lt_of_heap SA.out) SA.out)
                      replace SB := Lib.hid (heap_below hbA (lt_of_heap SB.out) SB.out)
                      replace SC := Lib.hid (heap_below hbA (lt_of_heap SC.out) SC.out)
                      replace SE := Lib.hid (heap_below hbA (lt_of_heap SE.out) SE.out)
                      replace SF := Lib.hid (heap_below hbA (lt_of_heap SF.out) SF.out)
                      replace FB := Lib.hid (pb_below hbA FB.out)
                      replace PA := Lib.hid (PS_below hbA PA.out)
                      replace PBd := Lib.hid (pb_below hbA PBd.out)
                      replace PC := Lib.hid (PS_below hbA PC.out)
                      replace PE := Lib.hid (PS_below hbA PE.out)
                      replace PF2 := Lib.hid (PS_below hbA PF2.out)
                      replace PK := Lib.hid (PS_below hbA PK.out)
                      have SK := Lib.hid (al1_0 w61 (.cells #[.int .i8 a, .slice Kp (n - 1) Kc] 30))
                      replace hB := bt hB hbA
                      clear hbA
                      as_aux_lemma =>
                        have cFS_0 := bk2_0 FS.out
                        have cFS_1 := bk2_1 FS.out
                        have cSA_0 := bk2_0 SA.out
                        have cSA_1 := bk2_1 SA.out
                        have cSB_0 := bk2_0 SB.out
                        have cSB_1 := bk2_1 SB.out
                        have cSC_0 := bk2_0 SC.out
                        have cSC_1 := bk2_1 SC.out
                        have cSE_0 := bk2_0 SE.out
                        have cSE_1 := bk2_1 SE.out
                        have cSF_0 := bk2_0 SF.out
                        have cSF_1 := bk2_1 SF.out
                        have cSK_0 := bk2_0 SK.out
                        have cSK_1 := bk2_1 SK.out
                        go_wp2_with fail
                        clear cFS_0 cFS_1 cSA_0 cSA_1 cSB_0 cSB_1 cSC_0 cSC_1 cSE_0 cSE_1 cSF_0 cSF_1 cSK_0 cSK_1
                        generalize w61.alloc (.cells #[.int .i8 a, .slice Kp (n - 1) Kc] 30) = w62 at *
                        generalize w61.heap.size = gk at *
                        refine (specSameSheet_c a Ap n Ac L HPL.out HNL.out a (some ⟨Bp, 0, none⟩) n Bc L HPL.out HNL.out nm nm _ PA.out (pb_PS PBd.out)).mono ?_
                        rintro e w63 ⟨rfl, hb⟩
                        rw [ssB_refl]
                        replace FS := Lib.hid (heap_below hb (lt_of_heap FS.out) FS.out)
                        replace SA := Lib.hid (heap_below hb (lt_of_heap SA.out) SA.out)
                        replace SB := Lib.hid (heap_below hb (lt_of_heap SB.out) SB.out)
                        replace SC := Lib.hid (heap_below hb (lt_of_heap SC.out) SC.out)
                        replace SE := Lib.hid (heap_below hb (lt_of_heap SE.out) SE.out)
                        replace SF := Lib.hid (heap_below hb (lt_of_heap SF.out) SF.out)
                        replace SK := Lib.hid (heap_below hb (lt_of_heap SK.out) SK.out)
                        replace FB := Lib.hid (pb_below hb FB.out)
                        replace PA := Lib.hid (PS_below hb PA.out)
                        replace PBd := Lib.hid (pb_below hb PBd.out)
                        replace PC := Lib.hid (PS_below hb PC.out)
                        replace PE := Lib.hid (PS_below hb PE.out)
                        replace PF2 := Lib.hid (PS_below hb PF2.out)
                        replace PK := Lib.hid (PS_below hb PK.out)
                        replace hB := bt hB hb
                        clear hb
                        have cFS_0 := bk2_0 FS.out
                        have cFS_1 := bk2_1 FS.out
                        have cSA_0 := bk2_0 SA.out
                        have cSA_1 := bk2_1 SA.out
                        have cSB_0 := bk2_0 SB.out
                        have cSB_1 := bk2_1 SB.out
                        have cSC_0 := bk2_0 SC.out
                        have cSC_1 := bk2_1 SC.out
                        have cSE_0 := bk2_0 SE.out
                        have cSE_1 := bk2_1 SE.out
                        have cSF_0 := bk2_0 SF.out
                        have cSF_1 := bk2_1 SF.out
                        have cSK_0 := bk2_0 SK.out
                        have cSK_1 := bk2_1 SK.out
                        go_wp2_with fail
                        clear cFS_0 cFS_1 cSA_0 cSA_1 cSB_0 cSB_1 cSC_0 cSC_1 cSE_0 cSE_1 cSF_0 cSF_1 cSK_0 cSK_1
                        refine (specSameSheet_c a Cp n Cc l HL.out HN.out a (some ⟨gp, 0, none⟩) n c l HL.out HN.out nm nm _ PC.out (pb_PS FB.out)).mono ?_
                        rintro e w64 ⟨rfl, hb⟩
                        rw [ssB_refl]
                        replace FS := Lib.hid (heap_below hb (lt_of_heap FS.out) FS.out)
                        replace SA := Lib.hid (heap_below hb (lt_of_heap SA.out) SA.out)
                        replace SB := Lib.hid (heap_below hb (lt_of_heap SB.out) SB.out)
                        replace SC := Lib.hid (heap_below hb (lt_of_heap SC.out) SC.out)
                        replace SE := Lib.hid (heap_below hb (lt_of_heap SE.out) SE.out)
                        replace SF := Lib.hid (heap_below hb (lt_of_heap SF.out) SF.out)
                        replace SK := Lib.hid (heap_below hb (lt_of_heap SK.out) SK.out)
                        replace FB := Lib.hid (pb_below hb FB.out)
                        replace PA := Lib.hid (PS_below hb PA.out)
                        replace PBd := Lib.hid (pb_below hb PBd.out)
                        replace PC := Lib.hid (PS_below hb PC.out)
                        replace PE := Lib.hid (PS_below hb PE.out)
                        replace PF2 := Lib.hid (PS_below hb PF2.out)
                        replace PK := Lib.hid (PS_below hb PK.out)
                        replace hB := bt hB hb
                        clear hb
                        have cFS_0 := bk2_0 FS.out
                        have cFS_1 := bk2_1 FS.out
                        have cSA_0 := bk2_0 SA.out
                        have cSA_1 := bk2_1 SA.out
                        have cSB_0 := bk2_0 SB.out
                        have cSB_1 := bk2_1 SB.out
                        have cSC_0 := bk2_0 SC.out
                        have cSC_1 := bk2_1 SC.out
                        have cSE_0 := bk2_0 SE.out
                        have cSE_1 := bk2_1 SE.out
                        have cSF_0 := bk2_0 SF.out
                        have cSF_1 := bk2_1 SF.out
                        have cSK_0 := bk2_0 SK.out
                        have cSK_1 := bk2_1 SK.out
                        go_wp2_with fail
                        clear cFS_0 cFS_1 cSA_0 cSA_1 cSB_0 cSB_1 cSC_0 cSC_1 cSE_0 cSE_1 cSF_0 cSF_1 cSK_0 cSK_1
                        refine (implSameSheet_c a Cp n Cc l HL.out HN.out a (some ⟨gp, 0, none⟩) n c l HL.out HN.out nm nm _ PC.out (pb_PS FB.out)).mono ?_
                        rintro e w65 ⟨rfl, hb⟩
                        rw [ssB_refl]
                        replace FS := Lib.hid (heap_below hb (lt_of_heap FS.out) FS.out)
                        replace SA := Lib.hid (heap_below hb (lt_of_heap SA.out) SA.out)
                        replace SB := Lib.hid (heap_below hb (lt_of_heap SB.out) SB.out)
                        replace SC := Lib.hid (heap_below hb (lt_of_heap SC.out) SC.out)
                        replace SE := Lib.hid (heap_below hb (lt_of_heap SE.out) SE.out)
                        replace SF := Lib.hid (heap_below hb (lt_of_heap SF.out) SF.out)
                        replace SK := Lib.hid (heap_below hb (lt_of_heap SK.out) SK.out)
                        replace FB := Lib.hid (pb_below hb FB.out)
                        replace PA := Lib.hid (PS_below hb PA.out)
                        replace PBd := Lib.hid (pb_below hb PBd.out)
                        replace PC := Lib.hid (PS_below hb PC.out)
                        replace PE := Lib.hid (PS_below hb PE.out)
                        replace PF2 := Lib.hid (PS_below hb PF2.out)
                        replace PK := Lib.hid (PS_below hb PK.out)
                        replace hB := bt hB hb
                        clear hb
                        have cFS_0 := bk2_0 FS.out
                        have cFS_1 := bk2_1 FS.out
                        have cSA_0 := bk2_0 SA.out
                        have cSA_1 := bk2_1 SA.out
                        have cSB_0 := bk2_0 SB.out
                        have cSB_1 := bk2_1 SB.out
                        have cSC_0 := bk2_0 SC.out
                        have cSC_1 := bk2_1 SC.out
                        have cSE_0 := bk2_0 SE.out
                        have cSE_1 := bk2_1 SE.out
                        have cSF_0 := bk2_0 SF.out
                        have cSF_1 := bk2_1 SF.out
                        have cSK_0 := bk2_0 SK.out
                        have cSK_1 := bk2_1 SK.out
                        go_wp2_with fail
                        clear cFS_0 cFS_1 cSA_0 cSA_1 cSB_0 cSB_1 cSC_0 cSC_1 cSE_0 cSE_1 cSF_0 cSF_1 cSK_0 cSK_1
                        refine (specSameSheet_c a Ep (n - 1) Ec D HPD.out HND.out a Fp (n - 1) Fc D HPD.out HND.out (by omega) (by omega) _ PE.out PF2.out).mono ?_
                        rintro e w66 ⟨rfl, hb⟩
                        rw [ssB_refl]
                        replace FS := Lib.hid (heap_below hb (lt_of_heap FS.out) FS.out)
                        replace SA := Lib.hid (heap_below hb (lt_of_heap SA.out) SA.out)
                        replace SB := Lib.hid (heap_below hb (lt_of_heap SB.out) SB.out)
                        replace SC := Lib.hid (heap_below hb (lt_of_heap SC.out) SC.out)
                        replace SE := Lib.hid (heap_below hb (lt_of_heap SE.out) SE.out)
                        replace SF := Lib.hid (heap_below hb (lt_of_heap SF.out) SF.out)
                        replace SK := Lib.hid (heap_below hb (lt_of_heap SK.out) SK.out)
                        replace FB := Lib.hid (pb_below hb FB.out)
                        replace PA := Lib.hid (PS_below hb PA.out)
                        replace PBd := Lib.hid (pb_below hb PBd.out)
                        replace PC := Lib.hid (PS_below hb PC.out)
                        replace PE := Lib.hid (PS_below hb PE.out)
                        replace PF2 := Lib.hid (PS_below hb PF2.out)
                        replace PK := Lib.hid (PS_below hb PK.out)
                        replace hB := bt hB hb
                        clear hb
                        have cFS_0 := bk2_0 FS.out
                        have cFS_1 := bk2_1 FS.out
                        have cSA_0 := bk2_0 SA.out
                        have cSA_1 := bk2_1 SA.out
                        have cSB_0 := bk2_0 SB.out
                        have cSB_1 := bk2_1 SB.out
                        have cSC_0 := bk2_0 SC.out
                        have cSC_1 := bk2_1 SC.out
                        have cSE_0 := bk2_0 SE.out
                        have cSE_1 := bk2_1 SE.out
                        have cSF_0 := bk2_0 SF.out
                        have cSF_1 := bk2_1 SF.out
                        have cSK_0 := bk2_0 SK.out
                        have cSK_1 := bk2_1 SK.out
                        go_wp2_with fail
                        clear cFS_0 cFS_1 cSA_0 cSA_1 cSB_0 cSB_1 cSC_0 cSC_1 cSE_0 cSE_1 cSF_0 cSF_1 cSK_0 cSK_1
                        refine (specSameSheet_c a Kp (n - 1) Kc D HPD.out HND.out a Fp (n - 1) Fc D HPD.out HND.out (by omega) (by omega) _ PK.out PF2.out).mono ?_
                        rintro e w67 ⟨rfl, hb⟩
                        rw [ssB_refl]
                        replace FS := Lib.hid (heap_below hb (lt_of_heap FS.out) FS.out)
                        replace SA := Lib.hid (heap_below hb (lt_of_heap SA.out) SA.out)
                        replace SB := Lib.hid (heap_below hb (lt_of_heap SB.out) SB.out)
                        replace SC := Lib.hid (heap_below hb (lt_of_heap SC.out) SC.out)
                        replace SE := Lib.hid (heap_below hb (lt_of_heap SE.out) SE.out)
                        replace SF := Lib.hid (heap_below hb (lt_of_heap SF.out) SF.out)
                        replace SK := Lib.hid (heap_below hb (lt_of_heap SK.out) SK.out)
                        replace FB := Lib.hid (pb_below hb FB.out)
                        replace PA := Lib.hid (PS_below hb PA.out)
                        replace PBd := Lib.hid (pb_below hb PBd.out)
                        replace PC := Lib.hid (PS_below hb PC.out)
                        replace PE := Lib.hid (PS_below hb PE.out)
                        replace PF2 := Lib.hid (PS_below hb PF2.out)
                        replace PK := Lib.hid (PS_below hb PK.out)
                        replace hB := bt hB hb
                        clear hb
                        have cFS_0 := bk2_0 FS.out
                        have cFS_1 := bk2_1 FS.out
                        have cSA_0 := bk2_0 SA.out
                        have cSA_1 := bk2_1 SA.out
                        have cSB_0 := bk2_0 SB.out
                        have cSB_1 := bk2_1 SB.out
                        have cSC_0 := bk2_0 SC.out
                        have cSC_1 := bk2_1 SC.out
                        have cSE_0 := bk2_0 SE.out
                        have cSE_1 := bk2_1 SE.out
                        have cSF_0 := bk2_0 SF.out
                        have cSF_1 := bk2_1 SF.out
                        have cSK_0 := bk2_0 SK.out
                        have cSK_1 := bk2_1 SK.out
                        go_wp2
                        first | (refine HQ0 _ _ _ ?_; go_ret) | go_ret
                        exact ⟨rfl, hB⟩
end Go.Proofs.Ytnbbbmnjbfehmaa
