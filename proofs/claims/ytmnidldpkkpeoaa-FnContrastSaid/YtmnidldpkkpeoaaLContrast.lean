/- FnContrast: the walk of the law. -/
import Derived.Test.YtmnidldpkkpeoaaDrawn
import Derived.Test.YtmnidldpkkpeoaaBytesApp
import Derived.Test.YtmnidldpkkpeoaaTwo
import Derived.Test.YtmnidldpkkpeoaaZoneOf
namespace Go.Proofs.Ytmnidldpkkpeoaa
open Go.RowKit Go.Lib
theorem infoU8 : (Try.prog.info? 5).map (fun i => (i.zero, i.size, i.bytes)) = some (some (.int .u8 0), 1, 1) := by kernel_rfl
theorem field_some (xs : List Int) (ok : okS xs = true) (a : Int) (a0 : 0 ≤ a) (a1 : a < 16777216) (ha : a ≠ 0) : fieldV xs a = (meanOf (bitOf a) xs, 0) := by
  have : a / 16777216 = 0 := by omega
  simp [fieldV, ok, this, ha]
theorem field_none (xs : List Int) (ok : okS xs = true) : fieldV xs 0 = (0, 4) := by simp [fieldV, ok]
theorem fields_cases (xs : List Int) (ok : okS xs = true) (a b : Int) (a0 : 0 ≤ a) (a1 : a < 16777216) (b0 : 0 ≤ b) (b1 : b < 16777216) :
    ((a = 0 ∨ b = 0) ∧ briV (twoV (fieldV xs a) (fieldV xs b)) = (0, 4) ∧ briV (twoV (fieldV xs b) (fieldV xs a)) = (0, 4) ∧ devV (twoV (fieldV xs a) (fieldV xs b)) = (0, 4)) ∨
    (a ≠ 0 ∧ b ≠ 0 ∧ ∃ x y, fieldV xs a = (x, 0) ∧ fieldV xs b = (y, 0) ∧ 0 ≤ x ∧ x ≤ 60 ∧ 0 ≤ y ∧ y ≤ 60 ∧
      ((y < x ∧ briV (twoV (fieldV xs a) (fieldV xs b)) = (1, 0) ∧ briV (twoV (fieldV xs b) (fieldV xs a)) = (-1, 0) ∧ devV (twoV (fieldV xs a) (fieldV xs b)) = (0, 4)) ∨
       (x < y ∧ briV (twoV (fieldV xs a) (fieldV xs b)) = (-1, 0) ∧ briV (twoV (fieldV xs b) (fieldV xs a)) = (1, 0) ∧ ∃ q, q = (y - x + 1) / 3 ∧ 0 ≤ q ∧ q ≤ 60 ∧ devV (twoV (fieldV xs a) (fieldV xs b)) = (5 - q, 0)) ∨
       (x = y ∧ briV (twoV (fieldV xs a) (fieldV xs b)) = (0, 0) ∧ briV (twoV (fieldV xs b) (fieldV xs a)) = (0, 0) ∧ devV (twoV (fieldV xs a) (fieldV xs b)) = (5, 0)))) := by
  by_cases ha : a = 0
  · subst ha
    refine Or.inl ⟨Or.inl rfl, ?_⟩
    rw [field_none xs ok]
    by_cases hb : b = 0
    · subst hb; rw [field_none xs ok]; exact ⟨rfl, rfl, rfl⟩
    · rw [field_some xs ok b b0 b1 hb]; simp [twoV, briV, devV]
  · by_cases hb : b = 0
    · subst hb
      refine Or.inl ⟨Or.inr rfl, ?_⟩
      rw [field_none xs ok, field_some xs ok a a0 a1 ha]; simp [twoV, briV, devV]
    · have h1 := fieldV_bd xs a ⟨a0, by omega⟩
      have h2 := fieldV_bd xs b ⟨b0, by omega⟩
      refine Or.inr ⟨ha, hb, _, _, field_some xs ok a a0 a1 ha, field_some xs ok b b0 b1 hb, ?_⟩
      rw [field_some xs ok a a0 a1 ha] at h1 ⊢
      rw [field_some xs ok b b0 b1 hb] at h2 ⊢
      simp only at h1 h2
      generalize meanOf (bitOf a) xs = x at *
      generalize meanOf (bitOf b) xs = y at *
      refine ⟨h1.1, h1.2, h2.1, h2.2, ?_⟩
      rcases Int.lt_trichotomy x y with h | h | h
      · refine Or.inr (Or.inl ⟨h, ?_, ?_, _, rfl, by omega, by omega, ?_⟩)
        · simp [twoV, briV, h, show ¬ y < x by omega]
        · simp [twoV, briV, h]
        · simp [twoV, devV, show ¬ y < x by omega]
      · subst h
        refine Or.inr (Or.inr ⟨rfl, ?_, ?_, ?_⟩) <;> simp [twoV, briV, devV]
      · refine Or.inl ⟨h, ?_, ?_, ?_⟩
        · simp [twoV, briV, h]
        · simp [twoV, briV, h, show ¬ x < y by omega]
        · simp [twoV, devV, h]
theorem zone_of (x y q : Int) (x0 : 0 ≤ x) (x1 : x ≤ 60) (y0 : 0 ≤ y) (y1 : y ≤ 60) (hq : q = (y - x + 1) / 3) : zoneOfV x 3 y = .tuple #[.int .i64 (3 + q), .int .i64 0] := by
  have h1 : plB x 3 = true := by simp [plB, (rdB_iff x).2 ⟨x0, x1⟩, znB]
  have h2 : rdB y = true := (rdB_iff y).2 ⟨y0, y1⟩
  simp [zoneOfV, h1, h2, znV, hq]
set_option maxHeartbeats 8000000 in
set_option maxRecDepth 100000 in
theorem contrast_c (v1 : Value) (n1 : Nat) (v2 : Value) (n2 : Nat) (w : World) (h1 : Bytes w v1 n1) (h2 : Bytes w v2 n2) :
    Calls Try.prog 4 #[v1, v2] w fun e w' => e = .returned (.bool true) ∧ Below w.heap.size w w' := by
  obtain ⟨p1, c1, e1, -, -⟩ := bytes_shape h1
  obtain ⟨p2, c2, e2, -, -⟩ := bytes_shape h2
  have H1 := Lib.hid h1
  have H2 := Lib.hid h2
  have CL : Hid (∀ w0 : World, Calls Try.prog 14 #[v1, v2] w0 fun e w' => e = .returned (.bool (decide (3000 < (n1 : Int)) || decide (3000 < (n2 : Int)))) ∧ w0 = w') := Lib.hid fun w0 => a2Long_c v1 v2 n1 n2 p1 p2 c1 c2 e1 e2 w0
  clear h1 h2 e1 e2 p1 c1 p2 c2
  by_cases hl : (decide (3000 < (n1 : Int)) || decide (3000 < (n2 : Int))) = true
  · have HLong := Lib.hid hl
    clear hl
    go_enter Try.func4, Try.ntmps4
    go_wp2_with fail
    refine (CL.out _).mono ?_
    rintro e w' ⟨rfl, rfl⟩
    rw [HLong.out]
    go_wp2
    go_ret
    exact ⟨rfl, Below.refl _ _⟩
  have hl' : (decide (3000 < (n1 : Int)) || decide (3000 < (n2 : Int))) = false := by simpa using hl
  have l1 : n1 ≤ 3000 := by simp at hl'; omega
  have l2 : n2 ≤ 3000 := by simp at hl'; omega
  have HLong := Lib.hid hl'
  clear hl hl'
  go_enter Try.func4, Try.ntmps4
  go_wp2_with fail
  refine (CL.out _).mono ?_
  rintro e w' ⟨rfl, rfl⟩
  rw [HLong.out]
  clear HLong CL
  go_wp2_with fail
  refine (a2Scene_c v1 n1 _ H1.out).mono ?_
  rintro e w1 ⟨xs, rfl, hl, hok, hb1⟩
  have hs : Sc xs := sc_ok hl hok
  have HL := Lib.hid hl
  have HO := Lib.hid hok
  have K0 := Lib.hid (al1_0 w1 (.cells z24a 27))
  have hB := bt hb1 (bl1 w1 (.cells z24a 27))
  have hz : w.heap.size ≤ w1.heap.size := hb1.size
  clear hl hok
  go_wp2_with (rw [z24a_eq]; refine wpList_store_row rfl 27 (.tmp 5) (.tmp 28) rfl _ _ rfl rfl _ _ K0.out (by rw [szScene, arr_size, HL.out]) (by rw [arr_size, HL.out]; rfl) (arr_one _ _) ?_)
  have G0 : Hid (((w1.alloc (.cells z24a 27)).setRow w1.heap.size (arr .i8 xs)).heap[w1.heap.size]? = some (.cells (arr .i8 xs) 27 (0, 0))) := Lib.hid (setRow_heap _ _ _ _ _ _ K0.out)
  have hB2 := below_setRow hB hz (arr .i8 xs)
  clear K0 hB hb1
  generalize (w1.alloc (.cells z24a 27)).setRow w1.heap.size (arr .i8 xs) = w2 at *
  generalize w1.heap.size = gs at *
  have H2b := Lib.hid (bytes_keep H2.out hB2)
  refine (a2Field_c v2 n2 _ H2b.out).mono ?_
  rintro e w3 ⟨a, rfl, a0, a1, hb3⟩
  have G3 := Lib.hid (heap_below hb3 (lt_of_heap G0.out) G0.out)
  have hB3 := bt hB2 hb3
  have H3b := Lib.hid (bytes_keep H2b.out hb3)
  clear G0 hB2 hb3 H2b
  have hB4 := bt hB3 (bl1 w3 (.cells #[.int .u8 3] 5))
  have G4 := Lib.hid (heap_old (.cells #[.int .u8 3] 5) _ (lt_of_heap G3.out) G3.out)
  have H4b := Lib.hid (bytes_keep H3b.out (bl1 w3 (.cells #[.int .u8 3] 5)))
  have R4 := Lib.hid (row_new1 w3 5 .u8 w3.heap.size (Nat.le_refl _) 3)
  have hz4 : w.heap.size ≤ w3.heap.size := hB3.size
  have hz5 : w3.heap.size ≤ (w3.alloc (.cells #[.int .u8 3] 5)).heap.size := by simp
  have hgs3 : gs < w3.heap.size := lt_of_heap G3.out
  clear G3 hB3 H3b
  go_wp2_with (generalize w3.alloc (.cells #[.int .u8 3] 5) = w4 at *; refine wpList_app_bytes rfl (.tmp 31) (.tmp 32) 32 rfl w3.heap.size 5 Try.underlying32 infoU8 _ 3 (by omega) (by omega) rfl R4.out _ n2 rfl H4b.out (by omega) hz5 ?_; intro v5 w5 hb5 hg5 ho5)
  have hB5 := below_app hB4 hg5 hz4 ho5
  have hB45 : Below w3.heap.size w4 w5 := (Below.refl _ _).grown hg5 hz5 ho5
  have hgs : gs < w3.heap.size := hgs3
  have G5 := Lib.hid ((hB45.block gs hgs).trans G4.out)
  clear hB4 hg5 ho5 hB45 R4 G4 H4b hz4 hz5 H1 H2
  refine (a2Field_c v5 (n2 + 1) w5 hb5).mono ?_
  rintro e w6 ⟨b, rfl, b0, b1, hb6⟩
  have G6 := Lib.hid (heap_below hb6 (lt_of_heap G5.out) G5.out)
  have hB6 := bt hB5 hb6
  clear G5 hB5 hb5 hb6 hgs hgs3
  have ua : 0 ≤ a ∧ a ≤ 4294967295 := by omega
  have ub : 0 ≤ b ∧ b ≤ 4294967295 := by omega
  rcases fields_cases xs HO.out a b a0 a1 b0 b1 with ⟨hab, e1, e2, e3⟩ | ⟨ha, hb, x, y, e4, e5, x0, x1, y0, y1, hc⟩
  · have E1 := Lib.hid e1
    have E2 := Lib.hid e2
    have E3 := Lib.hid e3
    clear e1 e2 e3
    have hd : ((a == 0) || (b == 0)) = true := by simpa using hab
    clear hab
    by_cases ha : a = 0
    · subst ha
      go_wp2_with (refine wpList_load_row rfl 27 (.tmp 5) rfl _ rfl _ _ _ _ G6.out Try.underlying27 rfl (by rw [szScene, arr_size, HL.out]) ?_)
      refine (implBrighterField_c xs hs _ _ ua ub _).mono ?_
      rintro e w7 ⟨rfl, hb7⟩
      rw [E1.out]
      have G7 := Lib.hid (heap_below hb7 (lt_of_heap G6.out) G6.out)
      have hB7 := bt hB6 hb7
      clear G6 hB6 hb7
      go_wp2_with (refine wpList_load_row rfl 27 (.tmp 5) rfl _ rfl _ _ _ _ G7.out Try.underlying27 rfl (by rw [szScene, arr_size, HL.out]) ?_)
      refine (specBrighterField_c xs hs _ _ ua ub _).mono ?_
      rintro e w8 ⟨rfl, hb8⟩
      rw [E1.out]
      have G8 := Lib.hid (heap_below hb8 (lt_of_heap G7.out) G7.out)
      have hB8 := bt hB7 hb8
      clear G7 hB7 hb8
      go_wp2_with (refine wpList_load_row rfl 27 (.tmp 5) rfl _ rfl _ _ _ _ G8.out Try.underlying27 rfl (by rw [szScene, arr_size, HL.out]) ?_)
      refine (implBrighterField_c xs hs _ _ ub ua _).mono ?_
      rintro e w9 ⟨rfl, hb9⟩
      rw [E2.out]
      have G9 := Lib.hid (heap_below hb9 (lt_of_heap G8.out) G8.out)
      have hB9 := bt hB8 hb9
      clear G8 hB8 hb9
      go_wp2_with (refine wpList_load_row rfl 27 (.tmp 5) rfl _ rfl _ _ _ _ G9.out Try.underlying27 rfl (by rw [szScene, arr_size, HL.out]) ?_)
      refine (implDevelopBy_c xs hs _ _ ua ub _).mono ?_
      rintro e w10 ⟨rfl, hb10⟩
      rw [E3.out]
      have G10 := Lib.hid (heap_below hb10 (lt_of_heap G9.out) G9.out)
      have hB10 := bt hB9 hb10
      clear G9 hB9 hb10
      go_wp2_with (refine wpList_load_row rfl 27 (.tmp 5) rfl _ rfl _ _ _ _ G10.out Try.underlying27 rfl (by rw [szScene, arr_size, HL.out]) ?_)
      refine (specDevelopBy_c xs hs _ _ ua ub _).mono ?_
      rintro e w11 ⟨rfl, hb11⟩
      rw [E3.out]
      have G11 := Lib.hid (heap_below hb11 (lt_of_heap G10.out) G10.out)
      have hB11 := bt hB10 hb11
      clear G10 hB10 hb11
      go_wp2
      go_ret
      exact ⟨rfl, hB11⟩
    · have hb : b = 0 := by simpa [ha] using hd
      subst hb
      have ha' : (a == 0) = false := by simpa using ha
      clear ha hd
      go_wp2_with (refine wpList_load_row rfl 27 (.tmp 5) rfl _ rfl _ _ _ _ G6.out Try.underlying27 rfl (by rw [szScene, arr_size, HL.out]) ?_)
      refine (implBrighterField_c xs hs _ _ ua ub _).mono ?_
      rintro e w7 ⟨rfl, hb7⟩
      rw [E1.out]
      have G7 := Lib.hid (heap_below hb7 (lt_of_heap G6.out) G6.out)
      have hB7 := bt hB6 hb7
      clear G6 hB6 hb7
      go_wp2_with (refine wpList_load_row rfl 27 (.tmp 5) rfl _ rfl _ _ _ _ G7.out Try.underlying27 rfl (by rw [szScene, arr_size, HL.out]) ?_)
      refine (specBrighterField_c xs hs _ _ ua ub _).mono ?_
      rintro e w8 ⟨rfl, hb8⟩
      rw [E1.out]
      have G8 := Lib.hid (heap_below hb8 (lt_of_heap G7.out) G7.out)
      have hB8 := bt hB7 hb8
      clear G7 hB7 hb8
      go_wp2_with (refine wpList_load_row rfl 27 (.tmp 5) rfl _ rfl _ _ _ _ G8.out Try.underlying27 rfl (by rw [szScene, arr_size, HL.out]) ?_)
      refine (implBrighterField_c xs hs _ _ ub ua _).mono ?_
      rintro e w9 ⟨rfl, hb9⟩
      rw [E2.out]
      have G9 := Lib.hid (heap_below hb9 (lt_of_heap G8.out) G8.out)
      have hB9 := bt hB8 hb9
      clear G8 hB8 hb9
      go_wp2_with (refine wpList_load_row rfl 27 (.tmp 5) rfl _ rfl _ _ _ _ G9.out Try.underlying27 rfl (by rw [szScene, arr_size, HL.out]) ?_)
      refine (implDevelopBy_c xs hs _ _ ua ub _).mono ?_
      rintro e w10 ⟨rfl, hb10⟩
      rw [E3.out]
      have G10 := Lib.hid (heap_below hb10 (lt_of_heap G9.out) G9.out)
      have hB10 := bt hB9 hb10
      clear G9 hB9 hb10
      go_wp2_with (refine wpList_load_row rfl 27 (.tmp 5) rfl _ rfl _ _ _ _ G10.out Try.underlying27 rfl (by rw [szScene, arr_size, HL.out]) ?_)
      refine (specDevelopBy_c xs hs _ _ ua ub _).mono ?_
      rintro e w11 ⟨rfl, hb11⟩
      rw [E3.out]
      have G11 := Lib.hid (heap_below hb11 (lt_of_heap G10.out) G10.out)
      have hB11 := bt hB10 hb11
      clear G10 hB10 hb11
      go_wp2
      go_ret
      exact ⟨rfl, hB11⟩
  · have E4 := Lib.hid e4
    have E5 := Lib.hid e5
    have ha' : (a == 0) = false := by simpa using ha
    have hb' : (b == 0) = false := by simpa using hb
    clear e4 e5 ha hb
    rcases hc with ⟨hxy, e1, e2, e3⟩ | ⟨hxy, e1, e2, q, hq, q0, q1, e3⟩ | ⟨hxy, e1, e2, e3⟩
    · have hyx : ¬ x < y := by omega
      have hm1 : IntKind.i64.wrap (-(1 : Int)) = -1 := rfl
      have E1 := Lib.hid e1
      have E2 := Lib.hid e2
      have E3 := Lib.hid e3
      clear e1 e2 e3
      go_wp2_with (refine wpList_load_row rfl 27 (.tmp 5) rfl _ rfl _ _ _ _ G6.out Try.underlying27 rfl (by rw [szScene, arr_size, HL.out]) ?_)
      refine (implBrighterField_c xs hs _ _ ua ub _).mono ?_
      rintro e w7 ⟨rfl, hb7⟩
      rw [E1.out]
      have G7 := Lib.hid (heap_below hb7 (lt_of_heap G6.out) G6.out)
      have hB7 := bt hB6 hb7
      clear G6 hB6 hb7
      go_wp2_with (refine wpList_load_row rfl 27 (.tmp 5) rfl _ rfl _ _ _ _ G7.out Try.underlying27 rfl (by rw [szScene, arr_size, HL.out]) ?_)
      refine (specBrighterField_c xs hs _ _ ua ub _).mono ?_
      rintro e w8 ⟨rfl, hb8⟩
      rw [E1.out]
      have G8 := Lib.hid (heap_below hb8 (lt_of_heap G7.out) G7.out)
      have hB8 := bt hB7 hb8
      clear G7 hB7 hb8
      go_wp2_with (refine wpList_load_row rfl 27 (.tmp 5) rfl _ rfl _ _ _ _ G8.out Try.underlying27 rfl (by rw [szScene, arr_size, HL.out]) ?_)
      refine (implBrighterField_c xs hs _ _ ub ua _).mono ?_
      rintro e w9 ⟨rfl, hb9⟩
      rw [E2.out]
      have G9 := Lib.hid (heap_below hb9 (lt_of_heap G8.out) G8.out)
      have hB9 := bt hB8 hb9
      clear G8 hB8 hb9
      go_wp2_with (refine wpList_load_row rfl 27 (.tmp 5) rfl _ rfl _ _ _ _ G9.out Try.underlying27 rfl (by rw [szScene, arr_size, HL.out]) ?_)
      refine (implDevelopBy_c xs hs _ _ ua ub _).mono ?_
      rintro e w10 ⟨rfl, hb10⟩
      rw [E3.out]
      have G10 := Lib.hid (heap_below hb10 (lt_of_heap G9.out) G9.out)
      have hB10 := bt hB9 hb10
      clear G9 hB9 hb10
      go_wp2_with (refine wpList_load_row rfl 27 (.tmp 5) rfl _ rfl _ _ _ _ G10.out Try.underlying27 rfl (by rw [szScene, arr_size, HL.out]) ?_)
      refine (specDevelopBy_c xs hs _ _ ua ub _).mono ?_
      rintro e w11 ⟨rfl, hb11⟩
      rw [E3.out]
      have G11 := Lib.hid (heap_below hb11 (lt_of_heap G10.out) G10.out)
      have hB11 := bt hB10 hb11
      clear G10 hB10 hb11
      go_wp2_with (refine wpList_load_row rfl 27 (.tmp 5) rfl _ rfl _ _ _ _ G11.out Try.underlying27 rfl (by rw [szScene, arr_size, HL.out]) ?_)
      refine (specFieldMean_c xs hs _ ua _).mono ?_
      rintro e w12 ⟨rfl, hb12⟩
      rw [E4.out]
      have G12 := Lib.hid (heap_below hb12 (lt_of_heap G11.out) G11.out)
      have hB12 := bt hB11 hb12
      clear G11 hB11 hb12
      go_wp2_with (refine wpList_load_row rfl 27 (.tmp 5) rfl _ rfl _ _ _ _ G12.out Try.underlying27 rfl (by rw [szScene, arr_size, HL.out]) ?_)
      refine (specFieldMean_c xs hs _ ub _).mono ?_
      rintro e w13 ⟨rfl, hb13⟩
      rw [E5.out]
      have G13 := Lib.hid (heap_below hb13 (lt_of_heap G12.out) G12.out)
      have hB13 := bt hB12 hb13
      clear G12 hB12 hb13
      go_wp2
      go_ret
      exact ⟨rfl, hB13⟩
    · have hyx : ¬ y < x := by omega
      have hm1 : IntKind.i64.wrap (-(-1 : Int)) = 1 := rfl
      have hwx := Go.IntWalk.i8_in x (by omega)
      have E6 : Hid (zoneOfV x 3 y = .tuple #[.int .i64 (3 + q), .int .i64 0]) := Lib.hid (zone_of x y q x0 x1 y0 y1 hq)
      have hw8 : IntKind.i64.wrap (8 - (3 + q)) = 5 - q := by rw [Go.IntWalk.i64_in _ (by omega)]; omega
      clear hq
      have E1 := Lib.hid e1
      have E2 := Lib.hid e2
      have E3 := Lib.hid e3
      clear e1 e2 e3
      go_wp2_with (refine wpList_load_row rfl 27 (.tmp 5) rfl _ rfl _ _ _ _ G6.out Try.underlying27 rfl (by rw [szScene, arr_size, HL.out]) ?_)
      refine (implBrighterField_c xs hs _ _ ua ub _).mono ?_
      rintro e w7 ⟨rfl, hb7⟩
      rw [E1.out]
      have G7 := Lib.hid (heap_below hb7 (lt_of_heap G6.out) G6.out)
      have hB7 := bt hB6 hb7
      clear G6 hB6 hb7
      go_wp2_with (refine wpList_load_row rfl 27 (.tmp 5) rfl _ rfl _ _ _ _ G7.out Try.underlying27 rfl (by rw [szScene, arr_size, HL.out]) ?_)
      refine (specBrighterField_c xs hs _ _ ua ub _).mono ?_
      rintro e w8 ⟨rfl, hb8⟩
      rw [E1.out]
      have G8 := Lib.hid (heap_below hb8 (lt_of_heap G7.out) G7.out)
      have hB8 := bt hB7 hb8
      clear G7 hB7 hb8
      go_wp2_with (refine wpList_load_row rfl 27 (.tmp 5) rfl _ rfl _ _ _ _ G8.out Try.underlying27 rfl (by rw [szScene, arr_size, HL.out]) ?_)
      refine (implBrighterField_c xs hs _ _ ub ua _).mono ?_
      rintro e w9 ⟨rfl, hb9⟩
      rw [E2.out]
      have G9 := Lib.hid (heap_below hb9 (lt_of_heap G8.out) G8.out)
      have hB9 := bt hB8 hb9
      clear G8 hB8 hb9
      go_wp2_with (refine wpList_load_row rfl 27 (.tmp 5) rfl _ rfl _ _ _ _ G9.out Try.underlying27 rfl (by rw [szScene, arr_size, HL.out]) ?_)
      refine (implDevelopBy_c xs hs _ _ ua ub _).mono ?_
      rintro e w10 ⟨rfl, hb10⟩
      rw [E3.out]
      have G10 := Lib.hid (heap_below hb10 (lt_of_heap G9.out) G9.out)
      have hB10 := bt hB9 hb10
      clear G9 hB9 hb10
      go_wp2_with (refine wpList_load_row rfl 27 (.tmp 5) rfl _ rfl _ _ _ _ G10.out Try.underlying27 rfl (by rw [szScene, arr_size, HL.out]) ?_)
      refine (specDevelopBy_c xs hs _ _ ua ub _).mono ?_
      rintro e w11 ⟨rfl, hb11⟩
      rw [E3.out]
      have G11 := Lib.hid (heap_below hb11 (lt_of_heap G10.out) G10.out)
      have hB11 := bt hB10 hb11
      clear G10 hB10 hb11
      go_wp2_with (refine wpList_load_row rfl 27 (.tmp 5) rfl _ rfl _ _ _ _ G11.out Try.underlying27 rfl (by rw [szScene, arr_size, HL.out]) ?_)
      refine (specFieldMean_c xs hs _ ua _).mono ?_
      rintro e w12 ⟨rfl, hb12⟩
      rw [E4.out]
      have G12 := Lib.hid (heap_below hb12 (lt_of_heap G11.out) G11.out)
      have hB12 := bt hB11 hb12
      clear G11 hB11 hb12
      go_wp2_with (refine wpList_load_row rfl 27 (.tmp 5) rfl _ rfl _ _ _ _ G12.out Try.underlying27 rfl (by rw [szScene, arr_size, HL.out]) ?_)
      refine (specFieldMean_c xs hs _ ub _).mono ?_
      rintro e w13 ⟨rfl, hb13⟩
      rw [E5.out]
      have G13 := Lib.hid (heap_below hb13 (lt_of_heap G12.out) G12.out)
      have hB13 := bt hB12 hb13
      clear G12 hB12 hb13
      go_wp2_with fail
      refine (implZoneOf_c x 3 y (by omega) (by omega) _).mono ?_
      rintro e w14 ⟨rfl, hb14⟩
      rw [E6.out]
      have hB14 := bt hB13 hb14
      clear hb14 hB13
      go_wp2
      go_ret
      exact ⟨rfl, hB14⟩
    · subst hxy
      have hwx := Go.IntWalk.i8_in x (by omega)
      have E6 : Hid (zoneOfV x 3 x = .tuple #[.int .i64 (3 + 0), .int .i64 0]) := Lib.hid (zone_of x x 0 x0 x1 y0 y1 (by omega))
      have E1 := Lib.hid e1
      have E2 := Lib.hid e2
      have E3 := Lib.hid e3
      clear e1 e2 e3
      go_wp2_with (refine wpList_load_row rfl 27 (.tmp 5) rfl _ rfl _ _ _ _ G6.out Try.underlying27 rfl (by rw [szScene, arr_size, HL.out]) ?_)
      refine (implBrighterField_c xs hs _ _ ua ub _).mono ?_
      rintro e w7 ⟨rfl, hb7⟩
      rw [E1.out]
      have G7 := Lib.hid (heap_below hb7 (lt_of_heap G6.out) G6.out)
      have hB7 := bt hB6 hb7
      clear G6 hB6 hb7
      go_wp2_with (refine wpList_load_row rfl 27 (.tmp 5) rfl _ rfl _ _ _ _ G7.out Try.underlying27 rfl (by rw [szScene, arr_size, HL.out]) ?_)
      refine (specBrighterField_c xs hs _ _ ua ub _).mono ?_
      rintro e w8 ⟨rfl, hb8⟩
      rw [E1.out]
      have G8 := Lib.hid (heap_below hb8 (lt_of_heap G7.out) G7.out)
      have hB8 := bt hB7 hb8
      clear G7 hB7 hb8
      go_wp2_with (refine wpList_load_row rfl 27 (.tmp 5) rfl _ rfl _ _ _ _ G8.out Try.underlying27 rfl (by rw [szScene, arr_size, HL.out]) ?_)
      refine (implBrighterField_c xs hs _ _ ub ua _).mono ?_
      rintro e w9 ⟨rfl, hb9⟩
      rw [E2.out]
      have G9 := Lib.hid (heap_below hb9 (lt_of_heap G8.out) G8.out)
      have hB9 := bt hB8 hb9
      clear G8 hB8 hb9
      go_wp2_with (refine wpList_load_row rfl 27 (.tmp 5) rfl _ rfl _ _ _ _ G9.out Try.underlying27 rfl (by rw [szScene, arr_size, HL.out]) ?_)
      refine (implDevelopBy_c xs hs _ _ ua ub _).mono ?_
      rintro e w10 ⟨rfl, hb10⟩
      rw [E3.out]
      have G10 := Lib.hid (heap_below hb10 (lt_of_heap G9.out) G9.out)
      have hB10 := bt hB9 hb10
      clear G9 hB9 hb10
      go_wp2_with (refine wpList_load_row rfl 27 (.tmp 5) rfl _ rfl _ _ _ _ G10.out Try.underlying27 rfl (by rw [szScene, arr_size, HL.out]) ?_)
      refine (specDevelopBy_c xs hs _ _ ua ub _).mono ?_
      rintro e w11 ⟨rfl, hb11⟩
      rw [E3.out]
      have G11 := Lib.hid (heap_below hb11 (lt_of_heap G10.out) G10.out)
      have hB11 := bt hB10 hb11
      clear G10 hB10 hb11
      go_wp2_with (refine wpList_load_row rfl 27 (.tmp 5) rfl _ rfl _ _ _ _ G11.out Try.underlying27 rfl (by rw [szScene, arr_size, HL.out]) ?_)
      refine (specFieldMean_c xs hs _ ua _).mono ?_
      rintro e w12 ⟨rfl, hb12⟩
      rw [E4.out]
      have G12 := Lib.hid (heap_below hb12 (lt_of_heap G11.out) G11.out)
      have hB12 := bt hB11 hb12
      clear G11 hB11 hb12
      go_wp2_with (refine wpList_load_row rfl 27 (.tmp 5) rfl _ rfl _ _ _ _ G12.out Try.underlying27 rfl (by rw [szScene, arr_size, HL.out]) ?_)
      refine (specFieldMean_c xs hs _ ub _).mono ?_
      rintro e w13 ⟨rfl, hb13⟩
      rw [E5.out]
      have G13 := Lib.hid (heap_below hb13 (lt_of_heap G12.out) G12.out)
      have hB13 := bt hB12 hb13
      clear G12 hB12 hb13
      go_wp2_with fail
      refine (implZoneOf_c x 3 x (by omega) (by omega) _).mono ?_
      rintro e w14 ⟨rfl, hb14⟩
      rw [E6.out]
      have hB14 := bt hB13 hb14
      clear hb14 hB13
      go_wp2
      go_ret
      exact ⟨rfl, hB14⟩
end Go.Proofs.Ytmnidldpkkpeoaa
