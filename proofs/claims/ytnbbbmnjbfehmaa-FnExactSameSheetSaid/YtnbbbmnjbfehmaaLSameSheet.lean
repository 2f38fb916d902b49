/- SameSheet: the law's walk. -/
import Derived.Test.YtnbbbmnjbfehmaaSameSh
import Derived.Deep.RegionHeld3
import Derived.Deep.DeepCutAuto
namespace Go.Proofs.Ytnbbbmnjbfehmaa
open Go.RowKit
theorem szPrintL_c (L : Int) (hL : 0 ≤ L ∧ L ≤ 1048576) (p : Option Addr) (n c : Nat) (hn : n ≤ 9223372036854775807) (w : World) :
    Calls Try.prog 25 #[.slice p n c, .int .i64 L] w fun e w' => e = .returned (.int .i64 (if L < n then -1 else L - n)) ∧ w = w' := by
  obtain ⟨l1, l2⟩ := hL
  by_cases h : L < n
  · have h1 : L - n < 0 := by omega
    rw [if_pos h]
    go_enter Try.func25, Try.ntmps25
    go_wp2
    go_ret
    exact ⟨rfl, rfl⟩
  · have h1 : 0 ≤ L - n := by omega
    rw [if_neg h]
    go_enter Try.func25, Try.ntmps25
    go_wp2
    go_ret
    exact ⟨rfl, rfl⟩
theorem szSheetL_c (L : Int) (hL : 0 ≤ L ∧ L ≤ 1048576) (a : Int) (p : Option Addr) (n c : Nat) (hn : n ≤ 9223372036854775807) (w : World) :
    Calls Try.prog 14 #[.agg #[.int .i8 a, .slice p n c], .int .i64 L] w fun e w' => e = .returned (.int .i64 (if L < n then -1 else L - n)) ∧ Below w.heap.size w w' := by
  have HL := Lib.hid hL
  clear hL
  by_cases h : L < n
  · rw [if_pos h]
    go_enter Try.func14, Try.ntmps14
    go_wp2_with fail
    refine (szPrintL_c L HL.out p n c hn _).mono ?_
    rintro e w1 ⟨rfl, rfl⟩
    rw [if_pos h]
    go_wp2
    go_ret
    exact ⟨rfl, bl1 _ _⟩
  · have h1 : 0 ≤ L - n := by omega
    rw [if_neg h]
    go_enter Try.func14, Try.ntmps14
    go_wp2_with fail
    refine (szPrintL_c L HL.out p n c hn _).mono ?_
    rintro e w1 ⟨rfl, rfl⟩
    rw [if_neg (by omega)]
    go_wp2
    go_ret
    exact ⟨rfl, bl1 _ _⟩
set_option linter.unusedVariables false in
set_option maxHeartbeats 4000000 in
set_option maxRecDepth 100000 in
theorem lawSameSheet_c (a : Int) (ha : -128 ≤ a ∧ a ≤ 127) (p1 : Option Addr) (n1 c1 : Nat) (la : List (List Int)) (hla : Prs la) (hn1 : n1 = la.length) (hz1 : n1 ≤ 9223372036854775807) (b : Int) (hb : -128 ≤ b ∧ b ≤ 127) (p2 : Option Addr) (n2 c2 : Nat) (lb : List (List Int)) (hlb : Prs lb) (hn2 : n2 = lb.length) (hz2 : n2 ≤ 9223372036854775807) (w : World) (hp1 : PS w p1 la) (hp2 : PS w p2 lb) :
    Calls Try.prog 3 #[.agg #[.int .i8 a, .slice p1 n1 c1], .agg #[.int .i8 b, .slice p2 n2 c2]] w fun e w' => e = .returned (.bool true) ∧ Below w.heap.size w w' := by
  have HN1 := Lib.hid hn1
  have HN2 := Lib.hid hn2
  have HA := Lib.hid hla
  have HB := Lib.hid hlb
  have HP1 := Lib.hid hp1
  have HP2 := Lib.hid hp2
  clear hn1 hn2 hla hlb hp1 hp2 ha hb
  have X0 := Lib.hid (al2_0 w (.cells #[.int .i8 a, .slice p1 n1 c1] 25) (.cells #[.int .i8 b, .slice p2 n2 c2] 25))
  have Y0 := Lib.hid (al2_1 w (.cells #[.int .i8 a, .slice p1 n1 c1] 25) (.cells #[.int .i8 b, .slice p2 n2 c2] 25))
  have B0 := Lib.hid (bl2 w (.cells #[.int .i8 a, .slice p1 n1 c1] 25) (.cells #[.int .i8 b, .slice p2 n2 c2] 25))
  by_cases hm1 : (1048576 : Int) < n1
  · go_enter Try.func3, Try.ntmps3
    go_wp2_with fail
    refine (szSheetL_c 1048576 (by omega) a p1 n1 c1 hz1 _).mono ?_
    rintro e w1 ⟨rfl, hb1⟩
    rw [if_pos hm1]
    have B1 := Lib.hid (bt B0.out hb1)
    clear hb1
    go_wp2
    go_ret
    exact ⟨rfl, B1.out⟩
  · have hk1 : 0 ≤ (1048576 : Int) - n1 := by omega
    have hm1' : n1 ≤ 1048576 := by omega
    go_enter Try.func3, Try.ntmps3
    go_wp2_with fail
    refine (szSheetL_c 1048576 (by omega) a p1 n1 c1 hz1 _).mono ?_
    rintro e w1 ⟨rfl, hb1⟩
    rw [if_neg (by omega)]
    have B1 := Lib.hid (bt B0.out hb1)
    have X1 := Lib.hid (heap_below hb1 (lt_of_heap X0.out) X0.out)
    have Y1 := Lib.hid (heap_below hb1 (lt_of_heap Y0.out) Y0.out)
    have y0 := bk2_0 Y1.out
    have y1 := bk2_1 Y1.out
    clear hb1
    by_cases hm2 : (1048576 : Int) - n1 < n2
    · go_wp2_with fail
      refine (szSheetL_c (1048576 - n1) (by omega) b p2 n2 c2 hz2 _).mono ?_
      rintro e w2 ⟨rfl, hb2⟩
      rw [if_pos hm2]
      have B2 := Lib.hid (bt B1.out hb2)
      clear hb2
      go_wp2
      go_ret
      exact ⟨rfl, B2.out⟩
    · have hk2 : 0 ≤ (1048576 : Int) - n1 - n2 := by omega
      have hm2' : n2 ≤ 1048576 := by omega
      go_wp2_with fail
      refine (szSheetL_c (1048576 - n1) (by omega) b p2 n2 c2 hz2 _).mono ?_
      rintro e w2 ⟨rfl, hb2⟩
      rw [if_neg (by omega)]
      have B2 := Lib.hid (bt B1.out hb2)
      have X2 := Lib.hid (heap_below hb2 (lt_of_heap X1.out) X1.out)
      have Y2 := Lib.hid (heap_below hb2 (lt_of_heap Y1.out) Y1.out)
      clear hb2 y0 y1 X1 Y1 B1 X0 Y0 B0
      go_upto_region 8 with fail
      have K : Hid (∀ w', Below w2.heap.size w2 w' → (Below w2.heap.size w2 w' ∧ (w'.cell? ⟨w.heap.size, 0, none⟩ = some (.int .i8 a) ∧ w'.cell? ⟨w.heap.size, 1, none⟩ = some (.slice p1 n1 c1)) ∧ (w'.cell? ⟨w.heap.size + 1, 0, none⟩ = some (.int .i8 b) ∧ w'.cell? ⟨w.heap.size + 1, 1, none⟩ = some (.slice p2 n2 c2)))) := Lib.hid fun w' hb => by
        have b0 := heap_below hb (lt_of_heap X2.out) X2.out
        have b1 := heap_below hb (lt_of_heap Y2.out) Y2.out
        exact ⟨hb, ⟨bk2_0 b0, bk2_1 b0⟩, bk2_0 b1, bk2_1 b1⟩
      go_cut [6] (fun s6 wx => s6 = .bool (ssB a la b lb) ∧ Below w2.heap.size w2 wx)
      case first =>
        have s0 := K.out _ (Below.refl _ _)
        go_region_held3 (fun w' => Below w2.heap.size w2 w' ∧ (w'.cell? ⟨w.heap.size, 0, none⟩ = some (.int .i8 a) ∧ w'.cell? ⟨w.heap.size, 1, none⟩ = some (.slice p1 n1 c1)) ∧ (w'.cell? ⟨w.heap.size + 1, 0, none⟩ = some (.int .i8 b) ∧ w'.cell? ⟨w.heap.size + 1, 1, none⟩ = some (.slice p2 n2 c2)))
          (first | (with_reducible assumption) | exact K.out _ (bl_drew (Below.refl _ _)) | exact K.out _ (bl_drew (‹Below w2.heap.size w2 _ ∧ _›).1))
          (first
            | (go_at_call_of 16 (Value.agg #[.int .i8 a, .slice p1 n1 c1]); refine (toSheet_c a p1 n1 c1 la HA.out HN1.out hm1' _ (PS_below (bt B2.out (‹Below w2.heap.size w2 _ ∧ _›).1) HP1.out)).mono ?_; rintro e w9 ⟨rfl, fA, hb9⟩; have s9 := K.out _ (bt (‹Below w2.heap.size w2 _ ∧ _›).1 hb9); (try have fB := heap_below hb9 (lt_of_heap fB) fB))
            | (go_at_call_of 16 (Value.agg #[.int .i8 b, .slice p2 n2 c2]); refine (toSheet_c b p2 n2 c2 lb HB.out HN2.out hm2' _ (PS_below (bt B2.out (‹Below w2.heap.size w2 _ ∧ _›).1) HP2.out)).mono ?_; rintro e w9 ⟨rfl, fB, hb9⟩; have s9 := K.out _ (bt (‹Below w2.heap.size w2 _ ∧ _›).1 hb9); (try have fA := heap_below hb9 (lt_of_heap fA) fA))
            | (go_at_call 15; refine (specSameSheet_c a _ n1 n1 la HA.out HN1.out b _ n2 n2 lb HB.out HN2.out hm1' hm2' _ (PS_block fA HA.out) (PS_block fB HB.out)).mono ?_; rintro e w8 ⟨rfl, hb8⟩; have s8 := K.out _ (bt (‹Below w2.heap.size w2 _ ∧ _›).1 hb8)))
        all_goals (go_wp2_with fail; go_meet)
        all_goals with_reducible exact ⟨rfl, (‹Below w2.heap.size w2 _ ∧ _›).1⟩
      case rest =>
        obtain ⟨rfl, L1⟩ := hcut
        have X3 := Lib.hid (heap_below L1 (lt_of_heap X2.out) X2.out)
        have Y3 := Lib.hid (heap_below L1 (lt_of_heap Y2.out) Y2.out)
        have B3 := Lib.hid (bt B2.out L1)
        have x0 := bk2_0 X3.out
        have x1 := bk2_1 X3.out
        clear K L1 X2 Y2 B2
        go_wp2_with fail
        refine (toSheet_c a p1 n1 c1 la HA.out HN1.out hm1' _ (PS_below B3.out HP1.out)).mono ?_
        rintro e w4 ⟨rfl, hf4, hb4⟩
        have F4 := Lib.hid hf4
        have B4 := Lib.hid (bt B3.out hb4)
        have X4 := Lib.hid (heap_below hb4 (lt_of_heap X3.out) X3.out)
        have Y4 := Lib.hid (heap_below hb4 (lt_of_heap Y3.out) Y3.out)
        clear hb4 hf4 x0 x1 X3 Y3 B3
        generalize wc.heap.size + 1 + 1 + 1 = g at *
        go_upto_region 10 with fail
        have NB := Lib.hid (bl1 w4 (.cells #[.int .i8 a, .slice (some ⟨g, 0, none⟩) n1 n1] 30))
        have U5 := Lib.hid (al1_0 w4 (.cells #[.int .i8 a, .slice (some ⟨g, 0, none⟩) n1 n1] 30))
        generalize w4.alloc (.cells #[.int .i8 a, .slice (some ⟨g, 0, none⟩) n1 n1] 30) = w5 at *
        have B5 := Lib.hid (bt B4.out NB.out)
        have F5 := Lib.hid (heap_below NB.out (lt_of_heap F4.out) F4.out)
        have X5 := Lib.hid (heap_below NB.out (lt_of_heap X4.out) X4.out)
        have Y5 := Lib.hid (heap_below NB.out (lt_of_heap Y4.out) Y4.out)
        clear NB F4 X4 Y4 B4
        generalize w4.heap.size = g5 at *
        have y0 := bk2_0 Y5.out
        have y1 := bk2_1 Y5.out
        go_wp2_with fail
        refine (toSheet_c b p2 n2 c2 lb HB.out HN2.out hm2' _ (PS_below B5.out HP2.out)).mono ?_
        rintro e w6 ⟨rfl, hf6, hb6⟩
        have G6 := Lib.hid hf6
        have B6 := Lib.hid (bt B5.out hb6)
        have U6 := Lib.hid (heap_below hb6 (lt_of_heap U5.out) U5.out)
        have F6 := Lib.hid (heap_below hb6 (lt_of_heap F5.out) F5.out)
        have X6 := Lib.hid (heap_below hb6 (lt_of_heap X5.out) X5.out)
        have Y6 := Lib.hid (heap_below hb6 (lt_of_heap Y5.out) Y5.out)
        clear hb6 hf6 y0 y1 U5 F5 X5 Y5 B5
        generalize w5.heap.size + 1 + 1 + 1 = h at *
        go_upto_region 11 with fail
        have NB := Lib.hid (bl1 w6 (.cells #[.int .i8 b, .slice (some ⟨h, 0, none⟩) n2 n2] 30))
        have V7 := Lib.hid (al1_0 w6 (.cells #[.int .i8 b, .slice (some ⟨h, 0, none⟩) n2 n2] 30))
        generalize w6.alloc (.cells #[.int .i8 b, .slice (some ⟨h, 0, none⟩) n2 n2] 30) = w7 at *
        have B7 := Lib.hid (bt B6.out NB.out)
        have F7 := Lib.hid (heap_below NB.out (lt_of_heap F6.out) F6.out)
        have G7 := Lib.hid (heap_below NB.out (lt_of_heap G6.out) G6.out)
        have U7 := Lib.hid (heap_below NB.out (lt_of_heap U6.out) U6.out)
        have X7 := Lib.hid (heap_below NB.out (lt_of_heap X6.out) X6.out)
        have Y7 := Lib.hid (heap_below NB.out (lt_of_heap Y6.out) Y6.out)
        clear NB F6 G6 U6 X6 Y6 B6
        generalize w6.heap.size = g7 at *
        have u0 := bk2_0 U7.out
        have u1 := bk2_1 U7.out
        have v0 := bk2_0 V7.out
        have v1 := bk2_1 V7.out
        go_wp2_with fail
        refine (implSameSheet_c a _ n1 n1 la HA.out HN1.out b _ n2 n2 lb HB.out HN2.out hm1' hm2' _ (PS_block F7.out HA.out) (PS_block G7.out HB.out)).mono ?_
        rintro e wz ⟨rfl, hb8⟩
        have BZ := Lib.hid (bt B7.out hb8)
        have F8 := Lib.hid (heap_below hb8 (lt_of_heap F7.out) F7.out)
        have G8 := Lib.hid (heap_below hb8 (lt_of_heap G7.out) G7.out)
        have U8 := Lib.hid (heap_below hb8 (lt_of_heap U7.out) U7.out)
        have V8 := Lib.hid (heap_below hb8 (lt_of_heap V7.out) V7.out)
        have X8 := Lib.hid (heap_below hb8 (lt_of_heap X7.out) X7.out)
        have Y8 := Lib.hid (heap_below hb8 (lt_of_heap Y7.out) Y7.out)
        clear hb8 u0 u1 v0 v1 F7 G7 U7 V7 X7 Y7 B7
        have hself : (ssB a la b lb != ssB a la b lb) = false := by simp
        go_upto_region 14 with fail
        have K : Hid (∀ w', Below wz.heap.size wz w' → (Below wz.heap.size wz w' ∧ (w'.cell? ⟨g5, 0, none⟩ = some (.int .i8 a) ∧ w'.cell? ⟨g5, 1, none⟩ = some (.slice (some ⟨g, 0, none⟩) n1 n1)) ∧ (w'.cell? ⟨w.heap.size, 0, none⟩ = some (.int .i8 a) ∧ w'.cell? ⟨w.heap.size, 1, none⟩ = some (.slice p1 n1 c1)))) := Lib.hid fun w' hb => by
          have b0 := heap_below hb (lt_of_heap U8.out) U8.out
          have b1 := heap_below hb (lt_of_heap X8.out) X8.out
          exact ⟨hb, ⟨bk2_0 b0, bk2_1 b0⟩, bk2_0 b1, bk2_1 b1⟩
        have s0 := K.out _ (Below.refl _ _)
        go_region_held3 (fun w' => Below wz.heap.size wz w' ∧ (w'.cell? ⟨g5, 0, none⟩ = some (.int .i8 a) ∧ w'.cell? ⟨g5, 1, none⟩ = some (.slice (some ⟨g, 0, none⟩) n1 n1)) ∧ (w'.cell? ⟨w.heap.size, 0, none⟩ = some (.int .i8 a) ∧ w'.cell? ⟨w.heap.size, 1, none⟩ = some (.slice p1 n1 c1)))
          (first | (with_reducible assumption) | exact K.out _ (bl_drew (Below.refl _ _)) | exact K.out _ (bl_drew (‹Below wz.heap.size wz _ ∧ _›).1))
          (first
            | (go_at_call 16; refine (toSheet_c a p1 n1 c1 la HA.out HN1.out hm1' _ (PS_below (bt BZ.out (‹Below wz.heap.size wz _ ∧ _›).1) HP1.out)).mono ?_; rintro e w9 ⟨rfl, hf9, hb9⟩; have s9 := K.out _ (bt (‹Below wz.heap.size wz _ ∧ _›).1 hb9))
            | (go_at_call 18; refine (eqSheet_same a g _ n1 n1 n1 la HA.out HN1.out hm1' _ (heap_below (‹Below wz.heap.size wz _ ∧ _›).1 (lt_of_heap F8.out) F8.out) (by assumption)).mono ?_; rintro e w8 ⟨rfl, hb8⟩; have s8 := K.out _ (bt (‹Below wz.heap.size wz _ ∧ _›).1 hb8)))
        go_upto_region 16 with fail
        have L8 := (‹Below wz.heap.size wz _ ∧ _›).1
        have BQ := Lib.hid (bt BZ.out L8)
        have G9 := Lib.hid (heap_below L8 (lt_of_heap G8.out) G8.out)
        have V9 := Lib.hid (heap_below L8 (lt_of_heap V8.out) V8.out)
        have Y9 := Lib.hid (heap_below L8 (lt_of_heap Y8.out) Y8.out)
        clear K L8 hb8 s8 s9 s0 hb9 hf9 F8 G8 U8 V8 X8 Y8 BZ
        rename_i hHeld _ _ _ _ _
        clear hHeld
        generalize w8 = wq at *
        have K : Hid (∀ w', Below wq.heap.size wq w' → (Below wq.heap.size wq w' ∧ (w'.cell? ⟨g7, 0, none⟩ = some (.int .i8 b) ∧ w'.cell? ⟨g7, 1, none⟩ = some (.slice (some ⟨h, 0, none⟩) n2 n2)) ∧ (w'.cell? ⟨w.heap.size + 1, 0, none⟩ = some (.int .i8 b) ∧ w'.cell? ⟨w.heap.size + 1, 1, none⟩ = some (.slice p2 n2 c2)))) := Lib.hid fun w' hb => by
          have b0 := heap_below hb (lt_of_heap V9.out) V9.out
          have b1 := heap_below hb (lt_of_heap Y9.out) Y9.out
          exact ⟨hb, ⟨bk2_0 b0, bk2_1 b0⟩, bk2_0 b1, bk2_1 b1⟩
        have s0 := K.out _ (Below.refl _ _)
        go_region_held3 (fun w' => Below wq.heap.size wq w' ∧ (w'.cell? ⟨g7, 0, none⟩ = some (.int .i8 b) ∧ w'.cell? ⟨g7, 1, none⟩ = some (.slice (some ⟨h, 0, none⟩) n2 n2)) ∧ (w'.cell? ⟨w.heap.size + 1, 0, none⟩ = some (.int .i8 b) ∧ w'.cell? ⟨w.heap.size + 1, 1, none⟩ = some (.slice p2 n2 c2)))
          (first | (with_reducible assumption) | exact K.out _ (bl_drew (Below.refl _ _)) | exact K.out _ (bl_drew (‹Below wq.heap.size wq _ ∧ _›).1))
          (first
            | (go_at_call 16; refine (toSheet_c b p2 n2 c2 lb HB.out HN2.out hm2' _ (PS_below (bt BQ.out (‹Below wq.heap.size wq _ ∧ _›).1) HP2.out)).mono ?_; rintro e w9 ⟨rfl, hf9, hb9⟩; have s9 := K.out _ (bt (‹Below wq.heap.size wq _ ∧ _›).1 hb9))
            | (go_at_call 18; refine (eqSheet_same b h _ n2 n2 n2 lb HB.out HN2.out hm2' _ (heap_below (‹Below wq.heap.size wq _ ∧ _›).1 (lt_of_heap G9.out) G9.out) (by assumption)).mono ?_; rintro e w8 ⟨rfl, hb8⟩; have s8 := K.out _ (bt (‹Below wq.heap.size wq _ ∧ _›).1 hb8)))
        go_wp2_with fail
        go_ret
        exact ⟨rfl, bt BQ.out (‹Below wq.heap.size wq _ ∧ _›).1⟩
end Go.Proofs.Ytnbbbmnjbfehmaa
