/- FnZones: the walk of the law. -/
import Derived.Test.YtmnidldpkkpeoaaDrawn
import Derived.Test.YtmnidldpkkpeoaaZoneOf
import Derived.Test.YtmnidldpkkpeoaaZonesOf
import Derived.Test.YtmnidldpkkpeoaaCount
import Derived.Test.YtmnidldpkkpeoaaPlaceFor
import Derived.Test.YtmnidldpkkpeoaaBest
import Derived.Test.YtmnidldpkkpeoaaSamePl
import Derived.Test.YtmnidldpkkpeoaaExpThirds
import Derived.Test.YtmnidldpkkpeoaaSetFor
import Derived.Test.YtmnidldpkkpeoaaEvery
import Derived.Test.YtmnidldpkkpeoaaPrs
import Derived.Test.YtmnidldpkkpeoaaRowW
import Derived.Test.YtmnidldpkkpeoaaVarQ
import Derived.Test.YtmnidldpkkpeoaaZonesP
import Derived.Test.YtmnidldpkkpeoaaA2At
import Derived.Test.YtmnidldpkkpeoaaSetForL
namespace Go.Proofs.Ytmnidldpkkpeoaa
open Go.RowKit Go.Lib
theorem bst2 {w0 w w2 : World} (h : Below w0.heap.size w0 w) (k : Below w0.heap.size w0 w2) (a b : Value) : Below w0.heap.size w0 ((w.setCell ⟨w2.heap.size, 0, none⟩ a).setCell ⟨w2.heap.size, 1, none⟩ b) := below2 h k.size a b
theorem szI8 : (Try.prog.info? 22).map (·.size) = some 1 := by kernel_rfl
theorem szI64 : (Try.prog.info? 2).map (·.size) = some 1 := by kernel_rfl
theorem neqA24 (xs : List Int) (h : xs.length = 24) (w : World) : (binOp .neq 23 (.agg (arr .i8 xs)) (.agg (arr .i8 xs))).run Try.prog w = .ok (.bool false) w := by
  have := run_neq_arr 23 22 24 .i8 xs xs Try.underlying23 Try.underlying22 szI8 h h w
  simpa using this
theorem neqA11 (xs : List Int) (h : xs.length = 11) (w : World) : (binOp .neq 46 (.agg (arr .i64 xs)) (.agg (arr .i64 xs))).run Try.prog w = .ok (.bool false) w := by
  have := run_neq_arr 46 2 11 .i64 xs xs Try.underlying46 Try.underlying2 szI64 h h w
  simpa using this
/-- The same placing by another zone. -/
structure SameCalls (xs Z : List Int) (r z q x y kc : Int) : Prop where
  sameI : ∀ w, Calls Try.prog 31 #[.agg #[.int .i8 r, .int .i8 z], .int .i64 q] w fun e w' => e = .returned (.tuple #[.agg #[.int .i8 x, .int .i8 y], .int .i64 kc]) ∧ Below w.heap.size w w'
  sameS : ∀ w, Calls Try.prog 33 #[.agg #[.int .i8 r, .int .i8 z], .int .i64 q] w fun e w' => e = .returned (.tuple #[.agg #[.int .i8 x, .int .i8 y], .int .i64 kc]) ∧ Below w.heap.size w w'
  code : (kc = 0 ∧ ∀ w, Calls Try.prog 24 #[.agg (arr .i8 xs), .agg #[.int .i8 x, .int .i8 y]] w fun e w' => e = .returned (.tuple #[.agg (arr .i8 Z), .int .i64 0]) ∧ Below w.heap.size w w') ∨ kc = 6
/-- The setting for a placement. -/
structure SetCalls (r z a b c th m1 m2 m3 kk : Int) : Prop where
  exp : ∀ w, Calls Try.prog 35 #[.agg #[.int .i8 r, .int .i8 z]] w fun e w' => e = .returned (.tuple #[.int .i64 th, .int .i64 0]) ∧ Below w.heap.size w w'
  setFor : ∀ w, Calls Try.prog 36 #[.agg #[.int .i8 a, .int .i8 b, .int .i8 c], .int .i64 r, .agg #[.int .i8 r, .int .i8 z]] w fun e w' => e = .returned (.tuple #[.agg #[.int .i8 m1, .int .i8 m2, .int .i8 m3], .int .i64 kk]) ∧ Below w.heap.size w w'
  more : ∀ w, Calls Try.prog 37 #[.agg #[.int .i8 a, .int .i8 b, .int .i8 c], .int .i64 th] w fun e w' => e = .returned (.tuple #[.agg #[.int .i8 m1, .int .i8 m2, .int .i8 m3], .int .i64 kk]) ∧ Below w.heap.size w w'
  eth : th = 3 * z - 15
/-- What is said of the best placement. -/
structure BestCalls (xs : List Int) (bR : Int) (few : Nat) : Prop where
  bestI : ∀ w, Calls Try.prog 29 #[.agg (arr .i8 xs)] w fun e w' => e = .returned (.tuple #[.agg #[.int .i8 bR, .int .i8 5], .int .i64 few, .int .i64 0]) ∧ Below w.heap.size w w'
  bestS : ∀ w, Calls Try.prog 30 #[.agg (arr .i8 xs)] w fun e w' => e = .returned (.tuple #[.agg #[.int .i8 bR, .int .i8 5], .int .i64 few, .int .i64 0]) ∧ Below w.heap.size w w'
  b0 : 0 ≤ bR
  b1 : bR ≤ 60
  f1 : few ≤ 48
  each : ∀ k : Nat, k ≤ 60 → ∃ (C : List Int) (nb na : Nat), C.length = 11 ∧ nb ≤ 24 ∧ na ≤ 24 ∧ few ≤ nb + na ∧ (nb + na = few → bR ≤ k) ∧
    ∀ w, Calls Try.prog 26 #[.agg (arr .i8 xs), .agg #[.int .i8 k, .int .i8 5]] w fun e w' => e = .returned (.tuple #[.agg (arr .i64 C), .int .i64 nb, .int .i64 na, .int .i64 0]) ∧ Below w.heap.size w w'
/-- What the functions that the law calls return. -/
structure ZoneCalls (xs Z C : List Int) (r z : Int) (nb na lo hi : Nat) : Prop where
  zoneOf : ∀ w, Calls Try.prog 22 #[.agg #[.int .i8 r, .int .i8 z], .int .i64 r] w fun e w' => e = .returned (.tuple #[.int .i64 z, .int .i64 0]) ∧ Below w.heap.size w w'
  zoneAt : ∀ R, 0 ≤ R → R ≤ 60 → ∀ w, Calls Try.prog 22 #[.agg #[.int .i8 r, .int .i8 z], .int .i64 R] w fun e w' => e = .returned (.tuple #[.int .i64 (znV r z R), .int .i64 0]) ∧ Below w.heap.size w w'
  zonesI : ∀ w, Calls Try.prog 24 #[.agg (arr .i8 xs), .agg #[.int .i8 r, .int .i8 z]] w fun e w' => e = .returned (.tuple #[.agg (arr .i8 Z), .int .i64 0]) ∧ Below w.heap.size w w'
  zonesS : ∀ w, Calls Try.prog 25 #[.agg (arr .i8 xs), .agg #[.int .i8 r, .int .i8 z]] w fun e w' => e = .returned (.tuple #[.agg (arr .i8 Z), .int .i64 0]) ∧ Below w.heap.size w w'
  count : ∀ w, Calls Try.prog 26 #[.agg (arr .i8 xs), .agg #[.int .i8 r, .int .i8 z]] w fun e w' => e = .returned (.tuple #[.agg (arr .i64 C), .int .i64 nb, .int .i64 na, .int .i64 0]) ∧ Below w.heap.size w w'
  off : ∀ w, Calls Try.prog 27 #[.agg (arr .i8 xs), .agg #[.int .i8 r, .int .i8 z]] w fun e w' => e = .returned (.tuple #[.int .u32 lo, .int .u32 hi, .int .i64 0]) ∧ Below w.heap.size w w'
  eZ : Z = zonesL xs r z
  eC : C = czL xs r z 24
  eb : nb = howMany (lowP xs r z) 24
  ea : na = howMany (highP xs r z) 24
  elo : lo = maskOf (lowP xs r z) 24
  ehi : hi = maskOf (highP xs r z) 24
  lenZ : Z.length = 24
  lenC : C.length = 11
  bit : bits .and .u32 (lo : Int) (hi : Int) = 0
  place : ∀ w, Calls Try.prog 28 #[.int .i64 r, .int .i64 z] w fun e w' => e = .returned (.tuple #[.agg #[.int .i8 r, .int .i8 z], .int .i64 0]) ∧ Below w.heap.size w w'
theorem best_calls (xs : List Int) (hs : Sc xs) (ok : okS xs = true) : ∃ bR few, BestCalls xs bR few := by
  obtain ⟨b, hb, he, hl⟩ := bst_least xs 61 (by omega)
  have ev : bestV xs = (((b : Int), 5, (offN xs b : Int)), 0) := by simp [bestV, ok, he]
  refine ⟨b, offN xs b, ⟨fun w => ?_, fun w => ?_, by omega, by omega, offN_le xs b, fun k hk => ?_⟩⟩
  · have := implBest_c xs hs w; rwa [ev] at this
  · have := specBest_c xs hs w; rwa [ev] at this
  · have hp : Pl (k : Int) 5 := ⟨⟨by omega, by omega⟩, by omega, by omega⟩
    obtain ⟨hr, hz⟩ := pl_bd hp
    have e : czV xs k 5 = (czL xs k 5 24, howMany (lowP xs k 5) 24, howMany (highP xs k 5) 24, 0) := by simp [czV, both_ok xs ok _ _ hp]
    refine ⟨czL xs k 5 24, howMany (lowP xs k 5) 24, howMany (highP xs k 5) 24, czL_len _ _ _ _, howMany_le _ _, howMany_le _ _, (hl k (by omega)).1, fun h => by have := (hl k (by omega)).2 h; omega, fun w => ?_⟩
    have := implCountZones_c xs hs k 5 hr hz w
    rwa [e] at this
theorem mask_bit (p : Nat → Bool) (k : Nat) (h : k < 24) : ((maskOf p 24 : Nat) : Int) / 2 ^ k = ((maskOf p 24 / 2 ^ k : Nat) : Int) ∧ (((maskOf p 24 : Nat) : Int) / 2 ^ k).tmod 2 = if p k then 1 else 0 := by
  have e : ((maskOf p 24 : Nat) : Int) / 2 ^ k = ((maskOf p 24 / 2 ^ k : Nat) : Int) := by simp
  refine ⟨e, ?_⟩
  have hb := maskOf_bit p 24 k
  rw [Nat.testBit_eq_decide_div_mod_eq] at hb
  rw [e]
  have hm : ∀ m : Nat, (m : Int).tmod 2 = ((m % 2 : Nat) : Int) := fun m => by rw [Int.tmod_eq_emod_of_nonneg (by omega)]; omega
  rw [hm]
  cases hp : p k
  · simp [hp] at hb; simp; omega
  · simp [hp, h] at hb; simp [hb]
theorem zone_calls (xs : List Int) (hs : Sc xs) (ok : okS xs = true) (r z : Int) (r0 : 0 ≤ r) (r1 : r ≤ 60) (z0 : 0 ≤ z) (z1 : z ≤ 10) : ∃ Z C nb na lo hi, ZoneCalls xs Z C r z nb na lo hi := by
  have hp : Pl r z := ⟨⟨r0, r1⟩, z0, z1⟩
  obtain ⟨hr, hz⟩ := pl_bd hp
  have hb := both_ok xs ok r z hp
  have hzo : znV r z r = z := by unfold znV; omega
  refine ⟨zonesL xs r z, czL xs r z 24, howMany (lowP xs r z) 24, howMany (highP xs r z) 24, maskOf (lowP xs r z) 24, maskOf (highP xs r z) 24, ?_⟩
  refine { zoneOf := fun w => ?_, zoneAt := fun R h0 h1 w => ?_, zonesI := fun w => ?_, zonesS := fun w => ?_, count := fun w => ?_, off := fun w => ?_, eZ := rfl, eC := rfl, eb := rfl, ea := rfl, elo := rfl, ehi := rfl, lenZ := by rw [zonesL_len, hs.1], lenC := czL_len xs r z 24, bit := off_bit xs r z, place := fun w => ?_ }
  · have := implZoneOf_c r z r hr hz w
    rwa [zoneOf_ok r z r hp ⟨r0, r1⟩, hzo] at this
  · have := implZoneOf_c r z R hr hz w
    rwa [zoneOf_ok r z R hp ⟨h0, h1⟩] at this
  · have := implZonesOf_c xs hs r z hr hz w
    have e : znsV xs r z = (zonesL xs r z, 0) := by simp [znsV, hb]
    rwa [e] at this
  · have := specZonesOf_c xs hs r z hr hz w
    have e : znsV xs r z = (zonesL xs r z, 0) := by simp [znsV, hb]
    rwa [e] at this
  · have := implCountZones_c xs hs r z hr hz w
    have e : czV xs r z = (czL xs r z 24, howMany (lowP xs r z) 24, howMany (highP xs r z) 24, 0) := by simp [czV, hb]
    rwa [e] at this
  · have := implOffScale_c xs hs r z hr hz w
    have e : offV xs r z = (maskOf (lowP xs r z) 24, maskOf (highP xs r z) 24, 0) := by simp [offV, hb]
    rwa [e] at this
  · have := implPlaceFor_c r z w
    have e : pfV r z = .tuple #[.agg #[.int .i8 r, .int .i8 z], .int .i64 0] := by simp [pfV, pfA, (plB_iff r z).2 hp]
    rwa [e] at this
theorem same_calls (xs : List Int) (hs : Sc xs) (ok : okS xs = true) (r z q : Int) (r0 : 0 ≤ r) (r1 : r ≤ 60) (z0 : 0 ≤ z) (z1 : z ≤ 10) (q0 : 0 ≤ q) (q1 : q < 11) : ∃ x y kc, SameCalls xs (zonesL xs r z) r z q x y kc := by
  have hp : Pl r z := ⟨⟨r0, r1⟩, z0, z1⟩
  obtain ⟨hr, hz⟩ := pl_bd hp
  have hz2 : znB q = true := (znB_iff q).2 ⟨q0, by omega⟩
  by_cases h : rdB (r + 3 * (q - z)) = true
  · have e : plcV (samV r z q) = .tuple #[.agg #[.int .i8 (r + 3 * (q - z)), .int .i8 q], .int .i64 0] := by simp [plcV, samV, (plB_iff r z).2 hp, hz2, h]
    have hx := (rdB_iff _).1 h
    have hp2 : Pl (r + 3 * (q - z)) q := ⟨hx, q0, by omega⟩
    refine ⟨r + 3 * (q - z), q, 0, ⟨fun w => ?_, fun w => ?_, Or.inl ⟨rfl, fun w => ?_⟩⟩⟩
    · have := implSame_c r z hr hz q w; rwa [e] at this
    · have := specSame_c r z hr hz q w; rwa [e] at this
    · obtain ⟨hr2, hz3⟩ := pl_bd hp2
      have := implZonesOf_c xs hs (r + 3 * (q - z)) q hr2 hz3 w
      have e2 : znsV xs (r + 3 * (q - z)) q = (zonesL xs r z, 0) := by
        have : zonesL xs (r + 3 * (q - z)) q = zonesL xs r z := by
          unfold zonesL
          apply List.map_congr_left
          intro n _
          unfold znV; omega
        simp [znsV, both_ok xs ok _ q hp2, this]
      rwa [e2] at this
  · have h' : rdB (r + 3 * (q - z)) = false := by simpa using h
    have e : plcV (samV r z q) = .tuple #[.agg #[.int .i8 0, .int .i8 0], .int .i64 6] := by simp [plcV, samV, (plB_iff r z).2 hp, hz2, h']
    refine ⟨0, 0, 6, ⟨fun w => ?_, fun w => ?_, Or.inr rfl⟩⟩
    · have := implSame_c r z hr hz q w; rwa [e] at this
    · have := specSame_c r z hr hz q w; rwa [e] at this
theorem set_calls (r z a b c : Int) (r0 : 0 ≤ r) (r1 : r ≤ 60) (z0 : 0 ≤ z) (z1 : z ≤ 10) (h : stB a b c = true) : ∃ th m1 m2 m3 kk, SetCalls r z a b c th m1 m2 m3 kk := by
  have hp : Pl r z := ⟨⟨r0, r1⟩, z0, z1⟩
  obtain ⟨hr, hz⟩ := pl_bd hp
  have h' := (stB_iff a b c).1 h
  have h8 : S8 a b c := by unfold S8; omega
  have hpl := (plB_iff r z).2 hp
  have hrd : rdB r = true := (rdB_iff r).2 ⟨r0, r1⟩
  refine ⟨3 * (z - 5), (moreV a b c (3 * (z - 5))).1, (moreV a b c (3 * (z - 5))).2.1, (moreV a b c (3 * (z - 5))).2.2.1, (moreV a b c (3 * (z - 5))).2.2.2, ⟨fun w => ?_, fun w => ?_, fun w => ?_, by omega⟩⟩
  · have := implExp_c r z hr hz w
    have e : expV r z = .tuple #[.int .i64 (3 * (z - 5)), .int .i64 0] := by simp [expV, hpl]
    rwa [e] at this
  · have := implSettingFor_c a b c h8 r r z hr hz w
    have e : sfV a b c r r z = moreV a b c (3 * (z - 5)) := by
      have : 3 * (z - 5) + r - r = 3 * (z - 5) := by omega
      simp [sfV, h, hpl, hrd, this]
    rw [e] at this
    exact this
  · have := implMoreLight_c a b c h8 (3 * (z - 5)) w
    rw [mlV_near a b c _ h (by omega)] at this
    exact this
set_option maxHeartbeats 8000000 in
set_option maxRecDepth 100000 in
theorem lawZones_c (v1 : Value) (n1 : Nat) (v2 : Value) (n2 : Nat) (w : World) (h1 : Bytes w v1 n1) (h2 : Bytes w v2 n2) :
    Calls Try.prog 5 #[v1, v2] w fun e w' => e = .returned (.bool true) ∧ Below w.heap.size w w' := by
  obtain ⟨p1, c1, e1, -, -⟩ := bytes_shape h1
  obtain ⟨p2, c2, e2, -, -⟩ := bytes_shape h2
  have H1 := Lib.hid h1
  have H2 := Lib.hid h2
  have CL : Hid (∀ w0 : World, Calls Try.prog 14 #[v1, v2] w0 fun e w' => e = .returned (.bool (decide (3000 < (n1 : Int)) || decide (3000 < (n2 : Int)))) ∧ w0 = w') := Lib.hid fun w0 => a2Long_c v1 v2 n1 n2 p1 p2 c1 c2 e1 e2 w0
  clear h1 h2 e1 e2 p1 c1 p2 c2
  by_cases hl : (decide (3000 < (n1 : Int)) || decide (3000 < (n2 : Int))) = true
  · have HLong := Lib.hid hl
    clear hl
    go_enter Try.func5, Try.ntmps5
    go_wp2_with fail
    refine (CL.out _).mono ?_
    rintro e w' ⟨rfl, rfl⟩
    rw [HLong.out]
    go_wp2
    go_ret
    exact ⟨rfl, Below.refl _ _⟩
  have hl' : (decide (3000 < (n1 : Int)) || decide (3000 < (n2 : Int))) = false := by simpa using hl
  have l1 : n1 ≤ 3000 := by simp at hl'; omega
  have l2 : n2 ≤ 3000 := by simp at hl'; omega
  have HLong := Lib.hid hl'
  clear hl hl'
  go_enter Try.func5, Try.ntmps5
  refine wp_var fun Q0 HQ0 => ?_
  go_wp2_with fail
  refine (CL.out _).mono ?_
  rintro e w' ⟨rfl, rfl⟩
  rw [HLong.out]
  clear HLong CL
  go_wp2_with fail
  refine (a2Scene_c v1 n1 _ H1.out).mono ?_
  rintro e w1 ⟨xs, rfl, hl, hok, hB⟩
  have hs : Sc xs := sc_ok hl hok
  have HS := Lib.hid hs
  have HL := Lib.hid hl
  have HO := Lib.hid hok
  clear hl hok hs
  have K0 := Lib.hid (al1_0 w1 (.cells z24a 27))
  have K1 := Lib.hid (below_setRow (bl1 w1 (.cells z24a 27)) (Nat.le_refl _) (arr .i8 xs))
  go_wp2_with (first | (rw [z24a_eq]; refine wpList_store_row rfl 27 (.tmp 5) (.tmp 62) rfl _ _ rfl rfl _ _ K0.out (by rw [szScene, arr_size, HL.out]) (by rw [arr_size, HL.out]; rfl) (arr_one _ _) ?_; have FS : Hid (((w1.alloc (.cells z24a 27)).setRow w1.heap.size (arr .i8 xs)).heap[w1.heap.size]? = some (.cells (arr .i8 xs) 27 (0, 0))) := Lib.hid (setRow_heap _ _ _ _ _ _ K0.out); replace hB := bt hB K1.out; clear K0 K1; generalize (w1.alloc (.cells z24a 27)).setRow w1.heap.size (arr .i8 xs) = w2 at *; generalize w1.heap.size = gs at *))
  refine (a2Placement_c v2 n2 _ (bytes_keep H2.out hB)).mono ?_
  rintro e w3 ⟨r, z, rfl, r0, r1, z0, z1, hb⟩
  replace FS := Lib.hid (heap_below hb (lt_of_heap FS.out) FS.out)
  replace hB := bt hB hb
  clear hb
  have hwr := Go.IntWalk.i64_in r (by omega)
  have hwz := Go.IntWalk.i64_in z (by omega)
  obtain ⟨Z, C, nb, na, lo, hi, hF⟩ := zone_calls xs HS.out HO.out r z r0 r1 z0 z1
  have HF := Lib.hid hF
  clear hF
  have hbA := bl1 w3 (.cells #[.int .i8 r, .int .i8 z] 42)
  replace FS := Lib.hid (heap_below hbA (lt_of_heap FS.out) FS.out)
  have FP := Lib.hid (al1_0 w3 (.cells #[.int .i8 r, .int .i8 z] 42))
  replace hB := bt hB hbA
  clear hbA
  have HZ := Lib.hid HF.out.lenZ
  have HC := Lib.hid HF.out.lenC
  have cFP_0 := bk2_0 FP.out
  have cFP_1 := bk2_1 FP.out
  go_wp2_with fail
  clear cFP_0 cFP_1
  generalize w3.alloc (.cells #[.int .i8 r, .int .i8 z] 42) = w4 at *
  generalize w3.heap.size = gp at *
  refine (HF.out.zoneOf _).mono ?_
  rintro e w5 ⟨rfl, hb⟩
  replace FS := Lib.hid (heap_below hb (lt_of_heap FS.out) FS.out)
  replace FP := Lib.hid (heap_below hb (lt_of_heap FP.out) FP.out)
  replace hB := bt hB hb
  clear hb
  have cFP_0 := bk2_0 FP.out
  have cFP_1 := bk2_1 FP.out
  go_wp2_with (first | (refine wpList_load_row rfl 27 (.tmp 5) rfl _ rfl _ _ _ _ FS.out Try.underlying27 rfl (by rw [szScene, arr_size, HL.out]) ?_))
  clear cFP_0 cFP_1
  refine (HF.out.zonesI _).mono ?_
  rintro e w6 ⟨rfl, hb⟩
  replace FS := Lib.hid (heap_below hb (lt_of_heap FS.out) FS.out)
  replace FP := Lib.hid (heap_below hb (lt_of_heap FP.out) FP.out)
  replace hB := bt hB hb
  clear hb
  have K0 := Lib.hid (al1_0 w6 (.cells z24a 23))
  have K1 := Lib.hid (below_setRow (bl1 w6 (.cells z24a 23)) (Nat.le_refl _) (arr .i8 Z))
  have cFP_0 := bk2_0 FP.out
  have cFP_1 := bk2_1 FP.out
  go_wp2_with (first | (refine wpList_load_row rfl 27 (.tmp 5) rfl _ rfl _ _ _ _ FS.out Try.underlying27 rfl (by rw [szScene, arr_size, HL.out]) ?_) | (rw [z24a_eq]; refine wpList_store_row rfl 23 (.tmp 9) (.tmp 77) rfl _ _ rfl rfl _ _ K0.out (by rw [szA24, arr_size, HZ.out]) (by rw [arr_size, HZ.out]; rfl) (arr_one _ _) ?_; clear cFP_0 cFP_1; replace FS := Lib.hid (heap_below K1.out (lt_of_heap FS.out) FS.out); replace FP := Lib.hid (heap_below K1.out (lt_of_heap FP.out) FP.out); have FZ : Hid (((w6.alloc (.cells z24a 23)).setRow w6.heap.size (arr .i8 Z)).heap[w6.heap.size]? = some (.cells (arr .i8 Z) 23 (0, 0))) := Lib.hid (setRow_heap _ _ _ _ _ _ K0.out); replace hB := bt hB K1.out; clear K0 K1; generalize (w6.alloc (.cells z24a 23)).setRow w6.heap.size (arr .i8 Z) = w7 at *; generalize w6.heap.size = gz at *; have cFP_0 := bk2_0 FP.out; have cFP_1 := bk2_1 FP.out))
  clear cFP_0 cFP_1
  refine (HF.out.zonesS _).mono ?_
  rintro e w8 ⟨rfl, hb⟩
  replace FS := Lib.hid (heap_below hb (lt_of_heap FS.out) FS.out)
  replace FZ := Lib.hid (heap_below hb (lt_of_heap FZ.out) FZ.out)
  replace FP := Lib.hid (heap_below hb (lt_of_heap FP.out) FP.out)
  replace hB := bt hB hb
  clear hb
  have K0 := Lib.hid (al1_0 w8 (.cells z24a 23))
  have K1 := Lib.hid (below_setRow (bl1 w8 (.cells z24a 23)) (Nat.le_refl _) (arr .i8 Z))
  have cFP_0 := bk2_0 FP.out
  have cFP_1 := bk2_1 FP.out
  go_wp2_with (first | (refine wpList_load_row rfl 27 (.tmp 5) rfl _ rfl _ _ _ _ FS.out Try.underlying27 rfl (by rw [szScene, arr_size, HL.out]) ?_) | (rw [z24a_eq]; refine wpList_store_row rfl 23 (.tmp 11) (.tmp 83) rfl _ _ rfl rfl _ _ K0.out (by rw [szA24, arr_size, HZ.out]) (by rw [arr_size, HZ.out]; rfl) (arr_one _ _) ?_; clear cFP_0 cFP_1; replace FS := Lib.hid (heap_below K1.out (lt_of_heap FS.out) FS.out); replace FZ := Lib.hid (heap_below K1.out (lt_of_heap FZ.out) FZ.out); replace FP := Lib.hid (heap_below K1.out (lt_of_heap FP.out) FP.out); have FD : Hid (((w8.alloc (.cells z24a 23)).setRow w8.heap.size (arr .i8 Z)).heap[w8.heap.size]? = some (.cells (arr .i8 Z) 23 (0, 0))) := Lib.hid (setRow_heap _ _ _ _ _ _ K0.out); replace hB := bt hB K1.out; clear K0 K1; generalize (w8.alloc (.cells z24a 23)).setRow w8.heap.size (arr .i8 Z) = w9 at *; generalize w8.heap.size = gd at *; have cFP_0 := bk2_0 FP.out; have cFP_1 := bk2_1 FP.out))
  clear cFP_0 cFP_1
  refine (HF.out.count _).mono ?_
  rintro e w10 ⟨rfl, hb⟩
  replace FS := Lib.hid (heap_below hb (lt_of_heap FS.out) FS.out)
  replace FZ := Lib.hid (heap_below hb (lt_of_heap FZ.out) FZ.out)
  replace FD := Lib.hid (heap_below hb (lt_of_heap FD.out) FD.out)
  replace FP := Lib.hid (heap_below hb (lt_of_heap FP.out) FP.out)
  replace hB := bt hB hb
  clear hb
  have K0 := Lib.hid (al1_0 w10 (.cells z11a 46))
  have K1 := Lib.hid (below_setRow (bl1 w10 (.cells z11a 46)) (Nat.le_refl _) (arr .i64 C))
  have cFP_0 := bk2_0 FP.out
  have cFP_1 := bk2_1 FP.out
  go_wp2_with (first | (refine wpList_load_row rfl 27 (.tmp 5) rfl _ rfl _ _ _ _ FS.out Try.underlying27 rfl (by rw [szScene, arr_size, HL.out]) ?_) | (rw [z11a_eq]; refine wpList_store_row rfl 46 (.tmp 13) (.tmp 89) rfl _ _ rfl rfl _ _ K0.out (by rw [szI11, arr_size, HC.out]) (by rw [arr_size, HC.out]; rfl) (arr_one _ _) ?_; clear cFP_0 cFP_1; replace FS := Lib.hid (heap_below K1.out (lt_of_heap FS.out) FS.out); replace FZ := Lib.hid (heap_below K1.out (lt_of_heap FZ.out) FZ.out); replace FD := Lib.hid (heap_below K1.out (lt_of_heap FD.out) FD.out); replace FP := Lib.hid (heap_below K1.out (lt_of_heap FP.out) FP.out); have FC : Hid (((w10.alloc (.cells z11a 46)).setRow w10.heap.size (arr .i64 C)).heap[w10.heap.size]? = some (.cells (arr .i64 C) 46 (0, 0))) := Lib.hid (setRow_heap _ _ _ _ _ _ K0.out); replace hB := bt hB K1.out; clear K0 K1; generalize (w10.alloc (.cells z11a 46)).setRow w10.heap.size (arr .i64 C) = w11 at *; generalize w10.heap.size = gc at *; have cFP_0 := bk2_0 FP.out; have cFP_1 := bk2_1 FP.out))
  clear cFP_0 cFP_1
  refine (HF.out.off _).mono ?_
  rintro e w12 ⟨rfl, hb⟩
  replace FS := Lib.hid (heap_below hb (lt_of_heap FS.out) FS.out)
  replace FZ := Lib.hid (heap_below hb (lt_of_heap FZ.out) FZ.out)
  replace FD := Lib.hid (heap_below hb (lt_of_heap FD.out) FD.out)
  replace FC := Lib.hid (heap_below hb (lt_of_heap FC.out) FC.out)
  replace FP := Lib.hid (heap_below hb (lt_of_heap FP.out) FP.out)
  replace hB := bt hB hb
  clear hb
  have cFP_0 := bk2_0 FP.out
  have cFP_1 := bk2_1 FP.out
  go_wp2_with fail
  clear cFP_0 cFP_1
  refine (HF.out.place _).mono ?_
  rintro e w13 ⟨rfl, hb⟩
  replace FS := Lib.hid (heap_below hb (lt_of_heap FS.out) FS.out)
  replace FZ := Lib.hid (heap_below hb (lt_of_heap FZ.out) FZ.out)
  replace FD := Lib.hid (heap_below hb (lt_of_heap FD.out) FD.out)
  replace FC := Lib.hid (heap_below hb (lt_of_heap FC.out) FC.out)
  replace FP := Lib.hid (heap_below hb (lt_of_heap FP.out) FP.out)
  replace hB := bt hB hb
  clear hb
  have hbA := bl1 w13 (.cells #[.int .i8 r, .int .i8 z] 42)
  replace FS := Lib.hid (heap_below hbA (lt_of_heap FS.out) FS.out)
  replace FZ := Lib.hid (heap_below hbA (lt_of_heap FZ.out) FZ.out)
  replace FD := Lib.hid (heap_below hbA (lt_of_heap FD.out) FD.out)
  replace FC := Lib.hid (heap_below hbA (lt_of_heap FC.out) FC.out)
  replace FP := Lib.hid (heap_below hbA (lt_of_heap FP.out) FP.out)
  have FM := Lib.hid (al1_0 w13 (.cells #[.int .i8 r, .int .i8 z] 42))
  replace hB := bt hB hbA
  clear hbA
  have hbit := HF.out.bit
  have hne := neqA24 Z HZ.out
  have K0 := Lib.hid (al1_0 (w13.alloc (.cells #[.int .i8 r, .int .i8 z] 42)) (.cells #[.int .i64 0, .int .i64 0, .int .i64 0, .int .i64 0, .int .i64 0, .int .i64 0, .int .i64 0, .int .i64 0, .int .i64 0, .int .i64 0, .int .i64 0] 46))
  have K2 := Lib.hid (bl1 (w13.alloc (.cells #[.int .i8 r, .int .i8 z] 42)) (.cells #[.int .i64 0, .int .i64 0, .int .i64 0, .int .i64 0, .int .i64 0, .int .i64 0, .int .i64 0, .int .i64 0, .int .i64 0, .int .i64 0, .int .i64 0] 46))
  have hsz : (w13.alloc (.cells #[.int .i8 r, .int .i8 z] 42)).heap.size = w13.heap.size + 1 := by simp
  have cFP_0 := bk2_0 FP.out
  have cFP_1 := bk2_1 FP.out
  have cFM_0 := bk2_0 FM.out
  have cFM_1 := bk2_1 FM.out
  go_wp2_with (first | (refine wpList_load_rowW rfl 23 (.tmp 9) rfl _ rfl _ _ _ _ FZ.out Try.underlying23 rfl (by rw [szA24, arr_size, HZ.out]) ?_) | (refine wpList_load_rowW rfl 23 (.tmp 11) rfl _ rfl _ _ _ _ FD.out Try.underlying23 rfl (by rw [szA24, arr_size, HZ.out]) ?_))
  clear cFP_0 cFP_1 cFM_0 cFM_1
  generalize w13.alloc (.cells #[.int .i8 r, .int .i8 z] 42) = w14 at *
  generalize w13.heap.size = gm at *
  have nFS := lt_of_heap FS.out
  have nFZ := lt_of_heap FZ.out
  have nFD := lt_of_heap FD.out
  have nFC := lt_of_heap FC.out
  have nFP := lt_of_heap FP.out
  have nFM := lt_of_heap FM.out
  replace FS := Lib.hid (heap_below K2.out (lt_of_heap FS.out) FS.out)
  replace FZ := Lib.hid (heap_below K2.out (lt_of_heap FZ.out) FZ.out)
  replace FD := Lib.hid (heap_below K2.out (lt_of_heap FD.out) FD.out)
  replace FC := Lib.hid (heap_below K2.out (lt_of_heap FC.out) FC.out)
  replace FP := Lib.hid (heap_below K2.out (lt_of_heap FP.out) FP.out)
  replace FM := Lib.hid (heap_below K2.out (lt_of_heap FM.out) FM.out)
  have hwgo : w.heap.size ≤ w14.heap.size := hB.size
  rw [hsz] at hwgo
  replace hB := bt hB K2.out
  clear K2 hbit hne
  generalize w14.alloc (.cells #[.int .i64 0, .int .i64 0, .int .i64 0, .int .i64 0, .int .i64 0, .int .i64 0, .int .i64 0, .int .i64 0, .int .i64 0, .int .i64 0, .int .i64 0] 46) = w15 at *
  rw [hsz] at K0
  have nFall : ∀ k, k < w14.heap.size → k < gm + 1 := fun k h => by rw [← hsz]; exact h
  replace nFS := nFall _ nFS
  replace nFZ := nFall _ nFZ
  replace nFD := nFall _ nFD
  replace nFC := nFall _ nFC
  replace nFP := nFall _ nFP
  replace nFM := nFall _ nFM
  clear nFall hsz
  generalize gm + 1 = go at *
  have hgo := lt_of_heap K0.out
  have hg := okS_get HO.out
  have hp : Pl r z := ⟨⟨r0, r1⟩, z0, z1⟩
  rw [z11a_eq]
  as_aux_lemma =>
    go_loopw [23, 24, 25] (fun a b i wr => ∃ k : Nat, k ≤ 24 ∧ i = .int .i64 k ∧ a = .int .i64 (howMany (lowP xs r z) k : Nat) ∧ b = .int .i64 (howMany (highP xs r z) k : Nat) ∧ wr.heap[go]? = some (.cells (arr .i64 (czL xs r z k)) 46 (0, 0)) ∧ Only go w15 wr) (fun _ _ i _ => 24 - (intOf i).toNat)
    case atStart => exact ⟨0, Nat.zero_le _, rfl, rfl, rfl, K0.out, only_refl _ _⟩
    case round =>
      clear K0
      obtain ⟨k, hk, rfl, rfl, rfl, hC1, hW⟩ := hrel
      have HR := Lib.hid hC1
      have HW := Lib.hid hW
      clear hC1 hW
      by_cases hlt : k < 24
      · obtain ⟨v, hv⟩ : ∃ v, v = znV r z (xs.getD k 0) := ⟨_, rfl⟩
        have hzb := zn_bd hp (hg k)
        rw [← hv] at hzb
        have D1 := Lib.hid ((HW.out.apart gd (by omega)).trans FD.out)
        have hcD := arr_cell D1.out k (by rw [HZ.out]; exact hlt)
        rw [HF.out.eZ, zonesL_get _ _ _ _ (by rw [HL.out]; exact hlt), ← hv] at hcD
        have HV := Lib.hid hv
        have E1 : Hid (howMany (lowP xs r z) (k + 1) = howMany (lowP xs r z) k + if lowP xs r z k then 1 else 0) := Lib.hid rfl
        have E2 : Hid (howMany (highP xs r z) (k + 1) = howMany (highP xs r z) k + if highP xs r z k then 1 else 0) := Lib.hid rfl
        have E3 : Hid (czL xs r z (k + 1) = if 0 ≤ v ∧ v ≤ 10 then (czL xs r z k).set v.toNat ((czL xs r z k).getD v.toNat 0 + 1) else czL xs r z k) := Lib.hid (by simp only [czL]; rw [← hv])
        have B1 : Hid (((lo : Int) / 2 ^ k).tmod 2 = if lowP xs r z k then 1 else 0) := Lib.hid (by rw [HF.out.elo]; exact (mask_bit _ _ hlt).2)
        have B2 : Hid (((hi : Int) / 2 ^ k).tmod 2 = if highP xs r z k then 1 else 0) := Lib.hid (by rw [HF.out.ehi]; exact (mask_bit _ _ hlt).2)
        have b1 := howMany_le (lowP xs r z) k
        have b2 := howMany_le (highP xs r z) k
        have hku : IntKind.u64.wrap (k : Int) = k := Go.IntWalk.u64_in _ (by omega)
        obtain ⟨q1, q2⟩ := hzb
        have hvw := Go.IntWalk.i64_in v (by omega)
        clear hv
        generalize howMany (lowP xs r z) k = nl at *
        generalize howMany (highP xs r z) k = nh at *
        by_cases c1 : v < 0
        · have HP1 : Hid (lowP xs r z k = true) := Lib.hid (by simp only [lowP]; rw [← HV.out]; simpa using c1)
          have HP2 : Hid (highP xs r z k = false) := Lib.hid (by simp only [highP]; rw [← HV.out]; simp; omega)
          have C3 : Hid (¬ (0 ≤ v ∧ v ≤ 10)) := Lib.hid (by omega)
          have t1 : ((lo : Int) / 2 ^ k).tmod 2 = 1 := by rw [B1.out, HP1.out]; rfl
          have t2 : ((hi : Int) / 2 ^ k).tmod 2 = 0 := by rw [B2.out, HP2.out]; rfl
          have c4 : ¬ 10 < v := by omega
          go_wp2
          go_roundw
          case rel => exact ⟨k + 1, by omega, by go_num, by rw [E1.out, HP1.out]; go_num, by rw [E2.out, HP2.out]; go_num, by rw [E3.out, if_neg C3.out]; exact HR.out, HW.out⟩
          case measure => simp [intOf]; omega
        · by_cases c2 : 11 ≤ v
          · have HP1 : Hid (lowP xs r z k = false) := Lib.hid (by simp only [lowP]; rw [← HV.out]; simpa using c1)
            have HP2 : Hid (highP xs r z k = true) := Lib.hid (by simp only [highP]; rw [← HV.out]; simpa using c2)
            have C3 : Hid (¬ (0 ≤ v ∧ v ≤ 10)) := Lib.hid (by omega)
            have t1 : ((lo : Int) / 2 ^ k).tmod 2 = 0 := by rw [B1.out, HP1.out]; rfl
            have t2 : ((hi : Int) / 2 ^ k).tmod 2 = 1 := by rw [B2.out, HP2.out]; rfl
            have c4 : 10 < v := by omega
            go_wp2
            go_roundw
            case rel => exact ⟨k + 1, by omega, by go_num, by rw [E1.out, HP1.out]; go_num, by rw [E2.out, HP2.out]; go_num, by rw [E3.out, if_neg C3.out]; exact HR.out, HW.out⟩
            case measure => simp [intOf]; omega
          · have HP1 : Hid (lowP xs r z k = false) := Lib.hid (by simp only [lowP]; rw [← HV.out]; simpa using c1)
            have HP2 : Hid (highP xs r z k = false) := Lib.hid (by simp only [highP]; rw [← HV.out]; simpa using c2)
            obtain ⟨j, rfl⟩ : ∃ j : Nat, v = j := ⟨v.toNat, by omega⟩
            have C3 : Hid ((0 : Int) ≤ (j : Int) ∧ (j : Int) ≤ 10) := Lib.hid ⟨by omega, by omega⟩
            have CL := Lib.hid (czL_len xs r z k)
            have hj : j < 11 := by omega
            have hcell := arr_cell HR.out j (by rw [CL.out]; exact hj)
            have hfr : wr.frozen? ⟨go, j, none⟩ = false := frozen_of_row _ _ _ _ _ HR.out
            obtain ⟨d1, d2⟩ := czL_bd xs r z k j
            obtain ⟨y, hy⟩ : ∃ y, y = (czL xs r z k).getD j 0 := ⟨_, rfl⟩
            rw [← hy] at hcell d1 d2
            have HY := Lib.hid hy
            clear hy
            have t1 : ((lo : Int) / 2 ^ k).tmod 2 = 0 := by rw [B1.out, HP1.out]; rfl
            have t2 : ((hi : Int) / 2 ^ k).tmod 2 = 0 := by rw [B2.out, HP2.out]; rfl
            have c4 : ¬ 10 < (j : Int) := by omega
            go_wp2
            go_roundw
            case rel => exact ⟨k + 1, by omega, by go_num, by rw [E1.out, HP1.out]; go_num, by rw [E2.out, HP2.out]; go_num, by rw [E3.out, if_pos C3.out, Int.toNat_natCast, ← HY.out]; exact arr_store HR.out j (y + 1), only_set HW.out j _⟩
            case measure => simp [intOf]; omega
      · have hk24 : k = 24 := by omega
        subst hk24
        replace FS := Lib.hid ((HW.out.apart _ (by omega)).trans FS.out)
        replace FZ := Lib.hid ((HW.out.apart _ (by omega)).trans FZ.out)
        replace FD := Lib.hid ((HW.out.apart _ (by omega)).trans FD.out)
        replace FC := Lib.hid ((HW.out.apart _ (by omega)).trans FC.out)
        replace FP := Lib.hid ((HW.out.apart _ (by omega)).trans FP.out)
        replace FM := Lib.hid ((HW.out.apart _ (by omega)).trans FM.out)
        replace hB : Below w.heap.size w wr := only_above hB HW.out (by omega)
        have hco : czL xs r z 24 = C := HF.out.eC.symm
        rw [hco] at HR
        have hno : howMany (lowP xs r z) 24 = nb := HF.out.eb.symm
        have hna : howMany (highP xs r z) 24 = na := HF.out.ea.symm
        rw [hno, hna]
        have hne := neqA11 C HC.out
        clear HW hco hno hna
        have FO := HR
        clear HR
        have cFP_0 := bk2_0 FP.out
        have cFP_1 := bk2_1 FP.out
        have cFM_0 := bk2_0 FM.out
        have cFM_1 := bk2_1 FM.out
        go_wp2_with (first | (refine wpList_load_row rfl 46 (.tmp 22) rfl _ rfl _ _ _ _ FO.out Try.underlying46 rfl (by rw [szI11, arr_size, HC.out]) ?_) | (refine wpList_load_row rfl 46 (.tmp 13) rfl _ rfl _ _ _ _ FC.out Try.underlying46 rfl (by rw [szI11, arr_size, HC.out]) ?_))
        clear cFP_0 cFP_1 cFM_0 cFM_1
        clear hne
        generalize wr = w16 at *
        as_aux_lemma =>
          go_loopw [27] (fun i wr => ∃ k : Nat, k ≤ 58 ∧ i = .int .i64 k ∧ Below w16.heap.size w16 wr) (fun i _ => 58 - (intOf i).toNat)
          case atStart => exact ⟨0, Nat.zero_le _, rfl, Below.refl _ _⟩
          case round =>
            obtain ⟨k, hk, rfl, hW⟩ := hrel
            replace FS := Lib.hid (heap_below hW (lt_of_heap FS.out) FS.out)
            replace FZ := Lib.hid (heap_below hW (lt_of_heap FZ.out) FZ.out)
            replace FD := Lib.hid (heap_below hW (lt_of_heap FD.out) FD.out)
            replace FC := Lib.hid (heap_below hW (lt_of_heap FC.out) FC.out)
            replace FO := Lib.hid (heap_below hW (lt_of_heap FO.out) FO.out)
            replace FP := Lib.hid (heap_below hW (lt_of_heap FP.out) FP.out)
            replace FM := Lib.hid (heap_below hW (lt_of_heap FM.out) FM.out)
            have HW0 := Lib.hid hW
            replace hB : Below w.heap.size w wr := bt hB hW
            clear hW
            generalize wr = w17 at *
            by_cases hlt : k ≤ 57
            · have HW := Lib.hid (Below.refl w17.heap.size w17)
              have q0 : znV r z ((k : Int) + 3) = znV r z k + 1 := by unfold znV; omega
              have q1 : znV r z k ≤ znV r z ((k : Int) + 1) := by unfold znV; omega
              have q2 : znV r z ((k : Int) + 1) ≤ znV r z k + 1 := by unfold znV; omega
              have q3 := zn_bd hp (show 0 ≤ (k : Int) ∧ (k : Int) ≤ 60 by omega)
              have Z0 := Lib.hid (HF.out.zoneAt k (by omega) (by omega))
              have Z1 := Lib.hid (HF.out.zoneAt ((k : Int) + 3) (by omega) (by omega))
              have Z2 := Lib.hid (HF.out.zoneAt ((k : Int) + 1) (by omega) (by omega))
              rw [q0] at Z1
              obtain ⟨q3, q4⟩ := q3
              generalize znV r z k = a at *
              generalize znV r z ((k : Int) + 1) = c at *
              clear q0
              have hna : ¬ c < a := by omega
              have hnb : ¬ a + 1 < c := by omega
              have hca : a ≤ c := q1
              have hcb : c ≤ a + 1 := q2
              have h57 : (k : Int) ≤ 57 := by omega
              have cFP_0 := bk2_0 FP.out
              have cFP_1 := bk2_1 FP.out
              have cFM_0 := bk2_0 FM.out
              have cFM_1 := bk2_1 FM.out
              go_wp2_with fail
              clear cFP_0 cFP_1 cFM_0 cFM_1
              refine (Z0.out _).mono ?_
              rintro e w18 ⟨rfl, hb⟩
              replace FS := Lib.hid (heap_below hb (lt_of_heap FS.out) FS.out)
              replace FZ := Lib.hid (heap_below hb (lt_of_heap FZ.out) FZ.out)
              replace FD := Lib.hid (heap_below hb (lt_of_heap FD.out) FD.out)
              replace FC := Lib.hid (heap_below hb (lt_of_heap FC.out) FC.out)
              replace FO := Lib.hid (heap_below hb (lt_of_heap FO.out) FO.out)
              replace FP := Lib.hid (heap_below hb (lt_of_heap FP.out) FP.out)
              replace FM := Lib.hid (heap_below hb (lt_of_heap FM.out) FM.out)
              replace HW := Lib.hid (bt HW.out hb)
              clear hb
              have cFP_0 := bk2_0 FP.out
              have cFP_1 := bk2_1 FP.out
              have cFM_0 := bk2_0 FM.out
              have cFM_1 := bk2_1 FM.out
              go_wp2_with fail
              clear cFP_0 cFP_1 cFM_0 cFM_1
              refine (Z1.out _).mono ?_
              rintro e w19 ⟨rfl, hb⟩
              replace FS := Lib.hid (heap_below hb (lt_of_heap FS.out) FS.out)
              replace FZ := Lib.hid (heap_below hb (lt_of_heap FZ.out) FZ.out)
              replace FD := Lib.hid (heap_below hb (lt_of_heap FD.out) FD.out)
              replace FC := Lib.hid (heap_below hb (lt_of_heap FC.out) FC.out)
              replace FO := Lib.hid (heap_below hb (lt_of_heap FO.out) FO.out)
              replace FP := Lib.hid (heap_below hb (lt_of_heap FP.out) FP.out)
              replace FM := Lib.hid (heap_below hb (lt_of_heap FM.out) FM.out)
              replace HW := Lib.hid (bt HW.out hb)
              clear hb
              have cFP_0 := bk2_0 FP.out
              have cFP_1 := bk2_1 FP.out
              have cFM_0 := bk2_0 FM.out
              have cFM_1 := bk2_1 FM.out
              go_wp2_with fail
              clear cFP_0 cFP_1 cFM_0 cFM_1
              refine (Z2.out _).mono ?_
              rintro e w20 ⟨rfl, hb⟩
              replace FS := Lib.hid (heap_below hb (lt_of_heap FS.out) FS.out)
              replace FZ := Lib.hid (heap_below hb (lt_of_heap FZ.out) FZ.out)
              replace FD := Lib.hid (heap_below hb (lt_of_heap FD.out) FD.out)
              replace FC := Lib.hid (heap_below hb (lt_of_heap FC.out) FC.out)
              replace FO := Lib.hid (heap_below hb (lt_of_heap FO.out) FO.out)
              replace FP := Lib.hid (heap_below hb (lt_of_heap FP.out) FP.out)
              replace FM := Lib.hid (heap_below hb (lt_of_heap FM.out) FM.out)
              replace HW := Lib.hid (bt HW.out hb)
              clear hb
              go_wp2
              go_roundw
              case rel => exact ⟨k + 1, by omega, by go_num, HW0.out.trans ((HW.out.mono HW0.out.size))⟩
              case measure => simp [intOf]; omega
            · have h57 : ¬ (k : Int) ≤ 57 := by omega
              obtain ⟨bR, few, hBC⟩ := best_calls xs HS.out HO.out
              have BC := Lib.hid hBC
              have u0 := hBC.b0
              have u1 := hBC.b1
              have u2 := hBC.f1
              clear hBC
              have cFP_0 := bk2_0 FP.out
              have cFP_1 := bk2_1 FP.out
              have cFM_0 := bk2_0 FM.out
              have cFM_1 := bk2_1 FM.out
              go_wp2_with (first | (refine wpList_load_row rfl 27 (.tmp 5) rfl _ rfl _ _ _ _ FS.out Try.underlying27 rfl (by rw [szScene, arr_size, HL.out]) ?_))
              clear cFP_0 cFP_1 cFM_0 cFM_1
              refine (BC.out.bestI _).mono ?_
              rintro e w18 ⟨rfl, hb⟩
              replace FS := Lib.hid (heap_below hb (lt_of_heap FS.out) FS.out)
              replace FZ := Lib.hid (heap_below hb (lt_of_heap FZ.out) FZ.out)
              replace FD := Lib.hid (heap_below hb (lt_of_heap FD.out) FD.out)
              replace FC := Lib.hid (heap_below hb (lt_of_heap FC.out) FC.out)
              replace FO := Lib.hid (heap_below hb (lt_of_heap FO.out) FO.out)
              replace FP := Lib.hid (heap_below hb (lt_of_heap FP.out) FP.out)
              replace FM := Lib.hid (heap_below hb (lt_of_heap FM.out) FM.out)
              replace hB := bt hB hb
              clear hb
              have hbA := bl1 w18 (.cells #[.int .i8 bR, .int .i8 5] 42)
              replace FS := Lib.hid (heap_below hbA (lt_of_heap FS.out) FS.out)
              replace FZ := Lib.hid (heap_below hbA (lt_of_heap FZ.out) FZ.out)
              replace FD := Lib.hid (heap_below hbA (lt_of_heap FD.out) FD.out)
              replace FC := Lib.hid (heap_below hbA (lt_of_heap FC.out) FC.out)
              replace FO := Lib.hid (heap_below hbA (lt_of_heap FO.out) FO.out)
              replace FP := Lib.hid (heap_below hbA (lt_of_heap FP.out) FP.out)
              replace FM := Lib.hid (heap_below hbA (lt_of_heap FM.out) FM.out)
              have FB := Lib.hid (al1_0 w18 (.cells #[.int .i8 bR, .int .i8 5] 42))
              replace hB := bt hB hbA
              clear hbA
              have cFP_0 := bk2_0 FP.out
              have cFP_1 := bk2_1 FP.out
              have cFM_0 := bk2_0 FM.out
              have cFM_1 := bk2_1 FM.out
              have cFB_0 := bk2_0 FB.out
              have cFB_1 := bk2_1 FB.out
              go_wp2_with (first | (refine wpList_load_row rfl 27 (.tmp 5) rfl _ rfl _ _ _ _ FS.out Try.underlying27 rfl (by rw [szScene, arr_size, HL.out]) ?_))
              clear cFP_0 cFP_1 cFM_0 cFM_1 cFB_0 cFB_1
              generalize w18.alloc (.cells #[.int .i8 bR, .int .i8 5] 42) = w19 at *
              generalize w18.heap.size = gb at *
              refine (BC.out.bestS _).mono ?_
              rintro e w20 ⟨rfl, hb⟩
              replace FS := Lib.hid (heap_below hb (lt_of_heap FS.out) FS.out)
              replace FZ := Lib.hid (heap_below hb (lt_of_heap FZ.out) FZ.out)
              replace FD := Lib.hid (heap_below hb (lt_of_heap FD.out) FD.out)
              replace FC := Lib.hid (heap_below hb (lt_of_heap FC.out) FC.out)
              replace FO := Lib.hid (heap_below hb (lt_of_heap FO.out) FO.out)
              replace FP := Lib.hid (heap_below hb (lt_of_heap FP.out) FP.out)
              replace FM := Lib.hid (heap_below hb (lt_of_heap FM.out) FM.out)
              replace FB := Lib.hid (heap_below hb (lt_of_heap FB.out) FB.out)
              replace hB := bt hB hb
              clear hb
              have hbA := bl1 w20 (.cells #[.int .i8 bR, .int .i8 5] 42)
              replace FS := Lib.hid (heap_below hbA (lt_of_heap FS.out) FS.out)
              replace FZ := Lib.hid (heap_below hbA (lt_of_heap FZ.out) FZ.out)
              replace FD := Lib.hid (heap_below hbA (lt_of_heap FD.out) FD.out)
              replace FC := Lib.hid (heap_below hbA (lt_of_heap FC.out) FC.out)
              replace FO := Lib.hid (heap_below hbA (lt_of_heap FO.out) FO.out)
              replace FP := Lib.hid (heap_below hbA (lt_of_heap FP.out) FP.out)
              replace FM := Lib.hid (heap_below hbA (lt_of_heap FM.out) FM.out)
              replace FB := Lib.hid (heap_below hbA (lt_of_heap FB.out) FB.out)
              have FT := Lib.hid (al1_0 w20 (.cells #[.int .i8 bR, .int .i8 5] 42))
              replace hB := bt hB hbA
              clear hbA
              have cFP_0 := bk2_0 FP.out
              have cFP_1 := bk2_1 FP.out
              have cFM_0 := bk2_0 FM.out
              have cFM_1 := bk2_1 FM.out
              have cFB_0 := bk2_0 FB.out
              have cFB_1 := bk2_1 FB.out
              have cFT_0 := bk2_0 FT.out
              have cFT_1 := bk2_1 FT.out
              go_wp2_with fail
              clear cFP_0 cFP_1 cFM_0 cFM_1 cFB_0 cFB_1 cFT_0 cFT_1
              generalize w20.alloc (.cells #[.int .i8 bR, .int .i8 5] 42) = w21 at *
              generalize w20.heap.size = gt at *
              as_aux_lemma =>
                go_loopw [40, 41] (fun i _ wr => ∃ k : Nat, k ≤ 61 ∧ i = .int .i64 k ∧ Below w21.heap.size w21 wr) (fun i _ _ => 61 - (intOf i).toNat)
                case atStart => exact ⟨0, Nat.zero_le _, rfl, Below.refl _ _⟩
                case round =>
                  clear hlt hk HW0
                  obtain ⟨k, hk, rfl, hW⟩ := hrel
                  replace FS := Lib.hid (heap_below hW (lt_of_heap FS.out) FS.out)
                  replace FZ := Lib.hid (heap_below hW (lt_of_heap FZ.out) FZ.out)
                  replace FD := Lib.hid (heap_below hW (lt_of_heap FD.out) FD.out)
                  replace FC := Lib.hid (heap_below hW (lt_of_heap FC.out) FC.out)
                  replace FO := Lib.hid (heap_below hW (lt_of_heap FO.out) FO.out)
                  replace FP := Lib.hid (heap_below hW (lt_of_heap FP.out) FP.out)
                  replace FM := Lib.hid (heap_below hW (lt_of_heap FM.out) FM.out)
                  replace FB := Lib.hid (heap_below hW (lt_of_heap FB.out) FB.out)
                  replace FT := Lib.hid (heap_below hW (lt_of_heap FT.out) FT.out)
                  have HW0 := Lib.hid hW
                  replace hB : Below w.heap.size w wr := bt hB hW
                  clear hW
                  generalize wr = w30 at *
                  by_cases hlt : k ≤ 60
                  · have HW := Lib.hid (Below.refl w30.heap.size w30)
                    obtain ⟨D, mb, ma, hD, m1, m2, m3, m4, hcl⟩ := BC.out.each k hlt
                    have HCL := Lib.hid hcl
                    have HD := Lib.hid hD
                    clear hcl hD
                    have hki := Go.IntWalk.i8_in (k : Int) (by omega)
                    have h60 : (k : Int) ≤ 60 := by omega
                    have hbw := Go.IntWalk.i64_in bR (by omega)
                    obtain ⟨sm, hsm⟩ : ∃ s : Int, s = (mb : Int) + (ma : Int) := ⟨_, rfl⟩
                    have hws : IntKind.i64.wrap ((mb : Int) + (ma : Int)) = sm := by rw [Go.IntWalk.i64_in _ (by omega), hsm]
                    have v1' : ¬ sm < (few : Int) := by omega
                    have cFP_0 := bk2_0 FP.out
                    have cFP_1 := bk2_1 FP.out
                    have cFM_0 := bk2_0 FM.out
                    have cFM_1 := bk2_1 FM.out
                    have cFB_0 := bk2_0 FB.out
                    have cFB_1 := bk2_1 FB.out
                    have cFT_0 := bk2_0 FT.out
                    have cFT_1 := bk2_1 FT.out
                    go_wp2_with (first | (refine wpList_load_row rfl 27 (.tmp 5) rfl _ rfl _ _ _ _ FS.out Try.underlying27 rfl (by rw [szScene, arr_size, HL.out]) ?_))
                    clear cFP_0 cFP_1 cFM_0 cFM_1 cFB_0 cFB_1 cFT_0 cFT_1
                    refine (HCL.out _).mono ?_
                    rintro e w31 ⟨rfl, hb⟩
                    replace FS := Lib.hid (heap_below hb (lt_of_heap FS.out) FS.out)
                    replace FZ := Lib.hid (heap_below hb (lt_of_heap FZ.out) FZ.out)
                    replace FD := Lib.hid (heap_below hb (lt_of_heap FD.out) FD.out)
                    replace FC := Lib.hid (heap_below hb (lt_of_heap FC.out) FC.out)
                    replace FO := Lib.hid (heap_below hb (lt_of_heap FO.out) FO.out)
                    replace FP := Lib.hid (heap_below hb (lt_of_heap FP.out) FP.out)
                    replace FM := Lib.hid (heap_below hb (lt_of_heap FM.out) FM.out)
                    replace FB := Lib.hid (heap_below hb (lt_of_heap FB.out) FB.out)
                    replace FT := Lib.hid (heap_below hb (lt_of_heap FT.out) FT.out)
                    replace HW := Lib.hid (bt HW.out hb)
                    clear hb
                    have K0 := Lib.hid (al1_0 w31 (.cells z11a 46))
                    have K1 := Lib.hid (below_setRow (bl1 w31 (.cells z11a 46)) (Nat.le_refl _) (arr .i64 D))
                    replace FS := Lib.hid (heap_below K1.out (lt_of_heap FS.out) FS.out)
                    replace FZ := Lib.hid (heap_below K1.out (lt_of_heap FZ.out) FZ.out)
                    replace FD := Lib.hid (heap_below K1.out (lt_of_heap FD.out) FD.out)
                    replace FC := Lib.hid (heap_below K1.out (lt_of_heap FC.out) FC.out)
                    replace FO := Lib.hid (heap_below K1.out (lt_of_heap FO.out) FO.out)
                    replace FP := Lib.hid (heap_below K1.out (lt_of_heap FP.out) FP.out)
                    replace FM := Lib.hid (heap_below K1.out (lt_of_heap FM.out) FM.out)
                    replace FB := Lib.hid (heap_below K1.out (lt_of_heap FB.out) FB.out)
                    replace FT := Lib.hid (heap_below K1.out (lt_of_heap FT.out) FT.out)
                    replace HW := Lib.hid (bt HW.out K1.out)
                    by_cases heq : mb + ma = few
                    · have hsf : sm = (few : Int) := by omega
                      subst hsf
                      have hkb : ¬ (k : Int) < bR := by have := m4 heq; omega
                      clear heq m4 hsm m1 m2 m3
                      go_wp2_with (rw [z11a_eq]; refine wpList_store_row rfl 46 (.tmp 41) (.tmp 308) rfl _ _ rfl rfl _ _ K0.out (by rw [szI11, arr_size, HD.out]) (by rw [arr_size, HD.out]; rfl) (arr_one _ _) ?_; clear K0 K1; generalize (w31.alloc (.cells z11a 46)).setRow w31.heap.size (arr .i64 D) = w32 at *; have cFP_0 := bk2_0 FP.out; have cFP_1 := bk2_1 FP.out; have cFM_0 := bk2_0 FM.out; have cFM_1 := bk2_1 FM.out; have cFB_0 := bk2_0 FB.out; have cFB_1 := bk2_1 FB.out; have cFT_0 := bk2_0 FT.out; have cFT_1 := bk2_1 FT.out)
                      go_roundw
                      case rel => exact ⟨k + 1, by omega, by go_num, HW0.out.trans ((HW.out.mono HW0.out.size))⟩
                      case measure => simp [intOf]; omega
                    · have hq : (sm == (few : Int)) = false := by simp; omega
                      clear heq m4 hsm m1 m2 m3
                      go_wp2_with (rw [z11a_eq]; refine wpList_store_row rfl 46 (.tmp 41) (.tmp 308) rfl _ _ rfl rfl _ _ K0.out (by rw [szI11, arr_size, HD.out]) (by rw [arr_size, HD.out]; rfl) (arr_one _ _) ?_; clear K0 K1; generalize (w31.alloc (.cells z11a 46)).setRow w31.heap.size (arr .i64 D) = w32 at *; have cFP_0 := bk2_0 FP.out; have cFP_1 := bk2_1 FP.out; have cFM_0 := bk2_0 FM.out; have cFM_1 := bk2_1 FM.out; have cFB_0 := bk2_0 FB.out; have cFB_1 := bk2_1 FB.out; have cFT_0 := bk2_0 FT.out; have cFT_1 := bk2_1 FT.out)
                      go_roundw
                      case rel => exact ⟨k + 1, by omega, by go_num, HW0.out.trans ((HW.out.mono HW0.out.size))⟩
                      case measure => simp [intOf]; omega
                  · have h60 : ¬ (k : Int) ≤ 60 := by omega
                    clear hlt hk HW0
                    go_upto_region 47 with fail
                    as_aux_lemma =>
                      obtain ⟨q, qq0, qq1, hat⟩ := a2At_c v2 n2 w H2.out 0 (by omega) 11 (by omega) (by omega)
                      have AT := Lib.hid hat
                      obtain ⟨x, y, kc, hsm⟩ := same_calls xs HS.out HO.out r z q r0 r1 z0 z1 qq0 qq1
                      rw [← HF.out.eZ] at hsm
                      have SM := Lib.hid hsm
                      clear hat hsm
                      have hB30 := Lib.hid hB
                      generalize w30 = w1 at *
                      have K : Hid (∀ w', Below w1.heap.size w1 w' → (Below w1.heap.size w1 w' ∧ (w'.cell? ⟨gp, 0, none⟩ = some (.int .i8 r) ∧ w'.cell? ⟨gp, 1, none⟩ = some (.int .i8 z)))) := Lib.hid fun w' hb => by
                        have b1 := heap_below hb (lt_of_heap FP.out) FP.out
                        exact ⟨hb, bk2_0 b1, bk2_1 b1⟩
                      go_cut [45, 46] from 335 to 341 (fun s7 s8 wx => ∃ g : Nat, s7 = .pointer (some ⟨g, 0, none⟩) ∧ s8 = .int .i64 kc ∧ wx.heap[g]? = some (.cells #[.int .i8 x, .int .i8 y] 42 (0, 0)) ∧ Below w1.heap.size w1 wx)
                      case first =>
                        have s0 := K.out _ (Below.refl _ _)
                        go_region_held3 (fun w' => Below w1.heap.size w1 w' ∧ (w'.cell? ⟨gp, 0, none⟩ = some (.int .i8 r) ∧ w'.cell? ⟨gp, 1, none⟩ = some (.int .i8 z)))
                          (first | (with_reducible assumption) | exact K.out _ (bl_drew (Below.refl _ _)) | exact K.out _ (bl_drew (bal (Below.refl _ _) _)) | exact K.out _ (bst2 (‹Below w1.heap.size w1 _ ∧ _›).1 (Below.refl _ _) _ _) | exact K.out _ (bal (‹Below w1.heap.size w1 _ ∧ _›).1 _) | exact K.out _ (bst2 (‹Below w1.heap.size w1 _ ∧ _›).1 (‹Below w1.heap.size w1 _ ∧ _›).1 _ _) | exact K.out _ (bst2 (bal (‹Below w1.heap.size w1 _ ∧ _›).1 _) (‹Below w1.heap.size w1 _ ∧ _›).1 _ _))
                          (first
                            | (go_at_call 32; refine (AT.out _ (bt hB30.out (‹Below w1.heap.size w1 _ ∧ _›).1)).mono ?_; rintro e w9 ⟨rfl, rfl⟩)
                            | (go_at_call 31; refine (SM.out.sameI _).mono ?_; rintro e w9 ⟨rfl, hb9⟩; have s9 := K.out _ (bt (‹Below w1.heap.size w1 _ ∧ _›).1 hb9); (try have n9 := heap_below hb9 (lt_of_heap n9) n9); (try have n9 := heap_below hb9 (by simp) (al1_0 _ (.cells #[.int .i8 0, .int .i8 0] 42))); (try (have r0' := bk2_0 n9; have rf0 := blk_f n9 0; have r1' := bk2_1 n9; have rf1 := blk_f n9 1))))
                        all_goals (go_wp2_with fail; go_meet)
                        all_goals with_reducible (first | exact ⟨_, rfl, rfl, al1_0 _ _, bal (‹Below w1.heap.size w1 _ ∧ _›).1 _⟩ | exact ⟨_, rfl, rfl, bk2 (by with_reducible assumption), bst2 (‹Below w1.heap.size w1 _ ∧ _›).1 (‹Below w1.heap.size w1 _ ∧ _›).1 _ _⟩ | exact ⟨_, rfl, rfl, bk2 (by with_reducible assumption), bst2 (‹Below w1.heap.size w1 _ ∧ _›).1 (Below.refl _ _) _ _⟩)
                      case rest =>
                        obtain ⟨gi, rfl, rfl, G1, L1⟩ := hcut
                        replace FS := Lib.hid (heap_below L1 (lt_of_heap FS.out) FS.out)
                        replace FZ := Lib.hid (heap_below L1 (lt_of_heap FZ.out) FZ.out)
                        replace FD := Lib.hid (heap_below L1 (lt_of_heap FD.out) FD.out)
                        replace FC := Lib.hid (heap_below L1 (lt_of_heap FC.out) FC.out)
                        replace FO := Lib.hid (heap_below L1 (lt_of_heap FO.out) FO.out)
                        replace FP := Lib.hid (heap_below L1 (lt_of_heap FP.out) FP.out)
                        replace FM := Lib.hid (heap_below L1 (lt_of_heap FM.out) FM.out)
                        replace FB := Lib.hid (heap_below L1 (lt_of_heap FB.out) FB.out)
                        replace FT := Lib.hid (heap_below L1 (lt_of_heap FT.out) FT.out)
                        replace hB := bt hB L1
                        have Fgi := Lib.hid G1
                        clear K L1 G1 hB30
                        generalize wc = w1 at *
                        go_upto_region 48 with fail
                        as_aux_lemma =>
                          have hB30 := Lib.hid hB
                          have K : Hid (∀ w', Below w1.heap.size w1 w' → (Below w1.heap.size w1 w' ∧ (w'.cell? ⟨gp, 0, none⟩ = some (.int .i8 r) ∧ w'.cell? ⟨gp, 1, none⟩ = some (.int .i8 z)))) := Lib.hid fun w' hb => by
                            have b1 := heap_below hb (lt_of_heap FP.out) FP.out
                            exact ⟨hb, bk2_0 b1, bk2_1 b1⟩
                          go_cut [47, 48] from 342 to 348 (fun s7 s8 wx => ∃ g : Nat, s7 = .pointer (some ⟨g, 0, none⟩) ∧ s8 = .int .i64 kc ∧ wx.heap[g]? = some (.cells #[.int .i8 x, .int .i8 y] 42 (0, 0)) ∧ Below w1.heap.size w1 wx)
                          case first =>
                            have s0 := K.out _ (Below.refl _ _)
                            go_region_held3 (fun w' => Below w1.heap.size w1 w' ∧ (w'.cell? ⟨gp, 0, none⟩ = some (.int .i8 r) ∧ w'.cell? ⟨gp, 1, none⟩ = some (.int .i8 z)))
                              (first | (with_reducible assumption) | exact K.out _ (bl_drew (Below.refl _ _)) | exact K.out _ (bl_drew (bal (Below.refl _ _) _)) | exact K.out _ (bst2 (‹Below w1.heap.size w1 _ ∧ _›).1 (Below.refl _ _) _ _) | exact K.out _ (bal (‹Below w1.heap.size w1 _ ∧ _›).1 _) | exact K.out _ (bst2 (‹Below w1.heap.size w1 _ ∧ _›).1 (‹Below w1.heap.size w1 _ ∧ _›).1 _ _) | exact K.out _ (bst2 (bal (‹Below w1.heap.size w1 _ ∧ _›).1 _) (‹Below w1.heap.size w1 _ ∧ _›).1 _ _))
                              (first
                                | (go_at_call 32; refine (AT.out _ (bt hB30.out (‹Below w1.heap.size w1 _ ∧ _›).1)).mono ?_; rintro e w9 ⟨rfl, rfl⟩)
                                | (go_at_call 33; refine (SM.out.sameS _).mono ?_; rintro e w9 ⟨rfl, hb9⟩; have s9 := K.out _ (bt (‹Below w1.heap.size w1 _ ∧ _›).1 hb9); (try have n9 := heap_below hb9 (lt_of_heap n9) n9); (try have n9 := heap_below hb9 (by simp) (al1_0 _ (.cells #[.int .i8 0, .int .i8 0] 42))); (try (have r0' := bk2_0 n9; have rf0 := blk_f n9 0; have r1' := bk2_1 n9; have rf1 := blk_f n9 1))))
                            all_goals (go_wp2_with fail; go_meet)
                            all_goals with_reducible (first | exact ⟨_, rfl, rfl, al1_0 _ _, bal (‹Below w1.heap.size w1 _ ∧ _›).1 _⟩ | exact ⟨_, rfl, rfl, bk2 (by with_reducible assumption), bst2 (‹Below w1.heap.size w1 _ ∧ _›).1 (‹Below w1.heap.size w1 _ ∧ _›).1 _ _⟩ | exact ⟨_, rfl, rfl, bk2 (by with_reducible assumption), bst2 (‹Below w1.heap.size w1 _ ∧ _›).1 (Below.refl _ _) _ _⟩)
                          case rest =>
                            obtain ⟨gk, rfl, rfl, G1, L1⟩ := hcut
                            replace FS := Lib.hid (heap_below L1 (lt_of_heap FS.out) FS.out)
                            replace FZ := Lib.hid (heap_below L1 (lt_of_heap FZ.out) FZ.out)
                            replace FD := Lib.hid (heap_below L1 (lt_of_heap FD.out) FD.out)
                            replace FC := Lib.hid (heap_below L1 (lt_of_heap FC.out) FC.out)
                            replace FO := Lib.hid (heap_below L1 (lt_of_heap FO.out) FO.out)
                            replace FP := Lib.hid (heap_below L1 (lt_of_heap FP.out) FP.out)
                            replace FM := Lib.hid (heap_below L1 (lt_of_heap FM.out) FM.out)
                            replace FB := Lib.hid (heap_below L1 (lt_of_heap FB.out) FB.out)
                            replace FT := Lib.hid (heap_below L1 (lt_of_heap FT.out) FT.out)
                            replace Fgi := Lib.hid (heap_below L1 (lt_of_heap Fgi.out) Fgi.out)
                            replace hB := bt hB L1
                            have Fgk := Lib.hid G1
                            clear K L1 G1 hB30
                            generalize wc = w1 at *
                            clear FC FO FM FB FT
                            as_aux_lemma =>
                              rcases SM.out.code with ⟨rfl, hz⟩ | rfl
                              · have HZO := Lib.hid hz
                                clear hz SM AT
                                have cFP_0 := bk2_0 FP.out
                                have cFP_1 := bk2_1 FP.out
                                have cFgi_0 := bk2_0 Fgi.out
                                have cFgi_1 := bk2_1 Fgi.out
                                have cFgk_0 := bk2_0 Fgk.out
                                have cFgk_1 := bk2_1 Fgk.out
                                go_wp2_with (first | (refine wpList_load_row rfl 27 (.tmp 5) rfl _ rfl _ _ _ _ FS.out Try.underlying27 rfl (by rw [szScene, arr_size, HL.out]) ?_))
                                clear cFP_0 cFP_1 cFgi_0 cFgi_1 cFgk_0 cFgk_1
                                refine (HZO.out _).mono ?_
                                rintro e w2 ⟨rfl, hb⟩
                                replace FS := Lib.hid (heap_below hb (lt_of_heap FS.out) FS.out)
                                replace FZ := Lib.hid (heap_below hb (lt_of_heap FZ.out) FZ.out)
                                replace FD := Lib.hid (heap_below hb (lt_of_heap FD.out) FD.out)
                                replace FP := Lib.hid (heap_below hb (lt_of_heap FP.out) FP.out)
                                replace Fgi := Lib.hid (heap_below hb (lt_of_heap Fgi.out) Fgi.out)
                                replace Fgk := Lib.hid (heap_below hb (lt_of_heap Fgk.out) Fgk.out)
                                replace hB := bt hB hb
                                clear hb
                                have K0 := Lib.hid (al1_0 w2 (.cells z24a 23))
                                have K1 := Lib.hid (below_setRow (bl1 w2 (.cells z24a 23)) (Nat.le_refl _) (arr .i8 Z))
                                have hne := neqA24 Z HZ.out
                                have cFP_0 := bk2_0 FP.out
                                have cFP_1 := bk2_1 FP.out
                                have cFgi_0 := bk2_0 Fgi.out
                                have cFgi_1 := bk2_1 Fgi.out
                                have cFgk_0 := bk2_0 Fgk.out
                                have cFgk_1 := bk2_1 Fgk.out
                                go_wp2_with (first | (rw [z24a_eq]; refine wpList_store_row rfl 23 (.tmp 49) (.tmp 371) rfl _ _ rfl rfl _ _ K0.out (by rw [szA24, arr_size, HZ.out]) (by rw [arr_size, HZ.out]; rfl) (arr_one _ _) ?_; clear cFP_0 cFP_1 cFgi_0 cFgi_1 cFgk_0 cFgk_1; replace FS := Lib.hid (heap_below K1.out (lt_of_heap FS.out) FS.out); replace FZ := Lib.hid (heap_below K1.out (lt_of_heap FZ.out) FZ.out); replace FD := Lib.hid (heap_below K1.out (lt_of_heap FD.out) FD.out); replace FP := Lib.hid (heap_below K1.out (lt_of_heap FP.out) FP.out); replace Fgi := Lib.hid (heap_below K1.out (lt_of_heap Fgi.out) Fgi.out); replace Fgk := Lib.hid (heap_below K1.out (lt_of_heap Fgk.out) Fgk.out); have FN : Hid (((w2.alloc (.cells z24a 23)).setRow w2.heap.size (arr .i8 Z)).heap[w2.heap.size]? = some (.cells (arr .i8 Z) 23 (0, 0))) := Lib.hid (setRow_heap _ _ _ _ _ _ K0.out); replace hB := bt hB K1.out; clear K0 K1; generalize (w2.alloc (.cells z24a 23)).setRow w2.heap.size (arr .i8 Z) = w3 at *; generalize w2.heap.size = gn at *; have cFP_0 := bk2_0 FP.out; have cFP_1 := bk2_1 FP.out; have cFgi_0 := bk2_0 Fgi.out; have cFgi_1 := bk2_1 Fgi.out; have cFgk_0 := bk2_0 Fgk.out; have cFgk_1 := bk2_1 Fgk.out) | (refine wpList_load_rowW rfl 23 (.tmp 49) rfl _ rfl _ _ _ _ FN.out Try.underlying23 rfl (by rw [szA24, arr_size, HZ.out]) ?_) | (refine wpList_load_rowW rfl 23 (.tmp 11) rfl _ rfl _ _ _ _ FD.out Try.underlying23 rfl (by rw [szA24, arr_size, HZ.out]) ?_))
                                clear cFP_0 cFP_1 cFgi_0 cFgi_1 cFgk_0 cFgk_1
                                clear hne
                                as_aux_lemma =>
                                  refine (a2Setting_c v1 n1 _ (bytes_keep H1.out hB)).mono ?_
                                  rintro e w4 ⟨a, b, c, rfl, hst, hb⟩
                                  replace FS := Lib.hid (heap_below hb (lt_of_heap FS.out) FS.out)
                                  replace FZ := Lib.hid (heap_below hb (lt_of_heap FZ.out) FZ.out)
                                  replace FD := Lib.hid (heap_below hb (lt_of_heap FD.out) FD.out)
                                  replace FN := Lib.hid (heap_below hb (lt_of_heap FN.out) FN.out)
                                  replace FP := Lib.hid (heap_below hb (lt_of_heap FP.out) FP.out)
                                  replace Fgi := Lib.hid (heap_below hb (lt_of_heap Fgi.out) Fgi.out)
                                  replace Fgk := Lib.hid (heap_below hb (lt_of_heap Fgk.out) Fgk.out)
                                  replace hB := bt hB hb
                                  clear hb
                                  obtain ⟨th, m1, m2, m3, kk, hsc⟩ := set_calls r z a b c r0 r1 z0 z1 hst
                                  have SC := Lib.hid hsc
                                  clear hst hsc
                                  have hbA := bl1 w4 (.cells #[.int .i8 a, .int .i8 b, .int .i8 c] 59)
                                  replace FS := Lib.hid (heap_below hbA (lt_of_heap FS.out) FS.out)
                                  replace FZ := Lib.hid (heap_below hbA (lt_of_heap FZ.out) FZ.out)
                                  replace FD := Lib.hid (heap_below hbA (lt_of_heap FD.out) FD.out)
                                  replace FN := Lib.hid (heap_below hbA (lt_of_heap FN.out) FN.out)
                                  replace FP := Lib.hid (heap_below hbA (lt_of_heap FP.out) FP.out)
                                  replace Fgi := Lib.hid (heap_below hbA (lt_of_heap Fgi.out) Fgi.out)
                                  replace Fgk := Lib.hid (heap_below hbA (lt_of_heap Fgk.out) Fgk.out)
                                  have FX := Lib.hid (al1_0 w4 (.cells #[.int .i8 a, .int .i8 b, .int .i8 c] 59))
                                  replace hB := bt hB hbA
                                  clear hbA
                                  have cFP_0 := bk2_0 FP.out
                                  have cFP_1 := bk2_1 FP.out
                                  have cFgi_0 := bk2_0 Fgi.out
                                  have cFgi_1 := bk2_1 Fgi.out
                                  have cFgk_0 := bk2_0 Fgk.out
                                  have cFgk_1 := bk2_1 Fgk.out
                                  have cFX_0 := blk3_0 FX.out
                                  have cFX_1 := blk3_1 FX.out
                                  have cFX_2 := blk3_2 FX.out
                                  go_wp2_with fail
                                  clear cFP_0 cFP_1 cFgi_0 cFgi_1 cFgk_0 cFgk_1 cFX_0 cFX_1 cFX_2
                                  generalize w4.alloc (.cells #[.int .i8 a, .int .i8 b, .int .i8 c] 59) = w5 at *
                                  generalize w4.heap.size = gx at *
                                  refine (SC.out.exp _).mono ?_
                                  rintro e w6 ⟨rfl, hb⟩
                                  replace FS := Lib.hid (heap_below hb (lt_of_heap FS.out) FS.out)
                                  replace FZ := Lib.hid (heap_below hb (lt_of_heap FZ.out) FZ.out)
                                  replace FD := Lib.hid (heap_below hb (lt_of_heap FD.out) FD.out)
                                  replace FN := Lib.hid (heap_below hb (lt_of_heap FN.out) FN.out)
                                  replace FP := Lib.hid (heap_below hb (lt_of_heap FP.out) FP.out)
                                  replace Fgi := Lib.hid (heap_below hb (lt_of_heap Fgi.out) Fgi.out)
                                  replace Fgk := Lib.hid (heap_below hb (lt_of_heap Fgk.out) Fgk.out)
                                  replace FX := Lib.hid (heap_below hb (lt_of_heap FX.out) FX.out)
                                  replace hB := bt hB hb
                                  clear hb
                                  have cFP_0 := bk2_0 FP.out
                                  have cFP_1 := bk2_1 FP.out
                                  have cFgi_0 := bk2_0 Fgi.out
                                  have cFgi_1 := bk2_1 Fgi.out
                                  have cFgk_0 := bk2_0 Fgk.out
                                  have cFgk_1 := bk2_1 Fgk.out
                                  have cFX_0 := blk3_0 FX.out
                                  have cFX_1 := blk3_1 FX.out
                                  have cFX_2 := blk3_2 FX.out
                                  go_wp2_with fail
                                  clear cFP_0 cFP_1 cFgi_0 cFgi_1 cFgk_0 cFgk_1 cFX_0 cFX_1 cFX_2
                                  refine (SC.out.setFor _).mono ?_
                                  rintro e w7 ⟨rfl, hb⟩
                                  replace FS := Lib.hid (heap_below hb (lt_of_heap FS.out) FS.out)
                                  replace FZ := Lib.hid (heap_below hb (lt_of_heap FZ.out) FZ.out)
                                  replace FD := Lib.hid (heap_below hb (lt_of_heap FD.out) FD.out)
                                  replace FN := Lib.hid (heap_below hb (lt_of_heap FN.out) FN.out)
                                  replace FP := Lib.hid (heap_below hb (lt_of_heap FP.out) FP.out)
                                  replace Fgi := Lib.hid (heap_below hb (lt_of_heap Fgi.out) Fgi.out)
                                  replace Fgk := Lib.hid (heap_below hb (lt_of_heap Fgk.out) Fgk.out)
                                  replace FX := Lib.hid (heap_below hb (lt_of_heap FX.out) FX.out)
                                  replace hB := bt hB hb
                                  clear hb
                                  have hbA := bl1 w7 (.cells #[.int .i8 m1, .int .i8 m2, .int .i8 m3] 59)
                                  replace FS := Lib.hid (heap_below hbA (lt_of_heap FS.out) FS.out)
                                  replace FZ := Lib.hid (heap_below hbA (lt_of_heap FZ.out) FZ.out)
                                  replace FD := Lib.hid (heap_below hbA (lt_of_heap FD.out) FD.out)
                                  replace FN := Lib.hid (heap_below hbA (lt_of_heap FN.out) FN.out)
                                  replace FP := Lib.hid (heap_below hbA (lt_of_heap FP.out) FP.out)
                                  replace Fgi := Lib.hid (heap_below hbA (lt_of_heap Fgi.out) Fgi.out)
                                  replace Fgk := Lib.hid (heap_below hbA (lt_of_heap Fgk.out) Fgk.out)
                                  replace FX := Lib.hid (heap_below hbA (lt_of_heap FX.out) FX.out)
                                  have FU := Lib.hid (al1_0 w7 (.cells #[.int .i8 m1, .int .i8 m2, .int .i8 m3] 59))
                                  replace hB := bt hB hbA
                                  clear hbA
                                  have cFP_0 := bk2_0 FP.out
                                  have cFP_1 := bk2_1 FP.out
                                  have cFgi_0 := bk2_0 Fgi.out
                                  have cFgi_1 := bk2_1 Fgi.out
                                  have cFgk_0 := bk2_0 Fgk.out
                                  have cFgk_1 := bk2_1 Fgk.out
                                  have cFX_0 := blk3_0 FX.out
                                  have cFX_1 := blk3_1 FX.out
                                  have cFX_2 := blk3_2 FX.out
                                  have cFU_0 := blk3_0 FU.out
                                  have cFU_1 := blk3_1 FU.out
                                  have cFU_2 := blk3_2 FU.out
                                  go_wp2_with fail
                                  clear cFP_0 cFP_1 cFgi_0 cFgi_1 cFgk_0 cFgk_1 cFX_0 cFX_1 cFX_2 cFU_0 cFU_1 cFU_2
                                  generalize w7.alloc (.cells #[.int .i8 m1, .int .i8 m2, .int .i8 m3] 59) = w8 at *
                                  generalize w7.heap.size = gu at *
                                  refine (SC.out.more _).mono ?_
                                  rintro e w9 ⟨rfl, hb⟩
                                  replace FS := Lib.hid (heap_below hb (lt_of_heap FS.out) FS.out)
                                  replace FZ := Lib.hid (heap_below hb (lt_of_heap FZ.out) FZ.out)
                                  replace FD := Lib.hid (heap_below hb (lt_of_heap FD.out) FD.out)
                                  replace FN := Lib.hid (heap_below hb (lt_of_heap FN.out) FN.out)
                                  replace FP := Lib.hid (heap_below hb (lt_of_heap FP.out) FP.out)
                                  replace Fgi := Lib.hid (heap_below hb (lt_of_heap Fgi.out) Fgi.out)
                                  replace Fgk := Lib.hid (heap_below hb (lt_of_heap Fgk.out) Fgk.out)
                                  replace FX := Lib.hid (heap_below hb (lt_of_heap FX.out) FX.out)
                                  replace FU := Lib.hid (heap_below hb (lt_of_heap FU.out) FU.out)
                                  replace hB := bt hB hb
                                  clear hb
                                  have heq : (th == 3 * z - 15) = true := by rw [SC.out.eth]; simp
                                  clear SC
                                  have hbA := bl1 w9 (.cells #[.int .i8 m1, .int .i8 m2, .int .i8 m3] 59)
                                  replace FS := Lib.hid (heap_below hbA (lt_of_heap FS.out) FS.out)
                                  replace FZ := Lib.hid (heap_below hbA (lt_of_heap FZ.out) FZ.out)
                                  replace FD := Lib.hid (heap_below hbA (lt_of_heap FD.out) FD.out)
                                  replace FN := Lib.hid (heap_below hbA (lt_of_heap FN.out) FN.out)
                                  replace FP := Lib.hid (heap_below hbA (lt_of_heap FP.out) FP.out)
                                  replace Fgi := Lib.hid (heap_below hbA (lt_of_heap Fgi.out) Fgi.out)
                                  replace Fgk := Lib.hid (heap_below hbA (lt_of_heap Fgk.out) Fgk.out)
                                  replace FX := Lib.hid (heap_below hbA (lt_of_heap FX.out) FX.out)
                                  replace FU := Lib.hid (heap_below hbA (lt_of_heap FU.out) FU.out)
                                  have FV := Lib.hid (al1_0 w9 (.cells #[.int .i8 m1, .int .i8 m2, .int .i8 m3] 59))
                                  replace hB := bt hB hbA
                                  clear hbA
                                  have cFP_0 := bk2_0 FP.out
                                  have cFP_1 := bk2_1 FP.out
                                  have cFgi_0 := bk2_0 Fgi.out
                                  have cFgi_1 := bk2_1 Fgi.out
                                  have cFgk_0 := bk2_0 Fgk.out
                                  have cFgk_1 := bk2_1 Fgk.out
                                  have cFX_0 := blk3_0 FX.out
                                  have cFX_1 := blk3_1 FX.out
                                  have cFX_2 := blk3_2 FX.out
                                  have cFU_0 := blk3_0 FU.out
                                  have cFU_1 := blk3_1 FU.out
                                  have cFU_2 := blk3_2 FU.out
                                  have cFV_0 := blk3_0 FV.out
                                  have cFV_1 := blk3_1 FV.out
                                  have cFV_2 := blk3_2 FV.out
                                  go_wp2
                                  first | (refine HQ0 _ _ _ ?_; go_ret) | go_ret
                                  exact ⟨rfl, hB⟩
                              · clear SM AT
                                have cFP_0 := bk2_0 FP.out
                                have cFP_1 := bk2_1 FP.out
                                have cFgi_0 := bk2_0 Fgi.out
                                have cFgi_1 := bk2_1 Fgi.out
                                have cFgk_0 := bk2_0 Fgk.out
                                have cFgk_1 := bk2_1 Fgk.out
                                go_wp2_with fail
                                clear cFP_0 cFP_1 cFgi_0 cFgi_1 cFgk_0 cFgk_1
                                as_aux_lemma =>
                                  refine (a2Setting_c v1 n1 _ (bytes_keep H1.out hB)).mono ?_
                                  rintro e w2 ⟨a, b, c, rfl, hst, hb⟩
                                  replace FS := Lib.hid (heap_below hb (lt_of_heap FS.out) FS.out)
                                  replace FZ := Lib.hid (heap_below hb (lt_of_heap FZ.out) FZ.out)
                                  replace FD := Lib.hid (heap_below hb (lt_of_heap FD.out) FD.out)
                                  replace FP := Lib.hid (heap_below hb (lt_of_heap FP.out) FP.out)
                                  replace Fgi := Lib.hid (heap_below hb (lt_of_heap Fgi.out) Fgi.out)
                                  replace Fgk := Lib.hid (heap_below hb (lt_of_heap Fgk.out) Fgk.out)
                                  replace hB := bt hB hb
                                  clear hb
                                  obtain ⟨th, m1, m2, m3, kk, hsc⟩ := set_calls r z a b c r0 r1 z0 z1 hst
                                  have SC := Lib.hid hsc
                                  clear hst hsc
                                  have hbA := bl1 w2 (.cells #[.int .i8 a, .int .i8 b, .int .i8 c] 59)
                                  replace FS := Lib.hid (heap_below hbA (lt_of_heap FS.out) FS.out)
                                  replace FZ := Lib.hid (heap_below hbA (lt_of_heap FZ.out) FZ.out)
                                  replace FD := Lib.hid (heap_below hbA (lt_of_heap FD.out) FD.out)
                                  replace FP := Lib.hid (heap_below hbA (lt_of_heap FP.out) FP.out)
                                  replace Fgi := Lib.hid (heap_below hbA (lt_of_heap Fgi.out) Fgi.out)
                                  replace Fgk := Lib.hid (heap_below hbA (lt_of_heap Fgk.out) Fgk.out)
                                  have FX := Lib.hid (al1_0 w2 (.cells #[.int .i8 a, .int .i8 b, .int .i8 c] 59))
                                  replace hB := bt hB hbA
                                  clear hbA
                                  have cFP_0 := bk2_0 FP.out
                                  have cFP_1 := bk2_1 FP.out
                                  have cFgi_0 := bk2_0 Fgi.out
                                  have cFgi_1 := bk2_1 Fgi.out
                                  have cFgk_0 := bk2_0 Fgk.out
                                  have cFgk_1 := bk2_1 Fgk.out
                                  have cFX_0 := blk3_0 FX.out
                                  have cFX_1 := blk3_1 FX.out
                                  have cFX_2 := blk3_2 FX.out
                                  go_wp2_with fail
                                  clear cFP_0 cFP_1 cFgi_0 cFgi_1 cFgk_0 cFgk_1 cFX_0 cFX_1 cFX_2
                                  generalize w2.alloc (.cells #[.int .i8 a, .int .i8 b, .int .i8 c] 59) = w3 at *
                                  generalize w2.heap.size = gx at *
                                  refine (SC.out.exp _).mono ?_
                                  rintro e w4 ⟨rfl, hb⟩
                                  replace FS := Lib.hid (heap_below hb (lt_of_heap FS.out) FS.out)
                                  replace FZ := Lib.hid (heap_below hb (lt_of_heap FZ.out) FZ.out)
                                  replace FD := Lib.hid (heap_below hb (lt_of_heap FD.out) FD.out)
                                  replace FP := Lib.hid (heap_below hb (lt_of_heap FP.out) FP.out)
                                  replace Fgi := Lib.hid (heap_below hb (lt_of_heap Fgi.out) Fgi.out)
                                  replace Fgk := Lib.hid (heap_below hb (lt_of_heap Fgk.out) Fgk.out)
                                  replace FX := Lib.hid (heap_below hb (lt_of_heap FX.out) FX.out)
                                  replace hB := bt hB hb
                                  clear hb
                                  have cFP_0 := bk2_0 FP.out
                                  have cFP_1 := bk2_1 FP.out
                                  have cFgi_0 := bk2_0 Fgi.out
                                  have cFgi_1 := bk2_1 Fgi.out
                                  have cFgk_0 := bk2_0 Fgk.out
                                  have cFgk_1 := bk2_1 Fgk.out
                                  have cFX_0 := blk3_0 FX.out
                                  have cFX_1 := blk3_1 FX.out
                                  have cFX_2 := blk3_2 FX.out
                                  go_wp2_with fail
                                  clear cFP_0 cFP_1 cFgi_0 cFgi_1 cFgk_0 cFgk_1 cFX_0 cFX_1 cFX_2
                                  refine (SC.out.setFor _).mono ?_
                                  rintro e w5 ⟨rfl, hb⟩
                                  replace FS := Lib.hid (heap_below hb (lt_of_heap FS.out) FS.out)
                                  replace FZ := Lib.hid (heap_below hb (lt_of_heap FZ.out) FZ.out)
                                  replace FD := Lib.hid (heap_below hb (lt_of_heap FD.out) FD.out)
                                  replace FP := Lib.hid (heap_below hb (lt_of_heap FP.out) FP.out)
                                  replace Fgi := Lib.hid (heap_below hb (lt_of_heap Fgi.out) Fgi.out)
                                  replace Fgk := Lib.hid (heap_below hb (lt_of_heap Fgk.out) Fgk.out)
                                  replace FX := Lib.hid (heap_below hb (lt_of_heap FX.out) FX.out)
                                  replace hB := bt hB hb
                                  clear hb
                                  have hbA := bl1 w5 (.cells #[.int .i8 m1, .int .i8 m2, .int .i8 m3] 59)
                                  replace FS := Lib.hid (heap_below hbA (lt_of_heap FS.out) FS.out)
                                  replace FZ := Lib.hid (heap_below hbA (lt_of_heap FZ.out) FZ.out)
                                  replace FD := Lib.hid (heap_below hbA (lt_of_heap FD.out) FD.out)
                                  replace FP := Lib.hid (heap_below hbA (lt_of_heap FP.out) FP.out)
                                  replace Fgi := Lib.hid (heap_below hbA (lt_of_heap Fgi.out) Fgi.out)
                                  replace Fgk := Lib.hid (heap_below hbA (lt_of_heap Fgk.out) Fgk.out)
                                  replace FX := Lib.hid (heap_below hbA (lt_of_heap FX.out) FX.out)
                                  have FU := Lib.hid (al1_0 w5 (.cells #[.int .i8 m1, .int .i8 m2, .int .i8 m3] 59))
                                  replace hB := bt hB hbA
                                  clear hbA
                                  have cFP_0 := bk2_0 FP.out
                                  have cFP_1 := bk2_1 FP.out
                                  have cFgi_0 := bk2_0 Fgi.out
                                  have cFgi_1 := bk2_1 Fgi.out
                                  have cFgk_0 := bk2_0 Fgk.out
                                  have cFgk_1 := bk2_1 Fgk.out
                                  have cFX_0 := blk3_0 FX.out
                                  have cFX_1 := blk3_1 FX.out
                                  have cFX_2 := blk3_2 FX.out
                                  have cFU_0 := blk3_0 FU.out
                                  have cFU_1 := blk3_1 FU.out
                                  have cFU_2 := blk3_2 FU.out
                                  go_wp2_with fail
                                  clear cFP_0 cFP_1 cFgi_0 cFgi_1 cFgk_0 cFgk_1 cFX_0 cFX_1 cFX_2 cFU_0 cFU_1 cFU_2
                                  generalize w5.alloc (.cells #[.int .i8 m1, .int .i8 m2, .int .i8 m3] 59) = w6 at *
                                  generalize w5.heap.size = gu at *
                                  refine (SC.out.more _).mono ?_
                                  rintro e w7 ⟨rfl, hb⟩
                                  replace FS := Lib.hid (heap_below hb (lt_of_heap FS.out) FS.out)
                                  replace FZ := Lib.hid (heap_below hb (lt_of_heap FZ.out) FZ.out)
                                  replace FD := Lib.hid (heap_below hb (lt_of_heap FD.out) FD.out)
                                  replace FP := Lib.hid (heap_below hb (lt_of_heap FP.out) FP.out)
                                  replace Fgi := Lib.hid (heap_below hb (lt_of_heap Fgi.out) Fgi.out)
                                  replace Fgk := Lib.hid (heap_below hb (lt_of_heap Fgk.out) Fgk.out)
                                  replace FX := Lib.hid (heap_below hb (lt_of_heap FX.out) FX.out)
                                  replace FU := Lib.hid (heap_below hb (lt_of_heap FU.out) FU.out)
                                  replace hB := bt hB hb
                                  clear hb
                                  have heq : (th == 3 * z - 15) = true := by rw [SC.out.eth]; simp
                                  clear SC
                                  have hbA := bl1 w7 (.cells #[.int .i8 m1, .int .i8 m2, .int .i8 m3] 59)
                                  replace FS := Lib.hid (heap_below hbA (lt_of_heap FS.out) FS.out)
                                  replace FZ := Lib.hid (heap_below hbA (lt_of_heap FZ.out) FZ.out)
                                  replace FD := Lib.hid (heap_below hbA (lt_of_heap FD.out) FD.out)
                                  replace FP := Lib.hid (heap_below hbA (lt_of_heap FP.out) FP.out)
                                  replace Fgi := Lib.hid (heap_below hbA (lt_of_heap Fgi.out) Fgi.out)
                                  replace Fgk := Lib.hid (heap_below hbA (lt_of_heap Fgk.out) Fgk.out)
                                  replace FX := Lib.hid (heap_below hbA (lt_of_heap FX.out) FX.out)
                                  replace FU := Lib.hid (heap_below hbA (lt_of_heap FU.out) FU.out)
                                  have FV := Lib.hid (al1_0 w7 (.cells #[.int .i8 m1, .int .i8 m2, .int .i8 m3] 59))
                                  replace hB := bt hB hbA
                                  clear hbA
                                  have cFP_0 := bk2_0 FP.out
                                  have cFP_1 := bk2_1 FP.out
                                  have cFgi_0 := bk2_0 Fgi.out
                                  have cFgi_1 := bk2_1 Fgi.out
                                  have cFgk_0 := bk2_0 Fgk.out
                                  have cFgk_1 := bk2_1 Fgk.out
                                  have cFX_0 := blk3_0 FX.out
                                  have cFX_1 := blk3_1 FX.out
                                  have cFX_2 := blk3_2 FX.out
                                  have cFU_0 := blk3_0 FU.out
                                  have cFU_1 := blk3_1 FU.out
                                  have cFU_2 := blk3_2 FU.out
                                  have cFV_0 := blk3_0 FV.out
                                  have cFV_1 := blk3_1 FV.out
                                  have cFV_2 := blk3_2 FV.out
                                  go_wp2
                                  first | (refine HQ0 _ _ _ ?_; go_ret) | go_ret
                                  exact ⟨rfl, hB⟩
end Go.Proofs.Ytmnidldpkkpeoaa
