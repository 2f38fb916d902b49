/- The cells of a mask in order; the cells beside a cell; GrowMask: the walks. -/
import Derived.Test.YtdmlefccajaniaaDoorSpotP
import Derived.Test.YtdmlefccajaniaaDoorRow
import Derived.Laws.Bits64b
import Derived.Outline
namespace Go.Proofs.YtdmlefccajaniaaDoor
open Go.RowKit Go.Lib
/-- The table of math/bits lies in its variable. -/
def TabAt (w : World) : Prop := ∀ j, j < 64 → w.cell? ⟨0, j, none⟩ = some (.int .u8 (Lib.deBruijn64tab.getD j 0))
theorem TabAt_below {w w1 : World} (hb : Below w.heap.size w w1) (hz : 0 < w.heap.size) (h : TabAt w) : TabAt w1 := fun j hj => by rw [hb.cell (p := ⟨0, j, none⟩) hz]; exact h j hj
theorem TabAt_pos {w : World} (h : TabAt w) : 0 < w.heap.size := World.block_lt_of_cell? w _ (h 0 (by omega))
theorem tz64_key (x a : Nat) (hx : x < 18446744073709551616) (hlow : x &&& (18446744073709551616 - x) = a) (hx0 : x ≠ 0) :
    IntKind.u64.wrap (bits BinOp.and IntKind.u64 (x : Int) (IntKind.u64.wrap (-(x : Int))) * 285870213051353865) / 288230376151711744 = ((a * 285870213051353865 % 18446744073709551616 / 288230376151711744 : Nat) : Int) := by
  have e1 : IntKind.u64.wrap (-(x : Int)) = ((18446744073709551616 - x : Nat) : Int) := by rw [IntKind.wrap_u64]; omega
  rw [e1, bits_and_u64_nat x _ hx (by omega), hlow, IntKind.wrap_u64]
  omega
set_option maxHeartbeats 1000000 in
theorem tz64_core (x k idx : Nat) (w : World) (hx0 : ((x : Int) == 0) = false)
    (key : IntKind.u64.wrap (bits BinOp.and IntKind.u64 (x : Int) (IntKind.u64.wrap (-(x : Int))) * 285870213051353865) / 288230376151711744 = (idx : Int))
    (hi : idx < 64) (hk : k < 64) (hcell : w.cell? ⟨0, idx, none⟩ = some (.int .u8 k)) :
    Calls Tryd.prog 82 #[.int .u64 x] w fun e w' => e = .returned (.int .i64 k) ∧ w = w' := by
  go_enter Tryd.func82, Tryd.ntmps82
  go_wp2_with (simp only [key])
  go_ret
  exact ⟨rfl, rfl⟩
theorem tz64_c (x : Nat) (hx : x < 2 ^ 64) (hx0 : x ≠ 0) (w : World) (hT : TabAt w) :
    Calls Tryd.prog 82 #[.int .u64 x] w fun e w' => e = .returned (.int .i64 (ctz 64 x : Nat)) ∧ w = w' := by
  obtain ⟨hlow, hk⟩ := Lib.lowest_bit 64 x hx0 hx
  obtain ⟨hi, htab⟩ := Lib.deBruijn64_at _ hk
  have hi' : 2 ^ ctz 64 x * 285870213051353865 % 18446744073709551616 / 288230376151711744 < 64 := by simpa using hi
  have hcell := hT _ hi'
  rw [htab] at hcell
  exact tz64_core x _ _ w (by simp; omega) (tz64_key x _ hx hlow hx0) hi' hk hcell
theorem info_int : (Tryd.prog.info? 3).map (fun i => (i.zero, i.size, i.bytes)) = some (some (.int .i64 0), 1, 8) := by kernel_rfl
theorem and_pred_int (m : Nat) (hm : m < 2 ^ 64) (h0 : m ≠ 0) : bits .and .u64 (m : Int) ((m : Int) - 1) = ((m &&& (m - 1) : Nat) : Int) := by
  have := and64 m (m - 1) hm (by omega)
  rw [← this]; congr 1; omega
set_option maxHeartbeats 1000000 in
theorem cellsIn_c (m : Nat) (hm : m < 2 ^ 64) (w : World) (hT : TabAt w) :
    Calls Tryd.prog 48 #[.int .u64 m] w fun e w' => ∃ v, e = .returned v ∧ Row w' w.heap.size 3 .i64 v (bitsI m) ∧ Below w.heap.size w w' := by
  have hz := TabAt_pos hT
  have HT := Lib.hid hT
  have HM := Lib.hid hm
  clear hT hm
  go_enter Tryd.func48, Tryd.ntmps48
  go_wp2
  go_loopw [0, 3] (fun a v wr => ∃ M : Nat, a = .int .u64 M ∧ M < 2 ^ 64 ∧ ∃ xs : List Int, Row wr w.heap.size 3 .i64 v xs ∧ xs ++ bitsI M = bitsI m ∧ Below w.heap.size w wr) (fun a _ _ => (intOf a).toNat)
  case atStart => exact ⟨m, rfl, HM.out, [], row_new _ _ _ _ (Nat.le_refl _), rfl, bl1 _ _⟩
  case round =>
    obtain ⟨M, rfl, hM, xs, hR, hx, hW⟩ := hrel
    have HR := Lib.hid hR
    have HW := Lib.hid hW
    have HX := Lib.hid hx
    have HMM := Lib.hid hM
    clear hR hW hx hM
    have HT2 := Lib.hid (TabAt_below HW.out hz HT.out)
    by_cases h0 : M = 0
    · have HX2 : Hid (xs = bitsI m) := Lib.hid (by have := HX.out; rw [h0, bitsI, bitsL_zero] at this; simpa using this)
      subst h0
      go_wp2
      go_ret
      exact ⟨_, rfl, by rw [← HX2.out]; exact HR.out, HW.out⟩
    · have hne : ((M : Int) != 0) = true := by simp; omega
      have hM1 : 1 ≤ (M : Int) := by omega
      have HA := Lib.hid (and_pred_int M HMM.out h0)
      have HC : Hid (bitsI M = [((ctz 64 M : Nat) : Int)] ++ bitsI (M &&& (M - 1))) := Lib.hid (by simp only [bitsI]; rw [bitsL_cons M h0]; simp)
      have HX2 : Hid ((xs ++ [((ctz 64 M : Nat) : Int)]) ++ bitsI (M &&& (M - 1)) = bitsI m) := Lib.hid (by rw [List.append_assoc, ← HC.out, HX.out])
      have hlen : xs.length ≤ 64 := by
        have h1 := congrArg List.length HX.out
        have h2 := bitsL_le m HM.out
        rw [List.length_append, bitsI_len, bitsI_len] at h1
        omega
      have HLt := Lib.hid (and_pred_lt M h0)
      have hct : ctz 64 M < 64 := (ctz_low h0 HMM.out).choose_spec.2
      have hmx : (M : Int) < 18446744073709551616 := by have := HMM.out; omega
      have HH0 := Lib.hid h0
      clear h0
      go_wp2_with fail
      refine (tz64_c M HMM.out HH0.out _ HT2.out).mono ?_
      rintro e w' ⟨rfl, rfl⟩
      generalize hcz : ctz 64 M = t at *
      clear hcz
      go_wp2_with (at_builtin; refine wpList_app rfl (.tmp 11) (.tmp 14) 76 rfl w.heap.size 3 .i64 8 Tryd.underlying76 info_int (by decide) _ _ rfl (row_alloc HR.out _) wr.heap.size 1 (t : Int) rfl (by simp) (by omega) (by simp; have := HW.out.size; omega) ?_; intro v1 w1 hrow hgr hbk; have HW3 := Lib.hid (below_app (HW.out.alloc HW.out.size _) hgr (Nat.le_refl _) hbk); have HR3 := Lib.hid hrow; clear hrow hgr hbk)
      go_roundw
      case rel => exact ⟨M &&& (M - 1), by rw [HA.out], by have := HLt.out; have := HMM.out; omega, _, HR3.out, HX2.out, HW3.out⟩
      case measure => simp only [intOf]; rw [HA.out]; have := HLt.out; omega
set_option maxHeartbeats 2000000 in
theorem around_c (i : Nat) (hi : i < 64) (w : World) :
    Calls Tryd.prog 49 #[.int .i64 i] w fun e w' => e = .returned (.int .u64 (arM i : Nat)) ∧ w = w' := by
  by_cases h1 : 0 < i % 8 <;> by_cases h2 : i % 8 < 7 <;> by_cases h3 : 8 ≤ i <;> by_cases h4 : i < 56
  all_goals first | (exfalso; omega) | skip
  all_goals
    go_enter Tryd.func49, Tryd.ntmps49
    go_wp2
    all_goals first | (exfalso; omega) | skip
    go_ret
    refine ⟨ret_int (isI_ar (i := i) ?_), rfl⟩
    first
      | with_reducible refine ⟨_, (isI_or (isI_or (isI_or (isI_or isI_zero ?_) ?_) ?_) ?_), fun j hj => ?_⟩
      | with_reducible refine ⟨_, (isI_or (isI_or (isI_or isI_zero ?_) ?_) ?_), fun j hj => ?_⟩
      | with_reducible refine ⟨_, (isI_or (isI_or isI_zero ?_) ?_), fun j hj => ?_⟩
    all_goals first
      | omega
      | (rw [Bool.eq_iff_iff]; simp [arB, h1, h2, h3, h4] <;> omega)
set_option maxHeartbeats 1000000 in
theorem specGrow_c (m : Nat) (hm : m < 2 ^ 64) (w : World) :
    Calls Tryd.prog 50 #[.int .u64 m] w fun e w' => e = .returned (.int .u64 (gr m : Nat)) ∧ w = w' := by
  have hmx : (m : Int) < 18446744073709551616 := by omega
  go_enter Tryd.func50, Tryd.ntmps50
  go_wp2
  go_ret
  exact ⟨ret_int (grow_int m hm), rfl⟩
/-- Where a list of numbers lies. -/
def PI (w : World) (q : Option Addr) (fs : List Int) : Prop := fs ≠ [] → ∃ b o, q = some ⟨b, o, none⟩ ∧ b < w.heap.size ∧ ∀ i, i < fs.length → w.cell? ⟨b, o + i, none⟩ = some (.int .i64 (fs.getD i 0))
theorem PI_below {w w1 : World} {q : Option Addr} {fs : List Int} (hb : Below w.heap.size w w1) (h : PI w q fs) : PI w1 q fs := fun hl => by
  obtain ⟨b, o, h1, h2, h3⟩ := h hl
  exact ⟨b, o, h1, Nat.lt_of_lt_of_le h2 hb.size, fun i hi => by rw [hb.cell (p := ⟨b, o + i, none⟩) h2]; exact h3 i hi⟩
theorem neI_of_lt {l : List Int} {k : Nat} (h : k < l.length) : l ≠ [] := by rintro rfl; simp at h
theorem row_PI {w : World} {base : Nat} {e : TypeId} {v : Value} {xs : List Int} (h : Row w base e .i64 v xs) : ∃ p cap, v = .slice p xs.length cap ∧ PI w p xs := by
  by_cases hne : xs = []
  · subst hne
    obtain ⟨_, h2⟩ := h
    rcases h2 with ⟨h2, _⟩ | ⟨g, cap, cur, hv, _⟩
    · exact ⟨none, 0, h2, fun h => absurd rfl h⟩
    · exact ⟨_, cap, hv, fun h => absurd rfl h⟩
  · obtain ⟨g, cap, hv, _, hg, _, _, hc⟩ := row_shape h hne
    exact ⟨_, cap, hv, fun _ => ⟨g, 0, rfl, hg, fun i hi => by rw [Nat.zero_add]; exact hc i hi⟩⟩
theorem any_take (l : List Nat) (f : Nat → Bool) (k : Nat) (h : k < l.length) : (l.take (k + 1)).any f = ((l.take k).any f || f (l.getD k 0)) := by
  rw [List.take_succ_eq_append_getElem h, List.any_append]
  simp [List.getD_eq_getElem?_getD, h]
set_option maxHeartbeats 1000000 in
theorem implGrowMask_c (m : Nat) (hm : m < 2 ^ 64) (w : World) (hT : TabAt w) :
    Calls Tryd.prog 14 #[.int .u64 m] w fun e w' => e = .returned (.int .u64 (gr m : Nat)) ∧ Below w.heap.size w w' := by
  have HT := Lib.hid hT
  have HM := Lib.hid hm
  clear hT hm
  go_enter Tryd.func14, Tryd.ntmps14
  go_wp2_with fail
  refine (cellsIn_c m HM.out _ HT.out).mono ?_
  rintro e w1 ⟨v, rfl, hR, hb1⟩
  obtain ⟨p, cap, rfl, hP⟩ := row_PI hR
  have HP := Lib.hid hP
  have HB := Lib.hid hb1
  have HL := Lib.hid (bitsI_len m)
  have H64 := bitsL_le m HM.out
  clear hP hb1 hR
  rw [HL.out]
  generalize hn : (bitsL m).length = n at *
  have HN := Lib.hid hn
  clear hn
  go_wp2
  go_loop [3, 10] (fun d i => ∃ k D : Nat, k ≤ n ∧ i = .int .i64 k ∧ d = .int .u64 D ∧ isM D (fun j => m.testBit j || ((bitsL m).take k).any fun i => arB i j)) (fun _ i => n - (intOf i).toNat)
  case atStart => exact ⟨0, m, Nat.zero_le _, rfl, rfl, isM_congr (isM_self m HM.out) fun j _ => by simp⟩
  case round =>
    obtain ⟨k, D, hk, rfl, rfl, hD⟩ := hrel
    have HD := Lib.hid hD
    clear hD
    by_cases hlt : k < n
    · obtain ⟨b, o, rfl, hb, hat⟩ := HP.out (neI_of_lt (k := k) (by rw [HL.out]; exact hlt))
      have hx1 := hat k (by rw [HL.out]; exact hlt)
      rw [bitsI_get m k (by rw [HN.out]; exact hlt)] at hx1
      have hx64 := bitsL_lt m HM.out k (by rw [HN.out]; exact hlt)
      have HX : Hid (isM (D ||| arM ((bitsL m).getD k 0)) (fun j => m.testBit j || ((bitsL m).take (k + 1)).any fun i => arB i j)) := Lib.hid (isM_congr (isM_or HD.out (isM_mask (arB ((bitsL m).getD k 0)))) fun j _ => by
        rw [any_take _ _ _ (by rw [HN.out]; exact hlt)]; simp [Bool.or_assoc])
      generalize (bitsL m).getD k 0 = x at *
      have HO : Hid (bits .or .u64 (D : Int) (arM x : Nat) = ((D ||| arM x : Nat) : Int)) := Lib.hid (or64 D (arM x) HD.out.1 (arM_lt x))
      clear hat
      go_wp2_with (go_at_call 49; refine (around_c x hx64 _).mono ?_; rintro e w' ⟨rfl, rfl⟩)
      go_round
      case rel => exact ⟨k + 1, D ||| arM x, by omega, by go_num, by exact congrArg _ HO.out, HX.out⟩
      case measure => simp [intOf]; omega
    · have hkn : k = n := by omega
      subst hkn
      have HE : Hid (D = gr m) := Lib.hid (gr_of (isM_congr HD.out fun j hj => by rw [← HN.out, List.take_length]; exact grB_any m HM.out j hj))
      go_wp2
      go_ret
      exact ⟨ret_int (by rw [HE.out]), HB.out⟩
theorem specGrowMask_c (m : Nat) (hm : m < 2 ^ 64) (w : World) :
    Calls Tryd.prog 16 #[.int .u64 m] w fun e w' => e = .returned (.int .u64 (gr m : Nat)) ∧ w = w' := by
  go_enter Tryd.func16, Tryd.ntmps16
  go_wp2_with (go_at_call 50; refine (specGrow_c m hm _).mono ?_; rintro e w' ⟨rfl, rfl⟩)
  go_ret
  exact ⟨rfl, rfl⟩
end Go.Proofs.YtdmlefccajaniaaDoor
