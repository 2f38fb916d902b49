/- A mask read from its text: plain facts. -/
import Derived.Test.YtdmlefccajaniaaDoorMask
import Derived.Test.YtdmlefccajaniaaDoorMaskB
namespace Go.Proofs.YtdmlefccajaniaaDoor
open Go.RowKit
theorem mtB_len2 (m k : Nat) : (mtB m k).length = k + k / 8 := by
  induction k with
  | zero => rfl
  | succ k ih =>
    simp only [mtB]
    by_cases h : k % 8 = 7
    · simp [h, ih]; omega
    · simp [h, ih]; omega
/-- The byte at place i. -/
def byteAt (m i : Nat) : Int := if i % 9 = 8 then 10 else if m.testBit (i / 9 * 8 + i % 9) then 35 else 46
theorem mtB_get (m k i : Nat) (hi : i < k + k / 8) : (mtB m k)[i]? = some (byteAt m i) := by
  induction k with
  | zero => simp at hi
  | succ k ih =>
    have hl := mtB_len2 m k
    simp only [mtB]
    by_cases h : i < k + k / 8
    · rw [List.append_assoc, List.getElem?_append_left (by omega)]; exact ih h
    · by_cases h2 : i = k + k / 8
      · rw [List.append_assoc, List.getElem?_append_right (by omega), hl, h2, Nat.sub_self]
        have e1 : (k + k / 8) % 9 ≠ 8 := by omega
        have e2 : (k + k / 8) / 9 * 8 + (k + k / 8) % 9 = k := by omega
        simp [byteAt, e1, e2]
      · have h7 : k % 8 = 7 := by omega
        have h3 : i = k + k / 8 + 1 := by omega
        have e0 : i - (mtB m k ++ [if m.testBit k then (35 : Int) else 46]).length = 0 := by simp [hl]; omega
        rw [List.getElem?_append_right (by simp [hl]; omega), e0, if_pos h7]
        have e1 : i % 9 = 8 := by omega
        simp [byteAt, e1]
theorem foldl_push (ns : List Int) : ∀ r : ByteArray, ns.foldl (fun r n => r.push (UInt8.ofNat n.toNat)) r = ⟨r.data ++ (ns.map (fun n => UInt8.ofNat n.toNat)).toArray⟩ := by
  induction ns with
  | nil => intro r; simp
  | cons n ns ih => intro r; rw [List.foldl_cons, ih]; simp [ByteArray.push]
theorem mtS_eq (m : Nat) : mtS m = ⟨((mtB m 64).map (fun n => UInt8.ofNat n.toNat)).toArray⟩ := by
  rw [mtS, foldl_push, show ByteArray.empty.data = #[] from rfl, Array.empty_append]
theorem mtS_size (m : Nat) : (mtS m).data.size = 72 := by rw [mtS_eq]; simp [mtB_len2]
theorem mtS_get (m i : Nat) (hi : i < 72) : (mtS m).data[i]? = some (UInt8.ofNat (byteAt m i).toNat) := by
  rw [mtS_eq]
  simp [mtB_get m 64 i (by omega)]
/-- The byte of a text at a place. -/
def bAt (s : ByteArray) (i : Nat) : Nat := (s.data[i]?.getD 0).toNat
/-- A text that is a mask's. -/
def okB (s : ByteArray) (i : Nat) : Prop := if i % 9 = 8 then bAt s i = 10 else bAt s i = 35 ∨ bAt s i = 46
/-- The mask that the text tells, of its first k cells. -/
def rmP (s : ByteArray) (j : Nat) : Bool := decide (bAt s (j / 8 * 9 + j % 8) = 35)
theorem byteAt_lt (m i : Nat) : (UInt8.ofNat (byteAt m i).toNat).toNat = (byteAt m i).toNat := by
  unfold byteAt; split
  · rfl
  · split <;> rfl
theorem mtS_bAt (m i : Nat) (hi : i < 72) : bAt (mtS m) i = (byteAt m i).toNat := by
  rw [bAt, mtS_get m i hi, Option.getD_some, byteAt_lt]
theorem mtS_ok (m i : Nat) (hi : i < 72) : okB (mtS m) i := by
  unfold okB; rw [mtS_bAt m i hi]; unfold byteAt
  split
  · rfl
  · split <;> simp
instance (s : ByteArray) (i : Nat) : Decidable (okB s i) := by unfold okB; infer_instance
/-- The first k bytes are a mask's. -/
def okT (s : ByteArray) (k : Nat) : Prop := ∀ i, i < k → okB s i
theorem bAt_eq {s : ByteArray} {i : Nat} (h : i < s.data.size) : s.data[i]? = some (UInt8.ofNat (bAt s i)) := by
  unfold bAt
  rw [Array.getElem?_eq_getElem h, Option.getD_some, UInt8.ofNat_toNat]
theorem text_of_mask (s : ByteArray) (hz : s.data.size = 72) (h : okT s 72) : mtS (maskOf (rmP s) 64) = s := by
  have e : (mtS (maskOf (rmP s) 64)).data = s.data := by
    apply Array.ext_getElem?
    intro i
    by_cases hi : i < 72
    · rw [mtS_get _ _ hi, bAt_eq (by omega)]
      congr 2
      have := h i hi
      unfold okB at this
      unfold byteAt
      by_cases h9 : i % 9 = 8
      · rw [if_pos h9] at this ⊢; rw [this]; rfl
      · rw [if_neg h9] at this ⊢
        rw [maskOf_bit]
        have e1 : (i / 9 * 8 + i % 9) / 8 * 9 + (i / 9 * 8 + i % 9) % 8 = i := by omega
        have e2 : i / 9 * 8 + i % 9 < 64 := by omega
        have e3 : rmP s (i / 9 * 8 + i % 9) = decide (bAt s i = 35) := by unfold rmP; rw [e1]
        rw [e3]
        rcases this with h1 | h1
        · simp [e2, h1]
        · simp [e2, h1]
    · rw [Array.getElem?_eq_none (by rw [mtS_size]; omega), Array.getElem?_eq_none (by omega)]
  cases hs : mtS (maskOf (rmP s) 64); cases s; simp_all
theorem mask_text (s : ByteArray) (m : Nat) (h : mtS m = s) : okT s 72 := fun i hi => by rw [← h]; exact mtS_ok m i hi
open Classical in
/-- What ReadMask returns. -/
noncomputable def rmV (s : ByteArray) : Nat × Int := if s.data.size = 72 ∧ okT s 72 then (maskOf (rmP s) 64, 0) else (0, 5)
theorem rmV_yes {s : ByteArray} (h : s.data.size = 72 ∧ okT s 72) : rmV s = (maskOf (rmP s) 64, 0) := by unfold rmV; rw [if_pos h]
theorem rmV_no {s : ByteArray} (h : ¬ (s.data.size = 72 ∧ okT s 72)) : rmV s = (0, 5) := by unfold rmV; rw [if_neg h]
theorem mask_step64 (p : Nat → Bool) (k : Nat) : maskOf p (k + 1) = maskOf p k ||| (if p k then 2 ^ k else 0) := rfl
theorem or_step (p : Nat → Bool) (k : Nat) (hk : k < 64) (h : p k = true) : bits .or .u64 (maskOf p k : Nat) ((2 : Int) ^ k) = ((maskOf p (k + 1) : Nat) : Int) := by
  have h1 : maskOf p k < 2 ^ 64 := Nat.lt_of_lt_of_le (maskOf_lt p k) (Nat.pow_le_pow_right (by omega) (by omega))
  have h2 : 2 ^ k < 2 ^ 64 := Nat.pow_lt_pow_right (by omega) (by omega)
  have := or64 (maskOf p k) (2 ^ k) h1 h2
  rw [mask_step64 p k, if_pos h, ← this]; simp
theorem stay_step (p : Nat → Bool) (k : Nat) (h : p k = false) : maskOf p (k + 1) = maskOf p k := by simp [maskOf, h]
set_option maxHeartbeats 1000000 in
set_option maxRecDepth 100000 in
theorem implReadMask_c (s : ByteArray) (w : World) :
    Calls Tryd.prog 9 #[.string s] w fun e w' => e = .returned (.tuple #[.int .u64 ((rmV s).1 : Nat), .int .i64 (rmV s).2]) ∧ Below w.heap.size w w' := by
  by_cases hz : s.size = 72
  · go_enter Tryd.func9, Tryd.ntmps9
    go_wp2
    go_loop [4, 5, 12] (fun b c i => ∃ k M n : Nat, k ≤ 72 ∧ i = .int .i64 k ∧ c = .int .i64 n ∧ b = .int .u64 M ∧ n ≤ k ∧ M < 2 ^ 64 ∧ (okT s 72 → n = k - k / 9 ∧ M = maskOf (rmP s) n)) (fun _ _ i => 72 - (intOf i).toNat)
    case atStart => exact ⟨0, 0, 0, by omega, rfl, rfl, rfl, by omega, by omega, fun _ => ⟨rfl, rfl⟩⟩
    case round =>
      obtain ⟨k, M, n, hk, rfl, rfl, rfl, hn, hM, hok⟩ := hrel
      have hzz : (s.size : Int) = 72 := by omega
      have HM := Lib.hid hM
      by_cases hlt : k < 72
      · have hkz : k < s.size := by omega
        have hby : (s[k]'hkz).toNat = bAt s k := by unfold bAt; rw [Array.getElem?_eq_getElem hkz]; rfl
        have HK : Hid (okT s 72 → okB s k) := Lib.hid fun h => h k hlt
        have HO := Lib.hid hok
        clear hok hM
        by_cases h10 : bAt s k = 10
        · have HN : Hid (okT s 72 → n = (k + 1) - (k + 1) / 9 ∧ M = maskOf (rmP s) n) := Lib.hid fun h => by
            have h1 := HO.out h
            have h2 := HK.out h
            unfold okB at h2
            by_cases h9 : k % 9 = 8
            · exact ⟨by omega, h1.2⟩
            · rw [if_neg h9] at h2; omega
          rw [h10] at hby
          go_wp2
          go_round
          case rel => exact ⟨k + 1, M, n, by omega, by go_num, rfl, rfl, by omega, HM.out, HN.out⟩
          case measure => simp [intOf]; omega
        · have hd1 : ((bAt s k : Int) == 10) = false := by simp; omega
          by_cases h35 : bAt s k = 35
          · by_cases h64 : n < 64
            · have hp := pow64 n h64
              have ho := or64 M (2 ^ n) HM.out (Nat.pow_lt_pow_right (by omega) (by omega))
              have HB : Hid (bits .or .u64 (M : Nat) (IntKind.u64.wrap ((2 : Int) ^ n)) = ((M ||| 2 ^ n : Nat) : Int)) := Lib.hid (by rw [hp, ← ho]; simp)
              have HN : Hid (okT s 72 → n + 1 = (k + 1) - (k + 1) / 9 ∧ M ||| 2 ^ n = maskOf (rmP s) (n + 1)) := Lib.hid fun h => by
                have h1 := HO.out h
                have h2 := HK.out h
                unfold okB at h2
                by_cases h9 : k % 9 = 8
                · rw [if_pos h9] at h2; omega
                · have hr : rmP s n = true := by unfold rmP; rw [h1.1, show (k - k / 9) / 8 * 9 + (k - k / 9) % 8 = k by omega, h35]; rfl
                  exact ⟨by omega, by rw [mask_step64, hr, if_pos rfl, h1.2]⟩
              have HL : Hid (M ||| 2 ^ n < 2 ^ 64) := Lib.hid (Nat.or_lt_two_pow HM.out (Nat.pow_lt_pow_right (by omega) (by omega)))
              rw [h35] at hby
              clear hp ho
              go_wp2
              go_round
              case rel => exact ⟨k + 1, M ||| 2 ^ n, n + 1, by omega, by go_num, by go_num, by exact congrArg _ HB.out, by omega, HL.out, HN.out⟩
              case measure => simp [intOf]; omega
            · have HN : Hid (okT s 72 → n + 1 = (k + 1) - (k + 1) / 9 ∧ M = maskOf (rmP s) (n + 1)) := Lib.hid fun h => by
                have h1 := HO.out h
                have h2 := HK.out h
                unfold okB at h2
                by_cases h9 : k % 9 = 8
                · rw [if_pos h9] at h2; omega
                · omega
              rw [h35] at hby
              go_wp2
              go_round
              case rel => exact ⟨k + 1, M, n + 1, by omega, by go_num, by go_num, rfl, by omega, HM.out, HN.out⟩
              case measure => simp [intOf]; omega
          · have hd2 : ((bAt s k : Int) == 35) = false := by simp; omega
            have HN : Hid (okT s 72 → n + 1 = (k + 1) - (k + 1) / 9 ∧ M = maskOf (rmP s) (n + 1)) := Lib.hid fun h => by
              have h1 := HO.out h
              have h2 := HK.out h
              unfold okB at h2
              by_cases h9 : k % 9 = 8
              · rw [if_pos h9] at h2; omega
              · have hr : rmP s n = false := by unfold rmP; rw [h1.1, show (k - k / 9) / 8 * 9 + (k - k / 9) % 8 = k by omega]; simp [h35]
                exact ⟨by omega, by rw [stay_step _ _ hr]; exact h1.2⟩
            go_wp2
            go_round
            case rel => exact ⟨k + 1, M, n + 1, by omega, by go_num, by go_num, rfl, by omega, HM.out, HN.out⟩
            case measure => simp [intOf]; omega
      · have hk72 : k = 72 := by omega
        subst hk72
        by_cases hq : okT s 72
        · have h1 := hok hq
          have hM2 : M = maskOf (rmP s) 64 := by rw [h1.2, h1.1]
          have HV := Lib.hid (rmV_yes (s := s) ⟨hz, hq⟩)
          have HT : Hid (mtS M = s) := Lib.hid (by rw [hM2]; exact text_of_mask s hz hq)
          clear h1 hok hM
          generalize maskOf (rmP s) 64 = T at *
          subst hM2
          go_wp2_with fail
          refine (implMaskText_c M HM.out _).mono ?_
          rintro e w1 ⟨rfl, hb1⟩
          rw [HT.out]
          go_wp2
          go_ret2
          exact ⟨by rw [HV.out] <;> rfl, hb1⟩
        · have HV := Lib.hid (rmV_no (s := s) (fun h => hq h.2))
          have hne : mtS M ≠ s := fun h => hq (mask_text s M h)
          clear hok hM
          go_wp2_with fail
          refine (implMaskText_c M HM.out _).mono ?_
          rintro e w1 ⟨rfl, hb1⟩
          generalize mtS M = t at *
          have hne1 : (t.toList == s.toList) = false := by
            rw [ByteArray.toList_eq, ByteArray.toList_eq, beq_eq_false_iff_ne]
            intro h
            refine hne ?_
            cases t; cases s
            simp_all
          go_wp2
          go_ret2
          exact ⟨by rw [HV.out] <;> rfl, hb1⟩
  · have HV := Lib.hid (rmV_no (s := s) (fun h => hz h.1))
    have hzb : ((s.size : Int) != 72) = true := by simp; omega
    go_enter Tryd.func9, Tryd.ntmps9
    go_wp2
    go_ret2
    exact ⟨by rw [HV.out] <;> rfl, Below.refl _ _⟩
end Go.Proofs.YtdmlefccajaniaaDoor
