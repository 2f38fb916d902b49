/- The repair of cells: the reference. -/
import Derived.Test.YtdmlefccajaniaaDoorRepC
namespace Go.Proofs.YtdmlefccajaniaaDoor
open Go.RowKit Go.Lib
theorem xor64 (a b : Nat) (ha : a < 2 ^ 64) (hb : b < 2 ^ 64) : bits .xor .u64 a b = ((a ^^^ b : Nat) : Int) := by
  have ha' : a % 2 ^ IntKind.u64.bits = a := Nat.mod_eq_of_lt ha
  have hb' : b % 2 ^ IntKind.u64.bits = b := Nat.mod_eq_of_lt hb
  simp only [bits, BitVec.ofInt_natCast, BitVec.toNat_xor, BitVec.toNat_ofNat, ha', hb']
  have h := Nat.xor_lt_two_pow ha hb
  exact wr_u64 _ (Int.natCast_nonneg _) (by exact_mod_cast h)
theorem xor_zero (a b : Nat) (h : a ^^^ b = 0) : a = b := by
  apply Nat.eq_of_testBit_eq
  intro j
  have h1 := congrArg (fun n => n.testBit j) h
  simp only [Nat.testBit_xor, Nat.zero_testBit] at h1
  revert h1
  cases a.testBit j <;> cases b.testBit j <;> simp
theorem not_full (M : Nat) (hM : M < 2 ^ 64) (h : M ≠ 18446744073709551615) : ((bits .xor .u64 IntKind.u64.max (M : Int)) == 0) = false := by
  have e : IntKind.u64.max = ((18446744073709551615 : Nat) : Int) := by decide
  rw [e, xor64 _ _ (by decide) hM]
  simp only [beq_eq_false_iff_ne, ne_eq, Int.natCast_eq_zero]
  intro hx
  exact h (xor_zero _ _ hx).symm
theorem is_full : ((bits .xor .u64 IntKind.u64.max 18446744073709551615) == 0) = true := by decide
theorem sgn_u64 : (if IntKind.u64.signed = true then (-1 : Int) else IntKind.u64.max) = IntKind.u64.max := by rw [if_neg (by decide)]
set_option maxHeartbeats 2000000 in
set_option maxRecDepth 100000 in
theorem specRC_c (p : List Int) (hp : Pr p) (M : Nat) (hM : M < 2 ^ 64) (w : World) :
    Calls Tryd.prog 20 #[.agg (arr .i16 p), .int .u64 M] w fun e w' => e = .returned (.tuple #[.agg (arr .i16 (rcV p M).1), .int .i64 (rcV p M).2.1, .int .i64 (rcV p M).2.2]) ∧ Below w.heap.size w w' := by
  have HP := Lib.hid hp
  have HM := Lib.hid hM
  have K0 := Lib.hid (al2_0 w (.cells (arr .i16 p) 37) (.cells (arr .i16 Z64) 37))
  have K1 := Lib.hid (al2_1 w (.cells (arr .i16 p) 37) (.cells (arr .i16 Z64) 37))
  have HW0 := Lib.hid (bl2 w (.cells (arr .i16 p) 37) (.cells (arr .i16 Z64) 37))
  clear hp hM
  go_enter Tryd.func20, Tryd.ntmps20
  go_wp2_with fail
  rw [z64_Z]
  generalize ((w.alloc (.cells (arr .i16 p) 37)).alloc (.cells (arr .i16 Z64) 37)) = w0 at *
  refine (l03Print_c p HP.out w.heap.size 0 _ (rangeAt_arr K0.out)).mono ?_
  rintro e w1 ⟨rfl, hb1⟩
  have HW1 := Lib.hid (bt HW0.out hb1)
  have H0 := Lib.hid (heap_below hb1 (lt_of_heap K0.out) K0.out)
  have H1 := Lib.hid (heap_below hb1 (lt_of_heap K1.out) K1.out)
  clear hb1 HW0 K0 K1
  cases hok : okP p
  · have HV := Lib.hid (rcV_bad (M := M) hok)
    clear hok
    go_wp2_with (rw [z64_Z]; refine wpList_store_row rfl 37 (.tmp 4) (.tmp 10) rfl (w.heap.size + 1) (arr .i16 Z64) rfl rfl 37 (arr .i16 Z64) H1.out (by rw [szPrint, arr_size, Z64_length]) rfl (arr_one _ _) ?_)
    exact bodyPost_ret (rep_ctt rfl _ _ _ 37 _ _ _ rfl (setRow_heap _ _ _ _ _ _ H1.out) Tryd.underlying37 rfl (by rw [szPrint, arr_size, Z64_length])) rfl ⟨by rw [HV.out] <;> rfl, below_setRow HW1.out (by omega) _⟩
  · by_cases hf : M = 18446744073709551615
    · have HV : Hid (rcV p M = (Z64, 0, 6)) := Lib.hid (by rw [hf]; exact rcV_full hok)
      have hMi : (M : Int) = 18446744073709551615 := by omega
      have hx1 := sgn_u64
      have hx2 := is_full
      clear hok
      rw [hMi]
      go_wp2_with (rw [z64_Z]; refine wpList_store_row rfl 37 (.tmp 4) (.tmp 14) rfl (w.heap.size + 1) (arr .i16 Z64) rfl rfl 37 (arr .i16 Z64) H1.out (by rw [szPrint, arr_size, Z64_length]) rfl (arr_one _ _) ?_)
      exact bodyPost_ret (rep_ctt rfl _ _ _ 37 _ _ _ rfl (setRow_heap _ _ _ _ _ _ H1.out) Tryd.underlying37 rfl (by rw [szPrint, arr_size, Z64_length])) rfl ⟨by rw [HV.out] <;> rfl, below_setRow HW1.out (by omega) _⟩
    · have HV := Lib.hid (rcV_ok hok hf)
      have hv := okP_get hok
      have HS := Lib.hid (RA_start HP.out hv HM.out hf)
      have HPr := Lib.hid (ra_Pr 65 p M 0 HP.out hv)
      have hx1 := sgn_u64
      have hx2 := not_full M HM.out hf
      clear hok hv
      go_wp2_with fail
      clear hx1 hx2
      go_loopw [1, 7] (fun m r wr => ∃ (M' r' : Nat) (p' : List Int), m = .int .u64 M' ∧ r = .int .i64 r' ∧ RA p M p' M' r' ∧ wr.heap[w.heap.size]? = some (.cells (arr .i16 p') 37 (0, 0)) ∧ wr.heap[w.heap.size + 1]? = some (.cells (arr .i16 Z64) 37 (0, 0)) ∧ Below w.heap.size w wr) (fun m _ _ => cnt (intOf m).toNat)
      case atStart => exact ⟨M, 0, p, rfl, rfl, HS.out, H0.out, H1.out, HW1.out⟩
      case round =>
        obtain ⟨M', r, p', rfl, rfl, hRA, hG, hZ, hW⟩ := hrel
        have HR := Lib.hid hRA
        have HG1 := Lib.hid hG
        have HZ := Lib.hid hZ
        have HW := Lib.hid hW
        have hbd := RA_bd hRA
        have HBD := Lib.hid hbd
        have hr65 := hbd.1
        clear hRA hG hZ hW hbd
        by_cases h0 : M' = 0
        · subst h0
          have HE := Lib.hid (RA_end HR.out)
          have hsz : (arr .i16 p').size = 64 := by rw [arr_size, HBD.out.2.1.1]
          go_wp2_with (first
            | (refine wpList_load_row rfl 37 (.tmp 2) rfl w.heap.size rfl _ _ _ _ HG1.out Tryd.underlying37 rfl (by rw [szPrint, hsz]) ?_)
            | (refine wpList_store_row rfl 37 (.tmp 4) (.tmp 21) rfl (w.heap.size + 1) (arr .i16 p') rfl rfl 37 (arr .i16 Z64) HZ.out (by rw [szPrint, hsz]) (by rw [hsz, arr_size, Z64_length]) (arr_one _ _) ?_))
          exact bodyPost_ret (rep_ctt rfl _ _ _ 37 _ _ _ rfl (setRow_heap _ _ _ _ _ _ HZ.out) Tryd.underlying37 rfl (by rw [szPrint, hsz])) rfl ⟨by rw [HV.out, HE.out] <;> rfl, below_setRow HW.out (by omega) _⟩
        · have hne : ((M' : Int) != 0) = true := by simp; omega
          have HST := Lib.hid (RA_step HR.out h0)
          have HC := Lib.hid (specRound_c p' HBD.out.2.1 HBD.out.2.2.1 M' HBD.out.2.2.2 w.heap.size w.heap.size wr (Nat.le_refl _) HG1.out)
          clear h0
          generalize rm M' = M2 at *
          generalize rp p' M' = p2 at *
          go_wp2_with (go_at_call 57; refine (HC.out).mono ?_; rintro e w2 ⟨rfl, hG2, hb2⟩; have HG2 := Lib.hid hG2; have HZ2 : Hid (w2.heap[w.heap.size + 1]? = _) := Lib.hid ((hb2.2 _ (lt_of_heap HZ.out) (by omega)).trans HZ.out); have HW2 := Lib.hid (HW.out.trans hb2.1); clear hG2 hb2)
          go_roundw
          case rel => exact ⟨M2, r + 1, p2, rfl, by go_num, HST.out.1, HG2.out, HZ2.out, HW2.out⟩
          case measure => simp only [intOf, Int.toNat_natCast]; exact HST.out.2
end Go.Proofs.YtdmlefccajaniaaDoor
