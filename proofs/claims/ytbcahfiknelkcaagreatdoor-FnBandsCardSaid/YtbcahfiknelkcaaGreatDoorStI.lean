/- ReadStrip: the program. -/
import Derived.Test.YtbcahfiknelkcaaGreatDoorStR
import Derived.Test.YtbcahfiknelkcaaGreatDoorRdE
import Derived.Lib.SmallJoins
namespace Go.Proofs.YtbcahfiknelkcaaGreatDoor
open Go.RowKit
theorem strAt_cellsJ (w : World) (L : List ByteArray) (N : Nat) : StrAt (w.alloc (.cells (Lib.cellsOf L N) 9)) w.heap.size L :=
  ⟨by simp, fun j x hx => by
    rw [Nat.zero_add, cell_of_row _ _ _ _ _ _ (al1_0 _ _)]
    unfold Lib.cellsOf
    have hj : j < L.length := (List.getElem?_eq_some_iff.1 hx).1
    rw [List.getElem?_toArray, List.getElem?_append_left (by simpa using hj), List.getElem?_map, hx]; rfl⟩
set_option maxHeartbeats 4000000 in
set_option maxRecDepth 100000 in
theorem implSr_c (t : ByteArray) (hm : t.size ≤ 1048576) (hws : ∀ i, ((wdL t).getD i ⟨#[]⟩).size ≤ 1048576) (w : World) (hE : EV w) :
    Calls Tryz.prog 9 #[.string t] w fun e w' => e = .returned (.tuple #[.agg #[.int .i8 (srV t).1.1, .int .i8 (srV t).1.2.1, .int .i8 (srV t).1.2.2], .int .i64 (srV t).2]) ∧ Below w.heap.size w w' := by
  have h4 := hE.len
  have K0 := Lib.hid (al1_0 w (.cells #[.int .i8 0, .int .i8 0, .int .i8 0] 26))
  have B0 := Lib.hid (bl1 w (.cells #[.int .i8 0, .int .i8 0, .int .i8 0] 26))
  have E0 := Lib.hid (ev_below (bl1 w (.cells #[.int .i8 0, .int .i8 0, .int .i8 0] 26)) hE)
  have HWS := Lib.hid hws
  clear hE hws
  obtain ⟨m1, hmx1⟩ := E0.out.max
  have hwl : Hid (wdL t = Lib.splitB ⟨#[32]⟩ 0 (min 4 (t.size + 1) - 1) t) := Lib.hid rfl
  go_enter Tryz.func9, Tryz.ntmps9
  go_wp2_with fail
  refine (Go.Proofs.Tryz.strings_SplitN t ⟨#[32]⟩ 4 m1 _ (by omega) hmx1 (by decide) (by omega) (by omega)).mono ?_
  rintro e w2 ⟨rfl, rfl⟩
  rw [← hwl.out]
  generalize (w.alloc (.cells #[.int .i8 0, .int .i8 0, .int .i8 0] 26)) = wa at *
  have HS := Lib.hid (strAt_cellsJ wa (wdL t) (min 4 (t.size + 1)))
  have hb2 := bl1 wa (.cells (Lib.cellsOf (wdL t) (min 4 (t.size + 1))) 9)
  have E2 := Lib.hid (ev_below hb2 E0.out)
  have K2 := Lib.hid (heap_below hb2 (lt_of_heap K0.out) K0.out)
  have HB := Lib.hid (bt B0.out hb2)
  have hgw : w.heap.size < wa.heap.size := lt_of_heap K0.out
  have hsz2 : (wa.alloc (.cells (Lib.cellsOf (wdL t) (min 4 (t.size + 1))) 9)).heap.size = wa.heap.size + 1 := by simp
  have hn4 := wdL_size t
  obtain ⟨n, hn⟩ : ∃ n, n = (wdL t).length := ⟨_, rfl⟩
  have HN := Lib.hid hn
  rw [← hn] at hn4 ⊢
  generalize (wa.alloc (.cells (Lib.cellsOf (wdL t) (min 4 (t.size + 1))) 9)) = wb at *
  generalize wa.heap.size = gw at *
  generalize min 4 (t.size + 1) = cw at *
  have J2 := Lib.hid (al1_0 wb (.cells #[.int .i8 0, .int .i8 0, .int .i8 0] 99))
  have hb3 := bl1 wb (.cells #[.int .i8 0, .int .i8 0, .int .i8 0] 99)
  have E3 := Lib.hid (ev_below hb3 E2.out)
  have K3 := Lib.hid (heap_below hb3 (lt_of_heap K2.out) K2.out)
  have S3 := Lib.hid (strAt_below hb3 HS.out)
  have HB3 := Lib.hid (bt HB.out hb3)
  have hgt : gw < wb.heap.size := by omega
  clear hb2 E0 K0 B0 hn hmx1 hwl hb3 E2 K2 HS HB hsz2
  go_wp2_with fail
  generalize (wb.alloc (.cells #[.int .i8 0, .int .i8 0, .int .i8 0] 99)) = w3 at *
  generalize wb.heap.size = gt at *
  have hne2 : gt ≠ gw := by omega
  have hne3 : w.heap.size ≠ gt := by omega
  have hle3 : w.heap.size ≤ gt := by omega
  as_aux_lemma =>
    go_loopw [16] (fun iv wr => True ∧ ∃ i : Nat, i ≤ n ∧ iv = .int .i64 i ∧ wr.heap[w.heap.size]? = some (.cells #[.int .i8 0, .int .i8 0, .int .i8 0] 26 (0, 0)) ∧ wr.heap[gt]? = some (.cells (arr .i8 (jX (wdL t) i)) 99 (0, 0)) ∧ StrAt wr gw (wdL t) ∧ okJ (wdL t) i ∧ EV wr ∧ Below w.heap.size w wr) (fun iv _ => n - (intOf iv).toNat)
    case atStart => exact ⟨trivial, 0, Nat.zero_le _, rfl, K3.out, J2.out, S3.out, fun j hj => absurd hj (Nat.not_lt_zero _), E3.out, HB3.out⟩
    case round =>
      clear K3 J2 S3 E3 HB3
      obtain ⟨_, i, hi, rfl, k2, k4, hs, hok, hev, hB⟩ := hrel
      have K2 := Lib.hid k2
      have K4 := Lib.hid k4
      have HS := Lib.hid hs
      have HO := Lib.hid hok
      have HE := Lib.hid hev
      have HB := Lib.hid hB
      clear k2 k4 hs hok hev hB
      by_cases hlt : i < n
      · have hin : (i : Int) < n := by omega
        have hget : (wdL t)[i]? = some ((wdL t).getD i ⟨#[]⟩) := by
          rw [List.getD_eq_getElem?_getD, List.getElem?_eq_getElem (by rw [← HN.out]; exact hlt)]; rfl
        have c1 := HS.out.at_ i _ hget
        rw [Nat.zero_add] at c1
        have hsz := HWS.out i
        have hnx := Lib.hid (show jX (wdL t) (i + 1) = (jX (wdL t) i).set i (i8w ((pI ((wdL t).getD i ⟨#[]⟩)).getD 0)) from rfl)
        have hsome := fun h1 h2 => okJ_succ HO.out (i := i) h1 h2
        have hrd1 : ∀ h : SrOk t, (pI ((wdL t).getD i ⟨#[]⟩)).isSome = true ∧ n = 3 := fun h => ⟨(sr_all h).2.1 i (by have := (sr_all h).1; have := HN.out; omega), by rw [HN.out]; exact (sr_all h).1⟩
        generalize (wdL t).getD i ⟨#[]⟩ = wd at *
        clear hget
        go_wp2_with fail
        refine (parseInt8_c wd hsz _ HE.out).mono ?_
        rintro e w5 ⟨hres, hb5⟩
        have K25 := Lib.hid (heap_below hb5 (lt_of_heap K2.out) K2.out)
        have K45 := Lib.hid (heap_below hb5 (lt_of_heap K4.out) K4.out)
        have HS5 := Lib.hid (strAt_below hb5 HS.out)
        have HE5 := Lib.hid (ev_below hb5 HE.out)
        have HB5 := Lib.hid (bt HB.out hb5)
        clear hb5 K2 K4 HS HE HB hsz c1
        have r0 := blk3_0 K25.out
        have rf0 := blk_f K25.out 0
        have r1 := blk3_1 K25.out
        have rf1 := blk_f K25.out 1
        have r2 := blk3_2 K25.out
        have rf2 := blk_f K25.out 2
        rcases hres with ⟨v, hpv, rfl⟩ | ⟨hpn, x, te, pe, rfl⟩
        · by_cases h24 : i = 3
          · have HV := Lib.hid (srV_no (t := t) (fun h => by have := (hrd1 h).2; omega))
            have h24i : ((i : Int) == 3) = true := by simp; omega
            clear hrd1 hsome hnx hpv
            go_wp2
            exact bodyPost_ret (results_ct rfl _ _ _ 26 _ _ _ rfl (blk3 K25.out) Tryz.underlying26 rfl szStrip) rfl ⟨by rw [HV.out] <;> rfl, below3 HB5.out (Nat.le_refl _) _ _ _⟩
          · have HOK := Lib.hid (hsome (by rw [hpv]; rfl) h24)
            have h24i : ((i : Int) == 3) = false := by simp; omega
            have hi24 : i < 3 := by omega
            have HSet : Hid (jX (wdL t) (i + 1) = (jX (wdL t) i).set i (i8w v)) := Lib.hid (by rw [hnx.out, hpv]; rfl)
            have hcell := arr_cell K45.out i (by rw [jX_len]; exact hi24)
            have hfr : w5.frozen? ⟨gt, i, none⟩ = false := frozen_of_row _ _ _ _ _ K45.out
            have hwv : IntKind.i8.wrap v = i8w v := rfl
            generalize i8w v = u at *
            clear hrd1 hsome hnx hpv r0 rf0 r1 rf1 r2 rf2
            go_wp2
            go_roundw
            case rel => exact ⟨trivial, i + 1, by omega, by go_num, heap_far _ hne3 K25.out, by rw [HSet.out]; exact arr_store K45.out _ _, strAt_set (Ne.symm hne2) _ HS5.out, HOK.out, ev_set (by omega) _ HE5.out, HB5.out.setCell hle3 _⟩
            case measure => simp [intOf]; omega
        · have HV := Lib.hid (srV_no (t := t) (fun h => by have := (hrd1 h).1; rw [hpn] at this; cases this))
          clear hrd1 hsome hnx hpn
          go_wp2
          exact bodyPost_ret (results_ct rfl _ _ _ 26 _ _ _ rfl (blk3 K25.out) Tryz.underlying26 rfl szStrip) rfl ⟨by rw [HV.out] <;> rfl, below3 HB5.out (Nat.le_refl _) _ _ _⟩
      · have hin : ¬ (i : Int) < n := by omega
        have hie : i = n := by omega
        have hn24 : n ≤ 3 := by
          rcases Nat.lt_or_ge n 4 with h | h
          · omega
          · exact absurd rfl (HO.out 3 (by omega)).2
        have hbd := jX_bd (wdL t) i
        have hrd : ∀ h : SrOk t, jX (wdL t) i = [nW t 0, nW t 1, nW t 2] := fun h => by
          have h1 := (sr_all h).1
          have h2 := HN.out
          have e : i = 3 := by omega
          rw [e]; exact (sr_all h).2.2
        have HL := jX_len (wdL t) i
        have k0 := arr_cell K4.out 0 (by omega)
        have k1 := arr_cell K4.out 1 (by omega)
        have k2 := arr_cell K4.out 2 (by omega)
        generalize jX (wdL t) i = X at *
        have b0 := hbd 0
        have b1 := hbd 1
        have b2 := hbd 2
        have hX := list3 X 0 HL
        generalize X.getD 0 0 = x0 at *
        generalize X.getD 1 0 = x1 at *
        generalize X.getD 2 0 = x2 at *
        have hS8 : Sr8 x0 x1 x2 := ⟨b0, b1, b2⟩
        have HCV := Lib.hid (fun w0 => srValid_c x0 x1 x2 hS8 w0)
        have hrd2 : ∀ h : SrOk t, nW t 0 = x0 ∧ nW t 1 = x1 ∧ nW t 2 = x2 := fun h => by
          have := hrd h
          rw [hX] at this
          simp only [List.cons.injEq, and_true] at this
          exact ⟨this.1.symm, this.2.1.symm, this.2.2.symm⟩
        have hr0 := blk3_0 K2.out
        have G0 := Lib.hid (al1_0 wr (.cells #[.int .i8 x0, .int .i8 x1, .int .i8 x2] 26))
        have hbA := bl1 wr (.cells #[.int .i8 x0, .int .i8 x1, .int .i8 x2] 26)
        have K5 := Lib.hid (heap_below hbA (lt_of_heap K2.out) K2.out)
        have HB5 := Lib.hid (bt HB.out hbA)
        clear hX hrd HL hbd b0 b1 b2 hS8 hbA K2 HB hr0
        go_wp2_with fail
        refine (HCV.out _).mono ?_
        rintro e w6 ⟨rfl, hb6⟩
        generalize wr.alloc (.cells #[.int .i8 x0, .int .i8 x1, .int .i8 x2] 26) = w5 at *
        generalize wr.heap.size = g5 at *
        have G6 := Lib.hid (heap_below hb6 (lt_of_heap G0.out) G0.out)
        have K6 := Lib.hid (heap_below hb6 (lt_of_heap K5.out) K5.out)
        have HB6 := Lib.hid (bt HB5.out hb6)
        clear hb6 G0 K5 HB5 k0 k1 k2 HCV
        cases hok : srB x0 x1 x2
        · have HV := Lib.hid (srV_no (t := t) (fun h => by have := h.ok; rw [(hrd2 h).1, (hrd2 h).2.1, (hrd2 h).2.2, hok] at this; cases this))
          have r0 := blk3_0 K6.out
          have rf0 := blk_f K6.out 0
          have r1 := blk3_1 K6.out
          have rf1 := blk_f K6.out 1
          have r2 := blk3_2 K6.out
          have rf2 := blk_f K6.out 2
          clear hok hrd2
          go_wp2
          exact bodyPost_ret (results_ct rfl _ _ _ 26 _ _ _ rfl (blk3 K6.out) Tryz.underlying26 rfl szStrip) rfl ⟨by rw [HV.out] <;> rfl, below3 HB6.out (Nat.le_refl _) _ _ _⟩
        · have hnt : ∀ h : SrOk t, srT x0 x1 x2 = t := fun h => by have := sr_text h; rwa [(hrd2 h).1, (hrd2 h).2.1, (hrd2 h).2.2] at this
          have hyes : srT x0 x1 x2 = t → srV t = ((x0, x1, x2), 0) := fun h => by rw [← h]; exact srV_text hok
          have HI := Lib.hid (fun w0 => srText_c x0 x1 x2 hok w0)
          clear hok hrd2
          generalize srT x0 x1 x2 = s at *
          have j0 := blk3_0 G6.out
          have j1 := blk3_1 G6.out
          have j2 := blk3_2 G6.out
          by_cases hst : s = t
          · have HV := Lib.hid (hyes hst)
            subst hst
            have hself : (s.toList != s.toList) = false := by simp
            clear hyes hnt
            go_wp2_with fail
            refine (HI.out _).mono ?_
            rintro e w7 ⟨rfl, hb7⟩
            have K7 := Lib.hid (heap_below hb7 (lt_of_heap K6.out) K6.out)
            have G7 := Lib.hid (heap_below hb7 (lt_of_heap G6.out) G6.out)
            have HB7 := Lib.hid (bt HB6.out hb7)
            clear hb7 j0 j1 j2
            have j0 := blk3_0 G7.out
            have j1 := blk3_1 G7.out
            have j2 := blk3_2 G7.out
            have r0 := blk3_0 K7.out
            have rf0 := blk_f K7.out 0
            have r1 := blk3_1 K7.out
            have rf1 := blk_f K7.out 1
            have r2 := blk3_2 K7.out
            have rf2 := blk_f K7.out 2
            go_wp2
            exact bodyPost_ret (results_ct rfl _ _ _ 26 _ _ _ rfl (blk3 K7.out) Tryz.underlying26 rfl szStrip) rfl ⟨by rw [HV.out] <;> rfl, below3 HB7.out (Nat.le_refl _) _ _ _⟩
          · have HV := Lib.hid (srV_no (t := t) (fun h => hst (hnt h)))
            have hself : ¬ s.toList = t.toList := by
              rw [ByteArray.toList_eq, ByteArray.toList_eq]
              exact fun h => hst (ByteArray.ext (Array.toList_inj.1 h))
            have hself2 : (s.toList == t.toList) = false := beq_eq_false_iff_ne.2 hself
            have hself3 : (s.toList != t.toList) = true := bne_iff_ne.2 hself
            clear hyes hnt hst
            go_wp2_with fail
            refine (HI.out _).mono ?_
            rintro e w7 ⟨rfl, hb7⟩
            have K7 := Lib.hid (heap_below hb7 (lt_of_heap K6.out) K6.out)
            have HB7 := Lib.hid (bt HB6.out hb7)
            clear hb7 j0 j1 j2
            have r0 := blk3_0 K7.out
            have rf0 := blk_f K7.out 0
            have r1 := blk3_1 K7.out
            have rf1 := blk_f K7.out 1
            have r2 := blk3_2 K7.out
            have rf2 := blk_f K7.out 2
            go_wp2
            exact bodyPost_ret (results_ct rfl _ _ _ 26 _ _ _ rfl (blk3 K7.out) Tryz.underlying26 rfl szStrip) rfl ⟨by rw [HV.out] <;> rfl, below3 HB7.out (Nat.le_refl _) _ _ _⟩
end Go.Proofs.YtbcahfiknelkcaaGreatDoor
