/- The median of copies: the program. -/
import Derived.Test.YtdmlefccajaniaaDoorMedS
namespace Go.Proofs.YtdmlefccajaniaaDoor
open Go.RowKit Go.Lib
set_option maxHeartbeats 4000000 in
set_option maxRecDepth 100000 in
theorem implMedian_c (p : Option Addr) (n c : Nat) (l : List (List Int)) (hl : Prs l) (hn : n = l.length) (hm : n ≤ 8) (h0 : 0 < n) (w : World) (hp : PS w p l) :
    Calls Tryd.prog 59 #[.slice p n c] w fun e w' => e = .returned (.agg (arr .i16 (medP l))) ∧ Below w.heap.size w w' := by
  have HN := Lib.hid hn
  have HA := Lib.hid hp
  have HP := Lib.hid hl
  clear hn hp hl
  go_enter Tryd.func59, Tryd.ntmps59
  go_upto_region 1 with fail
  rw [z64_Z]
  have K0 := Lib.hid (al1_0 w (.cells (arr .i16 Z64) 37))
  have KB := Lib.hid (bl1 w (.cells (arr .i16 Z64) 37))
  have KS : Hid ((w.alloc (.cells (arr .i16 Z64) 37)).heap.size = w.heap.size + 1) := Lib.hid (by simp)
  generalize w.alloc (.cells (arr .i16 Z64) 37) = w0 at *
  go_upto_region 2 with (rw [z64_Z]; refine wpList_store_row rfl 37 (.tmp 3) (.tmp 8) rfl w0.heap.size (arr .i16 Z64) rfl rfl 37 (arr .i16 Z64) (al1_0 _ _) (by rw [szPrint, arr_size, Z64_length]) rfl (arr_one _ _) ?_)
  have HO := Lib.hid (setRow_heap (w0.alloc (.cells (arr .i16 Z64) 37)) w0.heap.size _ (arr .i16 Z64) 37 (0, 0) (al1_0 _ _))
  have HB1 := Lib.hid (below_setRow (bl1 w0 (.cells (arr .i16 Z64) 37)) (Nat.le_refl _) (arr .i16 Z64))
  have HSz : Hid (((w0.alloc (.cells (arr .i16 Z64) 37)).setRow w0.heap.size (arr .i16 Z64)).heap.size = w0.heap.size + 1) := Lib.hid (by simp)
  generalize (w0.alloc (.cells (arr .i16 Z64) 37)).setRow w0.heap.size (arr .i16 Z64) = w1 at *
  have H0 := Lib.hid (heap_below HB1.out (lt_of_heap K0.out) K0.out)
  have HW1 := Lib.hid (bt KB.out HB1.out)
  have hw0 : w0.heap.size = w.heap.size + 1 := KS.out
  obtain ⟨go, hgo⟩ : ∃ go, go = w0.heap.size := ⟨_, rfl⟩
  rw [← hgo] at HO HSz ⊢
  have HGO : Hid (go = w.heap.size + 1) := Lib.hid (by omega)
  have HA0 := Lib.hid HA.out
  clear K0 KB KS HB1 HA hw0 hgo
  go_upto_region 3 with fail
  go_loopw [9] (fun i wr => ∃ k : Nat, k ≤ 64 ∧ i = .int .i64 k ∧ wr.heap[go]? = some (.cells (arr .i16 ((medP l).take k ++ List.replicate (64 - k) 0)) 37 (0, 0)) ∧ wr.heap[w.heap.size]? = some (.cells (arr .i16 Z64) 37 (0, 0)) ∧ Below w.heap.size w wr ∧ w1.heap.size ≤ wr.heap.size) (fun i _ => 64 - (intOf i).toNat)
  case atStart => exact ⟨0, Nat.zero_le _, rfl, HO.out, H0.out, HW1.out, Nat.le_refl _⟩
  case round =>
    clear HO H0 HW1
    obtain ⟨k, hk, rfl, hO, h0', hW, hsz⟩ := hrel
    have HO := Lib.hid hO
    have H0 := Lib.hid h0'
    have HA := Lib.hid (PS_below hW HA0.out)
    have HW := Lib.hid hW
    have HZ := Lib.hid hsz
    clear hO h0' hW hsz
    obtain ⟨wo, rfl⟩ : ∃ wo : World, wo = wr := ⟨_, rfl⟩
    by_cases hlt : k < 64
    · have hkd : decide ((k : Int) < 64) = true := by simp; omega
      have hki : (k : Int) < 64 := by omega
      go_upto_region 7 with fail
      go_loopw [5, 15] (fun s5 s6 wr => ∃ i : Nat, i ≤ n ∧ s6 = .int .i64 i ∧ Row wr wo.heap.size 35 .i16 s5 ((colP l k).take i) ∧ Below wo.heap.size wo wr) (fun _ i _ => n - (intOf i).toNat)
      case atStart => exact ⟨0, Nat.zero_le _, rfl, row_new wo _ _ _ (Nat.le_refl _), bl1 _ _⟩
      case round =>
        obtain ⟨i, hi, rfl, hR, hV⟩ := hrel
        have HR := Lib.hid hR
        have HV := Lib.hid hV
        clear hR hV
        have hcl : (colP l k).length = n := by rw [colP_length, HN.out]
        by_cases hin : i < n
        · obtain ⟨b, o, rfl, hb, hat⟩ := HA.out (ne_of_lt (k := i) (by have := HN.out; omega))
          obtain ⟨q, hpe⟩ : ∃ q, q = l.getD i [] := ⟨_, rfl⟩
          have HPr : Hid (Pr q) := Lib.hid (by rw [hpe]; exact HP.out i (by have := HN.out; omega))
          have HRg : Hid (wr.rangeAt b (o + i * 64) (cellsP q)) := Lib.hid (by rw [hpe]; exact rangeAt_below HV.out hb (hat i (by have := HN.out; omega)))
          have H64 : Hid ((cellsP q).length = 64) := Lib.hid (by rw [cellsP_length]; exact HPr.out.1)
          obtain ⟨x, hxe⟩ : ∃ x, x = q.getD k 0 := ⟨_, rfl⟩
          have HXe := Lib.hid hxe
          have HTk : Hid ((colP l k).take (i + 1) = (colP l k).take i ++ [x]) := Lib.hid (by rw [take_snoc _ _ (by rw [hcl]; exact hin), colP_get l k i (by rw [← HN.out]; exact hin), ← hpe, ← hxe])
          have hin0 : decide ((i : Int) < n) = true := by simp; omega
          have hTl : ((colP l k).take i).length = i := by rw [List.length_take, hcl, Nat.min_eq_left hi]
          clear hpe hxe hat hcl
          obtain ⟨p5, c5, rfl, _⟩ := row_any HR.out
          rw [hTl]
          have HR2 : Hid (Row wr wo.heap.size 35 .i16 (.slice p5 i c5) ((colP l k).take i)) := Lib.hid (by have := HR.out; rwa [hTl] at this)
          have HL8 : Hid (((colP l k).take i).length ≤ 17592186000000) := Lib.hid (by rw [hTl]; omega)
          clear hTl HR
          obtain ⟨w2, rfl⟩ : ∃ w2 : World, w2 = wr := ⟨_, rfl⟩
          go_upto_region 9 with (first
            | (refine wpList_load_mid rfl 37 (.tmp 17) rfl b (o + i * 64) rfl (cellsP q) _ HRg.out Tryd.underlying37 rfl (by rw [szPrint, H64.out]) ?_)
            | (rw [z64_Z]; refine wpList_store_row rfl 37 (.tmp 7) (.tmp 18) rfl w2.heap.size (arr .i16 q) rfl rfl 37 (arr .i16 Z64) (al1_0 _ _) (by rw [szPrint, arr_size, HPr.out.1]) (by rw [arr_size, arr_size, HPr.out.1]; rfl) (arr_one _ _) ?_))
          have HRow := Lib.hid (setRow_heap (w2.alloc (.cells (arr .i16 Z64) 37)) w2.heap.size _ (arr .i16 q) 37 (0, 0) (al1_0 _ _))
          have HB2' := below_setRow (bl1 w2 (.cells (arr .i16 Z64) 37)) (Nat.le_refl _) (arr .i16 q)
          have HR3 := Lib.hid (row_below HR2.out HB2')
          have HB2 := Lib.hid (bt HV.out HB2')
          clear HB2'
          generalize (w2.alloc (.cells (arr .i16 Z64) 37)).setRow w2.heap.size (arr .i16 q) = w5 at *
          have hcx : w5.cell? ⟨w2.heap.size, k, none⟩ = some (.int .i16 x) := by rw [HXe.out]; exact arr_cell HRow.out k (by rw [HPr.out.1]; exact hlt)
          generalize w2.heap.size = g7 at *
          go_wp2_with (at_builtin; refine wpList_app rfl (.tmp 19) (.tmp 23) 116 rfl wo.heap.size 35 .i16 2 Tryd.underlying116 info_i16 (by decide) _ _ rfl (row_alloc HR3.out _) _ 1 x rfl (by simp) HL8.out (by have := HB2.out.size; simp at this ⊢; omega) ?_; intro v1 w6 hrow hgr hbk; have HRn := Lib.hid hrow; have HWn := Lib.hid (below_app (HB2.out.alloc HB2.out.size _) hgr (Nat.le_refl _) hbk); clear hrow hgr hbk)
          go_roundw
          case rel => exact ⟨i + 1, by omega, by go_num, by rw [HTk.out]; exact HRn.out, HWn.out⟩
          case measure => simp [intOf]; omega
        · have hin' : i = n := by omega
          subst hin'
          have hf : (colP l k).take i = colP l k := List.take_of_length_le (by rw [hcl]; exact Nat.le_refl _)
          have hne : colP l k ≠ [] := by rintro e; rw [e] at hcl; simp at hcl; omega
          have hR2 := HR.out
          rw [hf] at hR2
          have HR2 := Lib.hid hR2
          have HNe := Lib.hid hne
          have HCl := Lib.hid hcl
          clear hf HR hR2 hne hcl
          go_wp2_with fail
          refine (sort16_c (colP l k) _ wo.heap.size (by rw [HCl.out]; omega) HNe.out _ HR2.out).mono ?_
          rintro e w5 ⟨rfl, hR5, hb5⟩
          have hil : (isort (colP l k)).length = i := by rw [isort_length]; exact HCl.out
          obtain ⟨g, cap, rfl, hg1, hg2, hcap, hcm, hc⟩ := row_shape hR5 (by rintro e; rw [e] at hil; simp at hil; omega)
          obtain ⟨md, hmd⟩ : ∃ md, md = (i - 1) / 2 := ⟨_, rfl⟩
          obtain ⟨v, hv⟩ : ∃ v, v = medI l k := ⟨_, rfl⟩
          have hcm2 : w5.cell? ⟨g, md, none⟩ = some (.int .i16 v) := by
            have := hc md (by rw [hil]; omega)
            rw [this, hv, medI, ← HN.out, ← hmd]
          rw [hil]
          have HV5 := Lib.hid (HV.out.trans hb5)
          have hO2 : w5.heap[go]? = some (.cells (arr .i16 ((medP l).take k ++ List.replicate (64 - k) 0)) 37 (0, 0)) := heap_below HV5.out (lt_of_heap HO.out) HO.out
          have HO2 := Lib.hid hO2
          have H02 := Lib.hid (heap_below HV5.out (lt_of_heap H0.out) H0.out)
          have hco := arr_cell hO2 k (by simp [medP_length]; omega)
          have hfo := frozen_of_row _ _ k _ _ hO2
          have e1 : ((i : Int) - 1).tdiv 2 = (md : Int) := by rw [Int.tdiv_eq_ediv_of_nonneg (by omega)]; omega
          have hmi : (md : Int) < i := by omega
          have HSt : Hid (((medP l).take k ++ List.replicate (64 - k) 0).set k v = (medP l).take (k + 1) ++ List.replicate (64 - (k + 1)) 0) := Lib.hid (by rw [hv]; exact med_step l k hlt)
          have HBW := Lib.hid (bt HW.out HV5.out)
          have HSZ := Lib.hid (Nat.le_trans HZ.out HV5.out.size)
          clear hv hmd hc hR5 hil hO2 hg1 hg2 hcap hcm hb5
          go_wp2
          go_roundw
          case rel => exact ⟨k + 1, by omega, by go_num, by rw [arr_store HO2.out, HSt.out], heap_far _ (by have := HGO.out; simp; omega) H02.out, HBW.out.setCell (p := ⟨go, _, none⟩) (by have := HGO.out; simp; omega) _, by simpa using HSZ.out⟩
          case measure => simp [intOf]; omega
    · have hk64 : k = 64 := by omega
      subst hk64
      have HF : Hid (wo.heap[go]? = some (.cells (arr .i16 (medP l)) 37 (0, 0))) := Lib.hid (by have := HO.out; rwa [List.take_of_length_le (by rw [medP_length]; omega), Nat.sub_self, List.replicate_zero, List.append_nil] at this)
      go_wp2_with (first
        | (refine wpList_load_row rfl 37 (.tmp 3) rfl _ rfl _ _ _ _ HF.out Tryd.underlying37 rfl (by rw [szPrint, arr_size, medP_length]) ?_)
        | (refine wpList_store_row rfl 37 (.tmp 2) (.tmp 38) rfl _ _ rfl rfl _ _ H0.out (by rw [szPrint, arr_size, medP_length]) (by rw [arr_size, arr_size, medP_length, Z64_length]) (arr_one _ _) ?_))
      exact bodyPost_ret (results_cell_row rfl _ _ _ _ _ _ _ rfl (setRow_heap _ _ _ _ _ _ H0.out) Tryd.underlying37 rfl (by rw [szPrint, arr_size, medP_length])) rfl ⟨rfl, below_setRow HW.out (Nat.le_refl _) _⟩
end Go.Proofs.YtdmlefccajaniaaDoor
