/- The median of copies: the reference. -/
import Derived.Test.YtdmlefccajaniaaDoorSrt
import Derived.Test.YtdmlefccajaniaaDoorShts2
import Derived.Test.YtdmlefccajaniaaDoorRowAt
namespace Go.Proofs.YtdmlefccajaniaaDoor
open Go.RowKit Go.Lib
theorem info_i16 : (Tryd.prog.info? 35).map (fun i => (i.zero, i.size, i.bytes)) = some (some (.int .i16 0), 1, 2) := by kernel_rfl
theorem row_any {w : World} {base : Nat} {e : TypeId} {k : IntKind} {v : Value} {xs : List Int} (h : Row w base e k v xs) : ∃ p cap, v = .slice p xs.length cap ∧ True := by
  obtain ⟨_, h2⟩ := h
  rcases h2 with ⟨h2, h0⟩ | ⟨g, cap, cur, hv, _⟩
  · exact ⟨none, 0, by rw [h2, h0], trivial⟩
  · exact ⟨_, cap, hv, trivial⟩
theorem med_step (l : List (List Int)) (k : Nat) (hk : k < 64) : (((medP l).take k ++ List.replicate (64 - k) 0).set k (medI l k)) = (medP l).take (k + 1) ++ List.replicate (64 - (k + 1)) 0 := by
  have := set_step (medP l) k 64 (medP_length l) hk 0
  rwa [medP_get l k hk] at this
set_option maxHeartbeats 4000000 in
set_option maxRecDepth 100000 in
theorem l07Median_c (p : Option Addr) (n c : Nat) (l : List (List Int)) (hl : Prs l) (hn : n = l.length) (hm : n ≤ 8) (h0 : 0 < n) (w : World) (hp : PS w p l) :
    Calls Tryd.prog 61 #[.slice p n c] w fun e w' => e = .returned (.agg (arr .i16 (medP l))) ∧ Below w.heap.size w w' := by
  have HN := Lib.hid hn
  have HA := Lib.hid hp
  have HP := Lib.hid hl
  clear hn hp hl
  go_enter Tryd.func61, Tryd.ntmps61
  go_upto_region 1 with fail
  rw [z64_Z]
  have K0 := Lib.hid (al1_0 w (.cells (arr .i16 Z64) 37))
  have KB := Lib.hid (bl1 w (.cells (arr .i16 Z64) 37))
  have KS : Hid ((w.alloc (.cells (arr .i16 Z64) 37)).heap.size = w.heap.size + 1) := Lib.hid (by simp)
  generalize w.alloc (.cells (arr .i16 Z64) 37) = w0 at *
  go_upto_region 2 with (rw [z64_Z]; refine wpList_store_row rfl 37 (.tmp 3) (.tmp 9) rfl w0.heap.size (arr .i16 Z64) rfl rfl 37 (arr .i16 Z64) (al1_0 _ _) (by rw [szPrint, arr_size, Z64_length]) rfl (arr_one _ _) ?_)
  have HO := Lib.hid (setRow_heap (w0.alloc (.cells (arr .i16 Z64) 37)) w0.heap.size _ (arr .i16 Z64) 37 (0, 0) (al1_0 _ _))
  have HB1 := Lib.hid (below_setRow (bl1 w0 (.cells (arr .i16 Z64) 37)) (Nat.le_refl _) (arr .i16 Z64))
  have HSz : Hid (((w0.alloc (.cells (arr .i16 Z64) 37)).setRow w0.heap.size (arr .i16 Z64)).heap.size = w0.heap.size + 1) := Lib.hid (by simp)
  generalize (w0.alloc (.cells (arr .i16 Z64) 37)).setRow w0.heap.size (arr .i16 Z64) = w1 at *
  have H0 := Lib.hid (heap_below HB1.out (lt_of_heap K0.out) K0.out)
  have HW1 := Lib.hid (bt KB.out HB1.out)
  have hw0 : w0.heap.size = w.heap.size + 1 := KS.out
  obtain ⟨go, hgo⟩ : ∃ go, go = w0.heap.size := ⟨_, rfl⟩
  rw [← hgo] at HO HSz ⊢
  have HGO : Hid (go = w.heap.size + 1) := Lib.hid (by omega)
  have HA0 := Lib.hid HA.out
  clear K0 KB KS HB1 HA hw0 hgo
  go_upto_region 3 with fail
  go_loopw [4] (fun i wr => ∃ k : Nat, k ≤ 64 ∧ i = .int .i64 k ∧ wr.heap[go]? = some (.cells (arr .i16 ((medP l).take k ++ List.replicate (64 - k) 0)) 37 (0, 0)) ∧ wr.heap[w.heap.size]? = some (.cells (arr .i16 Z64) 37 (0, 0)) ∧ Below w.heap.size w wr ∧ w1.heap.size ≤ wr.heap.size) (fun i _ => 64 - (intOf i).toNat)
  case atStart => exact ⟨0, Nat.zero_le _, rfl, HO.out, H0.out, HW1.out, Nat.le_refl _⟩
  case round =>
    clear HO H0 HW1
    obtain ⟨k, hk, rfl, hO, h0', hW, hsz⟩ := hrel
    have HO := Lib.hid hO
    have H0 := Lib.hid h0'
    have HA := Lib.hid (PS_below hW HA0.out)
    have HW := Lib.hid hW
    have HZ := Lib.hid hsz
    clear hO h0' hW hsz
    obtain ⟨wo, rfl⟩ : ∃ wo : World, wo = wr := ⟨_, rfl⟩
    by_cases hlt : k < 64
    · have hkd : decide ((k : Int) < 64) = true := by simp; omega
      have hki : (k : Int) < 64 := by omega
      go_upto_region 7 with fail
      go_loopw [5, 6] (fun s5 s6 wr => ∃ i : Nat, i ≤ n ∧ s6 = .int .i64 i ∧ Row wr wo.heap.size 35 .i16 s5 (isort ((colP l k).take i)) ∧ Below wo.heap.size wo wr) (fun _ i _ => n - (intOf i).toNat)
      case atStart => exact ⟨0, Nat.zero_le _, rfl, row_new wo _ _ _ (Nat.le_refl _), bl1 _ _⟩
      case round =>
        obtain ⟨i, hi, rfl, hR, hV⟩ := hrel
        have HR := Lib.hid hR
        have HV := Lib.hid hV
        clear hR hV
        by_cases hin : i < n
        · obtain ⟨b, o, rfl, hb, hat⟩ := HA.out (ne_of_lt (k := i) (by have := HN.out; omega))
          obtain ⟨x, hxe⟩ : ∃ x, x = (l.getD i []).getD k 0 := ⟨_, rfl⟩
          have hcx : wr.cell? ⟨b, o + i * 64 + k, none⟩ = some (.int .i16 x) := by rw [HV.out.cell (p := ⟨b, _, none⟩) hb, hxe]; exact PrAt_cell hat HP.out i k (by have := HN.out; omega) hlt
          have hin0 : (i : Int) < n := by omega
          obtain ⟨S, hS⟩ : ∃ S, S = isort ((colP l k).take i) := ⟨_, rfl⟩
          have hcl : (colP l k).length = n := by rw [colP_length, HN.out]
          have hSl : S.length = i := by rw [hS]; exact isort_length_take _ i (by rw [hcl]; omega)
          have HSa : Hid (Asc S) := Lib.hid (by rw [hS]; exact isort_asc_take _ i (by rw [hcl]; omega))
          have HEnd : Hid (isort ((colP l k).take (i + 1)) = insO x S) := Lib.hid (by rw [isort_take _ i (by rw [hcl]; omega), ← hS, colP_get l k i (by rw [← HN.out]; exact hin), ← hxe])
          have HSl := Lib.hid hSl
          obtain ⟨p5, c5, rfl, _⟩ := row_any HR.out
          rw [← hS, hSl]
          have HR2 : Hid (Row wr wo.heap.size 35 .i16 (.slice p5 i c5) S) := Lib.hid (by have := HR.out; rwa [← hS, hSl] at this)
          clear hS hxe hcl hat HR hSl
          have HL8 : Hid (S.length ≤ 17592186000000) := Lib.hid (by rw [HSl.out]; omega)
          go_upto_region 12 with (at_builtin; refine wpList_app rfl (.tmp 29) (.tmp 31) 116 rfl wo.heap.size 35 .i16 2 Tryd.underlying116 info_i16 (by decide) _ _ rfl (row_alloc HR2.out _) _ 1 x rfl (by simp) HL8.out (by have := HV.out.size; simp at this ⊢; omega) ?_; intro v1 w6 hrow hgr hbk; have HRn := Lib.hid hrow; have HWn := Lib.hid (below_app (HV.out.alloc HV.out.size _) hgr (Nat.le_refl _) hbk); clear hrow hgr hbk)
          obtain ⟨g, cap, rfl, hg1, hg2, hcap, hcm, _⟩ := row_shape HRn.out (by simp)
          have hlen : (S ++ [x]).length = i + 1 := by rw [List.length_append, HSl.out]; rfl
          have HRm : Hid (Row w6 wo.heap.size 35 .i16 (.slice (some ⟨g, 0, none⟩) (i + 1) cap) (stL S i x [])) := Lib.hid (by have := HRn.out; rw [hlen] at this; rw [show stL S i x [] = S ++ [x] from by rw [← HSl.out]; exact stL_last S x []]; exact this)
          rw [hlen]
          have HG1 := Lib.hid hg1
          have HG2 := Lib.hid hg2
          clear hlen HRn hg1 hg2 hcap hcm
          go_loopw [8] (fun s8 wr => ∃ (j : Nat) (y : Int), j ≤ i ∧ s8 = .int .i64 j ∧ (∀ z ∈ S.drop j, x < z) ∧ Row wr wo.heap.size 35 .i16 (.slice (some ⟨g, 0, none⟩) (i + 1) cap) (stL S j y []) ∧ Below wo.heap.size wo wr) (fun j _ => (intOf j).toNat)
          case atStart => exact ⟨i, x, Nat.le_refl _, rfl, by rw [List.drop_of_length_le (by rw [HSl.out]; exact Nat.le_refl _)]; exact fun z hz => absurd hz (by simp), HRm.out, HWn.out⟩
          case round =>
            clear HRm HWn HV
            obtain ⟨j, y, hj, rfl, hbd, hR, hW⟩ := hrel
            have HB := Lib.hid hbd
            have HR := Lib.hid hR
            have HW := Lib.hid hW
            clear hbd hR hW
            have HLen : Hid ((stL S j y []).length = i + 1) := Lib.hid (by rw [stL_length _ _ _ _ (by rw [HSl.out]; exact hj), HSl.out]; rfl)
            have hfj := row_frz HR.out j
            have hcj := row_cell HR.out j (by rw [HLen.out]; omega)
            rw [stL_at _ _ _ _ (by rw [HSl.out]; exact hj)] at hcj
            have hji : (j : Int) < (i : Int) + 1 := by omega
            by_cases hj0 : j = 0
            · subst hj0
              have HOut : Hid (stL S 0 x [] = insO x S) := Lib.hid (by rw [stL_end x S 0 [] HSa.out (Nat.zero_le _) HB.out (Or.inl rfl), List.append_nil])
              have HSet : Hid ((stL S 0 y []).set 0 x = stL S 0 x []) := Lib.hid (stL_set _ _ _ _ _ (Nat.zero_le _))
              go_wp2
              go_roundw
              case rel => exact ⟨i + 1, by omega, by go_num, by rw [HEnd.out, ← HOut.out, ← HSet.out]; exact row_set HR.out _ _, HW.out.setCell (p := ⟨g, _, none⟩) HG1.out _⟩
              case measure => simp [intOf]; omega
            · obtain ⟨m, hjm⟩ : ∃ m, j = m + 1 := ⟨j - 1, by omega⟩
              obtain ⟨z, hz⟩ : ∃ z, z = S.getD m 0 := ⟨_, rfl⟩
              have hcp : wr.cell? ⟨g, m, none⟩ = some (.int .i16 z) := by
                have := row_cell HR.out m (by rw [HLen.out]; omega)
                rwa [hjm, stL_pred _ _ _ _ (by rw [HSl.out]; omega), ← hz] at this
              have HZe := Lib.hid hz
              have HJM := Lib.hid hjm
              have hmi : (m : Int) < (i : Int) + 1 := by omega
              have hj0' : decide (0 < j) = true := by simp; omega
              have e1 : (j : Int) - 1 = (m : Int) := by omega
              have hwm : IntKind.i64.wrap (m : Int) = m := Go.IntWalk.i64_in _ (by omega)
              clear hz hjm hj0
              by_cases hxz : x < z
              · have HNx : Hid (∀ u ∈ S.drop m, x < u) := Lib.hid (drop_lt (by rw [HSl.out]; have := HJM.out; omega) (by have := HB.out; rwa [HJM.out] at this) (by rw [← HZe.out]; exact hxz))
                have HSh : Hid ((stL S j y []).set j z = stL S m z []) := Lib.hid (by rw [HJM.out, stL_set _ _ _ _ _ (by rw [HSl.out]; have := HJM.out; omega), HZe.out]; exact stL_shift S m [] (by rw [HSl.out]; have := HJM.out; omega))
                go_wp2
                go_roundw
                case rel => exact ⟨m, z, by omega, by go_num, HNx.out, by rw [← HSh.out]; exact row_set HR.out _ _, HW.out.setCell (p := ⟨g, _, none⟩) HG1.out _⟩
                case measure => simp [intOf]; omega
              · have HOut : Hid (stL S j x [] = insO x S) := Lib.hid (by rw [stL_end x S j [] HSa.out (by rw [HSl.out]; exact hj) HB.out (Or.inr (by rw [HJM.out, Nat.add_sub_cancel, ← HZe.out]; omega)), List.append_nil])
                have HSet : Hid ((stL S j y []).set j x = stL S j x []) := Lib.hid (stL_set _ _ _ _ _ (by rw [HSl.out]; exact hj))
                go_wp2
                go_roundw
                case rel => exact ⟨i + 1, by omega, by go_num, by rw [HEnd.out, ← HOut.out, ← HSet.out]; exact row_set HR.out _ _, HW.out.setCell (p := ⟨g, _, none⟩) HG1.out _⟩
                case measure => simp [intOf]; omega
        · have hin' : i = n := by omega
          subst hin'
          have hf : (colP l k).take i = colP l k := List.take_of_length_le (by rw [colP_length, HN.out]; exact Nat.le_refl _)
          have hil : (isort (colP l k)).length = i := by rw [isort_length, colP_length, HN.out]
          have hR2 := HR.out
          rw [hf] at hR2
          obtain ⟨g, cap, rfl, hg1, hg2, hcap, hcm, hc⟩ := row_shape hR2 (by rintro e; rw [e] at hil; simp at hil; omega)
          obtain ⟨md, hmd⟩ : ∃ md, md = (i - 1) / 2 := ⟨_, rfl⟩
          obtain ⟨v, hv⟩ : ∃ v, v = medI l k := ⟨_, rfl⟩
          have hcm2 : wr.cell? ⟨g, md, none⟩ = some (.int .i16 v) := by
            have := hc md (by rw [hil]; omega)
            rw [this, hv, medI, ← HN.out, ← hmd]
          rw [hil]
          have hO2 : wr.heap[go]? = some (.cells (arr .i16 ((medP l).take k ++ List.replicate (64 - k) 0)) 37 (0, 0)) := heap_below HV.out (lt_of_heap HO.out) HO.out
          have HO2 := Lib.hid hO2
          have H02 := Lib.hid (heap_below HV.out (lt_of_heap H0.out) H0.out)
          have hco := arr_cell hO2 k (by simp [medP_length]; omega)
          have hfo := frozen_of_row _ _ k _ _ hO2
          have e1 : ((i : Int) - 1).tdiv 2 = (md : Int) := by rw [Int.tdiv_eq_ediv_of_nonneg (by omega)]; omega
          have hmi : (md : Int) < i := by omega
          have HSt : Hid (((medP l).take k ++ List.replicate (64 - k) 0).set k v = (medP l).take (k + 1) ++ List.replicate (64 - (k + 1)) 0) := Lib.hid (by rw [hv]; exact med_step l k hlt)
          have HBW := Lib.hid (bt HW.out HV.out)
          have HSZ := Lib.hid (Nat.le_trans HZ.out HV.out.size)
          clear hv hmd hc hR2 hf hil hO2 hg1 hg2 hcap hcm
          go_wp2
          go_roundw
          case rel => exact ⟨k + 1, by omega, by go_num, by rw [arr_store HO2.out, HSt.out], heap_far _ (by have := HGO.out; simp; omega) H02.out, HBW.out.setCell (p := ⟨go, _, none⟩) (by have := HGO.out; simp; omega) _, by simpa using HSZ.out⟩
          case measure => simp [intOf]; omega
    · have hk64 : k = 64 := by omega
      subst hk64
      have HF : Hid (wo.heap[go]? = some (.cells (arr .i16 (medP l)) 37 (0, 0))) := Lib.hid (by have := HO.out; rwa [List.take_of_length_le (by rw [medP_length]; omega), Nat.sub_self, List.replicate_zero, List.append_nil] at this)
      have hne : w.heap.size ≠ go := by have := HGO.out; omega
      go_wp2_with (first
        | (refine wpList_load_row rfl 37 (.tmp 3) rfl _ rfl _ _ _ _ HF.out Tryd.underlying37 rfl (by rw [szPrint, arr_size, medP_length]) ?_)
        | (refine wpList_store_row rfl 37 (.tmp 2) (.tmp 67) rfl _ _ rfl rfl _ _ H0.out (by rw [szPrint, arr_size, medP_length]) (by rw [arr_size, arr_size, medP_length, Z64_length]) (arr_one _ _) ?_))
      exact bodyPost_ret (results_cell_row rfl _ _ _ _ _ _ _ rfl (setRow_heap _ _ _ _ _ _ H0.out) Tryd.underlying37 rfl (by rw [szPrint, arr_size, medP_length])) rfl ⟨rfl, below_setRow HW.out (Nat.le_refl _) _⟩
end Go.Proofs.YtdmlefccajaniaaDoor
