/- FnBands: densities of bands: the program's and the reference's. -/
import Derived.Test.YtbcahfiknelkcaaGreatDoorBandM
import Derived.Test.YtbcahfiknelkcaaGreatDoorCrvL
import Derived.Test.YtbcahfiknelkcaaGreatDoorPap
namespace Go.Proofs.YtbcahfiknelkcaaGreatDoor
open Go.RowKit
set_option maxRecDepth 100000
theorem band_succ (q : Cv) (d : Int) (X : List Int) (k : Nat) (hk : k < X.length) : (bandL q d X).take (k + 1) = (bandL q d X).take k ++ [darkV q (X.getD k 0) d] := by
  rw [List.take_succ_eq_append_getElem (by rw [bandL_len]; exact hk)]
  simp [bandL, List.getD_eq_getElem?_getD, hk]
theorem lig_len {a e : Int} {n : Nat} : (ligL a e n).length = n := ligL_len a e n
theorem lig_rng {a e : Int} {n : Nat} (h : Stp a e n) : ∀ k, k < n → 0 ≤ (ligL a e n).getD k 0 ∧ (ligL a e n).getD k 0 ≤ 36 := fun k hk => by rw [ligL_get a e n k hk]; exact lig_bd h hk
theorem cov_rng {a e : Int} {n : Nat} (_ : Stp a e n) : ∀ k, k < n → 0 ≤ (covL a e n).getD k 0 ∧ (covL a e n).getD k 0 ≤ 36 := fun k hk => by rw [covL_get a e n k hk]; exact cov_bd a e k
set_option maxHeartbeats 2000000 in
theorem implBandsL_c (a e : Int) (n : Nat) (h : Stp a e n) (p : Option Addr) (m c : Nat) (q : Cv) (hq : Pap q) (hm : m = q.length) (hm2 : m ≤ 1048576) (d : Int) (d0 : 0 ≤ d) (d1 : d ≤ 400) (w : World) (hp : CvS w p q) :
    Calls Tryz.prog 62 #[.agg #[.int .i8 a, .int .i8 e, .int .i8 n], .slice p m c, .int .i64 d, .func (.func 58) #[.agg #[.int .i8 a, .int .i8 e, .int .i8 n]] #[]] w fun x w' => ∃ v, x = .returned (.tuple #[v, .int .i64 0]) ∧ Row w' w.heap.size 2 .i64 v (bandL q d (ligL a e n)) ∧ Below w.heap.size w w' := by
  have HP := Lib.hid h
  have H8 := Lib.hid (stp_8 h)
  have HOK := Lib.hid (stp_ok h)
  have HQ := Lib.hid hq
  have HM := Lib.hid hm
  have HA := Lib.hid hp
  have HD : Hid (ydB d = true) := Lib.hid ((ydB_iff d).2 ⟨d0, d1⟩)
  obtain ⟨X, hX⟩ : ∃ X, X = ligL a e n := ⟨_, rfl⟩
  have HX := Lib.hid hX
  have HXl : Hid (X.length = n) := Lib.hid (by rw [hX]; exact ligL_len a e n)
  have HXb : Hid (∀ k, k < n → 0 ≤ X.getD k 0 ∧ X.getD k 0 ≤ 36) := Lib.hid (by rw [hX]; exact lig_rng h)
  have hn20 := h.n20
  have hn1 := h.n1
  rw [← hX]
  obtain ⟨T, hT⟩ : ∃ T, T = bandL q d X := ⟨_, rfl⟩
  have HTl : Hid (T.length = n) := Lib.hid (by rw [hT, bandL_len, HXl.out])
  have HTs : Hid (∀ k, k < n → T.take (k + 1) = T.take k ++ [darkV q (X.getD k 0) d]) := Lib.hid (fun k hk => by rw [hT]; exact band_succ q d X k (by rw [HXl.out]; exact hk))
  have HTg : Hid (∀ k, k < n → T.getD k 0 = darkV q (X.getD k 0) d) := Lib.hid (fun k hk => by rw [hT]; exact bandL_get q d X k (by rw [HXl.out]; exact hk))
  rw [← hT]
  have K0 := Lib.hid (al1_0 w (.cells #[.int .i8 a, .int .i8 e, .int .i8 n] 26))
  have B0 := Lib.hid (bl1 w (.cells #[.int .i8 a, .int .i8 e, .int .i8 n] 26))
  have c0 := blk3_0 K0.out
  have c1 := blk3_1 K0.out
  have c2 := blk3_2 K0.out
  clear h hX hT hq hm hp
  go_enter Tryz.func62, Tryz.ntmps62
  go_wp2_with fail
  generalize w.alloc (.cells #[.int .i8 a, .int .i8 e, .int .i8 n] 26) = w1 at *
  refine (srValid_c a e n H8.out _).mono ?_
  rw [HOK.out]
  rintro x w2 ⟨rfl, hb⟩
  have K1 := Lib.hid (heap_below hb (lt_of_heap K0.out) K0.out)
  have B1 := Lib.hid (bt B0.out hb)
  clear hb c0 c1 c2 K0 B0
  have c0 := blk3_0 K1.out
  have c1 := blk3_1 K1.out
  have c2 := blk3_2 K1.out
  go_wp2_with fail
  refine (cValid_c p m c q HQ.out.i16 HM.out hm2 _ (CvS_below B1.out HA.out)).mono ?_
  rw [HQ.out.ok]
  rintro x w3 ⟨rfl, hb⟩
  have K2 := Lib.hid (heap_below hb (lt_of_heap K1.out) K1.out)
  have B2 := Lib.hid (bt B1.out hb)
  clear hb c0 c1 c2 K1 B1
  have c0 := blk3_0 K2.out
  have c1 := blk3_1 K2.out
  have c2 := blk3_2 K2.out
  go_wp2_with fail
  refine (cIsDensity_c d _).mono ?_
  rw [HD.out]
  rintro x w' ⟨rfl, rfl⟩
  have HR1 := Lib.hid (row_new w3 2 .i64 w3.heap.size (Nat.le_refl _))
  have HB1 := Lib.hid (bl1 w3 (.cells #[] 2))
  have hz1 : w3.heap.size < (w3.alloc (.cells #[] 2)).heap.size := by simp
  clear c0 c1 c2
  go_wp2_with fail
  generalize w3.alloc (.cells #[] 2) = w4 at *
  refine (implLights_c a e n HP.out _).mono ?_
  rw [← HX.out]
  rintro x w5 ⟨v, rfl, hR, hb⟩
  obtain ⟨pl, cl, hv, hLi⟩ := lies_start (g := w3.heap.size) (n := 0) (c := 0) hR (by omega)
  rw [HXl.out] at hv
  subst hv
  have HLi := Lib.hid hLi
  have HR5 := Lib.hid (row_below HR1.out hb)
  have HB5 := Lib.hid (bt HB1.out hb)
  clear hR hLi hb HR1 HB1 hz1
  go_wp2_with fail
  go_loopw [10, 12, 30] (fun v _ i wr => ∃ k : Nat, k ≤ n ∧ i = .int .i64 k ∧ Row wr w3.heap.size 2 .i64 v (T.take k) ∧ Lies wr v pl X ∧ Below w3.heap.size w3 wr) (fun _ _ i _ => n - (intOf i).toNat)
  case atStart => exact ⟨0, by omega, rfl, by rw [List.take_zero]; exact HR5.out, HLi.out, HB5.out⟩
  case round =>
    clear HR5 HLi HB5
    obtain ⟨k, hk, rfl, hR, hLi, hW⟩ := hrel
    have HR := Lib.hid hR
    have HW := Lib.hid hW
    have HLi := Lib.hid hLi
    clear hR hW hLi
    by_cases hlt : k < n
    · have hkn : (k : Int) < n := by omega
      obtain ⟨b, o, rfl, hbz, hbn, hcl⟩ := HLi.out (neL_of_lt_i64 (k := k) (by rw [HXl.out]; exact hlt))
      have hc := hcl k (by rw [HXl.out]; exact hlt)
      have hxb := HXb.out k hlt
      have HTn := Lib.hid (HTs.out k hlt)
      generalize X.getD k 0 = x at *
      have HL8 : Hid ((T.take k).length ≤ 17592186000000) := Lib.hid (by rw [List.length_take, HTl.out]; omega)
      clear hcl
      go_wp2_with fail
      refine (cBehind_c p m c q HQ.out.good HM.out d x d0 d1 ⟨by omega, by omega⟩ _ (CvS_below (bt B2.out HW.out) HA.out)).mono ?_
      generalize darkV q x d = y at *
      rintro z w7 ⟨rfl, hb⟩
      have HR1 := Lib.hid (row_below HR.out hb)
      have HW1 := Lib.hid (bt HW.out hb)
      have HL1 := Lib.hid (lies_below HLi.out hb)
      clear hb HR HW HLi hc
      go_wp2_with (at_builtin; refine wpList_appAt rfl (.tmp 34) (.tmp 39) 35 rfl w3.heap.size 2 .i64 8 Tryz.underlying35 info_i64B (by decide) _ _ rfl (row_alloc HR1.out _) _ 1 y rfl (by simp) HL8.out (by have := HW1.out.size; simp at this ⊢; omega) ?_; intro v1 w6 hrow hgr hbk hown; have HRn := Lib.hid hrow; have HWn := Lib.hid (below_app (HW1.out.alloc HW1.out.size _) hgr (Nat.le_refl _) hbk); have HLn := Lib.hid (lies_app (lies_alloc HL1.out _) hgr hown); clear hrow hgr hbk hown)
      go_roundw
      case rel => exact ⟨k + 1, by omega, by go_num, by rw [HTn.out]; exact HRn.out, HLn.out, HWn.out⟩
      case measure => simp [intOf]; omega
    · have hke : k = n := by omega
      subst hke
      have hsz := B2.out.size
      go_wp2
      go_ret2
      exact ⟨_, rfl, by have h := HR.out; rw [List.take_of_length_le (by rw [HTl.out]; exact Nat.le_refl _)] at h; exact row_monoB h (by omega), bt B2.out HW.out⟩
set_option maxHeartbeats 2000000 in
theorem implBandsC_c (a e : Int) (n : Nat) (h : Stp a e n) (p : Option Addr) (m c : Nat) (q : Cv) (hq : Pap q) (hm : m = q.length) (hm2 : m ≤ 1048576) (d : Int) (d0 : 0 ≤ d) (d1 : d ≤ 400) (w : World) (hp : CvS w p q) :
    Calls Tryz.prog 62 #[.agg #[.int .i8 a, .int .i8 e, .int .i8 n], .slice p m c, .int .i64 d, .func (.func 59) #[.agg #[.int .i8 a, .int .i8 e, .int .i8 n]] #[]] w fun x w' => ∃ v, x = .returned (.tuple #[v, .int .i64 0]) ∧ Row w' w.heap.size 2 .i64 v (bandL q d (covL a e n)) ∧ Below w.heap.size w w' := by
  have HP := Lib.hid h
  have H8 := Lib.hid (stp_8 h)
  have HOK := Lib.hid (stp_ok h)
  have HQ := Lib.hid hq
  have HM := Lib.hid hm
  have HA := Lib.hid hp
  have HD : Hid (ydB d = true) := Lib.hid ((ydB_iff d).2 ⟨d0, d1⟩)
  obtain ⟨X, hX⟩ : ∃ X, X = covL a e n := ⟨_, rfl⟩
  have HX := Lib.hid hX
  have HXl : Hid (X.length = n) := Lib.hid (by rw [hX]; exact covL_len a e n)
  have HXb : Hid (∀ k, k < n → 0 ≤ X.getD k 0 ∧ X.getD k 0 ≤ 36) := Lib.hid (by rw [hX]; exact cov_rng h)
  have hn20 := h.n20
  have hn1 := h.n1
  rw [← hX]
  obtain ⟨T, hT⟩ : ∃ T, T = bandL q d X := ⟨_, rfl⟩
  have HTl : Hid (T.length = n) := Lib.hid (by rw [hT, bandL_len, HXl.out])
  have HTs : Hid (∀ k, k < n → T.take (k + 1) = T.take k ++ [darkV q (X.getD k 0) d]) := Lib.hid (fun k hk => by rw [hT]; exact band_succ q d X k (by rw [HXl.out]; exact hk))
  have HTg : Hid (∀ k, k < n → T.getD k 0 = darkV q (X.getD k 0) d) := Lib.hid (fun k hk => by rw [hT]; exact bandL_get q d X k (by rw [HXl.out]; exact hk))
  rw [← hT]
  have K0 := Lib.hid (al1_0 w (.cells #[.int .i8 a, .int .i8 e, .int .i8 n] 26))
  have B0 := Lib.hid (bl1 w (.cells #[.int .i8 a, .int .i8 e, .int .i8 n] 26))
  have c0 := blk3_0 K0.out
  have c1 := blk3_1 K0.out
  have c2 := blk3_2 K0.out
  clear h hX hT hq hm hp
  go_enter Tryz.func62, Tryz.ntmps62
  go_wp2_with fail
  generalize w.alloc (.cells #[.int .i8 a, .int .i8 e, .int .i8 n] 26) = w1 at *
  refine (srValid_c a e n H8.out _).mono ?_
  rw [HOK.out]
  rintro x w2 ⟨rfl, hb⟩
  have K1 := Lib.hid (heap_below hb (lt_of_heap K0.out) K0.out)
  have B1 := Lib.hid (bt B0.out hb)
  clear hb c0 c1 c2 K0 B0
  have c0 := blk3_0 K1.out
  have c1 := blk3_1 K1.out
  have c2 := blk3_2 K1.out
  go_wp2_with fail
  refine (cValid_c p m c q HQ.out.i16 HM.out hm2 _ (CvS_below B1.out HA.out)).mono ?_
  rw [HQ.out.ok]
  rintro x w3 ⟨rfl, hb⟩
  have K2 := Lib.hid (heap_below hb (lt_of_heap K1.out) K1.out)
  have B2 := Lib.hid (bt B1.out hb)
  clear hb c0 c1 c2 K1 B1
  have c0 := blk3_0 K2.out
  have c1 := blk3_1 K2.out
  have c2 := blk3_2 K2.out
  go_wp2_with fail
  refine (cIsDensity_c d _).mono ?_
  rw [HD.out]
  rintro x w' ⟨rfl, rfl⟩
  have HR1 := Lib.hid (row_new w3 2 .i64 w3.heap.size (Nat.le_refl _))
  have HB1 := Lib.hid (bl1 w3 (.cells #[] 2))
  have hz1 : w3.heap.size < (w3.alloc (.cells #[] 2)).heap.size := by simp
  clear c0 c1 c2
  go_wp2_with fail
  generalize w3.alloc (.cells #[] 2) = w4 at *
  refine (implCovered_c a e n HP.out _).mono ?_
  rw [← HX.out]
  rintro x w5 ⟨v, rfl, hR, hb⟩
  obtain ⟨pl, cl, hv, hLi⟩ := lies_start (g := w3.heap.size) (n := 0) (c := 0) hR (by omega)
  rw [HXl.out] at hv
  subst hv
  have HLi := Lib.hid hLi
  have HR5 := Lib.hid (row_below HR1.out hb)
  have HB5 := Lib.hid (bt HB1.out hb)
  clear hR hLi hb HR1 HB1 hz1
  go_wp2_with fail
  go_loopw [10, 12, 30] (fun v _ i wr => ∃ k : Nat, k ≤ n ∧ i = .int .i64 k ∧ Row wr w3.heap.size 2 .i64 v (T.take k) ∧ Lies wr v pl X ∧ Below w3.heap.size w3 wr) (fun _ _ i _ => n - (intOf i).toNat)
  case atStart => exact ⟨0, by omega, rfl, by rw [List.take_zero]; exact HR5.out, HLi.out, HB5.out⟩
  case round =>
    clear HR5 HLi HB5
    obtain ⟨k, hk, rfl, hR, hLi, hW⟩ := hrel
    have HR := Lib.hid hR
    have HW := Lib.hid hW
    have HLi := Lib.hid hLi
    clear hR hW hLi
    by_cases hlt : k < n
    · have hkn : (k : Int) < n := by omega
      obtain ⟨b, o, rfl, hbz, hbn, hcl⟩ := HLi.out (neL_of_lt_i64 (k := k) (by rw [HXl.out]; exact hlt))
      have hc := hcl k (by rw [HXl.out]; exact hlt)
      have hxb := HXb.out k hlt
      have HTn := Lib.hid (HTs.out k hlt)
      generalize X.getD k 0 = x at *
      have HL8 : Hid ((T.take k).length ≤ 17592186000000) := Lib.hid (by rw [List.length_take, HTl.out]; omega)
      clear hcl
      go_wp2_with fail
      refine (cBehind_c p m c q HQ.out.good HM.out d x d0 d1 ⟨by omega, by omega⟩ _ (CvS_below (bt B2.out HW.out) HA.out)).mono ?_
      generalize darkV q x d = y at *
      rintro z w7 ⟨rfl, hb⟩
      have HR1 := Lib.hid (row_below HR.out hb)
      have HW1 := Lib.hid (bt HW.out hb)
      have HL1 := Lib.hid (lies_below HLi.out hb)
      clear hb HR HW HLi hc
      go_wp2_with (at_builtin; refine wpList_appAt rfl (.tmp 34) (.tmp 39) 35 rfl w3.heap.size 2 .i64 8 Tryz.underlying35 info_i64B (by decide) _ _ rfl (row_alloc HR1.out _) _ 1 y rfl (by simp) HL8.out (by have := HW1.out.size; simp at this ⊢; omega) ?_; intro v1 w6 hrow hgr hbk hown; have HRn := Lib.hid hrow; have HWn := Lib.hid (below_app (HW1.out.alloc HW1.out.size _) hgr (Nat.le_refl _) hbk); have HLn := Lib.hid (lies_app (lies_alloc HL1.out _) hgr hown); clear hrow hgr hbk hown)
      go_roundw
      case rel => exact ⟨k + 1, by omega, by go_num, by rw [HTn.out]; exact HRn.out, HLn.out, HWn.out⟩
      case measure => simp [intOf]; omega
    · have hke : k = n := by omega
      subst hke
      have hsz := B2.out.size
      go_wp2
      go_ret2
      exact ⟨_, rfl, by have h := HR.out; rw [List.take_of_length_le (by rw [HTl.out]; exact Nat.le_refl _)] at h; exact row_monoB h (by omega), bt B2.out HW.out⟩
set_option maxHeartbeats 2000000 in
theorem specBandsL_c (a e : Int) (n : Nat) (h : Stp a e n) (p : Option Addr) (m c : Nat) (q : Cv) (hq : Pap q) (hm : m = q.length) (hm2 : m ≤ 1048576) (d : Int) (d0 : 0 ≤ d) (d1 : d ≤ 400) (w : World) (hp : CvS w p q) :
    Calls Tryz.prog 63 #[.agg #[.int .i8 a, .int .i8 e, .int .i8 n], .slice p m c, .int .i64 d, .bool false] w fun x w' => ∃ v, x = .returned (.tuple #[v, .int .i64 0]) ∧ Row w' w.heap.size 2 .i64 v (bandL q d (ligL a e n)) ∧ Below w.heap.size w w' := by
  have HP := Lib.hid h
  have H8 := Lib.hid (stp_8 h)
  have HOK := Lib.hid (stp_ok h)
  have HQ := Lib.hid hq
  have HM := Lib.hid hm
  have HA := Lib.hid hp
  have HD : Hid (ydB d = true) := Lib.hid ((ydB_iff d).2 ⟨d0, d1⟩)
  obtain ⟨X, hX⟩ : ∃ X, X = ligL a e n := ⟨_, rfl⟩
  have HX := Lib.hid hX
  have HXl : Hid (X.length = n) := Lib.hid (by rw [hX]; exact ligL_len a e n)
  have HXb : Hid (∀ k, k < n → 0 ≤ X.getD k 0 ∧ X.getD k 0 ≤ 36) := Lib.hid (by rw [hX]; exact lig_rng h)
  have hn20 := h.n20
  have hn1 := h.n1
  rw [← hX]
  obtain ⟨T, hT⟩ : ∃ T, T = bandL q d X := ⟨_, rfl⟩
  have HTl : Hid (T.length = n) := Lib.hid (by rw [hT, bandL_len, HXl.out])
  have HTs : Hid (∀ k, k < n → T.take (k + 1) = T.take k ++ [darkV q (X.getD k 0) d]) := Lib.hid (fun k hk => by rw [hT]; exact band_succ q d X k (by rw [HXl.out]; exact hk))
  have HTg : Hid (∀ k, k < n → T.getD k 0 = darkV q (X.getD k 0) d) := Lib.hid (fun k hk => by rw [hT]; exact bandL_get q d X k (by rw [HXl.out]; exact hk))
  rw [← hT]
  have K0 := Lib.hid (al1_0 w (.cells #[.int .i8 a, .int .i8 e, .int .i8 n] 26))
  have B0 := Lib.hid (bl1 w (.cells #[.int .i8 a, .int .i8 e, .int .i8 n] 26))
  have c0 := blk3_0 K0.out
  have c1 := blk3_1 K0.out
  have c2 := blk3_2 K0.out
  clear h hX hT hq hm hp
  go_enter Tryz.func63, Tryz.ntmps63
  go_wp2_with fail
  generalize w.alloc (.cells #[.int .i8 a, .int .i8 e, .int .i8 n] 26) = w1 at *
  refine (srOkS_c a e n H8.out _).mono ?_
  rw [HOK.out]
  rintro x w2 ⟨rfl, hb⟩
  have K1 := Lib.hid (heap_below hb (lt_of_heap K0.out) K0.out)
  have B1 := Lib.hid (bt B0.out hb)
  clear hb c0 c1 c2 K0 B0
  have c0 := blk3_0 K1.out
  have c1 := blk3_1 K1.out
  have c2 := blk3_2 K1.out
  go_wp2_with fail
  refine (cOk_c p m c q HQ.out.i16 HM.out hm2 _ (CvS_below B1.out HA.out)).mono ?_
  rw [HQ.out.ok]
  rintro x w3 ⟨rfl, hb⟩
  have K2 := Lib.hid (heap_below hb (lt_of_heap K1.out) K1.out)
  have B2 := Lib.hid (bt B1.out hb)
  clear hb c0 c1 c2 K1 B1
  have c0 := blk3_0 K2.out
  have c1 := blk3_1 K2.out
  have c2 := blk3_2 K2.out
  go_wp2_with fail
  refine (cDensity_c d _).mono ?_
  rw [HD.out]
  rintro x w' ⟨rfl, rfl⟩
  go_wp2_with fail
  refine (specLights_c a e n HP.out _).mono ?_
  rw [← HX.out]
  rintro x w5 ⟨v, rfl, hR, hb⟩
  have HZ := Lib.hid B2.out.size
  have HB5 := Lib.hid (bt B2.out hb)
  have hbs := Lib.hid hb.size
  obtain ⟨g, cap, rfl, hg1, hg2, hcap, hcm, _⟩ := row_shape hR (neL_of_lt_i64 (k := 0) (by rw [HXl.out]; omega))
  rw [HXl.out] at hR ⊢
  have HR5 := Lib.hid hR
  have HG : Hid (w.heap.size ≤ g) := Lib.hid (by have := HZ.out; omega)
  have HTX : Hid (T.length = X.length) := Lib.hid (by rw [HTl.out, HXl.out])
  have HZ5 : Hid (w.heap.size ≤ w5.heap.size) := Lib.hid (by have := HZ.out; have := hbs.out; omega)
  clear hR hb hg1 hg2 hcap hcm c0 c1 c2 HZ hbs
  go_wp2_with fail
  go_loopw [11] (fun i wr => ∃ k : Nat, k ≤ n ∧ i = .int .i64 k ∧ Row wr w.heap.size 2 .i64 (.slice (some ⟨g, 0, none⟩) n cap) (mixL T X k) ∧ Below w.heap.size w wr) (fun i _ => n - (intOf i).toNat)
  case atStart => exact ⟨0, by omega, rfl, by rw [mix_zero]; exact row_monoB HR5.out (by first | omega | (have := B2.out.size; omega)), HB5.out⟩
  case round =>
    clear HR5 HB5
    obtain ⟨k, hk, rfl, hR, hW⟩ := hrel
    have HR := Lib.hid hR
    have HW := Lib.hid hW
    clear hR hW
    by_cases hlt : k < n
    · have hkn : (k : Int) < n := by omega
      have hc := row_cellB HR.out k (by rw [mix_len HTX.out (by have := HXl.out; omega), HXl.out]; exact hlt)
      rw [mix_get HTX.out (by rw [HXl.out]; exact hlt)] at hc
      have HSet : Hid ((mixL T X k).set k (darkV q (X.getD k 0) d) = mixL T X (k + 1)) := Lib.hid (by rw [← HTg.out k hlt]; exact mix_set HTX.out (by rw [HXl.out]; exact hlt))
      have hxb := HXb.out k hlt
      generalize X.getD k 0 = x at *
      have HD := Lib.hid (fun w hp => cDark_c p m c q HQ.out.good HM.out d x d0 d1 ⟨by omega, by omega⟩ w hp)
      generalize darkV q x d = y at *
      go_wp2_with fail
      refine (HD.out _ (CvS_below HW.out HA.out)).mono ?_
      rintro z w7 ⟨rfl, hb⟩
      have HR1 := Lib.hid (row_below HR.out hb)
      have HW1 := Lib.hid (bt HW.out hb)
      have hfr := row_frzB HR1.out k
      have hc5 := row_cellB HR1.out k (by rw [mix_len HTX.out (by have := HXl.out; omega), HXl.out]; exact hlt)
      clear hb HR HW hc
      go_wp2
      go_roundw
      case rel => exact ⟨k + 1, by omega, by go_num, by rw [← HSet.out]; exact row_setB HR1.out _ _, HW1.out.setCell (p := ⟨g, k, none⟩) (by have := HG.out; show w.heap.size ≤ g; omega) _⟩
      case measure => simp [intOf]; omega
    · have hke : k = n := by omega
      subst hke
      go_wp2
      go_ret2
      exact ⟨_, rfl, by have h := HR.out; have e1 := mix_all HTX.out; rw [HTl.out] at e1; rwa [e1] at h, HW.out⟩
set_option maxHeartbeats 2000000 in
theorem specBandsC_c (a e : Int) (n : Nat) (h : Stp a e n) (p : Option Addr) (m c : Nat) (q : Cv) (hq : Pap q) (hm : m = q.length) (hm2 : m ≤ 1048576) (d : Int) (d0 : 0 ≤ d) (d1 : d ≤ 400) (w : World) (hp : CvS w p q) :
    Calls Tryz.prog 63 #[.agg #[.int .i8 a, .int .i8 e, .int .i8 n], .slice p m c, .int .i64 d, .bool true] w fun x w' => ∃ v, x = .returned (.tuple #[v, .int .i64 0]) ∧ Row w' w.heap.size 2 .i64 v (bandL q d (covL a e n)) ∧ Below w.heap.size w w' := by
  have HP := Lib.hid h
  have H8 := Lib.hid (stp_8 h)
  have HOK := Lib.hid (stp_ok h)
  have HQ := Lib.hid hq
  have HM := Lib.hid hm
  have HA := Lib.hid hp
  have HD : Hid (ydB d = true) := Lib.hid ((ydB_iff d).2 ⟨d0, d1⟩)
  obtain ⟨X, hX⟩ : ∃ X, X = covL a e n := ⟨_, rfl⟩
  have HX := Lib.hid hX
  have HXl : Hid (X.length = n) := Lib.hid (by rw [hX]; exact covL_len a e n)
  have HXb : Hid (∀ k, k < n → 0 ≤ X.getD k 0 ∧ X.getD k 0 ≤ 36) := Lib.hid (by rw [hX]; exact cov_rng h)
  have hn20 := h.n20
  have hn1 := h.n1
  rw [← hX]
  obtain ⟨T, hT⟩ : ∃ T, T = bandL q d X := ⟨_, rfl⟩
  have HTl : Hid (T.length = n) := Lib.hid (by rw [hT, bandL_len, HXl.out])
  have HTs : Hid (∀ k, k < n → T.take (k + 1) = T.take k ++ [darkV q (X.getD k 0) d]) := Lib.hid (fun k hk => by rw [hT]; exact band_succ q d X k (by rw [HXl.out]; exact hk))
  have HTg : Hid (∀ k, k < n → T.getD k 0 = darkV q (X.getD k 0) d) := Lib.hid (fun k hk => by rw [hT]; exact bandL_get q d X k (by rw [HXl.out]; exact hk))
  rw [← hT]
  have K0 := Lib.hid (al1_0 w (.cells #[.int .i8 a, .int .i8 e, .int .i8 n] 26))
  have B0 := Lib.hid (bl1 w (.cells #[.int .i8 a, .int .i8 e, .int .i8 n] 26))
  have c0 := blk3_0 K0.out
  have c1 := blk3_1 K0.out
  have c2 := blk3_2 K0.out
  clear h hX hT hq hm hp
  go_enter Tryz.func63, Tryz.ntmps63
  go_wp2_with fail
  generalize w.alloc (.cells #[.int .i8 a, .int .i8 e, .int .i8 n] 26) = w1 at *
  refine (srOkS_c a e n H8.out _).mono ?_
  rw [HOK.out]
  rintro x w2 ⟨rfl, hb⟩
  have K1 := Lib.hid (heap_below hb (lt_of_heap K0.out) K0.out)
  have B1 := Lib.hid (bt B0.out hb)
  clear hb c0 c1 c2 K0 B0
  have c0 := blk3_0 K1.out
  have c1 := blk3_1 K1.out
  have c2 := blk3_2 K1.out
  go_wp2_with fail
  refine (cOk_c p m c q HQ.out.i16 HM.out hm2 _ (CvS_below B1.out HA.out)).mono ?_
  rw [HQ.out.ok]
  rintro x w3 ⟨rfl, hb⟩
  have K2 := Lib.hid (heap_below hb (lt_of_heap K1.out) K1.out)
  have B2 := Lib.hid (bt B1.out hb)
  clear hb c0 c1 c2 K1 B1
  have c0 := blk3_0 K2.out
  have c1 := blk3_1 K2.out
  have c2 := blk3_2 K2.out
  go_wp2_with fail
  refine (cDensity_c d _).mono ?_
  rw [HD.out]
  rintro x w' ⟨rfl, rfl⟩
  go_wp2_with fail
  refine (specLights_c a e n HP.out _).mono ?_
  rintro x w4 ⟨v0, rfl, hR0, hb⟩
  have K3 := Lib.hid (heap_below hb (lt_of_heap K2.out) K2.out)
  have B3 := Lib.hid (bt B2.out hb)
  clear hb c0 c1 c2 K2 B2
  have c0 := blk3_0 K3.out
  have c1 := blk3_1 K3.out
  have c2 := blk3_2 K3.out
  clear hR0
  go_wp2_with fail
  refine (specCovered_c a e n HP.out _).mono ?_
  rw [← HX.out]
  rintro x w5 ⟨v, rfl, hR, hb⟩
  have HZ := Lib.hid B3.out.size
  have HB5 := Lib.hid (bt B3.out hb)
  have hbs := Lib.hid hb.size
  obtain ⟨g, cap, rfl, hg1, hg2, hcap, hcm, _⟩ := row_shape hR (neL_of_lt_i64 (k := 0) (by rw [HXl.out]; omega))
  rw [HXl.out] at hR ⊢
  have HR5 := Lib.hid hR
  have HG : Hid (w.heap.size ≤ g) := Lib.hid (by have := HZ.out; omega)
  have HTX : Hid (T.length = X.length) := Lib.hid (by rw [HTl.out, HXl.out])
  have HZ5 : Hid (w.heap.size ≤ w5.heap.size) := Lib.hid (by have := HZ.out; have := hbs.out; omega)
  clear hR hb hg1 hg2 hcap hcm c0 c1 c2 HZ hbs
  go_wp2_with fail
  go_loopw [11] (fun i wr => ∃ k : Nat, k ≤ n ∧ i = .int .i64 k ∧ Row wr w.heap.size 2 .i64 (.slice (some ⟨g, 0, none⟩) n cap) (mixL T X k) ∧ Below w.heap.size w wr) (fun i _ => n - (intOf i).toNat)
  case atStart => exact ⟨0, by omega, rfl, by rw [mix_zero]; exact row_monoB HR5.out (by first | omega | (have := B3.out.size; omega)), HB5.out⟩
  case round =>
    clear HR5 HB5
    obtain ⟨k, hk, rfl, hR, hW⟩ := hrel
    have HR := Lib.hid hR
    have HW := Lib.hid hW
    clear hR hW
    by_cases hlt : k < n
    · have hkn : (k : Int) < n := by omega
      have hc := row_cellB HR.out k (by rw [mix_len HTX.out (by have := HXl.out; omega), HXl.out]; exact hlt)
      rw [mix_get HTX.out (by rw [HXl.out]; exact hlt)] at hc
      have HSet : Hid ((mixL T X k).set k (darkV q (X.getD k 0) d) = mixL T X (k + 1)) := Lib.hid (by rw [← HTg.out k hlt]; exact mix_set HTX.out (by rw [HXl.out]; exact hlt))
      have hxb := HXb.out k hlt
      generalize X.getD k 0 = x at *
      have HD := Lib.hid (fun w hp => cDark_c p m c q HQ.out.good HM.out d x d0 d1 ⟨by omega, by omega⟩ w hp)
      generalize darkV q x d = y at *
      go_wp2_with fail
      refine (HD.out _ (CvS_below HW.out HA.out)).mono ?_
      rintro z w7 ⟨rfl, hb⟩
      have HR1 := Lib.hid (row_below HR.out hb)
      have HW1 := Lib.hid (bt HW.out hb)
      have hfr := row_frzB HR1.out k
      have hc5 := row_cellB HR1.out k (by rw [mix_len HTX.out (by have := HXl.out; omega), HXl.out]; exact hlt)
      clear hb HR HW hc
      go_wp2
      go_roundw
      case rel => exact ⟨k + 1, by omega, by go_num, by rw [← HSet.out]; exact row_setB HR1.out _ _, HW1.out.setCell (p := ⟨g, k, none⟩) (by have := HG.out; show w.heap.size ≤ g; omega) _⟩
      case measure => simp [intOf]; omega
    · have hke : k = n := by omega
      subst hke
      go_wp2
      go_ret2
      exact ⟨_, rfl, by have h := HR.out; have e1 := mix_all HTX.out; rw [HTl.out] at e1; rwa [e1] at h, HW.out⟩
theorem implBandsOf_c (a e : Int) (n : Nat) (h : Stp a e n) (p : Option Addr) (m c : Nat) (q : Cv) (hq : Pap q) (hm : m = q.length) (hm2 : m ≤ 1048576) (d : Int) (d0 : 0 ≤ d) (d1 : d ≤ 400) (w : World) (hp : CvS w p q) :
    Calls Tryz.prog 14 #[.agg #[.int .i8 a, .int .i8 e, .int .i8 n], .slice p m c, .int .i64 d] w fun x w' => ∃ v, x = .returned (.tuple #[v, .int .i64 0]) ∧ Row w' w.heap.size 2 .i64 v (bandL q d (ligL a e n)) ∧ Below w.heap.size w w' := by
  have HP := Lib.hid h
  have HQ := Lib.hid hq
  have HM := Lib.hid hm
  have HA := Lib.hid hp
  have K0 := Lib.hid (al1_0 w (.cells #[.int .i8 a, .int .i8 e, .int .i8 n] 26))
  have B0 := Lib.hid (bl1 w (.cells #[.int .i8 a, .int .i8 e, .int .i8 n] 26))
  have hsz := B0.out.size
  have c0 := blk3_0 K0.out
  have c1 := blk3_1 K0.out
  have c2 := blk3_2 K0.out
  obtain ⟨T, hT⟩ : ∃ T, T = bandL q d (ligL a e n) := ⟨_, rfl⟩
  have HT := Lib.hid hT
  rw [← hT]
  clear h hq hm hp hT
  go_enter Tryz.func14, Tryz.ntmps14
  go_wp2_with fail
  refine (implBandsL_c a e n HP.out p m c q HQ.out HM.out hm2 d d0 d1 _ (CvS_below B0.out HA.out)).mono ?_
  rw [← HT.out]
  rintro x w3 ⟨v, rfl, hR, hb⟩
  have HR := Lib.hid hR
  have HB3 := Lib.hid (bt B0.out hb)
  clear hR hb c0 c1 c2
  go_wp2
  go_ret2
  exact ⟨_, rfl, row_monoB HR.out hsz, HB3.out⟩
theorem implCovBands_c (a e : Int) (n : Nat) (h : Stp a e n) (p : Option Addr) (m c : Nat) (q : Cv) (hq : Pap q) (hm : m = q.length) (hm2 : m ≤ 1048576) (d : Int) (d0 : 0 ≤ d) (d1 : d ≤ 400) (w : World) (hp : CvS w p q) :
    Calls Tryz.prog 16 #[.agg #[.int .i8 a, .int .i8 e, .int .i8 n], .slice p m c, .int .i64 d] w fun x w' => ∃ v, x = .returned (.tuple #[v, .int .i64 0]) ∧ Row w' w.heap.size 2 .i64 v (bandL q d (covL a e n)) ∧ Below w.heap.size w w' := by
  have HP := Lib.hid h
  have HQ := Lib.hid hq
  have HM := Lib.hid hm
  have HA := Lib.hid hp
  have K0 := Lib.hid (al1_0 w (.cells #[.int .i8 a, .int .i8 e, .int .i8 n] 26))
  have B0 := Lib.hid (bl1 w (.cells #[.int .i8 a, .int .i8 e, .int .i8 n] 26))
  have hsz := B0.out.size
  have c0 := blk3_0 K0.out
  have c1 := blk3_1 K0.out
  have c2 := blk3_2 K0.out
  obtain ⟨T, hT⟩ : ∃ T, T = bandL q d (covL a e n) := ⟨_, rfl⟩
  have HT := Lib.hid hT
  rw [← hT]
  clear h hq hm hp hT
  go_enter Tryz.func16, Tryz.ntmps16
  go_wp2_with fail
  refine (implBandsC_c a e n HP.out p m c q HQ.out HM.out hm2 d d0 d1 _ (CvS_below B0.out HA.out)).mono ?_
  rw [← HT.out]
  rintro x w3 ⟨v, rfl, hR, hb⟩
  have HR := Lib.hid hR
  have HB3 := Lib.hid (bt B0.out hb)
  clear hR hb c0 c1 c2
  go_wp2
  go_ret2
  exact ⟨_, rfl, row_monoB HR.out hsz, HB3.out⟩
theorem specBandsOf_c (a e : Int) (n : Nat) (h : Stp a e n) (p : Option Addr) (m c : Nat) (q : Cv) (hq : Pap q) (hm : m = q.length) (hm2 : m ≤ 1048576) (d : Int) (d0 : 0 ≤ d) (d1 : d ≤ 400) (w : World) (hp : CvS w p q) :
    Calls Tryz.prog 15 #[.agg #[.int .i8 a, .int .i8 e, .int .i8 n], .slice p m c, .int .i64 d] w fun x w' => ∃ v, x = .returned (.tuple #[v, .int .i64 0]) ∧ Row w' w.heap.size 2 .i64 v (bandL q d (ligL a e n)) ∧ Below w.heap.size w w' := by
  have HP := Lib.hid h
  have HQ := Lib.hid hq
  have HM := Lib.hid hm
  have HA := Lib.hid hp
  have K0 := Lib.hid (al1_0 w (.cells #[.int .i8 a, .int .i8 e, .int .i8 n] 26))
  have B0 := Lib.hid (bl1 w (.cells #[.int .i8 a, .int .i8 e, .int .i8 n] 26))
  have hsz := B0.out.size
  have c0 := blk3_0 K0.out
  have c1 := blk3_1 K0.out
  have c2 := blk3_2 K0.out
  obtain ⟨T, hT⟩ : ∃ T, T = bandL q d (ligL a e n) := ⟨_, rfl⟩
  have HT := Lib.hid hT
  rw [← hT]
  clear h hq hm hp hT
  go_enter Tryz.func15, Tryz.ntmps15
  go_wp2_with fail
  refine (specBandsL_c a e n HP.out p m c q HQ.out HM.out hm2 d d0 d1 _ (CvS_below B0.out HA.out)).mono ?_
  rw [← HT.out]
  rintro x w3 ⟨v, rfl, hR, hb⟩
  have HR := Lib.hid hR
  have HB3 := Lib.hid (bt B0.out hb)
  clear hR hb c0 c1 c2
  go_wp2
  go_ret2
  exact ⟨_, rfl, row_monoB HR.out hsz, HB3.out⟩
theorem specCovBands_c (a e : Int) (n : Nat) (h : Stp a e n) (p : Option Addr) (m c : Nat) (q : Cv) (hq : Pap q) (hm : m = q.length) (hm2 : m ≤ 1048576) (d : Int) (d0 : 0 ≤ d) (d1 : d ≤ 400) (w : World) (hp : CvS w p q) :
    Calls Tryz.prog 17 #[.agg #[.int .i8 a, .int .i8 e, .int .i8 n], .slice p m c, .int .i64 d] w fun x w' => ∃ v, x = .returned (.tuple #[v, .int .i64 0]) ∧ Row w' w.heap.size 2 .i64 v (bandL q d (covL a e n)) ∧ Below w.heap.size w w' := by
  have HP := Lib.hid h
  have HQ := Lib.hid hq
  have HM := Lib.hid hm
  have HA := Lib.hid hp
  have K0 := Lib.hid (al1_0 w (.cells #[.int .i8 a, .int .i8 e, .int .i8 n] 26))
  have B0 := Lib.hid (bl1 w (.cells #[.int .i8 a, .int .i8 e, .int .i8 n] 26))
  have hsz := B0.out.size
  have c0 := blk3_0 K0.out
  have c1 := blk3_1 K0.out
  have c2 := blk3_2 K0.out
  obtain ⟨T, hT⟩ : ∃ T, T = bandL q d (covL a e n) := ⟨_, rfl⟩
  have HT := Lib.hid hT
  rw [← hT]
  clear h hq hm hp hT
  go_enter Tryz.func17, Tryz.ntmps17
  go_wp2_with fail
  refine (specBandsC_c a e n HP.out p m c q HQ.out HM.out hm2 d d0 d1 _ (CvS_below B0.out HA.out)).mono ?_
  rw [← HT.out]
  rintro x w3 ⟨v, rfl, hR, hb⟩
  have HR := Lib.hid hR
  have HB3 := Lib.hid (bt B0.out hb)
  clear hR hb c0 c1 c2
  go_wp2
  go_ret2
  exact ⟨_, rfl, row_monoB HR.out hsz, HB3.out⟩
end Go.Proofs.YtbcahfiknelkcaaGreatDoor
