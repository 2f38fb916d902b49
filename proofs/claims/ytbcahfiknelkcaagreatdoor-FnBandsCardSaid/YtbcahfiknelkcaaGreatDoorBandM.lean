/- FnBands: covered lights of the reference, in place; LightsOf, CoveredLights. -/
import Derived.Test.YtbcahfiknelkcaaGreatDoorBandL
namespace Go.Proofs.YtbcahfiknelkcaaGreatDoor
open Go.RowKit
set_option maxRecDepth 100000
theorem row_nB {w : World} {base g cap n : Nat} {e : TypeId} {k : IntKind} {xs : List Int} (h : Row w base e k (.slice (some ⟨g, 0, none⟩) n cap) xs) : n = xs.length := by
  obtain ⟨_, h2⟩ := h
  rcases h2 with ⟨hv, _⟩ | ⟨g', cap', cur, hv, _⟩
  · cases hv
  · simp only [Value.slice.injEq, Option.some.injEq, Addr.mk.injEq, and_true] at hv
    exact hv.2.1
theorem row_setB {w : World} {base g cap n : Nat} {e : TypeId} {k : IntKind} {xs : List Int} (h : Row w base e k (.slice (some ⟨g, 0, none⟩) n cap) xs) (j : Nat) (z : Int) :
    Row (w.setCell ⟨g, j, none⟩ (.int k z)) base e k (.slice (some ⟨g, 0, none⟩) n cap) (xs.set j z) := by
  have hn := row_nB h
  subst hn
  have h2 := (World.ownsRow.stored h j (.int k z)).1
  unfold Row
  rw [List.map_set, List.length_set]; exact h2
theorem row_frzB {w : World} {base g cap n : Nat} {e : TypeId} {k : IntKind} {xs : List Int} (h : Row w base e k (.slice (some ⟨g, 0, none⟩) n cap) xs) (j : Nat) : w.frozen? ⟨g, j, none⟩ = false := by
  have hn := row_nB h
  subst hn
  exact World.ownsRow.frozenAt h j
theorem row_cellB {w : World} {base g cap n : Nat} {e : TypeId} {k : IntKind} {xs : List Int} (h : Row w base e k (.slice (some ⟨g, 0, none⟩) n cap) xs) (j : Nat) (hj : j < xs.length) : w.cell? ⟨g, j, none⟩ = some (.int k (xs.getD j 0)) := by
  obtain ⟨g', cap', hv, _, _, _, _, hc⟩ := row_shape h (by rintro rfl; simp at hj)
  simp only [Value.slice.injEq, Option.some.injEq, Addr.mk.injEq, and_true] at hv
  obtain ⟨rfl, _⟩ := hv
  exact hc j hj
/-- The first k numbers are changed already. -/
def mixL (T xs : List Int) (k : Nat) : List Int := T.take k ++ xs.drop k
theorem mix_zero (T xs : List Int) : mixL T xs 0 = xs := by simp [mixL]
theorem mix_all {T xs : List Int} (h : T.length = xs.length) : mixL T xs T.length = T := by unfold mixL; rw [List.take_length, h, List.drop_length, List.append_nil]
theorem mix_len {T xs : List Int} (h : T.length = xs.length) {k : Nat} (hk : k ≤ xs.length) : (mixL T xs k).length = xs.length := by
  simp [mixL, List.length_take]; omega
theorem mix_get {T xs : List Int} (h : T.length = xs.length) {k : Nat} (hk : k < xs.length) : (mixL T xs k).getD k 0 = xs.getD k 0 := by
  unfold mixL
  have hl : (T.take k).length = k := by rw [List.length_take]; omega
  rw [List.getD_eq_getElem?_getD, List.getElem?_append_right (by omega), hl, Nat.sub_self, List.getElem?_drop, Nat.add_zero, ← List.getD_eq_getElem?_getD]
theorem mix_set {T xs : List Int} (h : T.length = xs.length) {k : Nat} (hk : k < xs.length) : (mixL T xs k).set k (T.getD k 0) = mixL T xs (k + 1) := by
  unfold mixL
  have hl : (T.take k).length = k := by rw [List.length_take]; omega
  have e : T.getD k 0 = T[k]'(by omega) := by simp [List.getD_eq_getElem?_getD, show k < T.length by omega]
  rw [List.set_append_right _ _ (by omega), hl, Nat.sub_self, List.drop_eq_getElem_cons hk, List.set_cons_zero, e, List.take_succ_eq_append_getElem (by omega), List.append_assoc]
  rfl
set_option maxHeartbeats 1000000 in
theorem specCovered_c (a e : Int) (n : Nat) (h : Stp a e n) (w : World) :
    Calls Tryz.prog 61 #[.agg #[.int .i8 a, .int .i8 e, .int .i8 n]] w fun x w' => ∃ v, x = .returned v ∧ Row w' (w.heap.size + 1) 2 .i64 v (covL a e n) ∧ Below w.heap.size w w' := by
  have HP := Lib.hid h
  have hn20 := h.n20
  have hn1 := h.n1
  have K0 := Lib.hid (al1_0 w (.cells #[.int .i8 a, .int .i8 e, .int .i8 n] 26))
  have B0 := Lib.hid (bl1 w (.cells #[.int .i8 a, .int .i8 e, .int .i8 n] 26))
  have HZ : Hid ((w.alloc (.cells #[.int .i8 a, .int .i8 e, .int .i8 n] 26)).heap.size = w.heap.size + 1) := Lib.hid (by simp)
  have c0 := blk3_0 K0.out
  have c1 := blk3_1 K0.out
  have c2 := blk3_2 K0.out
  clear h
  go_enter Tryz.func61, Tryz.ntmps61
  go_wp2_with fail
  refine (specLights_c a e n HP.out _).mono ?_
  generalize w.alloc (.cells #[.int .i8 a, .int .i8 e, .int .i8 n] 26) = w1 at *
  rintro x w2 ⟨v, rfl, hR, hb⟩
  obtain ⟨g, cap, rfl, hg1, hg2, hcap, hcm, _⟩ := row_shape hR (neL_of_lt_i64 (k := 0) (by rw [ligL_len]; omega))
  rw [ligL_len] at hR ⊢
  have HR0 := Lib.hid hR
  have HB0 := Lib.hid hb
  have HG := Lib.hid hg1
  obtain ⟨T, hT⟩ : ∃ T, T = covL a e n := ⟨_, rfl⟩
  have HTl : Hid (T.length = n) := Lib.hid (by rw [hT, covL_len])
  have HTg : Hid (∀ k, k < n → T.getD k 0 = ((tinV (sumT a e (k + 1)) : Nat) : Int)) := Lib.hid (fun k hk => by rw [hT, covL_get a e n k hk]; rfl)
  obtain ⟨X, hX⟩ : ∃ X, X = ligL a e n := ⟨_, rfl⟩
  have HXl : Hid (X.length = n) := Lib.hid (by rw [hX, ligL_len])
  have HXg : Hid (∀ k, k < n → X.getD k 0 = ligK a e k) := Lib.hid (fun k hk => by rw [hX, ligL_get a e n k hk])
  have HTX : Hid (T.length = X.length) := Lib.hid (by rw [HTl.out, HXl.out])
  rw [← hX] at HR0
  have HT2 := Lib.hid hT
  clear hR hb hg1 hg2 hcap hcm c0 c1 c2 hT hX
  go_wp2_with fail
  go_loopw [4, 5] (fun sm i wr => ∃ k : Nat, k ≤ n ∧ i = .int .i64 k ∧ sm = .int .i64 (sumT a e k) ∧ Row wr w1.heap.size 2 .i64 (.slice (some ⟨g, 0, none⟩) n cap) (mixL T X k) ∧ Below w1.heap.size w1 wr) (fun _ i _ => n - (intOf i).toNat)
  case atStart => exact ⟨0, by omega, rfl, rfl, by rw [mix_zero]; exact row_monoB HR0.out (by omega), HB0.out⟩
  case round =>
    clear HR0 HB0
    obtain ⟨k, hk, rfl, rfl, hR, hW⟩ := hrel
    have HR := Lib.hid hR
    have HW := Lib.hid hW
    clear hR hW
    by_cases hlt : k < n
    · have hkn : (k : Int) < n := by omega
      have hc := row_cellB HR.out k (by rw [mix_len HTX.out (by have := HXl.out; omega), HXl.out]; exact hlt)
      rw [mix_get HTX.out (by rw [HXl.out]; exact hlt), HXg.out k hlt] at hc
      have hlb := lig_bd HP.out hlt
      obtain ⟨q, hq⟩ := Int.eq_ofNat_of_zero_le hlb.1
      rw [hq] at hc hlb
      obtain ⟨g1, g2, g3⟩ := sumT_ge HP.out hlt
      have hs0 := sumT_bd HP.out k (by omega)
      have HSu : Hid (sumT a e (k + 1) = sumT a e k + timK q) := Lib.hid (by show sumT a e k + timK (ligK a e k).toNat = _; rw [hq, Int.toNat_natCast])
      have htb := tim_bd (k := q) (by omega)
      have HSet : Hid ((mixL T X k).set k ((tinV (sumT a e (k + 1)) : Nat) : Int) = mixL T X (k + 1)) := Lib.hid (by rw [← HTg.out k hlt]; exact mix_set HTX.out (by rw [HXl.out]; exact hlt))
      have HT := Lib.hid (specTime_c q (by omega))
      rw [HSu.out] at HSet g1 g2
      have HI := Lib.hid (specIn_c (sumT a e k + timK q) g1 (by omega))
      have hsw : IntKind.i64.wrap (sumT a e k + timK q) = sumT a e k + timK q := Go.IntWalk.i64_in _ (by omega)
      generalize tinV (sumT a e k + timK q) = V at *
      generalize timK q = Tm at *
      generalize sumT a e k = M at *
      clear hq g3
      go_wp2_with fail
      refine (HT.out _).mono ?_
      rintro x w4 ⟨rfl, hb4⟩
      have HR4 := Lib.hid (row_below HR.out hb4)
      have HW4 := Lib.hid (bt HW.out hb4)
      clear hb4 HR HW hc
      go_wp2_with fail
      refine (HI.out _).mono ?_
      rintro x w5 ⟨rfl, hb5⟩
      have HR5 := Lib.hid (row_below HR4.out hb5)
      have HW5 := Lib.hid (bt HW4.out hb5)
      have hfr := row_frzB HR5.out k
      have hc5 := row_cellB HR5.out k (by rw [mix_len HTX.out (by have := HXl.out; omega), HXl.out]; exact hlt)
      clear hb5 HR4 HW4
      go_wp2
      go_roundw
      case rel => exact ⟨k + 1, by omega, by go_num, by rw [HSu.out], by rw [← HSet.out]; exact row_setB HR5.out _ _, HW5.out.setCell (p := ⟨g, k, none⟩) (by have := HG.out; show w1.heap.size ≤ g; omega) _⟩
      case measure => simp [intOf]; omega
    · have hke : k = n := by omega
      subst hke
      go_wp2
      go_ret
      exact ⟨_, rfl, by have h := HR.out; have e1 := mix_all HTX.out; rw [HTl.out] at e1; rw [e1, HT2.out] at h; exact row_monoB h (by have := HZ.out; omega), bt B0.out HW.out⟩
theorem implLightsOf_c (a e : Int) (n : Nat) (h : Stp a e n) (w : World) :
    Calls Tryz.prog 11 #[.agg #[.int .i8 a, .int .i8 e, .int .i8 n]] w fun x w' => ∃ v, x = .returned (.tuple #[v, .int .i64 0]) ∧ Row w' w.heap.size 2 .i64 v (ligL a e n) ∧ Below w.heap.size w w' := by
  have HP := Lib.hid h
  have H8 := Lib.hid (stp_8 h)
  have HOK := Lib.hid (stp_ok h)
  have K0 := Lib.hid (al1_0 w (.cells #[.int .i8 a, .int .i8 e, .int .i8 n] 26))
  have B0 := Lib.hid (bl1 w (.cells #[.int .i8 a, .int .i8 e, .int .i8 n] 26))
  have c0 := blk3_0 K0.out
  have c1 := blk3_1 K0.out
  have c2 := blk3_2 K0.out
  clear h
  go_enter Tryz.func11, Tryz.ntmps11
  go_wp2_with fail
  generalize w.alloc (.cells #[.int .i8 a, .int .i8 e, .int .i8 n] 26) = w1 at *
  refine (srValid_c a e n H8.out _).mono ?_
  rw [HOK.out]
  rintro x w2 ⟨rfl, hb⟩
  have HB := Lib.hid (bt B0.out hb)
  have K2 := heap_below hb (lt_of_heap K0.out) K0.out
  clear c0 c1 c2 hb
  have c0 := blk3_0 K2
  have c1 := blk3_1 K2
  have c2 := blk3_2 K2
  clear K2
  go_wp2_with fail
  refine (implLights_c a e n HP.out _).mono ?_
  rintro x w3 ⟨v, rfl, hR, hb⟩
  have HR := Lib.hid hR
  have HB3 := Lib.hid (bt HB.out hb)
  have hsz := HB.out.size
  clear hR hb c0 c1 c2
  go_wp2
  go_ret2
  exact ⟨_, rfl, row_monoB HR.out (by omega), HB3.out⟩
theorem implCovLights_c (a e : Int) (n : Nat) (h : Stp a e n) (w : World) :
    Calls Tryz.prog 12 #[.agg #[.int .i8 a, .int .i8 e, .int .i8 n]] w fun x w' => ∃ v, x = .returned (.tuple #[v, .int .i64 0]) ∧ Row w' w.heap.size 2 .i64 v (covL a e n) ∧ Below w.heap.size w w' := by
  have HP := Lib.hid h
  have H8 := Lib.hid (stp_8 h)
  have HOK := Lib.hid (stp_ok h)
  have K0 := Lib.hid (al1_0 w (.cells #[.int .i8 a, .int .i8 e, .int .i8 n] 26))
  have B0 := Lib.hid (bl1 w (.cells #[.int .i8 a, .int .i8 e, .int .i8 n] 26))
  have c0 := blk3_0 K0.out
  have c1 := blk3_1 K0.out
  have c2 := blk3_2 K0.out
  clear h
  go_enter Tryz.func12, Tryz.ntmps12
  go_wp2_with fail
  generalize w.alloc (.cells #[.int .i8 a, .int .i8 e, .int .i8 n] 26) = w1 at *
  refine (srValid_c a e n H8.out _).mono ?_
  rw [HOK.out]
  rintro x w2 ⟨rfl, hb⟩
  have HB := Lib.hid (bt B0.out hb)
  have K2 := heap_below hb (lt_of_heap K0.out) K0.out
  clear c0 c1 c2 hb
  have c0 := blk3_0 K2
  have c1 := blk3_1 K2
  have c2 := blk3_2 K2
  clear K2
  go_wp2_with fail
  refine (implCovered_c a e n HP.out _).mono ?_
  rintro x w3 ⟨v, rfl, hR, hb⟩
  have HR := Lib.hid hR
  have HB3 := Lib.hid (bt HB.out hb)
  have hsz := HB.out.size
  clear hR hb c0 c1 c2
  go_wp2
  go_ret2
  exact ⟨_, rfl, row_monoB HR.out (by omega), HB3.out⟩
theorem specCovLights_c (a e : Int) (n : Nat) (h : Stp a e n) (w : World) :
    Calls Tryz.prog 13 #[.agg #[.int .i8 a, .int .i8 e, .int .i8 n]] w fun x w' => ∃ v, x = .returned (.tuple #[v, .int .i64 0]) ∧ Row w' w.heap.size 2 .i64 v (covL a e n) ∧ Below w.heap.size w w' := by
  have HP := Lib.hid h
  have H8 := Lib.hid (stp_8 h)
  have HOK := Lib.hid (stp_ok h)
  have K0 := Lib.hid (al1_0 w (.cells #[.int .i8 a, .int .i8 e, .int .i8 n] 26))
  have B0 := Lib.hid (bl1 w (.cells #[.int .i8 a, .int .i8 e, .int .i8 n] 26))
  have c0 := blk3_0 K0.out
  have c1 := blk3_1 K0.out
  have c2 := blk3_2 K0.out
  clear h
  go_enter Tryz.func13, Tryz.ntmps13
  go_wp2_with fail
  generalize w.alloc (.cells #[.int .i8 a, .int .i8 e, .int .i8 n] 26) = w1 at *
  refine (srOkS_c a e n H8.out _).mono ?_
  rw [HOK.out]
  rintro x w2 ⟨rfl, hb⟩
  have HB := Lib.hid (bt B0.out hb)
  have K2 := heap_below hb (lt_of_heap K0.out) K0.out
  clear c0 c1 c2 hb
  have c0 := blk3_0 K2
  have c1 := blk3_1 K2
  have c2 := blk3_2 K2
  clear K2
  go_wp2_with fail
  refine (specCovered_c a e n HP.out _).mono ?_
  rintro x w3 ⟨v, rfl, hR, hb⟩
  have HR := Lib.hid hR
  have HB3 := Lib.hid (bt HB.out hb)
  have hsz := HB.out.size
  clear hR hb c0 c1 c2
  go_wp2
  go_ret2
  exact ⟨_, rfl, row_monoB HR.out (by omega), HB3.out⟩
end Go.Proofs.YtbcahfiknelkcaaGreatDoor
