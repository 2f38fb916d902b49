/- FnBands: the lights of all bands: the program's and the reference's. -/
import Derived.Test.YtbcahfiknelkcaaGreatDoorBandU
import Derived.Test.YtbcahfiknelkcaaGreatDoorRowAt
import Derived.Test.YtbcahfiknelkcaaGreatDoorLstInt64S
import Derived.Test.YtbcahfiknelkcaaGreatDoorRow
import Derived.Lib.QuietBelow
namespace Go.Proofs.YtbcahfiknelkcaaGreatDoor
open Go.RowKit
set_option maxRecDepth 100000
theorem info_i64B : (Tryz.prog.info? 2).map (fun i => (i.zero, i.size, i.bytes)) = some (some (.int .i64 0), 1, 8) := by kernel_rfl
theorem row_monoB {w : World} {b b' : Nat} {e : TypeId} {k : IntKind} {v : Value} {xs : List Int} (h : Row w b e k v xs) (hb : b' ≤ b) : Row w b' e k v xs := by
  obtain ⟨h1, h2⟩ := h
  refine ⟨h1, ?_⟩
  rcases h2 with h2 | ⟨g, cap, cur, hv, hg, r⟩
  · exact .inl h2
  · exact .inr ⟨g, cap, cur, hv, Nat.le_trans hb hg, r⟩
/-- A list lies elsewhere than the slice v. -/
def Lies (w : World) (v : Value) (p : Option Addr) (xs : List Int) : Prop := xs ≠ [] → ∃ b o, p = some ⟨b, o, none⟩ ∧ b < w.heap.size ∧ v.ownBlock ≠ some b ∧ ∀ i, i < xs.length → w.cell? ⟨b, o + i, none⟩ = some (.int .i64 (xs.getD i 0))
theorem lies_below {w w1 : World} {v : Value} {p : Option Addr} {xs : List Int} (h : Lies w v p xs) (hb : Below w.heap.size w w1) : Lies w1 v p xs := fun hne => by
  obtain ⟨b, o, h1, h2, h3, h4⟩ := h hne
  exact ⟨b, o, h1, Nat.lt_of_lt_of_le h2 hb.size, h3, fun i hi => by rw [hb.cell (p := ⟨b, o + i, none⟩) h2]; exact h4 i hi⟩
theorem lies_alloc {w : World} {v : Value} {p : Option Addr} {xs : List Int} (h : Lies w v p xs) (x : Obj) : Lies (w.alloc x) v p xs := lies_below h (bl1 _ _)
theorem lies_app {w w1 : World} {v v1 : Value} {p : Option Addr} {xs : List Int} (h : Lies w v p xs) (hg : w.grownBy w1 v.ownBlock) (h5 : v1.ownBlock = v.ownBlock ∨ v1.ownBlock = some w.heap.size) : Lies w1 v1 p xs := fun hne => by
  obtain ⟨b, o, h1, h2, h3, h4⟩ := h hne
  refine ⟨b, o, h1, Nat.lt_of_lt_of_le h2 hg.size, ?_, fun i hi => hg.cell (h4 i hi) (fun e => h3 e.symm)⟩
  rcases h5 with e | e
  · rw [e]; exact h3
  · rw [e]; intro hc; simp at hc; omega
theorem lies_start {w : World} {base g n c : Nat} {v : Value} {xs : List Int} (h : Row w base 2 .i64 v xs) (hg : g < base) : ∃ p cap, v = .slice p xs.length cap ∧ Lies w (.slice (some ⟨g, 0, none⟩) n c) p xs := by
  by_cases hne : xs = []
  · subst hne
    obtain ⟨p, cap, hv, _⟩ := PB_i64_row h
    exact ⟨p, cap, hv, fun h => absurd rfl h⟩
  · obtain ⟨b, cap, hv, hb, hl, _, _, hc⟩ := row_shape h hne
    exact ⟨_, cap, hv, fun _ => ⟨b, 0, rfl, hl, by simp [Value.ownBlock]; omega, fun i hi => by rw [Nat.zero_add]; exact hc i hi⟩⟩
theorem stp_of {a e b : Int} (h : srB a e b = true) : ∃ n : Nat, b = n ∧ Stp a e n := by
  obtain ⟨h1, h2, h3, h4, h5⟩ := (srB_iff a e b).1 h
  obtain ⟨n, rfl⟩ := Int.eq_ofNat_of_zero_le (show 0 ≤ b by omega)
  exact ⟨n, rfl, h1.1, h1.2, h2.1, h2.2, by omega, by omega, by simpa using h5⟩
theorem stp_ok {a e : Int} {n : Nat} (h : Stp a e n) : srB a e n = true := by
  have := lig_bd h (i := n - 1) (by have := h.n1; omega)
  have e1 : ligK a e (n - 1) = a + e * ((n : Int) - 1) := by unfold ligK; rw [show ((n - 1 : Nat) : Int) = (n : Int) - 1 by have := h.n1; omega]
  rw [e1] at this
  exact (srB_iff _ _ _).2 ⟨⟨h.a0, h.a1⟩, ⟨h.e1, h.e9⟩, ⟨by have := h.n1; omega, by have := h.n20; omega⟩, this.1, this.2⟩
theorem stp_8 {a e : Int} {n : Nat} (h : Stp a e n) : Sr8 a e n := by
  have := h.a0; have := h.a1; have := h.e1; have := h.e9; have := h.n20
  exact ⟨by omega, by omega, by omega⟩
set_option maxHeartbeats 1000000 in
theorem implLights_c (a e : Int) (n : Nat) (h : Stp a e n) (w : World) :
    Calls Tryz.prog 58 #[.agg #[.int .i8 a, .int .i8 e, .int .i8 n]] w fun x w' => ∃ v, x = .returned v ∧ Row w' (w.heap.size + 1) 2 .i64 v (ligL a e n) ∧ Below w.heap.size w w' := by
  have HP := Lib.hid h
  have H8 := Lib.hid (stp_8 h)
  have hn20 := h.n20
  have hn1 := h.n1
  obtain ⟨L, hL⟩ : ∃ L, L = ligL a e := ⟨_, rfl⟩
  have HL0 : Hid (L 0 = []) := Lib.hid (by rw [hL]; rfl)
  have HLs : Hid (∀ k, L (k + 1) = L k ++ [ligK a e k]) := Lib.hid (fun k => by rw [hL]; exact ligL_succ a e k)
  have HLl : Hid (∀ k, (L k).length = k) := Lib.hid (fun k => by rw [hL]; exact ligL_len a e k)
  rw [← hL]
  clear hL
  have K0 := Lib.hid (al1_0 w (.cells #[.int .i8 a, .int .i8 e, .int .i8 n] 26))
  have B0 := Lib.hid (bl1 w (.cells #[.int .i8 a, .int .i8 e, .int .i8 n] 26))
  have hnw := Go.IntWalk.i64_in (n : Int) (by omega)
  have hz0 : w.heap.size < (w.alloc (.cells #[.int .i8 a, .int .i8 e, .int .i8 n] 26)).heap.size := lt_of_heap K0.out
  have HZ : Hid ((w.alloc (.cells #[.int .i8 a, .int .i8 e, .int .i8 n] 26)).heap.size = w.heap.size + 1) := Lib.hid (by simp)
  clear h
  go_enter Tryz.func58, Tryz.ntmps58
  go_upto_region 1 with fail
  generalize w.alloc (.cells #[.int .i8 a, .int .i8 e, .int .i8 n] 26) = w1 at *
  have HR1 := Lib.hid (row_new w1 2 .i64 w1.heap.size (Nat.le_refl _))
  have HB1 := Lib.hid (bl1 w1 (.cells #[] 2))
  have c2 := blk3_2 (heap_below HB1.out (lt_of_heap K0.out) K0.out)
  go_wp2_with fail
  generalize w1.alloc (.cells #[] 2) = w2 at *
  clear c2
  go_loopw [3, 4, 9] (fun v _ i wr => ∃ k : Nat, k ≤ n ∧ i = .int .i64 k ∧ Row wr w1.heap.size 2 .i64 v (L k) ∧ Below w1.heap.size w1 wr) (fun _ _ i _ => n - (intOf i).toNat)
  case atStart => exact ⟨0, by omega, rfl, by rw [HL0.out]; exact HR1.out, HB1.out⟩
  case round =>
    clear HR1 HB1
    obtain ⟨k, hk, rfl, hR, hW⟩ := hrel
    have HR := Lib.hid hR
    have HW := Lib.hid hW
    have hS := heap_below hW (lt_of_heap K0.out) K0.out
    have c0 := blk3_0 hS
    have c1 := blk3_1 hS
    have c2 := blk3_2 hS
    clear hR hW hS
    by_cases hlt : k < n
    · have hkn : (k : Int) < n := by omega
      obtain ⟨s, hs⟩ : ∃ s, s = a + e * (k : Int) := ⟨_, rfl⟩
      have HS := Lib.hid hs.symm
      have HTn : Hid (L (k + 1) = L k ++ [s]) := Lib.hid (by rw [HLs.out, hs]; rfl)
      have HL8 : Hid ((L k).length ≤ 17592186000000) := Lib.hid (by rw [HLl.out]; omega)
      clear hs
      go_wp2_with fail
      refine (srLight_c a e n k H8.out (by omega) _).mono ?_
      rw [HS.out]
      rintro x w3 ⟨rfl, hb⟩
      have HR1 := Lib.hid (row_below HR.out hb)
      have HW1 := Lib.hid (bt HW.out hb)
      clear hb HR HW c0 c1 c2
      go_wp2_with (at_builtin; refine wpList_app rfl (.tmp 12) (.tmp 16) 35 rfl w1.heap.size 2 .i64 8 Tryz.underlying35 info_i64B (by decide) _ _ rfl (row_alloc HR1.out _) _ 1 s rfl (by simp) HL8.out (by have := HW1.out.size; simp at this ⊢; omega) ?_; intro v1 w6 hrow hgr hbk; have HRn := Lib.hid hrow; have HWn := Lib.hid (below_app (HW1.out.alloc HW1.out.size _) hgr (Nat.le_refl _) hbk); clear hrow hgr hbk)
      go_roundw
      case rel => exact ⟨k + 1, by omega, by go_num, by rw [HTn.out]; exact HRn.out, HWn.out⟩
      case measure => simp [intOf]; omega
    · have hke : k = n := by omega
      subst hke
      clear c0 c1 c2
      go_wp2
      go_ret
      exact ⟨_, rfl, row_monoB HR.out (by have := HZ.out; omega), bt B0.out HW.out⟩
set_option maxHeartbeats 1000000 in
theorem specLights_c (a e : Int) (n : Nat) (h : Stp a e n) (w : World) :
    Calls Tryz.prog 130 #[.agg #[.int .i8 a, .int .i8 e, .int .i8 n]] w fun x w' => ∃ v, x = .returned v ∧ Row w' (w.heap.size + 1) 2 .i64 v (ligL a e n) ∧ Below w.heap.size w w' := by
  have HP := Lib.hid h
  have H8 := Lib.hid (stp_8 h)
  have hn20 := h.n20
  have hn1 := h.n1
  obtain ⟨L, hL⟩ : ∃ L, L = ligL a e := ⟨_, rfl⟩
  have HL0 : Hid (L 0 = []) := Lib.hid (by rw [hL]; rfl)
  have HLs : Hid (∀ k, L (k + 1) = L k ++ [ligK a e k]) := Lib.hid (fun k => by rw [hL]; exact ligL_succ a e k)
  have HLl : Hid (∀ k, (L k).length = k) := Lib.hid (fun k => by rw [hL]; exact ligL_len a e k)
  rw [← hL]
  clear hL
  have K0 := Lib.hid (al1_0 w (.cells #[.int .i8 a, .int .i8 e, .int .i8 n] 26))
  have B0 := Lib.hid (bl1 w (.cells #[.int .i8 a, .int .i8 e, .int .i8 n] 26))
  have hnw := Go.IntWalk.i64_in (n : Int) (by omega)
  have hz0 : w.heap.size < (w.alloc (.cells #[.int .i8 a, .int .i8 e, .int .i8 n] 26)).heap.size := lt_of_heap K0.out
  have HZ : Hid ((w.alloc (.cells #[.int .i8 a, .int .i8 e, .int .i8 n] 26)).heap.size = w.heap.size + 1) := Lib.hid (by simp)
  clear h
  go_enter Tryz.func130, Tryz.ntmps130
  go_upto_region 1 with fail
  generalize w.alloc (.cells #[.int .i8 a, .int .i8 e, .int .i8 n] 26) = w1 at *
  have HR1 := Lib.hid (row_new w1 2 .i64 w1.heap.size (Nat.le_refl _))
  have HB1 := Lib.hid (bl1 w1 (.cells #[] 2))
  go_wp2_with fail
  generalize w1.alloc (.cells #[] 2) = w2 at *
  go_loopw [3, 4] (fun v i wr => ∃ k : Nat, k ≤ n ∧ i = .int .i64 k ∧ Row wr w1.heap.size 2 .i64 v (L k) ∧ Below w1.heap.size w1 wr) (fun _ i _ => n - (intOf i).toNat)
  case atStart => exact ⟨0, by omega, rfl, by rw [HL0.out]; exact HR1.out, HB1.out⟩
  case round =>
    clear HR1 HB1
    obtain ⟨k, hk, rfl, hR, hW⟩ := hrel
    have HR := Lib.hid hR
    have HW := Lib.hid hW
    have hS := heap_below hW (lt_of_heap K0.out) K0.out
    have c0 := blk3_0 hS
    have c1 := blk3_1 hS
    have c2 := blk3_2 hS
    clear hR hW hS
    by_cases hlt : k < n
    · have hkn : (k : Int) < n := by omega
      have hlb := lig_bd HP.out hlt
      have hkw : IntKind.i64.wrap ((k : Int) + 1) = (k : Int) + 1 := Go.IntWalk.i64_in _ (by omega)
      obtain ⟨m, hm⟩ : ∃ m, m = (k : Int) * e := ⟨_, rfl⟩
      have hme : (k : Int) * e = m := hm.symm
      have hs : a + m = ligK a e k := by unfold ligK; rw [hm, Int.mul_comm e]
      have ha := HP.out.a0
      have ha2 := HP.out.a1
      have he := HP.out.e1
      have he2 := HP.out.e9
      have hm0 : 0 ≤ m := by rw [hm]; exact Int.mul_nonneg (by omega) (by omega)
      have hwm : IntKind.i64.wrap m = m := Go.IntWalk.i64_in _ (by omega)
      have hwam : IntKind.i64.wrap (a + m) = a + m := Go.IntWalk.i64_in _ (by omega)
      have hwa := Go.IntWalk.i64_in a (by omega)
      have hwe := Go.IntWalk.i64_in e (by omega)
      have HTn : Hid (L (k + 1) = L k ++ [a + m]) := Lib.hid (by rw [HLs.out, hs])
      have HL8 : Hid ((L k).length ≤ 17592186000000) := Lib.hid (by rw [HLl.out]; omega)
      clear hm hs hlb
      go_wp2_with (at_builtin; refine wpList_app rfl (.tmp 13) (.tmp 23) 35 rfl w1.heap.size 2 .i64 8 Tryz.underlying35 info_i64B (by decide) _ _ rfl (row_alloc HR.out _) _ 1 (a + m) rfl (by simp) HL8.out (by have := HW.out.size; simp at this ⊢; omega) ?_; intro v1 w6 hrow hgr hbk; have HRn := Lib.hid hrow; have HWn := Lib.hid (below_app (HW.out.alloc HW.out.size _) hgr (Nat.le_refl _) hbk); clear hrow hgr hbk)
      go_roundw
      case rel => exact ⟨k + 1, by omega, by go_num, by rw [HTn.out]; exact HRn.out, HWn.out⟩
      case measure => simp [intOf]; omega
    · have hke : k = n := by omega
      subst hke
      clear c0 c1
      go_wp2
      go_ret
      exact ⟨_, rfl, row_monoB HR.out (by have := HZ.out; omega), bt B0.out HW.out⟩
set_option maxHeartbeats 1000000 in
theorem implCovered_c (a e : Int) (n : Nat) (h : Stp a e n) (w : World) :
    Calls Tryz.prog 59 #[.agg #[.int .i8 a, .int .i8 e, .int .i8 n]] w fun x w' => ∃ v, x = .returned v ∧ Row w' (w.heap.size + 1) 2 .i64 v (covL a e n) ∧ Below w.heap.size w w' := by
  have HP := Lib.hid h
  have H8 := Lib.hid (stp_8 h)
  have hn20 := h.n20
  have hn1 := h.n1
  obtain ⟨L, hL⟩ : ∃ L, L = covL a e := ⟨_, rfl⟩
  have HL0 : Hid (L 0 = []) := Lib.hid (by rw [hL]; rfl)
  have HLs : Hid (∀ k, L (k + 1) = L k ++ [covK a e k]) := Lib.hid (fun k => by rw [hL]; exact covL_succ a e k)
  have HLl : Hid (∀ k, (L k).length = k) := Lib.hid (fun k => by rw [hL]; exact covL_len a e k)
  rw [← hL]
  clear hL
  have K0 := Lib.hid (al1_0 w (.cells #[.int .i8 a, .int .i8 e, .int .i8 n] 26))
  have B0 := Lib.hid (bl1 w (.cells #[.int .i8 a, .int .i8 e, .int .i8 n] 26))
  have hnw := Go.IntWalk.i64_in (n : Int) (by omega)
  have hz0 : w.heap.size < (w.alloc (.cells #[.int .i8 a, .int .i8 e, .int .i8 n] 26)).heap.size := lt_of_heap K0.out
  have HZ : Hid ((w.alloc (.cells #[.int .i8 a, .int .i8 e, .int .i8 n] 26)).heap.size = w.heap.size + 1) := Lib.hid (by simp)
  clear h
  go_enter Tryz.func59, Tryz.ntmps59
  go_upto_region 1 with fail
  generalize w.alloc (.cells #[.int .i8 a, .int .i8 e, .int .i8 n] 26) = w1 at *
  have HR1 := Lib.hid (row_new w1 2 .i64 w1.heap.size (Nat.le_refl _))
  have HB1 := Lib.hid (bl1 w1 (.cells #[] 2))
  have hz1 : w1.heap.size < (w1.alloc (.cells #[] 2)).heap.size := by simp
  have hK1 := heap_below HB1.out (lt_of_heap K0.out) K0.out
  have c0 := blk3_0 hK1
  have c1 := blk3_1 hK1
  have c2 := blk3_2 hK1
  clear hK1
  go_wp2_with fail
  generalize w1.alloc (.cells #[] 2) = w2 at *
  clear c0 c1 c2
  refine (implLights_c a e n HP.out _).mono ?_
  rintro x w3 ⟨v, rfl, hR, hb⟩
  obtain ⟨p, cp, hv, hLi⟩ := lies_start (g := w1.heap.size) (n := 0) (c := 0) hR (by omega)
  rw [ligL_len] at hv
  subst hv
  have HLi := Lib.hid hLi
  have HR3 := Lib.hid (row_below HR1.out hb)
  have HB3 := Lib.hid (bt HB1.out hb)
  clear hR hLi hb HR1 HB1 hz1
  go_wp2_with fail
  go_loopw [3, 4, 6, 7, 8, 13] (fun v sm _ _ _ i wr => ∃ k : Nat, k ≤ n ∧ i = .int .i64 k ∧ sm = .int .i64 (sumT a e k) ∧ Row wr w1.heap.size 2 .i64 v (L k) ∧ Lies wr v p (ligL a e n) ∧ Below w1.heap.size w1 wr) (fun _ _ _ _ _ i _ => n - (intOf i).toNat)
  case atStart => exact ⟨0, by omega, rfl, rfl, by rw [HL0.out]; exact HR3.out, HLi.out, HB3.out⟩
  case round =>
    clear HR3 HLi HB3
    obtain ⟨k, hk, rfl, rfl, hR, hLi, hW⟩ := hrel
    have HR := Lib.hid hR
    have HW := Lib.hid hW
    have HLi := Lib.hid hLi
    clear hR hW hLi
    by_cases hlt : k < n
    · have hkn : (k : Int) < n := by omega
      obtain ⟨b, o, rfl, hbz, hbn, hcl⟩ := HLi.out (neL_of_lt_i64 (k := k) (by rw [ligL_len]; exact hlt))
      have hc := hcl k (by rw [ligL_len]; exact hlt)
      rw [ligL_get a e n k hlt] at hc
      have hlb := lig_bd HP.out hlt
      obtain ⟨q, hq⟩ := Int.eq_ofNat_of_zero_le hlb.1
      rw [hq] at hc hlb
      obtain ⟨g1, g2, g3⟩ := sumT_ge HP.out hlt
      have hs0 := sumT_bd HP.out k (by omega)
      have HSu : Hid (sumT a e (k + 1) = sumT a e k + timK q) := Lib.hid (by show sumT a e k + timK (ligK a e k).toNat = _; rw [hq, Int.toNat_natCast])
      have htb := tim_bd (k := q) (by omega)
      have HTn : Hid (L (k + 1) = L k ++ [((tinV (sumT a e (k + 1)) : Nat) : Int)]) := Lib.hid (by rw [HLs.out]; rfl)
      have HL8 : Hid ((L k).length ≤ 17592186000000) := Lib.hid (by rw [HLl.out]; omega)
      have HT := Lib.hid (implTime_c q (by omega))
      rw [HSu.out] at HTn g1 g2
      have HI := Lib.hid (thirdsIn_c (sumT a e k + timK q) g1 (by omega))
      have hsw : IntKind.i64.wrap (sumT a e k + timK q) = sumT a e k + timK q := Go.IntWalk.i64_in _ (by omega)
      generalize tinV (sumT a e k + timK q) = V at *
      generalize timK q = T at *
      generalize sumT a e k = M at *
      clear hcl hq g3
      go_wp2_with fail
      refine (HT.out _).mono ?_
      rintro x w4 ⟨rfl, rfl⟩
      go_wp2_with fail
      refine (HI.out _).mono ?_
      rintro x w4 ⟨rfl, rfl⟩
      clear hc
      go_wp2_with (at_builtin; refine wpList_appAt rfl (.tmp 26) (.tmp 28) 35 rfl w1.heap.size 2 .i64 8 Tryz.underlying35 info_i64B (by decide) _ _ rfl (row_alloc HR.out _) _ 1 (V : Nat) rfl (by simp) HL8.out (by have := HW.out.size; simp at this ⊢; omega) ?_; intro v1 w6 hrow hgr hbk hown; have HRn := Lib.hid hrow; have HWn := Lib.hid (below_app (HW.out.alloc HW.out.size _) hgr (Nat.le_refl _) hbk); have HLn := Lib.hid (lies_app (lies_alloc HLi.out _) hgr hown); clear hrow hgr hbk hown)
      go_roundw
      case rel => exact ⟨k + 1, by omega, by go_num, by rw [HSu.out], by rw [HTn.out]; exact HRn.out, HLn.out, HWn.out⟩
      case measure => simp [intOf]; omega
    · have hke : k = n := by omega
      subst hke
      go_wp2
      go_ret
      exact ⟨_, rfl, row_monoB HR.out (by have := HZ.out; omega), bt B0.out HW.out⟩
end Go.Proofs.YtbcahfiknelkcaaGreatDoor
