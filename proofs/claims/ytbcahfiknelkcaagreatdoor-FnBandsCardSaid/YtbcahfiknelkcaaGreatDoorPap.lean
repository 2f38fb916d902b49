/- Papers that are drawn. -/
import Derived.Test.YtbcahfiknelkcaaGreatDoorRowC
namespace Go.Proofs.YtbcahfiknelkcaaGreatDoor
open Go.RowKit Go.Lib
theorem infoPointD : (Tryz.prog.info? 147).map (fun i => (i.zero, i.size, i.bytes)) = some (some (.agg #[.int .i16 0, .int .i16 0]), 2, 4) := by kernel_rfl
set_option maxHeartbeats 1000000 in
theorem curveDrawn_c (g k : Nat) (w : World) (h : Src w g k) (hk : k ≤ 1000) :
    Calls Tryz.prog 53 #[.pointer (some ⟨g, 0, none⟩)] w fun e w' => ∃ p c q, e = .returned (.slice p q.length c) ∧ Pap q ∧ RowC w' w.heap.size (.slice p q.length c) q ∧ But g w w' := by
  have hgl := src_lt h
  have HS := Lib.hid (src_keep h (bl1 w (.cells #[] 147)))
  have HR := Lib.hid (rowC_new w w.heap.size (Nat.le_refl _))
  have HB := Lib.hid (but_alloc (but_refl g w) hgl (.cells #[] 147))
  have hz : (w.alloc (.cells #[] 147)).heap.size = w.heap.size + 1 := by simp
  clear h
  go_enter Tryz.func53, Tryz.ntmps53
  go_wp2_with fail
  generalize w.alloc (.cells #[] 147) = w1 at *
  refine (srcPick_c g k 30 _ HS.out (by omega) (by omega) (by omega)).mono ?_
  rintro e w2 ⟨x, rfl, x0, x1, hS2, hO2⟩
  have HS2 := Lib.hid hS2
  have HB2 := Lib.hid (but_only HB.out hO2)
  have HR2 := Lib.hid (rowC_but HR.out (but_only (but_refl g w1) hO2) hgl)
  have hz2 : w2.heap.size = w.heap.size + 1 := hO2.size.trans hz
  have hwx : IntKind.i64.wrap (x - 20) = x - 20 := Go.IntWalk.i64_in _ (by omega)
  clear hS2 hO2 HS HB HR hz
  go_wp2_with fail
  refine (srcPick_c g (k + 2) 20 _ HS2.out (by omega) (by omega) (by omega)).mono ?_
  rintro e w3 ⟨y, rfl, y0, y1, hS3, hO3⟩
  have HS3 := Lib.hid hS3
  have HB3 := Lib.hid (but_only HB2.out hO3)
  have HR3 := Lib.hid (rowC_but HR2.out (but_only (but_refl g w2) hO3) hgl)
  have hz3 : w3.heap.size = w.heap.size + 1 := hO3.size.trans hz2
  clear hS3 hO3 HS2 HB2 HR2 hz2
  go_wp2_with fail
  refine (srcPick_c g (k + 2 + 2) 6 _ HS3.out (by omega) (by omega) (by omega)).mono ?_
  rintro e w4 ⟨t, rfl, t0, t1, hS4, hO4⟩
  have HS4 := Lib.hid hS4
  have HB4 := Lib.hid (but_only HB3.out hO4)
  have HR4 := Lib.hid (rowC_but HR3.out (but_only (but_refl g w3) hO4) hgl)
  have hz4 : w4.heap.size = w.heap.size + 1 := hO4.size.trans hz3
  have hwt : IntKind.i64.wrap (1 + t) = 1 + t := Go.IntWalk.i64_in _ (by omega)
  obtain ⟨m0, hm0⟩ : ∃ m0 : Nat, 1 + t = m0 := ⟨(1 + t).toNat, by omega⟩
  have hm1 : 1 ≤ m0 := by omega
  have hm6 : m0 ≤ 6 := by omega
  rw [hm0] at hwt
  have HM := Lib.hid hm0
  clear hS4 hO4 HS3 HB3 HR3 hz3
  go_wp2_with (rw [HM.out])
  go_loopw [3, 4, 5, 6] (fun cv xv yv kv wr => ∃ (m : Nat) (p : Option Addr) (n c : Nat) (q : Cv) (X Y : Int), m ≤ m0 ∧ kv = .int .i64 m ∧ xv = .int .i64 X ∧ yv = .int .i64 Y ∧ cv = .slice p n c ∧ n = q.length ∧ q.length = m0 - m ∧ Dr q X Y ∧ RowC wr w.heap.size (.slice p n c) q ∧ w.heap.size ≤ wr.heap.size ∧ Src wr g (k + 6 + 4 * (m0 - m)) ∧ But g w wr) (fun _ _ _ kv _ => (intOf kv).toNat)
  case atStart => exact ⟨m0, _, 0, 0, [], x - 20, y, Nat.le_refl _, rfl, rfl, rfl, rfl, rfl, by simp, ⟨by simp, by omega, by simp; omega, y0, by simp; omega, fun i hi => absurd hi (by simp), fun i hi => absurd hi (by simp)⟩, HR4.out, by omega, src_mono HS4.out (by omega), HB4.out⟩
  case round =>
    clear HS4 HB4 HR4 hz4
    obtain ⟨m, p, n, c, q, X, Y, hm, rfl, rfl, rfl, rfl, hn, hql, hdr, hR, hz, hS, hB⟩ := hrel
    have HR := Lib.hid hR
    have HS := Lib.hid hS
    have HB := Lib.hid hB
    have HN := Lib.hid hn
    have HQ := Lib.hid hql
    have HD := Lib.hid hdr
    have d1 := hdr.x0; have d2 := hdr.x1; have d3 := hdr.y0; have d4 := hdr.y1; have d5 := hdr.le
    have dX : -20 ≤ X ∧ X ≤ 100 := by omega
    have dY : 0 ≤ Y ∧ Y ≤ 400 := by omega
    clear d1 d2 d3 d4 d5 hR hS hB hn hql hdr
    by_cases hlt : 0 < m
    · have hm0' : (0 : Int) < m := by omega
      have hmw : IntKind.i64.wrap ((m : Int) - 1) = ((m - 1 : Nat) : Int) := by rw [Go.IntWalk.i64_in _ (by omega)]; omega
      have wX : IntKind.i16.wrap X = X := Go.IntWalk.i16_in _ (by omega)
      have wY : IntKind.i16.wrap Y = Y := Go.IntWalk.i16_in _ (by omega)
      have HA := Lib.hid (al1_0 wr (.cells #[.int .i16 X, .int .i16 Y] 147))
      have HL5 : Hid (q.length ≤ 5) := Lib.hid (by have := HQ.out; omega)
      go_wp2_with (at_builtin; refine wpList_appC rfl (.tmp 20) (.tmp 26) 29 rfl w.heap.size Tryz.underlying29 infoPointD _ q rfl (rowC_alloc HR.out _) wr.heap.size 1 X Y rfl (bk2_0 HA.out) (bk2_1 HA.out) (by have := HL5.out; omega) (by simp; omega) ?_; intro v6 w6 hrow hgr hbk; obtain ⟨p9, c9, rfl⟩ := rowC_any hrow; have HB6' := Lib.hid ((Below.refl w.heap.size (wr.alloc (.cells #[.int .i16 X, .int .i16 Y] 147))).grown hgr (by simp; omega) hbk); have HR6 := Lib.hid hrow; clear hgr hbk hrow)
      have HS6 := Lib.hid (srcC_keepB (src_keep HS.out (bl1 wr (.cells #[.int .i16 X, .int .i16 Y] 147))) HB6'.out hgl)
      have HB6 := Lib.hid (butC_keepB (but_alloc HB.out (Nat.lt_of_lt_of_le hgl hz) (.cells #[.int .i16 X, .int .i16 Y] 147)) HB6'.out (Nat.le_refl _) hgl)
      have z6 : w.heap.size ≤ w6.heap.size := Nat.le_trans (by simp; omega) HB6'.out.size
      clear HB6' HR HS HB HA
      refine (srcPick_c g (k + 6 + 4 * (m0 - m)) 9 _ HS6.out (by omega) (by omega) (by omega)).mono ?_
      rintro e w7 ⟨a, rfl, a0, a1, hS7, hO7⟩
      have HS7 := Lib.hid hS7
      have HB7 := Lib.hid (but_only HB6.out hO7)
      have HR7 := Lib.hid (rowC_but HR6.out (but_only (but_refl g w6) hO7) hgl)
      have z7 : w.heap.size ≤ w7.heap.size := by rw [hO7.size]; exact z6
      have wa : IntKind.i64.wrap (1 + a) = 1 + a := Go.IntWalk.i64_in _ (by omega)
      have wa2 : IntKind.i64.wrap (X + (1 + a)) = X + (1 + a) := Go.IntWalk.i64_in _ (by omega)
      clear hS7 hO7 HS6 HB6 HR6
      go_wp2_with fail
      refine (srcPick_c g (k + 6 + 4 * (m0 - m) + 2) 50 _ HS7.out (by omega) (by omega) (by omega)).mono ?_
      rintro e w8 ⟨b, rfl, b0, b1, hS8, hO8⟩
      have HS8 := Lib.hid hS8
      have HB8 := Lib.hid (but_only HB7.out hO8)
      have HR8 := Lib.hid (rowC_but HR7.out (but_only (but_refl g w7) hO8) hgl)
      have z8 : w.heap.size ≤ w8.heap.size := by rw [hO8.size]; exact z7
      have wb : IntKind.i64.wrap (Y + b) = Y + b := Go.IntWalk.i64_in _ (by omega)
      have HDn := Lib.hid (HD.out.app HL5.out a0 a1 b0 b1)
      have hlen : (q ++ [(X, Y)]).length = q.length + 1 := by simp
      have HLn := Lib.hid hlen
      clear hS8 hO8 HS7 HB7 HR7
      go_wp2
      go_roundw
      case rel => exact ⟨m - 1, p9, q.length + 1, c9, q ++ [(X, Y)], X + (1 + a), Y + b, by omega, rfl, rfl, rfl, rfl, HLn.out.symm, by rw [HLn.out]; have := HQ.out; omega, HDn.out, by have := HR8.out; rwa [HLn.out] at this, z8, src_mono HS8.out (by omega), HB8.out⟩
      case measure => simp [intOf]; omega
    · have hm0' : ¬ (0 : Int) < m := by omega
      have HP := Lib.hid (pap_of HD.out (by have := HQ.out; omega))
      go_wp2
      go_ret
      exact ⟨p, c, q, by rw [HN.out] <;> rfl, HP.out, by rw [← HN.out]; exact HR.out, HB.out⟩
theorem p6Paper_c (v : Value) (n : Nat) (w : World) (h : Bytes w v n) :
    Calls Tryz.prog 7 #[v] w fun e w' => ∃ p c q, e = .returned (.slice p q.length c) ∧ Pap q ∧ CvS w' p q ∧ Below w.heap.size w w' := by
  have HS := Lib.hid h
  clear h
  go_enter Tryz.func7, Tryz.ntmps7
  go_wp2_with fail
  refine (srcFrom_c _ _ _ HS.out).mono ?_
  rintro e w2 ⟨g, rfl, hg, hS, hb⟩
  have HS2 := Lib.hid hS
  have HB2 := Lib.hid hb
  clear hS hb
  go_wp2_with fail
  refine (curveDrawn_c g 0 _ HS2.out (by omega)).mono ?_
  rintro e w3 ⟨p, c, q, rfl, hq, hR, hB3⟩
  obtain ⟨n, hn⟩ : ∃ n, n = q.length := ⟨_, rfl⟩
  have HN := Lib.hid hn
  have HR := Lib.hid (rowC_cvs hR)
  have HQ := Lib.hid hq
  have HB3 := Lib.hid (but_new HB2.out hB3 hg)
  rw [← hn]
  clear hn hR hq hB3
  go_wp2
  go_ret
  exact ⟨p, c, q, by rw [HN.out] <;> rfl, HQ.out, HR.out, HB3.out⟩
theorem p6PickG_c (v : Value) (n : Nat) (w : World) (h : Bytes w v n) (m : Int) (h2 : m ≤ 1000000000) :
    Calls Tryz.prog 8 #[v, .int .i64 m] w fun e w' => ∃ x : Int, e = .returned (.int .i64 x) ∧ 0 ≤ x ∧ x ≤ max (m - 1) 0 ∧ Below w.heap.size w w' := by
  have HS := Lib.hid h
  clear h
  go_enter Tryz.func8, Tryz.ntmps8
  go_wp2_with fail
  refine (srcFrom_c _ _ _ HS.out).mono ?_
  rintro e w2 ⟨g, rfl, hg, hS, hb⟩
  have HS2 := Lib.hid hS
  clear hS
  go_wp2_with fail
  refine (srcPickAny_c g 0 m _ HS2.out (by omega) (by omega)).mono ?_
  rintro e w3 ⟨x, rfl, x0, x1, _, hO⟩
  go_wp2
  go_ret
  exact ⟨x, rfl, x0, x1, only_above hb hO hg⟩
theorem f6bigG_c (v1 : Value) (n1 : Nat) (p1 : Option Addr) (c1 : Nat) (h1 : v1 = .slice p1 n1 c1) (w : World) :
    Calls Tryz.prog 5 #[v1] w fun e w' => e = .returned (.bool (decide (4096 < (n1 : Int)))) ∧ w = w' := by
  subst h1
  go_enter Tryz.func5, Tryz.ntmps5
  go_wp2
  go_ret
  exact ⟨by simp, rfl⟩
end Go.Proofs.YtbcahfiknelkcaaGreatDoor
