/- Curves: the density at an exposure. -/
import Derived.Test.YtbcahfiknelkcaaGreatDoorCrvS
namespace Go.Proofs.YtbcahfiknelkcaaGreatDoor
open Go.RowKit
/-- What a curve's cells are in a world behind. -/
theorem cvs_cells {w : World} {p : Option Addr} {q : Cv} (hp : CvS w p q) (h : 0 < q.length) : ∃ b o, p = some ⟨b, o, none⟩ ∧ b < w.heap.size ∧ ∀ w', Below w.heap.size w w' → ∀ i, i < q.length → w'.cell? ⟨b, o + i * 2, none⟩ = some (.int .i16 (px q i)) ∧ w'.cell? ⟨b, o + i * 2 + 1, none⟩ = some (.int .i16 (py q i)) := by
  obtain ⟨b, o, h1, h2, h3⟩ := hp (cne_of_lt h)
  exact ⟨b, o, h1, h2, fun w' hb i hi => ⟨by rw [hb.cell (p := ⟨b, o + i * 2, none⟩) h2]; exact (h3 i hi).1, by rw [hb.cell (p := ⟨b, o + i * 2 + 1, none⟩) h2]; exact (h3 i hi).2⟩⟩
theorem at_low {q : Cv} {x : Int} (h : x ≤ px q 0) : atV q x = py q 0 := by simp [atV, h]
theorem at_high {q : Cv} {x : Int} (h : ¬ x ≤ px q 0) (h2 : px q (q.length - 1) ≤ x) : atV q x = py q (q.length - 1) := by unfold atV; rw [if_neg h, if_pos h2]
theorem at_mid {q : Cv} {x : Int} (h : ¬ x ≤ px q 0) (h2 : ¬ px q (q.length - 1) ≤ x) : atV q x = cutV q (seg q x) x := by unfold atV; rw [if_neg h, if_neg h2]
theorem seg_pass {q : Cv} {x : Int} {j : Nat} (h : j < seg q x) : px q (j + 1) ≤ x := by
  have := firstN_fail (p := fun j => decide (x < px q (j + 1))) q.length j h
  simpa using this
set_option maxHeartbeats 1000000 in
theorem cAt_c (p : Option Addr) (n cap : Nat) (q : Cv) (hg : Good q) (hn : n = q.length) (x : Int) (w : World) (hp : CvS w p q) :
    Calls Tryz.prog 96 #[.slice p n cap, .int .i64 x] w fun e w' => e = .returned (.int .i64 (atV q x)) ∧ Below w.heap.size w w' := by
  have hpos := hg.pos
  obtain ⟨b, o, rfl, hb, hc⟩ := cvs_cells hp hpos
  have HC := Lib.hid hc
  have HN := Lib.hid hn
  have HG := Lib.hid hg
  have hn12 : n ≤ 12 := by rw [hn]; exact hg.le
  have hn0 : (0 : Int) < n := by rw [hn]; omega
  have hn00 : 0 < n := by omega
  obtain ⟨c00, c01⟩ := hc w (Below.refl _ _) 0 hpos
  rw [Nat.zero_mul, Nat.add_zero] at c00 c01
  have hx0 := hg.x0 0 hpos
  have hy0 := hg.y0 0 hpos
  have wx0 := Go.IntWalk.i64_in (px q 0) (by omega)
  have wy0 := Go.IntWalk.i64_in (py q 0) (by omega)
  clear hp hn hg hc
  by_cases h0 : x ≤ px q 0
  · have HV := Lib.hid (at_low h0)
    generalize px q 0 = X0 at *
    generalize py q 0 = Y0 at *
    clear hx0 hy0
    go_enter Tryz.func96, Tryz.ntmps96
    go_wp2
    go_ret
    exact ⟨ret_int HV.out.symm, Below.refl _ _⟩
  have wn1 : IntKind.i64.wrap ((n : Int) - 1) = ((n - 1 : Nat) : Int) := by rw [Go.IntWalk.i64_in _ (by omega)]; omega
  have hl1 : ((n - 1 : Nat) : Int) < n := by omega
  have hnl : n - 1 < q.length := by rw [← HN.out]; omega
  obtain ⟨c10, c11⟩ := HC.out w (Below.refl _ _) (n - 1) hnl
  have hx1 := HG.out.x0 (n - 1) hnl
  have hy1 := HG.out.y0 (n - 1) hnl
  have wx1 := Go.IntWalk.i64_in (px q (n - 1)) (by omega)
  have wy1 := Go.IntWalk.i64_in (py q (n - 1)) (by omega)
  have EN : Hid (q.length - 1 = n - 1) := Lib.hid (by rw [HN.out])
  by_cases h1 : px q (n - 1) ≤ x
  · have HV := Lib.hid (at_high h0 (by rw [EN.out]; exact h1))
    rw [EN.out] at HV
    generalize px q 0 = X0 at *
    generalize py q 0 = Y0 at *
    generalize px q (n - 1) = X1 at *
    generalize py q (n - 1) = Y1 at *
    clear hx0 hy0 hx1 hy1 hnl
    go_enter Tryz.func96, Tryz.ntmps96
    go_wp2
    go_ret
    exact ⟨ret_int HV.out.symm, Below.refl _ _⟩
  obtain ⟨s1, s2, s3⟩ := seg_le (c := q) (x := x) (by rw [EN.out]; exact h1) (by omega) hpos
  have HV := Lib.hid (at_mid h0 (by rw [EN.out]; exact h1))
  obtain ⟨s, hs⟩ : ∃ s, s = seg q x := ⟨_, rfl⟩
  have HS := Lib.hid hs
  rw [← hs] at s1 s2 s3 HV
  rw [← HN.out] at s1
  generalize hX0 : px q 0 = X0 at *
  generalize py q 0 = Y0 at *
  generalize hX1 : px q (n - 1) = X1 at *
  generalize py q (n - 1) = Y1 at *
  clear hx0 hy0 hx1 hy1 hnl hs hX0 hX1
  go_enter Tryz.func96, Tryz.ntmps96
  go_wp2_with fail
  go_loopw [6] (fun i wr => ∃ k : Nat, k ≤ s ∧ i = .int .i64 k ∧ wr = w) (fun i _ => s - (intOf i).toNat)
  case atStart => exact ⟨0, Nat.zero_le _, rfl, rfl⟩
  case round =>
    obtain ⟨k, hk, rfl, rfl⟩ := hrel
    have wk : IntKind.i64.wrap ((k : Int) + 1) = ((k + 1 : Nat) : Int) := by rw [Go.IntWalk.i64_in _ (by omega)]; omega
    have hk1 : ((k + 1 : Nat) : Int) < n := by omega
    have hkl : k + 1 < q.length := by rw [← HN.out]; omega
    obtain ⟨d0, d1⟩ := HC.out _ (Below.refl _ _) (k + 1) hkl
    have hdx := HG.out.x0 (k + 1) hkl
    have hdy := HG.out.y0 (k + 1) hkl
    have wdx := Go.IntWalk.i64_in (px q (k + 1)) (by omega)
    have wdy := Go.IntWalk.i64_in (py q (k + 1)) (by omega)
    by_cases hks : k < s
    · have hle : px q (k + 1) ≤ x := seg_pass (by rw [← HS.out]; exact hks)
      generalize px q (k + 1) = X2 at *
      generalize py q (k + 1) = Y2 at *
      go_wp2
      go_roundw
      case rel => exact ⟨k + 1, by omega, by go_num, by trivial⟩
      case measure => simp [intOf]; omega
    · have hks : k = s := by omega
      subst hks
      obtain ⟨e0, e1⟩ := HC.out _ (Below.refl _ _) k (by omega)
      have hex := HG.out.x0 k (by omega)
      have hey := HG.out.y0 k (by omega)
      have hup := HG.out.up k hkl
      have wex := Go.IntWalk.i64_in (px q k) (by omega)
      have wey := Go.IntWalk.i64_in (py q k) (by omega)
      have hkn : (k : Int) < n := by omega
      have u1 := Go.IntWalk.i64_in (py q (k + 1) - py q k) (by omega)
      have u2 := Go.IntWalk.i64_in (x - px q k) (by omega)
      have u3 := Go.IntWalk.i64_in (px q (k + 1) - px q k) (by omega)
      have mb := mul_bd (py q (k + 1) - py q k) (x - px q k) 400 400 (by omega) (by omega) (by omega) (by omega)
      have u4 := Go.IntWalk.i64_in ((py q (k + 1) - py q k) * (x - px q k)) (by omega)
      have db := div_bd ((py q (k + 1) - py q k) * (x - px q k)) (px q (k + 1) - px q k) mb.1 (by omega)
      have tq : ((py q (k + 1) - py q k) * (x - px q k)).tdiv (px q (k + 1) - px q k) = (py q (k + 1) - py q k) * (x - px q k) / (px q (k + 1) - px q k) := Int.tdiv_eq_ediv_of_nonneg mb.1
      have u5 := Go.IntWalk.i64_in ((py q (k + 1) - py q k) * (x - px q k) / (px q (k + 1) - px q k)) (by omega)
      have u6 := Go.IntWalk.i64_in (py q k + (py q (k + 1) - py q k) * (x - px q k) / (px q (k + 1) - px q k)) (by omega)
      have hnz : ¬ px q (k + 1) - px q k = 0 := by omega
      have hgt : ¬ px q (k + 1) ≤ x := by omega
      have HV2 : Hid (atV q x = py q k + (py q (k + 1) - py q k) * (x - px q k) / (px q (k + 1) - px q k)) := Lib.hid HV.out
      clear hdx hdy hex hey hup mb db HV
      generalize px q (k + 1) = X2 at *
      generalize py q (k + 1) = Y2 at *
      generalize px q k = X3 at *
      generalize py q k = Y3 at *
      go_wp2_with fail
      go_quiet (fail)
      go_wp2
      go_ret
      exact ⟨ret_int HV2.out.symm, by first | exact bl_drewN (bl2 _ _ _) _ | exact bl2 _ _ _⟩
set_option maxHeartbeats 1000000 in
theorem cImplAt_c (p : Option Addr) (n cap : Nat) (q : Cv) (hg : Good q) (hn : n = q.length) (x : Int) (w : World) (hp : CvS w p q) :
    Calls Tryz.prog 148 #[.slice p n cap, .int .i64 x] w fun e w' => e = .returned (.int .i64 (atV q x)) ∧ Below w.heap.size w w' := by
  have hpos := hg.pos
  obtain ⟨b, o, rfl, hb, hc⟩ := cvs_cells hp hpos
  have HC := Lib.hid hc
  have HN := Lib.hid hn
  have HG := Lib.hid hg
  have hn12 : n ≤ 12 := by rw [hn]; exact hg.le
  have hn0 : (0 : Int) < n := by rw [hn]; omega
  have hn00 : 0 < n := by omega
  obtain ⟨c00, c01⟩ := hc w (Below.refl _ _) 0 hpos
  rw [Nat.zero_mul, Nat.add_zero] at c00 c01
  have hx0 := hg.x0 0 hpos
  have hy0 := hg.y0 0 hpos
  have wx0 := Go.IntWalk.i64_in (px q 0) (by omega)
  have wy0 := Go.IntWalk.i64_in (py q 0) (by omega)
  have wn1 : IntKind.i64.wrap ((n : Int) - 1) = ((n - 1 : Nat) : Int) := by rw [Go.IntWalk.i64_in _ (by omega)]; omega
  clear hp hn hg hc
  by_cases h0 : x ≤ px q 0
  · have HV := Lib.hid (at_low h0)
    generalize px q 0 = X0 at *
    generalize py q 0 = Y0 at *
    clear hx0 hy0
    go_enter Tryz.func148, Tryz.ntmps148
    go_wp2
    go_ret
    exact ⟨ret_int HV.out.symm, Below.refl _ _⟩
  have hl1 : ((n - 1 : Nat) : Int) < n := by omega
  have hnl : n - 1 < q.length := by rw [← HN.out]; omega
  obtain ⟨c10, c11⟩ := HC.out w (Below.refl _ _) (n - 1) hnl
  have hx1 := HG.out.x0 (n - 1) hnl
  have hy1 := HG.out.y0 (n - 1) hnl
  have wx1 := Go.IntWalk.i64_in (px q (n - 1)) (by omega)
  have wy1 := Go.IntWalk.i64_in (py q (n - 1)) (by omega)
  have EN : Hid (q.length - 1 = n - 1) := Lib.hid (by rw [HN.out])
  by_cases h1 : px q (n - 1) ≤ x
  · have HV := Lib.hid (at_high h0 (by rw [EN.out]; exact h1))
    rw [EN.out] at HV
    generalize px q 0 = X0 at *
    generalize py q 0 = Y0 at *
    generalize px q (n - 1) = X1 at *
    generalize py q (n - 1) = Y1 at *
    clear hx0 hy0 hx1 hy1 hnl
    go_enter Tryz.func148, Tryz.ntmps148
    go_wp2
    go_ret
    exact ⟨ret_int HV.out.symm, Below.refl _ _⟩
  obtain ⟨s1, s2, s3⟩ := seg_le (c := q) (x := x) (by rw [EN.out]; exact h1) (by omega) hpos
  have HV := Lib.hid (at_mid h0 (by rw [EN.out]; exact h1))
  obtain ⟨s, hs⟩ : ∃ s, s = seg q x := ⟨_, rfl⟩
  have HS := Lib.hid hs
  rw [← hs] at s1 s2 s3 HV
  rw [← HN.out] at s1
  generalize hX0 : px q 0 = X0 at *
  generalize py q 0 = Y0 at *
  generalize hX1 : px q (n - 1) = X1 at *
  generalize py q (n - 1) = Y1 at *
  clear hx0 hy0 hx1 hy1 hnl hs hX0 hX1
  go_enter Tryz.func148, Tryz.ntmps148
  go_wp2_with fail
  go_loopw [6] (fun i wr => ∃ k : Nat, k ≤ s ∧ i = .int .i64 ((k + 1 : Nat) : Int) ∧ wr = w) (fun i _ => s + 1 - (intOf i).toNat)
  case atStart => exact ⟨0, Nat.zero_le _, rfl, rfl⟩
  case round =>
    obtain ⟨k, hk, rfl, rfl⟩ := hrel
    have wk : IntKind.i64.wrap (((k + 1 : Nat) : Int) + 1) = ((k + 1 + 1 : Nat) : Int) := by rw [Go.IntWalk.i64_in _ (by omega)]; omega
    have hk1 : ((k + 1 : Nat) : Int) < n := by omega
    have hkl : k + 1 < q.length := by rw [← HN.out]; omega
    obtain ⟨d0, d1⟩ := HC.out _ (Below.refl _ _) (k + 1) hkl
    have hdx := HG.out.x0 (k + 1) hkl
    have hdy := HG.out.y0 (k + 1) hkl
    have wdx := Go.IntWalk.i64_in (px q (k + 1)) (by omega)
    have wdy := Go.IntWalk.i64_in (py q (k + 1)) (by omega)
    by_cases hks : k < s
    · have hle : px q (k + 1) ≤ x := seg_pass (by rw [← HS.out]; exact hks)
      generalize px q (k + 1) = X2 at *
      generalize py q (k + 1) = Y2 at *
      go_wp2
      go_roundw
      case rel => exact ⟨k + 1, by omega, by go_num, by trivial⟩
      case measure => simp [intOf]; omega
    · have hks : k = s := by omega
      subst hks
      obtain ⟨e0, e1⟩ := HC.out _ (Below.refl _ _) k (by omega)
      have hex := HG.out.x0 k (by omega)
      have hey := HG.out.y0 k (by omega)
      have hup := HG.out.up k hkl
      have wex := Go.IntWalk.i64_in (px q k) (by omega)
      have wey := Go.IntWalk.i64_in (py q k) (by omega)
      have hkn : (k : Int) < n := by omega
      have hk1' : (k : Int) + 1 < n := by omega
      have hk0' : (0 : Int) ≤ (k : Int) + 1 := by omega
      have hkp : (0 : Int) ≤ (k : Int) := by omega
      have hks' : k + 1 < n := by omega
      have wk0 := Go.IntWalk.i64_in (k : Int) (by omega)
      have hks2 : k < n := by omega
      have wk3 : IntKind.i64.wrap ((k : Int) + 1 - 1) = (k : Int) := by rw [Go.IntWalk.i64_in _ (by omega)]; omega
      have wk2 : IntKind.i64.wrap (((k + 1 : Nat) : Int) - 1) = (k : Int) := by rw [Go.IntWalk.i64_in _ (by omega)]; omega
      have v1 := Go.IntWalk.i16_in (py q (k + 1) - py q k) (by omega)
      have v3 := Go.IntWalk.i16_in (px q (k + 1) - px q k) (by omega)
      have u1 := Go.IntWalk.i64_in (py q (k + 1) - py q k) (by omega)
      have u2 := Go.IntWalk.i64_in (x - px q k) (by omega)
      have u3 := Go.IntWalk.i64_in (px q (k + 1) - px q k) (by omega)
      have mb := mul_bd (py q (k + 1) - py q k) (x - px q k) 400 400 (by omega) (by omega) (by omega) (by omega)
      have u4 := Go.IntWalk.i64_in ((py q (k + 1) - py q k) * (x - px q k)) (by omega)
      have db := div_bd ((py q (k + 1) - py q k) * (x - px q k)) (px q (k + 1) - px q k) mb.1 (by omega)
      have tq : ((py q (k + 1) - py q k) * (x - px q k)).tdiv (px q (k + 1) - px q k) = (py q (k + 1) - py q k) * (x - px q k) / (px q (k + 1) - px q k) := Int.tdiv_eq_ediv_of_nonneg mb.1
      have u5 := Go.IntWalk.i64_in ((py q (k + 1) - py q k) * (x - px q k) / (px q (k + 1) - px q k)) (by omega)
      have u6 := Go.IntWalk.i64_in (py q k + (py q (k + 1) - py q k) * (x - px q k) / (px q (k + 1) - px q k)) (by omega)
      have hnz : ¬ px q (k + 1) - px q k = 0 := by omega
      have hgt : ¬ px q (k + 1) ≤ x := by omega
      have HV2 : Hid (atV q x = py q k + (py q (k + 1) - py q k) * (x - px q k) / (px q (k + 1) - px q k)) := Lib.hid HV.out
      clear hdx hdy hex hey hup mb db HV
      generalize px q (k + 1) = X2 at *
      generalize py q (k + 1) = Y2 at *
      generalize px q k = X3 at *
      generalize py q k = Y3 at *
      go_wp2_with fail
      have K : Hid (∀ w', Below wr.heap.size wr w' → ((w'.cell? ⟨b, o + k * 2, none⟩ = some (.int .i16 X3) ∧ w'.cell? ⟨b, o + k * 2 + 1, none⟩ = some (.int .i16 Y3)) ∧ w'.cell? ⟨b, o + (k + 1) * 2, none⟩ = some (.int .i16 X2) ∧ w'.cell? ⟨b, o + (k + 1) * 2 + 1, none⟩ = some (.int .i16 Y2))) := Lib.hid fun w' h => ⟨⟨(h.cell (p := ⟨b, _, none⟩) hb).trans e0, (h.cell (p := ⟨b, _, none⟩) hb).trans e1⟩, (h.cell (p := ⟨b, _, none⟩) hb).trans d0, (h.cell (p := ⟨b, _, none⟩) hb).trans d1⟩
      go_cut [7, 8] from 50 to 58 (fun s7 s8 wx => ∃ g1 g2 : Nat, s7 = .pointer (some ⟨g1, 0, none⟩) ∧ s8 = .pointer (some ⟨g2, 0, none⟩) ∧ wx.heap[g1]? = some (.cells #[.int .i16 X3, .int .i16 Y3] 147 (0, 0)) ∧ wx.heap[g2]? = some (.cells #[.int .i16 X2, .int .i16 Y2] 147 (0, 0)) ∧ Below wr.heap.size wr wx)
      case first =>
        have s0 := K.out _ (Below.refl _ _)
        go_region_held3 (fun w' => (w'.cell? ⟨b, o + k * 2, none⟩ = some (.int .i16 X3) ∧ w'.cell? ⟨b, o + k * 2 + 1, none⟩ = some (.int .i16 Y3)) ∧ w'.cell? ⟨b, o + (k + 1) * 2, none⟩ = some (.int .i16 X2) ∧ w'.cell? ⟨b, o + (k + 1) * 2 + 1, none⟩ = some (.int .i16 Y2))
          (first | (with_reducible assumption) | exact K.out _ (bl_drew (Below.refl _ _)) | exact K.out _ ((bl_drew (Below.refl _ _)).alloc (Nat.le_refl _) _) | exact K.out _ (((bl_drew (Below.refl _ _)).alloc (Nat.le_refl _) _).alloc (by simp) _))
          (fail)
        all_goals (go_wp2_with fail; go_meet)
        all_goals first | exact ⟨_, _, rfl, rfl, al2_0 _ _ _, al2_1 _ _ _, bl_drew (bl2 _ _ _)⟩ | exact ⟨_, _, rfl, rfl, al2_1 _ _ _, al2_0 _ _ _, bl_drew (bl2 _ _ _)⟩
      case rest =>
        obtain ⟨g1, g2, rfl, rfl, G1, G2, L1⟩ := hcut
        have z0 := bk2_0 G1
        have z1 := bk2_1 G1
        have z2 := bk2_0 G2
        have z3 := bk2_1 G2
        clear K c00 c01 c10 c11 d0 d1 e0 e1 G1 G2
        go_wp2_with fail
        go_quiet (fail)
        go_wp2
        go_ret
        exact ⟨ret_int HV2.out.symm, by first | exact bl_drewN L1 _ | exact L1⟩
end Go.Proofs.YtbcahfiknelkcaaGreatDoor
