/- Curves: whether they are valid. -/
import Derived.Test.YtbcahfiknelkcaaGreatDoorCrvS
import Derived.Lib.QuietBelow
import Derived.BigQuiet
namespace Go.Proofs.YtbcahfiknelkcaaGreatDoor
open Go.RowKit Go.Sort
theorem fit_pt {q : Cv} {k : Nat} (h : ptB (px q k) (py q k) = false) : fitB q k = false := by simp [fitB, h]
theorem fit_zero {q : Cv} (h : ptB (px q 0) (py q 0) = true) : fitB q 0 = true := by simp [fitB, h]
theorem fit_x {q : Cv} {k : Nat} (h0 : ¬ k = 0) (h : px q k ≤ px q (k - 1)) : fitB q k = false := by
  have : ¬ px q (k - 1) < px q k := by omega
  simp [fitB, h0, this]
theorem fit_y {q : Cv} {k : Nat} (h0 : ¬ k = 0) (h : py q k < py q (k - 1)) : fitB q k = false := by
  have : ¬ py q (k - 1) ≤ py q k := by omega
  simp [fitB, h0, this]
theorem fit_ok {q : Cv} {k : Nat} (h : ptB (px q k) (py q k) = true) (h1 : px q (k - 1) < px q k) (h2 : py q (k - 1) ≤ py q k) : fitB q k = true := by simp [fitB, h, h1, h2]
theorem shape_bad {q : Cv} {k : Nat} (h : fitB q k = false) (hk : k < q.length) : shapeB q = false := by simp [shapeB, shN_false h hk]
set_option maxHeartbeats 1000000 in
theorem cShape_c (p : Option Addr) (n cap : Nat) (q : Cv) (h16 : C16 q) (hn : n = q.length) (hm : n ≤ 1048576) (w : World) (hp : CvS w p q) :
    Calls Tryz.prog 138 #[.slice p n cap] w fun e w' => e = .returned (.bool (shapeB q)) ∧ Below w.heap.size w w' := by
  have HN := Lib.hid hn
  have HA := Lib.hid hp
  have H16 := Lib.hid h16
  clear hp hn h16
  go_enter Tryz.func138, Tryz.ntmps138
  go_wp2_with fail
  go_loopw [3] (fun i wr => ∃ k : Nat, k ≤ n ∧ i = .int .i64 k ∧ shN q k = true ∧ Below w.heap.size w wr) (fun i _ => n - (intOf i).toNat)
  case atStart => exact ⟨0, Nat.zero_le _, rfl, rfl, Below.refl _ _⟩
  case round =>
    obtain ⟨k, hk, rfl, hsh, hW⟩ := hrel
    have HW := Lib.hid hW
    have HK := Lib.hid hsh
    clear hW hsh
    by_cases hlt : k < n
    · have hki : (k : Int) < n := by omega
      have hkq : k < q.length := by rw [← HN.out]; exact hlt
      obtain ⟨b, o, rfl, hb, hc⟩ := HA.out (cne_of_lt hkq)
      obtain ⟨hx, hy⟩ := H16.out k
      obtain ⟨x, hx'⟩ : ∃ x, x = px q k := ⟨_, rfl⟩
      obtain ⟨y, hy'⟩ : ∃ y, y = py q k := ⟨_, rfl⟩
      have c0 : wr.cell? ⟨b, o + k * 2, none⟩ = some (.int .i16 x) := by rw [hx', HW.out.cell (p := ⟨b, o + k * 2, none⟩) hb]; exact (hc k hkq).1
      have c1 : wr.cell? ⟨b, o + k * 2 + 1, none⟩ = some (.int .i16 y) := by rw [hy', HW.out.cell (p := ⟨b, o + k * 2 + 1, none⟩) hb]; exact (hc k hkq).2
      rw [← hx'] at hx
      rw [← hy'] at hy
      have hbw : b < wr.heap.size := Nat.lt_of_lt_of_le hb HW.out.size
      have cP := fun d os => Calls.regrown_of (cPoint_c x y hx hy (grow (redrawn wr d) os))
      have k0 := cell_regrown c0
      have k1 := cell_regrown c1
      cases hpt : ptB x y
      · have HF : Hid (fitB q k = false) := Lib.hid (fit_pt (by rw [← hx', ← hy']; exact hpt))
        have HPt := Lib.hid hpt
        have HKQ := Lib.hid hkq
        rw [hpt] at cP
        clear hpt hc c0 c1 hx' hy' hkq
        go_upto_region 4 with fail
        refine wp_region_quiet_below (by kernel_rfl) (by kernel_rfl) ?_
        repeat (go_big_quiet_step (exact cP _ _))
        refine wpQuiet_nil ?_
        intro _ hw'
        obtain ⟨⟨dq, osq⟩, hw''⟩ := hw'
        subst hw''
        go_wp2
        go_ret
        exact ⟨ret_bool (shape_bad HF.out HKQ.out).symm, bt HW.out (below_regrown wr dq osq)⟩
      rw [hpt] at cP
      by_cases h0 : k = 0
      · have HF : Hid (fitB q k = true) := Lib.hid (by subst h0; subst hx' hy'; exact fit_zero hpt)
        clear hpt hc hx' hy' hkq k0 k1
        subst h0
        rw [Nat.zero_mul, Nat.add_zero] at c0 c1
        have k0 := cell_regrown c0
        have k1 := cell_regrown c1
        clear c0 c1
        go_upto_region 4 with fail
        refine wp_region_quiet_below (by kernel_rfl) (by kernel_rfl) ?_
        repeat (go_big_quiet_step (exact cP _ _))
        refine wpQuiet_nil ?_
        intro _ hw'
        obtain ⟨⟨dq, osq⟩, hw''⟩ := hw'
        subst hw''
        go_wp2
        go_roundw
        case rel => exact ⟨1, by omega, by go_num, by simp [shN, HF.out], bt HW.out (below_regrown wr dq osq)⟩
        case measure => simp [intOf]; omega
      have hgn : 0 < k := by omega
      have hgd : decide (0 < k) = true := by simp; omega
      have hw1 : IntKind.i64.wrap ((k : Int) - 1) = ((k - 1 : Nat) : Int) := by rw [Go.IntWalk.i64_in _ (by omega)]; omega
      have hk1 : ((k - 1 : Nat) : Int) < n := by omega
      have hkq1 : k - 1 < q.length := by omega
      obtain ⟨x2, hx2⟩ : ∃ x, x = px q (k - 1) := ⟨_, rfl⟩
      obtain ⟨y2, hy2⟩ : ∃ y, y = py q (k - 1) := ⟨_, rfl⟩
      have c2 : wr.cell? ⟨b, o + (k - 1) * 2, none⟩ = some (.int .i16 x2) := by rw [hx2, HW.out.cell (p := ⟨b, o + (k - 1) * 2, none⟩) hb]; exact (hc (k - 1) hkq1).1
      have c3 : wr.cell? ⟨b, o + (k - 1) * 2 + 1, none⟩ = some (.int .i16 y2) := by rw [hy2, HW.out.cell (p := ⟨b, o + (k - 1) * 2 + 1, none⟩) hb]; exact (hc (k - 1) hkq1).2
      have k2 := cell_regrown c2
      have k3 := cell_regrown c3
      by_cases hle : x ≤ x2
      · have HF : Hid (fitB q k = false) := Lib.hid (fit_x h0 (by rw [← hx', ← hx2]; exact hle))
        have HKQ := Lib.hid hkq
        clear hpt hc c0 c1 c2 c3 hx' hy' hx2 hy2 hkq hkq1 h0
        go_upto_region 4 with fail
        refine wp_region_quiet_below (by kernel_rfl) (by kernel_rfl) ?_
        repeat (go_big_quiet_step (exact cP _ _))
        refine wpQuiet_nil ?_
        intro _ hw'
        obtain ⟨⟨dq, osq⟩, hw''⟩ := hw'
        subst hw''
        go_wp2
        go_ret
        exact ⟨ret_bool (shape_bad HF.out HKQ.out).symm, bt HW.out (below_regrown wr dq osq)⟩
      by_cases hlt2 : y < y2
      · have HF : Hid (fitB q k = false) := Lib.hid (fit_y h0 (by rw [← hy', ← hy2]; exact hlt2))
        have HKQ := Lib.hid hkq
        clear hpt hc c0 c1 c2 c3 hx' hy' hx2 hy2 hkq hkq1 h0
        go_upto_region 4 with fail
        refine wp_region_quiet_below (by kernel_rfl) (by kernel_rfl) ?_
        repeat (go_big_quiet_step (exact cP _ _))
        refine wpQuiet_nil ?_
        intro _ hw'
        obtain ⟨⟨dq, osq⟩, hw''⟩ := hw'
        subst hw''
        go_wp2
        go_ret
        exact ⟨ret_bool (shape_bad HF.out HKQ.out).symm, bt HW.out (below_regrown wr dq osq)⟩
      have HF : Hid (fitB q k = true) := Lib.hid (fit_ok (by rw [← hx', ← hy']; exact hpt) (by rw [← hx', ← hx2]; omega) (by rw [← hy', ← hy2]; omega))
      clear hpt hc c0 c1 c2 c3 hx' hy' hx2 hy2 hkq hkq1 h0
      go_upto_region 4 with fail
      refine wp_region_quiet_below (by kernel_rfl) (by kernel_rfl) ?_
      repeat (go_big_quiet_step (exact cP _ _))
      refine wpQuiet_nil ?_
      intro _ hw'
      obtain ⟨⟨dq, osq⟩, hw''⟩ := hw'
      subst hw''
      go_wp2
      go_roundw
      case rel => exact ⟨k + 1, by omega, by go_num, by simp [shN, HK.out, HF.out], bt HW.out (below_regrown wr dq osq)⟩
      case measure => simp [intOf]; omega
    · have hki : ¬ (k : Int) < n := by omega
      have hkn : k = n := by omega
      go_wp2
      go_ret
      have h1 : shN q n = true := by rw [← hkn]; exact HK.out
      exact ⟨ret_bool (by simp [shapeB, ← HN.out, h1]), HW.out⟩
set_option maxHeartbeats 400000 in
theorem cOk_c (p : Option Addr) (n cap : Nat) (q : Cv) (h16 : C16 q) (hn : n = q.length) (hm : n ≤ 1048576) (w : World) (hp : CvS w p q) :
    Calls Tryz.prog 77 #[.slice p n cap] w fun e w' => e = .returned (.bool (cvB q)) ∧ Below w.heap.size w w' := by
  have HN := Lib.hid hn
  have HA := Lib.hid hp
  have H16 := Lib.hid h16
  have HV : Hid (cvB q = (shapeB q && decide (n ≤ 12))) := Lib.hid (by rw [hn]; rfl)
  clear hp hn h16
  cases hs : shapeB q
  · have HS := Lib.hid hs
    clear hs
    go_enter Tryz.func77, Tryz.ntmps77
    go_wp2_with fail
    refine (cShape_c p n cap q H16.out HN.out hm _ HA.out).mono ?_
    rintro e w1 ⟨rfl, hb1⟩
    rw [HS.out]
    go_wp2
    go_ret
    exact ⟨ret_bool (by rw [HV.out, HS.out]; rfl), hb1⟩
  · have HS := Lib.hid hs
    clear hs
    go_enter Tryz.func77, Tryz.ntmps77
    go_wp2_with fail
    refine (cShape_c p n cap q H16.out HN.out hm _ HA.out).mono ?_
    rintro e w1 ⟨rfl, hb1⟩
    rw [HS.out]
    go_wp2
    go_ret
    exact ⟨ret_bool (by rw [HV.out, HS.out]; simp; omega), hb1⟩
set_option maxHeartbeats 1000000 in
theorem cIsCurve_c (p : Option Addr) (n cap : Nat) (q : Cv) (h16 : C16 q) (hn : n = q.length) (hm : n ≤ 1048576) (w : World) (hp : CvS w p q) :
    Calls Tryz.prog 144 #[.slice p n cap] w fun e w' => e = .returned (.bool (shapeB q)) ∧ Below w.heap.size w w' := by
  have HN := Lib.hid hn
  have HA := Lib.hid hp
  have H16 := Lib.hid h16
  clear hp hn h16
  go_enter Tryz.func144, Tryz.ntmps144
  go_wp2_with fail
  go_loopw [7] (fun i wr => ∃ k : Nat, k ≤ n ∧ i = .int .i64 k ∧ shN q k = true ∧ Below w.heap.size w wr) (fun i _ => n - (intOf i).toNat)
  case atStart => exact ⟨0, Nat.zero_le _, rfl, rfl, Below.refl _ _⟩
  case round =>
    obtain ⟨k, hk, rfl, hsh, hW⟩ := hrel
    have HW := Lib.hid hW
    have HK := Lib.hid hsh
    clear hW hsh
    by_cases hlt : k < n
    · have hki : (k : Int) < n := by omega
      have hkq : k < q.length := by rw [← HN.out]; exact hlt
      obtain ⟨b, o, rfl, hb, hc⟩ := HA.out (cne_of_lt hkq)
      obtain ⟨hx, hy⟩ := H16.out k
      obtain ⟨x, hx'⟩ : ∃ x, x = px q k := ⟨_, rfl⟩
      obtain ⟨y, hy'⟩ : ∃ y, y = py q k := ⟨_, rfl⟩
      have c0 : wr.cell? ⟨b, o + k * 2, none⟩ = some (.int .i16 x) := by rw [hx', HW.out.cell (p := ⟨b, o + k * 2, none⟩) hb]; exact (hc k hkq).1
      have c1 : wr.cell? ⟨b, o + k * 2 + 1, none⟩ = some (.int .i16 y) := by rw [hy', HW.out.cell (p := ⟨b, o + k * 2 + 1, none⟩) hb]; exact (hc k hkq).2
      rw [← hx'] at hx
      rw [← hy'] at hy
      have hbw : b < wr.heap.size := Nat.lt_of_lt_of_le hb HW.out.size
      have HX' := Lib.hid hx'
      have HY' := Lib.hid hy'
      clear hx' hy'
      have HR := Lib.hid (bl1 wr (.cells #[.int .i16 x, .int .i16 y] 147))
      have G := al1_0 wr (.cells #[.int .i16 x, .int .i16 y] 147)
      go_upto_region 4 with fail
      generalize wr.alloc (.cells #[.int .i16 x, .int .i16 y] 147) = wp at *
      have HWp := Lib.hid (bt HW.out HR.out)
      clear c0 c1
      have c0 := bk2_0 G
      have c1 := bk2_1 G
      generalize wr.heap.size = gp at *
      have cP := fun d os => Calls.regrown_of (cIsPoint_c x y hx hy (grow (redrawn wp d) os))
      have k0 := cell_regrown c0
      have k1 := cell_regrown c1
      clear G HR
      cases hpt : ptB x y
      · have HF : Hid (fitB q k = false) := Lib.hid (fit_pt (by rw [← HX'.out, ← HY'.out]; exact hpt))
        have HPt := Lib.hid hpt
        have HKQ := Lib.hid hkq
        rw [hpt] at cP
        clear hpt hc c0 c1 hkq
        refine wp_region_quiet_below (by kernel_rfl) (by kernel_rfl) ?_
        repeat (go_big_quiet_step (exact cP _ _))
        refine wpQuiet_nil ?_
        intro _ hw'
        obtain ⟨⟨dq, osq⟩, hw''⟩ := hw'
        subst hw''
        go_wp2
        go_ret
        exact ⟨ret_bool (shape_bad HF.out HKQ.out).symm, bt HWp.out (below_regrown wp dq osq)⟩
      rw [hpt] at cP
      by_cases h0 : k = 0
      · have HF : Hid (fitB q k = true) := Lib.hid (by subst h0; exact fit_zero (by rw [← HX'.out, ← HY'.out]; exact hpt))
        clear hpt hc hkq c0 c1
        subst h0
        refine wp_region_quiet_below (by kernel_rfl) (by kernel_rfl) ?_
        repeat (go_big_quiet_step (exact cP _ _))
        refine wpQuiet_nil ?_
        intro _ hw'
        obtain ⟨⟨dq, osq⟩, hw''⟩ := hw'
        subst hw''
        go_wp2
        go_roundw
        case rel => exact ⟨1, by omega, by go_num, by simp [shN, HF.out], bt HWp.out (below_regrown wp dq osq)⟩
        case measure => simp [intOf]; omega
      have hgn : 0 < k := by omega
      have hgd : decide (0 < k) = true := by simp; omega
      have hw1 : IntKind.i64.wrap ((k : Int) - 1) = ((k - 1 : Nat) : Int) := by rw [Go.IntWalk.i64_in _ (by omega)]; omega
      have hk1 : ((k - 1 : Nat) : Int) < n := by omega
      have hkq1 : k - 1 < q.length := by omega
      obtain ⟨x2, hx2⟩ : ∃ x, x = px q (k - 1) := ⟨_, rfl⟩
      obtain ⟨y2, hy2⟩ : ∃ y, y = py q (k - 1) := ⟨_, rfl⟩
      have c2 : wp.cell? ⟨b, o + (k - 1) * 2, none⟩ = some (.int .i16 x2) := by rw [hx2, HWp.out.cell (p := ⟨b, o + (k - 1) * 2, none⟩) hb]; exact (hc (k - 1) hkq1).1
      have c3 : wp.cell? ⟨b, o + (k - 1) * 2 + 1, none⟩ = some (.int .i16 y2) := by rw [hy2, HWp.out.cell (p := ⟨b, o + (k - 1) * 2 + 1, none⟩) hb]; exact (hc (k - 1) hkq1).2
      have k2 := cell_regrown c2
      have k3 := cell_regrown c3
      by_cases hle : x ≤ x2
      · have HF : Hid (fitB q k = false) := Lib.hid (fit_x h0 (by rw [← HX'.out, ← hx2]; exact hle))
        have HKQ := Lib.hid hkq
        clear hpt hc c0 c1 c2 c3 hx2 hy2 hkq hkq1 h0
        refine wp_region_quiet_below (by kernel_rfl) (by kernel_rfl) ?_
        repeat (go_big_quiet_step (exact cP _ _))
        refine wpQuiet_nil ?_
        intro _ hw'
        obtain ⟨⟨dq, osq⟩, hw''⟩ := hw'
        subst hw''
        go_wp2
        go_ret
        exact ⟨ret_bool (shape_bad HF.out HKQ.out).symm, bt HWp.out (below_regrown wp dq osq)⟩
      by_cases hlt2 : y < y2
      · have HF : Hid (fitB q k = false) := Lib.hid (fit_y h0 (by rw [← HY'.out, ← hy2]; exact hlt2))
        have HKQ := Lib.hid hkq
        clear hpt hc c0 c1 c2 c3 hx2 hy2 hkq hkq1 h0
        refine wp_region_quiet_below (by kernel_rfl) (by kernel_rfl) ?_
        repeat (go_big_quiet_step (exact cP _ _))
        refine wpQuiet_nil ?_
        intro _ hw'
        obtain ⟨⟨dq, osq⟩, hw''⟩ := hw'
        subst hw''
        go_wp2
        go_ret
        exact ⟨ret_bool (shape_bad HF.out HKQ.out).symm, bt HWp.out (below_regrown wp dq osq)⟩
      have HF : Hid (fitB q k = true) := Lib.hid (fit_ok (by rw [← HX'.out, ← HY'.out]; exact hpt) (by rw [← HX'.out, ← hx2]; omega) (by rw [← HY'.out, ← hy2]; omega))
      clear hpt hc c0 c1 c2 c3 hx2 hy2 hkq hkq1 h0
      refine wp_region_quiet_below (by kernel_rfl) (by kernel_rfl) ?_
      repeat (go_big_quiet_step (exact cP _ _))
      refine wpQuiet_nil ?_
      intro _ hw'
      obtain ⟨⟨dq, osq⟩, hw''⟩ := hw'
      subst hw''
      go_wp2
      go_roundw
      case rel => exact ⟨k + 1, by omega, by go_num, by simp [shN, HK.out, HF.out], bt HWp.out (below_regrown wp dq osq)⟩
      case measure => simp [intOf]; omega
    · have hki : ¬ (k : Int) < n := by omega
      have hkn : k = n := by omega
      go_wp2
      go_ret
      have h1 : shN q n = true := by rw [← hkn]; exact HK.out
      exact ⟨ret_bool (by simp [shapeB, ← HN.out, h1]), HW.out⟩
set_option maxHeartbeats 400000 in
theorem cValid_c (p : Option Addr) (n cap : Nat) (q : Cv) (h16 : C16 q) (hn : n = q.length) (hm : n ≤ 1048576) (w : World) (hp : CvS w p q) :
    Calls Tryz.prog 98 #[.slice p n cap] w fun e w' => e = .returned (.bool (cvB q)) ∧ Below w.heap.size w w' := by
  have HN := Lib.hid hn
  have HA := Lib.hid hp
  have H16 := Lib.hid h16
  have HV : Hid (cvB q = (shapeB q && decide (n ≤ 12))) := Lib.hid (by rw [hn]; rfl)
  clear hp hn h16
  cases hs : shapeB q
  · have HS := Lib.hid hs
    clear hs
    go_enter Tryz.func98, Tryz.ntmps98
    go_wp2_with fail
    refine (cIsCurve_c p n cap q H16.out HN.out hm _ HA.out).mono ?_
    rintro e w1 ⟨rfl, hb1⟩
    rw [HS.out]
    go_wp2
    go_ret
    exact ⟨ret_bool (by rw [HV.out, HS.out]; rfl), hb1⟩
  · have HS := Lib.hid hs
    clear hs
    go_enter Tryz.func98, Tryz.ntmps98
    go_wp2_with fail
    refine (cIsCurve_c p n cap q H16.out HN.out hm _ HA.out).mono ?_
    rintro e w1 ⟨rfl, hb1⟩
    rw [HS.out]
    go_wp2
    go_ret
    exact ⟨ret_bool (by rw [HV.out, HS.out]; simp; omega), hb1⟩
end Go.Proofs.YtbcahfiknelkcaaGreatDoor
