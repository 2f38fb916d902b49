/- Curves: the scale of a paper. -/
import Derived.Test.YtcdndjimfmpifaaCrvL
namespace Go.Proofs.Ytcdndjimfmpifaa
open Go.RowKit
/-- The least exposure (counted from -200) whose density is at least y, or 401. -/
def plN (q : Cv) (y : Int) : Nat := firstN (fun k => decide (y ≤ atV q ((k : Int) - 200))) 401
theorem plN_le (q : Cv) (y : Int) : plN q y ≤ 401 := firstN_le _ 401
theorem plN_low {q : Cv} {y : Int} {k : Nat} (h : k < plN q y) : atV q ((k : Int) - 200) < y := by
  have := firstN_fail (p := fun k => decide (y ≤ atV q ((k : Int) - 200))) 401 k h
  simpa using this
theorem plN_high {q : Cv} (hg : Good q) {y : Int} {k : Nat} (h : plN q y ≤ k) (hk : k ≤ 400) : y ≤ atV q ((k : Int) - 200) := by
  have h1 : y ≤ atV q ((plN q y : Nat) - 200) := by
    have := firstN_hold (p := fun k => decide (y ≤ atV q ((k : Int) - 200))) 401 (by unfold plN at h; omega)
    exact of_decide_eq_true this
  exact Int.le_trans h1 (at_mono hg (by omega))
def endB (l d : Int) : Bool := (ydB l && ydB d) && decide (l < d)
def sclB (q : Cv) (l d : Int) : Bool := decide (plN q d ≤ 400) && decide (1 ≤ plN q (l + 1))
def sclI (q : Cv) (l d : Int) : Int := (plN q d : Int) - plN q (l + 1) + 1
def sclN (q : Cv) (l d : Int) : Int := if sclB q l d then sclI q l d else 0
set_option maxHeartbeats 400000 in
theorem cFirst_c (p : Option Addr) (n cap : Nat) (q : Cv) (hg : Good q) (hn : n = q.length) (y : Int) (w : World) (hp : CvS w p q) :
    Calls Try.prog 75 #[.slice p n cap, .int .i64 y] w fun e w' => e = .returned (.int .i64 ((plN q y : Int) - 200)) ∧ Below w.heap.size w w' := by
  have HA := Lib.hid hp
  have HG := Lib.hid hg
  have HN := Lib.hid hn
  obtain ⟨L, hL⟩ : ∃ L, L = plN q y := ⟨_, rfl⟩
  rw [← hL]
  have HLL := Lib.hid hL
  clear hp hg hn hL
  go_enter Try.func75, Try.ntmps75
  go_wp2_with fail
  go_loopw [5] (fun i wr => ∃ k : Nat, k ≤ 401 ∧ i = .int .i64 ((k : Int) - 200) ∧ firstN (fun k => decide (y ≤ atV q ((k : Int) - 200))) k = k ∧ Below w.heap.size w wr) (fun i _ => (201 - intOf i).toNat)
  case atStart => exact ⟨0, by omega, rfl, rfl, Below.refl _ _⟩
  case round =>
    obtain ⟨k, hk, rfl, hf, hW⟩ := hrel
    have HW := Lib.hid hW
    have HF := Lib.hid hf
    have HA2 := Lib.hid (CvS_below hW HA.out)
    clear hW hf
    obtain ⟨x, hx⟩ : ∃ x : Int, x = (k : Int) - 200 := ⟨_, rfl⟩
    rw [← hx]
    by_cases hlt : k ≤ 400
    · have hd : decide (x ≤ 200) = true := by simp; omega
      have hw : IntKind.i64.wrap (x + 1) = x + 1 := Go.IntWalk.i64_in _ (by omega)
      obtain ⟨v, hv⟩ : ∃ v, v = atV q x := ⟨_, rfl⟩
      by_cases hle : v < y
      · have HS : Hid (firstN (fun k => decide (y ≤ atV q ((k : Int) - 200))) (k + 1) = k + 1) := Lib.hid (firstN_step HF.out (by simp only [← hx, ← hv]; simp; omega))
        have HV := Lib.hid hv.symm
        have HX := Lib.hid hx
        have HKL := Lib.hid hlt
        clear hv hx hlt
        go_wp2_with fail
        refine (cImplAt_c p n cap q HG.out HN.out x _ HA2.out).mono ?_
        rintro e w1 ⟨rfl, hb1⟩
        rw [HV.out]
        go_wp2
        go_roundw
        case rel => exact ⟨k + 1, by have := HKL.out; omega, by rw [HX.out]; congr 1; omega, HS.out, bt HW.out hb1⟩
        case measure => have := HX.out; have := HKL.out; simp [intOf]; omega
      · have HE : Hid (x = (L : Int) - 200) := Lib.hid (by
          have : plN q y = k := firstN_at HF.out (by simp only [← hx, ← hv]; simp; omega) (by omega)
          rw [HLL.out, this, hx])
        have HV := Lib.hid hv.symm
        clear hv hx hlt
        go_wp2_with fail
        refine (cImplAt_c p n cap q HG.out HN.out x _ HA2.out).mono ?_
        rintro e w1 ⟨rfl, hb1⟩
        rw [HV.out]
        go_wp2
        go_ret
        exact ⟨ret_int HE.out, bt HW.out hb1⟩
    · have hd : decide (x ≤ 200) = false := by simp; omega
      have HE : Hid (x = (L : Int) - 200) := Lib.hid (by
        have h401 : k = 401 := by omega
        have : plN q y = k := by unfold plN; rw [← h401]; exact HF.out
        rw [HLL.out, this, hx])
      clear hx hlt hk
      go_wp2
      go_ret
      exact ⟨ret_int HE.out, HW.out⟩
set_option maxHeartbeats 400000 in
theorem cFor_c (p : Option Addr) (n cap : Nat) (q : Cv) (hg : Good q) (hn : n = q.length) (y : Int) (w : World) (hp : CvS w p q) :
    Calls Try.prog 83 #[.slice p n cap, .int .i64 y] w fun e w' => e = .returned (.int .i64 ((plN q y : Int) - 200)) ∧ Below w.heap.size w w' := by
  have HA := Lib.hid hp
  have HG := Lib.hid hg
  have HN := Lib.hid hn
  obtain ⟨L, hL⟩ : ∃ L, L = plN q y := ⟨_, rfl⟩
  rw [← hL]
  have HLL := Lib.hid hL
  clear hp hg hn hL
  go_enter Try.func83, Try.ntmps83
  go_wp2_with fail
  go_loopw [5] (fun i wr => ∃ k : Nat, k ≤ 401 ∧ i = .int .i64 ((k : Int) - 200) ∧ firstN (fun k => decide (y ≤ atV q ((k : Int) - 200))) k = k ∧ Below w.heap.size w wr) (fun i _ => (201 - intOf i).toNat)
  case atStart => exact ⟨0, by omega, rfl, rfl, Below.refl _ _⟩
  case round =>
    obtain ⟨k, hk, rfl, hf, hW⟩ := hrel
    have HW := Lib.hid hW
    have HF := Lib.hid hf
    have HA2 := Lib.hid (CvS_below hW HA.out)
    clear hW hf
    obtain ⟨x, hx⟩ : ∃ x : Int, x = (k : Int) - 200 := ⟨_, rfl⟩
    rw [← hx]
    by_cases hlt : k ≤ 400
    · have hd : decide (x ≤ 200) = true := by simp; omega
      have hw : IntKind.i64.wrap (x + 1) = x + 1 := Go.IntWalk.i64_in _ (by omega)
      obtain ⟨v, hv⟩ : ∃ v, v = atV q x := ⟨_, rfl⟩
      by_cases hle : v < y
      · have HS : Hid (firstN (fun k => decide (y ≤ atV q ((k : Int) - 200))) (k + 1) = k + 1) := Lib.hid (firstN_step HF.out (by simp only [← hx, ← hv]; simp; omega))
        have HV := Lib.hid hv.symm
        have HX := Lib.hid hx
        have HKL := Lib.hid hlt
        clear hv hx hlt
        go_wp2_with fail
        refine (cAt_c p n cap q HG.out HN.out x _ HA2.out).mono ?_
        rintro e w1 ⟨rfl, hb1⟩
        rw [HV.out]
        go_wp2
        go_roundw
        case rel => exact ⟨k + 1, by have := HKL.out; omega, by rw [HX.out]; congr 1; omega, HS.out, bt HW.out hb1⟩
        case measure => have := HX.out; have := HKL.out; simp [intOf]; omega
      · have HE : Hid (x = (L : Int) - 200) := Lib.hid (by
          have : plN q y = k := firstN_at HF.out (by simp only [← hx, ← hv]; simp; omega) (by omega)
          rw [HLL.out, this, hx])
        have HV := Lib.hid hv.symm
        clear hv hx hlt
        go_wp2_with fail
        refine (cAt_c p n cap q HG.out HN.out x _ HA2.out).mono ?_
        rintro e w1 ⟨rfl, hb1⟩
        rw [HV.out]
        go_wp2
        go_ret
        exact ⟨ret_int HE.out, bt HW.out hb1⟩
    · have hd : decide (x ≤ 200) = false := by simp; omega
      have HE : Hid (x = (L : Int) - 200) := Lib.hid (by
        have h401 : k = 401 := by omega
        have : plN q y = k := by unfold plN; rw [← h401]; exact HF.out
        rw [HLL.out, this, hx])
      clear hx hlt hk
      go_wp2
      go_ret
      exact ⟨ret_int HE.out, HW.out⟩
def dnsV (q : Cv) (y : Int) : Int := if cvB q then (if ydB y then 0 else 2) else 1
theorem cDense_c (p : Option Addr) (n cap : Nat) (q : Cv) (h16 : C16 q) (hn : n = q.length) (hm : n ≤ 1048576) (y : Int) (w : World) (hp : CvS w p q) :
    Calls Try.prog 82 #[.slice p n cap, .int .i64 y] w fun e w' => e = .returned (.int .i64 (dnsV q y)) ∧ Below w.heap.size w w' := by
  have HN := Lib.hid hn
  have H16 := Lib.hid h16
  have HA := Lib.hid hp
  clear hn h16 hp
  cases hc : cvB q <;> cases hy : ydB y
  all_goals
    have HC := Lib.hid hc
    have HY := Lib.hid hy
    clear hc hy
    go_enter Try.func82, Try.ntmps82
    go_wp2_with (first
      | (go_at_call 55; refine (cOk_c p n cap q H16.out HN.out hm _ HA.out).mono ?_; rintro e w1 ⟨rfl, hb1⟩; rw [HC.out])
      | (go_at_call 65; refine (cDensity_c y _).mono ?_; rintro e w' ⟨rfl, rfl⟩; rw [HY.out]))
    go_ret
    exact ⟨ret_int (by simp [dnsV, HC.out, HY.out]), hb1⟩
/-- The exposure for a density, of a valid curve and a density that can be. -/
theorem cExpFor_c (p : Option Addr) (n cap : Nat) (q : Cv) (h16 : C16 q) (hv : cvB q = true) (hn : n = q.length) (hm : n ≤ 1048576) (y : Int) (hy : ydB y = true) (w : World) (hp : CvS w p q) :
    Calls Try.prog 74 #[.slice p n cap, .int .i64 y] w fun e w' => e = .returned (.tuple #[.int .i64 (if plN q y ≤ 400 then (plN q y : Int) - 200 else 0), .int .i64 (if plN q y ≤ 400 then 0 else 6)]) ∧ Below w.heap.size w w' := by
  have HN := Lib.hid hn
  have H16 := Lib.hid h16
  have HA := Lib.hid hp
  have HG := Lib.hid (good_of hv)
  have HD : Hid (dnsV q y = 0) := Lib.hid (by simp [dnsV, hv, hy])
  have HLE := Lib.hid (plN_le q y)
  obtain ⟨L, hL⟩ : ∃ L, L = plN q y := ⟨_, rfl⟩
  rw [← hL] at HLE
  rw [← hL]
  have HLL := Lib.hid hL.symm
  clear hn h16 hp hv hy hL
  by_cases h : L ≤ 400
  · have hd : decide ((200 : Int) < (L : Int) - 200) = false := by simp; omega
    have HR : Hid ((if L ≤ 400 then (L : Int) - 200 else 0) = (L : Int) - 200 ∧ (if L ≤ 400 then (0 : Int) else 6) = 0) := Lib.hid (by simp [h])
    rw [HR.out.1, HR.out.2]
    obtain ⟨x, hx⟩ : ∃ x : Int, x = (L : Int) - 200 := ⟨_, rfl⟩
    rw [← hx] at hd ⊢
    have HX := Lib.hid hx.symm
    clear h hx HR
    go_enter Try.func74, Try.ntmps74
    go_wp2_with fail
    refine (cDense_c p n cap q H16.out HN.out hm y _ HA.out).mono ?_
    rintro e w1 ⟨rfl, hb1⟩
    rw [HD.out]
    go_wp2_with fail
    refine (cFor_c p n cap q HG.out HN.out y _ (CvS_below hb1 HA.out)).mono ?_
    rintro e w2 ⟨rfl, hb2⟩
    rw [HLL.out, HX.out]
    go_wp2
    go_ret2
    exact ⟨rfl, bt hb1 hb2⟩
  · have hd : decide ((200 : Int) < (L : Int) - 200) = true := by simp; omega
    have HR : Hid ((if L ≤ 400 then (L : Int) - 200 else 0) = 0 ∧ (if L ≤ 400 then (0 : Int) else 6) = 6) := Lib.hid (by simp [h])
    rw [HR.out.1, HR.out.2]
    obtain ⟨x, hx⟩ : ∃ x : Int, x = (L : Int) - 200 := ⟨_, rfl⟩
    rw [← hx] at hd
    have HX := Lib.hid hx.symm
    clear h hx HR
    go_enter Try.func74, Try.ntmps74
    go_wp2_with fail
    refine (cDense_c p n cap q H16.out HN.out hm y _ HA.out).mono ?_
    rintro e w1 ⟨rfl, hb1⟩
    rw [HD.out]
    go_wp2_with fail
    refine (cFor_c p n cap q HG.out HN.out y _ (CvS_below hb1 HA.out)).mono ?_
    rintro e w2 ⟨rfl, hb2⟩
    rw [HLL.out, HX.out]
    go_wp2
    go_ret2
    exact ⟨rfl, bt hb1 hb2⟩
set_option maxHeartbeats 1000000 in
theorem cL05Scale_c (p : Option Addr) (n cap : Nat) (q : Cv) (h16 : C16 q) (hv : cvB q = true) (hn : n = q.length) (hm : n ≤ 1048576) (l d : Int) (hd : ydB d = true) (w : World) (hp : CvS w p q) :
    Calls Try.prog 42 #[.slice p n cap, .int .i64 l, .int .i64 d] w fun e w' => e = .returned (.tuple #[.int .i64 (sclN q l d), .bool (sclB q l d)]) ∧ Below w.heap.size w w' := by
  have HN := Lib.hid hn
  have H16 := Lib.hid h16
  have HA := Lib.hid hp
  have HVV := Lib.hid hv
  have HDD := Lib.hid hd
  have HG := Lib.hid (good_of hv)
  have hle1 := plN_le q d
  have hle2 := plN_le q (l + 1)
  obtain ⟨H, hH⟩ : ∃ H, H = plN q d := ⟨_, rfl⟩
  obtain ⟨L, hL⟩ : ∃ L, L = plN q (l + 1) := ⟨_, rfl⟩
  obtain ⟨B, hB⟩ : ∃ B, B = sclB q l d := ⟨_, rfl⟩
  obtain ⟨N, hN⟩ : ∃ N, N = sclN q l d := ⟨_, rfl⟩
  rw [← hB, ← hN]
  have HB : Hid (B = (decide (H ≤ 400) && decide (1 ≤ L))) := Lib.hid (by rw [hB, sclB, ← hH, ← hL])
  have HI : Hid (N = if B = true then (H : Int) - L + 1 else 0) := Lib.hid (by rw [hN, sclN, ← hB, sclI, ← hH, ← hL])
  have HHH := Lib.hid hH.symm
  have HLL := Lib.hid hL.symm
  rw [← hH] at hle1
  rw [← hL] at hle2
  clear hn h16 hp hv hd hH hL hB hN
  by_cases h400 : H ≤ 400
  · have HE1 : Hid ((if plN q d ≤ 400 then (plN q d : Int) - 200 else 0) = (H : Int) - 200 ∧ (if plN q d ≤ 400 then (0 : Int) else 6) = 0) := Lib.hid (by rw [HHH.out]; simp [h400])
    obtain ⟨hi, hhi⟩ : ∃ x : Int, x = (H : Int) - 200 := ⟨_, rfl⟩
    rw [← hhi] at HE1
    have HHI := Lib.hid hhi
    go_enter Try.func42, Try.ntmps42
    go_wp2_with fail
    refine (cExpFor_c p n cap q H16.out HVV.out HN.out hm d HDD.out _ HA.out).mono ?_
    rintro e w1 ⟨rfl, hb1⟩
    rw [HE1.out.1, HE1.out.2]
    have HB1 := Lib.hid hb1
    have hh4 := Lib.hid h400
    clear hb1 hhi h400 HE1
    go_wp2_with fail
    go_loopw [10] (fun i wr => ∃ j : Nat, L ≤ j ∧ j ≤ 401 ∧ i = .int .i64 ((j : Int) - 201) ∧ Below w.heap.size w wr) (fun i _ => (201 + intOf i).toNat)
    case atStart => exact ⟨401, hle2, Nat.le_refl _, rfl, HB1.out⟩
    case round =>
      clear HB1
      obtain ⟨j, hj, hj2, rfl, hW⟩ := hrel
      have HW := Lib.hid hW
      have HA2 := Lib.hid (CvS_below hW HA.out)
      clear hW
      obtain ⟨x, hx⟩ : ∃ x : Int, x = (j : Int) - 201 := ⟨_, rfl⟩
      rw [← hx]
      by_cases hj0 : 1 ≤ j
      · have hdx : decide (-200 ≤ x) = true := by simp; omega
        have hw : IntKind.i64.wrap (x - 1) = x - 1 := Go.IntWalk.i64_in _ (by omega)
        obtain ⟨v, hvv⟩ : ∃ v, v = atV q x := ⟨_, rfl⟩
        have hxk : x = ((j - 1 : Nat) : Int) - 200 := by omega
        by_cases hjl : L < j
        · have hgt : decide (v ≤ l) = false := by
            have := plN_high HG.out (y := l + 1) (k := j - 1) (by rw [HLL.out]; omega) (by omega)
            rw [← hxk, ← hvv] at this; simp; omega
          have HV := Lib.hid hvv.symm
          have HX := Lib.hid hx
          have HJ := Lib.hid hjl
          have HJ2 := Lib.hid hj2
          clear hvv hx hjl hxk hj hj2
          go_wp2_with fail
          refine (cAt_c p n cap q HG.out HN.out x _ HA2.out).mono ?_
          rintro e w2 ⟨rfl, hb2⟩
          rw [HV.out]
          go_wp2
          go_roundw
          case rel => exact ⟨j - 1, by have := HJ.out; omega, by have := HJ2.out; omega, by rw [show x - 1 = ((j - 1 : Nat) : Int) - 201 by have := HX.out; have := HJ.out; omega], bt HW.out hb2⟩
          case measure => have := HX.out; simp [intOf]; omega
        · have hjL : j = L := by omega
          have hle : decide (v ≤ l) = true := by
            have := plN_low (q := q) (y := l + 1) (k := j - 1) (by rw [HLL.out]; omega)
            rw [← hxk, ← hvv] at this; simp; omega
          have hw2 : IntKind.i64.wrap (hi - x) = hi - x := Go.IntWalk.i64_in _ (by have := HHI.out; have := hh4.out; omega)
          have HE : Hid (hi - x = (H : Int) - L + 1) := Lib.hid (by have := HHI.out; omega)
          have HC : Hid (B = true) := Lib.hid (by rw [HB.out, Bool.and_eq_true, decide_eq_true_eq, decide_eq_true_eq]; exact ⟨hh4.out, by omega⟩)
          have HV := Lib.hid hvv.symm
          clear hvv hx hjl hxk hj hj2 hjL hj0
          go_wp2_with fail
          refine (cAt_c p n cap q HG.out HN.out x _ HA2.out).mono ?_
          rintro e w2 ⟨rfl, hb2⟩
          rw [HV.out]
          go_wp2
          go_ret2
          exact ⟨by rw [HI.out, HC.out, if_pos rfl, ← HE.out] <;> rfl, bt HW.out hb2⟩
      · have hL0 : ¬ 1 ≤ L := by omega
        have hdx : decide (-200 ≤ x) = false := by simp; omega
        have HC : Hid (B = false) := Lib.hid (by rw [HB.out]; simp; omega)
        clear hx hj0 hL0 hj hj2
        go_wp2
        go_ret2
        exact ⟨by rw [HI.out, HC.out] <;> rfl, HW.out⟩
  · have HE1 : Hid ((if plN q d ≤ 400 then (plN q d : Int) - 200 else 0) = 0 ∧ (if plN q d ≤ 400 then (0 : Int) else 6) = 6) := Lib.hid (by rw [HHH.out]; simp [h400])
    have HC : Hid (B = false) := Lib.hid (by rw [HB.out]; simp; omega)
    clear h400
    go_enter Try.func42, Try.ntmps42
    go_wp2_with fail
    refine (cExpFor_c p n cap q H16.out HVV.out HN.out hm d HDD.out _ HA.out).mono ?_
    rintro e w1 ⟨rfl, hb1⟩
    rw [HE1.out.1, HE1.out.2]
    go_wp2
    go_ret2
    exact ⟨by rw [HI.out, HC.out] <;> rfl, hb1⟩
set_option maxHeartbeats 1000000 in
theorem cScale_c (p : Option Addr) (n cap : Nat) (q : Cv) (hv : cvB q = true) (hn : n = q.length) (l d : Int) (hl : ydB l = true) (w : World) (hp : CvS w p q) :
    Calls Try.prog 44 #[.slice p n cap, .int .i64 l, .int .i64 d] w fun e w' => e = .returned (.tuple #[.int .i64 (sclN q l d), .int .i64 (if sclB q l d then 0 else 6)]) ∧ Below w.heap.size w w' := by
  have HN := Lib.hid hn
  have HA := Lib.hid hp
  have HG := Lib.hid (good_of hv)
  have hl2 := (ydB_iff l).1 hl
  have hle1 := plN_le q d
  have hle2 := plN_le q (l + 1)
  obtain ⟨H, hH⟩ : ∃ H, H = plN q d := ⟨_, rfl⟩
  obtain ⟨L, hL⟩ : ∃ L, L = plN q (l + 1) := ⟨_, rfl⟩
  obtain ⟨B, hB⟩ : ∃ B, B = sclB q l d := ⟨_, rfl⟩
  obtain ⟨N, hN⟩ : ∃ N, N = sclN q l d := ⟨_, rfl⟩
  rw [← hB, ← hN]
  obtain ⟨C, hC⟩ : ∃ C : Int, C = if B then 0 else 6 := ⟨_, rfl⟩
  rw [← hC]
  have HC := Lib.hid hC
  have HB : Hid (B = (decide (H ≤ 400) && decide (1 ≤ L))) := Lib.hid (by rw [hB, sclB, ← hH, ← hL])
  have HI : Hid (N = if B = true then (H : Int) - L + 1 else 0) := Lib.hid (by rw [hN, sclN, ← hB, sclI, ← hH, ← hL])
  rw [← hH] at hle1
  rw [← hL] at hle2
  have wl : IntKind.i64.wrap (l + 1) = l + 1 := Go.IntWalk.i64_in _ (by omega)
  obtain ⟨hi, hhi⟩ : ∃ x : Int, x = (H : Int) - 200 := ⟨_, rfl⟩
  obtain ⟨lo, hlo⟩ : ∃ x : Int, x = (L : Int) - 200 := ⟨_, rfl⟩
  have HH1 : Hid ((plN q d : Int) - 200 = hi) := Lib.hid (by rw [← hH, hhi])
  have HL1 : Hid ((plN q (l + 1) : Int) - 200 = lo) := Lib.hid (by rw [← hL, hlo])
  obtain ⟨lm, hlm⟩ : ∃ x : Int, x = lo - 1 := ⟨_, rfl⟩
  have wlo : IntKind.i64.wrap (lo - 1) = lm := by rw [Go.IntWalk.i64_in _ (by omega), hlm]
  have whi : IntKind.i64.wrap (hi - lm) = hi - lm := Go.IntWalk.i64_in _ (by omega)
  have HP1 : Hid (plcB lm = decide (1 ≤ L)) := Lib.hid (by rw [Bool.eq_iff_iff, plcB_iff]; simp; omega)
  have HP2 : Hid (plcB hi = decide (H ≤ 400)) := Lib.hid (by rw [Bool.eq_iff_iff, plcB_iff]; simp; omega)
  have HE : Hid (hi - lm = (H : Int) - L + 1) := Lib.hid (by omega)
  clear hn hp hv hH hL hB hN hC hl hl2 hhi hlo hle1 hle2 hlm
  cases h1 : decide (1 ≤ L) <;> cases h2 : decide (H ≤ 400)
  all_goals
    rw [h1] at HP1
    rw [h2] at HP2
    rw [h1, h2] at HB
    clear h1 h2
    go_enter Try.func44, Try.ntmps44
    go_wp2_with fail
    refine (cFirst_c p n cap q HG.out HN.out (l + 1) _ HA.out).mono ?_
    rintro e w1 ⟨rfl, hb1⟩
    rw [HL1.out]
    go_wp2_with fail
    refine (cFirst_c p n cap q HG.out HN.out d _ (CvS_below hb1 HA.out)).mono ?_
    rintro e w2 ⟨rfl, hb2⟩
    rw [HH1.out]
    have HB2 := Lib.hid (bt hb1 hb2)
    clear hb1 hb2
    go_wp2_with (first
      | (go_at_call_of 63 (Value.int .i64 lm); refine (cIsPlace_c _ _).mono ?_; rintro e w' ⟨rfl, rfl⟩; rw [HP1.out])
      | (go_at_call_of 63 (Value.int .i64 hi); refine (cIsPlace_c _ _).mono ?_; rintro e w' ⟨rfl, rfl⟩; rw [HP2.out]))
    go_ret2
    exact ⟨by rw [HI.out, HC.out, HB.out] <;> first | rfl | (simp [HE.out]), HB2.out⟩
end Go.Proofs.Ytcdndjimfmpifaa
