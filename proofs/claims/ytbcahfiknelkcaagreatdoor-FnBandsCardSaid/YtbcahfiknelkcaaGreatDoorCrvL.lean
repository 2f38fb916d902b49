/- Curves: the least light; the misfit. -/
import Derived.Test.YtbcahfiknelkcaaGreatDoorCrv
import Derived.Test.YtbcahfiknelkcaaGreatDoorCrvAt
namespace Go.Proofs.YtbcahfiknelkcaaGreatDoor
open Go.RowKit
theorem cHeld_c (d : Int) (h0 : 0 ≤ d) (h1 : d ≤ 400) (w : World) :
    Calls Tryz.prog 176 #[.int .i16 d] w fun e w' => e = .returned (.int .i64 ((d + 5) / 10)) ∧ w = w' := by
  have u1 := Go.IntWalk.i64_in d (by omega)
  have u2 := Go.IntWalk.i64_in (d + 5) (by omega)
  have t1 : (d + 5).tdiv 10 = (d + 5) / 10 := Int.tdiv_eq_ediv_of_nonneg (by omega)
  have u3 := Go.IntWalk.i64_in ((d + 5) / 10) (by omega)
  go_enter Tryz.func176, Tryz.ntmps176
  go_wp2
  go_ret
  exact ⟨rfl, rfl⟩
theorem cDark_c (p : Option Addr) (n cap : Nat) (q : Cv) (hg : Good q) (hn : n = q.length) (d x : Int) (h0 : 0 ≤ d) (h1 : d ≤ 400) (hx : -1000 ≤ x ∧ x ≤ 1000) (w : World) (hp : CvS w p q) :
    Calls Tryz.prog 134 #[.slice p n cap, .int .i64 d, .int .i64 x] w fun e w' => e = .returned (.int .i64 (darkV q x d)) ∧ Below w.heap.size w w' := by
  have HA := Lib.hid hp
  have HG := Lib.hid hg
  have HN := Lib.hid hn
  have HV : Hid (darkV q x d = atV q (x - (d + 5) / 10)) := Lib.hid rfl
  have u1 := Go.IntWalk.i16_in d (by omega)
  have u2 := Go.IntWalk.i64_in (x - (d + 5) / 10) (by omega)
  clear hp hg hn
  go_enter Tryz.func134, Tryz.ntmps134
  go_wp2_with (first
    | (go_at_call 176; refine (cHeld_c d h0 h1 _).mono ?_; rintro e w' ⟨rfl, rfl⟩)
    | (go_at_call 96; refine (cAt_c p n cap q HG.out HN.out (x - (d + 5) / 10) _ HA.out).mono ?_; rintro e w1 ⟨rfl, hb1⟩))
  go_ret
  exact ⟨ret_int HV.out.symm, hb1⟩
theorem cBehind_c (p : Option Addr) (n cap : Nat) (q : Cv) (hg : Good q) (hn : n = q.length) (d x : Int) (h0 : 0 ≤ d) (h1 : d ≤ 400) (hx : -1000 ≤ x ∧ x ≤ 1000) (w : World) (hp : CvS w p q) :
    Calls Tryz.prog 133 #[.slice p n cap, .int .i64 x, .int .i64 d] w fun e w' => e = .returned (.int .i64 (darkV q x d)) ∧ Below w.heap.size w w' := by
  have HA := Lib.hid hp
  have HG := Lib.hid hg
  have HN := Lib.hid hn
  have HV : Hid (darkV q x d = atV q (x - (d + 5) / 10)) := Lib.hid rfl
  have u0 := Go.IntWalk.i64_in (d + 5) (by omega)
  have t1 : (d + 5).tdiv 10 = (d + 5) / 10 := Int.tdiv_eq_ediv_of_nonneg (by omega)
  have u1 := Go.IntWalk.i64_in ((d + 5) / 10) (by omega)
  have u2 := Go.IntWalk.i64_in (x - (d + 5) / 10) (by omega)
  clear hp hg hn
  go_enter Tryz.func133, Tryz.ntmps133
  go_wp2_with (go_at_call 148; refine (cImplAt_c p n cap q HG.out HN.out (x - (d + 5) / 10) _ HA.out).mono ?_; rintro e w1 ⟨rfl, hb1⟩)
  go_ret
  exact ⟨ret_int HV.out.symm, hb1⟩
def lstS (q : Cv) (d t : Int) : Int := if lstV q d t ≤ 36 then (lstV q d t : Int) else -1
set_option maxHeartbeats 400000 in
theorem cLeast_c (p : Option Addr) (n cap : Nat) (q : Cv) (hg : Good q) (hn : n = q.length) (d t : Int) (h0 : 0 ≤ d) (h1 : d ≤ 400) (w : World) (hp : CvS w p q) :
    Calls Tryz.prog 79 #[.slice p n cap, .int .i64 d, .int .i64 t] w fun e w' => e = .returned (.int .i64 (lstS q d t)) ∧ Below w.heap.size w w' := by
  have HA := Lib.hid hp
  have HG := Lib.hid hg
  have HN := Lib.hid hn
  clear hp hg hn
  go_enter Tryz.func79, Tryz.ntmps79
  go_wp2_with fail
  go_loopw [7] (fun i wr => ∃ k : Nat, k ≤ 37 ∧ i = .int .i64 k ∧ firstN (fun k => decide (t ≤ darkV q k d)) k = k ∧ Below w.heap.size w wr) (fun i _ => 37 - (intOf i).toNat)
  case atStart => exact ⟨0, by omega, rfl, rfl, Below.refl _ _⟩
  case round =>
    obtain ⟨k, hk, rfl, hf, hW⟩ := hrel
    have HW := Lib.hid hW
    have HF := Lib.hid hf
    have HA2 := Lib.hid (CvS_below hW HA.out)
    clear hW hf
    by_cases hlt : k ≤ 36
    · have hki : (k : Int) ≤ 36 := by omega
      go_wp2_with fail
      refine (cDark_c p n cap q HG.out HN.out d k h0 h1 (by omega) _ HA2.out).mono ?_
      rintro e w1 ⟨rfl, hb1⟩
      obtain ⟨v, hv⟩ : ∃ v, v = darkV q k d := ⟨_, rfl⟩
      rw [← hv]
      by_cases hle : t ≤ v
      · have HV : Hid (lstS q d t = (k : Int)) := Lib.hid (by
          have : lstV q d t = k := firstN_at HF.out (by simp [← hv, hle]) (by omega)
          simp [lstS, this, hlt])
        clear hv
        go_wp2
        go_ret
        exact ⟨ret_int HV.out.symm, bt HW.out hb1⟩
      · have HS : Hid (firstN (fun k => decide (t ≤ darkV q k d)) (k + 1) = k + 1) := Lib.hid (firstN_step HF.out (by simp [← hv]; omega))
        clear hv
        go_wp2
        go_roundw
        case rel => exact ⟨k + 1, by omega, by go_num, HS.out, bt HW.out hb1⟩
        case measure => simp [intOf]; omega
    · have hki : ¬ (k : Int) ≤ 36 := by omega
      have hk37 : k = 37 := by omega
      have HV : Hid (lstS q d t = -1) := Lib.hid (by
        have : lstV q d t = 37 := by unfold lstV; rw [← hk37]; exact HF.out
        simp [lstS, this])
      go_wp2
      go_ret
      exact ⟨ret_int HV.out.symm, HW.out⟩
set_option maxHeartbeats 400000 in
theorem cLeastLight_c (p : Option Addr) (n cap : Nat) (q : Cv) (hg : Good q) (hn : n = q.length) (d t : Int) (h0 : 0 ≤ d) (h1 : d ≤ 400) (w : World) (hp : CvS w p q) :
    Calls Tryz.prog 76 #[.slice p n cap, .int .i64 d, .int .i64 t] w fun e w' => e = .returned (.int .i64 (lstV q d t : Nat)) ∧ Below w.heap.size w w' := by
  have HA := Lib.hid hp
  have HG := Lib.hid hg
  have HN := Lib.hid hn
  obtain ⟨L, hL⟩ : ∃ L, L = lstV q d t := ⟨_, rfl⟩
  rw [← hL]
  have HLL := Lib.hid hL
  clear hp hg hn hL
  go_enter Tryz.func76, Tryz.ntmps76
  go_wp2_with fail
  go_loopw [7] (fun i wr => ∃ k : Nat, k ≤ 37 ∧ i = .int .i64 k ∧ firstN (fun k => decide (t ≤ darkV q k d)) k = k ∧ Below w.heap.size w wr) (fun i _ => 37 - (intOf i).toNat)
  case atStart => exact ⟨0, by omega, rfl, rfl, Below.refl _ _⟩
  case round =>
    obtain ⟨k, hk, rfl, hf, hW⟩ := hrel
    have HW := Lib.hid hW
    have HF := Lib.hid hf
    have HA2 := Lib.hid (CvS_below hW HA.out)
    clear hW hf
    by_cases hlt : k ≤ 36
    · have HT : Hid (thB (k : Int) = true) := Lib.hid (by simp [thB]; omega)
      go_wp2_with fail
      refine (cAreThirds_c k _).mono ?_
      rintro e w' ⟨rfl, rfl⟩
      rw [HT.out]
      go_wp2_with fail
      refine (cBehind_c p n cap q HG.out HN.out d k h0 h1 (by omega) _ HA2.out).mono ?_
      rintro e w1 ⟨rfl, hb1⟩
      obtain ⟨v, hv⟩ : ∃ v, v = darkV q k d := ⟨_, rfl⟩
      rw [← hv]
      by_cases hle : v < t
      · have HS : Hid (firstN (fun k => decide (t ≤ darkV q k d)) (k + 1) = k + 1) := Lib.hid (firstN_step HF.out (by simp [← hv]; omega))
        clear hv
        go_wp2
        go_roundw
        case rel => exact ⟨k + 1, by omega, by go_num, HS.out, bt HW.out hb1⟩
        case measure => simp [intOf]; omega
      · have HV : Hid (L = k) := Lib.hid (by rw [HLL.out]; exact firstN_at HF.out (by simp [← hv]; omega) (by omega))
        clear hv
        go_wp2
        go_ret
        exact ⟨ret_int (by rw [HV.out]), bt HW.out hb1⟩
    · have HT : Hid (thB (k : Int) = false) := Lib.hid (by simp [thB]; omega)
      have hk37 : k = 37 := by omega
      have HV : Hid (L = k) := Lib.hid (by rw [HLL.out]; unfold lstV; rw [← hk37]; exact HF.out)
      have KK := Lib.hid hk
      clear hk37 hk hlt
      go_wp2_with fail
      refine (cAreThirds_c k _).mono ?_
      rintro e w' ⟨rfl, rfl⟩
      rw [HT.out]
      go_wp2
      go_ret
      exact ⟨ret_int (by rw [HV.out]), HW.out⟩
def cdV (q : Cv) (f : Bool) : Int := if cvB q then (if f then 0 else 2) else 1
theorem cCode_c (p : Option Addr) (n cap : Nat) (q : Cv) (h16 : C16 q) (hn : n = q.length) (hm : n ≤ 1048576) (f : Bool) (w : World) (hp : CvS w p q) :
    Calls Tryz.prog 74 #[.slice p n cap, .bool f] w fun e w' => e = .returned (.int .i64 (cdV q f)) ∧ Below w.heap.size w w' := by
  have HN := Lib.hid hn
  have H16 := Lib.hid h16
  have HA := Lib.hid hp
  clear hn h16 hp
  cases hc : cvB q <;> cases f
  all_goals
    have HC := Lib.hid hc
    clear hc
    go_enter Tryz.func74, Tryz.ntmps74
    go_wp2_with (go_at_call 98; refine (cValid_c p n cap q H16.out HN.out hm _ HA.out).mono ?_; rintro e w1 ⟨rfl, hb1⟩; rw [HC.out])
    go_ret
    exact ⟨ret_int (by simp [cdV, HC.out]), hb1⟩
end Go.Proofs.YtbcahfiknelkcaaGreatDoor
