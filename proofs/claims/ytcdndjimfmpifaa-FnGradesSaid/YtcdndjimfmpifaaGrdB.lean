/- Grades of paper: lists of curves; the best grade. -/
import Derived.Test.YtcdndjimfmpifaaGrd
namespace Go.Proofs.Ytcdndjimfmpifaa
open Go.RowKit
/-- Where a list of curves lies. -/
def GrS (w : World) (p : Option Addr) (cs : List Cv) : Prop := cs ≠ [] → ∃ b o, p = some ⟨b, o, none⟩ ∧ b < w.heap.size ∧ ∀ i, i < cs.length → ∃ r m cap, w.cell? ⟨b, o + i, none⟩ = some (.slice r m cap) ∧ m = (cs.getD i []).length ∧ m ≤ 1048576 ∧ CvS w r (cs.getD i [])
def G16 (cs : List Cv) : Prop := ∀ i, C16 (cs.getD i [])
theorem GrS_below {w w1 : World} {p : Option Addr} {cs : List Cv} (hb : Below w.heap.size w w1) (h : GrS w p cs) : GrS w1 p cs := fun hl => by
  obtain ⟨b, o, h1, h2, h3⟩ := h hl
  refine ⟨b, o, h1, Nat.lt_of_lt_of_le h2 hb.size, fun i hi => ?_⟩
  obtain ⟨r, m, cap, h4, h5, h6, h7⟩ := h3 i hi
  exact ⟨r, m, cap, by rw [hb.cell (p := ⟨b, o + i, none⟩) h2]; exact h4, h5, h6, CvS_below hb h7⟩
theorem gne_of_lt {cs : List Cv} {k : Nat} (h : k < cs.length) : cs ≠ [] := by rintro rfl; simp at h
def gOk (cs : List Cv) : Bool := cs.all cvB
theorem gOk_take (cs : List Cv) (k : Nat) (h : k < cs.length) : gOk (cs.take (k + 1)) = (gOk (cs.take k) && cvB (cs.getD k [])) := by
  unfold gOk
  rw [List.take_succ_eq_append_getElem h, List.all_append]
  simp [List.getD_eq_getElem?_getD, h]
theorem gOk_bad (cs : List Cv) (k : Nat) (h : k < cs.length) (hb : cvB (cs.getD k []) = false) : gOk cs = false := by
  unfold gOk
  rw [List.all_eq_false]
  refine ⟨cs[k], List.getElem_mem h, ?_⟩
  rw [List.getD_eq_getElem?_getD, List.getElem?_eq_getElem h] at hb
  simpa using hb
theorem gOk_get {cs : List Cv} (h : gOk cs = true) {k : Nat} (hk : k < cs.length) : cvB (cs.getD k []) = true := by
  unfold gOk at h
  rw [List.all_eq_true] at h
  rw [List.getD_eq_getElem?_getD, List.getElem?_eq_getElem hk]
  exact h _ (List.getElem_mem hk)
theorem gOk_full {cs : List Cv} {n : Nat} (hn : n = cs.length) (h : gOk (cs.take n) = true) : gOk cs = true := by
  rw [hn, List.take_length] at h; exact h
def gcV (cs : List Cv) (f : Bool) : Int := if gOk cs then (if (decide (1 ≤ cs.length) && decide (cs.length ≤ 6)) && f then 0 else 2) else 1
set_option maxHeartbeats 400000 in
theorem gGrades_c (p : Option Addr) (n cap : Nat) (cs : List Cv) (h16 : G16 cs) (hn : n = cs.length) (hm : n ≤ 1048576) (f : Bool) (w : World) (hp : GrS w p cs) :
    Calls Try.prog 33 #[.slice p n cap, .bool f] w fun e w' => e = .returned (.int .i64 (gcV cs f)) ∧ Below w.heap.size w w' := by
  have HN := Lib.hid hn
  have H16 := Lib.hid h16
  have HA := Lib.hid hp
  obtain ⟨C, hC⟩ : ∃ C, C = gcV cs f := ⟨_, rfl⟩
  rw [← hC]
  have HC := Lib.hid hC
  clear hn h16 hp hC
  go_enter Try.func33, Try.ntmps33
  go_wp2_with fail
  go_loopw [5] (fun i wr => ∃ k : Nat, k ≤ n ∧ i = .int .i64 k ∧ gOk (cs.take k) = true ∧ Below w.heap.size w wr) (fun i _ => n - (intOf i).toNat)
  case atStart => exact ⟨0, Nat.zero_le _, rfl, rfl, Below.refl _ _⟩
  case round =>
    obtain ⟨k, hk, rfl, hg, hW⟩ := hrel
    have HW := Lib.hid hW
    have HG := Lib.hid hg
    clear hW hg
    by_cases hlt : k < n
    · have hki : (k : Int) < n := by omega
      have hkl : k < cs.length := by rw [← HN.out]; exact hlt
      obtain ⟨b, o, rfl, hb, hc⟩ := GrS_below HW.out HA.out (gne_of_lt hkl)
      obtain ⟨r, m, cap2, hcell, hmn, hmm, hcv⟩ := hc k hkl
      have HM := Lib.hid hmn
      have HCV := Lib.hid hcv
      clear hc hmn hcv
      cases hv : cvB (cs.getD k [])
      · have HV := Lib.hid hv
        have HB : Hid (C = 1) := Lib.hid (by rw [HC.out]; simp [gcV, gOk_bad cs k hkl hv])
        clear hv hkl
        go_wp2_with fail
        refine (cOk_c r m cap2 _ (H16.out k) HM.out hmm _ HCV.out).mono ?_
        rintro e w1 ⟨rfl, hb1⟩
        rw [HV.out]
        go_wp2
        go_ret
        exact ⟨ret_int HB.out.symm, bt HW.out hb1⟩
      · have HV := Lib.hid hv
        have HT : Hid (gOk (cs.take (k + 1)) = true) := Lib.hid (by rw [gOk_take cs k hkl, HG.out, hv]; rfl)
        clear hv hkl
        go_wp2_with fail
        refine (cOk_c r m cap2 _ (H16.out k) HM.out hmm _ HCV.out).mono ?_
        rintro e w1 ⟨rfl, hb1⟩
        rw [HV.out]
        go_wp2
        go_roundw
        case rel => exact ⟨k + 1, by omega, by go_num, HT.out, bt HW.out hb1⟩
        case measure => simp [intOf]; omega
    · have hki : ¬ (k : Int) < n := by omega
      have hkn : n = k := by omega
      have HO := Lib.hid (gOk_full HN.out (by rw [hkn]; exact HG.out))
      have HV : Hid (C = if (decide (1 ≤ n) && decide (n ≤ 6)) && f then 0 else 2) := Lib.hid (by rw [HC.out, gcV, if_pos HO.out, HN.out])
      clear hkn
      by_cases h16 : 1 ≤ n ∧ n ≤ 6
      · have HD : Hid ((decide ((1 : Int) ≤ (n : Int)) && decide ((n : Int) ≤ 6)) = true) := Lib.hid (by simp; omega)
        have HD2 : Hid ((decide (1 ≤ n) && decide (n ≤ 6)) = true) := Lib.hid (by simp; omega)
        clear h16
        cases f
        all_goals
          go_wp2_with (go_at_call 66; refine (cIn_c _ _ _ _).mono ?_; rintro e w' ⟨rfl, rfl⟩; rw [HD.out])
          go_ret
          exact ⟨ret_int (by rw [HV.out, HD2.out] <;> rfl), HW.out⟩
      · have HD : Hid ((decide ((1 : Int) ≤ (n : Int)) && decide ((n : Int) ≤ 6)) = false) := Lib.hid (by simp; omega)
        have HD2 : Hid ((decide (1 ≤ n) && decide (n ≤ 6)) = false) := Lib.hid (by simp; omega)
        clear h16
        go_wp2_with (go_at_call 66; refine (cIn_c _ _ _ _).mono ?_; rintro e w' ⟨rfl, rfl⟩; rw [HD.out])
        go_ret
        exact ⟨ret_int (by rw [HV.out, HD2.out] <;> rfl), HW.out⟩
theorem gFn_c (p : Option Addr) (n cap : Nat) (q : Cv) (h16 : C16 q) (hn : n = q.length) (hm : n ≤ 1048576) (w : World) (hp : CvS w p q) :
    Calls Try.prog 69 #[.slice p n cap] w fun e w' => e = .returned (.bool (!cvB q)) ∧ Below w.heap.size w w' := by
  have HN := Lib.hid hn
  have H16 := Lib.hid h16
  have HA := Lib.hid hp
  clear hn h16 hp
  go_enter Try.func69, Try.ntmps69
  go_wp2_with (go_at_call 70; refine (cValid_c p n cap q H16.out HN.out hm _ HA.out).mono ?_; rintro e w1 ⟨rfl, hb1⟩)
  go_ret
  exact ⟨ret_bool (by simp), hb1⟩
def gAt (b : Bool) (e : Ending) : Prop := ∃ v : Int, e = .returned (.int .i64 v) ∧ decide (0 ≤ v) = !b
set_option maxHeartbeats 400000 in
theorem gIndexFunc_c (p : Option Addr) (n cap : Nat) (cs : List Cv) (h16 : G16 cs) (hn : n = cs.length) (hm : n ≤ 1048576) (w : World) (hp : GrS w p cs) :
    Calls Try.prog 80 #[.slice p n cap, .func (.func 69) #[] #[]] w fun e w' => gAt (gOk cs) e ∧ Below w.heap.size w w' := by
  have HN := Lib.hid hn
  have H16 := Lib.hid h16
  have HA := Lib.hid hp
  clear hn h16 hp
  go_enter Try.func80, Try.ntmps80
  go_wp2_with fail
  go_loopw [8] (fun i wr => ∃ k : Nat, k ≤ n ∧ i = .int .i64 k ∧ gOk (cs.take k) = true ∧ Below w.heap.size w wr) (fun i _ => n - (intOf i).toNat)
  case atStart => exact ⟨0, Nat.zero_le _, rfl, rfl, Below.refl _ _⟩
  case round =>
    obtain ⟨k, hk, rfl, hg, hW⟩ := hrel
    have HW := Lib.hid hW
    have HG := Lib.hid hg
    clear hW hg
    by_cases hlt : k < n
    · have hki : (k : Int) < n := by omega
      have hkl : k < cs.length := by rw [← HN.out]; exact hlt
      obtain ⟨b, o, rfl, hb, hc⟩ := GrS_below HW.out HA.out (gne_of_lt hkl)
      obtain ⟨r, m, cap2, hcell, hmn, hmm, hcv⟩ := hc k hkl
      have HM := Lib.hid hmn
      have HCV := Lib.hid hcv
      clear hc hmn hcv
      cases hv : cvB (cs.getD k [])
      · have HV := Lib.hid hv
        have HB : Hid (gOk cs = false) := Lib.hid (gOk_bad cs k hkl hv)
        clear hv hkl
        go_wp2_with fail
        refine (gFn_c r m cap2 _ (H16.out k) HM.out hmm _ HCV.out).mono ?_
        rintro e w1 ⟨rfl, hb1⟩
        rw [HV.out]
        go_wp2
        go_ret
        exact ⟨⟨k, rfl, by rw [HB.out]; simp⟩, bt HW.out hb1⟩
      · have HV := Lib.hid hv
        have HT : Hid (gOk (cs.take (k + 1)) = true) := Lib.hid (by rw [gOk_take cs k hkl, HG.out, hv]; rfl)
        clear hv hkl
        go_wp2_with fail
        refine (gFn_c r m cap2 _ (H16.out k) HM.out hmm _ HCV.out).mono ?_
        rintro e w1 ⟨rfl, hb1⟩
        rw [HV.out]
        go_wp2
        go_roundw
        case rel => exact ⟨k + 1, by omega, by go_num, HT.out, bt HW.out hb1⟩
        case measure => simp [intOf]; omega
    · have hki : ¬ (k : Int) < n := by omega
      have hkn : n = k := by omega
      have HO := Lib.hid (gOk_full HN.out (by rw [hkn]; exact HG.out))
      clear hkn
      go_wp2
      go_ret
      exact ⟨⟨-1, rfl, by rw [HO.out]; rfl⟩, HW.out⟩
theorem gContains_c (p : Option Addr) (n cap : Nat) (cs : List Cv) (h16 : G16 cs) (hn : n = cs.length) (hm : n ≤ 1048576) (w : World) (hp : GrS w p cs) :
    Calls Try.prog 68 #[.slice p n cap, .func (.func 69) #[] #[]] w fun e w' => e = .returned (.bool (!gOk cs)) ∧ Below w.heap.size w w' := by
  have HN := Lib.hid hn
  have H16 := Lib.hid h16
  have HA := Lib.hid hp
  clear hn h16 hp
  go_enter Try.func68, Try.ntmps68
  go_wp2_with fail
  refine (gIndexFunc_c p n cap cs H16.out HN.out hm _ HA.out).mono ?_
  rintro e w1 ⟨⟨v, rfl, hv⟩, hb1⟩
  have HV := Lib.hid hv
  clear hv
  go_wp2
  go_ret
  exact ⟨ret_bool HV.out, hb1⟩
theorem gLength_c (p : Option Addr) (n c : Nat) (w : World) (hn : n ≤ 1048576) :
    Calls Try.prog 72 #[.slice p n c] w fun e w' => e = .returned (.int .i64 n) ∧ w = w' := by
  have h := Go.IntWalk.i64_in (n : Int) (by omega)
  go_enter Try.func72, Try.ntmps72
  go_wp2
  go_ret
  exact ⟨rfl, rfl⟩
set_option maxHeartbeats 400000 in
theorem gCode_c (p : Option Addr) (n cap : Nat) (cs : List Cv) (h16 : G16 cs) (hn : n = cs.length) (hm : n ≤ 1048576) (f : Bool) (w : World) (hp : GrS w p cs) :
    Calls Try.prog 37 #[.slice p n cap, .bool f] w fun e w' => e = .returned (.int .i64 (gcV cs f)) ∧ Below w.heap.size w w' := by
  have HN := Lib.hid hn
  have H16 := Lib.hid h16
  have HA := Lib.hid hp
  obtain ⟨C, hC⟩ : ∃ C, C = gcV cs f := ⟨_, rfl⟩
  rw [← hC]
  have HC := Lib.hid hC
  clear hn h16 hp hC
  cases hg : gOk cs
  · have HV : Hid (C = 1) := Lib.hid (by rw [HC.out]; simp [gcV, hg])
    have HG := Lib.hid hg
    clear hg
    go_enter Try.func37, Try.ntmps37
    go_wp2_with (go_at_call 68; refine (gContains_c p n cap cs H16.out HN.out hm _ HA.out).mono ?_; rintro e w1 ⟨rfl, hb1⟩; rw [HG.out])
    go_ret
    exact ⟨ret_int HV.out.symm, hb1⟩
  · have HV : Hid (C = if (decide (1 ≤ n) && decide (n ≤ 6)) && f then 0 else 2) := Lib.hid (by rw [HC.out, gcV, if_pos hg, HN.out])
    have HG := Lib.hid hg
    clear hg
    by_cases h16 : 1 ≤ n ∧ n ≤ 6
    · have HD : Hid ((decide ((1 : Int) ≤ (n : Int)) && decide ((n : Int) ≤ 6)) = true) := Lib.hid (by simp; omega)
      have HD2 : Hid ((decide (1 ≤ n) && decide (n ≤ 6)) = true) := Lib.hid (by simp; omega)
      clear h16
      cases f
      all_goals
        go_enter Try.func37, Try.ntmps37
        go_wp2_with (first
          | (go_at_call 68; refine (gContains_c p n cap cs H16.out HN.out hm _ HA.out).mono ?_; rintro e w1 ⟨rfl, hb1⟩; rw [HG.out])
          | (go_at_call 72; refine (gLength_c _ _ _ _ hm).mono ?_; rintro e w' ⟨rfl, rfl⟩)
          | (go_at_call 71; refine (cWithin_c _ _ _ _).mono ?_; rintro e w' ⟨rfl, rfl⟩; rw [HD.out]))
        go_ret
        exact ⟨ret_int (by rw [HV.out, HD2.out] <;> rfl), hb1⟩
    · have HD : Hid ((decide ((1 : Int) ≤ (n : Int)) && decide ((n : Int) ≤ 6)) = false) := Lib.hid (by simp; omega)
      have HD2 : Hid ((decide (1 ≤ n) && decide (n ≤ 6)) = false) := Lib.hid (by simp; omega)
      clear h16
      go_enter Try.func37, Try.ntmps37
      go_wp2_with (first
        | (go_at_call 68; refine (gContains_c p n cap cs H16.out HN.out hm _ HA.out).mono ?_; rintro e w1 ⟨rfl, hb1⟩; rw [HG.out])
        | (go_at_call 72; refine (gLength_c _ _ _ _ hm).mono ?_; rintro e w' ⟨rfl, rfl⟩)
        | (go_at_call 71; refine (cWithin_c _ _ _ _).mono ?_; rintro e w' ⟨rfl, rfl⟩; rw [HD.out]))
      go_ret
      exact ⟨ret_int (by rw [HV.out, HD2.out] <;> rfl), hb1⟩
end Go.Proofs.Ytcdndjimfmpifaa
