/- FnBands: the nearest band, the first band, a finer strip, light by strips. -/
import Derived.Test.YtbcahfiknelkcaaGreatDoorBandN
import Derived.BigQuiet
namespace Go.Proofs.YtbcahfiknelkcaaGreatDoor
open Go.RowKit
set_option maxRecDepth 100000
/-- Densities of bands that are read. -/
structure Bnd (xs : List Int) (n : Nat) (t : Int) : Prop where
  len : n = xs.length
  n1 : 1 ≤ n
  n20 : n ≤ 20
  all : allD xs
  t0 : 0 ≤ t
  t1 : t ≤ 400
theorem Bnd.get {xs : List Int} {n : Nat} {t : Int} (h : Bnd xs n t) {k : Nat} (hk : k < n) : 0 ≤ xs.getD k 0 ∧ xs.getD k 0 ≤ 400 := h.all k (by rw [← h.len]; exact hk)
theorem Bnd.cells {xs : List Int} {n : Nat} {t : Int} (h : Bnd xs n t) {w : World} {B : Nat} {p : Option Addr} (hp : PB_i64 w B p xs) : ∃ b o, p = some ⟨b, o, none⟩ ∧ ∀ k, k < n → w.cell? ⟨b, o + k, none⟩ = some (.int .i64 (xs.getD k 0)) := by
  obtain ⟨b, o, h1, _, h3⟩ := hp (neL_of_lt_i64 (k := 0) (by have := h.len; have := h.n1; omega))
  exact ⟨b, o, h1, fun k hk => h3 k (by rw [← h.len]; exact hk)⟩
theorem areFn_c (x : Int) (h0 : 0 ≤ x) (h1 : x ≤ 400) (w : World) : Calls Tryz.prog 137 #[.int .i64 x] w fun e w' => e = .returned (.bool false) ∧ w = w' := by
  have HY : Hid (ydB x = true) := Lib.hid ((ydB_iff x).2 ⟨h0, h1⟩)
  go_enter Tryz.func137, Tryz.ntmps137
  go_wp2_with fail
  refine (cIsDensity_c x _).mono ?_
  rw [HY.out]
  rintro e w' ⟨rfl, rfl⟩
  go_wp2
  go_ret
  exact ⟨rfl, rfl⟩
theorem indexAll_c (xs : List Int) (n c : Nat) (t : Int) (h : Bnd xs n t) (p : Option Addr) (w : World) (B : Nat) (hp : PB_i64 w B p xs) :
    Calls Tryz.prog 72 #[.slice p n c, .func (.func 137) #[] #[]] w fun e w' => e = .returned (.int .i64 (-1)) ∧ w = w' := by
  obtain ⟨b, o, rfl, hcl⟩ := h.cells hp
  have HB := Lib.hid h
  have HC := Lib.hid hcl
  have hn20 := h.n20
  clear h hcl hp
  go_enter Tryz.func72, Tryz.ntmps72
  go_wp2
  go_loop [5, 8] (fun _ i => ∃ k : Nat, k ≤ n ∧ i = .int .i64 k) (fun _ i => n - (intOf i).toNat)
  case atStart => exact ⟨0, by omega, rfl⟩
  case round =>
    obtain ⟨k, hk, rfl⟩ := hrel
    by_cases hlt : k < n
    · have hkn : (k : Int) < n := by omega
      have hc := HC.out k hlt
      obtain ⟨x0, x1⟩ := HB.out.get hlt
      generalize xs.getD k 0 = x at *
      go_wp2_with fail
      refine (areFn_c x x0 x1 _).mono ?_
      rintro e w' ⟨rfl, rfl⟩
      go_wp2
      go_round
      case rel => exact ⟨k + 1, by omega, by go_num⟩
      case measure => simp [intOf]; omega
    · have hkn : ¬ (k : Int) < n := by omega
      go_wp2
      go_ret
      exact ⟨rfl, rfl⟩
theorem containsAll_c (xs : List Int) (n c : Nat) (t : Int) (h : Bnd xs n t) (p : Option Addr) (w : World) (B : Nat) (hp : PB_i64 w B p xs) :
    Calls Tryz.prog 136 #[.slice p n c, .func (.func 137) #[] #[]] w fun e w' => e = .returned (.bool false) ∧ w = w' := by
  have HB := Lib.hid h
  have HP := Lib.hid hp
  clear h hp
  go_enter Tryz.func136, Tryz.ntmps136
  go_wp2_with fail
  refine (indexAll_c xs n c t HB.out p _ B HP.out).mono ?_
  rintro e w' ⟨rfl, rfl⟩
  go_wp2
  go_ret
  exact ⟨rfl, rfl⟩
theorem lenI64_c (p : Option Addr) (n c : Nat) (_hn : n ≤ 1048576) (w : World) : Calls Tryz.prog 135 #[.slice p n c] w fun e w' => e = .returned (.int .i64 n) ∧ w = w' := by
  go_enter Tryz.func135, Tryz.ntmps135
  go_wp2
  go_ret
  exact ⟨rfl, rfl⟩
theorem areBands_c (xs : List Int) (n c : Nat) (t : Int) (h : Bnd xs n t) (p : Option Addr) (w : World) (B : Nat) (hp : PB_i64 w B p xs) :
    Calls Tryz.prog 68 #[.slice p n c, .int .i64 t] w fun e w' => e = .returned (.bool true) ∧ w = w' := by
  have HB := Lib.hid h
  have HP := Lib.hid hp
  have HY : Hid (ydB t = true) := Lib.hid ((ydB_iff t).2 ⟨h.t0, h.t1⟩)
  have HW : Hid (∀ w : World, Calls Tryz.prog 65 #[.int .i64 n, .int .i64 1, .int .i64 20] w fun e w' => e = .returned (.bool true) ∧ w = w') := Lib.hid (fun w => by
    have h1 := h.n1
    have h2 := h.n20
    have := cWithin_c n 1 20 w
    rwa [show (decide ((1 : Int) ≤ n) && decide ((n : Int) ≤ 20)) = true by simp; omega] at this)
  have hn := h.n20
  clear h hp
  go_enter Tryz.func68, Tryz.ntmps68
  go_wp2_with fail
  refine (lenI64_c p n c (by omega) _).mono ?_
  rintro e w' ⟨rfl, rfl⟩
  go_wp2_with fail
  refine (HW.out _).mono ?_
  rintro e w' ⟨rfl, rfl⟩
  go_wp2_with fail
  refine (cIsDensity_c t _).mono ?_
  rw [HY.out]
  rintro e w' ⟨rfl, rfl⟩
  go_wp2_with fail
  refine (containsAll_c xs n c t HB.out p _ B HP.out).mono ?_
  rintro e w' ⟨rfl, rfl⟩
  go_wp2
  go_ret
  exact ⟨rfl, rfl⟩
theorem bandsRead_c (xs : List Int) (n c : Nat) (t : Int) (h : Bnd xs n t) (p : Option Addr) (w : World) (B : Nat) (hp : PB_i64 w B p xs) :
    Calls Tryz.prog 70 #[.slice p n c, .int .i64 t] w fun e w' => e = .returned (.bool true) ∧ w = w' := by
  obtain ⟨b, o, rfl, hcl⟩ := h.cells hp
  have HB := Lib.hid h
  have HC := Lib.hid hcl
  have HY : Hid (ydB t = true) := Lib.hid ((ydB_iff t).2 ⟨h.t0, h.t1⟩)
  have HW : Hid (∀ w : World, Calls Tryz.prog 80 #[.int .i64 n, .int .i64 1, .int .i64 20] w fun e w' => e = .returned (.bool true) ∧ w = w') := Lib.hid (fun w => by
    have h1 := h.n1
    have h2 := h.n20
    have := cIn_c n 1 20 w
    rwa [show (decide ((1 : Int) ≤ n) && decide ((n : Int) ≤ 20)) = true by simp; omega] at this)
  have hn20 := h.n20
  clear h hcl hp
  go_enter Tryz.func70, Tryz.ntmps70
  go_wp2
  go_loop [5] (fun i => ∃ k : Nat, k ≤ n ∧ i = .int .i64 k) (fun i => n - (intOf i).toNat)
  case atStart => exact ⟨0, by omega, rfl⟩
  case round =>
    obtain ⟨k, hk, rfl⟩ := hrel
    by_cases hlt : k < n
    · have hkn : (k : Int) < n := by omega
      have hc := HC.out k hlt
      have HX : Hid (ydB (xs.getD k 0) = true) := Lib.hid ((ydB_iff _).2 (HB.out.get hlt))
      generalize xs.getD k 0 = x at *
      go_wp2_with fail
      refine (cDensity_c x _).mono ?_
      rw [HX.out]
      rintro e w' ⟨rfl, rfl⟩
      go_wp2
      go_round
      case rel => exact ⟨k + 1, by omega, by go_num⟩
      case measure => simp [intOf]; omega
    · have hkn : ¬ (k : Int) < n := by omega
      go_wp2_with fail
      refine (HW.out _).mono ?_
      rintro e w' ⟨rfl, rfl⟩
      go_wp2_with fail
      refine (cDensity_c t _).mono ?_
      rw [HY.out]
      rintro e w' ⟨rfl, rfl⟩
      go_wp2
      go_ret
      exact ⟨rfl, rfl⟩
/-! The first band. -/
theorem firstFn_c (x t : Int) (g : Nat) (w : World) (hg : w.cell? ⟨g, 0, none⟩ = some (.int .i64 t)) : Calls Tryz.prog 73 #[.int .i64 x, .pointer (some ⟨g, 0, none⟩)] w fun e w' => e = .returned (.bool (decide (t ≤ x))) ∧ w = w' := by
  go_enter Tryz.func73, Tryz.ntmps73
  go_wp2
  go_ret
  exact ⟨rfl, rfl⟩
def idxV (xs : List Int) (t : Int) : Int := if fstN xs t < xs.length then (fstN xs t : Int) else -1
theorem idx_at {xs : List Int} {t : Int} {k : Nat} (h : firstN (fun i => decide (t ≤ xs.getD i 0)) k = k) (hp : t ≤ xs.getD k 0) (hk : k < xs.length) : fstN xs t = k := firstN_at h (by simpa using hp) (by omega)
theorem indexFirst_c (xs : List Int) (n c : Nat) (t : Int) (h : Bnd xs n t) (p : Option Addr) (g : Nat) (w : World) (B : Nat) (hp : PB_i64 w B p xs) (hg : w.cell? ⟨g, 0, none⟩ = some (.int .i64 t)) :
    Calls Tryz.prog 72 #[.slice p n c, .func (.func 73) #[] #[.pointer (some ⟨g, 0, none⟩)]] w fun e w' => e = .returned (.int .i64 (idxV xs t)) ∧ w = w' := by
  obtain ⟨b, o, rfl, hcl⟩ := h.cells hp
  have HB := Lib.hid h
  have HC := Lib.hid hcl
  have HG := Lib.hid hg
  have HL := Lib.hid h.len
  have hn20 := h.n20
  obtain ⟨V, hV⟩ : ∃ V, V = idxV xs t := ⟨_, rfl⟩
  have HV := Lib.hid hV
  rw [← hV]
  clear h hcl hp hg hV
  go_enter Tryz.func72, Tryz.ntmps72
  go_wp2
  go_loop [5, 8] (fun _ i => ∃ k : Nat, k ≤ n ∧ i = .int .i64 k ∧ firstN (fun i => decide (t ≤ xs.getD i 0)) k = k) (fun _ i => n - (intOf i).toNat)
  case atStart => exact ⟨0, by omega, rfl, rfl⟩
  case round =>
    obtain ⟨k, hk, rfl, hf⟩ := hrel
    have HF := Lib.hid hf
    clear hf
    by_cases hlt : k < n
    · have hkn : (k : Int) < n := by omega
      have hc := HC.out k hlt
      have HS := Lib.hid (fun hp => firstN_step HF.out (p := fun i => decide (t ≤ xs.getD i 0)) (k := k) hp)
      have HE := Lib.hid (fun hp => idx_at HF.out (k := k) hp (by have := HL.out; omega))
      obtain ⟨x, hx⟩ : ∃ x, x = xs.getD k 0 := ⟨_, rfl⟩
      have HX := Lib.hid hx
      rw [← hx] at hc
      clear hx
      by_cases hle : t ≤ x
      · have hd : decide (t ≤ x) = true := by simpa using hle
        have HVk : Hid (V = k) := Lib.hid (by rw [HV.out, idxV, HE.out (by rw [← HX.out]; exact hle), if_pos (by have := HL.out; omega)])
        go_wp2_with fail
        refine (firstFn_c x t g _ HG.out).mono ?_
        rw [hd]
        rintro e w' ⟨rfl, rfl⟩
        go_wp2
        go_ret
        exact ⟨by rw [HVk.out] <;> rfl, rfl⟩
      · have hd : decide (t ≤ x) = false := by simpa using hle
        have HN := Lib.hid (HS.out (by rw [← HX.out]; exact hd))
        go_wp2_with fail
        refine (firstFn_c x t g _ HG.out).mono ?_
        rw [hd]
        rintro e w' ⟨rfl, rfl⟩
        go_wp2
        go_round
        case rel => exact ⟨k + 1, by omega, by go_num, HN.out⟩
        case measure => simp [intOf]; omega
    · have hkn : ¬ (k : Int) < n := by omega
      have HVk : Hid (V = -1) := Lib.hid (by
        have e : fstN xs t = xs.length := by unfold fstN; rw [← HL.out, show n = k by omega]; exact HF.out
        rw [HV.out, idxV, if_neg (by omega)])
      go_wp2
      go_ret
      exact ⟨by rw [HVk.out] <;> rfl, rfl⟩
def fstV (xs : List Int) (t : Int) : Int := if fstN xs t < xs.length then (fstN xs t : Int) else 0
def fstC (xs : List Int) (t : Int) : Int := if fstN xs t < xs.length then 0 else 6
theorem implFirst_c (xs : List Int) (n c : Nat) (t : Int) (h : Bnd xs n t) (p : Option Addr) (w : World) (hp : PB_i64 w w.heap.size p xs) :
    Calls Tryz.prog 22 #[.slice p n c, .int .i64 t] w fun e w' => e = .returned (.tuple #[.int .i64 (fstV xs t), .int .i64 (fstC xs t)]) ∧ Below w.heap.size w w' := by
  have HB := Lib.hid h
  have HB0 := Lib.hid (bl1 w (.cells #[.int .i64 t] 2))
  have HP := Lib.hid (PB_i64_keep HB0.out hp)
  have hc := cell_of_row (w.alloc (.cells #[.int .i64 t] 2)) w.heap.size 0 _ _ _ (al1_0 w (.cells #[.int .i64 t] 2))
  have hc0 : (w.alloc (.cells #[.int .i64 t] 2)).cell? ⟨w.heap.size, 0, none⟩ = some (.int .i64 t) := by rw [hc]; rfl
  have HC := Lib.hid hc0
  clear h hp hc
  by_cases hlt : fstN xs t < xs.length
  · have HV : Hid (idxV xs t = (fstN xs t : Int)) := Lib.hid (by unfold idxV; rw [if_pos hlt])
    have e1 : fstV xs t = (fstN xs t : Int) := by unfold fstV; rw [if_pos hlt]
    have e2 : fstC xs t = 0 := by unfold fstC; rw [if_pos hlt]
    rw [e1, e2]
    have hle : fstN xs t ≤ 20 := by have := fst_le xs t; have := HB.out.len; have := HB.out.n20; omega
    clear hlt e1 e2
    generalize fstN xs t = f at *
    go_enter Tryz.func22, Tryz.ntmps22
    go_wp2_with fail
    generalize w.alloc (.cells #[.int .i64 t] 2) = w1 at *
    refine (areBands_c xs n c t HB.out p _ _ HP.out).mono ?_
    rintro e w' ⟨rfl, rfl⟩
    go_wp2_with fail
    refine (indexFirst_c xs n c t HB.out p w.heap.size _ _ HP.out HC.out).mono ?_
    rw [HV.out]
    rintro e w' ⟨rfl, rfl⟩
    have hf0 : ¬ (f : Int) < 0 := by omega
    go_wp2
    go_ret2
    exact ⟨rfl, HB0.out⟩
  · have HV : Hid (idxV xs t = -1) := Lib.hid (by unfold idxV; rw [if_neg hlt])
    have e1 : fstV xs t = 0 := by unfold fstV; rw [if_neg hlt]
    have e2 : fstC xs t = 6 := by unfold fstC; rw [if_neg hlt]
    rw [e1, e2]
    clear hlt e1 e2
    go_enter Tryz.func22, Tryz.ntmps22
    go_wp2_with fail
    generalize w.alloc (.cells #[.int .i64 t] 2) = w1 at *
    refine (areBands_c xs n c t HB.out p _ _ HP.out).mono ?_
    rintro e w' ⟨rfl, rfl⟩
    go_wp2_with fail
    refine (indexFirst_c xs n c t HB.out p w.heap.size _ _ HP.out HC.out).mono ?_
    rw [HV.out]
    rintro e w' ⟨rfl, rfl⟩
    go_wp2
    go_ret2
    exact ⟨rfl, HB0.out⟩
theorem specFirst_c (xs : List Int) (n c : Nat) (t : Int) (h : Bnd xs n t) (p : Option Addr) (w : World) (B : Nat) (hp : PB_i64 w B p xs) :
    Calls Tryz.prog 23 #[.slice p n c, .int .i64 t] w fun e w' => e = .returned (.tuple #[.int .i64 (fstV xs t), .int .i64 (fstC xs t)]) ∧ w = w' := by
  obtain ⟨b, o, rfl, hcl⟩ := h.cells hp
  have HB := Lib.hid h
  have HC := Lib.hid hcl
  have HP := Lib.hid hp
  have HL := Lib.hid h.len
  have hn20 := h.n20
  obtain ⟨V, hV⟩ : ∃ V, V = fstV xs t := ⟨_, rfl⟩
  obtain ⟨C, hC⟩ : ∃ C, C = fstC xs t := ⟨_, rfl⟩
  have HV := Lib.hid hV
  have HCd := Lib.hid hC
  rw [← hV, ← hC]
  clear h hcl hp hV hC
  go_enter Tryz.func23, Tryz.ntmps23
  go_wp2_with fail
  refine (bandsRead_c xs n c t HB.out _ _ B HP.out).mono ?_
  rintro e w' ⟨rfl, rfl⟩
  go_wp2_with fail
  go_loop [6] (fun i => ∃ k : Nat, k ≤ n ∧ i = .int .i64 k ∧ firstN (fun i => decide (t ≤ xs.getD i 0)) k = k) (fun i => n - (intOf i).toNat)
  case atStart => exact ⟨0, by omega, rfl, rfl⟩
  case round =>
    obtain ⟨k, hk, rfl, hf⟩ := hrel
    have HF := Lib.hid hf
    clear hf
    by_cases hlt : k < n
    · have hkn : (k : Int) < n := by omega
      have hc := HC.out k hlt
      have HS := Lib.hid (fun hp => firstN_step HF.out (p := fun i => decide (t ≤ xs.getD i 0)) (k := k) hp)
      have HE := Lib.hid (fun hp => idx_at HF.out (k := k) hp (by have := HL.out; omega))
      obtain ⟨x, hx⟩ : ∃ x, x = xs.getD k 0 := ⟨_, rfl⟩
      have HX := Lib.hid hx
      rw [← hx] at hc
      clear hx
      by_cases hle : t ≤ x
      · have HVk : Hid (V = k) := Lib.hid (by rw [HV.out, fstV, HE.out (by rw [← HX.out]; exact hle), if_pos (by have := HL.out; omega)])
        have HCk : Hid (C = 0) := Lib.hid (by rw [HCd.out, fstC, HE.out (by rw [← HX.out]; exact hle), if_pos (by have := HL.out; omega)])
        go_wp2
        go_ret2
        exact ⟨by rw [HVk.out, HCk.out] <;> rfl, rfl⟩
      · have HN := Lib.hid (HS.out (by rw [← HX.out]; simpa using hle))
        go_wp2
        go_round
        case rel => exact ⟨k + 1, by omega, by go_num, HN.out⟩
        case measure => simp [intOf]; omega
    · have hkn : ¬ (k : Int) < n := by omega
      have HX : Hid (fstN xs t = xs.length) := Lib.hid (by unfold fstN; rw [← HL.out, show n = k by omega]; exact HF.out)
      have HVk : Hid (V = 0) := Lib.hid (by rw [HV.out, fstV, if_neg (by have := HX.out; omega)])
      have HCk : Hid (C = 6) := Lib.hid (by rw [HCd.out, fstC, if_neg (by have := HX.out; omega)])
      go_wp2
      go_ret2
      exact ⟨by rw [HVk.out, HCk.out] <;> rfl, rfl⟩
end Go.Proofs.YtbcahfiknelkcaaGreatDoor
