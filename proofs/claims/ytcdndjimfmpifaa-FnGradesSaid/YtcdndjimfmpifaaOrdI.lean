/- OrderGrades: the library's stable sort of at most twelve indices, by a function value. -/
import Derived.Test.YtcdndjimfmpifaaOrdW
import Derived.Test.YtcdndjimfmpifaaOnlyB
namespace Go.Proofs.Ytcdndjimfmpifaa
open Go.RowKit Go.Lib
/-- What the comparing function returns, wherever but in block g nothing has changed. -/
def CmpOk (cs : List Cv) (l d : Int) (g n : Nat) (gc : Nat) (w : World) : Prop := ∀ wr, Only g w wr → ∀ q a b : Nat, a < n → b < n →
  Calls Try.prog 46 #[.int .i64 a, .int .i64 b, .pointer (some ⟨gc, 0, none⟩)] (wr.drewN q) fun e w'' => e = .returned (.int .i64 (scF cs l d b - scF cs l d a)) ∧ ∃ m, w'' = wr.drewN m
theorem scF_bd (cs : List Cv) (l d z : Int) : -401 ≤ scF cs l d z ∧ scF cs l d z ≤ 402 := scl_bd _ l d
theorem cmpO_c (cs : List Cv) (l d : Int) (gs n cap : Nat) (gc : Nat) (a b : Nat) (ha : a < n) (hb : b < n) (w : World) (h0 : w.cell? ⟨gc, 0, none⟩ = some (.slice (some ⟨gs, 0, none⟩) n cap)) (ca : w.cell? ⟨gs, a, none⟩ = some (.int .i64 (scF cs l d a))) (cb : w.cell? ⟨gs, b, none⟩ = some (.int .i64 (scF cs l d b))) :
    Calls Try.prog 46 #[.int .i64 a, .int .i64 b, .pointer (some ⟨gc, 0, none⟩)] w fun e w' => e = .returned (.int .i64 (scF cs l d b - scF cs l d a)) ∧ ∃ m, w' = w.drewN m := by
  have b1 := scF_bd cs l d a
  have b2 := scF_bd cs l d b
  have hai : (a : Int) < n := by omega
  have hbi : (b : Int) < n := by omega
  generalize scF cs l d a = x at *
  generalize scF cs l d b = y at *
  have hw := Go.IntWalk.i64_in (y - x) (by omega)
  go_enter Try.func46, Try.ntmps46
  go_wp2_with fail
  go_quiet (fail)
  go_wp2
  go_ret
  exact ⟨rfl, _, rfl⟩
theorem cmpOk_of {cs : List Cv} {l d : Int} {g n cap gc gs : Nat} {w : World} {t : TypeId} {base : Nat} (h1 : gc ≠ g) (h2 : gs ≠ g) (h0 : w.heap[gc]? = some (.cells #[.slice (some ⟨gs, 0, none⟩) n cap] t (0, 0))) (hR : Row w base 2 .i64 (.slice (some ⟨gs, 0, none⟩) n cap) (scL cs l d n)) : CmpOk cs l d g n gc w := by
  intro wr ho q a b ha hb
  have e0 : (wr.drewN q).cell? ⟨gc, 0, none⟩ = some (.slice (some ⟨gs, 0, none⟩) n cap) := by
    have : (wr.drewN q).heap[gc]? = some (.cells #[.slice (some ⟨gs, 0, none⟩) n cap] t (0, 0)) := (ho.apart gc h1).trans h0
    rw [cell_of_row _ gc 0 _ _ _ this]; rfl
  have ec : ∀ i, i < n → (wr.drewN q).cell? ⟨gs, i, none⟩ = some (.int .i64 (scF cs l d i)) := fun i hi => by
    have h3 := rk_cell hR i (by rw [scL_len]; exact hi)
    rw [scL_get _ _ _ _ _ hi] at h3
    exact (World.cell?_of_block (w := w) (a := ⟨gs, i, none⟩) (ho.apart gs h2)).trans h3
  refine (cmpO_c cs l d gs n cap gc a b ha hb _ e0 (ec a ha) (ec b hb)).mono ?_
  rintro e w' ⟨rfl, m, rfl⟩
  exact ⟨rfl, q + m, by rw [World.drewN_drewN]⟩
set_option maxHeartbeats 4000000 in
set_option maxRecDepth 10000 in
theorem insertCmp_c (cs : List Cv) (l d : Int) (gc g cap n base : Nat) (hn0 : 1 ≤ n) (hm : n ≤ 12) (w : World) (hR : Row w base 2 .i64 (.slice (some ⟨g, 0, none⟩) n cap) (natR n)) (hcmp : CmpOk cs l d g n gc w) :
    Calls Try.prog 84 #[.slice (some ⟨g, 0, none⟩) n cap, .int .i64 0, .int .i64 n, .func (.func 46) #[] #[.pointer (some ⟨gc, 0, none⟩)]] w fun e w' =>
      e = .returned (.tuple #[]) ∧ Row w' base 2 .i64 (.slice (some ⟨g, 0, none⟩) n cap) (ordL cs l d n) ∧ Only g w w' := by
  have HR0 := Lib.hid hR
  have HC := Lib.hid hcmp
  clear hR hcmp
  go_enter Try.func84, Try.ntmps84
  go_wp2
  go_loopw [8] (fun vi wr => ∃ i : Nat, 1 ≤ i ∧ (i ≤ n ∨ i = 1) ∧ vi = .int .i64 i ∧ Row wr base 2 .i64 (.slice (some ⟨g, 0, none⟩) n cap) (ordL cs l d i ++ (natR n).drop i) ∧ Only g w wr) (fun vi _ => n + 1 - (intOf vi).toNat)
  case atStart =>
    refine ⟨1, by omega, Or.inr rfl, rfl, ?_, only_refl _ _⟩
    have e : ordL cs l d 1 ++ (natR n).drop 1 = natR n ∨ n = 0 := by
      cases n with
      | zero => exact Or.inr rfl
      | succ n =>
        left
        have h1 : ordL cs l d 1 = [0] := by rw [show (1 : Nat) = 0 + 1 from rfl, ordL_succ]; rfl
        have h2 : natR (n + 1) = 0 :: (natR (n + 1)).drop 1 := by
          have := List.drop_eq_getElem_cons (l := natR (n + 1)) (i := 0) (by rw [natR_len]; omega)
          rw [List.drop_zero] at this
          rw [this]
          have h3 := natR_get (n + 1) 0 (by omega)
          rw [List.getD_eq_getElem?_getD, List.getElem?_eq_getElem (by rw [natR_len]; omega)] at h3
          simp at h3
          simp [h3]
        rw [h1]; exact h2.symm
    rcases e with e | e
    · rw [e]; exact HR0.out
    · omega
  case round =>
    obtain ⟨i, hi1, hi2, rfl, hR, hW⟩ := hrel
    have HR := Lib.hid hR
    have HW := Lib.hid hW
    clear hR hW
    by_cases hlt : i < n
    · obtain ⟨S, hS⟩ : ∃ S, S = ordL cs l d i := ⟨_, rfl⟩
      obtain ⟨R, hRd⟩ : ∃ R, R = (natR n).drop (i + 1) := ⟨_, rfl⟩
      have hSl : S.length = i := by rw [hS, ordL_len]
      have HSa : Hid (AscK (keyF cs l d) S) := Lib.hid (by rw [hS]; exact ordL_asc cs l d i)
      have HSm : Hid (∀ z ∈ S, 0 ≤ z ∧ z < i) := Lib.hid (fun z hz => by rw [hS] at hz; exact ordL_mem hz)
      have HSt : Hid (ordL cs l d i ++ (natR n).drop i = stK S i i R) := Lib.hid (by rw [← hS, hRd]; have := stK_start (natR n) i (by rw [natR_len]; exact hlt) S hSl; rw [natR_get n i hlt] at this; exact this)
      have HEnd : Hid (ordL cs l d (i + 1) ++ (natR n).drop (i + 1) = insK (keyF cs l d) i S ++ R) := Lib.hid (by rw [ordL_succ, ← hS, ← hRd])
      have HSl := Lib.hid hSl
      have HRl : Hid (R.length = n - (i + 1)) := Lib.hid (by rw [hRd, List.length_drop, natR_len])
      clear hS hRd hSl
      have hid : decide ((i : Int) < n) = true := by simp; omega
      go_wp2
      go_loopw [9] (fun vj w2 => ∃ j : Nat, j ≤ i ∧ vj = .int .i64 j ∧ (∀ y ∈ S.drop j, keyF cs l d i < keyF cs l d y) ∧ Row w2 base 2 .i64 (.slice (some ⟨g, 0, none⟩) n cap) (stK S j i R) ∧ Only g w w2) (fun vj _ => (intOf vj).toNat)
      case atStart => exact ⟨i, Nat.le_refl _, rfl, by rw [List.drop_of_length_le (by rw [HSl.out]; exact Nat.le_refl _)]; exact fun y hy => absurd hy (by simp), by rw [← HSt.out]; exact HR.out, HW.out⟩
      case round =>
        clear HR HW
        obtain ⟨j, hj, rfl, hb, hR, hW⟩ := hrel
        have HB := Lib.hid hb
        have HR := Lib.hid hR
        have HW := Lib.hid hW
        clear hb hR hW
        have hlen : (stK S j i R).length = n := by rw [stK_length _ _ _ _ (by rw [HSl.out]; exact hj), HSl.out, HRl.out]; omega
        have HLen := Lib.hid hlen
        have hcj : wr.cell? ⟨g, j, none⟩ = some (.int .i64 i) := by
          have := rk_cell HR.out j (by rw [hlen]; omega)
          rwa [stK_at _ _ _ _ (by rw [HSl.out]; exact hj)] at this
        clear hlen
        by_cases hj0 : j = 0
        · subst hj0
          have HOut : Hid (stK S 0 i R = insK (keyF cs l d) i S ++ R) := Lib.hid (stK_end (keyF cs l d) i S 0 R HSa.out (Nat.zero_le _) HB.out (Or.inl rfl))
          go_wp2_with fail
          go_quiet (fail)
          go_wp2
          go_roundw
          case rel => exact ⟨i + 1, by omega, by omega, by go_num, by rw [HEnd.out, ← HOut.out]; exact rk_drewN HR.out _, only_drewN HW.out _⟩
          case measure => simp [intOf]; omega
        · obtain ⟨m, hjm⟩ : ∃ m, j = m + 1 := ⟨j - 1, by omega⟩
          obtain ⟨y, hy⟩ : ∃ y, y = S.getD m 0 := ⟨_, rfl⟩
          have hym := HSm.out y (by rw [hy, List.getD_eq_getElem?_getD, List.getElem?_eq_getElem (by rw [HSl.out]; omega)]; exact List.getElem_mem _)
          obtain ⟨yn, rfl⟩ := Int.eq_ofNat_of_zero_le hym.1
          have hcp : wr.cell? ⟨g, m, none⟩ = some (.int .i64 yn) := by
            have := rk_cell HR.out m (by rw [HLen.out]; omega)
            rwa [hjm, stK_pred _ _ _ _ (by rw [HSl.out]; omega), ← hy] at this
          have hf1 := rk_frz HR.out m
          have hf2 := rk_frz HR.out j
          have HY := Lib.hid hy
          have HJM := Lib.hid hjm
          have hji : (j : Int) < n := by omega
          have hji2 : (m : Int) < n := by omega
          have hj0' : decide (0 < j) = true := by simp; omega
          have e1 : (j : Int) - 1 = (m : Int) := by omega
          have hwm : IntKind.i64.wrap (m : Int) = m := Go.IntWalk.i64_in _ (by omega)
          obtain ⟨cv, hcv⟩ : ∃ cv, cv = scF cs l d yn - scF cs l d i := ⟨_, rfl⟩
          have HCC : Hid (∀ q, Calls Try.prog 46 #[.int .i64 i, .int .i64 yn, .pointer (some ⟨gc, 0, none⟩)] (wr.drewN q) fun e w'' => e = .returned (.int .i64 cv) ∧ ∃ m, w'' = wr.drewN m) := Lib.hid fun q => by rw [hcv]; exact HC.out wr HW.out q i yn hlt (by omega)
          have HCV := Lib.hid hcv
          clear hy hjm hj0 hym hcv
          by_cases hxy : cv < 0
          · have HNx : Hid (∀ z ∈ S.drop m, keyF cs l d i < keyF cs l d z) := Lib.hid (dropK_lt (keyF cs l d) (by rw [HSl.out]; have := HJM.out; omega) (by have := HB.out; rwa [HJM.out] at this) (by rw [← HY.out]; have := HCV.out; unfold keyF; omega))
            have HSw : Hid (((stK S j i R).set j yn).set m i = stK S m i R) := Lib.hid (by rw [HJM.out, HY.out]; exact stK_swap S m i R (by rw [HSl.out]; have := HJM.out; omega))
            have hd : decide (cv < 0) = true := by simp; omega
            clear hxy
            go_wp2_with fail
            go_quiet ((go_at_call 46; exact HCC.out _))
            go_wp2
            go_region
            all_goals go_wp2
            go_roundw
            case rel => exact ⟨m, by omega, by go_num, HNx.out, by rw [← HSw.out]; exact rk_set (rk_set (rk_drewN HR.out _) _ _) _ _, only_set (only_set (only_drewN HW.out _) _ _) _ _⟩
            case measure => simp [intOf]; omega
          · have HOut : Hid (stK S j i R = insK (keyF cs l d) i S ++ R) := Lib.hid (stK_end (keyF cs l d) i S j R HSa.out (by rw [HSl.out]; exact hj) HB.out (Or.inr (by rw [HJM.out, Nat.add_sub_cancel, ← HY.out]; have := HCV.out; unfold keyF; omega)))
            have hd : decide (cv < 0) = false := by simp; omega
            clear hxy
            go_wp2_with fail
            go_quiet ((go_at_call 46; exact HCC.out _))
            go_wp2
            go_roundw
            case rel => exact ⟨i + 1, by omega, by omega, by go_num, by rw [HEnd.out, ← HOut.out]; exact rk_drewN HR.out _, only_drewN HW.out _⟩
            case measure => simp [intOf]; omega
    · have hfin : Row wr base 2 .i64 (.slice (some ⟨g, 0, none⟩) n cap) (ordL cs l d n) := by
        have h1 : i = n := by omega
        have h2 := HR.out
        subst h1
        rwa [List.drop_of_length_le (by rw [natR_len]; exact Nat.le_refl _), List.append_nil] at h2
      have HF := Lib.hid hfin
      clear hfin
      go_wp2
      go_end0
      exact ⟨rfl, HF.out, HW.out⟩
set_option maxHeartbeats 1000000 in
theorem stableCmp_c (cs : List Cv) (l d : Int) (gc g cap n base : Nat) (hn0 : 1 ≤ n) (hm : n ≤ 12) (w : World) (hR : Row w base 2 .i64 (.slice (some ⟨g, 0, none⟩) n cap) (natR n)) (hcmp : CmpOk cs l d g n gc w) :
    Calls Try.prog 76 #[.slice (some ⟨g, 0, none⟩) n cap, .int .i64 n, .func (.func 46) #[] #[.pointer (some ⟨gc, 0, none⟩)]] w fun e w' =>
      e = .returned (.tuple #[]) ∧ Row w' base 2 .i64 (.slice (some ⟨g, 0, none⟩) n cap) (ordL cs l d n) ∧ Only g w w' := by
  have HR0 := Lib.hid hR
  have HC := Lib.hid hcmp
  have h1 : decide ((20 : Int) ≤ n) = false := by simp; omega
  have h2 : decide ((20 : Int) < n) = false := by simp; omega
  have h1' : decide (20 ≤ n) = false := by simp; omega
  have h2' : decide (20 < n) = false := by simp; omega
  clear hR hcmp
  go_enter Try.func76, Try.ntmps76
  go_wp2_with fail
  go_loopw [7, 8] (fun a b wr => a = .int .i64 0 ∧ b = .int .i64 20 ∧ wr = w) (fun _ _ _ => 0)
  case atStart => exact ⟨rfl, rfl, rfl⟩
  case round =>
    obtain ⟨rfl, rfl, rfl⟩ := hrel
    go_wp2_with fail
    refine (insertCmp_c cs l d gc g cap n base hn0 hm _ HR0.out HC.out).mono ?_
    rintro e w1 ⟨rfl, hR1, hO1⟩
    have HR1 := Lib.hid hR1
    have HO1 := Lib.hid hO1
    clear hR1 hO1
    go_wp2_with fail
    go_loopw [6] (fun a wr => a = .int .i64 20 ∧ wr = w1) (fun _ _ => 0)
    case atStart => exact ⟨rfl, rfl⟩
    case round =>
      obtain ⟨rfl, rfl⟩ := hrel
      go_wp2
      go_end0
      exact ⟨rfl, HR1.out, HO1.out⟩
theorem sortStable_c (cs : List Cv) (l d : Int) (gc g cap n base : Nat) (hn0 : 1 ≤ n) (hm : n ≤ 12) (w : World) (hR : Row w base 2 .i64 (.slice (some ⟨g, 0, none⟩) n cap) (natR n)) (hcmp : CmpOk cs l d g n gc w) :
    Calls Try.prog 45 #[.slice (some ⟨g, 0, none⟩) n cap, .func (.func 46) #[] #[.pointer (some ⟨gc, 0, none⟩)]] w fun e w' =>
      e = .returned (.tuple #[]) ∧ Row w' base 2 .i64 (.slice (some ⟨g, 0, none⟩) n cap) (ordL cs l d n) ∧ Only g w w' := by
  have HR0 := Lib.hid hR
  have HC := Lib.hid hcmp
  clear hR hcmp
  go_enter Try.func45, Try.ntmps45
  go_wp2_with fail
  refine (stableCmp_c cs l d gc g cap n base hn0 hm _ HR0.out HC.out).mono ?_
  rintro e w1 ⟨rfl, hR1, hO1⟩
  have HR1 := Lib.hid hR1
  have HO1 := Lib.hid hO1
  clear hR1 hO1
  go_wp2
  go_end0
  exact ⟨rfl, HR1.out, HO1.out⟩
end Go.Proofs.Ytcdndjimfmpifaa
