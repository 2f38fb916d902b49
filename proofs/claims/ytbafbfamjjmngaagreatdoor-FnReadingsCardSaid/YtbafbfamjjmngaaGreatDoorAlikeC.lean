/- AlikeFields: the reference and the program. -/
import Derived.Test.YtbafbfamjjmngaaGreatDoorAlikeI
import Derived.BigFrame
namespace Go.Proofs.YtbafbfamjjmngaaGreatDoor
open Go.RowKit Go.Lib
theorem row_mono {w : World} {b b' : Nat} {e : TypeId} {k : IntKind} {v : Value} {xs : List Int} (h : Row w b e k v xs) (hb : b' ≤ b) : Row w b' e k v xs := by
  obtain ⟨h1, h2⟩ := h
  refine ⟨h1, ?_⟩
  rcases h2 with h2 | ⟨g, cap, cur, hv, hg, r⟩
  · exact Or.inl h2
  · exact Or.inr ⟨g, cap, cur, hv, Nat.le_trans hb hg, r⟩
noncomputable def afV (xs : List Int) (wi : Int) : List Int × Int := if okS xs then (if rdB wi then ((alS xs wi 24).2, 0) else ([], 2)) else ([], 1)
set_option maxHeartbeats 1000000 in
set_option maxRecDepth 100000 in
theorem specAF_c (xs : List Int) (hs : Sc xs) (wi : Int) (w : World) :
    Calls Tryz.prog 20 #[.agg (arr .i8 xs), .int .i64 wi] w fun e w' => ∃ v, e = .returned (.tuple #[v, .int .i64 (afV xs wi).2]) ∧ Row w' w.heap.size 36 .u32 v (afV xs wi).1 ∧ Below w.heap.size w w' := by
  by_cases hok : okS xs = true
  · by_cases hwi : rdB wi = true
    · have HV : afV xs wi = ((alS xs wi 24).2, 0) := by simp [afV, hok, hwi]
      rw [HV]
      refine (specAlike_c xs hs hok wi hwi w).mono ?_
      rintro e w' ⟨v, he, hr, hb⟩
      exact ⟨v, he, row_mono hr (by omega), hb⟩
    · have hwf : rdB wi = false := by simpa using hwi
      have HV : Hid (afV xs wi = ([], 2)) := Lib.hid (by simp [afV, hok, hwf])
      have HWI := Lib.hid hwf
      have HB0 := Lib.hid (al1_0 w (.cells (arr .i8 xs) 26))
      have HW0 := Lib.hid (bl1 w (.cells (arr .i8 xs) 26))
      have HOK := Lib.hid hok
      clear hwi hwf hok
      go_enter Tryz.func20, Tryz.ntmps20
      go_upto_region 1 with fail
      generalize w.alloc (.cells (arr .i8 xs) 26) = w1 at *
      go_wp2_with (first
        | (go_at_call 36; refine (l06Ok_c xs hs _ _ _ HB0.out).mono ?_; rintro e w' ⟨rfl, rfl⟩; rw [HOK.out])
        | (go_at_call 46; refine (l06Reading_c wi _).mono ?_; rintro e w' ⟨rfl, rfl⟩; rw [HWI.out]))
      go_ret2
      exact ⟨_, by rw [HV.out] <;> rfl, by rw [HV.out]; exact row_new w1 _ _ _ HW0.out.size, HW0.out.alloc HW0.out.size _⟩
  · have hof : okS xs = false := by simpa using hok
    have HV : Hid (afV xs wi = ([], 1)) := Lib.hid (by simp [afV, hof])
    have HB0 := Lib.hid (al1_0 w (.cells (arr .i8 xs) 26))
    have HW0 := Lib.hid (bl1 w (.cells (arr .i8 xs) 26))
    have HOK := Lib.hid hof
    clear hof hok
    go_enter Tryz.func20, Tryz.ntmps20
    go_upto_region 1 with fail
    generalize w.alloc (.cells (arr .i8 xs) 26) = w1 at *
    go_wp2_with (go_at_call 36; refine (l06Ok_c xs hs _ _ _ HB0.out).mono ?_; rintro e w' ⟨rfl, rfl⟩; rw [HOK.out])
    go_ret2
    exact ⟨_, by rw [HV.out] <;> rfl, by rw [HV.out]; exact row_new w1 _ _ _ HW0.out.size, HW0.out.alloc HW0.out.size _⟩
set_option maxHeartbeats 2000000 in
set_option maxRecDepth 100000 in
theorem implAF_c (xs : List Int) (hs : Sc xs) (wi : Int) (w : World) :
    Calls Tryz.prog 19 #[.agg (arr .i8 xs), .int .i64 wi] w fun e w' => ∃ v, e = .returned (.tuple #[v, .int .i64 (afV xs wi).2]) ∧ Row w' w.heap.size 36 .u32 v (afV xs wi).1 ∧ Below w.heap.size w w' := by
  have HS := Lib.hid hs
  have HB0 := Lib.hid (al1_0 w (.cells (arr .i8 xs) 26))
  have HW0 := Lib.hid (bl1 w (.cells (arr .i8 xs) 26))
  have hszS : (arr .i8 xs).size = 24 := by rw [arr_size]; exact hs.1
  clear hs
  go_enter Tryz.func19, Tryz.ntmps19
  go_upto_region 1 with fail
  generalize w.alloc (.cells (arr .i8 xs) 26) = w1 at *
  go_wp2_with (refine wpList_load_row rfl 26 (.tmp 2) rfl _ rfl _ _ _ _ HB0.out Tryz.underlying26 rfl (by rw [szScene, hszS]) ?_)
  refine (implValidScene_c xs HS.out _).mono ?_
  rintro e w2 ⟨rfl, hb2⟩
  have HB2 := Lib.hid (heap_below hb2 (lt_of_heap HB0.out) HB0.out)
  have HW2 := Lib.hid (bt HW0.out hb2)
  clear hb2 HB0 HW0
  cases hok : okS xs
  · have HV : Hid (afV xs wi = ([], 1)) := Lib.hid (by simp [afV, hok])
    clear hok
    go_wp2
    go_ret2
    exact ⟨_, by rw [HV.out] <;> rfl, by rw [HV.out]; exact row_nil _ _ _ _, HW2.out⟩
  · have HOK := Lib.hid hok
    cases hwi : rdB wi
    · have HV : Hid (afV xs wi = ([], 2)) := Lib.hid (by simp [afV, hok, hwi])
      have HWI := Lib.hid hwi
      clear hok hwi
      go_wp2_with (go_at_call 41; refine (isReading_c _ _).mono ?_; rintro e w' ⟨rfl, rfl⟩; rw [HWI.out])
      go_ret2
      exact ⟨_, by rw [HV.out] <;> rfl, by rw [HV.out]; exact row_nil _ _ _ _, HW2.out⟩
    · have HV : Hid (afV xs wi = ((alS xs wi 24).2, 0)) := Lib.hid (by simp [afV, hok, hwi])
      have HWI := Lib.hid hwi
      clear hok hwi
      go_upto_region 7 with (go_at_call 41; refine (isReading_c _ _).mono ?_; rintro e w' ⟨rfl, rfl⟩; rw [HWI.out])
      go_loopw [6, 7, 19] (fun v m i wr => ∃ k : Nat, k ≤ 24 ∧ i = .int .i64 k ∧ m = .int .u32 ((alS xs wi k).1 : Nat) ∧ Row wr w2.heap.size 36 .u32 v (alS xs wi k).2 ∧ Below w2.heap.size w2 wr) (fun _ _ i _ => 24 - (intOf i).toNat)
      case atStart => exact ⟨0, by omega, rfl, rfl, row_new w2 _ _ _ (Nat.le_refl _), bl1 _ _⟩
      case round =>
        obtain ⟨k, hk, rfl, rfl, hR, hW⟩ := hrel
        have HR := Lib.hid hR
        have HW := Lib.hid hW
        clear hR hW
        by_cases hlt : k < 24
        · have hkd : decide ((k : Int) < 24) = true := by simp; omega
          have hM := alS_lt xs wi k
          have HBt := Lib.hid (and1_32 (alS xs wi k).1 k hM)
          generalize hme : (alS xs wi k).1 = M at *
          have HME := Lib.hid hme
          clear hme
          cases hb : M.testBit k
          · rw [hb] at HBt
            have hbt : bits .and .u32 ((M : Int) / (2 : Int) ^ k) 1 = 0 := HBt.out
            have HC := Lib.hid (implAlike_c xs HS.out HOK.out wi HWI.out k hlt wr)
            have hF := fieldOf_lt xs wi k
            have HOr := Lib.hid (or32 M (fieldOf xs wi k) (by omega) (by omega))
            have HAL : Hid (alS xs wi (k + 1) = (M ||| fieldOf xs wi k, (alS xs wi k).2 ++ [((fieldOf xs wi k : Nat) : Int)])) := Lib.hid (by rw [alS, HME.out, hb]; rfl)
            have HFl : Hid ((alS xs wi k).2.length ≤ 24) := Lib.hid (Nat.le_trans (alS_len xs wi k) hk)
            have HBk := Lib.hid (heap_below HW.out (lt_of_heap HB2.out) HB2.out)
            generalize fieldOf xs wi k = F at *
            clear hb hM hF
            go_wp2_with (refine wpList_load_row rfl 26 (.tmp 2) rfl _ rfl _ _ _ _ HBk.out Tryz.underlying26 rfl (by rw [szScene, hszS]) ?_)
            refine (HC.out).mono ?_
            rintro e w5 ⟨rfl, hb5⟩
            have HR5 := Lib.hid (row_below HR.out hb5)
            have HW5 := Lib.hid (bt HW.out hb5)
            clear hb5 HC
            go_wp2_with (at_builtin; refine wpList_app rfl (.tmp 34) (.tmp 36) 41 rfl w2.heap.size 36 .u32 4 Tryz.underlying41 info_u32 (by decide) _ _ rfl (row_alloc HR5.out _) _ 1 (F : Int) rfl (by simp) (Nat.le_trans HFl.out (by omega)) (by have := HW5.out.size; simp at this ⊢; omega) ?_; intro v1 w6 hrow hgr hbk; have HRn := Lib.hid hrow; have HWn := Lib.hid (below_app (HW5.out.alloc HW5.out.size _) hgr (Nat.le_refl _) hbk); clear hrow hgr hbk)
            go_roundw
            case rel => exact ⟨k + 1, by omega, by go_num, by rw [HAL.out]; exact congrArg _ HOr.out, by rw [HAL.out]; exact HRn.out, HWn.out⟩
            case measure => simp [intOf]; omega
          · rw [hb] at HBt
            have hbt : bits .and .u32 ((M : Int) / (2 : Int) ^ k) 1 = 1 := HBt.out
            have HN : Hid (alS xs wi (k + 1) = alS xs wi k) := Lib.hid (by rw [alS, HME.out, hb]; rfl)
            clear hb
            go_wp2
            go_roundw
            case rel => exact ⟨k + 1, by omega, by go_num, by rw [HN.out, HME.out], by rw [HN.out]; exact HR.out, HW.out⟩
            case measure => simp [intOf]; omega
        · have hkn : k = 24 := by omega
          subst hkn
          go_wp2
          go_ret2
          exact ⟨_, by rw [HV.out] <;> rfl, by rw [HV.out]; exact row_mono HR.out HW2.out.size, bt HW2.out HW.out⟩
end Go.Proofs.YtbafbfamjjmngaaGreatDoor
