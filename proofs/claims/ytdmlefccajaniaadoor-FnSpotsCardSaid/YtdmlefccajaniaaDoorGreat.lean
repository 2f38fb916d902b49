/- The greatest spot: the walks. -/
import Derived.Test.YtdmlefccajaniaaDoorGreatP
import Derived.Test.YtdmlefccajaniaaDoorOnes
import Derived.Test.YtdmlefccajaniaaDoorRepW
namespace Go.Proofs.YtdmlefccajaniaaDoor
open Go.RowKit Go.Lib
set_option maxHeartbeats 2000000 in
theorem implGreat_c (m : Nat) (hm : m < 2 ^ 64) (w : World) (hT : TabAt w) :
    Calls Tryd.prog 13 #[.int .u64 m] w fun e w' => e = .returned (.tuple #[.int .u64 ((gV m).1 : Nat), .int .i64 (gV m).2]) ∧ Below w.heap.size w w' := by
  have HM := Lib.hid hm
  have HT := Lib.hid hT
  have HAll := Lib.hid (sp_all m hm)
  have H64 := sp_64 m hm
  clear hm hT
  go_enter Tryd.func13, Tryd.ntmps13
  go_wp2_with fail
  refine (implSpotsOf_c m HM.out _ HT.out).mono ?_
  rintro e w1 ⟨v, rfl, hR, hb1⟩
  obtain ⟨q, cap, rfl, hP⟩ := row_PU hR
  have HP := Lib.hid hP
  have HB := Lib.hid hb1
  rw [spI_len m]
  clear hP hb1 hR
  obtain ⟨n, hn⟩ : ∃ n, n = (spL m).length := ⟨_, rfl⟩
  rw [← hn]
  have HN := Lib.hid hn
  rw [← hn] at H64
  clear hn
  go_wp2
  go_loop [4, 10] (fun s i => ∃ k : Nat, k ≤ n ∧ i = .int .i64 k ∧ s = .int .u64 (gb (spL m) k : Nat)) (fun _ i => n - (intOf i).toNat)
  case atStart => exact ⟨0, by omega, rfl, rfl⟩
  case round =>
    obtain ⟨k, hk, rfl, rfl⟩ := hrel
    by_cases hlt : k < n
    · have hkn : k < (spL m).length := by have := HN.out; omega
      obtain ⟨b, o, rfl, hbz, hat⟩ := HP.out (by intro e; have h1 := spI_len m; rw [e] at h1; simp at h1; omega)
      have hx1 := hat k (by rw [spI_len]; exact hkn)
      rw [spI_get m k hkn] at hx1
      have hs64 := (HAll.out k hkn).1
      have hg64 := (gb_all (spL m) HAll.out k (by omega)).1
      have HST := Lib.hid (gb_step (spL m) k hkn)
      clear hat
      generalize (spL m).getD k 0 = s at *
      generalize gb (spL m) k = g at *
      have HC1 := Lib.hid (ones_c s hs64)
      have HC2 := Lib.hid (ones_c g hg64)
      have hc1 := cnt_le s
      have hc2 := cnt_le g
      by_cases hgt : cnt g < cnt s
      · have HE : Hid (better g s = s) := Lib.hid (by simp [better, hgt])
        generalize cnt s = c1 at *
        generalize cnt g = c2 at *
        go_wp2_with (first
          | (go_at_call_of 47 (Value.int .u64 (s : Int)); refine (HC1.out _).mono ?_; rintro e w' ⟨rfl, rfl⟩)
          | (go_at_call_of 47 (Value.int .u64 (g : Int)); refine (HC2.out _).mono ?_; rintro e w' ⟨rfl, rfl⟩))
        go_round
        case rel => exact ⟨k + 1, by omega, by go_num, by rw [HST.out, HE.out]⟩
        case measure => simp [intOf]; omega
      · have HE : Hid (better g s = g) := Lib.hid (by simp [better, hgt])
        generalize cnt s = c1 at *
        generalize cnt g = c2 at *
        go_wp2_with (first
          | (go_at_call_of 47 (Value.int .u64 (s : Int)); refine (HC1.out _).mono ?_; rintro e w' ⟨rfl, rfl⟩)
          | (go_at_call_of 47 (Value.int .u64 (g : Int)); refine (HC2.out _).mono ?_; rintro e w' ⟨rfl, rfl⟩))
        go_round
        case rel => exact ⟨k + 1, by omega, by go_num, by rw [HST.out, HE.out]⟩
        case measure => simp [intOf]; omega
    · have hkn : k = n := by omega
      subst hkn
      by_cases hz : k = 0
      · have HV := Lib.hid (gV_none (M := m) (by have := HN.out; omega))
        subst hz
        have hg0 : gb (spL m) 0 = 0 := rfl
        rw [hg0]
        go_wp2
        go_ret2
        exact ⟨by rw [HV.out] <;> rfl, HB.out⟩
      · have HV := Lib.hid (gV_some (M := m) (by have := HN.out; omega))
        have hgp := (gb_all (spL m) HAll.out k (by have := HN.out; omega)).2 (by omega)
        have hgn : gb (spL m) k ≠ 0 := by intro e; rw [e, cnt_0] at hgp; omega
        have hgz : (((gb (spL m) k : Nat) : Int) == 0) = false := by simp; omega
        have HGn : Hid (gb (spL m) k = gb (spL m) (spL m).length) := Lib.hid (by rw [← HN.out])
        clear hgp hgn
        generalize gb (spL m) k = g at *
        go_wp2
        go_ret2
        exact ⟨by rw [HV.out, ← HGn.out] <;> rfl, HB.out⟩
end Go.Proofs.YtdmlefccajaniaaDoor
