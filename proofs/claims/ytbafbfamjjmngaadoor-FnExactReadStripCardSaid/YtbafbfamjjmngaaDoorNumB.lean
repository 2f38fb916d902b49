/- A number read from a text (the reference). -/
import Derived.Test.YtbafbfamjjmngaaDoorBase
import Derived.Laws.IdiomStrings
namespace Go.Proofs.YtbafbfamjjmngaaDoor
open Go.RowKit
/-- The byte of a text at a place. -/
def bU (s : ByteArray) (i : Nat) : Nat := (s.data[i]?.getD 0).toNat
theorem bU_lt (s : ByteArray) (i : Nat) : bU s i < 256 := UInt8.toNat_lt _
theorem bU_get (s : ByteArray) (i : Nat) (h : i < s.size) : (s[i]'h).toNat = bU s i := by unfold bU; rw [Array.getElem?_eq_getElem h]; rfl
def isD (b : Nat) : Bool := decide (48 ≤ b) && decide (b ≤ 57)
/-- The first k bytes are digits. -/
def digT (s : ByteArray) : Nat → Bool
  | 0 => true
  | k + 1 => digT s k && isD (bU s k)
def numF (s : ByteArray) : Nat → Nat
  | 0 => 0
  | k + 1 => 10 * numF s k + (bU s k - 48)
theorem digT_at {s : ByteArray} : ∀ {n : Nat}, digT s n = true → ∀ k, k < n → isD (bU s k) = true
  | 0, _, k, hk => absurd hk (Nat.not_lt_zero _)
  | n + 1, h, k, hk => by
    unfold digT at h
    rw [Bool.and_eq_true] at h
    by_cases e : k = n
    · subst e; exact h.2
    · exact digT_at h.1 k (by omega)
theorem numF_lt {s : ByteArray} : ∀ n, digT s n = true → numF s n < 10 ^ n
  | 0, _ => Nat.one_pos
  | n + 1, h => by
    unfold digT at h
    rw [Bool.and_eq_true] at h
    have ih := numF_lt n h.1
    have hd := h.2
    simp only [isD, Bool.and_eq_true, decide_eq_true_eq] at hd
    unfold numF
    rw [Nat.pow_succ]
    omega
def numV (s : ByteArray) : Nat × Bool := if s.size = 0 ∨ 9 < s.size ∨ (bU s 0 = 48 ∧ 1 < s.size) ∨ digT s s.size = false then (0, false) else (numF s s.size, true)
theorem numV_no {s : ByteArray} (h : s.size = 0 ∨ 9 < s.size ∨ (bU s 0 = 48 ∧ 1 < s.size) ∨ digT s s.size = false) : numV s = (0, false) := by unfold numV; rw [if_pos h]
theorem numV_yes {s : ByteArray} (h : ¬ (s.size = 0 ∨ 9 < s.size ∨ (bU s 0 = 48 ∧ 1 < s.size) ∨ digT s s.size = false)) : numV s = (numF s s.size, true) := by unfold numV; rw [if_neg h]
theorem digT_le {s : ByteArray} {k n : Nat} (h : k ≤ n) (hd : digT s k = false) : digT s n = false := by
  cases e : digT s n
  · rfl
  · have : ∀ m, m ≤ n → digT s m = true := by
      intro m
      induction m with
      | zero => intro _; rfl
      | succ m ih =>
        intro hm
        unfold digT
        rw [ih (by omega), digT_at e m (by omega)]; rfl
    rw [this k h] at hd; cases hd
set_option maxHeartbeats 1000000 in
set_option maxRecDepth 100000 in
theorem l01Number_c (s : ByteArray) (w : World) :
    Calls Tryd.prog 8 #[.string s] w fun e w' => e = .returned (.tuple #[.int .i64 ((numV s).1 : Nat), .bool (numV s).2]) ∧ w = w' := by
  by_cases hz : s.size = 0
  · have HV := Lib.hid (numV_no (s := s) (Or.inl hz))
    obtain rfl : s = ⟨#[]⟩ := by
      apply ByteArray.ext
      exact Array.eq_empty_of_size_eq_zero hz
    clear hz
    go_enter Tryd.func8, Tryd.ntmps8
    go_wp2
    go_ret2
    exact ⟨by rw [HV.out] <;> rfl, rfl⟩
  have hne : s.toList.isEmpty = false := by
    rw [ByteArray.toList_eq]
    cases h : s.data.toList.isEmpty
    · rfl
    · have h2 : s.data = #[] := Array.toList_inj.1 (List.isEmpty_iff.1 h)
      exact absurd (show s.data.size = 0 by rw [h2]; rfl) hz
  by_cases h9 : 9 < s.size
  · have HV := Lib.hid (numV_no (s := s) (Or.inr (Or.inl h9)))
    have h9i : ((s.size : Int) > 9) := by omega
    go_enter Tryd.func8, Tryd.ntmps8
    go_wp2
    go_ret2
    exact ⟨by rw [HV.out] <;> rfl, rfl⟩
  have h9i : ¬ ((9 : Int) < (s.size : Int)) := by omega
  have h0z : 0 < s.size := by omega
  have hb0 := bU_get s 0 h0z
  by_cases h01 : bU s 0 = 48 ∧ 1 < s.size
  · have HV := Lib.hid (numV_no (s := s) (Or.inr (Or.inr (Or.inl h01))))
    have h1i : ((1 : Int) < (s.size : Int)) := by omega
    rw [h01.1] at hb0
    go_enter Tryd.func8, Tryd.ntmps8
    go_wp2
    go_ret2
    exact ⟨by rw [HV.out] <;> rfl, rfl⟩
  have h01b : ((bU s 0 : Int) == 48) = false ∨ ¬ ((1 : Int) < (s.size : Int)) := by
    by_cases h : bU s 0 = 48
    · exact Or.inr (by have : ¬ 1 < s.size := fun h1 => h01 ⟨h, h1⟩; omega)
    · exact Or.inl (by simp; omega)
  have HZ := Lib.hid hz
  have H9 := Lib.hid h9
  have H01 := Lib.hid h01
  clear h01
  have key : ∀ (hg : ((bU s 0 : Int) == 48) = false ∨ (((bU s 0 : Int) == 48) = true ∧ ¬ ((1 : Int) < (s.size : Int)))), Calls Tryd.prog 8 #[.string s] w fun e w' => e = .returned (.tuple #[.int .i64 ((numV s).1 : Nat), .bool (numV s).2]) ∧ w = w' := by
    intro hg
    rcases hg with hg | ⟨hg, hg1⟩
    all_goals
      go_enter Tryd.func8, Tryd.ntmps8
      go_wp2
      go_loop [4, 5] (fun nv iv => ∃ k : Nat, k ≤ s.size ∧ iv = .int .i64 k ∧ nv = .int .i64 (numF s k : Nat) ∧ digT s k = true) (fun _ iv => s.size - (intOf iv).toNat)
      case atStart => exact ⟨0, Nat.zero_le _, rfl, rfl, rfl⟩
      case round =>
        obtain ⟨k, hk, rfl, rfl, hd⟩ := hrel
        have HD := Lib.hid hd
        have hlim := numF_lt k hd
        clear hd
        by_cases hlt : k < s.size
        · have hki : (k : Int) < s.size := by omega
          have hby := bU_get s k hlt
          have hb256 := bU_lt s k
          have h10 : numF s k < 10 ^ 8 := Nat.lt_of_lt_of_le hlim (Nat.pow_le_pow_right (by omega) (by have := H9.out; omega))
          have hnx := Lib.hid (show numF s (k + 1) = 10 * numF s k + (bU s k - 48) from rfl)
          have hdx := Lib.hid (show digT s (k + 1) = (digT s k && isD (bU s k)) from rfl)
          clear hlim
          have h10' : numF s k < 100000000 := h10
          clear h10
          generalize numF s k = m at *
          by_cases hdg : 48 ≤ bU s k ∧ bU s k ≤ 57
          · have hD1 : Hid (digT s (k + 1) = true) := Lib.hid (by rw [hdx.out, HD.out]; simp [isD, hdg.1, hdg.2])
            clear hdx
            generalize bU s k = c at *
            obtain ⟨d1, d2⟩ := hdg
            have n1 : ¬ (c : Int) < 48 := by omega
            have n2 : ¬ (57 : Int) < (c : Int) := by omega
            go_wp2
            go_round
            case rel => exact ⟨k + 1, by omega, by go_num, by rw [hnx.out]; go_num, hD1.out⟩
            case measure => simp [intOf]; omega
          · have HV := Lib.hid (numV_no (s := s) (Or.inr (Or.inr (Or.inr (digT_le (k := k + 1) hlt (by
              rw [hdx.out, HD.out, Bool.true_and]
              cases hh : isD (bU s k)
              · rfl
              · simp only [isD, Bool.and_eq_true, decide_eq_true_eq] at hh
                exact absurd hh hdg)))))) 
            clear hdx
            generalize bU s k = c at *
            by_cases hlow : (c : Int) < 48
            · go_wp2
              go_ret2
              exact ⟨by rw [HV.out] <;> rfl, rfl⟩
            · have hhi : (57 : Int) < (c : Int) := by omega
              go_wp2
              go_ret2
              exact ⟨by rw [HV.out] <;> rfl, rfl⟩
        · have hke : k = s.size := by omega
          have hki : ¬ (k : Int) < s.size := by omega
          have HV := Lib.hid (numV_yes (s := s) (by
            rintro (h | h | h | h)
            · exact HZ.out h
            · exact H9.out h
            · exact H01.out h
            · rw [← hke, HD.out] at h; cases h))
          have HN : Hid (numF s s.size = numF s k) := Lib.hid (by rw [hke])
          go_wp2
          go_ret2
          exact ⟨by rw [HV.out, HN.out] <;> rfl, rfl⟩
  refine key ?_
  cases hg : ((bU s 0 : Int) == 48)
  · exact Or.inl rfl
  · rcases h01b with h | h
    · rw [h] at hg; cases hg
    · exact Or.inr ⟨rfl, h⟩
end Go.Proofs.YtbafbfamjjmngaaDoor
