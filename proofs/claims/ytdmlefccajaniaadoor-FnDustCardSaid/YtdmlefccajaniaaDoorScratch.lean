/- ScratchIn. -/
import Derived.Test.YtdmlefccajaniaaDoorRowsOf
import Derived.Test.YtdmlefccajaniaaDoorMaskB
import Derived.Deep.DeepCutAuto
namespace Go.Proofs.YtdmlefccajaniaaDoor
open Go.RowKit
def inC (n : Nat) : Bool := decide (1 ≤ (n : Int)) && decide ((n : Int) ≤ 8)
def cpV (l : List (List Int)) (f : Bool) : Int := if okL l then (if inC l.length && f then 0 else 2) else 1
theorem cpV_bad {l : List (List Int)} {f : Bool} (h : okL l = false) : cpV l f = 1 := by simp [cpV, h]
theorem cpV_zero {l : List (List Int)} {f : Bool} (h : cpV l f = 0) : okL l = true ∧ 1 ≤ l.length ∧ l.length ≤ 8 ∧ f = true := by
  unfold cpV at h
  split at h
  · rename_i ho
    split at h
    · rename_i hi
      simp [inC] at hi
      exact ⟨ho, by omega, by omega, hi.2⟩
    · cases h
  · cases h
theorem cpV_cases (l : List (List Int)) (f : Bool) : cpV l f = 0 ∨ cpV l f = 1 ∨ cpV l f = 2 := by
  unfold cpV; split
  · split <;> simp
  · simp
set_option maxHeartbeats 1000000 in
theorem l07Copies_c (p : Option Addr) (n c : Nat) (l : List (List Int)) (hl : Prs l) (hn : n = l.length) (hm : n ≤ 1048576) (wi : Int) (w : World) (hp : PS w p l) :
    Calls Tryd.prog 60 #[.slice p n c, .int .i64 wi] w fun e w' => e = .returned (.int .i64 (cpV l (dnB wi))) ∧ Below w.heap.size w w' := by
  have HN := Lib.hid hn
  have HA := Lib.hid hp
  have HP := Lib.hid hl
  clear hn hp hl
  go_enter Tryd.func60, Tryd.ntmps60
  go_wp2
  go_loopw [5] (fun i wr => ∃ k : Nat, k ≤ n ∧ i = .int .i64 k ∧ okL (l.take k) = true ∧ Below w.heap.size w wr) (fun i _ => n - (intOf i).toNat)
  case atStart => exact ⟨0, Nat.zero_le _, rfl, rfl, Below.refl _ _⟩
  case round =>
    obtain ⟨k, hk, rfl, hok, hW⟩ := hrel
    have HW := Lib.hid hW
    have HK := Lib.hid hok
    clear hW hok
    by_cases hlt : k < n
    · obtain ⟨b, o, rfl, hb, hat⟩ := HA.out (ne_of_lt (k := k) (by have := HN.out; omega))
      obtain ⟨q, hpe⟩ : ∃ q, q = l.getD k [] := ⟨_, rfl⟩
      have HPr : Hid (Pr q) := Lib.hid (by rw [hpe]; exact HP.out k (by have := HN.out; omega))
      have HR : Hid (wr.rangeAt b (o + k * 64) (cellsP q)) := Lib.hid (by rw [hpe]; exact rangeAt_below HW.out hb (hat k (by have := HN.out; omega)))
      have HE := Lib.hid hpe
      clear hpe hat
      cases hr : okP q
      all_goals
        have HR2 := Lib.hid hr
        clear hr
        go_wp2_with fail
        refine (l03Print_c q HPr.out b _ _ HR.out).mono ?_
        rintro e w1 ⟨rfl, hb1⟩
        rw [HR2.out]
        have hB := Lib.hid (bt HW.out hb1)
        clear hb1
        go_wp2
      · go_ret
        exact ⟨ret_int (cpV_bad (okL_bad l k (by have := HN.out; omega) (by rw [← HE.out, HR2.out]))).symm, hB.out⟩
      · go_roundw
        case rel => exact ⟨k + 1, by omega, by go_num, by rw [okL_take _ _ (by have := HN.out; omega), HK.out, ← HE.out, HR2.out]; rfl, hB.out⟩
        case measure => simp [intOf]; omega
    · have HV : Hid (cpV l (dnB wi) = if inC n && dnB wi then 0 else 2) := Lib.hid (by
        have h1 := okL_full k (by have := HN.out; omega) HK.out
        simp [cpV, h1, ← HN.out])
      cases hi : inC n
      · have HI := Lib.hid (show (decide (1 ≤ (n : Int)) && decide ((n : Int) ≤ 8)) = false from hi)
        have HV2 : Hid (cpV l (dnB wi) = 2) := Lib.hid (by rw [HV.out, hi]; rfl)
        clear hi
        go_wp2_with (go_at_call 90; refine (l00In_c _ _ _ _).mono ?_; rintro e w' ⟨rfl, rfl⟩; rw [HI.out])
        go_ret
        exact ⟨ret_int HV2.out.symm, HW.out⟩
      · have HI := Lib.hid (show (decide (1 ≤ (n : Int)) && decide ((n : Int) ≤ 8)) = true from hi)
        cases hd : dnB wi
        all_goals
          have HD := Lib.hid hd
          have HV3 : Hid (cpV l (dnB wi) = _) := Lib.hid (by rw [HV.out, hi, hd])
          clear hd
          go_wp2_with (first
            | (go_at_call 90; refine (l00In_c _ _ _ _).mono ?_; rintro e w' ⟨rfl, rfl⟩; rw [HI.out])
            | (go_at_call 91; refine (l02Density_c _ _).mono ?_; rintro e w' ⟨rfl, rfl⟩; rw [HD.out]))
          go_ret
          exact ⟨ret_int (by rw [HV3.out] <;> rfl), HW.out⟩
set_option maxHeartbeats 400000 in
theorem copiesCode_c (p : Option Addr) (n c : Nat) (l : List (List Int)) (hl : Prs l) (hn : n = l.length) (hm : n ≤ 1048576) (f : Bool) (w : World) (hp : PS w p l) :
    Calls Tryd.prog 58 #[.slice p n c, .bool f] w fun e w' => e = .returned (.int .i64 (cpV l f)) ∧ Below w.heap.size w w' := by
  have HN := Lib.hid hn
  have HA := Lib.hid hp
  clear hn hp
  cases ho : okL l
  · have HO := Lib.hid ho
    have HV : Hid (cpV l f = 1) := Lib.hid (cpV_bad ho)
    clear ho
    go_enter Tryd.func58, Tryd.ntmps58
    go_wp2_with fail
    refine (arePrints_c p n c l hl HN.out hm _ HA.out).mono ?_
    rintro e w1 ⟨rfl, hb1⟩
    rw [HO.out]
    have hB := Lib.hid hb1
    clear hb1
    go_wp2
    go_ret
    exact ⟨ret_int HV.out.symm, hB.out⟩
  · have HO := Lib.hid ho
    have HV : Hid (cpV l f = if inC n && f then 0 else 2) := Lib.hid (by simp [cpV, ho, ← HN.out])
    clear ho
    cases hi : inC n <;> cases f
    all_goals
      have HI := Lib.hid (show (decide (1 ≤ (n : Int)) && decide ((n : Int) ≤ 8)) = _ from hi)
      have HV3 := Lib.hid HV.out
      rw [hi] at HV3
      clear hi HV
      go_enter Tryd.func58, Tryd.ntmps58
      go_wp2_with fail
      refine (arePrints_c p n c l hl HN.out hm _ HA.out).mono ?_
      rintro e w1 ⟨rfl, hb1⟩
      rw [HO.out]
      have hB := Lib.hid hb1
      clear hb1
      go_wp2_with (first
        | (go_at_call 68; refine (length_c _ _ _ _ hm).mono ?_; rintro e w' ⟨rfl, rfl⟩)
        | (go_at_call 88; refine (within_c _ _ _ _).mono ?_; rintro e w' ⟨rfl, rfl⟩; rw [HI.out]))
      go_ret
      exact ⟨ret_int (by rw [HV3.out] <;> rfl), hB.out⟩
def dif (bf : List Int) (l : List (List Int)) (c j : Nat) : Int := (l.getD c []).getD j 0 - bf.getD j 0
def drk (bf : List Int) (l : List (List Int)) (wi : Int) (j : Nat) : Nat → Bool
  | 0 => true
  | c + 1 => drk bf l wi j c && decide (wi < dif bf l c j)
def lgt (bf : List Int) (l : List (List Int)) (wi : Int) (j : Nat) : Nat → Bool
  | 0 => true
  | c + 1 => lgt bf l wi j c && decide (dif bf l c j < -wi)
def siM (bf : List Int) (l : List (List Int)) (wi : Int) : Nat := maskOf (fun j => drk bf l wi j l.length || lgt bf l wi j l.length) 64
def siV (bf : List Int) (l : List (List Int)) (wi : Int) : Nat × Int := if okP bf then (if cpV l (dnB wi) = 0 then (siM bf l wi, 0) else (0, cpV l (dnB wi))) else (0, 1)
theorem siM_lt (bf : List Int) (l : List (List Int)) (wi : Int) : siM bf l wi < 2 ^ 64 := maskOf_lt _ 64
end Go.Proofs.YtdmlefccajaniaaDoor
