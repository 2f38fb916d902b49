/- DustIn: the reference and the program. -/
import Derived.Test.YtpapmplmldfhpaaDusts
namespace Go.Proofs.Ytpapmplmldfhpaa
open Go.RowKit Go.Lib
theorem cpV_and (l : List (List Int)) (a b : Bool) : cpV l (a && b) = if cpV l a = 0 then (if b then 0 else 2) else cpV l a := by
  unfold cpV
  cases okL l <;> cases inC l.length <;> cases a <;> cases b <;> rfl
theorem cpV_false_ne (l : List (List Int)) : (cpV l false != 0) = true := by
  unfold cpV
  cases okL l <;> cases inC l.length <;> rfl
def inX (l : List (List Int)) (x : Int) : Bool := decide (0 ≤ x) && decide (x < l.length)
def diV (l : List (List Int)) (x wi : Int) : Nat × Int := if cpV l (dnB wi) = 0 then (if inX l x then (difM (medP l) (l.getD x.toNat []) wi, 0) else (0, 2)) else (0, cpV l (dnB wi))
set_option maxHeartbeats 4000000 in
set_option maxRecDepth 100000 in
theorem specDustIn_c (p : Option Addr) (n c : Nat) (l : List (List Int)) (hl : Prs l) (hn : n = l.length) (hm : n ≤ 1048576) (x wi : Int) (w : World) (hp : PS w p l) :
    Calls Try.prog 29 #[.slice p n c, .int .i64 x, .int .i64 wi] w fun e w' => e = .returned (.tuple #[.int .u64 ((diV l x wi).1 : Nat), .int .i64 (diV l x wi).2]) ∧ Below w.heap.size w w' := by
  have HN := Lib.hid hn
  have HA := Lib.hid hp
  have HP := Lib.hid hl
  clear hn hp hl
  by_cases hc : cpV l (dnB wi) = 0
  · obtain ⟨hok, h1, h2, h4⟩ := cpV_zero hc
    have HZ : Hid (∀ w, PS w p l → Calls Try.prog 42 #[.slice p n c, .int .i64 wi] w fun e w' => e = .returned (.int .i64 0) ∧ Below w.heap.size w w') := Lib.hid fun w hp => by have := l07Copies_c p n c l HP.out HN.out hm wi w hp; rwa [hc] at this
    have n1 : 1 ≤ n := by rw [HN.out]; exact h1
    have n8 : n ≤ 8 := by rw [HN.out]; exact h2
    have HOK := Lib.hid hok
    cases hx : inX l x
    · have HV : Hid (diV l x wi = (0, 2)) := Lib.hid (by simp [diV, hc, hx])
      have HI : Hid ((decide (0 ≤ x) && decide (x ≤ (n : Int) - 1)) = false) := Lib.hid (by
        rw [← hx, inX, ← HN.out, Bool.eq_iff_iff]; simp; omega)
      clear hc hx hok
      go_enter Try.func29, Try.ntmps29
      go_wp2_with fail
      refine (HZ.out _ HA.out).mono ?_
      rintro e w1 ⟨rfl, hb1⟩
      have HB := Lib.hid hb1
      clear hb1
      go_wp2_with (go_at_call 41; refine (l00In_c _ _ _ _).mono ?_; rintro e w' ⟨rfl, rfl⟩; rw [HI.out])
      go_ret2
      exact ⟨by rw [HV.out] <;> rfl, HB.out⟩
    · obtain ⟨x0, x1⟩ : 0 ≤ x ∧ x < l.length := by simpa [inX] using hx
      obtain ⟨i, rfl⟩ := Int.eq_ofNat_of_zero_le x0
      have HV : Hid (diV l i wi = (difM (medP l) (l.getD i []) wi, 0)) := Lib.hid (by simp [diV, hc, hx])
      have HI : Hid ((decide ((0 : Int) ≤ i) && decide ((i : Int) ≤ (n : Int) - 1)) = true) := Lib.hid (by
        rw [← hx, inX, ← HN.out, Bool.eq_iff_iff]; simp; omega)
      have hin : i < n := by rw [HN.out]; omega
      have hii : (i : Int) < n := by omega
      obtain ⟨b, o, rfl, hb, hat⟩ := HA.out (ne_of_lt (k := i) (by have := HN.out; omega))
      obtain ⟨q, hpe⟩ : ∃ q, q = l.getD i [] := ⟨_, rfl⟩
      rw [← hpe] at HV
      have HQ : Hid (D400 q) := Lib.hid (by rw [hpe]; exact okP_D400 (HP.out i (by have := HN.out; omega)) (okL_get hok i (by have := HN.out; omega)))
      have HRg : Hid (w.rangeAt b (o + i * 64) (cellsP q)) := Lib.hid (by rw [hpe]; exact hat i (by have := HN.out; omega))
      have HM : Hid (D400 (medP l)) := Lib.hid (medP_D400 hok (by omega))
      have hszM : (arr .i16 (medP l)).size = 64 := by rw [arr_size, medP_length]
      have HBb := Lib.hid hb
      clear hc hx hok x0 x1 hat hpe h4
      go_enter Try.func29, Try.ntmps29
      go_wp2_with fail
      refine (HZ.out _ HA.out).mono ?_
      rintro e w1 ⟨rfl, hb1⟩
      have HB := Lib.hid hb1
      clear hb1
      go_wp2_with (go_at_call 41; refine (l00In_c _ _ _ _).mono ?_; rintro e w' ⟨rfl, rfl⟩; rw [HI.out])
      refine (l07Median_c _ n c l HP.out HN.out n8 (by omega) _ (PS_below HB.out HA.out)).mono ?_
      rintro e w2 ⟨rfl, hb2⟩
      have HB2 := Lib.hid (bt HB.out hb2)
      clear hb2
      go_upto_region 7 with (rw [z64_Z]; refine wpList_store_row rfl 47 (.tmp 9) (.tmp 27) rfl w2.heap.size (arr .i16 (medP l)) rfl rfl 47 (arr .i16 Z64) (al1_0 _ _) (by rw [szPrint, hszM]) (by rw [hszM, arr_size, Z64_length]) (arr_one _ _) ?_)
      have HG := Lib.hid (setRow_heap (w2.alloc (.cells (arr .i16 Z64) 47)) w2.heap.size _ (arr .i16 (medP l)) 47 (0, 0) (al1_0 _ _))
      have hb3 := below_setRow (bl1 w2 (.cells (arr .i16 Z64) 47)) (Nat.le_refl _) (arr .i16 (medP l))
      have HB3 := Lib.hid (bt HB2.out hb3)
      clear hb3
      generalize (w2.alloc (.cells (arr .i16 Z64) 47)).setRow w2.heap.size (arr .i16 (medP l)) = w3 at *
      generalize w2.heap.size = g9 at *
      generalize medP l = M at *
      go_wp2_with fail
      refine (l07Dust_c M q HM.out HQ.out b (o + i * 64) g9 wi _ _ (rangeAt_below HB3.out HBb.out HRg.out) HG.out).mono ?_
      rintro e w4 ⟨rfl, hb4⟩
      have HB4 := Lib.hid (bt HB3.out hb4)
      clear hb4
      go_wp2
      go_ret2
      exact ⟨by rw [HV.out] <;> rfl, HB4.out⟩
  · have HV : Hid (diV l x wi = (0, cpV l (dnB wi))) := Lib.hid (by simp [diV, hc])
    have hne : (cpV l (dnB wi) != 0) = true := by simpa using hc
    have hne2 : (cpV l (dnB wi) == 0) = false := by simpa using hc
    have HZ : Hid (∀ w, PS w p l → Calls Try.prog 42 #[.slice p n c, .int .i64 wi] w fun e w' => e = .returned (.int .i64 (cpV l (dnB wi))) ∧ Below w.heap.size w w') := Lib.hid fun w hp => l07Copies_c p n c l HP.out HN.out hm wi w hp
    generalize cpV l (dnB wi) = cc at *
    go_enter Try.func29, Try.ntmps29
    go_wp2_with fail
    refine (HZ.out _ HA.out).mono ?_
    rintro e w1 ⟨rfl, hb1⟩
    have HB := Lib.hid hb1
    clear hb1 HZ
    go_wp2
    go_ret2
    exact ⟨by rw [HV.out] <;> rfl, HB.out⟩
set_option maxHeartbeats 1000000 in
set_option maxRecDepth 100000 in
theorem implDustIn_c (p : Option Addr) (n c : Nat) (l : List (List Int)) (hl : Prs l) (hn : n = l.length) (hm : n ≤ 1048576) (x wi : Int) (w : World) (hp : PS w p l) :
    Calls Try.prog 30 #[.slice p n c, .int .i64 x, .int .i64 wi] w fun e w' => e = .returned (.tuple #[.int .u64 ((diV l x wi).1 : Nat), .int .i64 (diV l x wi).2]) ∧ Below w.heap.size w w' := by
  have HN := Lib.hid hn
  have HA := Lib.hid hp
  have HP := Lib.hid hl
  clear hn hp hl
  by_cases hf : (dnB wi && inX l x) = true
  · obtain ⟨hd, hx⟩ : dnB wi = true ∧ inX l x = true := by simpa using hf
    obtain ⟨x0, x1⟩ : 0 ≤ x ∧ x < l.length := by simpa [inX] using hx
    obtain ⟨i, rfl⟩ := Int.eq_ofNat_of_zero_le x0
    have hin : i < n := by rw [HN.out]; omega
    have hii : (i : Int) < n := by omega
    have HD := Lib.hid hd
    have HX := Lib.hid hx
    clear hf x0 x1
    by_cases hc : cpV l true = 0
    · obtain ⟨hok, h1, h2, _⟩ := cpV_zero hc
      have HV : Hid (diV l i wi = (difM (medP l) (l.getD i []) wi, 0)) := Lib.hid (by simp [diV, hd, hc, hx])
      have HC := Lib.hid hc
      have HOK := Lib.hid hok
      have n1 : 1 ≤ n := by rw [HN.out]; exact h1
      have n8 : n ≤ 8 := by rw [HN.out]; exact h2
      have HG : Hid ((dustsL l wi n).getD i 0 = ((difM (medP l) (l.getD i []) wi : Nat) : Int)) := Lib.hid (dustsL_get l wi n i hin)
      generalize difM (medP l) (l.getD i []) wi = dm at *
      clear hd hx hc hok
      go_enter Try.func30, Try.ntmps30
      go_wp2_with (first
        | (go_at_call 48; refine (isDensity_c _ _).mono ?_; rintro e w' ⟨rfl, rfl⟩; rw [HD.out])
        | (go_at_call 49; refine (length_c _ _ _ _ hm).mono ?_; rintro e w' ⟨rfl, rfl⟩))
      refine (copiesCode_c p n c l HP.out HN.out hm true _ HA.out).mono ?_
      rintro e w1 ⟨rfl, hb1⟩
      rw [HC.out]
      have HB := Lib.hid hb1
      clear hb1
      go_wp2_with fail
      refine (implDusts_c p n c l HP.out HN.out n8 (by omega) HOK.out wi HD.out _ (PS_below HB.out HA.out)).mono ?_
      rintro e w2 ⟨v, rfl, hR, hb2⟩
      obtain ⟨g, cap, rfl, hg1, hg2, hcap, hcm, hcl⟩ := row_shape hR (by intro e; have := dustsL_len l wi n; rw [e] at this; simp at this; omega)
      have hci : w2.cell? ⟨g, i, none⟩ = some (.int .u64 (dm : Int)) := by rw [hcl i (by rw [dustsL_len]; exact hin), HG.out]
      rw [dustsL_len]
      have HB2 := Lib.hid (bt HB.out hb2)
      clear hb2 hR hcl hg1 hg2 hcap hcm
      go_wp2
      go_ret2
      exact ⟨by rw [HV.out] <;> rfl, HB2.out⟩
    · have HV : Hid (diV l i wi = (0, cpV l true)) := Lib.hid (by simp [diV, hd, hc])
      have hne : (cpV l true != 0) = true := by simpa using hc
      have HZ : Hid (∀ w, PS w p l → Calls Try.prog 45 #[.slice p n c, .bool true] w fun e w' => e = .returned (.int .i64 (cpV l true)) ∧ Below w.heap.size w w') := Lib.hid fun w hp => copiesCode_c p n c l HP.out HN.out hm true w hp
      generalize cpV l true = cc at *
      clear hd hx
      go_enter Try.func30, Try.ntmps30
      go_wp2_with (first
        | (go_at_call 48; refine (isDensity_c _ _).mono ?_; rintro e w' ⟨rfl, rfl⟩; rw [HD.out])
        | (go_at_call 49; refine (length_c _ _ _ _ hm).mono ?_; rintro e w' ⟨rfl, rfl⟩))
      refine (HZ.out _ HA.out).mono ?_
      rintro e w1 ⟨rfl, hb1⟩
      have HB := Lib.hid hb1
      clear hb1 HZ
      go_wp2
      go_ret2
      exact ⟨by rw [HV.out] <;> rfl, HB.out⟩
  · have hff : (dnB wi && inX l x) = false := by simpa using hf
    have HV : Hid (diV l x wi = (0, cpV l false)) := Lib.hid (by
      have h1 := cpV_and l (dnB wi) (inX l x)
      rw [hff] at h1
      rw [h1, diV]
      cases hd : dnB wi
      · have := cpV_false_ne l
        rw [if_neg (by simpa using this)]
        rw [if_neg (by simpa using this)]
      · have hx : inX l x = false := by rw [hd] at hff; simpa using hff
        rw [hx]; split <;> simp)
    have hne := cpV_false_ne l
    have HZ : Hid (∀ w, PS w p l → Calls Try.prog 45 #[.slice p n c, .bool false] w fun e w' => e = .returned (.int .i64 (cpV l false)) ∧ Below w.heap.size w w') := Lib.hid fun w hp => copiesCode_c p n c l HP.out HN.out hm false w hp
    generalize cpV l false = cc at *
    have h3 : dnB wi = false ∨ (dnB wi = true ∧ ¬ 0 ≤ x) ∨ (dnB wi = true ∧ 0 ≤ x ∧ ¬ x < (n : Int)) := by
      cases hd : dnB wi
      · exact Or.inl rfl
      · rw [hd] at hff
        simp only [Bool.true_and, inX, Bool.and_eq_false_iff, decide_eq_false_iff_not, ← HN.out] at hff
        by_cases h0 : 0 ≤ x
        · exact Or.inr (Or.inr ⟨rfl, h0, by rcases hff with h | h; exact absurd h0 h; exact h⟩)
        · exact Or.inr (Or.inl ⟨rfl, h0⟩)
    clear hf hff
    rcases h3 with hd | ⟨hd, hx⟩ | ⟨hd, hx, hx2⟩
    · have HD := Lib.hid hd
      clear hd
      go_enter Try.func30, Try.ntmps30
      go_wp2_with (first
        | (go_at_call 48; refine (isDensity_c _ _).mono ?_; rintro e w' ⟨rfl, rfl⟩; rw [HD.out])
        | (go_at_call 49; refine (length_c _ _ _ _ hm).mono ?_; rintro e w' ⟨rfl, rfl⟩))
      refine (HZ.out _ HA.out).mono ?_
      rintro e w1 ⟨rfl, hb1⟩
      have HB := Lib.hid hb1
      clear hb1 HZ
      go_wp2
      go_ret2
      exact ⟨by rw [HV.out] <;> rfl, HB.out⟩
    · have HD := Lib.hid hd
      clear hd
      have hxd : decide (0 ≤ x) = false := by simpa using hx
      go_enter Try.func30, Try.ntmps30
      go_wp2_with (first
        | (go_at_call 48; refine (isDensity_c _ _).mono ?_; rintro e w' ⟨rfl, rfl⟩; rw [HD.out])
        | (go_at_call 49; refine (length_c _ _ _ _ hm).mono ?_; rintro e w' ⟨rfl, rfl⟩))
      refine (HZ.out _ HA.out).mono ?_
      rintro e w1 ⟨rfl, hb1⟩
      have HB := Lib.hid hb1
      clear hb1 HZ
      go_wp2
      go_ret2
      exact ⟨by rw [HV.out] <;> rfl, HB.out⟩
    · have HD := Lib.hid hd
      clear hd
      have hxd : decide (0 ≤ x) = true := by simpa using hx
      have hxe : decide (x < (n : Int)) = false := by simpa using hx2
      go_enter Try.func30, Try.ntmps30
      go_wp2_with (first
        | (go_at_call 48; refine (isDensity_c _ _).mono ?_; rintro e w' ⟨rfl, rfl⟩; rw [HD.out])
        | (go_at_call 49; refine (length_c _ _ _ _ hm).mono ?_; rintro e w' ⟨rfl, rfl⟩))
      refine (HZ.out _ HA.out).mono ?_
      rintro e w1 ⟨rfl, hb1⟩
      have HB := Lib.hid hb1
      clear hb1 HZ
      go_wp2
      go_ret2
      exact ⟨by rw [HV.out] <;> rfl, HB.out⟩
end Go.Proofs.Ytpapmplmldfhpaa
