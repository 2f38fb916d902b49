/- Spots of a mask: plain facts. -/
import Derived.Test.YtdmlefccajaniaaDoorSpotP
namespace Go.Proofs.YtdmlefccajaniaaDoor
open Go.RowKit Go.Lib
def sub (S T : Nat) : Prop := ∀ j, S.testBit j = true → T.testBit j = true
theorem sub_refl (S : Nat) : sub S S := fun _ h => h
theorem sub_trans {S T U : Nat} (h : sub S T) (k : sub T U) : sub S U := fun j hj => k j (h j hj)
theorem lt64_of {n j : Nat} (hn : n < 2 ^ 64) (h : n.testBit j = true) : j < 64 := by
  rcases Nat.lt_or_ge j 64 with h1 | h1
  · exact h1
  · rw [Nat.testBit_lt_two_pow (Nat.lt_of_lt_of_le hn (Nat.pow_le_pow_right (by omega) h1))] at h; cases h
theorem arB_symm {i j : Nat} (hi : i < 64) (hj : j < 64) (h : arB i j = true) : arB j i = true := by
  simp only [arB, Bool.or_eq_true, Bool.and_eq_true, decide_eq_true_eq] at h ⊢
  omega
theorem grB_iff {p : Nat → Bool} (hp : ∀ j, p j = true → j < 64) (k : Nat) (hk : k < 64) : grB p k = true ↔ p k = true ∨ ∃ j, j < 64 ∧ arB j k = true ∧ p j = true := by
  simp only [grB, arB, Bool.or_eq_true, Bool.and_eq_true, decide_eq_true_eq]
  constructor
  · rintro ((((h | ⟨h1, h⟩) | ⟨h1, h⟩) | ⟨h1, h⟩) | ⟨h1, h⟩)
    · exact Or.inl h
    · exact Or.inr ⟨k - 8, by omega, Or.inr ⟨by omega, by omega⟩, h⟩
    · exact Or.inr ⟨k + 8, by omega, Or.inl (Or.inr ⟨by omega, by omega⟩), h⟩
    · exact Or.inr ⟨k - 1, by omega, Or.inl (Or.inl (Or.inr ⟨by omega, by omega⟩)), h⟩
    · have := hp _ h
      exact Or.inr ⟨k + 1, by omega, Or.inl (Or.inl (Or.inl ⟨by omega, by omega⟩)), h⟩
  · rintro (h | ⟨j, hj, h, hpj⟩)
    · exact Or.inl (Or.inl (Or.inl (Or.inl h)))
    · rcases h with ((⟨h1, h2⟩ | ⟨h1, h2⟩) | ⟨h1, h2⟩) | ⟨h1, h2⟩
      · subst h2; exact Or.inr ⟨by omega, hpj⟩
      · subst h2; exact Or.inl (Or.inr ⟨by omega, by simpa using hpj⟩)
      · subst h2; exact Or.inl (Or.inl (Or.inr ⟨by omega, hpj⟩))
      · subst h2; exact Or.inl (Or.inl (Or.inl (Or.inr ⟨by omega, by simpa using hpj⟩)))
/-- One round: the neighbours within a mask. -/
def nx (M S : Nat) : Nat := gr S &&& M
theorem nx_lt (M S : Nat) : nx M S < 2 ^ 64 := Nat.lt_of_le_of_lt Nat.and_le_left (gr_lt S)
theorem nx_bit {M S : Nat} (hS : S < 2 ^ 64) (k : Nat) : (nx M S).testBit k = true ↔ (S.testBit k = true ∨ ∃ j, j < 64 ∧ arB j k = true ∧ S.testBit j = true) ∧ M.testBit k = true ∧ k < 64 := by
  unfold nx
  rw [Nat.testBit_and, Bool.and_eq_true]
  constructor
  · rintro ⟨h1, h2⟩
    have hk := lt64_of (gr_lt S) h1
    rw [(isM_gr S).2 k hk, grB_iff (fun j hj => lt64_of hS hj) k hk] at h1
    exact ⟨h1, h2, hk⟩
  · rintro ⟨h1, h2, hk⟩
    rw [(isM_gr S).2 k hk, grB_iff (fun j hj => lt64_of hS hj) k hk]
    exact ⟨h1, h2⟩
theorem nx_sub (M S : Nat) : sub (nx M S) M := fun k hk => by
  unfold nx at hk
  rw [Nat.testBit_and, Bool.and_eq_true] at hk
  exact hk.2
theorem sub_nx {M S : Nat} (hS : S < 2 ^ 64) (h : sub S M) : sub S (nx M S) := fun k hk => (nx_bit hS k).2 ⟨Or.inl hk, h k hk, lt64_of hS hk⟩
/-- How many of the first n cells pass a test. -/
def cntN (p : Nat → Bool) : Nat → Nat
  | 0 => 0
  | n + 1 => cntN p n + if p n then 1 else 0
theorem cntN_le (p : Nat → Bool) : ∀ n, cntN p n ≤ n
  | 0 => Nat.le_refl _
  | n + 1 => by have := cntN_le p n; simp only [cntN]; split <;> omega
theorem cntN_mono {p q : Nat → Bool} (h : ∀ j, p j = true → q j = true) : ∀ n, cntN p n ≤ cntN q n
  | 0 => Nat.le_refl _
  | n + 1 => by
    have h1 := cntN_mono h n
    simp only [cntN]
    cases hp : p n
    · simp; omega
    · simp [h n hp]; omega
theorem cntN_lt {p q : Nat → Bool} (h : ∀ j, p j = true → q j = true) (i : Nat) (hq : q i = true) (hp : p i = false) : ∀ n, i < n → cntN p n < cntN q n
  | 0, hi => absurd hi (Nat.not_lt_zero _)
  | n + 1, hi => by
    have h1 := cntN_mono h n
    simp only [cntN]
    by_cases e : i = n
    · subst e; simp [hp, hq]; omega
    · have := cntN_lt h i hq hp n (by omega)
      cases hpn : p n
      · simp; omega
      · simp [h n hpn]; omega
def cnt (S : Nat) : Nat := cntN S.testBit 64
theorem cnt_le (S : Nat) : cnt S ≤ 64 := cntN_le _ 64
theorem cnt_lt {S T : Nat} (hS : S < 2 ^ 64) (hT : T < 2 ^ 64) (h : sub S T) (hne : S ≠ T) : cnt S < cnt T := by
  have : ∃ i, T.testBit i = true ∧ S.testBit i = false := by
    apply Classical.byContradiction
    intro hn
    apply hne
    apply Nat.eq_of_testBit_eq
    intro i
    cases hs : S.testBit i
    · cases ht : T.testBit i
      · rfl
      · exact absurd ⟨i, ht, hs⟩ hn
    · exact (h i hs).symm
  obtain ⟨i, h1, h2⟩ := this
  exact cntN_lt h i h1 h2 64 (lt64_of hT h1)
/-- The rounds of a flood. -/
def itN (M S : Nat) : Nat → Nat
  | 0 => S
  | n + 1 => nx M (itN M S n)
theorem itN_lt {M S : Nat} (hS : S < 2 ^ 64) : ∀ n, itN M S n < 2 ^ 64
  | 0 => hS
  | _ + 1 => nx_lt _ _
theorem itN_sub {M S : Nat} (h : sub S M) : ∀ n, sub (itN M S n) M
  | 0 => h
  | _ + 1 => nx_sub _ _
theorem and_pow (M k : Nat) : M &&& 2 ^ k = if M.testBit k then 2 ^ k else 0 := by
  apply Nat.eq_of_testBit_eq
  intro i
  rw [Nat.testBit_and, Nat.testBit_two_pow]
  cases hb : M.testBit k
  · by_cases e : k = i
    · subst e; simp [hb]
    · simp [e]
  · by_cases e : k = i
    · subst e; simp [hb]
    · simp [Nat.testBit_two_pow, e]
theorem itN_from {M S : Nat} (hS : S < 2 ^ 64) (h : sub S M) : ∀ n, sub S (itN M S n)
  | 0 => sub_refl _
  | n + 1 => sub_trans (itN_from hS h n) (sub_nx (itN_lt hS n) (itN_sub h n))
def fl (M S : Nat) : Nat := itN M S 64
theorem itN_stay {M S n : Nat} (h : nx M (itN M S n) = itN M S n) : ∀ k, itN M S (n + k) = itN M S n
  | 0 => rfl
  | k + 1 => by rw [← Nat.add_assoc]; show nx M (itN M S (n + k)) = _; rw [itN_stay h k, h]
theorem fl_of {M S n : Nat} (h : nx M (itN M S n) = itN M S n) (hn : n ≤ 64) : itN M S n = fl M S := by
  have := itN_stay h (64 - n)
  rw [show n + (64 - n) = 64 by omega] at this
  exact this.symm
/-- A flood ends within 64 rounds. -/
theorem itN_cnt {M S : Nat} (hS : S < 2 ^ 64) (h : sub S M) : ∀ n, (∀ k, k < n → nx M (itN M S k) ≠ itN M S k) → n ≤ cnt (itN M S n)
  | 0, _ => Nat.zero_le _
  | n + 1, hk => by
    have h1 := itN_cnt hS h n (fun k hk' => hk k (by omega))
    have h2 := cnt_lt (itN_lt hS n) (nx_lt M (itN M S n)) (sub_nx (itN_lt hS n) (itN_sub h n)) (fun e => hk n (by omega) e.symm)
    show n + 1 ≤ cnt (nx M (itN M S n))
    omega
theorem fl_fix {M S : Nat} (hS : S < 2 ^ 64) (h : sub S M) : nx M (fl M S) = fl M S := by
  apply Classical.byContradiction
  intro hne
  have all : ∀ k, k < 65 → nx M (itN M S k) ≠ itN M S k := fun k hk e => hne (by
    have := fl_of e (by omega); rw [← this, e])
  have := itN_cnt hS h 65 all
  have := cnt_le (itN M S 65)
  omega
/-- Closed within a greater mask: what lies in L has no neighbour in m outside of L. -/
def clo (m L : Nat) : Prop := ∀ j k, L.testBit j = true → arB j k = true → m.testBit k = true → k < 64 → L.testBit k = true
theorem nx_clo {m L S : Nat} (hS : S < 2 ^ 64) (hL : sub L m) (hc : clo m L) (h : sub S L) : nx m S = nx L S := by
  apply Nat.eq_of_testBit_eq
  intro k
  rw [Bool.eq_iff_iff, nx_bit hS, nx_bit hS]
  constructor
  · rintro ⟨h1, h2, hk⟩
    refine ⟨h1, ?_, hk⟩
    rcases h1 with h1 | ⟨j, _, ha, hj⟩
    · exact h k h1
    · exact hc j k (h j hj) ha h2 hk
  · rintro ⟨h1, h2, hk⟩
    exact ⟨h1, hL k h2, hk⟩
theorem clo_diff {m L s : Nat} (hm : m < 2 ^ 64) (hL : sub L m) (hc : clo m L) (hs : s < 2 ^ 64) (_ : sub s L) (hfix : nx L s = s) : clo m (dif64 L s) ∧ sub (dif64 L s) m := by
  have hLt : L < 2 ^ 64 := Nat.lt_pow_two_of_testBit _ fun i hi => by
    cases h : L.testBit i
    · rfl
    · have := lt64_of hm (hL i h); omega
  have hb : ∀ j, (dif64 L s).testBit j = true ↔ L.testBit j = true ∧ s.testBit j = false := fun j => by
    by_cases hj : j < 64
    · rw [(isM_andNot (isM_self L hLt) (isM_self s hs)).2 j hj]; simp
    · constructor
      · intro h
        exact absurd (lt64_of (isM_andNot (isM_self L hLt) (isM_self s hs)).1 h) hj
      · rintro ⟨h, _⟩
        exact absurd (lt64_of hLt h) hj
  refine ⟨fun j k hj ha hmk hk => ?_, fun j hj => hL j ((hb j).1 hj).1⟩
  obtain ⟨j1, j2⟩ := (hb j).1 hj
  have hLk := hc j k j1 ha hmk hk
  refine (hb k).2 ⟨hLk, ?_⟩
  cases hsk : s.testBit k
  · rfl
  · have : (nx L s).testBit j = true := (nx_bit hs j).2 ⟨Or.inr ⟨k, hk, arB_symm (lt64_of hLt j1) hk ha, hsk⟩, j1, lt64_of hLt j1⟩
    rw [hfix, j2] at this; cases this
theorem dif64_lt (L s : Nat) (hL : L < 2 ^ 64) : dif64 L s < 2 ^ 64 := Nat.lt_of_le_of_lt Nat.and_le_left hL
/-- The spot of the lowest cell. -/
def spot (M : Nat) : Nat := fl M (2 ^ ctz 64 M)
theorem low_sub {M : Nat} (h0 : M ≠ 0) (hM : M < 2 ^ 64) : sub (2 ^ ctz 64 M) M ∧ 2 ^ ctz 64 M < 2 ^ 64 := by
  obtain ⟨m, hm, hk⟩ := ctz_low h0 hM
  obtain ⟨h1, _, _⟩ := low_bits hm
  refine ⟨fun j hj => ?_, Nat.pow_lt_pow_right (by omega) hk⟩
  rw [Nat.testBit_two_pow, decide_eq_true_eq] at hj
  rw [← hj]; exact h1
theorem spot_facts {M : Nat} (h0 : M ≠ 0) (hM : M < 2 ^ 64) : spot M < 2 ^ 64 ∧ sub (spot M) M ∧ nx M (spot M) = spot M ∧ (spot M).testBit (ctz 64 M) = true := by
  obtain ⟨h1, h2⟩ := low_sub h0 hM
  exact ⟨itN_lt h2 64, itN_sub h1 64, fl_fix h2 h1, itN_from h2 h1 64 _ (by rw [Nat.testBit_two_pow]; simp)⟩
theorem dif_lt {M : Nat} (h0 : M ≠ 0) (hM : M < 2 ^ 64) : dif64 M (spot M) < M := by
  obtain ⟨h1, h2, _, h4⟩ := spot_facts h0 hM
  have hle : dif64 M (spot M) ≤ M := Nat.and_le_left
  rcases Nat.lt_or_ge (dif64 M (spot M)) M with h | h
  · exact h
  · have e : dif64 M (spot M) = M := Nat.le_antisymm hle h
    have hk := lt64_of h1 h4
    have t2 : (dif64 M (spot M)).testBit (ctz 64 M) = (M.testBit (ctz 64 M) && !(spot M).testBit (ctz 64 M)) := (isM_andNot (isM_self M hM) (isM_self (spot M) h1)).2 (ctz 64 M) hk
    rw [h4, e, h2 _ h4] at t2
    simp at t2
/-- The spots, from that of the lowest cell on. -/
def spL (M : Nat) : List Nat := if _ : M = 0 ∨ 2 ^ 64 ≤ M then [] else spot M :: spL (dif64 M (spot M))
termination_by M
decreasing_by exact dif_lt (by omega) (by omega)
theorem spL_zero : spL 0 = [] := by rw [spL]; simp
theorem spL_cons {M : Nat} (h0 : M ≠ 0) (hM : M < 2 ^ 64) : spL M = spot M :: spL (dif64 M (spot M)) := by
  conv => lhs; rw [spL]
  rw [dif_neg (by omega)]
theorem spL_len : ∀ M, M < 2 ^ 64 → (spL M).length ≤ cnt M := by
  intro M
  induction M using Nat.strongRecOn with
  | ind M ih =>
    intro hM
    by_cases h0 : M = 0
    · subst h0; simp [spL_zero]
    · have hd := dif_lt h0 hM
      have h1 := ih _ hd (by omega)
      have h2 : cnt (dif64 M (spot M)) < cnt M := cnt_lt (by omega) hM (fun j hj => by
        unfold dif64 at hj
        rw [Nat.testBit_and, Bool.and_eq_true] at hj; exact hj.1) (by omega)
      rw [spL_cons h0 hM, List.length_cons]; omega
theorem spL_lt : ∀ M, M < 2 ^ 64 → ∀ s, s ∈ spL M → s < 2 ^ 64 := by
  intro M
  induction M using Nat.strongRecOn with
  | ind M ih =>
    intro hM s hs
    by_cases h0 : M = 0
    · subst h0; simp [spL_zero] at hs
    · have hd := dif_lt h0 hM
      rw [spL_cons h0 hM, List.mem_cons] at hs
      rcases hs with rfl | hs
      · exact (spot_facts h0 hM).1
      · exact ih _ hd (by omega) s hs
def spI (M : Nat) : List Int := (spL M).map fun (s : Nat) => (s : Int)
theorem spI_len (M : Nat) : (spI M).length = (spL M).length := by simp [spI]
theorem spI_le (M : Nat) (hM : M < 2 ^ 64) : (spI M).length ≤ 64 := by
  rw [spI_len]; exact Nat.le_trans (spL_len M hM) (cnt_le M)
theorem spI_cons {M : Nat} (h0 : M ≠ 0) (hM : M < 2 ^ 64) : spI M = [((spot M : Nat) : Int)] ++ spI (dif64 M (spot M)) := by
  simp only [spI]; rw [spL_cons h0 hM]; simp
end Go.Proofs.YtdmlefccajaniaaDoor
