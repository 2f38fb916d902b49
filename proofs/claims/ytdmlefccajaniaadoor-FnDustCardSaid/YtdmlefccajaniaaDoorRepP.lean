/- The repair of cells: plain facts. -/
import Derived.Test.YtdmlefccajaniaaDoorSpotQ
namespace Go.Proofs.YtdmlefccajaniaaDoor
open Go.RowKit Go.Lib
/-- The neighbours of a cell outside of a mask. -/
def obM (M i : Nat) : Nat := dif64 (arM i) M
theorem obM_lt (M i : Nat) : obM M i < 2 ^ 64 := dif64_lt _ _ (arM_lt i)
theorem isM_ob (M i : Nat) (hM : M < 2 ^ 64) : isM (obM M i) (fun j => arB i j && !M.testBit j) := isM_andNot (isM_mask (arB i)) (isM_self M hM)
theorem bit_dif {L s : Nat} (hL : L < 2 ^ 64) (hs : s < 2 ^ 64) (j : Nat) : (dif64 L s).testBit j = (L.testBit j && !s.testBit j) := by
  by_cases hj : j < 64
  · exact (isM_andNot (isM_self L hL) (isM_self s hs)).2 j hj
  · have h1 : ∀ n, n < 2 ^ 64 → n.testBit j = false := fun n hn => Nat.testBit_lt_two_pow (Nat.lt_of_lt_of_le hn (Nat.pow_le_pow_right (by omega) (by omega)))
    rw [h1 _ (dif64_lt L s hL), h1 _ hL]; rfl
/-- The reference's way to the neighbours outside. -/
theorem ob_spec (M i : Nat) (hM : M < 2 ^ 64) (hi : i < 64) : dif64 (dif64 (gr (2 ^ i)) (2 ^ i)) M = obM M i := by
  have hp : 2 ^ i < 2 ^ 64 := Nat.pow_lt_pow_right (by omega) hi
  apply Nat.eq_of_testBit_eq
  intro j
  rw [bit_dif (dif64_lt _ _ (gr_lt _)) hM, bit_dif (gr_lt _) hp, obM, bit_dif (arM_lt i) hM, Nat.testBit_two_pow]
  congr 1
  by_cases hj : j < 64
  · have ha : (arM i).testBit j = arB i j := (isM_mask (arB i)).2 j hj
    rw [(isM_gr (2 ^ i)).2 j hj, ha, Bool.eq_iff_iff]
    simp only [Bool.and_eq_true, Bool.not_eq_true', decide_eq_false_iff_not]
    rw [grB_iff (fun k hk => lt64_of hp hk) j hj]
    constructor
    · rintro ⟨h | ⟨k, _, h, hk⟩, hne⟩
      · rw [Nat.testBit_two_pow, decide_eq_true_eq] at h; exact absurd h hne
      · rw [Nat.testBit_two_pow, decide_eq_true_eq] at hk; subst hk; exact h
    · intro h
      refine ⟨Or.inr ⟨i, hi, h, by rw [Nat.testBit_two_pow]; simp⟩, ?_⟩
      rintro rfl
      simp only [arB, Bool.or_eq_true, Bool.and_eq_true, decide_eq_true_eq] at h
      omega
  · have h1 : ∀ n, n < 2 ^ 64 → n.testBit j = false := fun n hn => Nat.testBit_lt_two_pow (Nat.lt_of_lt_of_le hn (Nat.pow_le_pow_right (by omega) (by omega)))
    rw [h1 _ (gr_lt _), h1 _ (arM_lt i)]; rfl
/-- The sum of the numbers at the cells of a mask below k. -/
def sumTo (p : List Int) (D : Nat) : Nat → Int
  | 0 => 0
  | k + 1 => sumTo p D k + if D.testBit k then p.getD k 0 else 0
theorem sumTo_bd (p : List Int) (D : Nat) (h : ∀ j, 0 ≤ p.getD j 0 ∧ p.getD j 0 ≤ 400) : ∀ k, 0 ≤ sumTo p D k ∧ sumTo p D k ≤ 400 * cntN D.testBit k
  | 0 => by simp [sumTo, cntN]
  | k + 1 => by
    have h1 := sumTo_bd p D h k
    have h2 := h k
    simp only [sumTo, cntN]
    split <;> omega
theorem sumTo_drop (p : List Int) (D D' t : Nat) (hD : ∀ j, D'.testBit j = (D.testBit j && decide (j ≠ t))) (ht : D.testBit t = true) : ∀ k, sumTo p D k = sumTo p D' k + if t < k then p.getD t 0 else 0
  | 0 => by simp [sumTo]
  | k + 1 => by
    have h1 := sumTo_drop p D D' t hD ht k
    simp only [sumTo]
    rw [h1, hD]
    by_cases e : k = t
    · subst e; simp [ht]
    · by_cases g : t < k
      · cases D.testBit k <;> simp [e, g, show t < k + 1 by omega] <;> omega
      · cases D.testBit k <;> simp [e, g, show ¬ t < k + 1 by omega]
theorem cntN_drop (p q : Nat → Bool) (t : Nat) (hq : ∀ j, q j = (p j && decide (j ≠ t))) (ht : p t = true) : ∀ k, cntN p k = cntN q k + if t < k then 1 else 0
  | 0 => by simp [cntN]
  | k + 1 => by
    have h1 := cntN_drop p q t hq ht k
    simp only [cntN]
    rw [h1, hq]
    by_cases e : k = t
    · subst e; simp [ht]
    · by_cases g : t < k
      · cases p k <;> simp [e, g, show t < k + 1 by omega] <;> omega
      · cases p k <;> simp [e, g, show ¬ t < k + 1 by omega]
/-- The sum over the first k cells of a mask's list. -/
def sumL (p : List Int) (l : List Nat) : Int := (l.map fun i => p.getD i 0).sum
theorem sumL_bits (p : List Int) : ∀ D, D < 2 ^ 64 → sumL p (bitsL D) = sumTo p D 64 ∧ (bitsL D).length = cnt D := by
  intro D
  induction D using Nat.strongRecOn with
  | ind D ih =>
    intro hD
    by_cases h : D = 0
    · subst h
      rw [bitsL_zero]
      have z : ∀ k, sumTo p 0 k = 0 ∧ cntN (Nat.testBit 0) k = 0 := fun k => by
        induction k with
        | zero => exact ⟨rfl, rfl⟩
        | succ k ihk => simp only [sumTo, cntN, ihk.1, ihk.2]; simp
      exact ⟨by rw [(z 64).1]; rfl, by rw [cnt, (z 64).2]; rfl⟩
    · obtain ⟨m, hm, hk⟩ := ctz_low h hD
      obtain ⟨b1, _, b3⟩ := low_bits hm
      have hl := and_pred_lt D h
      obtain ⟨i1, i2⟩ := ih _ hl (by omega)
      rw [bitsL_cons D h]
      have s1 := sumTo_drop p D (D &&& (D - 1)) (ctz 64 D) b3 b1 64
      have s2 := cntN_drop D.testBit (D &&& (D - 1)).testBit (ctz 64 D) b3 b1 64
      rw [if_pos hk] at s1 s2
      refine ⟨?_, ?_⟩
      · rw [s1, ← i1]; simp only [sumL, List.map_cons, List.sum_cons]; omega
      · rw [List.length_cons, i2, cnt, cnt, s2]
theorem sumL_take (p : List Int) (l : List Nat) (k : Nat) (h : k < l.length) : sumL p (l.take (k + 1)) = sumL p (l.take k) + p.getD (l.getD k 0) 0 := by
  unfold sumL
  rw [List.take_succ_eq_append_getElem h, List.map_append, List.sum_append]
  simp [List.getD_eq_getElem?_getD, h]
theorem sumL_bd (p : List Int) (h : ∀ j, 0 ≤ p.getD j 0 ∧ p.getD j 0 ≤ 400) (l : List Nat) : ∀ k, k ≤ l.length → 0 ≤ sumL p (l.take k) ∧ sumL p (l.take k) ≤ 400 * k
  | 0, _ => by simp [sumL]
  | k + 1, hk => by
    have h1 := sumL_bd p h l k (by omega)
    have h2 := h (l.getD k 0)
    rw [sumL_take p l k (by omega)]; omega
/-- The number of a cell behind a round. -/
def qv (p : List Int) (M i : Nat) : Int := if obM M i = 0 then p.getD i 0 else sumTo p (obM M i) 64 / (cnt (obM M i) : Nat)
theorem cnt_pos {D : Nat} (hD : D < 2 ^ 64) (h : D ≠ 0) : 0 < cnt D := by
  have := (sumL_bits [] D hD).2
  rw [bitsL_cons D h, List.length_cons] at this
  omega
theorem cnt_zero {D : Nat} (hD : D < 2 ^ 64) (h : cnt D = 0) : D = 0 := by
  apply Classical.byContradiction
  intro hn
  have := cnt_pos hD hn
  omega
theorem qv_bd (p : List Int) (h : ∀ j, 0 ≤ p.getD j 0 ∧ p.getD j 0 ≤ 400) (M i : Nat) : 0 ≤ qv p M i ∧ qv p M i ≤ 400 := by
  unfold qv
  split
  · exact h i
  · rename_i hne
    have hc := cnt_pos (obM_lt M i) hne
    obtain ⟨s1, s2⟩ := sumTo_bd p (obM M i) h 64
    refine ⟨Int.ediv_nonneg s1 (by omega), ?_⟩
    apply Int.ediv_le_of_le_mul (by omega)
    have : cnt (obM M i) = cntN (obM M i).testBit 64 := rfl
    rw [this]; omega
/-- A print behind a round, and the mask that is left. -/
def rp (p : List Int) (M : Nat) : List Int := (List.range 64).map fun j => if M.testBit j then qv p M j else p.getD j 0
def rm (M : Nat) : Nat := maskOf (fun j => M.testBit j && decide (obM M j = 0)) 64
theorem rp_len (p : List Int) (M : Nat) : (rp p M).length = 64 := by simp [rp]
theorem rp_get (p : List Int) (M j : Nat) (hj : j < 64) : (rp p M).getD j 0 = if M.testBit j then qv p M j else p.getD j 0 := by
  simp [rp, List.getD_eq_getElem?_getD, hj]
theorem rp_bd (p : List Int) (h : ∀ j, 0 ≤ p.getD j 0 ∧ p.getD j 0 ≤ 400) (M : Nat) : ∀ j, 0 ≤ (rp p M).getD j 0 ∧ (rp p M).getD j 0 ≤ 400 := fun j => by
  by_cases hj : j < 64
  · rw [rp_get p M j hj]
    split
    · exact qv_bd p h M j
    · exact h j
  · rw [List.getD_eq_getElem?_getD, List.getElem?_eq_none (by rw [rp_len]; omega)]; simp
theorem rp_of {p P : List Int} {M : Nat} (hl : P.length = 64) (h : ∀ j, j < 64 → P.getD j 0 = if M.testBit j then qv p M j else p.getD j 0) : P = rp p M := by
  apply List.ext_getElem (by rw [hl, rp_len])
  intro j h1 h2
  have := h j (by omega)
  rw [← rp_get p M j (by omega)] at this
  simpa [List.getD_eq_getElem?_getD, h1, h2] using this
theorem rm_lt (M : Nat) : rm M < 2 ^ 64 := maskOf_lt _ 64
theorem isM_rm (M : Nat) : isM (rm M) (fun j => M.testBit j && decide (obM M j = 0)) := isM_mask _
/-- Some cell of a mask that is neither empty nor full lies at its edge. -/
theorem rm_less {M : Nat} (hM : M < 2 ^ 64) (h0 : M ≠ 0) (h1 : M ≠ 18446744073709551615) : cnt (rm M) < cnt M := by
  refine cnt_lt (rm_lt M) hM (fun j hj => ?_) (fun e => ?_)
  · have := lt64_of (rm_lt M) hj
    rw [(isM_rm M).2 j this, Bool.and_eq_true] at hj
    exact hj.1
  · have cl : ∀ i, M.testBit i = true → ∀ j, j < 64 → arB i j = true → M.testBit j = true := fun i hi j hj ha => by
      have hi64 := lt64_of hM hi
      have h2 : (rm M).testBit i = true := by rw [e]; exact hi
      rw [(isM_rm M).2 i hi64, Bool.and_eq_true, decide_eq_true_eq] at h2
      have h3 := (isM_ob M i hM).2 j hj
      rw [h2.2, Nat.zero_testBit] at h3
      cases hb : M.testBit j
      · simp [ha, hb] at h3
      · rfl
    have down : ∀ i, M.testBit i = true → M.testBit 0 = true := by
      intro i
      induction i using Nat.strongRecOn with
      | ind i ih =>
        intro hi
        have hi64 := lt64_of hM hi
        by_cases z : i = 0
        · rwa [z] at hi
        · by_cases g : 0 < i % 8
          · exact ih (i - 1) (by omega) (cl i hi (i - 1) (by omega) (by simp only [arB, Bool.or_eq_true, Bool.and_eq_true, decide_eq_true_eq]; omega))
          · exact ih (i - 8) (by omega) (cl i hi (i - 8) (by omega) (by simp only [arB, Bool.or_eq_true, Bool.and_eq_true, decide_eq_true_eq]; omega))
    have ex : ∃ i, M.testBit i = true := by
      obtain ⟨m, hm, _⟩ := ctz_low h0 hM
      exact ⟨_, (low_bits hm).1⟩
    obtain ⟨i, hi⟩ := ex
    have z := down i hi
    have up : ∀ j, j < 64 → M.testBit j = true := by
      intro j
      induction j using Nat.strongRecOn with
      | ind j ih =>
        intro hj
        by_cases e0 : j = 0
        · rw [e0]; exact z
        · by_cases g : 0 < j % 8
          · exact cl (j - 1) (ih (j - 1) (by omega) (by omega)) j hj (by simp only [arB, Bool.or_eq_true, Bool.and_eq_true, decide_eq_true_eq]; omega)
          · exact cl (j - 8) (ih (j - 8) (by omega) (by omega)) j hj (by simp only [arB, Bool.or_eq_true, Bool.and_eq_true, decide_eq_true_eq]; omega)
    apply h1
    have e1 : M = maskOf (fun _ => true) 64 := isM_eq ⟨hM, up⟩
    have e2 : 18446744073709551615 = maskOf (fun _ => true) 64 := isM_eq isM_all
    rw [e1, ← e2]
end Go.Proofs.YtdmlefccajaniaaDoor
