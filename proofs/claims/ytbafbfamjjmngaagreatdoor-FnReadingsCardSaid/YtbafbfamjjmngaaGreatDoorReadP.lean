/- FnReadings: the plain laws. -/
import Derived.Test.YtbafbfamjjmngaaGreatDoorMean
import Derived.Test.YtbafbfamjjmngaaGreatDoorMedR
import Derived.Test.YtbafbfamjjmngaaGreatDoorAlikeC
namespace Go.Proofs.YtbafbfamjjmngaaGreatDoor
open Go.RowKit
theorem wt_mul {c x m : Int} (hc : 0 ≤ c) (h : m ≤ x) : m * c ≤ c * x := by
  rw [Int.mul_comm m c]; exact Int.mul_le_mul_of_nonneg_left h hc
theorem wt_mul2 {c x m : Int} (hc : 0 ≤ c) (h : x ≤ m) : c * x ≤ m * c := by
  rw [Int.mul_comm m c]; exact Int.mul_le_mul_of_nonneg_left h hc
theorem sumC_ge (c : Nat → Int) (hc : Wt c) (xs : List Int) (m : Int) : ∀ n, (∀ k, k < n → m ≤ xs.getD k 0) → m * cnt c n ≤ sumC c xs n
  | 0, _ => by simp [cnt, sumC]
  | n + 1, h => by
    have ih := sumC_ge c hc xs m n (fun k hk => h k (by omega))
    have := wt_mul (hc n).1 (h n (by omega))
    rw [cnt, sumC, Int.mul_add]
    omega
theorem sumC_le (c : Nat → Int) (hc : Wt c) (xs : List Int) (m : Int) : ∀ n, (∀ k, k < n → xs.getD k 0 ≤ m) → sumC c xs n ≤ m * cnt c n
  | 0, _ => by simp [cnt, sumC]
  | n + 1, h => by
    have ih := sumC_le c hc xs m n (fun k hk => h k (by omega))
    have := wt_mul2 (hc n).1 (h n (by omega))
    rw [cnt, sumC, Int.mul_add]
    omega
/-- A weighted mean lies between the least and the greatest reading. -/
theorem mean_between (c : Nat → Int) (hc : Wt c) (hp : 0 < cnt c 24) (xs : List Int) : minK xs 24 ≤ meanOf c xs ∧ meanOf c xs ≤ maxK xs 24 := by
  have h1 := sumC_ge c hc xs (minK xs 24) 24 (fun k hk => minK_le xs 24 k hk)
  have h2 := sumC_le c hc xs (maxK xs 24) 24 (fun k hk => le_maxK xs 24 k hk)
  unfold meanOf
  exact ⟨(Int.le_ediv_iff_mul_le hp).2 h1, Int.ediv_le_of_le_mul hp h2⟩
theorem cnt_one24 : cnt one 24 = 24 := by decide
theorem cnt_heavy24 : 0 < cnt heavy 24 := by decide
/-- How many of the first k readings are below (at most) m. -/
def lessK (xs : List Int) (m : Int) : Nat → Nat
  | 0 => 0
  | k + 1 => if xs.getD k 0 < m then lessK xs m k + 1 else lessK xs m k
def sameK (xs : List Int) (m : Int) : Nat → Nat
  | 0 => 0
  | k + 1 => if xs.getD k 0 ≤ m then sameK xs m k + 1 else sameK xs m k
theorem lessK_le (xs : List Int) (m : Int) : ∀ k, lessK xs m k ≤ k
  | 0 => Nat.le_refl _
  | k + 1 => by have := lessK_le xs m k; unfold lessK; split <;> omega
theorem sameK_le (xs : List Int) (m : Int) : ∀ k, sameK xs m k ≤ k
  | 0 => Nat.le_refl _
  | k + 1 => by have := sameK_le xs m k; unfold sameK; split <;> omega
theorem lessK_count (xs : List Int) (m : Int) : ∀ k, k ≤ xs.length → lessK xs m k = (xs.take k).countP (fun x => decide (x < m))
  | 0, _ => by simp [lessK]
  | k + 1, h => by
    have ih := lessK_count xs m k (by omega)
    have e : xs.take (k + 1) = xs.take k ++ [xs.getD k 0] := by
      rw [List.take_add_one, List.getD_eq_getElem?_getD, List.getElem?_eq_getElem (by omega)]; rfl
    rw [e, List.countP_append, ← ih, lessK]
    by_cases hx : xs.getD k 0 < m
    · rw [if_pos hx]; simp only [List.countP_singleton, decide_eq_true hx, if_true]
    · rw [if_neg hx]; simp only [List.countP_singleton, decide_eq_false hx]; simp
theorem sameK_count (xs : List Int) (m : Int) : ∀ k, k ≤ xs.length → sameK xs m k = (xs.take k).countP (fun x => decide (x ≤ m))
  | 0, _ => by simp [sameK]
  | k + 1, h => by
    have ih := sameK_count xs m k (by omega)
    have e : xs.take (k + 1) = xs.take k ++ [xs.getD k 0] := by
      rw [List.take_add_one, List.getD_eq_getElem?_getD, List.getElem?_eq_getElem (by omega)]; rfl
    rw [e, List.countP_append, ← ih, sameK]
    by_cases hx : xs.getD k 0 ≤ m
    · rw [if_pos hx]; simp only [List.countP_singleton, decide_eq_true hx, if_true]
    · rw [if_neg hx]; simp only [List.countP_singleton, decide_eq_false hx]; simp
theorem less_med {xs : List Int} (hl : xs.length = 24) (hok : okS xs = true) : lessK xs ((sortN xs 61).getD 11 0) 24 ≤ 11 := by
  have hp := sortN_perm xs hok
  have hL := sortN_len24 xs hl hok
  have hs := sortN_sorted xs 61
  rw [lessK_count xs _ 24 (by omega), List.take_of_length_le (by omega), ← hp.countP_eq]
  generalize sortN xs 61 = S at *
  rw [← List.take_append_drop 11 S, List.countP_append]
  have e1 := List.countP_le_length (p := fun x => decide (x < (List.take 11 S ++ List.drop 11 S).getD 11 0)) (l := S.take 11)
  have e2 : (S.drop 11).countP (fun x => decide (x < (List.take 11 S ++ List.drop 11 S).getD 11 0)) = 0 := by
    rw [List.countP_eq_zero]
    intro x hx
    rw [List.take_append_drop]
    obtain ⟨i, hi, rfl⟩ := List.getElem_of_mem hx
    rw [List.length_drop] at hi
    have := sorted_getD hs 11 (11 + i) (by omega) (by omega)
    rw [List.getElem_drop]
    have e : S.getD (11 + i) 0 = S[11 + i] := by simp [List.getD_eq_getElem?_getD, show 11 + i < S.length by omega]
    rw [e] at this
    simp only [decide_eq_true_eq]
    omega
  rw [e2]
  rw [List.length_take] at e1
  omega
theorem same_med {xs : List Int} (hl : xs.length = 24) (hok : okS xs = true) : 12 ≤ sameK xs ((sortN xs 61).getD 11 0) 24 := by
  have hp := sortN_perm xs hok
  have hL := sortN_len24 xs hl hok
  have hs := sortN_sorted xs 61
  rw [sameK_count xs _ 24 (by omega), List.take_of_length_le (by omega), ← hp.countP_eq]
  generalize sortN xs 61 = S at *
  obtain ⟨m, hm⟩ : ∃ m, m = S.getD 11 0 := ⟨_, rfl⟩
  rw [← hm]
  have e1 : (S.take 12).countP (fun x => decide (x ≤ m)) = (S.take 12).length := by
    rw [List.countP_eq_length]
    intro x hx
    obtain ⟨i, hi, rfl⟩ := List.getElem_of_mem hx
    rw [List.length_take] at hi
    have := sorted_getD hs i 11 (by omega) (by omega)
    rw [List.getElem_take]
    have e : S.getD i 0 = S[i] := by simp [List.getD_eq_getElem?_getD, show i < S.length by omega]
    rw [e] at this
    simp only [decide_eq_true_eq]
    omega
  have e2 : S.countP (fun x => decide (x ≤ m)) = (S.take 12).countP (fun x => decide (x ≤ m)) + (S.drop 12).countP (fun x => decide (x ≤ m)) := by
    rw [← List.countP_append, List.take_append_drop]
  rw [e2, e1, List.length_take]
  omega
theorem sum_mean (xs : List Int) : (sumC one xs 24).ediv 24 = meanOf one xs := by unfold meanOf; rw [cnt_one24]; rfl
theorem sumOne_bd {xs : List Int} (hok : okS xs = true) : ∀ k, 0 ≤ sumC one xs k ∧ sumC one xs k ≤ 60 * k
  | 0 => by simp [sumC]
  | k + 1 => by
    have ih := sumOne_bd hok k
    have h := okS_get hok k
    rw [sumC, one]
    omega
theorem sumOne_succ (xs : List Int) (k : Nat) : sumC one xs (k + 1) = sumC one xs k + xs.getD k 0 := by rw [sumC, one, Int.one_mul]
/-- What the law asks of the contrast. -/
theorem con_facts {xs : List Int} (hl : xs.length = 24) (hok : okS xs = true) (a b : Int) (a0 : 0 ≤ a) (a1 : a < 12) (b0 : 0 ≤ b) (b1 : b < 12) :
    ∃ x y : Int, conV xs a b = (x, 0) ∧ conV xs (a + 1) b = (y, 0) ∧ conV xs 0 0 = (maxK xs 24 - minK xs 24, 0) ∧ x ≤ maxK xs 24 - minK xs 24 ∧ y ≤ x ∧ 0 ≤ y := by
  obtain ⟨p, rfl⟩ := Int.eq_ofNat_of_zero_le a0
  obtain ⟨q, rfl⟩ := Int.eq_ofNat_of_zero_le b0
  have hL := sortN_len24 xs hl hok
  have hs := sortN_sorted xs 61
  have e1 := conV_in xs p q hok (by omega)
  have e2 := conV_in xs (p + 1) q hok (by omega)
  have e3 := conV_in xs 0 0 hok (by omega)
  have m1 := sorted_getD hs 0 p (by omega) (by omega)
  have m2 := sorted_getD hs p (p + 1) (by omega) (by omega)
  have m3 := sorted_getD hs (23 - q) 23 (by omega) (by omega)
  have m4 := sorted_getD hs (p + 1) (23 - q) (by omega) (by omega)
  rw [sort_first xs hl hok] at m1 e3
  rw [sort_last xs hl hok] at m3
  have e4 : conV xs 0 0 = (maxK xs 24 - minK xs 24, 0) := by
    have h := e3
    rw [show (23 - 0 : Nat) = 23 from rfl, sort_last xs hl hok] at h
    exact h
  exact ⟨_, _, e1, e2, e4, by omega, by omega, by omega⟩
/-- The fields as numbers. -/
noncomputable def alN (xs : List Int) (wi : Int) : Nat → List Nat
  | 0 => []
  | k + 1 => if (alS xs wi k).1.testBit k then alN xs wi k else alN xs wi k ++ [fieldOf xs wi k]
theorem alN_yes {xs : List Int} {wi : Int} {k : Nat} (h : (alS xs wi k).1.testBit k = true) : alN xs wi (k + 1) = alN xs wi k := if_pos h
theorem alN_no {xs : List Int} {wi : Int} {k : Nat} (h : ¬ (alS xs wi k).1.testBit k = true) : alN xs wi (k + 1) = alN xs wi k ++ [fieldOf xs wi k] := if_neg h
theorem alS_yes {xs : List Int} {wi : Int} {k : Nat} (h : (alS xs wi k).1.testBit k = true) : alS xs wi (k + 1) = alS xs wi k := if_pos h
theorem alS_no {xs : List Int} {wi : Int} {k : Nat} (h : ¬ (alS xs wi k).1.testBit k = true) : alS xs wi (k + 1) = ((alS xs wi k).1 ||| fieldOf xs wi k, (alS xs wi k).2 ++ [(fieldOf xs wi k : Int)]) := if_neg h
theorem alN_eq (xs : List Int) (wi : Int) : ∀ k, (alS xs wi k).2 = (alN xs wi k).map fun n : Nat => (n : Int)
  | 0 => rfl
  | k + 1 => by
    have ih := alN_eq xs wi k
    by_cases h : (alS xs wi k).1.testBit k = true
    · rw [alN_yes h, alS_yes h]; exact ih
    · rw [alN_no h, alS_no h, List.map_append, ← ih]; rfl
def orN : List Nat → Nat
  | [] => 0
  | a :: l => a ||| orN l
theorem orN_append : ∀ a b : List Nat, orN (a ++ b) = orN a ||| orN b
  | [], b => by simp [orN]
  | x :: a, b => by rw [List.cons_append, orN, orN, orN_append a b, Nat.or_assoc]
theorem orN_al (xs : List Int) (wi : Int) : ∀ k, orN (alN xs wi k) = (alS xs wi k).1
  | 0 => rfl
  | k + 1 => by
    have ih := orN_al xs wi k
    by_cases h : (alS xs wi k).1.testBit k = true
    · rw [alN_yes h, alS_yes h]; exact ih
    · rw [alN_no h, alS_no h, orN_append, ih]; simp [orN]
/-- Each field is not empty, lies apart from those ahead of it, and holds what is alike. -/
structure AlOk (xs : List Int) (wi : Int) (L : List Nat) : Prop where
  ne : ∀ i, i < L.length → L.getD i 0 ≠ 0
  lt : ∀ i, i < L.length → L.getD i 0 < 2 ^ 24
  apart : ∀ i, i < L.length → orN (L.take i) &&& L.getD i 0 = 0
  closed : ∀ i, i < L.length → ∀ j c, (L.getD i 0).testBit j = true → c < 24 → alk xs wi j c = true → (L.getD i 0).testBit c = true
theorem al_ok (xs : List Int) (wi : Int) : ∀ k, k ≤ 24 → AlOk xs wi (alN xs wi k)
  | 0, _ => ⟨fun i h => absurd h (Nat.not_lt_zero _), fun i h => absurd h (Nat.not_lt_zero _), fun i h => absurd h (Nat.not_lt_zero _), fun i h => absurd h (Nat.not_lt_zero _)⟩
  | k + 1, hk => by
    have ih := al_ok xs wi k (by omega)
    have ho := orN_al xs wi k
    have hap := fun (h : (alS xs wi k).1.testBit k = false) j (hr : Rch xs wi k j) => alS_apart (xs := xs) (wi := wi) (k := k) (i := k) (j := j) (by omega) h hr
    by_cases hb : (alS xs wi k).1.testBit k = true
    · rw [alN_yes hb]; exact ih
    · rw [alN_no hb]
      have hb' : (alS xs wi k).1.testBit k = false := by simpa using hb
      have hap := hap hb'
      rw [← ho] at hap
      generalize alN xs wi k = L at *
      have g1 : ∀ i, i < L.length → (L ++ [fieldOf xs wi k]).getD i 0 = L.getD i 0 := fun i h => by
        rw [List.getD_eq_getElem?_getD, List.getElem?_append_left h, ← List.getD_eq_getElem?_getD]
      have g2 : (L ++ [fieldOf xs wi k]).getD L.length 0 = fieldOf xs wi k := by simp
      have split : ∀ i, i < (L ++ [fieldOf xs wi k]).length → i < L.length ∨ i = L.length := fun i h => by rw [List.length_append, List.length_singleton] at h; omega
      refine ⟨fun i h => ?_, fun i h => ?_, fun i h => ?_, fun i h => ?_⟩
      · rcases split i h with h | rfl
        · rw [g1 i h]; exact ih.ne i h
        · rw [g2]
          intro h0
          have := (fieldOf_bit xs wi k k).2 ⟨by omega, .base⟩
          rw [h0] at this; simp at this
      · rcases split i h with h | rfl
        · rw [g1 i h]; exact ih.lt i h
        · rw [g2]; exact fieldOf_lt xs wi k
      · rcases split i h with h | rfl
        · rw [g1 i h, List.take_append_of_le_length (by omega)]; exact ih.apart i h
        · rw [g2, List.take_left' rfl]
          apply Nat.eq_of_testBit_eq
          intro j
          rw [Nat.testBit_and, Nat.zero_testBit]
          cases hf : (fieldOf xs wi k).testBit j
          · simp
          · rw [hap j ((fieldOf_bit xs wi k j).1 hf).2]; rfl
      · rcases split i h with h | rfl
        · rw [g1 i h]; exact ih.closed i h
        · rw [g2]; exact fun j c => fieldOf_closed xs wi k j c
theorem al_all (xs : List Int) (wi : Int) : ∀ k, k ≤ 24 → ∀ j, j < k → (alS xs wi k).1.testBit j = true
  | 0, _, j, h => absurd h (Nat.not_lt_zero _)
  | k + 1, hk, j, h => by
    have ih := al_all xs wi k (by omega)
    by_cases hb : (alS xs wi k).1.testBit k = true
    · rw [alS_yes hb]
      by_cases e : j = k
      · subst e; exact hb
      · exact ih j (by omega)
    · rw [alS_no hb]
      show ((alS xs wi k).1 ||| fieldOf xs wi k).testBit j = true
      rw [Nat.testBit_or]
      by_cases e : j = k
      · subst e
        rw [(fieldOf_bit xs wi j j).2 ⟨by omega, .base⟩]; simp
      · rw [ih j (by omega)]; rfl
theorem al_full (xs : List Int) (wi : Int) : orN (alN xs wi 24) = 16777215 := by
  rw [orN_al]
  apply Nat.eq_of_testBit_eq
  intro j
  by_cases h : j < 24
  · rw [al_all xs wi 24 (Nat.le_refl _) j h]
    rw [show (16777215 : Nat) = 2 ^ 24 - 1 from rfl, Nat.testBit_two_pow_sub_one]
    simp [h]
  · rw [Nat.testBit_lt_two_pow (Nat.lt_of_lt_of_le (alS_lt xs wi 24) (Nat.pow_le_pow_right (by omega) (by omega)))]
    rw [show (16777215 : Nat) = 2 ^ 24 - 1 from rfl, Nat.testBit_two_pow_sub_one]
    simp [h]
theorem alN_len (xs : List Int) (wi : Int) : (alN xs wi 24).length ≤ 24 := by
  have := alS_len xs wi 24
  rw [alN_eq, List.length_map] at this
  exact this
/-- Where two cells beside each other are alike, both are in the field or none. -/
theorem al_right {xs : List Int} {wi : Int} {L : List Nat} (h : AlOk xs wi L) {i k : Nat} (hi : i < L.length) (hb : (L.getD i 0).testBit k = true) (h5 : k % 6 < 5) (hk : k < 24) (h1 : xs.getD k 0 - xs.getD (k + 1) 0 ≤ wi) (h2 : xs.getD (k + 1) 0 - xs.getD k 0 ≤ wi) : (L.getD i 0).testBit (k + 1) = true := by
  refine h.closed i hi k (k + 1) hb (by omega) ?_
  unfold alk
  rw [(bes_iff k (k + 1)).2 (Or.inr (Or.inl ⟨h5, rfl⟩)), decide_eq_true h1, decide_eq_true h2]; rfl
theorem al_down {xs : List Int} {wi : Int} {L : List Nat} (h : AlOk xs wi L) {i k : Nat} (hi : i < L.length) (hb : (L.getD i 0).testBit k = true) (h5 : k < 18) (h1 : xs.getD k 0 - xs.getD (k + 6) 0 ≤ wi) (h2 : xs.getD (k + 6) 0 - xs.getD k 0 ≤ wi) : (L.getD i 0).testBit (k + 6) = true := by
  refine h.closed i hi k (k + 6) hb (by omega) ?_
  unfold alk
  rw [(bes_iff k (k + 6)).2 (Or.inr (Or.inr (Or.inr ⟨h5, rfl⟩))), decide_eq_true h1, decide_eq_true h2]; rfl
end Go.Proofs.YtbafbfamjjmngaaGreatDoor
