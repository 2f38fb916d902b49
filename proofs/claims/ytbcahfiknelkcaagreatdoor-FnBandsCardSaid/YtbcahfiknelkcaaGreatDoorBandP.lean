/- FnBands: the plain laws. -/
import Derived.Test.YtbcahfiknelkcaaGreatDoorCrvP
namespace Go.Proofs.YtbcahfiknelkcaaGreatDoor
/-! Times and thirds. -/
def tab3 (n : Nat) : Int := if n = 0 then 1000 else if n = 1 then 1260 else 1587
/-- The time of k thirds. -/
def timK (k : Nat) : Int := tab3 (k % 3) * 2 ^ (k / 3)
theorem tim_up : ∀ k : Fin 36, timK k.val < timK (k.val + 1) := by decide
theorem tim_zero : timK 0 = 1000 := by decide
theorem tim_36 : timK 36 = 4096000 := by decide
theorem tim_lt {k : Nat} (h : k < 36) : timK k < timK (k + 1) := tim_up ⟨k, h⟩
theorem tim_add : ∀ d k : Nat, k + d ≤ 36 → timK k ≤ timK (k + d)
  | 0, _, _ => Int.le_refl _
  | d + 1, k, h => by
    have h1 := tim_add d k (by omega)
    have h2 := tim_lt (k := k + d) (by omega)
    show timK k ≤ timK (k + d + 1)
    omega
theorem tim_mono {j k : Nat} (h : j ≤ k) (hk : k ≤ 36) : timK j ≤ timK k := by
  obtain ⟨d, rfl⟩ := Nat.exists_eq_add_of_le h
  exact tim_add d j hk
theorem tim_bd {k : Nat} (h : k ≤ 36) : 1000 ≤ timK k ∧ timK k ≤ 4096000 := by
  have h1 := tim_mono (Nat.zero_le k) h
  have h2 := tim_mono h (Nat.le_refl 36)
  rw [tim_zero] at h1
  rw [tim_36] at h2
  exact ⟨h1, h2⟩
/-- The greatest thirds below k + 1 whose time is at most s. -/
def tinK (s : Int) : Nat → Nat
  | 0 => 0
  | k + 1 => if timK (k + 1) ≤ s then k + 1 else tinK s k
theorem tinK_le (s : Int) : ∀ k, tinK s k ≤ k
  | 0 => Nat.le_refl _
  | k + 1 => by have := tinK_le s k; unfold tinK; split <;> omega
theorem tinK_time {s : Int} (h : 1000 ≤ s) : ∀ k, timK (tinK s k) ≤ s
  | 0 => by rw [tinK, tim_zero]; exact h
  | k + 1 => by
    unfold tinK
    split
    · assumption
    · exact tinK_time h k
theorem tinK_max {s : Int} : ∀ k, ∀ j, j ≤ k → timK j ≤ s → j ≤ tinK s k
  | 0, j, h, _ => h
  | k + 1, j, h, ht => by
    unfold tinK
    split
    · exact h
    · rename_i hn
      by_cases e : j = k + 1
      · subst e; exact absurd ht hn
      · exact tinK_max k j (by omega) ht
def tinV (s : Int) : Nat := tinK s 36
theorem tin_le (s : Int) : tinV s ≤ 36 := tinK_le s 36
/-- Where the loop that goes up stops. -/
theorem tin_up {s : Int} (hs : 1000 ≤ s) {k : Nat} (hk : k ≤ 36) (h : timK k ≤ s) (hn : k = 36 ∨ s < timK (k + 1)) : tinV s = k := by
  have h1 := tinK_max 36 k hk h
  have h2 := tinK_time hs 36
  have h3 := tin_le s
  unfold tinV at *
  rcases hn with rfl | hn
  · omega
  · rcases Nat.lt_or_ge k (tinK s 36) with hlt | hge
    · have := tim_mono (show k + 1 ≤ tinK s 36 from hlt) h3
      omega
    · omega
/-- Where the loop that goes down stops. -/
theorem tin_down {s : Int} {k : Nat} (hk : k ≤ 36) (h : timK k ≤ s) (hs : 1000 ≤ s) (hn : k = 36 ∨ s < timK (k + 1)) : tinV s = k := tin_up hs hk h hn
theorem tin_mono {a b : Int} (ha : 1000 ≤ a) (h : a ≤ b) : tinV a ≤ tinV b := by
  have h1 : timK (tinV a) ≤ a := tinK_time ha 36
  exact tinK_max 36 _ (tin_le a) (by omega)
theorem tin_tim {k : Nat} (h : k ≤ 36) : k ≤ tinV (timK k) := tinK_max 36 k h (Int.le_refl _)
/-! Lights. -/
/-- The thirds of the band i of a strip. -/
def ligK (a e : Int) (i : Nat) : Int := a + e * i
def ligL (a e : Int) (n : Nat) : List Int := (List.range n).map fun i => ligK a e i
theorem ligL_len (a e : Int) (n : Nat) : (ligL a e n).length = n := by simp [ligL]
theorem ligL_get (a e : Int) (n i : Nat) (h : i < n) : (ligL a e n).getD i 0 = ligK a e i := by simp [ligL, List.getD_eq_getElem?_getD, h]
theorem ligL_succ (a e : Int) (n : Nat) : ligL a e (n + 1) = ligL a e n ++ [ligK a e n] := by simp [ligL, List.range_succ]
/-- The sum of the times of the first n bands. -/
def sumT (a e : Int) : Nat → Int
  | 0 => 0
  | n + 1 => sumT a e n + timK (ligK a e n).toNat
def covK (a e : Int) (i : Nat) : Int := (tinV (sumT a e (i + 1)) : Nat)
def covL (a e : Int) (n : Nat) : List Int := (List.range n).map fun i => covK a e i
theorem covL_len (a e : Int) (n : Nat) : (covL a e n).length = n := by simp [covL]
theorem covL_get (a e : Int) (n i : Nat) (h : i < n) : (covL a e n).getD i 0 = covK a e i := by simp [covL, List.getD_eq_getElem?_getD, h]
theorem covL_succ (a e : Int) (n : Nat) : covL a e (n + 1) = covL a e n ++ [covK a e n] := by simp [covL, List.range_succ]
/-- A valid strip: its lights lie from 0 to 36. -/
structure Stp (a e : Int) (n : Nat) : Prop where
  a0 : 0 ≤ a
  a1 : a ≤ 36
  e1 : 1 ≤ e
  e9 : e ≤ 9
  n1 : 1 ≤ n
  n20 : n ≤ 20
  last : a + e * ((n : Int) - 1) ≤ 36
theorem lig_step (a e : Int) (i : Nat) : ligK a e (i + 1) = ligK a e i + e := by
  unfold ligK; rw [show ((i + 1 : Nat) : Int) = (i : Int) + 1 by omega, Int.mul_add, Int.mul_one]; omega
theorem lig_mono {a e : Int} (he : 1 ≤ e) (i : Nat) : ∀ d, ligK a e i ≤ ligK a e (i + d)
  | 0 => Int.le_refl _
  | d + 1 => by
    have h1 := lig_mono (a := a) he i d
    have h2 := lig_step a e (i + d)
    show ligK a e i ≤ ligK a e (i + d + 1)
    omega
theorem lig_bd {a e : Int} {n : Nat} (h : Stp a e n) {i : Nat} (hi : i < n) : 0 ≤ ligK a e i ∧ ligK a e i ≤ 36 := by
  have h0 := lig_mono h.e1 0 i (a := a)
  rw [Nat.zero_add] at h0
  have h1 := lig_mono h.e1 i (n - 1 - i) (a := a)
  rw [show i + (n - 1 - i) = n - 1 by omega] at h1
  have e0 : ligK a e 0 = a := by unfold ligK; simp
  have e1 : ligK a e (n - 1) = a + e * ((n : Int) - 1) := by unfold ligK; rw [show ((n - 1 : Nat) : Int) = (n : Int) - 1 by have := h.n1; omega]
  have := h.a0
  have := h.last
  omega
theorem sumT_bd {a e : Int} {n : Nat} (h : Stp a e n) : ∀ i, i ≤ n → 0 ≤ sumT a e i ∧ sumT a e i ≤ 4096000 * i
  | 0, _ => by simp [sumT]
  | i + 1, hi => by
    have ih := sumT_bd h i (by omega)
    have hl := lig_bd h (i := i) (by omega)
    have := tim_bd (k := (ligK a e i).toNat) (by omega)
    unfold sumT
    omega
theorem sumT_ge {a e : Int} {n : Nat} (h : Stp a e n) {i : Nat} (hi : i < n) : 1000 ≤ sumT a e (i + 1) ∧ sumT a e (i + 1) ≤ 81920000 ∧ timK (ligK a e i).toNat ≤ sumT a e (i + 1) := by
  have ih := sumT_bd h i (by omega)
  have ih2 := sumT_bd h (i + 1) (by omega)
  have hl := lig_bd h hi
  have := tim_bd (k := (ligK a e i).toNat) (by omega)
  have hn := h.n20
  have e1 : sumT a e (i + 1) = sumT a e i + timK (ligK a e i).toNat := rfl
  omega
theorem cov_ge {a e : Int} {n : Nat} (h : Stp a e n) {i : Nat} (hi : i < n) : ligK a e i ≤ covK a e i := by
  obtain ⟨h1, h2, h3⟩ := sumT_ge h hi
  have hl := lig_bd h hi
  have ht := tim_bd (k := (ligK a e i).toNat) (by omega)
  have h4 := tin_mono ht.1 h3
  have h5 := tin_tim (k := (ligK a e i).toNat) (by omega)
  unfold covK
  omega
theorem cov_up {a e : Int} {n : Nat} (h : Stp a e n) {i : Nat} (hi : i + 1 < n) : covK a e i ≤ covK a e (i + 1) := by
  obtain ⟨h1, -, -⟩ := sumT_ge h (show i < n by omega)
  have hl := lig_bd h hi
  have ht := tim_bd (k := (ligK a e (i + 1)).toNat) (by omega)
  have e1 : sumT a e (i + 1 + 1) = sumT a e (i + 1) + timK (ligK a e (i + 1)).toNat := rfl
  have := tin_mono h1 (show sumT a e (i + 1) ≤ sumT a e (i + 1 + 1) by omega)
  unfold covK
  omega
theorem cov_bd (a e : Int) (i : Nat) : 0 ≤ covK a e i ∧ covK a e i ≤ 36 := by
  have := tin_le (sumT a e (i + 1))
  unfold covK
  omega
/-! Densities of bands. -/
theorem dark_mono {q : Cv} (h : Good q) {x y d : Int} (hxy : x ≤ y) : darkV q x d ≤ darkV q y d := at_mono h (by omega)
/-- Densities in some lights. -/
def bandL (q : Cv) (d : Int) (xs : List Int) : List Int := xs.map fun x => darkV q x d
theorem bandL_len (q : Cv) (d : Int) (xs : List Int) : (bandL q d xs).length = xs.length := by simp [bandL]
theorem bandL_get (q : Cv) (d : Int) (xs : List Int) (i : Nat) (h : i < xs.length) : (bandL q d xs).getD i 0 = darkV q (xs.getD i 0) d := by simp [bandL, List.getD_eq_getElem?_getD, h]
theorem bandL_take (q : Cv) (d : Int) (xs : List Int) (k : Nat) (hk : k < xs.length) : bandL q d (xs.take (k + 1)) = bandL q d (xs.take k) ++ [darkV q (xs.getD k 0) d] := by
  have e : xs.take (k + 1) = xs.take k ++ [xs.getD k 0] := by
    rw [List.take_succ_eq_append_getElem hk]; simp [List.getD_eq_getElem?_getD, hk]
  rw [e]; simp [bandL]
/-- The first band that is nearest. -/
def nearN (xs : List Int) (t : Int) : Nat → Nat
  | 0 => 0
  | k + 1 => if absV (xs.getD k 0 - t) < absV (xs.getD (nearN xs t k) 0 - t) then k else nearN xs t k
theorem nearN_lt (xs : List Int) (t : Int) : ∀ k, 0 < k → nearN xs t k < k
  | 0, h => absurd h (by omega)
  | 1, _ => by
    unfold nearN
    rw [show nearN xs t 0 = 0 from rfl, if_neg (Int.lt_irrefl _)]; omega
  | k + 2, _ => by
    have := nearN_lt xs t (k + 1) (by omega)
    unfold nearN
    split <;> omega
theorem nearN_one (xs : List Int) (t : Int) : nearN xs t 1 = 0 := by
  unfold nearN
  rw [show nearN xs t 0 = 0 from rfl, if_neg (Int.lt_irrefl _)]
theorem nearN_min (xs : List Int) (t : Int) : ∀ k, ∀ j, j < k → absV (xs.getD (nearN xs t k) 0 - t) ≤ absV (xs.getD j 0 - t)
  | 0, j, h => absurd h (by omega)
  | k + 1, j, h => by
    have ih := nearN_min xs t k
    unfold nearN
    split
    · rename_i hc
      by_cases e : j = k
      · subst e; exact Int.le_refl _
      · have := ih j (by omega); omega
    · rename_i hc
      by_cases e : j = k
      · subst e; omega
      · exact ih j (by omega)
/-- All numbers are densities. -/
def allD (xs : List Int) : Prop := ∀ i, i < xs.length → 0 ≤ xs.getD i 0 ∧ xs.getD i 0 ≤ 400
theorem band_all {q : Cv} (h : Good q) (d : Int) (xs : List Int) : allD (bandL q d xs) := fun i hi => by
  rw [bandL_get q d xs i (by rwa [bandL_len] at hi)]; exact at_dn h _
def fstN (xs : List Int) (t : Int) : Nat := firstN (fun i => decide (t ≤ xs.getD i 0)) xs.length
theorem fst_before {xs : List Int} {t : Int} {i : Nat} (h : i < fstN xs t) : xs.getD i 0 < t := by
  have := firstN_fail (p := fun i => decide (t ≤ xs.getD i 0)) xs.length i h
  simpa using this
theorem fst_le (xs : List Int) (t : Int) : fstN xs t ≤ xs.length := firstN_le _ _
theorem fst_at {xs : List Int} {t : Int} (h : fstN xs t < xs.length) : t ≤ xs.getD (fstN xs t) 0 := by
  have := firstN_hold (p := fun i => decide (t ≤ xs.getD i 0)) xs.length h
  exact of_decide_eq_true this
/-- The light that strips find. -/
theorem lst_iff {q : Cv} (h : Good q) (d t : Int) {x : Nat} (hx : x ≤ 36) : t ≤ darkV q x d ↔ lstV q d t ≤ x := by
  constructor
  · intro hd
    rcases Nat.lt_or_ge x (lstV q d t) with hlt | hge
    · have := firstN_fail (p := fun k : Nat => decide (t ≤ darkV q k d)) 37 x hlt
      simp at this; omega
    · exact hge
  · intro hl
    have hle : lstV q d t ≤ 37 := firstN_le _ _
    have := firstN_hold (p := fun k : Nat => decide (t ≤ darkV q k d)) 37 (by unfold lstV at hl; omega)
    have h1 : t ≤ darkV q (lstV q d t : Nat) d := of_decide_eq_true this
    have h2 := dark_mono h (x := (lstV q d t : Nat)) (y := x) (d := d) (by omega)
    omega
/-- A finer strip. -/
def finA (a e b : Int) : Int := max 0 (a + e * b - e + 1)
def finN (n f : Int) : Int := min n (36 - f + 1)
theorem fin_ok {a e : Int} {n : Nat} (h : Stp a e n) {i : Nat} (hi : i < n) : 0 ≤ finA a e i ∧ finA a e i ≤ ligK a e i ∧ 1 ≤ finN n (finA a e i) ∧ finN n (finA a e i) ≤ 20 ∧ finA a e i + 1 * (finN n (finA a e i) - 1) ≤ 36 ∧ finA a e i ≤ 36 := by
  have hl := lig_bd h hi
  have h1 := h.e1
  have h2 := h.n1
  have h3 := h.n20
  have h4 : a + e * (i : Int) = ligK a e i := rfl
  unfold finA finN
  rw [h4]
  omega
end Go.Proofs.YtbcahfiknelkcaaGreatDoor
