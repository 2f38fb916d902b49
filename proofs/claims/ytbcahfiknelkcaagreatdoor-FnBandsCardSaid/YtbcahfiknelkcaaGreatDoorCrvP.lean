/- Curves: what the functions compute, in plain Lean. -/
import Derived.Test.YtbcahfiknelkcaaGreatDoorBase
namespace Go.Proofs.YtbcahfiknelkcaaGreatDoor
/-- The first k below n for which p holds, or n. -/
def firstN (p : Nat → Bool) : Nat → Nat
  | 0 => 0
  | k + 1 => if firstN p k = k ∧ p k = false then k + 1 else firstN p k
theorem firstN_le (p : Nat → Bool) : ∀ n, firstN p n ≤ n
  | 0 => Nat.le_refl _
  | k + 1 => by
    have := firstN_le p k
    unfold firstN
    split <;> omega
theorem firstN_step {p : Nat → Bool} {k : Nat} (h : firstN p k = k) (hp : p k = false) : firstN p (k + 1) = k + 1 := by simp [firstN, h, hp]
theorem firstN_stop {p : Nat → Bool} {i : Nat} (h : firstN p i = i) (hp : p i = true) : ∀ d, firstN p (i + d) = i
  | 0 => h
  | d + 1 => by
    have ih := firstN_stop h hp d
    show firstN p ((i + d) + 1) = i
    unfold firstN
    rw [ih]
    by_cases e : i = i + d
    · rw [if_neg (by rw [← e, hp]; simp)]
    · rw [if_neg (by intro h; exact e h.1)]
theorem firstN_at {p : Nat → Bool} {i n : Nat} (h : firstN p i = i) (hp : p i = true) (hn : i ≤ n) : firstN p n = i := by
  obtain ⟨d, rfl⟩ := Nat.exists_eq_add_of_le hn
  exact firstN_stop h hp d
theorem firstN_fail {p : Nat → Bool} : ∀ n j, j < firstN p n → p j = false
  | 0, j, h => by simp [firstN] at h
  | k + 1, j, h => by
    unfold firstN at h
    split at h
    · rename_i hc
      by_cases e : j = k
      · subst e; exact hc.2
      · exact firstN_fail k j (by omega)
    · exact firstN_fail k j h
theorem firstN_hold {p : Nat → Bool} : ∀ n, firstN p n < n → p (firstN p n) = true
  | 0, h => by simp at h
  | k + 1, h => by
    have hle := firstN_le p k
    unfold firstN at h ⊢
    split
    · rename_i hc; rw [if_pos hc] at h; omega
    · rename_i hc
      rw [if_neg hc] at h
      by_cases e : firstN p k = k
      · rw [e]
        cases hp : p k
        · exact absurd ⟨e, hp⟩ hc
        · rfl
      · exact firstN_hold k (by omega)
abbrev Cv := List (Int × Int)
def px (c : Cv) (i : Nat) : Int := (c.getD i (0, 0)).1
def py (c : Cv) (i : Nat) : Int := (c.getD i (0, 0)).2
/-- Points are pairs of numbers of sixteen bits. -/
def C16 (c : Cv) : Prop := ∀ i, (-32768 ≤ px c i ∧ px c i ≤ 32767) ∧ (-32768 ≤ py c i ∧ py c i ≤ 32767)
def plcB (x : Int) : Bool := decide (-200 ≤ x) && decide (x ≤ 200)
def ydB (y : Int) : Bool := decide (0 ≤ y) && decide (y ≤ 400)
theorem plcB_iff (x : Int) : plcB x = true ↔ -200 ≤ x ∧ x ≤ 200 := by simp [plcB]
theorem ydB_iff (x : Int) : ydB x = true ↔ 0 ≤ x ∧ x ≤ 400 := by simp [ydB]
def ptB (x y : Int) : Bool := plcB x && ydB y
/-- The point k fits: behind a point before it. -/
def fitB (c : Cv) (k : Nat) : Bool := ptB (px c k) (py c k) && (decide (k = 0) || (decide (px c (k - 1) < px c k) && decide (py c (k - 1) ≤ py c k)))
def shN (c : Cv) : Nat → Bool
  | 0 => true
  | k + 1 => shN c k && fitB c k
def shapeB (c : Cv) : Bool := shN c c.length && decide (0 < c.length)
def cvB (c : Cv) : Bool := shapeB c && decide (c.length ≤ 12)
theorem shN_bad {c : Cv} {k : Nat} (h : fitB c k = false) : ∀ d, shN c (k + 1 + d) = false
  | 0 => by simp [shN, h]
  | d + 1 => by
    have := shN_bad h d
    show (shN c (k + 1 + d) && _) = false
    rw [this]; rfl
theorem shN_false {c : Cv} {k n : Nat} (h : fitB c k = false) (hk : k < n) : shN c n = false := by
  obtain ⟨d, rfl⟩ := Nat.exists_eq_add_of_le (Nat.succ_le_of_lt hk)
  exact shN_bad h d
theorem shN_fit {c : Cv} : ∀ {n : Nat}, shN c n = true → ∀ k, k < n → fitB c k = true
  | 0, _, k, hk => absurd hk (Nat.not_lt_zero _)
  | n + 1, h, k, hk => by
    simp only [shN, Bool.and_eq_true] at h
    by_cases e : k = n
    · subst e; exact h.2
    · exact shN_fit h.1 k (by omega)
/-- What a valid curve is. -/
structure Good (c : Cv) : Prop where
  pos : 0 < c.length
  le : c.length ≤ 12
  x0 : ∀ k, k < c.length → -200 ≤ px c k ∧ px c k ≤ 200
  y0 : ∀ k, k < c.length → 0 ≤ py c k ∧ py c k ≤ 400
  up : ∀ k, k + 1 < c.length → px c k < px c (k + 1) ∧ py c k ≤ py c (k + 1)
theorem good_of {c : Cv} (h : cvB c = true) : Good c := by
  simp only [cvB, shapeB, Bool.and_eq_true, decide_eq_true_eq] at h
  obtain ⟨⟨h1, h2⟩, h3⟩ := h
  have hf := fun k hk => shN_fit h1 k hk
  refine ⟨h2, h3, fun k hk => ?_, fun k hk => ?_, fun k hk => ?_⟩
  · have := hf k hk
    simp only [fitB, ptB, Bool.and_eq_true] at this
    exact (plcB_iff _).1 this.1.1
  · have := hf k hk
    simp only [fitB, ptB, Bool.and_eq_true] at this
    exact (ydB_iff _).1 this.1.2
  · have := hf (k + 1) hk
    simp only [fitB, Bool.and_eq_true, Bool.or_eq_true, decide_eq_true_eq, Nat.add_sub_cancel] at this
    rcases this.2 with h | h
    · omega
    · exact h
def seg (c : Cv) (x : Int) : Nat := firstN (fun j => decide (x < px c (j + 1))) c.length
def cutV (c : Cv) (i : Nat) (x : Int) : Int := py c i + (py c (i + 1) - py c i) * (x - px c i) / (px c (i + 1) - px c i)
def atV (c : Cv) (x : Int) : Int := if x ≤ px c 0 then py c 0 else if px c (c.length - 1) ≤ x then py c (c.length - 1) else cutV c (seg c x) x
theorem mul_bd (a b A B : Int) (h0 : 0 ≤ a) (h1 : a ≤ A) (h2 : 0 ≤ b) (h3 : b ≤ B) : 0 ≤ a * b ∧ a * b ≤ A * B :=
  ⟨Int.mul_nonneg h0 h2, Int.mul_le_mul h1 h3 h2 (by omega)⟩
theorem div_bd (a b : Int) (h0 : 0 ≤ a) (h1 : 1 ≤ b) : 0 ≤ a / b ∧ a / b ≤ a :=
  ⟨Int.ediv_nonneg h0 (by omega), Int.ediv_le_self _ h0⟩
/-- Between two points. -/
theorem cut_bd {c : Cv} (h : Good c) {i : Nat} (hi : i + 1 < c.length) {x : Int} (hx : px c i ≤ x) (hx2 : x ≤ px c (i + 1)) : py c i ≤ cutV c i x ∧ cutV c i x ≤ py c (i + 1) := by
  have h1 := h.up i hi
  unfold cutV
  have h2 : 0 ≤ (py c (i + 1) - py c i) * (x - px c i) := Int.mul_nonneg (by omega) (by omega)
  have h3 := Int.ediv_nonneg h2 (show 0 ≤ px c (i + 1) - px c i by omega)
  have h4 : (py c (i + 1) - py c i) * (x - px c i) / (px c (i + 1) - px c i) ≤ py c (i + 1) - py c i := by
    have : (py c (i + 1) - py c i) * (x - px c i) ≤ (py c (i + 1) - py c i) * (px c (i + 1) - px c i) := Int.mul_le_mul_of_nonneg_left (by omega) (by omega)
    have h5 := Int.ediv_le_ediv (show 0 < px c (i + 1) - px c i by omega) this
    rwa [Int.mul_ediv_cancel _ (by omega)] at h5
  omega
theorem seg_le {c : Cv} {x : Int} (hx : ¬ px c (c.length - 1) ≤ x) (h0 : px c 0 < x) (hl : 0 < c.length) : seg c x + 1 < c.length ∧ px c (seg c x) ≤ x ∧ x < px c (seg c x + 1) := by
  have h1 : seg c x < c.length - 1 := by
    have h2 : ¬ c.length - 1 = 0 := by intro h; rw [h] at hx; omega
    rcases Nat.lt_or_ge (seg c x) (c.length - 1) with h | h
    · exact h
    · have := firstN_fail (p := fun j => decide (x < px c (j + 1))) c.length (c.length - 2) (by unfold seg at h; omega)
      rw [show c.length - 2 + 1 = c.length - 1 by omega] at this
      simp at this; omega
  have h3 : x < px c (seg c x + 1) := by
    have := firstN_hold (p := fun j => decide (x < px c (j + 1))) c.length (by unfold seg at h1; omega)
    exact of_decide_eq_true this
  refine ⟨by omega, ?_, h3⟩
  rcases Nat.eq_zero_or_pos (seg c x) with h | h
  · rw [h]; omega
  · have := firstN_fail (p := fun j => decide (x < px c (j + 1))) c.length (seg c x - 1) (by unfold seg at h ⊢; omega)
    rw [show seg c x - 1 + 1 = seg c x by omega] at this
    simpa using this
theorem py_mono {c : Cv} (h : Good c) : ∀ (d i : Nat), i + d < c.length → py c i ≤ py c (i + d)
  | 0, _, _ => Int.le_refl _
  | d + 1, i, hi => by
    have h1 := py_mono h d i (by omega)
    have h2 := (h.up (i + d) (by omega)).2
    show py c i ≤ py c (i + d + 1)
    omega
theorem py_le {c : Cv} (h : Good c) {i j : Nat} (hij : i ≤ j) (hj : j < c.length) : py c i ≤ py c j := by
  obtain ⟨d, rfl⟩ := Nat.exists_eq_add_of_le hij
  exact py_mono h d i hj
theorem px_mono {c : Cv} (h : Good c) : ∀ (d i : Nat), i + d < c.length → px c i + d ≤ px c (i + d)
  | 0, _, _ => by simp
  | d + 1, i, hi => by
    have h1 := px_mono h d i (by omega)
    have h2 := (h.up (i + d) (by omega)).1
    show px c i + ((d + 1 : Nat) : Int) ≤ px c (i + d + 1)
    omega
theorem at_bd {c : Cv} (h : Good c) (x : Int) : py c 0 ≤ atV c x ∧ atV c x ≤ py c (c.length - 1) := by
  have hl := py_le h (Nat.zero_le (c.length - 1)) (by have := h.pos; omega)
  unfold atV
  split
  · omega
  · rename_i h1
    split
    · omega
    · rename_i h2
      obtain ⟨s1, s2, s3⟩ := seg_le h2 (by omega) h.pos
      have := cut_bd h s1 s2 (Int.le_of_lt s3)
      have e1 := py_le h (Nat.zero_le (seg c x)) (by omega)
      have e2 := py_le h (show seg c x + 1 ≤ c.length - 1 by omega) (by omega)
      omega
theorem at_dn {c : Cv} (h : Good c) (x : Int) : 0 ≤ atV c x ∧ atV c x ≤ 400 := by
  have h1 := at_bd h x
  have h2 := h.y0 0 h.pos
  have h3 := h.y0 (c.length - 1) (by have := h.pos; omega)
  omega
theorem seg_mono {c : Cv} (h : Good c) {x y : Int} (hxy : x ≤ y) (hx0 : px c 0 < x) (hy : ¬ px c (c.length - 1) ≤ y) : seg c x ≤ seg c y := by
  obtain ⟨s1, s2, s3⟩ := seg_le (c := c) (x := x) (by omega) hx0 h.pos
  obtain ⟨t1, t2, t3⟩ := seg_le (c := c) (x := y) hy (by omega) h.pos
  rcases Nat.lt_or_ge (seg c y) (seg c x) with hlt | hge
  · exfalso
    obtain ⟨d, hd⟩ := Nat.exists_eq_add_of_le (show seg c y + 1 ≤ seg c x from hlt)
    have := px_mono h d (seg c y + 1) (by omega)
    rw [← hd] at this
    omega
  · exact hge
theorem at_mono {c : Cv} (h : Good c) {x y : Int} (hxy : x ≤ y) : atV c x ≤ atV c y := by
  have bx := at_bd h x
  have bY := at_bd h y
  by_cases h1 : x ≤ px c 0
  · have : atV c x = py c 0 := by simp [atV, h1]
    omega
  · by_cases h2 : px c (c.length - 1) ≤ y
    · have : atV c y = py c (c.length - 1) := by
        unfold atV
        rw [if_neg (by omega), if_pos h2]
      omega
    · have hx0 : px c 0 < x := by omega
      obtain ⟨s1, s2, s3⟩ := seg_le (c := c) (x := x) (by omega) hx0 h.pos
      obtain ⟨t1, t2, t3⟩ := seg_le (c := c) (x := y) h2 (by omega) h.pos
      have e1 : atV c x = cutV c (seg c x) x := by unfold atV; rw [if_neg (by omega), if_neg (by omega)]
      have e2 : atV c y = cutV c (seg c y) y := by unfold atV; rw [if_neg (by omega), if_neg (by omega)]
      rw [e1, e2]
      rcases Nat.lt_or_ge (seg c x) (seg c y) with hlt | hge
      · have a1 := (cut_bd h s1 s2 (Int.le_of_lt s3)).2
        have a2 := (cut_bd h t1 t2 (Int.le_of_lt t3)).1
        have a3 := py_le h (show seg c x + 1 ≤ seg c y from hlt) (by omega)
        omega
      · have he : seg c x = seg c y := Nat.le_antisymm (seg_mono h hxy hx0 h2) hge
        rw [he]
        have hu := h.up (seg c y) t1
        unfold cutV
        have : (py c (seg c y + 1) - py c (seg c y)) * (x - px c (seg c y)) ≤ (py c (seg c y + 1) - py c (seg c y)) * (y - px c (seg c y)) := Int.mul_le_mul_of_nonneg_left (by omega) (by omega)
        have := Int.ediv_le_ediv (show 0 < px c (seg c y + 1) - px c (seg c y) by omega) this
        omega
def darkV (c : Cv) (light dens : Int) : Int := atV c (light - (dens + 5) / 10)
/-- The least light below 37, or 37. -/
def lstV (c : Cv) (dens tgt : Int) : Nat := firstN (fun k => decide (tgt ≤ darkV c k dens)) 37
def fourB (thin thick dark light : Int) : Bool := (((ydB thin && ydB thick) && ydB dark) && ydB light) && decide (thin ≤ thick)
def misV (c : Cv) (thin thick dark light : Int) : Int × Int × Int :=
  if cvB c then (if fourB thin thick dark light then (if lstV c thin dark ≤ 36 then ((lstV c thin dark : Int), darkV c (lstV c thin dark) thick - light, 0) else (0, 0, 6)) else (0, 0, 2)) else (0, 0, 1)
def absV (x : Int) : Int := if x < 0 then -x else x
def bgN (M : Nat → Int × Int × Int) : Nat → Int × Int × Int
  | 0 => (-1, 0, 0)
  | k + 1 => if (M k).2.2 = 0 ∧ ((bgN M k).1 < 0 ∨ absV (M k).2.1 < absV (bgN M k).2.2) then ((k : Int), (M k).1, (M k).2.1) else bgN M k
end Go.Proofs.YtbcahfiknelkcaaGreatDoor
