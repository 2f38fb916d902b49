/- FewestCopies: plain facts. -/
import Derived.Test.YtdmlefccajaniaaDoorBocP
namespace Go.Proofs.YtdmlefccajaniaaDoor
open Go.RowKit Go.Lib
theorem bitsL_asc : ∀ n, n < 2 ^ 64 → (bitsL n).Pairwise (· < ·) := by
  intro n
  induction n using Nat.strongRecOn with
  | ind n ih =>
    intro hn
    by_cases h : n = 0
    · subst h; rw [bitsL_zero]; exact .nil
    · obtain ⟨m, hm, _⟩ := ctz_low h hn
      obtain ⟨h1, h2, h3⟩ := low_bits hm
      have hl := and_pred_lt n h
      rw [bitsL_cons n h]
      refine List.pairwise_cons.2 ⟨fun j hj => ?_, ih _ hl (by omega)⟩
      rw [mem_bitsL _ (by omega), h3, Bool.and_eq_true, decide_eq_true_eq] at hj
      rcases Nat.lt_trichotomy j (ctz 64 n) with e | e | e
      · rw [h2 j e] at hj; cases hj.1
      · exact absurd e hj.2
      · exact e
theorem asc_eq : ∀ {a b : List Nat}, a.Pairwise (· < ·) → b.Pairwise (· < ·) → (∀ j, j ∈ a ↔ j ∈ b) → a = b
  | [], [], _, _, _ => rfl
  | [], y :: b, _, _, h => by have := (h y).2 (by simp); simp at this
  | x :: a, [], _, _, h => by have := (h x).1 (by simp); simp at this
  | x :: a, y :: b, ha, hb, h => by
    have ha' := List.pairwise_cons.1 ha
    have hb' := List.pairwise_cons.1 hb
    have e : x = y := by
      rcases List.mem_cons.1 ((h x).1 (by simp)) with e | e
      · exact e
      · have h1 := hb'.1 x e
        rcases List.mem_cons.1 ((h y).2 (by simp)) with e2 | e2
        · exact e2.symm
        · have := ha'.1 y e2; omega
    subst e
    congr 1
    refine asc_eq ha'.2 hb'.2 (fun j => ⟨fun hj => ?_, fun hj => ?_⟩)
    · rcases List.mem_cons.1 ((h j).1 (List.mem_cons_of_mem _ hj)) with e | e
      · have := ha'.1 j hj; omega
      · exact e
    · rcases List.mem_cons.1 ((h j).2 (List.mem_cons_of_mem _ hj)) with e | e
      · have := hb'.1 j hj; omega
      · exact e
/-- The copies of a set, as the reference lists them. -/
def lstS (s k : Nat) : List Nat := (List.range k).filter fun i => s.testBit i
theorem lstS_succ (s k : Nat) : lstS s (k + 1) = lstS s k ++ (if s.testBit k then [k] else []) := by
  unfold lstS
  rw [List.range_succ, List.filter_append]
  cases h : s.testBit k <;> simp [h]
theorem lstS_len (s k : Nat) : (lstS s k).length ≤ k := Nat.le_trans (List.length_filter_le _ _) (by simp)
theorem lstS_mem (s k j : Nat) : j ∈ lstS s k ↔ j < k ∧ s.testBit j = true := by simp [lstS]
theorem bitsL_lst (s n : Nat) (hs : s < 2 ^ n) (hn : n ≤ 64) : bitsL s = lstS s n := by
  have h64 : s < 2 ^ 64 := Nat.lt_of_lt_of_le hs (Nat.pow_le_pow_right (by omega) hn)
  refine asc_eq (bitsL_asc s h64) ?_ (fun j => ?_)
  · exact (List.pairwise_lt_range (n := n)).filter _
  · rw [mem_bitsL s h64, lstS_mem]
    constructor
    · intro h
      refine ⟨?_, h⟩
      rcases Nat.lt_or_ge j n with hl | hg
      · exact hl
      · rw [Nat.testBit_lt_two_pow (Nat.lt_of_lt_of_le hs (Nat.pow_le_pow_right (by omega) hg))] at h; cases h
    · exact fun h => h.2
/-- The cells that are dusty in all of some copies. -/
def inL (l : List (List Int)) (wi : Int) (L : List Nat) : Nat := L.foldl (fun a c => a &&& dmI l wi c) 18446744073709551615
theorem inL_snoc (l : List (List Int)) (wi : Int) (L : List Nat) (c : Nat) : inL l wi (L ++ [c]) = inL l wi L &&& dmI l wi c := by simp [inL]
theorem inL_lt (l : List (List Int)) (wi : Int) : ∀ L : List Nat, inL l wi L < 2 ^ 64 := fun L => by
  have : ∀ (L : List Nat) (a : Nat), a < 2 ^ 64 → L.foldl (fun a c => a &&& dmI l wi c) a < 2 ^ 64 := by
    intro L
    induction L with
    | nil => exact fun a h => h
    | cons c L ih => exact fun a h => ih _ (Nat.lt_of_le_of_lt Nat.and_le_left h)
  exact this L _ (by decide)
def cpl (a : Nat) : Nat := 18446744073709551615 - a
theorem cpl_lt (a : Nat) : cpl a < 2 ^ 64 := by unfold cpl; omega
theorem cpl_and {a b : Nat} (ha : a < 2 ^ 64) (hb : b < 2 ^ 64) : cpl a ||| cpl b = cpl (a &&& b) := by
  have hab : a &&& b < 2 ^ 64 := Nat.lt_of_le_of_lt Nat.and_le_left ha
  have i1 : isM (cpl a) (fun j => !a.testBit j) := ⟨cpl_lt a, fun j hj => testBit_not a j ha hj⟩
  have i2 : isM (cpl b) (fun j => !b.testBit j) := ⟨cpl_lt b, fun j hj => testBit_not b j hb hj⟩
  have i3 : isM (cpl (a &&& b)) (fun j => !(a &&& b).testBit j) := ⟨cpl_lt _, fun j hj => testBit_not _ j hab hj⟩
  have i4 : isM (cpl (a &&& b)) (fun j => !a.testBit j || !b.testBit j) := isM_congr i3 (fun j _ => by rw [Nat.testBit_and]; cases a.testBit j <;> cases b.testBit j <;> rfl)
  rw [isM_eq (isM_or i1 i2), isM_eq i4]
theorem cpl_inj {a b : Nat} (ha : a < 2 ^ 64) (hb : b < 2 ^ 64) : (cpl a = cpl b) ↔ a = b := by unfold cpl; omega
/-- One list comes before another one that is as long. -/
def lxL : List Nat → List Nat → Bool
  | x :: xs, y :: ys => if x = y then lxL xs ys else decide (x < y)
  | _, _ => false
def btr (l b : List Nat) : Bool := decide (l.length < b.length) || (decide (l.length = b.length) && lxL l b)
def okSet (l : List (List Int)) (wi : Int) (n s : Nat) : Bool := decide (inL l wi (lstS s n) = boL l wi n)
def bettr : List Nat → Option (List Nat) → Bool
  | _, none => true
  | x, some b => btr x b
def fwB (l : List (List Int)) (wi : Int) (n : Nat) : Nat → Option (List Nat)
  | 0 => none
  | k + 1 => if okSet l wi n k && bettr (lstS k n) (fwB l wi n k) then some (lstS k n) else fwB l wi n k
theorem fwB_len (l : List (List Int)) (wi : Int) (n : Nat) : ∀ k b, fwB l wi n k = some b → b.length ≤ n
  | 0, b, h => by cases h
  | k + 1, b, h => by
    unfold fwB at h
    split at h
    · cases h; exact lstS_len _ _
    · exact fwB_len l wi n k b h
/-- No cell is dusty in all copies. -/
theorem boL_zero (l : List (List Int)) (wi : Int) (hwi : 0 ≤ wi) (h0 : 0 < l.length) : boL l wi l.length ≠ 18446744073709551615 := by
  obtain ⟨i, hi, he⟩ := medI_mem l 0 h0
  have hd : (dmI l wi i).testBit 0 = false := by
    rw [dmI, difM, maskOf_bit]
    have e : (medP l).getD 0 0 = medI l 0 := medP_get l 0 (by omega)
    rw [e, he]
    simp [absI]; omega
  have hb : ∀ k, i < k → (boL l wi k).testBit 0 = false := by
    intro k
    induction k with
    | zero => intro h; omega
    | succ k ih =>
      intro h
      rw [boL, Nat.testBit_and]
      by_cases e : i = k
      · subst e; rw [hd]; simp
      · rw [ih (by omega)]; rfl
  intro h
  have := hb l.length hi
  rw [h] at this
  revert this; decide
theorem fwB_one (l : List (List Int)) (wi : Int) (hwi : 0 ≤ wi) (h0 : 0 < l.length) : fwB l wi l.length 1 = none := by
  have h1 : lstS 0 l.length = [] := by simp [lstS]
  have h2 : okSet l wi l.length 0 = false := by
    unfold okSet
    rw [h1, decide_eq_false_iff_not]
    exact fun h => boL_zero l wi hwi h0 h.symm
  simp [fwB, h2]
def natL (l : List Nat) : List Int := l.map fun (n : Nat) => (n : Int)
theorem natL_len (l : List Nat) : (natL l).length = l.length := by simp [natL]
theorem natL_get (l : List Nat) (k : Nat) (h : k < l.length) : (natL l).getD k 0 = ((l.getD k 0 : Nat) : Int) := by simp [natL, List.getD_eq_getElem?_getD, h]
theorem natL_app (l : List Nat) (c : Nat) : natL l ++ [(c : Int)] = natL (l ++ [c]) := by simp [natL]
def fwV (l : List (List Int)) (wi : Int) : List Int × Int := if cpV l (dnB wi) = 0 then (natL ((fwB l wi l.length (2 ^ l.length)).getD []), 0) else ([], cpV l (dnB wi))
theorem fwV_len (l : List (List Int)) (wi : Int) : (fwV l wi).1.length ≤ 8 := by
  unfold fwV
  split
  · rename_i h
    obtain ⟨_, _, h2, _⟩ := cpV_zero h
    rw [natL_len]
    cases hb : fwB l wi l.length (2 ^ l.length) with
    | none => simp
    | some b => exact Nat.le_trans (fwB_len l wi _ _ b hb) h2
  · simp
end Go.Proofs.YtdmlefccajaniaaDoor
namespace Go.Proofs.YtdmlefccajaniaaDoor
theorem bettr_len {x : List Nat} {o : Option (List Nat)} (h : bettr x o = false) : ∃ b, o = some b ∧ b.length ≤ x.length := by
  cases o with
  | none => cases h
  | some b =>
    refine ⟨b, rfl, ?_⟩
    simp only [bettr, btr, Bool.or_eq_false_iff, decide_eq_false_iff_not] at h
    omega
theorem fwB_min (l : List (List Int)) (wi : Int) (n : Nat) : ∀ k, (∀ s, s < k → okSet l wi n s = true → ∃ b, fwB l wi n k = some b ∧ b.length ≤ (lstS s n).length) ∧ ∀ b, fwB l wi n k = some b → ∃ s, s < k ∧ okSet l wi n s = true ∧ b = lstS s n
  | 0 => ⟨fun s hs => absurd hs (Nat.not_lt_zero _), fun b h => by cases h⟩
  | k + 1 => by
    obtain ⟨h1, h2⟩ := fwB_min l wi n k
    unfold fwB
    split
    · rename_i hc
      rw [Bool.and_eq_true] at hc
      refine ⟨fun s hs hok => ⟨_, rfl, ?_⟩, fun b h => ?_⟩
      · by_cases e : s = k
        · subst e; exact Nat.le_refl _
        · obtain ⟨b, hb, hl⟩ := h1 s (by omega) hok
          have h3 := hc.2
          rw [hb] at h3
          simp only [bettr, btr, Bool.or_eq_true, decide_eq_true_eq, Bool.and_eq_true] at h3
          omega
      · cases h; exact ⟨k, by omega, hc.1, rfl⟩
    · rename_i hc
      refine ⟨fun s hs hok => ?_, fun b h => ?_⟩
      · by_cases e : s = k
        · subst e
          have hbf : bettr (lstS s n) (fwB l wi n s) = false := by
            cases hbt : bettr (lstS s n) (fwB l wi n s)
            · rfl
            · exact absurd (by rw [hok, hbt]; rfl) hc
          exact bettr_len hbf
        · exact h1 s (by omega) hok
      · obtain ⟨s, hs, r⟩ := h2 b h
        exact ⟨s, by omega, r⟩
end Go.Proofs.YtdmlefccajaniaaDoor
