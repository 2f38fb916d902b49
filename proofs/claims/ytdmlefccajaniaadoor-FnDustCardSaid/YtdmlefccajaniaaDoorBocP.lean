/- BestOfCopies: plain facts. -/
import Derived.Test.YtdmlefccajaniaaDoorDusts
import Derived.Test.YtdmlefccajaniaaDoorSpotQ
namespace Go.Proofs.YtdmlefccajaniaaDoor
open Go.RowKit
def dmI (l : List (List Int)) (wi : Int) (i : Nat) : Nat := difM (medP l) (l.getD i []) wi
theorem dmI_lt (l : List (List Int)) (wi : Int) (i : Nat) : dmI l wi i < 2 ^ 64 := difM_lt _ _ _
def boL (l : List (List Int)) (wi : Int) : Nat → Nat
  | 0 => 18446744073709551615
  | c + 1 => boL l wi c &&& dmI l wi c
theorem boL_lt (l : List (List Int)) (wi : Int) : ∀ c, boL l wi c < 2 ^ 64
  | 0 => by show (18446744073709551615 : Nat) < 2 ^ 64; decide
  | c + 1 => Nat.lt_of_le_of_lt Nat.and_le_left (boL_lt l wi c)
/-- The cells that have been dusty so far, and are clean in this copy. -/
def boC (l : List (List Int)) (wi : Int) (c : Nat) : Nat := dif64 (boL l wi c) (dmI l wi c)
theorem boC_lt (l : List (List Int)) (wi : Int) (c : Nat) : boC l wi c < 2 ^ 64 := dif64_lt _ _ (boL_lt l wi c)
def boO (l : List (List Int)) (wi : Int) : Nat → List Int
  | 0 => medP l
  | c + 1 => (List.range 64).map fun k => if (boC l wi c).testBit k then (l.getD c []).getD k 0 else (boO l wi c).getD k 0
theorem boO_length (l : List (List Int)) (wi : Int) : ∀ c, (boO l wi c).length = 64
  | 0 => medP_length l
  | c + 1 => by simp [boO]
theorem boO_get (l : List (List Int)) (wi : Int) (c k : Nat) (h : k < 64) : (boO l wi (c + 1)).getD k 0 = if (boC l wi c).testBit k then (l.getD c []).getD k 0 else (boO l wi c).getD k 0 := by
  simp [boO, List.getD_eq_getElem?_getD, h]
/-- Left without the clean cells is left with the dust. -/
theorem boL_next (l : List (List Int)) (wi : Int) (c : Nat) : dif64 (boL l wi c) (boC l wi c) = boL l wi (c + 1) := by
  have hL := boL_lt l wi c
  have hD := dmI_lt l wi c
  have i1 : isM (boL l wi c) (boL l wi c).testBit := ⟨hL, fun _ _ => rfl⟩
  have i2 : isM (dmI l wi c) (dmI l wi c).testBit := ⟨hD, fun _ _ => rfl⟩
  have i3 := isM_andNot i1 (isM_andNot i1 i2)
  have i4 := isM_and i1 i2
  show dif64 (boL l wi c) (dif64 (boL l wi c) (dmI l wi c)) = boL l wi c &&& dmI l wi c
  have i5 : isM (dif64 (boL l wi c) (dif64 (boL l wi c) (dmI l wi c))) (fun j => (boL l wi c).testBit j && (dmI l wi c).testBit j) := isM_congr i3 (fun j _ => by cases (boL l wi c).testBit j <;> cases (dmI l wi c).testBit j <;> rfl)
  rw [isM_eq i5, isM_eq i4]
/-- The first k cells of one list, the others of another one. -/
def mixL (A B : List Int) (k : Nat) : List Int := A.take k ++ B.drop k
theorem mixL_zero (A B : List Int) : mixL A B 0 = B := by simp [mixL]
theorem mixL_full (A B : List Int) (k : Nat) (hA : A.length = k) (hB : B.length = k) : mixL A B k = A := by
  simp [mixL, List.take_of_length_le (Nat.le_of_eq hA), List.drop_of_length_le (Nat.le_of_eq hB)]
theorem mixL_length (A B : List Int) (k n : Nat) (hA : A.length = n) (hB : B.length = n) (hk : k ≤ n) : (mixL A B k).length = n := by
  simp [mixL, hA, hB]; omega
theorem mixL_set (A B : List Int) (k n : Nat) (hA : A.length = n) (hB : B.length = n) (hk : k < n) (x : Int) (hx : A.getD k 0 = x) : (mixL A B k).set k x = mixL A B (k + 1) := by
  have e : B.drop k = B[k] :: B.drop (k + 1) := List.drop_eq_getElem_cons (by omega)
  have e2 : (A.take k).length = k := by simp [hA]; omega
  rw [mixL, mixL, List.set_append_right _ _ (by omega), take_snoc A k (by omega), hx, e, e2, Nat.sub_self, List.set_cons_zero, List.append_assoc]
  rfl
theorem mixL_same (A B : List Int) (k n : Nat) (hA : A.length = n) (hB : B.length = n) (hk : k < n) (h : A.getD k 0 = B.getD k 0) : mixL A B k = mixL A B (k + 1) := by
  rw [mixL, mixL, take_snoc A k (by omega), List.drop_eq_getElem_cons (l := B) (by omega), h]
  simp [List.getD_eq_getElem?_getD, hB, hk]
theorem mem_takeB (l : List Nat) (k j : Nat) (h : k < l.length) : j ∈ l.take (k + 1) ↔ j ∈ l.take k ∨ j = l.getD k 0 := by
  rw [List.take_succ_eq_append_getElem h, List.mem_append]
  simp [List.getD_eq_getElem?_getD, h]
/-- The print, part way through the clean cells of one copy. -/
def midO (l : List (List Int)) (wi : Int) (c m : Nat) (P : List Int) : Prop := P.length = 64 ∧ ∀ j, j < 64 → P.getD j 0 = if j ∈ (bitsL (boC l wi c)).take m then (l.getD c []).getD j 0 else (boO l wi c).getD j 0
theorem midO_start (l : List (List Int)) (wi : Int) (c : Nat) : midO l wi c 0 (boO l wi c) := ⟨boO_length l wi c, fun j _ => by simp⟩
theorem midO_next {l : List (List Int)} {wi : Int} {c m i : Nat} {P : List Int} (h : midO l wi c m P) (hm : m < (bitsL (boC l wi c)).length) (hi : (bitsL (boC l wi c)).getD m 0 = i) (hi64 : i < 64) : midO l wi c (m + 1) (P.set i ((l.getD c []).getD i 0)) := by
  refine ⟨by rw [List.length_set]; exact h.1, fun j hj => ?_⟩
  rw [List.getD_eq_getElem?_getD, List.getElem?_set]
  by_cases e : i = j
  · subst e
    rw [if_pos ((mem_takeB _ _ _ hm).2 (Or.inr hi.symm))]
    simp [h.1, hi64]
  · have : j ∈ (bitsL (boC l wi c)).take (m + 1) ↔ j ∈ (bitsL (boC l wi c)).take m := by rw [mem_takeB _ _ _ hm, hi]; simp [Ne.symm e]
    simp only [this]
    rw [if_neg e, ← List.getD_eq_getElem?_getD, h.2 j hj]
theorem midO_end {l : List (List Int)} {wi : Int} {c : Nat} {P : List Int} (h : midO l wi c (bitsL (boC l wi c)).length P) : P = boO l wi (c + 1) := by
  apply List.ext_getElem (by rw [h.1, boO_length])
  intro j h1 h2
  have hj : j < 64 := by rw [h.1] at h1; exact h1
  have e1 := h.2 j hj
  have e2 := boO_get l wi c j hj
  rw [List.take_length] at e1
  have e3 : P.getD j 0 = (boO l wi (c + 1)).getD j 0 := by
    rw [e1, e2]
    have := mem_bitsL (boC l wi c) (boC_lt l wi c) j
    by_cases hb : (boC l wi c).testBit j = true
    · rw [if_pos (this.2 hb), if_pos hb]
    · rw [if_neg (fun hm => hb (this.1 hm)), if_neg hb]
  rw [List.getD_eq_getElem?_getD, List.getElem?_eq_getElem h1, List.getD_eq_getElem?_getD, List.getElem?_eq_getElem h2] at e3
  simpa using e3
def boV (l : List (List Int)) (wi : Int) : List Int × Nat × Int := if cpV l (dnB wi) = 0 then (boO l wi l.length, boL l wi l.length, 0) else (Z64, 0, cpV l (dnB wi))
theorem boV_len (l : List (List Int)) (wi : Int) : (boV l wi).1.length = 64 := by
  unfold boV; split
  · exact boO_length l wi _
  · exact Z64_length
end Go.Proofs.YtdmlefccajaniaaDoor
namespace Go.Proofs.YtdmlefccajaniaaDoor
open Go.RowKit
def clS (l : List (List Int)) (wi : Int) : Nat → Nat × Nat
  | 0 => (0, 65)
  | k + 1 => if cnt (dmI l wi k) < (clS l wi k).2 then (k, cnt (dmI l wi k)) else clS l wi k
def clV (l : List (List Int)) (wi : Int) : Int × Int × Int := if cpV l (dnB wi) = 0 then (((clS l wi l.length).1 : Nat), ((clS l wi l.length).2 : Nat), 0) else (0, 0, cpV l (dnB wi))
theorem clS_first (l : List (List Int)) (wi : Int) (k : Nat) : (clS l wi k).1 ≤ k ∧ (clS l wi k).2 ≤ 65 ∧ (0 < k → (clS l wi k).2 ≤ 64) := by
  induction k with
  | zero => exact ⟨Nat.le_refl _, Nat.le_refl _, fun h => absurd h (by omega)⟩
  | succ k ih =>
    have hc := cnt_le (dmI l wi k)
    unfold clS
    split
    · exact ⟨by simp, by simp; omega, fun _ => by simpa using hc⟩
    · rename_i h
      exact ⟨by omega, ih.2.1, fun _ => by omega⟩
theorem clS_one (l : List (List Int)) (wi : Int) : clS l wi 1 = (0, cnt (dmI l wi 0)) := by
  have hc := cnt_le (dmI l wi 0)
  unfold clS
  rw [if_pos (by simp [clS]; omega)]
end Go.Proofs.YtdmlefccajaniaaDoor
