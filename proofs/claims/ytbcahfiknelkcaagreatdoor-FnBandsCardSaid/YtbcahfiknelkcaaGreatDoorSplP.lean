/- Texts split at a byte and joined: the plain laws. -/
import Derived.Test.YtbcahfiknelkcaaGreatDoorSplB
namespace Go.Proofs.YtbcahfiknelkcaaGreatDoor
open Go.RowKit
/-- Split at a byte, on lists. -/
def spR (c : UInt8) : List UInt8 → List (List UInt8)
  | [] => [[]]
  | x :: xs => if x = c then [] :: spR c xs else match spR c xs with
    | [] => [[x]]
    | h :: t => (x :: h) :: t
def consH (p : List UInt8) : List (List UInt8) → List (List UInt8)
  | [] => [p]
  | h :: t => (p ++ h) :: t
theorem spR_ne (c : UInt8) : ∀ l, spR c l ≠ []
  | [] => by simp [spR]
  | x :: xs => by
    unfold spR
    split
    · simp
    · split <;> simp
theorem spR_hit (c : UInt8) (xs : List UInt8) : spR c (c :: xs) = [] :: spR c xs := by simp [spR]
theorem spR_miss {c x : UInt8} (h : x ≠ c) (xs : List UInt8) : spR c (x :: xs) = consH [x] (spR c xs) := by
  have hn := spR_ne c xs
  show (if x = c then [] :: spR c xs else match spR c xs with | [] => [[x]] | h :: t => (x :: h) :: t) = _
  rw [if_neg h]
  cases hh : spR c xs with
  | nil => exact absurd hh hn
  | cons a t => rfl
theorem consH_nil (l : List (List UInt8)) (h : l ≠ []) : consH [] l = l := by
  cases l with
  | nil => exact absurd rfl h
  | cons a t => rfl
theorem consH_consH (p q : List UInt8) (l : List (List UInt8)) : consH p (consH q l) = consH (p ++ q) l := by
  cases l with
  | nil => rfl
  | cons a t => simp [consH]
theorem consH_hit (p : List UInt8) (l : List (List UInt8)) : consH p ([] :: l) = p :: l := by simp [consH]
theorem extract_toList (s : ByteArray) (b k : Nat) : (s.extract b k).data.toList = (s.data.toList.take k).drop b := by
  rw [ByteArray.data_extract, Array.toList_extract, List.extract_eq_take_drop, List.drop_take]
theorem byte_get {s : ByteArray} {k : Nat} (h : k < s.size) : s.data.toList[k]? = some (UInt8.ofNat (bU s k)) := by
  unfold bU
  rw [Array.getElem?_toList, Array.getElem?_eq_getElem h, Option.getD_some, UInt8.ofNat_toNat]
/-- The loop's pieces, and the rest split, are the whole text split. -/
theorem spO_spR (s : ByteArray) (c : Nat) (hc : c < 256) : ∀ i, i ≤ s.size → ((spO s c i).1.map (·.data.toList)) ++ consH (s.extract (spO s c i).2 i).data.toList (spR (UInt8.ofNat c) (s.data.toList.drop i)) = spR (UInt8.ofNat c) s.data.toList
  | 0, _ => by
    have e : (s.extract (spO s c 0).2 0).data.toList = [] := by rw [extract_toList]; simp
    rw [e]
    show [] ++ _ = _
    rw [List.nil_append, List.drop_zero, consH_nil _ (spR_ne _ _)]
  | i + 1, hi => by
    have ih := spO_spR s c hc i (by omega)
    have hb := (spO_le s c i).1
    have hg := byte_get (s := s) (k := i) (by omega)
    have hl : i < s.data.toList.length := by rw [Array.length_toList]; exact hi
    have hd : s.data.toList.drop i = UInt8.ofNat (bU s i) :: s.data.toList.drop (i + 1) := by
      rw [List.drop_eq_getElem_cons hl]
      rw [List.getElem?_eq_getElem hl] at hg
      rw [Option.some.inj hg]
    rw [hd] at ih
    by_cases h : bU s i = c
    · rw [h, spR_hit, consH_hit] at ih
      have e : spO s c (i + 1) = ((spO s c i).1 ++ [s.extract (spO s c i).2 i], i + 1) := by
        show (if bU s i = c then _ else _) = _
        rw [if_pos h]
      have e0 : (s.extract (i + 1) (i + 1)).data.toList = [] := by rw [extract_toList]; simp
      rw [e, List.map_append, List.append_assoc, e0, consH_nil _ (spR_ne _ _)]
      exact ih
    · have hne : UInt8.ofNat (bU s i) ≠ UInt8.ofNat c := fun he => h (by
        have := congrArg UInt8.toNat he
        have h1 := bU_lt s i
        simp only [UInt8.toNat_ofNat'] at this
        omega)
      rw [spR_miss hne, consH_consH] at ih
      have e : spO s c (i + 1) = spO s c i := by
        show (if bU s i = c then _ else _) = _
        rw [if_neg h]
      have e1 : (s.extract (spO s c i).2 (i + 1)).data.toList = (s.extract (spO s c i).2 i).data.toList ++ [UInt8.ofNat (bU s i)] := by
        rw [extract_toList, extract_toList, List.take_add_one, hg, List.drop_append_of_le_length (by rw [List.length_take]; omega)]
        rfl
      rw [e, e1]
      exact ih
theorem spL_spR (s : ByteArray) (c : Nat) (hc : c < 256) : (spL s c).map (·.data.toList) = spR (UInt8.ofNat c) s.data.toList := by
  have h := spO_spR s c hc s.size (Nat.le_refl _)
  have e : s.data.toList.drop s.size = [] := List.drop_of_length_le (by rw [Array.length_toList]; exact Nat.le_refl _)
  rw [e] at h
  rw [← h]
  simp [spL, consH, spR]
theorem join_ne (x : List UInt8) (r : List (List UInt8)) (h : r ≠ []) (sep : List UInt8) : Lib.join (x :: r) sep = x ++ (sep ++ Lib.join r sep) := by
  cases r with
  | nil => exact absurd rfl h
  | cons y r => rw [Lib.join_cons, Lib.join_cons]; simp [Lib.joinTail]
theorem join_consH (p : List UInt8) (l : List (List UInt8)) (h : l ≠ []) (sep : List UInt8) : Lib.join (consH p l) sep = p ++ Lib.join l sep := by
  cases l with
  | nil => exact absurd rfl h
  | cons a t => unfold consH; rw [Lib.join_cons, Lib.join_cons, List.append_assoc]
/-- What is split is joined again. -/
theorem join_spR (c : UInt8) : ∀ l, Lib.join (spR c l) [c] = l
  | [] => by simp [spR, Lib.join_one]
  | x :: xs => by
    have ih := join_spR c xs
    by_cases h : x = c
    · subst h
      rw [spR_hit, join_ne _ _ (spR_ne _ _), ih]; rfl
    · rw [spR_miss h, join_consH _ _ (spR_ne _ _), ih]; rfl
/-- Pieces without the byte, joined by it, are split again. -/
theorem spR_piece {c : UInt8} : ∀ (p : List UInt8) (l : List UInt8), c ∉ p → spR c (p ++ l) = consH p (spR c l)
  | [], l, _ => (consH_nil _ (spR_ne _ _)).symm
  | x :: p, l, h => by
    have hx : x ≠ c := fun e => h (by simp [e])
    rw [List.cons_append, spR_miss hx, spR_piece p l (fun hp => h (List.mem_cons_of_mem _ hp)), consH_consH]
    rfl
theorem spR_join {c : UInt8} : ∀ (l : List (List UInt8)), l ≠ [] → (∀ p, p ∈ l → c ∉ p) → spR c (Lib.join l [c]) = l
  | [], h, _ => absurd rfl h
  | [p], _, h => by
    rw [Lib.join_one]
    have := spR_piece p [] (h p (by simp))
    rw [List.append_nil] at this
    rw [this]; simp [spR, consH]
  | p :: q :: l, _, h => by
    have ih := spR_join (q :: l) (by simp) (fun x hx => h x (List.mem_cons_of_mem _ hx))
    rw [join_ne _ _ (by simp), spR_piece p _ (h p (by simp)), List.singleton_append, spR_hit, consH_hit, ih]
end Go.Proofs.YtbcahfiknelkcaaGreatDoor
