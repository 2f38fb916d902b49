/- ReadScene: the plain laws of the program's reading. -/
import Derived.Test.YtbcahfiknelkcaaGreatDoorRdP
import Derived.Lib.IndexBytes
import Derived.Lib.SplitLaws
import Derived.Lib.Split
import Derived.Lib.Replace
import Derived.Lib.ParseIntB
namespace Go.Proofs.YtbcahfiknelkcaaGreatDoor
open Go.RowKit
theorem idx_free {c : UInt8} : ∀ p : List UInt8, c ∉ p → Lib.indexByte p c = -1
  | [], _ => rfl
  | x :: p, h => by
    have hx : (x == c) = false := beq_eq_false_iff_ne.2 (fun e => h (by simp [e]))
    have ih := idx_free p (fun hp => h (List.mem_cons_of_mem _ hp))
    unfold Lib.indexByte
    rw [hx, ih]; rfl
theorem idx_hit {c : UInt8} : ∀ (p l : List UInt8), c ∉ p → Lib.indexByte (p ++ c :: l) c = p.length
  | [], l, _ => by simp [Lib.indexByte]
  | x :: p, l, h => by
    have hx : (x == c) = false := beq_eq_false_iff_ne.2 (fun e => h (by simp [e]))
    have ih := idx_hit p l (fun hp => h (List.mem_cons_of_mem _ hp))
    rw [List.cons_append]
    unfold Lib.indexByte
    rw [hx, ih]
    have : ((p.length : Int) == -1) = false := beq_eq_false_iff_ne.2 (by omega)
    rw [this]; simp
/-- Pieces joined by a byte are split again by the program's library. -/
theorem splitK_join {c : UInt8} : ∀ (l : List (List UInt8)) (k : Nat), l ≠ [] → (∀ p, p ∈ l → c ∉ p) → l.length ≤ k + 1 → Lib.splitK [c] 0 k (Lib.join l [c]) = l
  | [], _, h, _, _ => absurd rfl h
  | [p], k, _, h, _ => by
    rw [Lib.join_one]
    cases k with
    | zero => rfl
    | succ k =>
      unfold Lib.splitK
      rw [Lib.index_one, idx_free p (h p (by simp))]; rfl
  | p :: q :: l, k, _, h, hk => by
    obtain ⟨k, rfl⟩ : ∃ j, k = j + 1 := ⟨k - 1, by simp at hk; omega⟩
    have ih := splitK_join (q :: l) k (by simp) (fun x hx => h x (List.mem_cons_of_mem _ hx)) (by simp at hk ⊢; omega)
    rw [join_ne _ _ (by simp), List.singleton_append]
    have hi := idx_hit p (Lib.join (q :: l) [c]) (h p (by simp))
    unfold Lib.splitK
    rw [Lib.index_one, hi]
    have e1 : ((p.length : Int) == -1) = false := beq_eq_false_iff_ne.2 (by omega)
    have e2 : ((p.length : Int).toNat) = p.length := by omega
    rw [e1, if_neg (by simp), e2, Nat.add_zero, List.take_left' rfl, List.length_singleton]
    have e3 : (p ++ c :: Lib.join (q :: l) [c]).drop (p.length + 1) = Lib.join (q :: l) [c] := by
      rw [List.drop_append, List.drop_of_length_le (by omega)]; simp
    rw [e3, ih]
theorem count_join {c : UInt8} : ∀ (l : List (List UInt8)), l ≠ [] → (∀ p, p ∈ l → c ∉ p) → (Lib.join l [c]).count c = l.length - 1
  | [], h, _ => absurd rfl h
  | [p], _, h => by rw [Lib.join_one, List.count_eq_zero.2 (h p (by simp))]; rfl
  | p :: q :: l, _, h => by
    have ih := count_join (q :: l) (by simp) (fun x hx => h x (List.mem_cons_of_mem _ hx))
    rw [join_ne _ _ (by simp), List.singleton_append, List.count_append, List.count_cons_self, ih, List.count_eq_zero.2 (h p (by simp))]
    simp
theorem replaceK_join {c d : UInt8} : ∀ (l : List (List UInt8)) (k : Nat), l ≠ [] → (∀ p, p ∈ l → c ∉ p) → l.length ≤ k + 1 → Lib.replaceK [c] [d] k (Lib.join l [c]) = Lib.join l [d]
  | [], _, h, _, _ => absurd rfl h
  | [p], k, _, h, _ => by
    rw [Lib.join_one, Lib.join_one]
    cases k with
    | zero => rfl
    | succ k =>
      unfold Lib.replaceK
      rw [Lib.index_one, idx_free p (h p (by simp))]; rfl
  | p :: q :: l, k, _, h, hk => by
    obtain ⟨k, rfl⟩ : ∃ j, k = j + 1 := ⟨k - 1, by simp at hk; omega⟩
    have ih := replaceK_join (d := d) (q :: l) k (by simp) (fun x hx => h x (List.mem_cons_of_mem _ hx)) (by simp at hk ⊢; omega)
    have j1 := join_ne p (q :: l) (by simp) [c]
    have j2 := join_ne p (q :: l) (by simp) [d]
    rw [j1, j2, List.singleton_append, List.singleton_append]
    have hi : Lib.index (p ++ c :: Lib.join (q :: l) [c]) [c] = (p.length : Nat) := by rw [Lib.index_one]; exact idx_hit p _ (h p (by simp))
    have e3 : (p ++ c :: Lib.join (q :: l) [c]).drop (p.length + 1) = Lib.join (q :: l) [c] := by
      rw [List.drop_append, List.drop_of_length_le (by omega)]; simp
    rw [Lib.replaceK_hit _ _ _ _ _ hi, List.take_left' rfl, List.length_singleton, e3, ih, List.append_assoc]
    rfl
theorem replaceAll_join {c d : UInt8} (hcd : c ≠ d) (l : List (List UInt8)) (hne : l ≠ []) (hf : ∀ p, p ∈ l → c ∉ p) : Lib.replaceAll (Lib.join l [c]) [c] [d] = Lib.join l [d] := by
  unfold Lib.replaceAll Lib.replace Lib.replaceNum
  have e : (([c] : List UInt8) == [d]) = false := by simp [hcd]
  rw [e, if_neg (by simp), if_pos (Or.inl (by decide)), Lib.count_one, count_join l hne hf]
  exact replaceK_join l _ hne hf (by omega)
/-- All numerals of a scene. -/
def allW (xs : List Int) : List ByteArray := (List.range 24).map fun i => dgI (xs.getD i 0)
theorem allW_len (xs : List Int) : (allW xs).length = 24 := by simp [allW]
theorem allW_free {xs : List Int} (h : ∀ k, 0 ≤ xs.getD k 0 ∧ xs.getD k 0 ≤ 60) : ∀ p, p ∈ (allW xs).map (·.data.toList) → (32 : UInt8) ∉ p := fun p hp => by
  simp only [allW, List.map_map, List.mem_map] at hp
  obtain ⟨i, _, rfl⟩ := hp
  have hb := dg_bytes ⟨(xs.getD i 0).toNat, by have := h i; omega⟩
  exact fun hm => (hb _ hm).2 rfl
theorem rows_all (xs : List Int) : Lib.join ((rowsL xs 4).map (·.data.toList)) [32] = Lib.join ((allW xs).map (·.data.toList)) [32] := by
  simp [joinB, rowsL, wordsL, allW, List.range_succ, Lib.join_cons, Lib.joinTail, List.append_assoc]
/-- A scene's text, with blanks for its strokes, splits in its numerals. -/
theorem impl_words {xs : List Int} (h : ∀ k, 0 ≤ xs.getD k 0 ∧ xs.getD k 0 ≤ 60) (k : Nat) (hk : 23 ≤ k) : Lib.splitK [32] 0 k (Lib.replaceAll (scT xs 24).data.toList [47] [32]) = (allW xs).map (·.data.toList) := by
  rw [← text_eq]
  have e : (joinB (rowsL xs 4) [47]).data.toList = Lib.join ((rowsL xs 4).map (·.data.toList)) [47] := rfl
  rw [e, replaceAll_join (by decide) _ (by intro h; have := congrArg List.length h; simp [rowsL_len] at this) (fun p hp => by
    rw [List.mem_map] at hp
    obtain ⟨q, hq, rfl⟩ := hp
    simp only [rowsL, List.mem_map] at hq
    obtain ⟨i, _, rfl⟩ := hq
    refine not_join [32] (by decide) _ (fun z hz => ?_)
    rw [List.mem_map] at hz
    obtain ⟨u, hu, rfl⟩ := hz
    exact (words_free h i 6 u hu).1), rows_all]
  exact splitK_join _ k (by intro h; have := congrArg List.length h; simp [allW_len] at this) (allW_free h) (by rw [List.length_map, allW_len]; omega)
theorem parse_one : ∀ n : Fin 10, Lib.parseIntB 8 [UInt8.ofNat (48 + n.val)] = .ok (n.val : Int) := by decide +kernel
theorem parse_two : ∀ a b : Fin 10, 10 * a.val + b.val ≤ 60 → Lib.parseIntB 8 [UInt8.ofNat (48 + a.val), UInt8.ofNat (48 + b.val)] = .ok ((10 * a.val + b.val : Nat) : Int) := by decide +kernel
theorem parse_dg {n : Nat} (h : n ≤ 60) : Lib.parseIntB 8 (dgS n).data.toList = .ok (n : Int) := by
  by_cases h1 : n < 10
  · rw [dgS_one h1]; exact parse_one ⟨n, h1⟩
  · rw [dgS_two h1 (by omega)]
    have := parse_two ⟨n / 10, by omega⟩ ⟨n % 10, by omega⟩ (by show 10 * (n / 10) + n % 10 ≤ 60; omega)
    have e : 10 * (n / 10) + n % 10 = n := by omega
    simp only [e] at this
    exact this
end Go.Proofs.YtbcahfiknelkcaaGreatDoor
