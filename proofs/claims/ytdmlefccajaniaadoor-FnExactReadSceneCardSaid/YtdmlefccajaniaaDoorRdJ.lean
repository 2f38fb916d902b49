/- ReadScene: the program's loop, plain. -/
import Derived.Test.YtdmlefccajaniaaDoorRdI
import Derived.Test.YtdmlefccajaniaaDoorRdS
import Derived.Test.YtdmlefccajaniaaDoorShelfR
import Derived.Laws.Closers25b
namespace Go.Proofs.YtdmlefccajaniaaDoor
open Go.RowKit
def repT (t : ByteArray) : ByteArray := ⟨(Lib.replaceAll t.data.toList [47] [32]).toArray⟩
theorem replaceK_len (c d : UInt8) : ∀ (k : Nat) (s : List UInt8), (Lib.replaceK [c] [d] k s).length = s.length
  | 0, s => rfl
  | k + 1, s => by
    unfold Lib.replaceK
    split
    · rfl
    · rename_i h
      have hg := Lib.index_ge s [c]
      have hne : Lib.index s [c] ≠ -1 := fun e => h (by rw [e]; rfl)
      obtain ⟨i, hi⟩ : ∃ i : Nat, Lib.index s [c] = i := ⟨(Lib.index s [c]).toNat, by omega⟩
      have hi2 : Lib.indexByte s c = i := by rw [← Lib.index_one]; exact hi
      have hlt : i < s.length := (List.getElem?_eq_some_iff.1 (Lib.indexByte_some hi2).1).1
      rw [hi]
      have e : ((i : Int).toNat) = i := by omega
      rw [e, List.length_append, List.length_append, replaceK_len c d k, List.length_drop, List.length_take, List.length_singleton, List.length_singleton]
      omega
theorem repT_size (t : ByteArray) : (repT t).size = t.size := by
  show (Lib.replaceAll t.data.toList [47] [32]).toArray.size = _
  rw [List.size_toArray]
  unfold Lib.replaceAll Lib.replace
  rw [if_neg (by decide), replaceK_len]
  exact Array.length_toList
def wrdL (t : ByteArray) : List ByteArray := Lib.splitB ⟨#[32]⟩ 0 (min 25 ((repT t).size + 1) - 1) (repT t)
def pI (s : ByteArray) : Option Int := match Lib.parseIntB 8 s.data.toList with
  | .ok v => some v
  | _ => none
def i8w (v : Int) : Int := IntKind.i8.wrap v
def iX (L : List ByteArray) : Nat → List Int
  | 0 => Z24
  | i + 1 => (iX L i).set i (i8w ((pI (L.getD i ⟨#[]⟩)).getD 0))
theorem iX_len (L : List ByteArray) : ∀ i, (iX L i).length = 24
  | 0 => by simp [iX, Z24]
  | i + 1 => by rw [iX, List.length_set]; exact iX_len L i
theorem i8w_bd (v : Int) : -128 ≤ i8w v ∧ i8w v ≤ 127 := by have h := wrap_within .i8 v; exact ⟨h.1, h.2⟩
theorem iX_sc (L : List ByteArray) : ∀ i, Sc (iX L i)
  | 0 => ⟨iX_len L 0, fun j => by
    have e : (iX L 0).getD j 0 = 0 := by
      show (List.replicate 24 (0 : Int)).getD j 0 = 0
      rw [List.getD_eq_getElem?_getD, List.getElem?_replicate]; split <;> rfl
    rw [e]; omega⟩
  | i + 1 => ⟨iX_len L (i + 1), fun j => by
    have ih := (iX_sc L i).2 j
    have hb := i8w_bd ((pI (L.getD i ⟨#[]⟩)).getD 0)
    unfold iX
    rw [List.getD_eq_getElem?_getD, List.getElem?_set]
    split
    · split
      · simpa using hb
      · simp
    · rwa [List.getD_eq_getElem?_getD] at ih⟩
theorem scT_low (xs : List Int) (h : ∀ k, 0 ≤ xs.getD k 0 ∧ xs.getD k 0 ≤ 60) : ∀ k, k ≤ (scT xs k).size
  | 0 => Nat.zero_le _
  | k + 1 => by
    have ih := scT_low xs h k
    show k + 1 ≤ ((scT xs k ++ sepB k) ++ dgS (xs.getD k 0).toNat).size
    rw [ByteArray.size_append, ByteArray.size_append]
    have hd : 1 ≤ (dgS (xs.getD k 0).toNat).size := by
      by_cases h1 : (xs.getD k 0).toNat < 10
      · rw [dgS_one h1]; show (1 : Nat) ≤ 1; omega
      · rw [dgS_two h1 (by have := h k; omega)]; show (1 : Nat) ≤ 2; omega
    omega
/-- A text that the reference reads: its words are the numerals, and they are read. -/
theorem rd_words {t : ByteArray} (h : RdOk t) : wrdL t = allW (rdL t) := by
  have hA := okS_all (rd_ok h)
  have ht := rd_text h
  apply toList_inj
  unfold wrdL
  rw [Lib.splitB_data]
  have e : (repT t).data.toList = Lib.replaceAll (scT (rdL t) 24).data.toList [47] [32] := by rw [ht]; rfl
  rw [e]
  have hs : 23 ≤ min 25 ((repT t).size + 1) - 1 := by
    rw [repT_size, ← ht]
    have := scT_low (rdL t) hA 24
    omega
  exact impl_words hA _ hs
theorem allW_get (xs : List Int) (i : Nat) (h : i < 24) : (allW xs).getD i ⟨#[]⟩ = dgI (xs.getD i 0) := by
  simp [allW, List.getD_eq_getElem?_getD, h]
theorem pI_dg {x : Int} (h : 0 ≤ x ∧ x ≤ 60) : pI (dgI x) = some x := by
  unfold pI dgI
  rw [parse_dg (n := x.toNat) (by omega)]
  show some (x.toNat : Int) = _
  rw [Int.toNat_of_nonneg h.1]
theorem iX_all {xs : List Int} (hl : xs.length = 24) (h : ∀ k, 0 ≤ xs.getD k 0 ∧ xs.getD k 0 ≤ 60) : ∀ i, i ≤ 24 → iX (allW xs) i = xs.take i ++ List.replicate (24 - i) 0
  | 0, _ => by simp [iX, Z24]
  | i + 1, hi => by
    have ih := iX_all hl h i (by omega)
    have hx := h i
    unfold iX
    rw [ih, allW_get xs i (by omega), pI_dg hx]
    have e : i8w ((some (xs.getD i 0) : Option Int).getD 0) = xs.getD i 0 := by
      show i8w (xs.getD i 0) = _
      unfold i8w; exact Go.IntWalk.i8_in _ (by omega)
    rw [e]
    exact set_step xs i 24 hl (by omega) 0
theorem iX_full {xs : List Int} (hl : xs.length = 24) (h : ∀ k, 0 ≤ xs.getD k 0 ∧ xs.getD k 0 ≤ 60) : iX (allW xs) 24 = xs := by
  rw [iX_all hl h 24 (Nat.le_refl _), List.take_of_length_le (by omega)]; simp
end Go.Proofs.YtdmlefccajaniaaDoor
