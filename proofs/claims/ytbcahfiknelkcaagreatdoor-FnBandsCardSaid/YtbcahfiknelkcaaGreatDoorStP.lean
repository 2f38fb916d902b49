/- ReadStrip: the plain laws. -/
import Derived.Test.YtbcahfiknelkcaaGreatDoorRdI
import Derived.Test.YtbcahfiknelkcaaGreatDoorRdJ0
namespace Go.Proofs.YtbcahfiknelkcaaGreatDoor
open Go.RowKit
def srB (a e b : Int) : Bool := decide (0 ≤ a) && decide (a ≤ 36) && (decide (1 ≤ e) && decide (e ≤ 9)) && (decide (1 ≤ b) && decide (b ≤ 20)) && (decide (0 ≤ a + e * (b - 1)) && decide (a + e * (b - 1) ≤ 36))
theorem srB_iff (a e b : Int) : srB a e b = true ↔ (0 ≤ a ∧ a ≤ 36) ∧ (1 ≤ e ∧ e ≤ 9) ∧ (1 ≤ b ∧ b ≤ 20) ∧ 0 ≤ a + e * (b - 1) ∧ a + e * (b - 1) ≤ 36 := by
  simp only [srB, Bool.and_eq_true, decide_eq_true_eq]
  exact ⟨fun h => ⟨h.1.1.1, h.1.1.2, h.1.2, h.2⟩, fun h => ⟨⟨⟨h.1, h.2.1⟩, h.2.2.1⟩, h.2.2.2⟩⟩
def srL (a e b : Int) : List ByteArray := [dgI a, dgI e, dgI b]
def srT (a e b : Int) : ByteArray := dgI a ++ ⟨#[32]⟩ ++ dgI e ++ ⟨#[32]⟩ ++ dgI b
theorem srT_join (a e b : Int) : joinB (srL a e b) [32] = srT a e b := by
  apply ByteArray.ext
  apply Array.toList_inj.1
  simp [joinB, srL, srT, Lib.join_cons, Lib.joinTail, List.append_assoc]
def wdT (t : ByteArray) (i : Nat) : ByteArray := (spL t 32).getD i ⟨#[]⟩
def nW (t : ByteArray) (i : Nat) : Int := ((numV (wdT t i)).1 : Nat)
/-- A text that is read as a strip. -/
structure SrOk (t : ByteArray) : Prop where
  len : (spL t 32).length = 3
  num : ∀ i, i < 3 → (numV (wdT t i)).2 = true
  ok : srB (nW t 0) (nW t 1) (nW t 2) = true
theorem srB_small {a e b : Int} (h : srB a e b = true) : (0 ≤ a ∧ a ≤ 36) ∧ (0 ≤ e ∧ e ≤ 36) ∧ (0 ≤ b ∧ b ≤ 36) := by
  have := (srB_iff a e b).1 h
  exact ⟨this.1, ⟨by omega, by omega⟩, ⟨by omega, by omega⟩⟩
theorem srOk_small {t : ByteArray} (h : SrOk t) : ∀ i, i < 3 → 0 ≤ nW t i ∧ nW t i ≤ 36 := fun i hi => by
  have hs := srB_small h.ok
  rcases (show i = 0 ∨ i = 1 ∨ i = 2 by omega) with e | e | e <;> subst e
  · exact hs.1
  · exact hs.2.1
  · exact hs.2.2
theorem srOk_word {t : ByteArray} (h : SrOk t) (i : Nat) (hi : i < 3) : wdT t i = dgI (nW t i) := by
  have h1 := h.num i hi
  have h2 := (srOk_small h i hi).2
  unfold nW dgI at *
  rw [Int.toNat_natCast]
  exact num_word h1 (by omega)
theorem list3 {α : Type} (l : List α) (d : α) (h : l.length = 3) : l = [l.getD 0 d, l.getD 1 d, l.getD 2 d] := by
  match l, h with
  | [a, b, c], _ => rfl
theorem sr_words {t : ByteArray} (h : SrOk t) : spL t 32 = srL (nW t 0) (nW t 1) (nW t 2) := by
  have e := list3 (spL t 32) ⟨#[]⟩ h.len
  rw [e]
  show [wdT t 0, wdT t 1, wdT t 2] = _
  rw [srOk_word h 0 (by omega), srOk_word h 1 (by omega), srOk_word h 2 (by omega)]
  rfl
theorem sr_text {t : ByteArray} (h : SrOk t) : srT (nW t 0) (nW t 1) (nW t 2) = t := by
  rw [← srT_join, ← sr_words h]
  exact joinB_spL t 32 (by omega)
theorem srL_free {a e b : Int} (h : srB a e b = true) : ∀ p, p ∈ srL a e b → (32 : UInt8) ∉ p.data.toList := fun p hp => by
  have hs := srB_small h
  have key : ∀ x : Int, 0 ≤ x → x ≤ 36 → (32 : UInt8) ∉ (dgI x).data.toList := fun x h0 h1 hm =>
    (dg_bytes ⟨x.toNat, by omega⟩ _ hm).2 rfl
  simp only [srL, List.mem_cons, List.not_mem_nil, or_false] at hp
  rcases hp with rfl | rfl | rfl
  · exact key _ hs.1.1 hs.1.2
  · exact key _ hs.2.1.1 hs.2.1.2
  · exact key _ hs.2.2.1 hs.2.2.2
theorem text_spl {a e b : Int} (h : srB a e b = true) : spL (srT a e b) 32 = srL a e b := by
  rw [← srT_join]
  exact split_join 32 (by omega) (by simp [srL]) (srL_free h)
theorem num_dgI {x : Int} (h0 : 0 ≤ x) (h1 : x ≤ 36) : numV (dgI x) = (x.toNat, true) := num_dg (by omega)
theorem text_sr {a e b : Int} (h : srB a e b = true) : SrOk (srT a e b) ∧ nW (srT a e b) 0 = a ∧ nW (srT a e b) 1 = e ∧ nW (srT a e b) 2 = b := by
  have hs := srB_small h
  have w0 : wdT (srT a e b) 0 = dgI a := by unfold wdT; rw [text_spl h]; rfl
  have w1 : wdT (srT a e b) 1 = dgI e := by unfold wdT; rw [text_spl h]; rfl
  have w2 : wdT (srT a e b) 2 = dgI b := by unfold wdT; rw [text_spl h]; rfl
  have n0 : nW (srT a e b) 0 = a := by unfold nW; rw [w0, num_dgI hs.1.1 hs.1.2]; show ((a.toNat : Nat) : Int) = a; omega
  have n1 : nW (srT a e b) 1 = e := by unfold nW; rw [w1, num_dgI hs.2.1.1 hs.2.1.2]; show ((e.toNat : Nat) : Int) = e; omega
  have n2 : nW (srT a e b) 2 = b := by unfold nW; rw [w2, num_dgI hs.2.2.1 hs.2.2.2]; show ((b.toNat : Nat) : Int) = b; omega
  refine ⟨⟨by rw [text_spl h]; rfl, fun i hi => ?_, by rw [n0, n1, n2]; exact h⟩, n0, n1, n2⟩
  rcases (show i = 0 ∨ i = 1 ∨ i = 2 by omega) with e' | e' | e' <;> subst e'
  · rw [w0, num_dgI hs.1.1 hs.1.2]
  · rw [w1, num_dgI hs.2.1.1 hs.2.1.2]
  · rw [w2, num_dgI hs.2.2.1 hs.2.2.2]
open Classical in
/-- What ReadStrip returns. -/
noncomputable def srV (t : ByteArray) : (Int × Int × Int) × Int := if SrOk t then ((nW t 0, nW t 1, nW t 2), 0) else ((0, 0, 0), 5)
theorem srV_yes {t : ByteArray} (h : SrOk t) : srV t = ((nW t 0, nW t 1, nW t 2), 0) := by unfold srV; rw [if_pos h]
theorem srV_no {t : ByteArray} (h : ¬ SrOk t) : srV t = ((0, 0, 0), 5) := by unfold srV; rw [if_neg h]
theorem srV_text {a e b : Int} (h : srB a e b = true) : srV (srT a e b) = ((a, e, b), 0) := by
  obtain ⟨h1, h2, h3, h4⟩ := text_sr h
  rw [srV_yes h1, h2, h3, h4]
/-! The program's loop. -/
def wdL (t : ByteArray) : List ByteArray := Lib.splitB ⟨#[32]⟩ 0 (min 4 (t.size + 1) - 1) t
theorem wdL_size (t : ByteArray) : (wdL t).length ≤ 4 := by
  have := Lib.splitB_length_le ⟨#[32]⟩ 0 (min 4 (t.size + 1) - 1) t
  unfold wdL
  omega
theorem dgI_pos {x : Int} (h0 : 0 ≤ x) (h1 : x ≤ 36) : 1 ≤ (dgI x).size := by
  unfold dgI
  by_cases h : x.toNat < 10
  · rw [dgS_one h]; show (1 : Nat) ≤ 1; omega
  · rw [dgS_two h (by omega)]; show (1 : Nat) ≤ 2; omega
theorem sr_wdL {t : ByteArray} (h : SrOk t) : wdL t = srL (nW t 0) (nW t 1) (nW t 2) := by
  have ht := sr_text h
  have hs := srB_small h.ok
  apply toList_inj
  unfold wdL
  rw [Lib.splitB_data]
  have e : t.data.toList = Lib.join ((srL (nW t 0) (nW t 1) (nW t 2)).map (·.data.toList)) [32] := by
    have : (joinB (srL (nW t 0) (nW t 1) (nW t 2)) [32]) = t := by rw [srT_join]; exact ht
    rw [← congrArg (fun x : ByteArray => x.data.toList) this]; rfl
  rw [e]
  refine splitK_join _ _ (by simp [srL]) (fun p hp => ?_) ?_
  · rw [List.mem_map] at hp
    obtain ⟨q, hq, rfl⟩ := hp
    exact srL_free h.ok q hq
  · have hsz : 5 ≤ t.size := by
      rw [← ht]
      unfold srT
      have a1 := dgI_pos hs.1.1 hs.1.2
      have a2 := dgI_pos hs.2.1.1 hs.2.1.2
      have a3 := dgI_pos hs.2.2.1 hs.2.2.2
      simp only [ByteArray.size_append]
      have a4 : (⟨#[32]⟩ : ByteArray).size = 1 := rfl
      omega
    show 3 ≤ _
    omega
def jX (L : List ByteArray) : Nat → List Int
  | 0 => [0, 0, 0]
  | i + 1 => (jX L i).set i (i8w ((pI (L.getD i ⟨#[]⟩)).getD 0))
theorem jX_len (L : List ByteArray) : ∀ i, (jX L i).length = 3
  | 0 => rfl
  | i + 1 => by rw [jX, List.length_set]; exact jX_len L i
theorem jX_bd (L : List ByteArray) : ∀ i j, -128 ≤ (jX L i).getD j 0 ∧ (jX L i).getD j 0 ≤ 127
  | 0, j => by
    have e : (jX L 0).getD j 0 = 0 := by
      show (List.replicate 3 (0 : Int)).getD j 0 = 0
      rw [List.getD_eq_getElem?_getD, List.getElem?_replicate]; split <;> rfl
    rw [e]; omega
  | i + 1, j => by
    have ih := jX_bd L i j
    have hb := i8w_bd ((pI (L.getD i ⟨#[]⟩)).getD 0)
    unfold jX
    rw [List.getD_eq_getElem?_getD, List.getElem?_set]
    split
    · split
      · simpa using hb
      · simp
    · rwa [List.getD_eq_getElem?_getD] at ih
theorem jX_full {a e b : Int} (h : srB a e b = true) : jX (srL a e b) 3 = [a, e, b] := by
  have hs := srB_small h
  have h8 : ∀ x : Int, 0 ≤ x → x ≤ 36 → i8w ((pI (dgI x)).getD 0) = x := fun x h0 h1 => by
    rw [pI_dg ⟨h0, by omega⟩]
    show i8w x = x
    unfold i8w; exact Go.IntWalk.i8_in _ (by omega)
  have e0 : (srL a e b).getD 0 ⟨#[]⟩ = dgI a := rfl
  have e1 : (srL a e b).getD 1 ⟨#[]⟩ = dgI e := rfl
  have e2 : (srL a e b).getD 2 ⟨#[]⟩ = dgI b := rfl
  simp only [jX, e0, e1, e2, h8 a hs.1.1 hs.1.2, h8 e hs.2.1.1 hs.2.1.2, h8 b hs.2.2.1 hs.2.2.2]
  rfl
def okJ (L : List ByteArray) (i : Nat) : Prop := ∀ j, j < i → (pI (L.getD j ⟨#[]⟩)).isSome = true ∧ j ≠ 3
theorem okJ_succ {L : List ByteArray} {i : Nat} (h : okJ L i) (h1 : (pI (L.getD i ⟨#[]⟩)).isSome = true) (h2 : i ≠ 3) : okJ L (i + 1) := fun j hj => by
  by_cases e : j = i
  · subst e; exact ⟨h1, h2⟩
  · exact h j (by omega)
/-- If the reference reads the text, each word is a number, and there are three. -/
theorem sr_all {t : ByteArray} (h : SrOk t) : (wdL t).length = 3 ∧ (∀ i, i < 3 → (pI ((wdL t).getD i ⟨#[]⟩)).isSome = true) ∧ jX (wdL t) 3 = [nW t 0, nW t 1, nW t 2] := by
  have hs := srB_small h.ok
  rw [sr_wdL h]
  refine ⟨rfl, fun i hi => ?_, jX_full h.ok⟩
  rcases (show i = 0 ∨ i = 1 ∨ i = 2 by omega) with e | e | e <;> subst e
  · show (pI (dgI _)).isSome = true; rw [pI_dg ⟨hs.1.1, by omega⟩]; rfl
  · show (pI (dgI _)).isSome = true; rw [pI_dg ⟨hs.2.1.1, by omega⟩]; rfl
  · show (pI (dgI _)).isSome = true; rw [pI_dg ⟨hs.2.2.1, by omega⟩]; rfl
end Go.Proofs.YtbcahfiknelkcaaGreatDoor
