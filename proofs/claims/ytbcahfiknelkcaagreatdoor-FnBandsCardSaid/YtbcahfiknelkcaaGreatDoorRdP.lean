/- ReadScene: the plain laws of the reference's reading. -/
import Derived.Test.YtbcahfiknelkcaaGreatDoorSplP
namespace Go.Proofs.YtbcahfiknelkcaaGreatDoor
open Go.RowKit
theorem num_one : ∀ n : Fin 10, numV ⟨#[UInt8.ofNat (48 + n.val)]⟩ = (n.val, true) := by decide
theorem num_two : ∀ a b : Fin 10, a.val ≠ 0 → numV ⟨#[UInt8.ofNat (48 + a.val), UInt8.ofNat (48 + b.val)]⟩ = (10 * a.val + b.val, true) := by decide +kernel
theorem dgS_one {n : Nat} (h : n < 10) : dgS n = ⟨#[UInt8.ofNat (48 + n)]⟩ := by unfold dgS; rw [dg_one h]
theorem dgS_two {n : Nat} (h : ¬ n < 10) (h2 : n < 100) : dgS n = ⟨#[UInt8.ofNat (48 + n / 10), UInt8.ofNat (48 + n % 10)]⟩ := by unfold dgS; rw [dg_two h, dg_one (by omega)]; rfl
/-- A numeral is read back. -/
theorem num_dg {n : Nat} (h : n < 100) : numV (dgS n) = (n, true) := by
  by_cases h1 : n < 10
  · rw [dgS_one h1]; exact num_one ⟨n, h1⟩
  · rw [dgS_two h1 h, num_two ⟨n / 10, by omega⟩ ⟨n % 10, by omega⟩ (by show n / 10 ≠ 0; omega)]
    show (10 * (n / 10) + n % 10, true) = (n, true)
    rw [Nat.div_add_mod]
theorem numF_low {s : ByteArray} (h0 : bU s 0 ≠ 48) : ∀ k, digT s (k + 1) = true → 10 ^ k ≤ numF s (k + 1)
  | 0, h => by
    have hd := digT_at h 0 (by omega)
    simp only [isD, Bool.and_eq_true, decide_eq_true_eq] at hd
    show 1 ≤ 10 * 0 + (bU s 0 - 48)
    omega
  | k + 1, h => by
    have h' : digT s (k + 1) = true ∧ isD (bU s (k + 1)) = true := by
      have : digT s (k + 1 + 1) = (digT s (k + 1) && isD (bU s (k + 1))) := rfl
      rw [this, Bool.and_eq_true] at h; exact h
    have ih := numF_low h0 k h'.1
    have e : numF s (k + 1 + 1) = 10 * numF s (k + 1) + (bU s (k + 1) - 48) := rfl
    rw [e, Nat.pow_succ]
    omega
theorem toList_bytes (s : ByteArray) : s.data.toList = (List.range s.size).map fun i => UInt8.ofNat (bU s i) := by
  apply List.ext_getElem?
  intro i
  by_cases h : i < s.size
  · rw [byte_get h]; simp [h]
  · rw [List.getElem?_eq_none (by rw [Array.length_toList]; exact Nat.le_of_not_lt h), List.getElem?_eq_none (by simp; omega)]
/-- A word that is read as a small number is that number's numeral. -/
theorem num_word {s : ByteArray} (h : (numV s).2 = true) (h60 : (numV s).1 ≤ 60) : s = dgS (numV s).1 := by
  by_cases hc : s.size = 0 ∨ 9 < s.size ∨ (bU s 0 = 48 ∧ 1 < s.size) ∨ digT s s.size = false
  · rw [numV_no hc] at h; cases h
  · rw [numV_yes hc] at h60 ⊢
    have c0 : s.size ≠ 0 := fun h => hc (Or.inl h)
    have c2 : ¬ (bU s 0 = 48 ∧ 1 < s.size) := fun h => hc (Or.inr (Or.inr (Or.inl h)))
    have c3 : digT s s.size = true := by
      cases e : digT s s.size
      · exact absurd (Or.inr (Or.inr (Or.inr e))) hc
      · rfl
    have hb := toList_bytes s
    have hd0 := digT_at c3 0 (by omega)
    simp only [isD, Bool.and_eq_true, decide_eq_true_eq] at hd0
    have key : s.size = 1 ∨ s.size = 2 := by
      rcases Nat.lt_or_ge s.size 3 with hlt | hge
      · omega
      · exfalso
        have hne : bU s 0 ≠ 48 := fun h => c2 ⟨h, by omega⟩
        obtain ⟨k, hk⟩ : ∃ k, s.size = k + 1 := ⟨s.size - 1, by omega⟩
        rw [hk] at c3 h60
        have h1 := numF_low hne k c3
        have h2 : 10 ^ 2 ≤ 10 ^ k := Nat.pow_le_pow_right (by omega) (by omega)
        omega
    rcases key with h1 | h2
    · rw [h1] at hb ⊢
      have e : numF s 1 = bU s 0 - 48 := by show 10 * 0 + (bU s 0 - 48) = _; omega
      rw [e, dgS_one (by omega)]
      apply ByteArray.ext
      apply Array.toList_inj.1
      rw [hb, show 48 + (bU s 0 - 48) = bU s 0 by omega]
      rfl
    · rw [h2] at hb c3 ⊢
      have hd1 := digT_at c3 1 (by omega)
      simp only [isD, Bool.and_eq_true, decide_eq_true_eq] at hd1
      have hne : bU s 0 ≠ 48 := fun h => c2 ⟨h, by omega⟩
      have e : numF s 2 = 10 * (bU s 0 - 48) + (bU s 1 - 48) := by show 10 * (10 * 0 + (bU s 0 - 48)) + (bU s 1 - 48) = _; omega
      rw [e, dgS_two (by omega) (by omega)]
      apply ByteArray.ext
      apply Array.toList_inj.1
      rw [hb, show 48 + (10 * (bU s 0 - 48) + (bU s 1 - 48)) / 10 = bU s 0 by omega, show 48 + (10 * (bU s 0 - 48) + (bU s 1 - 48)) % 10 = bU s 1 by omega]
      rfl
def rowW (t : ByteArray) (y : Nat) : ByteArray := (spL t 47).getD y ⟨#[]⟩
def wordW (t : ByteArray) (y x : Nat) : ByteArray := (spL (rowW t y) 32).getD x ⟨#[]⟩
/-- A text that is read as a scene. -/
structure RdOk (t : ByteArray) : Prop where
  rows : (spL t 47).length = 4
  words : ∀ y, y < 4 → (spL (rowW t y) 32).length = 6
  num : ∀ y x, y < 4 → x < 6 → (numV (wordW t y x)).2 = true ∧ (numV (wordW t y x)).1 ≤ 60
def rdL (t : ByteArray) : List Int := (List.range 24).map fun i => (((numV (wordW t (i / 6) (i % 6))).1 : Nat) : Int)
theorem rdL_length (t : ByteArray) : (rdL t).length = 24 := by simp [rdL]
theorem rdL_get (t : ByteArray) (y x : Nat) (hy : y < 4) (hx : x < 6) : (rdL t).getD (6 * y + x) 0 = (((numV (wordW t y x)).1 : Nat) : Int) := by
  have h : 6 * y + x < 24 := by omega
  simp [rdL, List.getD_eq_getElem?_getD, h, show (6 * y + x) / 6 = y by omega, show (6 * y + x) % 6 = x by omega]
theorem joinB_spL (t : ByteArray) (c : Nat) (hc : c < 256) : joinB (spL t c) [UInt8.ofNat c] = t := by
  unfold joinB
  rw [spL_spR t c hc, join_spR]
theorem words_rd {t : ByteArray} (h : RdOk t) (y : Nat) (hy : y < 4) : wordsL (rdL t) y 6 = spL (rowW t y) 32 := by
  apply List.ext_getElem?
  intro x
  by_cases hx : x < 6
  · obtain ⟨h1, h2⟩ := h.num y x hy hx
    have hw := num_word h1 h2
    have hl : x < (spL (rowW t y) 32).length := by rw [h.words y hy]; exact hx
    have e : (spL (rowW t y) 32)[x]? = some (wordW t y x) := by
      unfold wordW; rw [List.getD_eq_getElem?_getD, List.getElem?_eq_getElem hl]; rfl
    rw [e, hw]
    simp only [wordsL]
    rw [List.getElem?_map, List.getElem?_range hx]
    show some (dgI ((rdL t).getD (6 * y + x) 0)) = _
    rw [rdL_get t y x hy hx]
    unfold dgI
    rw [Int.toNat_natCast, ← hw]
  · rw [List.getElem?_eq_none (by rw [wordsL_len]; omega), List.getElem?_eq_none (by rw [h.words y hy]; omega)]
/-- The text of what is read is the text. -/
theorem rd_text {t : ByteArray} (h : RdOk t) : scT (rdL t) 24 = t := by
  rw [← text_eq]
  have e : rowsL (rdL t) 4 = spL t 47 := by
    apply List.ext_getElem?
    intro y
    by_cases hy : y < 4
    · have hl : y < (spL t 47).length := by rw [h.rows]; exact hy
      have e : (spL t 47)[y]? = some (rowW t y) := by
        unfold rowW; rw [List.getD_eq_getElem?_getD, List.getElem?_eq_getElem hl]; rfl
      rw [e]
      simp only [rowsL]
      rw [List.getElem?_map, List.getElem?_range hy]
      show some (joinB (wordsL (rdL t) y 6) [32]) = _
      rw [words_rd h y hy]
      exact congrArg some (joinB_spL (rowW t y) 32 (by omega))
    · rw [List.getElem?_eq_none (by rw [rowsL_len]; omega), List.getElem?_eq_none (by rw [h.rows]; omega)]
  rw [e]
  exact joinB_spL t 47 (by omega)
theorem rd_ok {t : ByteArray} (h : RdOk t) : okS (rdL t) = true := by
  unfold okS
  rw [List.all_eq_true]
  intro x hx
  simp only [rdL, List.mem_map, List.mem_range] at hx
  obtain ⟨i, hi, rfl⟩ := hx
  have := (h.num (i / 6) (i % 6) (by omega) (by omega)).2
  rw [rdB_iff]
  omega
theorem not_join {c : UInt8} (sep : List UInt8) (hs : c ∉ sep) : ∀ l : List (List UInt8), (∀ p, p ∈ l → c ∉ p) → c ∉ Lib.join l sep
  | [], _ => by simp [Lib.join_nil]
  | [p], h => by rw [Lib.join_one]; exact h p (by simp)
  | p :: q :: l, h => by
    have ih := not_join sep hs (q :: l) (fun x hx => h x (List.mem_cons_of_mem _ hx))
    rw [join_ne _ _ (by simp), List.mem_append, List.mem_append]
    rintro (h1 | h1 | h1)
    · exact h p (by simp) h1
    · exact hs h1
    · exact ih h1
theorem dig_byte : ∀ a : Fin 10, UInt8.ofNat (48 + a.val) ≠ 47 ∧ UInt8.ofNat (48 + a.val) ≠ 32 := by decide
theorem dg_bytes : ∀ n : Fin 100, ∀ c, c ∈ (dgS n.val).data.toList → c ≠ 47 ∧ c ≠ 32 := fun n c hc => by
  by_cases h : n.val < 10
  · rw [dgS_one h] at hc
    simp only [List.mem_cons, List.not_mem_nil, or_false] at hc
    subst hc
    exact dig_byte ⟨n.val, h⟩
  · rw [dgS_two h n.isLt] at hc
    simp only [List.mem_cons, List.not_mem_nil, or_false] at hc
    have := n.isLt
    rcases hc with hc | hc
    · subst hc; exact dig_byte ⟨n.val / 10, by omega⟩
    · subst hc; exact dig_byte ⟨n.val % 10, by omega⟩
theorem toList_inj {a b : List ByteArray} (h : a.map (·.data.toList) = b.map (·.data.toList)) : a = b := by
  apply List.map_inj_right (f := fun x : ByteArray => x.data.toList) (fun x y hxy => ByteArray.ext (Array.toList_inj.1 hxy)) |>.1 h
theorem split_join {l : List ByteArray} (c : Nat) (hc : c < 256) (hne : l ≠ []) (hf : ∀ p, p ∈ l → UInt8.ofNat c ∉ p.data.toList) : spL (joinB l [UInt8.ofNat c]) c = l := by
  apply toList_inj
  rw [spL_spR _ c hc]
  show spR (UInt8.ofNat c) (Lib.join (l.map (·.data.toList)) [UInt8.ofNat c]) = _
  refine spR_join _ (by simpa using hne) (fun p hp => ?_)
  rw [List.mem_map] at hp
  obtain ⟨q, hq, rfl⟩ := hp
  exact hf q hq
theorem words_free {xs : List Int} (h : ∀ k, 0 ≤ xs.getD k 0 ∧ xs.getD k 0 ≤ 60) (y j : Nat) : ∀ p, p ∈ wordsL xs y j → (47 : UInt8) ∉ p.data.toList ∧ (32 : UInt8) ∉ p.data.toList := fun p hp => by
  simp only [wordsL, List.mem_map] at hp
  obtain ⟨i, _, rfl⟩ := hp
  have hb := dg_bytes ⟨(xs.getD (6 * y + i) 0).toNat, by have := h (6 * y + i); omega⟩
  exact ⟨fun hm => (hb _ hm).1 rfl, fun hm => (hb _ hm).2 rfl⟩
/-- The text of a valid scene is read, as that scene. -/
theorem text_rd {xs : List Int} (hl : xs.length = 24) (hok : okS xs = true) : RdOk (scT xs 24) ∧ rdL (scT xs 24) = xs := by
  have hA := okS_all hok
  have hrows : spL (scT xs 24) 47 = rowsL xs 4 := by
    rw [← text_eq]
    refine split_join 47 (by omega) (by intro h; have := rowsL_len xs 4; rw [h] at this; cases this) (fun p hp => ?_)
    simp only [rowsL, List.mem_map] at hp
    obtain ⟨i, _, rfl⟩ := hp
    refine not_join [32] (by decide) _ (fun q hq => ?_)
    rw [List.mem_map] at hq
    obtain ⟨z, hz, rfl⟩ := hq
    exact (words_free hA i 6 z hz).1
  have hrow : ∀ y, y < 4 → rowW (scT xs 24) y = joinB (wordsL xs y 6) [32] := fun y hy => by
    unfold rowW
    rw [hrows, List.getD_eq_getElem?_getD]
    simp only [rowsL]
    rw [List.getElem?_map, List.getElem?_range hy]; rfl
  have hwords : ∀ y, y < 4 → spL (rowW (scT xs 24) y) 32 = wordsL xs y 6 := fun y hy => by
    rw [hrow y hy]
    refine split_join 32 (by omega) (by intro h; have := wordsL_len xs y 6; rw [h] at this; cases this) (fun p hp => (words_free hA y 6 p hp).2)
  have hword : ∀ y x, y < 4 → x < 6 → wordW (scT xs 24) y x = dgS (xs.getD (6 * y + x) 0).toNat := fun y x hy hx => by
    unfold wordW
    rw [hwords y hy, List.getD_eq_getElem?_getD]
    simp only [wordsL]
    rw [List.getElem?_map, List.getElem?_range hx]; rfl
  have hnum : ∀ y x, y < 4 → x < 6 → numV (wordW (scT xs 24) y x) = ((xs.getD (6 * y + x) 0).toNat, true) := fun y x hy hx => by
    rw [hword y x hy hx, num_dg (by have := hA (6 * y + x); omega)]
  refine ⟨⟨by rw [hrows, rowsL_len], fun y hy => by rw [hwords y hy, wordsL_len], fun y x hy hx => ?_⟩, ?_⟩
  · rw [hnum y x hy hx]
    exact ⟨rfl, by have := hA (6 * y + x); show (xs.getD (6 * y + x) 0).toNat ≤ 60; omega⟩
  · apply List.ext_getElem (by rw [rdL_length, hl])
    intro i h1 h2
    rw [rdL_length] at h1
    have e := rdL_get (scT xs 24) (i / 6) (i % 6) (by omega) (by omega)
    rw [Nat.div_add_mod, hnum (i / 6) (i % 6) (by omega) (by omega), Nat.div_add_mod] at e
    rw [List.getD_eq_getElem?_getD, List.getElem?_eq_getElem (by rw [rdL_length]; exact h1)] at e
    have h3 := hA i
    rw [List.getD_eq_getElem?_getD, List.getElem?_eq_getElem h2] at e h3
    simp only [Option.getD_some] at e h3
    rw [e]; omega
open Classical in
/-- What ReadScene returns. -/
noncomputable def rsV (t : ByteArray) : List Int × Int := if RdOk t then (rdL t, 0) else (List.replicate 24 0, 5)
theorem rsV_yes {t : ByteArray} (h : RdOk t) : rsV t = (rdL t, 0) := by unfold rsV; rw [if_pos h]
theorem rsV_no {t : ByteArray} (h : ¬ RdOk t) : rsV t = (List.replicate 24 0, 5) := by unfold rsV; rw [if_neg h]
/-- The same, told by the text of a scene. -/
theorem rsV_text {xs : List Int} (hl : xs.length = 24) (hok : okS xs = true) : rsV (scT xs 24) = (xs, 0) := by
  obtain ⟨h1, h2⟩ := text_rd hl hok
  rw [rsV_yes h1, h2]
theorem rsV_none {t : ByteArray} (h : ∀ xs : List Int, xs.length = 24 → okS xs = true → scT xs 24 ≠ t) : rsV t = (List.replicate 24 0, 5) :=
  rsV_no fun hr => h _ (rdL_length t) (rd_ok hr) (rd_text hr)
end Go.Proofs.YtbcahfiknelkcaaGreatDoor
