/- How many bits a number of 64 bits has, by bytes. -/
import Derived.Test.YtdmlefccajaniaaDoorSpotQ
namespace Go.Proofs.YtdmlefccajaniaaDoor
open Go.RowKit Go.Lib
def ofD : List Nat → Nat
  | [] => 0
  | l :: t => l + 256 * ofD t
def rep (c : Nat) : Nat → Nat
  | 0 => 0
  | n + 1 => c + 256 * rep c n
theorem and_split (x m : Nat) : x &&& m = (x % 256 &&& m % 256) + 256 * (x / 256 &&& m / 256) := by
  have h1 : (x &&& m) % 2 ^ 8 = x % 2 ^ 8 &&& m % 2 ^ 8 := Nat.and_mod_two_pow
  have h2 : (x &&& m) / 2 ^ 8 = x / 2 ^ 8 &&& m / 2 ^ 8 := Nat.and_div_two_pow
  have h3 := Nat.mod_add_div (x &&& m) 256
  rw [show (256 : Nat) = 2 ^ 8 from rfl, ← h1, ← h2]
  exact h3.symm
theorem and_rep (x c n l h : Nat) (hc : c < 256) (hx : x % 256 = l) (hh : x / 256 = h) : x &&& rep c (n + 1) = (l &&& c) + 256 * (h &&& rep c n) := by
  rw [and_split, hx, hh, rep, show (c + 256 * rep c n) % 256 = c by omega, show (c + 256 * rep c n) / 256 = rep c n by omega]
def t1 (l : Nat) : Nat := (l / 2 &&& 85) + (l &&& 85)
def t2 (l : Nat) : Nat := (l / 4 &&& 51) + (l &&& 51)
def t3 (l : Nat) : Nat := (l % 16 + l / 16) &&& 15
def s1 (n x : Nat) : Nat := (x / 2 &&& rep 85 n) + (x &&& rep 85 n)
def s2 (n x : Nat) : Nat := (x / 4 &&& rep 51 n) + (x &&& rep 51 n)
def s3 (n x : Nat) : Nat := (x / 16 + x) &&& rep 15 n
theorem t1_tab : ∀ e : Fin 2, ∀ l : Fin 256, (128 * e.val + l.val / 2) &&& 85 = l.val / 2 &&& 85 := by decide +kernel
theorem t2_tab : ∀ e : Fin 4, ∀ l : Fin 256, (64 * e.val + l.val / 4) &&& 51 = l.val / 4 &&& 51 := by decide +kernel
theorem s1_ofD : ∀ bs : List Nat, (∀ b ∈ bs, b < 256) → s1 bs.length (ofD bs) = ofD (bs.map t1)
  | [], _ => rfl
  | l :: t, h => by
    have hl : l < 256 := h l (by simp)
    have ih := s1_ofD t (fun b hb => h b (by simp [hb]))
    simp only [List.length_cons, List.map_cons, ofD, s1] at *
    generalize ofD t = H at *
    rw [and_rep ((l + 256 * H) / 2) 85 t.length (128 * (H % 2) + l / 2) (H / 2) (by omega) (by omega) (by omega), and_rep (l + 256 * H) 85 t.length l H (by omega) (by omega) (by omega)]
    have := t1_tab ⟨H % 2, by omega⟩ ⟨l, hl⟩
    simp only at this
    rw [this, ← ih, t1]
    omega
theorem s2_ofD : ∀ bs : List Nat, (∀ b ∈ bs, b < 256) → s2 bs.length (ofD bs) = ofD (bs.map t2)
  | [], _ => rfl
  | l :: t, h => by
    have hl : l < 256 := h l (by simp)
    have ih := s2_ofD t (fun b hb => h b (by simp [hb]))
    simp only [List.length_cons, List.map_cons, ofD, s2] at *
    generalize ofD t = H at *
    rw [and_rep ((l + 256 * H) / 4) 51 t.length (64 * (H % 4) + l / 4) (H / 4) (by omega) (by omega) (by omega), and_rep (l + 256 * H) 51 t.length l H (by omega) (by omega) (by omega)]
    have := t2_tab ⟨H % 4, by omega⟩ ⟨l, hl⟩
    simp only at this
    rw [this, ← ih, t2]
    omega
theorem t3_tab : ∀ e : Fin 5, ∀ u : Fin 9, (16 * e.val + u.val) &&& 15 = u.val &&& 15 := by decide +kernel
theorem t3_tab2 : ∀ d : Fin 256, d.val &&& 15 = d.val % 16 &&& 15 := by decide +kernel
def nib (l : Nat) : Prop := l % 16 ≤ 4 ∧ l / 16 ≤ 4
theorem ofD_nib : ∀ bs : List Nat, (∀ b ∈ bs, nib b) → ofD bs % 16 ≤ 4
  | [], _ => by simp [ofD]
  | l :: t, h => by
    have := h l (by simp)
    simp only [ofD, nib] at *
    omega
theorem s3_ofD : ∀ bs : List Nat, (∀ b ∈ bs, nib b) → s3 bs.length (ofD bs) = ofD (bs.map t3)
  | [], _ => rfl
  | l :: t, h => by
    have hl := h l (by simp)
    have ht := ofD_nib t (fun b hb => h b (by simp [hb]))
    have ih := s3_ofD t (fun b hb => h b (by simp [hb]))
    simp only [List.length_cons, List.map_cons, ofD, s3, nib] at *
    generalize ofD t = H at *
    rw [and_rep ((l + 256 * H) / 16 + (l + 256 * H)) 15 t.length (16 * (H % 16 + l / 16) + (l % 16 + l / 16)) (H / 16 + H) (by omega) (by omega) (by omega)]
    have a1 := t3_tab2 ⟨16 * (H % 16 + l / 16) + (l % 16 + l / 16), by omega⟩
    have a2 := t3_tab2 ⟨l % 16 + l / 16, by omega⟩
    simp only at a1 a2
    rw [a1, ← ih, t3, a2, show (16 * (H % 16 + l / 16) + (l % 16 + l / 16)) % 16 = (l % 16 + l / 16) % 16 by omega]
theorem tab : ∀ l : Fin 256, t1 l.val < 256 ∧ (t2 (t1 l.val) % 16 ≤ 4 ∧ t2 (t1 l.val) / 16 ≤ 4) ∧ t3 (t2 (t1 l.val)) = cntN l.val.testBit 8 := by decide +kernel
theorem cntN_congr {p q : Nat → Bool} : ∀ k, (∀ i, i < k → p i = q i) → cntN p k = cntN q k
  | 0, _ => rfl
  | k + 1, h => by simp only [cntN]; rw [cntN_congr k (fun i hi => h i (by omega)), h k (by omega)]
theorem cntN_add (p : Nat → Bool) (a : Nat) : ∀ b, cntN p (a + b) = cntN p a + cntN (fun i => p (a + i)) b
  | 0 => rfl
  | b + 1 => by rw [← Nat.add_assoc]; simp only [cntN]; rw [cntN_add p a b]; omega
theorem cnt_ofD : ∀ bs : List Nat, (∀ b ∈ bs, b < 256) → cntN (ofD bs).testBit (8 * bs.length) = (bs.map fun l => cntN l.testBit 8).sum
  | [], _ => rfl
  | l :: t, h => by
    have hl : l < 256 := h l (by simp)
    have ih := cnt_ofD t (fun b hb => h b (by simp [hb]))
    simp only [List.length_cons, List.map_cons, List.sum_cons, ofD]
    rw [show 8 * (t.length + 1) = 8 + 8 * t.length by omega, cntN_add, ← ih]
    generalize ofD t = H
    congr 1
    · refine cntN_congr 8 fun i hi => ?_
      have h1 := Nat.testBit_mod_two_pow (l + 256 * H) 8 i
      rw [show (l + 256 * H) % 2 ^ 8 = l by omega] at h1
      rw [h1]; simp [hi]
    · refine cntN_congr _ fun i _ => ?_
      have h1 := Nat.testBit_shiftRight (i := 8) (j := i) (l + 256 * H)
      rw [Nat.shiftRight_eq_div_pow, show (l + 256 * H) / 2 ^ 8 = H by omega] at h1
      exact h1.symm
def fold3 (y : Nat) : Nat := let a := y + y / 256; let b := a + a / 65536; b + b / 4294967296
theorem ofD_8 (x : Nat) (h : x < 2 ^ 64) : ∃ bs : List Nat, bs.length = 8 ∧ (∀ b ∈ bs, b < 256) ∧ x = ofD bs := by
  refine ⟨[x % 256, x / 256 % 256, x / 65536 % 256, x / 16777216 % 256, x / 4294967296 % 256, x / 1099511627776 % 256, x / 281474976710656 % 256, x / 72057594037927936], rfl, ?_, ?_⟩
  · intro b hb
    simp only [List.mem_cons, List.not_mem_nil, or_false] at hb
    omega
  · simp only [ofD]; omega
theorem step256 (c0 c1 c2 c3 c4 c5 c6 c7 : Nat) (h0 : c0 ≤ 8) (h1 : c1 ≤ 8) (h2 : c2 ≤ 8) (h3 : c3 ≤ 8) (h4 : c4 ≤ 8) (h5 : c5 ≤ 8) (h6 : c6 ≤ 8) (h7 : c7 ≤ 8) :
    ofD [c0, c1, c2, c3, c4, c5, c6, c7] + ofD [c0, c1, c2, c3, c4, c5, c6, c7] / 256 = ofD [c0 + c1, c1 + c2, c2 + c3, c3 + c4, c4 + c5, c5 + c6, c6 + c7, c7] := by
  have e : ofD [c0, c1, c2, c3, c4, c5, c6, c7] = c0 + 256 * ofD [c1, c2, c3, c4, c5, c6, c7] := rfl
  have e2 : ofD [c0, c1, c2, c3, c4, c5, c6, c7] / 256 = ofD [c1, c2, c3, c4, c5, c6, c7] := by rw [e]; omega
  rw [e2]; simp only [ofD]; omega
theorem step65536 (d0 d1 d2 d3 d4 d5 d6 d7 : Nat) (h0 : d0 ≤ 16) (h1 : d1 ≤ 16) :
    ofD [d0, d1, d2, d3, d4, d5, d6, d7] + ofD [d0, d1, d2, d3, d4, d5, d6, d7] / 65536 = ofD [d0 + d2, d1 + d3, d2 + d4, d3 + d5, d4 + d6, d5 + d7, d6, d7] := by
  have e : ofD [d0, d1, d2, d3, d4, d5, d6, d7] = d0 + 256 * (d1 + 256 * ofD [d2, d3, d4, d5, d6, d7]) := rfl
  have e2 : ofD [d0, d1, d2, d3, d4, d5, d6, d7] / 65536 = ofD [d2, d3, d4, d5, d6, d7] := by rw [e]; omega
  rw [e2]; simp only [ofD]; omega
theorem step32 (d0 d1 d2 d3 d4 d5 d6 d7 : Nat) (h0 : d0 ≤ 32) (h1 : d1 ≤ 32) (h2 : d2 ≤ 32) (h3 : d3 ≤ 32) (h4 : d4 ≤ 32):
    (ofD [d0, d1, d2, d3, d4, d5, d6, d7] + ofD [d0, d1, d2, d3, d4, d5, d6, d7] / 4294967296) % 128 = d0 + d4 := by
  have e : ofD [d0, d1, d2, d3, d4, d5, d6, d7] = d0 + 256 * (d1 + 256 * (d2 + 256 * (d3 + 256 * ofD [d4, d5, d6, d7]))) := rfl
  have e2 : ofD [d0, d1, d2, d3, d4, d5, d6, d7] / 4294967296 = ofD [d4, d5, d6, d7] := by rw [e]; omega
  rw [e2, e]
  have e3 : ofD [d4, d5, d6, d7] = d4 + 256 * ofD [d5, d6, d7] := rfl
  rw [e3]; omega
theorem fold3_8 (c0 c1 c2 c3 c4 c5 c6 c7 : Nat) (h0 : c0 ≤ 8) (h1 : c1 ≤ 8) (h2 : c2 ≤ 8) (h3 : c3 ≤ 8) (h4 : c4 ≤ 8) (h5 : c5 ≤ 8) (h6 : c6 ≤ 8) (h7 : c7 ≤ 8) :
    fold3 (ofD [c0, c1, c2, c3, c4, c5, c6, c7]) % 128 = c0 + c1 + c2 + c3 + c4 + c5 + c6 + c7 := by
  simp only [fold3]
  rw [step256 _ _ _ _ _ _ _ _ h0 h1 h2 h3 h4 h5 h6 h7, step65536 _ _ _ _ _ _ _ _ (by omega) (by omega), step32 _ _ _ _ _ _ _ _ (by omega) (by omega) (by omega) (by omega) (by omega)]
  omega
theorem len8 : ∀ bs : List Nat, bs.length = 8 → ∃ b0 b1 b2 b3 b4 b5 b6 b7, bs = [b0, b1, b2, b3, b4, b5, b6, b7]
  | [b0, b1, b2, b3, b4, b5, b6, b7], _ => ⟨b0, b1, b2, b3, b4, b5, b6, b7, rfl⟩
theorem ones_spec (x : Nat) (h : x < 2 ^ 64) : fold3 (s3 8 (s2 8 (s1 8 x))) % 128 = cnt x := by
  obtain ⟨bs, hl, hb, rfl⟩ := ofD_8 x h
  have e0 : cnt (ofD bs) = (bs.map fun l => cntN l.testBit 8).sum := by
    have := cnt_ofD bs hb
    rw [hl] at this
    exact this
  have e1 := s1_ofD bs hb
  rw [hl] at e1
  have e2 := s2_ofD (bs.map t1) (fun b hb' => by
    obtain ⟨l, hl', rfl⟩ := List.mem_map.1 hb'
    exact (tab ⟨l, hb l hl'⟩).1)
  rw [List.length_map, hl] at e2
  have e3 := s3_ofD ((bs.map t1).map t2) (fun b hb' => by
    obtain ⟨l', hl1, rfl⟩ := List.mem_map.1 hb'
    obtain ⟨l, hl2, rfl⟩ := List.mem_map.1 hl1
    exact (tab ⟨l, hb l hl2⟩).2.1)
  rw [List.length_map, List.length_map, hl] at e3
  rw [e1, e2, e3, e0]
  have em : ((bs.map t1).map t2).map t3 = bs.map fun l => cntN l.testBit 8 := by
    rw [List.map_map, List.map_map]
    apply List.map_congr_left
    intro l hl'
    exact (tab ⟨l, hb l hl'⟩).2.2
  rw [em]
  obtain ⟨b0, b1, b2, b3, b4, b5, b6, b7, rfl⟩ := len8 bs hl
  simp only [List.map_cons, List.map_nil, List.sum_cons, List.sum_nil]
  rw [fold3_8 _ _ _ _ _ _ _ _ (cntN_le _ _) (cntN_le _ _) (cntN_le _ _) (cntN_le _ _) (cntN_le _ _) (cntN_le _ _) (cntN_le _ _) (cntN_le _ _)]
  omega
theorem rep85 : rep 85 8 = 6148914691236517205 := by decide +kernel
theorem rep51 : rep 51 8 = 3689348814741910323 := by decide +kernel
theorem rep15 : rep 15 8 = 1085102592571150095 := by decide +kernel
end Go.Proofs.YtdmlefccajaniaaDoor
