/- FnBands: what the law asks, in plain Lean; the text of a strip. -/
import Derived.Test.YtbcahfiknelkcaaGreatDoorBandQ
import Derived.Test.YtbcahfiknelkcaaGreatDoorBandD
import Derived.Test.YtbcahfiknelkcaaGreatDoorStI
import Derived.Laws.StructEq
namespace Go.Proofs.YtbcahfiknelkcaaGreatDoor
open Go.RowKit
set_option maxRecDepth 100000
/-- What is known of the bands of a strip on a paper. -/
structure BdF (a e : Int) (n : Nat) (q : Cv) (d t : Int) (X Y D M : List Int) : Prop where
  x : ligL a e n = X
  y : covL a e n = Y
  dd : bandL q d X = D
  mm : bandL q d Y = M
  lx : X.length = n
  ly : Y.length = n
  ld : D.length = n
  lm : M.length = n
  pos : ∀ i, i < n → X.getD i 0 = a + (i : Int) * e
  xr : ∀ i, i < n → 0 ≤ X.getD i 0 ∧ X.getD i 0 ≤ 36
  yr : ∀ i, i < n → 0 ≤ Y.getD i 0 ∧ Y.getD i 0 ≤ 36
  xy : ∀ i, i < n → X.getD i 0 ≤ Y.getD i 0
  dm : ∀ i, i < n → D.getD i 0 ≤ M.getD i 0
  mr : ∀ i, i < n → 0 ≤ M.getD i 0 ∧ M.getD i 0 ≤ 400
  up : ∀ i, i + 1 < n → D.getD i 0 ≤ D.getD (i + 1) 0 ∧ M.getD i 0 ≤ M.getD (i + 1) 0
  bd : Bnd D n t
theorem bdf_of {a e : Int} {n : Nat} (h : Stp a e n) {q : Cv} (hq : Good q) {d t : Int} (t0 : 0 ≤ t) (t1 : t ≤ 400) : ∃ X Y D M, BdF a e n q d t X Y D M := by
  have dg : ∀ i, i < n → (bandL q d (ligL a e n)).getD i 0 = darkV q (ligK a e i) d := fun i hi => by rw [bandL_get q d _ i (by rw [ligL_len]; exact hi), ligL_get a e n i hi]
  have mg : ∀ i, i < n → (bandL q d (covL a e n)).getD i 0 = darkV q (covK a e i) d := fun i hi => by rw [bandL_get q d _ i (by rw [covL_len]; exact hi), covL_get a e n i hi]
  refine ⟨_, _, _, _, { x := rfl, y := rfl, dd := rfl, mm := rfl, lx := ligL_len a e n, ly := covL_len a e n, ld := by rw [bandL_len, ligL_len], lm := by rw [bandL_len, covL_len], pos := fun i hi => ?_, xr := lig_rng h, yr := cov_rng h, xy := fun i hi => ?_, dm := fun i hi => ?_, mr := fun i hi => ?_, up := fun i hi => ?_, bd := ⟨by rw [bandL_len, ligL_len], h.n1, h.n20, band_all hq d _, t0, t1⟩ }⟩
  · rw [ligL_get a e n i hi]; unfold ligK; rw [Int.mul_comm]
  · rw [ligL_get a e n i hi, covL_get a e n i hi]; exact cov_ge h hi
  · rw [dg i hi, mg i hi]; exact dark_mono hq (cov_ge h hi)
  · rw [mg i hi]; exact at_dn hq _
  · rw [dg i (by omega), dg (i + 1) hi, mg i (by omega), mg (i + 1) hi]
    exact ⟨dark_mono hq (by have := lig_step a e i; have := h.e1; omega), dark_mono hq (cov_up h hi)⟩
theorem abs_max (x : Int) : max x (-x) = absV x := by unfold absV; split <;> omega
/-- What is known of the nearest band and of the first one. -/
structure NrF (D : List Int) (n : Nat) (t : Int) (N : Nat) (L fv fc : Int) : Prop where
  nn : nearN D t n = N
  l : D.getD N 0 - t = L
  fve : fstV D t = fv
  fce : fstC D t = fc
  lt : N < n
  lr : -400 ≤ L ∧ L ≤ 400
  near : ∀ i, i < n → absV L ≤ absV (D.getD i 0 - t)
  code : (fc = 6 ∧ ∀ i, i < n → D.getD i 0 < t) ∨ (fc = 0 ∧ 0 ≤ fv ∧ ∀ i : Nat, i < n → (i : Int) < fv → D.getD i 0 < t)
theorem nrf_of {D : List Int} {n : Nat} {t : Int} (h : Bnd D n t) : ∃ N L fv fc, NrF D n t N L fv fc := by
  have hN := nearN_lt D t n (by have := h.n1; omega)
  have hg := h.get hN
  have := h.t0
  have := h.t1
  refine ⟨_, _, _, _, { nn := rfl, l := rfl, fve := rfl, fce := rfl, lt := hN, lr := by omega, near := fun i hi => nearN_min D t n i hi, code := ?_ }⟩
  by_cases hf : fstN D t < D.length
  · right
    refine ⟨by simp [fstC, hf], by simp [fstV, hf], fun i hi hl => ?_⟩
    have e : fstV D t = (fstN D t : Nat) := by simp [fstV, hf]
    rw [e] at hl
    exact fst_before (by omega)
  · left
    refine ⟨by simp [fstC, hf], fun i hi => fst_before (by have := h.len; omega)⟩
/-- What is known of the light that strips find. -/
structure LbF (q : Cv) (d t lv ln lc : Int) : Prop where
  v : lbV q d t = lv
  n : lbN q d t = ln
  c : lbC q d t = lc
  code : (lc = 6 ∧ ∀ x : Nat, x ≤ 36 → darkV q x d < t) ∨ (lc = 0 ∧ ∀ x : Nat, x ≤ 36 → (t ≤ darkV q x d ↔ lv ≤ x))
theorem lbf_of {q : Cv} (hq : Good q) (d t : Int) : ∃ lv ln lc, LbF q d t lv ln lc := by
  refine ⟨_, _, _, { v := rfl, n := rfl, c := rfl, code := ?_ }⟩
  by_cases hl : lstV q d t ≤ 36
  · right
    refine ⟨by simp [lbC, hl], fun x hx => ?_⟩
    rw [lst_iff hq d t hx]
    simp [lbV, hl]
  · left
    refine ⟨by simp [lbC, hl], fun x hx => ?_⟩
    have h2 := lst_iff hq d t hx
    rcases Int.lt_or_le (darkV q (x : Int) d) t with h3 | h3
    · exact h3
    · have := h2.1 h3; omega
theorem stp_one {x : Nat} (hx : x ≤ 36) : Stp x 1 1 := ⟨by omega, by omega, by omega, by omega, by omega, by omega, by omega⟩
theorem bandsOne_c (x : Nat) (hx : x ≤ 36) (p : Option Addr) (m c : Nat) (q : Cv) (hq : Pap q) (hm : m = q.length) (hm2 : m ≤ 1048576) (d : Int) (d0 : 0 ≤ d) (d1 : d ≤ 400) (w : World) (hp : CvS w p q) :
    Calls Tryz.prog 14 #[.agg #[.int .i8 x, .int .i8 1, .int .i8 1], .slice p m c, .int .i64 d] w fun e w' => ∃ b o cap, e = .returned (.tuple #[.slice (some ⟨b, o, none⟩) 1 cap, .int .i64 0]) ∧ w'.cell? ⟨b, o, none⟩ = some (.int .i64 (darkV q x d)) ∧ Below w.heap.size w w' := by
  refine (implBandsOf_c x 1 1 (stp_one hx) p m c q hq hm hm2 d d0 d1 w hp).mono ?_
  rintro e w' ⟨v, rfl, hR, hb⟩
  have el : bandL q d (ligL x 1 1) = [darkV q x d] := by simp [bandL, ligL, ligK]
  rw [el] at hR
  obtain ⟨g, cap, rfl, _, _, _, _, hc⟩ := row_shape hR (by simp)
  exact ⟨g, 0, cap, rfl, hc 0 (by simp), hb⟩
theorem implStripText_c (a e b : Int) (h : srB a e b = true) (h8 : Sr8 a e b) (w : World) :
    Calls Tryz.prog 10 #[.agg #[.int .i8 a, .int .i8 e, .int .i8 b]] w fun x w' => x = .returned (.string (srT a e b)) ∧ Below w.heap.size w w' := by
  have HOK := Lib.hid h
  have H8 := Lib.hid h8
  have K0 := Lib.hid (al1_0 w (.cells #[.int .i8 a, .int .i8 e, .int .i8 b] 26))
  have B0 := Lib.hid (bl1 w (.cells #[.int .i8 a, .int .i8 e, .int .i8 b] 26))
  have c0 := blk3_0 K0.out
  have c1 := blk3_1 K0.out
  have c2 := blk3_2 K0.out
  clear h h8
  go_enter Tryz.func10, Tryz.ntmps10
  go_wp2_with fail
  generalize w.alloc (.cells #[.int .i8 a, .int .i8 e, .int .i8 b] 26) = w1 at *
  refine (srValid_c a e b H8.out _).mono ?_
  rw [HOK.out]
  rintro x w2 ⟨rfl, hb⟩
  have HB := Lib.hid (bt B0.out hb)
  have K2 := heap_below hb (lt_of_heap K0.out) K0.out
  clear c0 c1 c2 hb
  have c0 := blk3_0 K2
  have c1 := blk3_1 K2
  have c2 := blk3_2 K2
  clear K2
  go_wp2_with fail
  refine (srText_c a e b HOK.out _).mono ?_
  rintro x w3 ⟨rfl, hb⟩
  have HB3 := Lib.hid (bt HB.out hb)
  clear hb c0 c1 c2
  go_wp2
  go_ret
  exact ⟨rfl, HB3.out⟩
theorem wdL_piece {t : ByteArray} (h : SrOk t) (i : Nat) : ((wdL t).getD i ⟨#[]⟩).size ≤ 1048576 := by
  rw [sr_wdL h]
  have hs := srOk_small h
  have key : ∀ x : Int, 0 ≤ x → x ≤ 36 → (dgI x).size ≤ 1048576 := fun x h0 h1 => by
    unfold dgI
    by_cases h : x.toNat < 10
    · rw [dgS_one h]; show (1 : Nat) ≤ _; omega
    · rw [dgS_two h (by omega)]; show (2 : Nat) ≤ _; omega
  match i with
  | 0 => exact key _ (hs 0 (by omega)).1 (hs 0 (by omega)).2
  | 1 => exact key _ (hs 1 (by omega)).1 (hs 1 (by omega)).2
  | 2 => exact key _ (hs 2 (by omega)).1 (hs 2 (by omega)).2
  | i + 3 => exact Nat.zero_le _
theorem srT_size {a e b : Int} (h : srB a e b = true) : (srT a e b).size ≤ 1048576 := by
  have hs := srB_small h
  have key : ∀ x : Int, 0 ≤ x → x ≤ 36 → (dgI x).size ≤ 2 := fun x h0 h1 => by
    unfold dgI
    by_cases h : x.toNat < 10
    · rw [dgS_one h]; show (1 : Nat) ≤ _; omega
    · rw [dgS_two h (by omega)]; show (2 : Nat) ≤ _; omega
  have k1 := key a hs.1.1 hs.1.2
  have k2 := key e hs.2.1.1 hs.2.1.2
  have k3 := key b hs.2.2.1 hs.2.2.2
  unfold srT
  simp only [ByteArray.size_append]
  have a4 : (⟨#[32]⟩ : ByteArray).size = 1 := rfl
  omega
theorem readBack_c (a e b : Int) (h : srB a e b = true) (w : World) (hE : EV w) :
    Calls Tryz.prog 9 #[.string (srT a e b)] w fun x w' => x = .returned (.tuple #[.agg #[.int .i8 a, .int .i8 e, .int .i8 b], .int .i64 0]) ∧ Below w.heap.size w w' := by
  have := implSr_c (srT a e b) (srT_size h) (wdL_piece (text_sr h).1) w hE
  rwa [srV_text h] at this
end Go.Proofs.YtbcahfiknelkcaaGreatDoor
