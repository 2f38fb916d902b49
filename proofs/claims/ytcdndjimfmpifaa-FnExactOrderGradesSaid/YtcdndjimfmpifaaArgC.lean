/- Arguments that are lists of lists of points: opened. -/
import Derived.Test.YtcdndjimfmpifaaArgs
import Derived.Test.YtcdndjimfmpifaaCrvC
import Derived.Deep.SlicePairs
namespace Go.Proofs.Ytcdndjimfmpifaa
open Go.RowKit Go.Deep
section
variable {H : Type} {enc : TypeId × Value → H} {P : Program} {w : World} {base : Nat} {spare : Nat → Bool} {held : Bool}
theorem open_points {t e i : TypeId} {f0 f1 : Field} {fuel : Nat} {cs : List Value} {x : DataW H × List MemPlace} (ht : P.underlying t = some (.slice e)) (he : P.underlying e = some (.struct #[f0, f1])) (ce : P.cellsOf e = 2) (o0 : f0.offset = 0) (o1 : f1.offset = 1)
    (h0 : f0.type = i) (h1 : f1.type = i) (hi : P.underlying i = some (.int .i16)) (ci : P.cellsOf i = 1) (h : DataW.trod enc P w base spare held fuel t cs = some x) :
    ∃ (p : Option Addr) (n c : Nat) (q : Cv), cs = [.slice p n c] ∧ C16 q ∧ n = q.length ∧ n ≤ 9223372036854775807 ∧ CvS w p q := by
  rcases open_slice_pairs ht he ce o0 o1 (by rw [h0]; exact ci) (by rw [h1]; exact ci) h with ⟨hcs, _⟩ | ⟨a, len, cap, m, n, V0, V1, D0, D1, P0, P1, hcs, _, hl, hm, hmm, _, hel⟩
  · exact ⟨none, 0, 0, [], hcs, fun i => by simp [px, py], rfl, by omega, fun h => absurd rfl h⟩
  · have hle : len ≤ m := by rw [hmm]; split <;> omega
    rw [h0, h1] at hel
    have each : ∀ k, k < len → ∃ z : Int × Int, (-32768 ≤ z.1 ∧ z.1 ≤ 32767) ∧ (-32768 ≤ z.2 ∧ z.2 ≤ 32767) ∧ w.cell? (a.add (k * 2)) = some (.int .i16 z.1) ∧ w.cell? (a.add (k * 2 + 1)) = some (.int .i16 z.2) := fun k hk => by
      obtain ⟨e1, e2, e3, e4⟩ := hel k (by omega)
      obtain ⟨x1, hx1, _, hw1⟩ := read_int hi e3
      obtain ⟨x2, hx2, _, hw2⟩ := read_int hi e4
      exact ⟨(x1, x2), bounds_i16 hw1, bounds_i16 hw2, by rw [e1, hx1], by rw [e2, hx2]⟩
    obtain ⟨f, hf⟩ := choose_lt each
    have hget : ∀ k, k < len → ((List.range len).map f).getD k (0, 0) = f k := fun k hk => by simp [List.getD_eq_getElem?_getD, hk]
    have hbig : ∀ k, ¬ k < len → ((List.range len).map f).getD k (0, 0) = (0, 0) := fun k hk => by
      rw [List.getD_eq_getElem?_getD, List.getElem?_eq_none (by simp; omega)]; rfl
    refine ⟨some a, len, cap, (List.range len).map f, hcs, fun k => ?_, by simp, by simp [maxLen] at hm; omega, fun hne => ?_⟩
    · unfold px py
      by_cases hk : k < len
      · rw [hget k hk]; exact ⟨(hf k hk).1, (hf k hk).2.1⟩
      · rw [hbig k hk]; simp
    · have h0 : 0 < len := by
        rcases Nat.eq_zero_or_pos len with h0 | h0
        · subst h0; exact absurd rfl hne
        · exact h0
      obtain ⟨b, o, sp⟩ := a
      have hs : sp = none := by simpa [Addr.add] using World.cell?_spot (hf 0 h0).2.2.1
      subst hs
      refine ⟨b, o, rfl, ?_, fun k hk => ?_⟩
      · have := (hf 0 h0).2.2.1
        exact World.block_lt_of_cell? w _ this
      · have hk' : k < len := by simpa using hk
        unfold px py
        rw [hget k hk']
        have := hf k hk'
        rw [Addr.add_mid, Addr.add_mid] at this
        exact ⟨this.2.2.1, this.2.2.2⟩
theorem open_curves {t e s i : TypeId} {f0 f1 : Field} (ht : P.underlying t = some (.slice e)) (he : P.underlying e = some (.slice s)) (hs : P.underlying s = some (.struct #[f0, f1])) (ce : P.cellsOf e = 1) (cs2 : P.cellsOf s = 2) (o0 : f0.offset = 0) (o1 : f1.offset = 1)
    (h0 : f0.type = i) (h1 : f1.type = i) (hi : P.underlying i = some (.int .i16)) (ci : P.cellsOf i = 1)
    {r : Reach} {b0 : Nat} {v : Value} {d : DataW H} {pl : List MemPlace} (hv : Value.okWide P w r b0 t v) (h : DataW.Trod enc P w base spare held t v d pl) :
    ∃ (p : Option Addr) (n c : Nat) (cs : List Cv), v = .slice p n c ∧ G16 cs ∧ n = cs.length ∧ n ≤ 9223372036854775807 ∧ GrA w p cs := by
  have hv' : Cell.okWide P w r b0 t v := by simpa only [Value.okWide, ht] using hv
  obtain ⟨fuel, hf⟩ := h
  have hc : v.cells.toList = [v] := by
    simp only [Cell.okWide, ht, Cell.ok] at hv'
    cases v <;> first | rfl | simp at hv'
  rw [hc] at hf
  rcases open_slice1 ht ce hf with ⟨hcs, _⟩ | ⟨a, len, cap, m, n, V, D, Pl, hcs, _, hl, hm, hmm, _, hel⟩
  · simp only [List.cons.injEq, and_true] at hcs
    exact ⟨none, 0, 0, [], hcs, fun i => fun j => by simp [px, py], rfl, by omega, fun h => absurd rfl h⟩
  · simp only [List.cons.injEq, and_true] at hcs
    have hle : len ≤ m := by rw [hmm]; split <;> omega
    have each : ∀ k, k < len → ∃ q : Cv, C16 q ∧ ∃ (r : Option Addr) (n c : Nat), w.cell? (a.add k) = some (.slice r n c) ∧ n = q.length ∧ n ≤ 9223372036854775807 ∧ CvS w r q := fun k hk => by
      obtain ⟨e1, e2⟩ := hel k (by omega)
      obtain ⟨p, n, c, q, g1, g2, g3, g4, g5⟩ := open_points he hs cs2 o0 o1 h0 h1 hi ci e2
      simp only [List.cons.injEq, and_true] at g1
      exact ⟨q, g2, p, n, c, by rw [e1, g1], g3, g4, g5⟩
    obtain ⟨f, hf⟩ := choose_lt each
    have hget : ∀ k, k < len → ((List.range len).map f).getD k [] = f k := fun k hk => by simp [List.getD_eq_getElem?_getD, hk]
    have hbig : ∀ k, ¬ k < len → ((List.range len).map f).getD k [] = [] := fun k hk => by
      rw [List.getD_eq_getElem?_getD, List.getElem?_eq_none (by simp; omega)]; rfl
    refine ⟨some a, len, cap, (List.range len).map f, hcs, fun k => ?_, by simp, by simp [maxLen] at hm; omega, fun hne => ?_⟩
    · by_cases hk : k < len
      · rw [hget k hk]; exact (hf k hk).1
      · rw [hbig k hk]; intro j; simp [px, py]
    · have h0 : 0 < len := by
        rcases Nat.eq_zero_or_pos len with h0 | h0
        · subst h0; exact absurd rfl hne
        · exact h0
      obtain ⟨b, o, sp⟩ := a
      obtain ⟨_, r0, n0, c0, hc0, _⟩ := hf 0 h0
      have hs : sp = none := by simpa [Addr.add] using World.cell?_spot hc0
      subst hs
      refine ⟨b, o, rfl, World.block_lt_of_cell? w _ hc0, fun k hk => ?_⟩
      have hk' : k < len := by simpa using hk
      rw [hget k hk']
      obtain ⟨_, r1, n1, c1, hc1, g1, g2, g3⟩ := hf k hk'
      rw [Addr.add_mid] at hc1
      exact ⟨r1, n1, c1, hc1, g1, g2, g3⟩
end
end Go.Proofs.Ytcdndjimfmpifaa
