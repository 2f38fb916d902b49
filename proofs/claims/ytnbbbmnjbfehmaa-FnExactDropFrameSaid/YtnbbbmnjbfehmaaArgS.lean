/- Arguments that are lists of prints, or sheets: opened. -/
import Derived.Test.YtnbbbmnjbfehmaaArgs
import Derived.Test.YtnbbbmnjbfehmaaPrs
import Derived.Deep.Slices
namespace Go.Proofs.Ytnbbbmnjbfehmaa
open Go.RowKit Go.Deep
section
variable {H : Type} {enc : TypeId × Value → H} {P : Program} {w : World} {base : Nat} {spare : Nat → Bool} {held : Bool}
theorem open_prints {t e i : TypeId} (ht : P.underlying t = some (.slice e)) (he : P.underlying e = some (.array 64 i)) (hi : P.underlying i = some (.int .i16)) (hC : P.cellsOf e = 64) (hE : P.cellsOf i = 1)
    {r : Reach} {b0 : Nat} {v : Value} {m : Nat} {y : DataW H × List MemPlace} (hv : Cell.okWide P w r b0 t v) (h : DataW.trod enc P w base spare held m t [v] = some y) :
    ∃ (p : Option Addr) (n c : Nat) (l : List (List Int)), v = .slice p n c ∧ Prs l ∧ n = l.length ∧ PS w p l ∧ n ≤ 9223372036854775807 := by
  rcases open_slice ht h with ⟨hcs, _⟩ | ⟨a, len, cap, mm, nn, D, Pl, hcs, _, hl, hm, hmm, _, hel⟩
  · simp only [List.cons.injEq, and_true] at hcs
    subst hcs
    exact ⟨none, 0, 0, [], rfl, fun i hi => absurd hi (by simp), rfl, fun h => absurd rfl h, by omega⟩
  · simp only [List.cons.injEq, and_true] at hcs
    subst hcs
    have hs : a.spot = none := by
      simp only [Cell.okWide, ht, Cell.ok] at hv
      exact hv.2.2.2.1
    obtain ⟨b, o, sp⟩ := a
    simp only at hs
    subst hs
    have hle : len ≤ mm := by rw [hmm]; split <;> omega
    have each : ∀ k, k < len → ∃ zs : List Int, Pr zs ∧ w.rangeAt b (o + k * 64) (cellsP zs) := by
      intro k hk
      obtain ⟨cs', hc', ht'⟩ := hel k (by omega)
      obtain ⟨xs, m', _, _, hlen, hn, hg⟩ := DataW.trod_array he ht'
      rw [hC] at hlen hc'
      rw [hE] at hg
      obtain ⟨zs, h1, h2, h3⟩ := arr_read (enc := enc) (w := w) (base := base) (spare := spare) (held := held) hi cs' xs (by rw [hlen, hn]) (fun j hj => by
        have := hg j (by omega)
        simpa using this)
      have hz : zs.length = 64 := by rw [← hlen, h1]; simp
      refine ⟨zs, ⟨hz, rangei16_of h2⟩, fun j u hj => ?_⟩
      have hj' : j < 64 := by
        have := (List.getElem?_eq_some_iff.1 hj).1
        rw [cellsP_length] at this; omega
      unfold World.cells? at hc'
      split at hc'
      · have h4 := mapM_some_get hc' j j (by simp [hj'])
        rw [Addr.add_mid, Addr.add_mid] at h4
        rw [h4, h1]; exact hj
      · cases hc'
    obtain ⟨f, hf⟩ := choose_lt each
    have hget : ∀ k, k < len → ((List.range len).map f).getD k [] = f k := fun k hk => by
      simp [List.getD_eq_getElem?_getD, hk]
    refine ⟨_, len, cap, (List.range len).map f, rfl, fun k hk => ?_, by simp, fun hne => ⟨b, o, rfl, ?_, fun k hk => ?_⟩, ?_⟩
    · have hk' : k < len := by simpa using hk
      rw [hget k hk']; exact (hf k hk').1
    · have h0 : 0 < len := by
        rcases Nat.eq_zero_or_pos len with h0 | h0
        · subst h0; exact absurd rfl hne
        · exact h0
      obtain ⟨h1, h2⟩ := hf 0 h0
      have := h2 0 _ (cellsP_get _ 0 (by rw [h1.1]; omega))
      exact World.block_lt_of_cell? w _ this
    · have hk' : k < len := by simpa using hk
      rw [hget k hk']; exact (hf k hk').2
    · simp [maxLen] at hm; omega
theorem open_printsV {t e i : TypeId} (ht : P.underlying t = some (.slice e)) (he : P.underlying e = some (.array 64 i)) (hi : P.underlying i = some (.int .i16)) (hC : P.cellsOf e = 64) (hE : P.cellsOf i = 1)
    {r : Reach} {b0 : Nat} {v : Value} {d : DataW H} {pl : List MemPlace} (hv : Value.okWide P w r b0 t v) (h : DataW.Trod enc P w base spare held t v d pl) :
    ∃ (p : Option Addr) (n c : Nat) (l : List (List Int)), v = .slice p n c ∧ Prs l ∧ n = l.length ∧ PS w p l ∧ n ≤ 9223372036854775807 := by
  have hv' : Cell.okWide P w r b0 t v := by simpa only [Value.okWide, ht] using hv
  obtain ⟨fuel, hf⟩ := h
  have hc : v.cells.toList = [v] := by
    simp only [Cell.okWide, ht, Cell.ok] at hv'
    cases v <;> first | rfl | simp at hv'
  rw [hc] at hf
  exact open_prints ht he hi hC hE hv' hf
/-- A struct of a number of eight bits and a list of prints. -/
theorem open_sheet {s t e i e8 : TypeId} {f0 f1 : Field} {r : Reach} {b0 : Nat} {v : Value} {d : DataW H} {pl : List MemPlace} (hs : P.underlying s = some (.struct #[f0, f1])) (hone : oneCellFields P #[f0, f1] = true) (hC2 : P.cellsOf s = 2)
    (hf0 : f0.type = e8) (hf1 : f1.type = t) (h8 : P.underlying e8 = some (.int .i8)) (hts : P.cellTypes P.depth s = some [e8, t])
    (ht : P.underlying t = some (.slice e)) (he : P.underlying e = some (.array 64 i)) (hi : P.underlying i = some (.int .i16)) (hC : P.cellsOf e = 64) (hE : P.cellsOf i = 1)
    (hv : Value.okWide P w r b0 s v) (h : DataW.Trod enc P w base spare held s v d pl) :
    ∃ (a : Int) (p : Option Addr) (n c : Nat) (l : List (List Int)), v = .agg #[.int .i8 a, .slice p n c] ∧ (-128 ≤ a ∧ a ≤ 127) ∧ Prs l ∧ n = l.length ∧ PS w p l ∧ n ≤ 9223372036854775807 := by
  obtain ⟨c0, c1, y0, y1, n, rfl, _, _, g0, g1⟩ := Go.Joins.open_agg2 hs hone hC2 hv h
  rw [hf0] at g0
  rw [hf1] at g1
  obtain ⟨a, rfl, _, hw⟩ := read_int h8 g0
  have hok : Cell.okWide P w r b0 t c1 := by
    simp only [Value.okWide, hs] at hv
    obtain ⟨cs, h1, _, ts, hts', _, hrow⟩ := hv
    rw [hts] at hts'
    cases hts'
    cases h1
    obtain ⟨u, hu, hcell⟩ := hrow 1 c1 rfl
    simp at hu
    subst hu
    exact hcell
  obtain ⟨p, k, c, l, rfl, h1, h2, h3, h4⟩ := open_prints ht he hi hC hE hok g1
  exact ⟨a, p, k, c, l, rfl, bounds_i8 hw, h1, h2, h3, h4⟩
end
end Go.Proofs.Ytnbbbmnjbfehmaa
