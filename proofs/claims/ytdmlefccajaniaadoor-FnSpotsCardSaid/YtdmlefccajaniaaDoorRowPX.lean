/- Rows of prints that are drawn: what SwapC, PickI, FramesD and FramesQ say of them, for a seat without sheets. -/
import Derived.Test.YtdmlefccajaniaaDoorRowP
import Derived.Test.YtdmlefccajaniaaDoorCells
import Derived.Test.YtdmlefccajaniaaDoorVSheet
import Derived.Deep.RegionHeld3
import Derived.Deep.AppendLies
import Derived.Lib.SliceRun
namespace Go.Proofs.YtdmlefccajaniaaDoor
open Go.RowKit Go.Lib
/-- A list of prints at the beginning of a block. -/
def PB (w : World) (g : Nat) (l : List (List Int)) : Prop := g < w.heap.size ∧ PrAt w g 0 l
theorem rowP_any {w : World} {base : Nat} {v : Value} {l : List (List Int)} (h : RowP w base v l) : ∃ p cap, v = .slice p l.length cap := by
  obtain ⟨_, h2⟩ := h
  rcases h2 with ⟨h2, h0⟩ | ⟨g, cap, cur, hv, _⟩
  · exact ⟨none, 0, by rw [h2, h0]⟩
  · exact ⟨_, cap, hv⟩
theorem rowP_far {w : World} {base : Nat} {v : Value} {l : List (List Int)} (h : RowP w base v l) {p : Addr} (hp : p.block < base) (u : Value) : RowP (w.setCell p u) base v l := ownsRow_setCell_below h hp u
theorem rowP_mono {w : World} {b b' : Nat} {v : Value} {l : List (List Int)} (h : RowP w b v l) (hb : b' ≤ b) : RowP w b' v l := by
  obtain ⟨h1, h2⟩ := h
  refine ⟨h1, ?_⟩
  rcases h2 with h2 | ⟨g, cap, cur, hv, hg, r⟩
  · exact Or.inl h2
  · exact Or.inr ⟨g, cap, cur, hv, Nat.le_trans hb hg, r⟩
theorem pb_PS {w : World} {g : Nat} {l : List (List Int)} (h : PB w g l) : PS w (some ⟨g, 0, none⟩) l := fun _ => ⟨g, 0, rfl, h.1, h.2⟩
theorem fold_fill : ∀ (cs : List Value) (k : Nat) (A : Array Value), A.size = k + cs.length → List.foldl (fun (A : Array Value) (x : Value × Nat) => A.setIfInBounds x.snd x.fst) A (cs.zipIdx k) = (A.toList.take k ++ cs).toArray
  | [], k, A, h => by
    have : A.toList.take k = A.toList := List.take_of_length_le (by simp at h ⊢; omega)
    simp [this]
  | c :: cs, k, A, h => by
    rw [List.zipIdx_cons, List.foldl_cons, fold_fill cs (k + 1) _ (by simp at h ⊢; omega)]
    have hk : k < A.toList.length := by simp at h ⊢; omega
    have e : (A.setIfInBounds k c).toList.take (k + 1) = A.toList.take k ++ [c] := by
      have hl : (A.toList.take k).length = k := by rw [List.length_take]; omega
      rw [Array.toList_setIfInBounds, List.take_set, List.take_succ_eq_append_getElem hk, List.set_append_right _ _ (by rw [hl]; exact Nat.le_refl _)]
      have : k - (A.toList.take k).length = 0 := by rw [hl]; omega
      rw [this]; rfl
    rw [e]; simp
theorem flat_one (q : List Int) : flatP [q] = cellsP q := by simp [flatP]
theorem fold_print (q : List Int) (hq : q.length = 64) : List.foldl (fun (A : Array Value) (x : Value × Nat) => A.setIfInBounds x.snd x.fst) (arr .i16 Z64) (cellsP q).zipIdx = (cellsP q).toArray := by
  rw [fold_fill (cellsP q) 0 _ (by rw [arr_size, Z64_length, cellsP_length, hq])]
  simp
theorem cellsDrawnP_c (g k : Nat) (w : World) (h : Src w g k) (hk : k ≤ 1000000) :
    Calls Tryd.prog 52 #[.pointer (some ⟨g, 0, none⟩)] w fun e w' => ∃ p, e = .returned (.agg (cellsP p).toArray) ∧ Pr p ∧ okP p = true ∧ Src w' g (k + 40) ∧ But g w w' := by
  refine (cellsDrawn_c g k w h hk).mono ?_
  rintro e w' ⟨p, rfl, hl, ho, hS, hB⟩
  exact ⟨p, rfl, okP_pr hl ho, ho, hS, hB⟩
theorem src_drew1 {w : World} {g k : Nat} (h : Src w g k) : Src w.drew g k := h
theorem but_drew1 {g : Nat} {w w1 : World} (h : But g w w1) : But g w w1.drew := ⟨bl_drew h.below, h.apart⟩
theorem src_keepB {w w1 : World} {B g k : Nat} (h : Src w g k) (hb : Below B w w1) (hB : g < B) : Src w1 g k := by
  obtain ⟨p, n, c, a, s, hg, ha, h0, h1, hn, hx⟩ := h
  refine ⟨p, n, c, a, s, heap_below hb hB hg, ha, h0, h1, hn, fun h => ?_⟩
  obtain ⟨b, o, hp, hz, hx⟩ := hx h
  exact ⟨b, o, hp, hz, fun i hi => by rw [hb.cell (p := ⟨b, o + i, none⟩) (Nat.lt_trans hz hB)]; exact hx i hi⟩
theorem but_keepB {g B : Nat} {w w1 w2 : World} (h : But g w w1) (hb : Below B w1 w2) (h1 : w.heap.size ≤ B) (hg : g < w.heap.size) : But g w w2 :=
  ⟨h.below.trans (hb.mono (Nat.le_trans (Nat.le_of_lt hg) h1)), fun b hlt hne => (hb.block b (Nat.lt_of_lt_of_le hlt h1)).trans (h.apart b hlt hne)⟩
theorem rowP_but {w w1 : World} {base g : Nat} {v : Value} {l : List (List Int)} (h : RowP w base v l) (hb : But g w w1) (hg : g < base) : RowP w1 base v l := by
  obtain ⟨h1, h2⟩ := h
  refine ⟨h1, ?_⟩
  rcases h2 with h2 | ⟨b, cap, cur, hv, hbb, hh, r⟩
  · exact Or.inl h2
  · exact Or.inr ⟨b, cap, cur, hv, hbb, (hb.apart b (lt_of_heap hh) (by omega)).trans hh, r⟩
theorem okL_app {l : List (List Int)} {q : List Int} (h : okL l = true) (hq : okP q = true) : okL (l ++ [q]) = true := by
  unfold okL at h ⊢
  rw [List.all_append, h]; simp [hq]
theorem Prs_app {l : List (List Int)} {q : List Int} (h : Prs l) (hq : Pr q) : Prs (l ++ [q]) := fun i hi => by
  by_cases e : i < l.length
  · have := h i e
    rwa [List.getD_eq_getElem?_getD, List.getElem?_append_left e, ← List.getD_eq_getElem?_getD]
  · have : i = l.length := by simp at hi; omega
    subst this
    rw [List.getD_eq_getElem?_getD, List.getElem?_append_right (Nat.le_refl _)]; simpa using hq
theorem rowP_PB {w : World} {base : Nat} {v : Value} {l : List (List Int)} (h : RowP w base v l) (hl : Prs l) (h0 : 0 < l.length) : ∃ g c, v = .slice (some ⟨g, 0, none⟩) l.length c ∧ PB w g l ∧ l.length ≤ c := by
  obtain ⟨q, c, hv, hps⟩ := rowP_PS h hl
  obtain ⟨_, h2⟩ := h
  rcases h2 with ⟨_, h0'⟩ | ⟨g, cap, cur, hv2, hg, hh, hc, _⟩
  · omega
  · have hv3 := hv
    rw [hv2] at hv3
    simp only [Value.slice.injEq] at hv3
    obtain ⟨e1, _, e3⟩ := hv3
    obtain ⟨b, o, hb, hlt, hat⟩ := hps (by rintro rfl; simp at h0)
    rw [← e1] at hb
    simp only [Option.some.injEq, Addr.mk.injEq, and_true] at hb
    obtain ⟨rfl, rfl⟩ := hb
    exact ⟨g, cap, hv2, ⟨hlt, hat⟩, hc⟩
end Go.Proofs.YtdmlefccajaniaaDoor
