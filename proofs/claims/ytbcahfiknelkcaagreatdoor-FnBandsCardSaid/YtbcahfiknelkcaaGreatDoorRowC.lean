/- Lists of points that a call has made itself: what they hold, appended to. -/
import Derived.Test.YtbcahfiknelkcaaGreatDoorCrvS
import Derived.Test.YtbcahfiknelkcaaGreatDoorRow
import Derived.Test.YtbcahfiknelkcaaGreatDoorSrc
import Derived.Maps.AppendAt
import Derived.Deep.MidRow
namespace Go.Proofs.YtbcahfiknelkcaaGreatDoor
open Go.RowKit Go.Lib
def flatC : Cv → List Value
  | [] => []
  | p :: l => .int .i16 p.1 :: .int .i16 p.2 :: flatC l
theorem flatC_length : ∀ q : Cv, (flatC q).length = q.length * 2
  | [] => rfl
  | p :: l => by simp only [flatC, List.length_cons, flatC_length l]; omega
theorem flatC_append : ∀ l m : Cv, flatC (l ++ m) = flatC l ++ flatC m
  | [], m => rfl
  | p :: l, m => by simp [flatC, flatC_append l m]
theorem flatC_get0 : ∀ (q : Cv) (i : Nat), i < q.length → (flatC q)[i * 2]? = some (.int .i16 (px q i))
  | [], i, h => absurd h (by simp)
  | p :: l, 0, _ => by simp [flatC, px]
  | p :: l, i + 1, h => by
    have := flatC_get0 l i (by simpa using h)
    rw [show (i + 1) * 2 = i * 2 + 1 + 1 by omega]
    simpa [flatC, px] using this
theorem flatC_get1 : ∀ (q : Cv) (i : Nat), i < q.length → (flatC q)[i * 2 + 1]? = some (.int .i16 (py q i))
  | [], i, h => absurd h (by simp)
  | p :: l, 0, _ => by simp [flatC, py]
  | p :: l, i + 1, h => by
    have := flatC_get1 l i (by simpa using h)
    rw [show (i + 1) * 2 + 1 = i * 2 + 1 + 1 + 1 by omega]
    simpa [flatC, py] using this
theorem flatC_one : ∀ (q : Cv), ∀ u ∈ flatC q, u.oneCell' = true
  | [], u, h => absurd h (by simp [flatC])
  | p :: l, u, h => by
    simp only [flatC, List.mem_cons] at h
    rcases h with rfl | rfl | h
    · rfl
    · rfl
    · exact flatC_one l u h
def RowC (w : World) (base : Nat) (v : Value) (l : Cv) : Prop := w.ownsRow base 147 2 v l.length (flatC l)
theorem rowC_new (w : World) (base : Nat) (hb : base ≤ w.heap.size) : RowC (w.alloc (.cells #[] 147)) base (.slice (some ⟨w.heap.size, 0, none⟩) 0 0) [] :=
  World.ownsRow_made w #[] 0 hb (Nat.zero_le _) (by simp)
theorem rowC_below {w w1 : World} {base : Nat} {v : Value} {l : Cv} (h : RowC w base v l) (hb : Below w.heap.size w w1) : RowC w1 base v l := by
  obtain ⟨h1, h2⟩ := h
  refine ⟨h1, ?_⟩
  rcases h2 with h2 | ⟨g, cap, cur, hv, hg, hh, r⟩
  · exact Or.inl h2
  · exact Or.inr ⟨g, cap, cur, hv, hg, heap_below hb (lt_of_heap hh) hh, r⟩
theorem rowC_alloc {w : World} {base : Nat} {v : Value} {l : Cv} (h : RowC w base v l) (o : Obj) : RowC (w.alloc o) base v l := rowC_below h (bl1 w o)
theorem rowC_but {w w1 : World} {base g : Nat} {v : Value} {l : Cv} (h : RowC w base v l) (hb : But g w w1) (hg : g < base) : RowC w1 base v l := by
  obtain ⟨h1, h2⟩ := h
  refine ⟨h1, ?_⟩
  rcases h2 with h2 | ⟨b, cap, cur, hv, hbb, hh, r⟩
  · exact Or.inl h2
  · exact Or.inr ⟨b, cap, cur, hv, hbb, (hb.apart b (lt_of_heap hh) (by omega)).trans hh, r⟩
theorem rowC_any {w : World} {base : Nat} {v : Value} {l : Cv} (h : RowC w base v l) : ∃ p cap, v = .slice p l.length cap := by
  obtain ⟨_, h2⟩ := h
  rcases h2 with ⟨hv, h0⟩ | ⟨g, cap, cur, hv, _⟩
  · exact ⟨none, 0, by rw [hv, h0]⟩
  · exact ⟨_, cap, hv⟩
theorem rowC_cvs {w : World} {base : Nat} {p : Option Addr} {n cap : Nat} {l : Cv} (h : RowC w base (.slice p n cap) l) : CvS w p l := fun hne => by
  obtain ⟨_, h2⟩ := h
  rcases h2 with ⟨_, h0⟩ | ⟨g, cap2, cur, hv, hg, hh, hc, _, hs, ht⟩
  · exact absurd (List.length_eq_zero_iff.1 h0) hne
  · simp only [Value.slice.injEq] at hv
    obtain ⟨rfl, _, rfl⟩ := hv
    have key : ∀ (j : Nat) (u : Value), j < l.length * 2 → (flatC l)[j]? = some u → w.cell? ⟨g, 0 + j, none⟩ = some u := fun j u hj hu => by
      rw [cell_of_row w g _ _ _ _ hh, ← hu, ← ht, List.getElem?_take_of_lt (by omega), Nat.zero_add]
      simp
    exact ⟨g, 0, rfl, lt_of_heap hh, fun i hi => ⟨key _ _ (by omega) (flatC_get0 l i hi), by rw [Nat.add_assoc]; exact key _ _ (by omega) (flatC_get1 l i hi)⟩⟩
/-- One point appended. -/
theorem wpList_appC {P : Program} {w : World} {ops : Array Oper} {rest : List Oper} {o : Oper} {a : Act} {Q : Exit → Act → World → Prop} (hgd : o.guard = none) (s x : Operand) (t : TypeId)
    (ho : o.op = .call { callee := .builtin .append, args := #[s, x], argTypes := #[t, t] })
    (base : Nat) (ht : P.underlying t = some (.slice 147)) (hinfo : (P.info? 147).map (fun i => (i.zero, i.size, i.bytes)) = some (some (.agg #[.int .i16 0, .int .i16 0]), 2, 4))
    (v : Value) (l : Cv) (hs : a.eval s = v) (hown : RowC w base v l) (g : Nat) (c : Nat) (X Y : Int) (hx : a.eval x = .slice (some ⟨g, 0, none⟩) 1 c) (h0 : w.cell? ⟨g, 0, none⟩ = some (.int .i16 X)) (h1 : w.cell? ⟨g, 1, none⟩ = some (.int .i16 Y))
    (hlen : l.length ≤ 1000000) (hbase : base ≤ w.heap.size)
    (h : ∀ v' w', RowC w' base v' (l ++ [(X, Y)]) → w.grownBy w' v.ownBlock → (∀ j, v.ownBlock = some j → base ≤ j) → wpList P ops Q rest (a.put o.dst v') w') : wpList P ops Q (o :: rest) a w := by
  obtain ⟨i, hi, hz0, hz1, hz2⟩ := info_parts hinfo
  have hbk : ∀ j, v.ownBlock = some j → base ≤ j := fun j hj => (World.ownsRow.lt hown j hj).1
  refine wpList_append_own_at (P := P) w hgd s x t ho base 147 i _ 2 4 ht hi hz0 hz1 hz2 (by simp [Value.cells]) (by decide) v l.length (flatC l) hs hown ⟨g, 0, none⟩ 1 c (flatC [(X, Y)]) hx rfl
    (fun j u hj => by
      match j, hj with
      | 0, hj => simp [flatC] at hj; subst hj; simpa [Addr.add] using h0
      | 1, hj => simp [flatC] at hj; subst hj; simpa [Addr.add] using h1
      | j + 2, hj => simp [flatC] at hj) (flatC_one _) (by unfold maxLen; omega) (by omega) hbase
    (fun v' w' h2 h3 h4 h5 => h v' w' ?_ h3 hbk)
  unfold RowC
  rw [flatC_append, List.length_append]
  exact h2
theorem srcC_keepB {w w1 : World} {B g k : Nat} (h : Src w g k) (hb : Below B w w1) (hB : g < B) : Src w1 g k := by
  obtain ⟨p, n, c, a, s, hg, ha, h0, h1, hn, hx⟩ := h
  refine ⟨p, n, c, a, s, heap_below hb hB hg, ha, h0, h1, hn, fun h => ?_⟩
  obtain ⟨b, o, hp, hz, hx⟩ := hx h
  exact ⟨b, o, hp, hz, fun i hi => by rw [hb.cell (p := ⟨b, o + i, none⟩) (Nat.lt_trans hz hB)]; exact hx i hi⟩
theorem butC_keepB {g B : Nat} {w w1 w2 : World} (h : But g w w1) (hb : Below B w1 w2) (h1 : w.heap.size ≤ B) (hg : g < w.heap.size) : But g w w2 :=
  ⟨h.below.trans (hb.mono (Nat.le_trans (Nat.le_of_lt hg) h1)), fun b hlt hne => (hb.block b (Nat.lt_of_lt_of_le hlt h1)).trans (h.apart b hlt hne)⟩
/-- Points that were drawn: behind them x and y go on. -/
structure Dr (q : Cv) (x y : Int) : Prop where
  le : q.length ≤ 6
  x0 : -20 ≤ x
  x1 : x ≤ 9 + 9 * (q.length : Int)
  y0 : 0 ≤ y
  y1 : y ≤ 19 + 49 * (q.length : Int)
  pts : ∀ i, i < q.length → -20 ≤ px q i ∧ px q i < x ∧ 0 ≤ py q i ∧ py q i ≤ y
  up : ∀ i, i + 1 < q.length → px q i < px q (i + 1) ∧ py q i ≤ py q (i + 1)
theorem pxA_lt {q : Cv} {p : Int × Int} {i : Nat} (h : i < q.length) : px (q ++ [p]) i = px q i ∧ py (q ++ [p]) i = py q i := by
  simp [px, py, List.getD_eq_getElem?_getD, List.getElem?_append_left h]
theorem pxA_eq {q : Cv} {p : Int × Int} : px (q ++ [p]) q.length = p.1 ∧ py (q ++ [p]) q.length = p.2 := by
  simp [px, py, List.getD_eq_getElem?_getD]
theorem Dr.app {q : Cv} {x y a b : Int} (h : Dr q x y) (hl : q.length ≤ 5) (a0 : 0 ≤ a) (a1 : a < 9) (b0 : 0 ≤ b) (b1 : b < 50) : Dr (q ++ [(x, y)]) (x + (1 + a)) (y + b) := by
  have hlen : (q ++ [(x, y)]).length = q.length + 1 := by simp
  have h1 := h.x0; have h2 := h.x1; have h3 := h.y0; have h4 := h.y1
  refine ⟨by omega, by omega, by rw [hlen]; omega, by omega, by rw [hlen]; omega, fun i hi => ?_, fun i hi => ?_⟩
  · rw [hlen] at hi
    by_cases e : i < q.length
    · rw [(pxA_lt e).1, (pxA_lt e).2]; have := h.pts i e; omega
    · have : i = q.length := by omega
      subst this
      rw [pxA_eq.1, pxA_eq.2]; simp only; omega
  · rw [hlen] at hi
    by_cases e : i + 1 < q.length
    · rw [(pxA_lt e).1, (pxA_lt e).2, (pxA_lt (show i < q.length by omega)).1, (pxA_lt (show i < q.length by omega)).2]; exact h.up i e
    · have e1 : i + 1 = q.length := by omega
      rw [(pxA_lt (show i < q.length by omega)).1, (pxA_lt (show i < q.length by omega)).2, e1, pxA_eq.1, pxA_eq.2]
      have := h.pts i (by omega); simp only; omega
theorem shN_of {c : Cv} : ∀ n, (∀ k, k < n → fitB c k = true) → shN c n = true
  | 0, _ => rfl
  | n + 1, h => by
    simp only [shN, Bool.and_eq_true]
    exact ⟨shN_of n fun k hk => h k (by omega), h n (by omega)⟩
/-- A paper as it is drawn. -/
structure Pap (q : Cv) : Prop where
  good : Good q
  ok : cvB q = true
  i16 : C16 q
  le : q.length ≤ 12
theorem px_out {q : Cv} {i : Nat} (h : ¬ i < q.length) : px q i = 0 ∧ py q i = 0 := by
  simp [px, py, List.getD_eq_getElem?_getD, List.getElem?_eq_none (show q.length ≤ i by omega)]
theorem pap_of {q : Cv} {x y : Int} (h : Dr q x y) (h0 : 0 < q.length) : Pap q := by
  have hle := h.le
  have hx := h.x1
  have hy := h.y1
  have hok : cvB q = true := by
    have hs : shN q q.length = true := shN_of _ fun k hk => by
      have := h.pts k hk
      have e1 : ptB (px q k) (py q k) = true := by
        simp only [ptB, Bool.and_eq_true]
        exact ⟨(plcB_iff _).2 (by omega), (ydB_iff _).2 (by omega)⟩
      simp only [fitB, e1, Bool.true_and, Bool.or_eq_true, Bool.and_eq_true, decide_eq_true_eq]
      by_cases e : k = 0
      · exact Or.inl e
      · have := h.up (k - 1) (by omega)
        rw [show k - 1 + 1 = k by omega] at this
        exact Or.inr this
    simp [cvB, shapeB, hs, h0]; omega
  refine ⟨good_of hok, hok, fun i => ?_, by omega⟩
  by_cases e : i < q.length
  · have := h.pts i e; omega
  · have := px_out e; omega
end Go.Proofs.YtbcahfiknelkcaaGreatDoor
