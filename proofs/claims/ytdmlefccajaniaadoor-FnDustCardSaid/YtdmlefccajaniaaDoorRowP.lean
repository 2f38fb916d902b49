/- Lists of prints that a call has made itself: what they hold, appended to. -/
import Derived.Test.YtdmlefccajaniaaDoorShts2
import Derived.Test.YtdmlefccajaniaaDoorRow
import Derived.Maps.AppendAt
namespace Go.Proofs.YtdmlefccajaniaaDoor
open Go.RowKit Go.Lib
def RowP (w : World) (base : Nat) (v : Value) (l : List (List Int)) : Prop := w.ownsRow base 37 64 v l.length (flatP l)
theorem rowP_new (w : World) (base : Nat) (hb : base ≤ w.heap.size) : RowP (w.alloc (.cells #[] 37)) base (.slice (some ⟨w.heap.size, 0, none⟩) 0 0) [] :=
  World.ownsRow_made w #[] 0 hb (Nat.zero_le _) (by simp)
theorem rowP_nil (w : World) (base : Nat) : RowP w base (.slice none 0 0) [] := ⟨rfl, .inl ⟨rfl, rfl⟩⟩
theorem rowP_below {w w1 : World} {base : Nat} {v : Value} {l : List (List Int)} (h : RowP w base v l) (hb : Below w.heap.size w w1) : RowP w1 base v l := by
  obtain ⟨h1, h2⟩ := h
  refine ⟨h1, ?_⟩
  rcases h2 with h2 | ⟨g, cap, cur, hv, hg, hh, r⟩
  · exact Or.inl h2
  · exact Or.inr ⟨g, cap, cur, hv, hg, heap_below hb (lt_of_heap hh) hh, r⟩
theorem rowP_alloc {w : World} {base : Nat} {v : Value} {l : List (List Int)} (h : RowP w base v l) (o : Obj) : RowP (w.alloc o) base v l := rowP_below h (bl1 w o)
/-- Nothing but one other block has changed. -/
theorem rowP_apart {w w1 : World} {base g : Nat} {v : Value} {l : List (List Int)} (h : RowP w base v l) (hg : ∀ b, b ≠ g → w1.heap[b]? = w.heap[b]?) (hne : v.ownBlock ≠ some g) : RowP w1 base v l := by
  obtain ⟨h1, h2⟩ := h
  refine ⟨h1, ?_⟩
  rcases h2 with h2 | ⟨b, cap, cur, hv, hb, hh, r⟩
  · exact Or.inl h2
  · refine Or.inr ⟨b, cap, cur, hv, hb, ?_, r⟩
    rw [hg b (by rintro rfl; rw [hv] at hne; exact hne rfl)]; exact hh
theorem rowP_PS {w : World} {base : Nat} {v : Value} {l : List (List Int)} (h : RowP w base v l) (hl : Prs l) : ∃ p cap, v = .slice p l.length cap ∧ PS w p l := by
  obtain ⟨_, h2⟩ := h
  rcases h2 with ⟨hv, h0⟩ | ⟨g, cap, cur, hv, hg, hh, hc, _, hs, ht⟩
  · exact ⟨none, 0, by rw [hv, h0], fun hne => absurd (List.length_eq_zero_iff.1 h0) hne⟩
  · refine ⟨_, cap, hv, fun _ => ⟨g, 0, rfl, lt_of_heap hh, fun i hi j u hu => ?_⟩⟩
    have hj : j < (cellsP (l.getD i [])).length := (List.getElem?_eq_some_iff.1 hu).1
    rw [cellsP_length, (hl i hi).1] at hj
    rw [cellsP_get _ _ (by rw [(hl i hi).1]; exact hj)] at hu
    rw [cell_of_row w g _ _ _ _ hh, ← hu, ← flatP_get l hl i j hi hj, ← ht, List.getElem?_take_of_lt (by omega), Nat.zero_add]
    simp
theorem flatP_one (l : List (List Int)) : ∀ u ∈ flatP l, u.oneCell' = true := by
  intro u hu
  simp only [flatP, List.mem_flatten, List.mem_map] at hu
  obtain ⟨c, ⟨q, _, rfl⟩, hc⟩ := hu
  exact cellsP_one q u hc
theorem PS_cells {w : World} {b o : Nat} {l : List (List Int)} (h : PrAt w b o l) (hl : Prs l) : ∀ j u, (flatP l)[j]? = some u → w.cell? ((⟨b, o, none⟩ : Addr).add j) = some u := by
  intro j u hu
  have hj : j < (flatP l).length := (List.getElem?_eq_some_iff.1 hu).1
  rw [flatP_length l hl] at hj
  have hd : j = j / 64 * 64 + j % 64 := by omega
  have hi : j / 64 < l.length := by omega
  rw [hd, flatP_get l hl _ _ hi (by omega)] at hu
  rw [Addr.add_mid, ← hu, hd, ← Nat.add_assoc]
  have e1 : (j / 64 * 64 + j % 64) / 64 = j / 64 := by omega
  have e2 : (j / 64 * 64 + j % 64) % 64 = j % 64 := by omega
  rw [PrAt_cell h hl (j / 64) (j % 64) hi (by omega), e1, e2]
theorem flatP_set : ∀ (l : List (List Int)) (i : Nat) (q : List Int), Prs l → i < l.length → q.length = 64 → flatP (l.set i q) = (flatP l).take (i * 64) ++ cellsP q ++ (flatP l).drop (i * 64 + 64)
  | [], i, _, _, hi, _ => absurd hi (by simp)
  | p :: l, 0, q, hl, _, _ => by
    have h1 := (Prs_head hl).1
    rw [List.set_cons_zero, flatP_cons, flatP_cons, show 0 * 64 = 0 from rfl, List.take_zero, List.nil_append, List.drop_left' (by rw [cellsP_length]; omega)]
  | p :: l, i + 1, q, hl, hi, hq => by
    have h1 := (Prs_head hl).1
    have hc : (cellsP p).length = 64 := by rw [cellsP_length, h1]
    have e1 : (i + 1) * 64 = (cellsP p).length + i * 64 := by omega
    have e2 : (i + 1) * 64 + 64 = (cellsP p).length + (i * 64 + 64) := by omega
    rw [List.set_cons_succ, flatP_cons, flatP_cons, flatP_set l i q (Prs_tail hl) (by simpa using hi) hq, e2, e1, List.take_length_add_append, List.drop_length_add_append]
    simp [List.append_assoc]
theorem Prs_set {l : List (List Int)} {q : List Int} (i : Nat) (h : Prs l) (hq : Pr q) : Prs (l.set i q) := fun j hj => by
  rw [List.length_set] at hj
  by_cases e : i = j
  · subst e; rw [List.getD_eq_getElem?_getD, List.getElem?_set_self hj]; exact hq
  · rw [List.getD_eq_getElem?_getD, List.getElem?_set_ne e, ← List.getD_eq_getElem?_getD]; exact h j hj
theorem Prs_append {l m : List (List Int)} (hl : Prs l) (hm : Prs m) : Prs (l ++ m) := fun j hj => by
  rw [List.length_append] at hj
  by_cases e : j < l.length
  · rw [List.getD_eq_getElem?_getD, List.getElem?_append_left e, ← List.getD_eq_getElem?_getD]; exact hl j e
  · rw [List.getD_eq_getElem?_getD, List.getElem?_append_right (by omega), ← List.getD_eq_getElem?_getD]; exact hm _ (by omega)
theorem Prs_drop {l : List (List Int)} (h : Prs l) (k : Nat) : Prs (l.drop k) := fun i hi => by
  rw [List.length_drop] at hi
  rw [List.getD_eq_getElem?_getD, List.getElem?_drop, ← List.getD_eq_getElem?_getD]; exact h _ (by omega)
theorem Prs_one {q : List Int} (h : Pr q) : Prs [q] := fun i hi => by
  have : i = 0 := by simpa using hi
  subst this; exact h
/-- One print of a list written anew. -/
theorem rowP_set {w : World} {base g cap n : Nat} {l : List (List Int)} {i : Nat} {q : List Int} (h : RowP w base (.slice (some ⟨g, 0, none⟩) n cap) l) (hl : Prs l) (hi : i < l.length) (hq : q.length = 64) :
    RowP (w.setCells g (i * 64) (cellsP q)) base (.slice (some ⟨g, 0, none⟩) n cap) (l.set i q) := by
  obtain ⟨h1, h2⟩ := h
  have hf := flatP_length l hl
  have hq' : (cellsP q).length = 64 := by rw [cellsP_length, hq]
  have hfs : (flatP (l.set i q)).length = (l.set i q).length * 64 := by
    rw [flatP_set l i q hl hi hq, List.length_set, List.length_append, List.length_append, List.length_take, List.length_drop, hq', hf]; omega
  refine ⟨hfs, ?_⟩
  rcases h2 with ⟨hv, _⟩ | ⟨g', cap', cur, hv, hg, hh, hc, hm, hs, ht⟩
  · cases hv
  · have e1 : g' = g := by simp at hv; exact hv.1.symm
    subst e1
    have hcl : cur.toList.length = cap' * 64 := by simpa using hs
    refine .inr ⟨g', cap', _, by rw [List.length_set]; exact hv, hg, setCells_mid _ _ _ _ _ _ hh (by rw [hq', hs]; omega), by rw [List.length_set]; exact hc, hm, ?_, ?_⟩
    · simp only [List.size_toArray, List.length_append, List.length_take, List.length_drop, hq', hcl]; omega
    · rw [List.length_set, flatP_set l i q hl hi hq, ← ht, hq', List.take_take, Nat.min_eq_left (by omega), List.drop_take, List.take_append, List.take_append, List.length_append, List.length_take, hq', Nat.min_eq_left (by omega), List.take_take, Nat.min_eq_right (by omega), List.take_of_length_le (l := cellsP q) (by rw [hq']; omega)]
theorem rowP_frozen {w : World} {base g cap n : Nat} {l : List (List Int)} (h : RowP w base (.slice (some ⟨g, 0, none⟩) n cap) l) (i : Nat) : w.frozen? ⟨g, i, none⟩ = false := by
  obtain ⟨_, h2⟩ := h
  rcases h2 with ⟨hv, _⟩ | ⟨g', cap', cur, hv, hg, hh, _⟩
  · cases hv
  · have e1 : g' = g := by simp at hv; exact hv.1.symm
    subst e1
    exact frozen_of_row _ _ _ _ _ hh
theorem rowP_there {w : World} {base g cap n : Nat} {l : List (List Int)} (h : RowP w base (.slice (some ⟨g, 0, none⟩) n cap) l) (i : Nat) (hi : i < l.length) : w.there g (i * 64) 64 := by
  obtain ⟨_, h2⟩ := h
  rcases h2 with ⟨hv, _⟩ | ⟨g', cap', cur, hv, hg, hh, hc, hm, hs, ht⟩
  · cases hv
  · have e1 : g' = g := by simp at hv; exact hv.1.symm
    subst e1
    exact there_part hh _ _ (by rw [hs]; omega)
theorem flatP_take (l : List (List Int)) (i : Nat) (hl : Prs l) (hi : i ≤ l.length) : flatP (l.take i) = (flatP l).take (i * 64) := by
  have h1 : (flatP (l.take i)).length = i * 64 := by rw [flatP_length _ (Prs_take hl i), List.length_take, Nat.min_eq_left hi]
  have h2 : flatP l = flatP (l.take i) ++ flatP (l.drop i) := by rw [← flatP_append, List.take_append_drop]
  rw [h2, List.take_left' h1]
/-- The beginning of a list of prints of one's own. -/
theorem rowP_take {w : World} {base g cap n : Nat} {l : List (List Int)} (h : RowP w base (.slice (some ⟨g, 0, none⟩) n cap) l) (hl : Prs l) (i : Nat) (hi : i ≤ l.length) :
    RowP w base (.slice (some ⟨g, 0, none⟩) i cap) (l.take i) := by
  obtain ⟨_, h2⟩ := h
  have hlt : (l.take i).length = i := by rw [List.length_take, Nat.min_eq_left hi]
  refine ⟨flatP_length _ (Prs_take hl i), ?_⟩
  rcases h2 with ⟨hv, _⟩ | ⟨g', cap', cur, hv, hg, hh, hc, hm, hs, ht⟩
  · cases hv
  · simp only [Value.slice.injEq, Option.some.injEq, Addr.mk.injEq, and_true] at hv
    obtain ⟨rfl, _, rfl⟩ := hv
    refine .inr ⟨g, cap, cur, by rw [hlt], hg, hh, by omega, hm, hs, ?_⟩
    rw [hlt, flatP_take l i hl hi, ← ht, List.take_take, Nat.min_eq_left (by omega)]
/-- Prints that lie in a row, appended. -/
theorem wpList_appPs {P : Program} {w : World} {ops : Array Oper} {rest : List Oper} {o : Oper} {a : Act} {Q : Exit → Act → World → Prop} (hgd : o.guard = none) (s x : Operand) (t : TypeId)
    (ho : o.op = .call { callee := .builtin .append, args := #[s, x], argTypes := #[t, t] })
    (base : Nat) (ht : P.underlying t = some (.slice 37)) (hinfo : (P.info? 37).map (fun i => (i.zero, i.size, i.bytes)) = some (some (.agg (arr .i16 (List.replicate 64 0))), 64, 128))
    (v : Value) (l : List (List Int)) (hs : a.eval s = v) (hown : RowP w base v l) (b of c : Nat) (n : Nat) (m : List (List Int)) (hmn : n = m.length) (hm : Prs m) (hx : a.eval x = .slice (some ⟨b, of, none⟩) n c) (hg : PrAt w b of m)
    (hlen : l.length + n ≤ 1099511627776) (hbase : base ≤ w.heap.size)
    (h : ∀ v' w', RowP w' base v' (l ++ m) → w.grownBy w' v.ownBlock → (∀ j, v.ownBlock = some j → base ≤ j) → (v' = .slice none 0 0 ↔ v = .slice none 0 0 ∧ n = 0) → (v'.ownBlock = v.ownBlock ∨ v'.ownBlock = some w.heap.size) → wpList P ops Q rest (a.put o.dst v') w') : wpList P ops Q (o :: rest) a w := by
  obtain ⟨i, hi, hz0, hz1, hz2⟩ := info_parts hinfo
  have hbk : ∀ j, v.ownBlock = some j → base ≤ j := fun j hj => (World.ownsRow.lt hown j hj).1
  refine wpList_append_own_at (P := P) w hgd s x t ho base 37 i _ 64 128 ht hi hz0 hz1 hz2 (by simp [Value.cells, arr]) (by decide) v l.length (flatP l) hs hown ⟨b, of, none⟩ n c (flatP m) hx (by rw [flatP_length m hm, hmn]) (PS_cells hg hm) (flatP_one m) (by unfold maxLen; omega) (by omega) hbase
    (fun v' w' h2 h3 h4 h5 => h v' w' ?_ h3 hbk h4 h5)
  unfold RowP
  rw [flatP_append, List.length_append, ← hmn]
  exact h2
end Go.Proofs.YtdmlefccajaniaaDoor
