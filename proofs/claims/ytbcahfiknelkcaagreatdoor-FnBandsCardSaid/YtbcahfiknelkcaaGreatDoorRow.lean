/- Slices of integers that a call has made itself: what they hold, read, appended to. -/
import Derived.Test.YtbcahfiknelkcaaGreatDoorBase
import Derived.OwnWalk
namespace Go.Proofs.YtbcahfiknelkcaaGreatDoor
open Go.RowKit
def Row (w : World) (base : Nat) (e : TypeId) (k : IntKind) (v : Value) (xs : List Int) : Prop := w.ownsRow base e 1 v xs.length (xs.map (Value.int k))
theorem row_new (w : World) (e : TypeId) (k : IntKind) (base : Nat) (hb : base ≤ w.heap.size) : Row (w.alloc (.cells #[] e)) base e k (.slice (some ⟨w.heap.size, 0, none⟩) 0 0) [] :=
  ⟨rfl, .inr ⟨w.heap.size, 0, #[], rfl, hb, heap_alloc_new w _, Nat.le_refl _, by unfold maxLen; omega, rfl, rfl⟩⟩
theorem row_nil (w : World) (e : TypeId) (k : IntKind) (base : Nat) : Row w base e k (.slice none 0 0) [] := ⟨rfl, .inl ⟨rfl, rfl⟩⟩
theorem row_below {w w1 : World} {base : Nat} {e : TypeId} {k : IntKind} {v : Value} {xs : List Int} (h : Row w base e k v xs) (hb : Below w.heap.size w w1) : Row w1 base e k v xs := by
  obtain ⟨h1, h2⟩ := h
  refine ⟨h1, ?_⟩
  rcases h2 with h2 | ⟨g, cap, cur, hv, hg, hh, r⟩
  · exact Or.inl h2
  · exact Or.inr ⟨g, cap, cur, hv, hg, heap_below hb (lt_of_heap hh) hh, r⟩
theorem row_alloc {w : World} {base : Nat} {e : TypeId} {k : IntKind} {v : Value} {xs : List Int} (h : Row w base e k v xs) (o : Obj) : Row (w.alloc o) base e k v xs := row_below h (bl1 w o)
theorem row_far {w : World} {base : Nat} {e : TypeId} {k : IntKind} {v : Value} {xs : List Int} (h : Row w base e k v xs) {p : Addr} (hp : p.block < base) (u : Value) : Row (w.setCell p u) base e k v xs :=
  ownsRow_setCell_below h hp u
/-- A slice that holds something: where its numbers lie. -/
theorem row_shape {w : World} {base : Nat} {e : TypeId} {k : IntKind} {v : Value} {xs : List Int} (h : Row w base e k v xs) (hne : xs ≠ []) :
    ∃ g cap, v = .slice (some ⟨g, 0, none⟩) xs.length cap ∧ base ≤ g ∧ g < w.heap.size ∧ xs.length ≤ cap ∧ cap ≤ maxLen ∧ ∀ i, i < xs.length → w.cell? ⟨g, i, none⟩ = some (.int k (xs.getD i 0)) := by
  obtain ⟨h1, h2⟩ := h
  rcases h2 with ⟨_, h2⟩ | ⟨g, cap, cur, hv, hg, hh, hc, hm, hs, ht⟩
  · exact absurd (List.length_eq_zero_iff.1 h2) hne
  · refine ⟨g, cap, hv, hg, lt_of_heap hh, hc, hm, fun i hi => ?_⟩
    rw [cell_of_row w g i cur e _ hh]
    have h3 : (cur.toList.take (xs.length * 1))[i]? = some (.int k (xs.getD i 0)) := by
      rw [ht, List.getElem?_map, List.getElem?_eq_getElem hi]
      simp [List.getD_eq_getElem?_getD, hi]
    rw [List.getElem?_take, if_pos (by omega)] at h3
    simpa using h3
/-- One number appended. -/
theorem wpList_app {P : Program} {w : World} {ops : Array Oper} {rest : List Oper} {o : Oper} {a : Act} {Q : Exit → Act → World → Prop} (hgd : o.guard = none) (s x : Operand) (t : TypeId)
    (ho : o.op = .call { callee := .builtin .append, args := #[s, x], argTypes := #[t, t] })
    (base : Nat) (e : TypeId) (k : IntKind) (bytes : Nat) (ht : P.underlying t = some (.slice e)) (hinfo : (P.info? e).map (fun i => (i.zero, i.size, i.bytes)) = some (some (.int k 0), 1, bytes)) (hb8 : bytes ≤ 8)
    (v : Value) (xs : List Int) (hs : a.eval s = v) (hown : Row w base e k v xs) (g : Nat) (c : Nat) (z : Int) (hx : a.eval x = .slice (some ⟨g, 0, none⟩) 1 c) (hg : w.cell? ⟨g, 0, none⟩ = some (.int k z))
    (hlen : xs.length ≤ 17592186000000) (hbase : base ≤ w.heap.size)
    (h : ∀ v' w', Row w' base e k v' (xs ++ [z]) → w.grownBy w' v.ownBlock → (∀ j, v.ownBlock = some j → base ≤ j) → wpList P ops Q rest (a.put o.dst v') w') : wpList P ops Q (o :: rest) a w := by
  obtain ⟨i, hi, hz0, hz1, hz2⟩ := info_parts hinfo
  have hbk : ∀ j, v.ownBlock = some j → base ≤ j := by
    intro j hj
    obtain ⟨_, h2⟩ := hown
    rcases h2 with ⟨h2, _⟩ | ⟨g', cap, cur, hv, hg', _⟩
    · rw [h2] at hj; cases hj
    · rw [hv] at hj; simp [Value.ownBlock] at hj; omega
  have hb' : (xs.length + 1) * bytes ≤ (xs.length + 1) * 8 := Nat.mul_le_mul_left _ hb8
  refine wpList_append_own w hgd s x t ho base e i (.int k 0) 1 bytes ht hi hz0 hz1 hz2 rfl (by decide) v xs.length (xs.map (Value.int k)) hs hown ⟨g, 0, none⟩ 1 c [.int k z] hx rfl (fun j u hj => ?_) (fun u hu => ?_) (by unfold maxLen; omega) (by omega) hbase
    (fun v' w' h2 h3 _ => h v' w' ?_ h3 hbk)
  · match j, hj with
    | 0, hj => simp at hj; subst hj; simpa [Addr.add] using hg
  · simp at hu; subst hu; rfl
  · unfold Row
    simpa using h2
theorem below_app {w w1 w2 : World} {base : Nat} {v : Value} (h : Below w.heap.size w w1) (hg : w1.grownBy w2 v.ownBlock) (hb : w.heap.size ≤ base) (hk : ∀ j, v.ownBlock = some j → base ≤ j) : Below w.heap.size w w2 :=
  h.grown hg h.size (fun k hk' => Nat.le_trans hb (hk k hk'))
end Go.Proofs.YtbcahfiknelkcaaGreatDoor
