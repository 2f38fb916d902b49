/- One number appended, and where the list lies then. -/
import Derived.Test.YtbcahfiknelkcaaGreatDoorRow
import Derived.Maps.AppendAt
namespace Go.Proofs.YtbcahfiknelkcaaGreatDoor
open Go.RowKit Go.Lib
theorem wpList_appAt {P : Program} {w : World} {ops : Array Oper} {rest : List Oper} {o : Oper} {a : Act} {Q : Exit → Act → World → Prop} (hgd : o.guard = none) (s x : Operand) (t : TypeId)
    (ho : o.op = .call { callee := .builtin .append, args := #[s, x], argTypes := #[t, t] })
    (base : Nat) (e : TypeId) (k : IntKind) (bytes : Nat) (ht : P.underlying t = some (.slice e)) (hinfo : (P.info? e).map (fun i => (i.zero, i.size, i.bytes)) = some (some (.int k 0), 1, bytes)) (hb8 : bytes ≤ 8)
    (v : Value) (xs : List Int) (hs : a.eval s = v) (hown : Row w base e k v xs) (g : Nat) (c : Nat) (z : Int) (hx : a.eval x = .slice (some ⟨g, 0, none⟩) 1 c) (hg : w.cell? ⟨g, 0, none⟩ = some (.int k z))
    (hlen : xs.length ≤ 17592186000000) (hbase : base ≤ w.heap.size)
    (h : ∀ v' w', Row w' base e k v' (xs ++ [z]) → w.grownBy w' v.ownBlock → (∀ j, v.ownBlock = some j → base ≤ j) → (v'.ownBlock = v.ownBlock ∨ v'.ownBlock = some w.heap.size) → wpList P ops Q rest (a.put o.dst v') w') : wpList P ops Q (o :: rest) a w := by
  obtain ⟨i, hi, hz0, hz1, hz2⟩ := info_parts hinfo
  have hbk : ∀ j, v.ownBlock = some j → base ≤ j := by
    intro j hj
    obtain ⟨_, h2⟩ := hown
    rcases h2 with ⟨h2, _⟩ | ⟨g', cap, cur, hv, hg', _⟩
    · rw [h2] at hj; cases hj
    · rw [hv] at hj; simp [Value.ownBlock] at hj; omega
  have hb' : (xs.length + 1) * bytes ≤ (xs.length + 1) * 8 := Nat.mul_le_mul_left _ hb8
  refine wpList_append_own_at (P := P) w hgd s x t ho base e i (.int k 0) 1 bytes ht hi hz0 hz1 hz2 rfl (by decide) v xs.length (xs.map (Value.int k)) hs hown ⟨g, 0, none⟩ 1 c [.int k z] hx rfl (fun j u hj => ?_) (fun u hu => ?_) (by unfold maxLen; omega) (by omega) hbase
    (fun v' w' h2 h3 _ h5 => h v' w' ?_ h3 hbk h5)
  · match j, hj with
    | 0, hj => simp at hj; subst hj; simpa [Addr.add] using hg
  · simp at hu; subst hu; rfl
  · unfold Row
    simpa using h2
theorem row_new1 (w : World) (e : TypeId) (k : IntKind) (base : Nat) (hb : base ≤ w.heap.size) (z : Int) : Row (w.alloc (.cells #[.int k z] e)) base e k (.slice (some ⟨w.heap.size, 0, none⟩) 1 1) [z] :=
  ⟨rfl, .inr ⟨w.heap.size, 1, #[.int k z], rfl, hb, heap_alloc_new w _, Nat.le_refl _, by unfold maxLen; omega, rfl, rfl⟩⟩
theorem row_own {w : World} {base : Nat} {e : TypeId} {k : IntKind} {v : Value} {xs : List Int} (h : Row w base e k v xs) {j : Nat} (hj : v.ownBlock = some j) : base ≤ j ∧ j < w.heap.size := by
  obtain ⟨_, h2⟩ := h
  rcases h2 with ⟨h2, _⟩ | ⟨g, cap, cur, hv, hg, hh, _⟩
  · rw [h2] at hj; cases hj
  · rw [hv] at hj
    simp [Value.ownBlock] at hj
    subst hj
    exact ⟨hg, lt_of_heap hh⟩
end Go.Proofs.YtbcahfiknelkcaaGreatDoor
