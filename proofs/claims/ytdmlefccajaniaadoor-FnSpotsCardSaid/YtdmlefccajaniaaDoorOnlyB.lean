/- One block alone has changed. -/
import Derived.Test.YtdmlefccajaniaaDoorBase
namespace Go.Proofs.YtdmlefccajaniaaDoor
open Go.RowKit Go.Lib
structure Only (g : Nat) (w w' : World) : Prop where
  below : Below g w w'
  size : w'.heap.size = w.heap.size
  apart : ∀ b, b ≠ g → w'.heap[b]? = w.heap[b]?
theorem only_refl (g : Nat) (w : World) : Only g w w := ⟨Below.refl _ _, rfl, fun _ _ => rfl⟩
theorem only_trans {g : Nat} {w w1 w2 : World} (h : Only g w w1) (k : Only g w1 w2) : Only g w w2 :=
  ⟨h.below.trans k.below, k.size.trans h.size, fun b hb => (k.apart b hb).trans (h.apart b hb)⟩
theorem only_set {g : Nat} {w w1 : World} (h : Only g w w1) (i : Nat) (u : Value) : Only g w (w1.setCell ⟨g, i, none⟩ u) :=
  ⟨h.below.setCell (p := ⟨g, i, none⟩) (Nat.le_refl _) u, by rw [← h.size]; simp, fun b hb => heap_far _ hb (h.apart b hb)⟩
theorem only_drewN {g : Nat} {w w1 : World} (h : Only g w w1) (n : Nat) : Only g w (w1.drewN n) := ⟨bl_drewN h.below n, h.size, h.apart⟩
theorem only_drew {g : Nat} {w w1 : World} (h : Only g w w1) : Only g w w1.drew := ⟨bl_drew h.below, h.size, h.apart⟩
/-- A block of the callee's own that alone has changed. -/
theorem only_above {g : Nat} {w0 w w' : World} (h : Below w0.heap.size w0 w) (k : Only g w w') (hg : w0.heap.size ≤ g) : Below w0.heap.size w0 w' := h.trans (k.below.mono hg)
/-- One old block has changed, and there are new ones. -/
structure But (g : Nat) (w w' : World) : Prop where
  below : Below g w w'
  apart : ∀ b, b < w.heap.size → b ≠ g → w'.heap[b]? = w.heap[b]?
theorem but_refl (g : Nat) (w : World) : But g w w := ⟨Below.refl _ _, fun _ _ _ => rfl⟩
theorem but_trans {g : Nat} {w w1 w2 : World} (h : But g w w1) (k : But g w1 w2) : But g w w2 :=
  ⟨h.below.trans k.below, fun b hb hg => (k.apart b (Nat.lt_of_lt_of_le hb h.below.size) hg).trans (h.apart b hb hg)⟩
theorem but_only {g : Nat} {w w1 w2 : World} (h : But g w w1) (k : Only g w1 w2) : But g w w2 :=
  but_trans h ⟨k.below, fun b _ hg => k.apart b hg⟩
theorem but_below {g : Nat} {w w1 w2 : World} (h : But g w w1) (hg : g ≤ w1.heap.size) (k : Below w1.heap.size w1 w2) : But g w w2 :=
  but_trans h ⟨k.mono hg, fun b hb _ => k.block b hb⟩
theorem but_alloc {g : Nat} {w w1 : World} (h : But g w w1) (hg : g < w1.heap.size) (o : Obj) : But g w (w1.alloc o) := but_below h (Nat.le_of_lt hg) (bl1 _ _)
/-- A store to a block of the callee's own. -/
theorem but_set {g : Nat} {w w1 : World} (h : But g w w1) {b : Nat} (hg : g < w.heap.size) (hb : w.heap.size ≤ b) (i : Nat) (u : Value) : But g w (w1.setCell ⟨b, i, none⟩ u) :=
  ⟨h.below.setCell (p := ⟨b, i, none⟩) (by show g ≤ b; omega) u, fun c hc hne => heap_far _ (by show c ≠ b; omega) (h.apart c hc hne)⟩
theorem but_setRow {g : Nat} {w w1 : World} (h : But g w w1) {b : Nat} (hg : g < w.heap.size) (hb : w.heap.size ≤ b) (vs : Array Value) : But g w (w1.setRow b vs) :=
  ⟨below_setRow h.below (by omega) _, fun c hc hne => by rw [setRow_other _ _ _ _ (by omega)]; exact h.apart c hc hne⟩
theorem but_drewN {g : Nat} {w w1 : World} (h : But g w w1) (n : Nat) : But g w (w1.drewN n) := ⟨bl_drewN h.below n, h.apart⟩
/-- Seen from before the block was made. -/
theorem but_new {w0 w w' : World} {g : Nat} (h : Below w0.heap.size w0 w) (k : But g w w') (hg : w0.heap.size ≤ g) : Below w0.heap.size w0 w' := h.trans (k.below.mono hg)
end Go.Proofs.YtdmlefccajaniaaDoor
