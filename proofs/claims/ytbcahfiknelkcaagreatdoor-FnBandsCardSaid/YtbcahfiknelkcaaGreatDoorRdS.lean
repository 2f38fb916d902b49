/- ReadScene: the reference. -/
import Derived.Test.YtbcahfiknelkcaaGreatDoorRdP
namespace Go.Proofs.YtbcahfiknelkcaaGreatDoor
open Go.RowKit
def Z24 : List Int := List.replicate 24 0
def zA : Array Value := arr .i8 Z24
theorem zA_eq : (#[.int .i8 0, .int .i8 0, .int .i8 0, .int .i8 0, .int .i8 0, .int .i8 0, .int .i8 0, .int .i8 0, .int .i8 0, .int .i8 0, .int .i8 0, .int .i8 0, .int .i8 0, .int .i8 0, .int .i8 0, .int .i8 0, .int .i8 0, .int .i8 0, .int .i8 0, .int .i8 0, .int .i8 0, .int .i8 0, .int .i8 0, .int .i8 0] : Array Value) = zA := rfl
theorem setRow_idR (w : World) (g : Nat) (cs : Array Value) (t : TypeId) (fr : Nat × Nat) (hg : w.heap[g]? = some (.cells cs t fr)) : w.setRow g cs = w := by
  have hlt : g < w.heap.size := (Array.getElem?_eq_some_iff.1 hg).1
  have hv : w.heap[g] = .cells cs t fr := (Array.getElem?_eq_some_iff.1 hg).2
  have e : (w.setRow g cs).heap = w.heap := by
    unfold World.setRow
    apply Array.ext
    · simp
    · intro k h1 h2
      simp only [Array.getElem_modify]
      split
      · rename_i hk; subst hk; simp [hv]
      · rfl
  have : w.setRow g cs = { w with heap := (w.setRow g cs).heap } := rfl
  rw [this, e]
theorem rep_ct {P : Program} {fn : Func} {p t : Tmp} {ty : TypeId} (h : fn.results = #[.cell p ty, .tmp t]) (tmps : Array Value) (w : World) (g : Nat) (tt : TypeId) (cs : Array Value) (fr : Nat × Nat) (d : TypeDesc)
    (hp : tmps.getD p undef = .pointer (some ⟨g, 0, none⟩)) (hg : w.heap[g]? = some (.cells cs tt fr))
    (hu : P.underlying ty = some d) (hd : (match d with | .struct _ | .array _ _ => true | _ => false) = true) (hi : (P.info? ty).map (·.size) = some cs.size) :
    (results fn tmps).run P w = .ok (.tuple #[.agg cs, tmps.getD t undef]) w := by
  have hp' : tmps[p]?.getD undef = .pointer (some ⟨g, 0, none⟩) := by simpa using hp
  simp [results, h, hp', asAddr, run_loadVar_row w g tt ty cs fr d hg hu hd hi]
theorem spL_ne (s : ByteArray) (c : Nat) : spL s c ≠ [] := by simp [spL]
theorem spL_le (s : ByteArray) (c : Nat) : (spL s c).length ≤ s.size + 1 := by
  have := (spO_le s c s.size).2
  simp [spL]; omega
/-- Strings that lie in a block. -/
structure StrAt (w : World) (g : Nat) (l : List ByteArray) : Prop where
  lt : g < w.heap.size
  at_ : ∀ (j : Nat) x, l[j]? = some x → w.cell? ⟨g, 0 + j, none⟩ = some (.string x)
theorem strAt_below {w w1 : World} {g : Nat} {l : List ByteArray} (hb : Below w.heap.size w w1) (h : StrAt w g l) : StrAt w1 g l :=
  ⟨Nat.lt_of_lt_of_le h.lt hb.size, fun j x hx => by rw [hb.cell (p := ⟨g, 0 + j, none⟩) h.lt]; exact h.at_ j x hx⟩
theorem strAt_set {w : World} {g g5 i : Nat} {l : List ByteArray} (hne : g ≠ g5) (u : Value) (h : StrAt w g l) : StrAt (w.setCell ⟨g5, i, none⟩ u) g l :=
  ⟨by simpa using h.lt, fun j x hx => by rw [World.cell?_setCell_other _ _ _ _ (by intro e; injection e with e1; exact hne e1.symm)]; exact h.at_ j x hx⟩
theorem rowS_ge {w : World} {base : Nat} {v : Value} {l : List ByteArray} (h : RowS w base v l) (hne : l ≠ []) : ∃ g cap, v = .slice (some ⟨g, 0, none⟩) l.length cap ∧ base ≤ g := by
  obtain ⟨h1, h2⟩ := h
  rcases h2 with ⟨_, h2⟩ | ⟨g, cap, cur, hv, hg, _⟩
  · exact absurd (List.length_eq_zero_iff.1 h2) hne
  · exact ⟨g, cap, hv, hg⟩
def OKy (t : ByteArray) (y : Nat) : Prop := ∀ z, z < y → (spL (rowW t z) 32).length = 6 ∧ ∀ x, x < 6 → (numV (wordW t z x)).2 = true ∧ (numV (wordW t z x)).1 ≤ 60
def OKx (t : ByteArray) (y x : Nat) : Prop := ∀ z, z < x → (numV (wordW t y z)).2 = true ∧ (numV (wordW t y z)).1 ≤ 60
def prT (t : ByteArray) (k : Nat) : List Int := (rdL t).take k ++ List.replicate (24 - k) 0
theorem prT_len (t : ByteArray) (k : Nat) (h : k ≤ 24) : (prT t k).length = 24 := by simp [prT, rdL_length]; omega
theorem prT_full (t : ByteArray) : prT t 24 = rdL t := by unfold prT; rw [List.take_of_length_le (Nat.le_of_eq (rdL_length t))]; simp
theorem prT_zero (t : ByteArray) : prT t 0 = Z24 := by simp [prT, Z24]
theorem prT_set (t : ByteArray) (k : Nat) (h : k < 24) (x : Int) (hx : x = (rdL t).getD k 0) : (prT t k).set k x = prT t (k + 1) := by
  subst hx
  exact set_step (rdL t) k 24 (rdL_length t) h 0
end Go.Proofs.YtbcahfiknelkcaaGreatDoor
