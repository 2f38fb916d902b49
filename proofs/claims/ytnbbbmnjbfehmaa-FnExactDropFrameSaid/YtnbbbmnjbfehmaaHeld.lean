/- What lies in some blocks, kept behind calls. -/
import Derived.Test.YtnbbbmnjbfehmaaPickS
import Derived.Test.YtnbbbmnjbfehmaaMarkQ
namespace Go.Proofs.Ytnbbbmnjbfehmaa
open Go.RowKit Go.Lib
def Held (w : World) (K : List (Nat × Obj)) : Prop := ∀ x ∈ K, w.heap[x.1]? = some x.2
theorem held_nil (w : World) : Held w [] := fun _ h => by simp at h
theorem held_cons {w : World} {g : Nat} {o : Obj} {K : List (Nat × Obj)} (h : w.heap[g]? = some o) (k : Held w K) : Held w ((g, o) :: K) := fun x hx => by
  rcases List.mem_cons.1 hx with rfl | hx
  · exact h
  · exact k x hx
theorem held_below {w w1 : World} {K : List (Nat × Obj)} (hb : Below w.heap.size w w1) (k : Held w K) : Held w1 K := fun x hx => heap_below hb (lt_of_heap (k x hx)) (k x hx)
theorem held_tail {w : World} {x : Nat × Obj} {K : List (Nat × Obj)} (k : Held w (x :: K)) : Held w K := fun y hy => k y (List.mem_cons_of_mem _ hy)
theorem held_head {w : World} {g : Nat} {o : Obj} {K : List (Nat × Obj)} (k : Held w ((g, o) :: K)) : w.heap[g]? = some o := k (g, o) (by simp)
theorem held_bfq {g : Nat} {w w1 : World} {K : List (Nat × Obj)} (hb : BFq g w w1) (k : Held w K) (hne : ∀ x ∈ K, x.1 ≠ g) : Held w1 K := fun x hx => by
  rw [hb.2 x.1 (lt_of_heap (k x hx)) (hne x hx)]; exact k x hx
theorem rowP_bfq {w w1 : World} {base g : Nat} {v : Value} {l : List (List Int)} (h : RowP w base v l) (hb : BFq g w w1) (hne : v.ownBlock ≠ some g) : RowP w1 base v l := by
  obtain ⟨h1, h2⟩ := h
  refine ⟨h1, ?_⟩
  rcases h2 with h2 | ⟨b, cap, cur, hv, hbb, hh, r⟩
  · exact Or.inl h2
  · refine Or.inr ⟨b, cap, cur, hv, hbb, ?_, r⟩
    rw [hb.2 b (lt_of_heap hh) (by rintro rfl; rw [hv] at hne; exact hne rfl)]; exact hh
theorem bfq_trans {g : Nat} {w w1 w2 : World} (h : BFq g w w1) (hs : w.heap.size ≤ w1.heap.size) (k : Below w1.heap.size w1 w2) (hg : g ≤ w1.heap.size) : BFq g w w2 :=
  ⟨h.1.trans (k.mono hg), fun b hb hne => by rw [k.block b (Nat.lt_of_lt_of_le hb hs)]; exact h.2 b hb hne⟩
theorem rowP_ps {w : World} {base n c : Nat} {p : Option Addr} {l : List (List Int)} (h : RowP w base (.slice p n c) l) (hl : Prs l) : PS w p l := by
  obtain ⟨p', c', hv, hps⟩ := rowP_PS h hl
  simp only [Value.slice.injEq] at hv
  rw [hv.1]; exact hps
theorem rowP_n {w : World} {base n c : Nat} {p : Option Addr} {l : List (List Int)} (h : RowP w base (.slice p n c) l) : n = l.length := by
  obtain ⟨p', c', hv⟩ := rowP_any h
  simp only [Value.slice.injEq] at hv
  exact hv.2.1
/-- The block that a list of one's own lies in, as the marks want it. -/
theorem rowP_mkd {w : World} {base n c : Nat} {p : Option Addr} {l : List (List Int)} (h : RowP w base (.slice p n c) l) (_ : Prs l) (hb : base ≤ w.heap.size) (k0 : Int) :
    ∃ g s, (g = w.heap.size ∨ (Value.slice p n c).ownBlock = some g) ∧ base ≤ g ∧ g ≤ w.heap.size ∧ n * 64 ≤ s ∧ (0 < n → p = some ⟨g, 0, none⟩) ∧ (0 < n → Mkd w g 45 s k0 0) := by
  obtain ⟨_, h2⟩ := h
  rcases h2 with ⟨hv, h0⟩ | ⟨g, cap, cur, hv, hg, hh, hc, hm, hs, ht⟩
  · simp only [Value.slice.injEq] at hv
    exact ⟨w.heap.size, n * 64, Or.inl rfl, hb, Nat.le_refl _, Nat.le_refl _, fun h => absurd h (by omega), fun h => absurd h (by omega)⟩
  · simp only [Value.slice.injEq] at hv
    refine ⟨g, cur.size, Or.inr (by rw [hv.1]; rfl), hg, Nat.le_of_lt (lt_of_heap hh), by rw [hs, hv.2.1]; exact Nat.mul_le_mul_right _ hc, fun _ => hv.1, fun _ => mkd_start hh k0⟩
theorem pkV_Prs {a : Int} {l : List (List Int)} {fs : List Int} (hl : Prs l) : Prs (pkV a l fs).1.2 ∧ (pkV a l fs).1.2.length ≤ 12 := by
  unfold pkV
  split
  · rename_i h
    split
    · rename_i h12
      exact ⟨pick_Prs hl (fun j hj => okI_get (scV_zeroI h).2 j hj), by rw [pickL_len]; exact h12⟩
    · exact ⟨fun i hi => by simp at hi, by simp⟩
  · exact ⟨fun i hi => by simp at hi, by simp⟩
end Go.Proofs.Ytnbbbmnjbfehmaa
