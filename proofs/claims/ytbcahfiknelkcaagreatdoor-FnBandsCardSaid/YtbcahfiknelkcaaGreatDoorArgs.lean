/- Arguments that are arrays of integers, or structs of two or three integers: opened and shut. -/
import Derived.Test.YtbcahfiknelkcaaGreatDoorBase
import Derived.OpenShut
import Derived.Lib.SmallJoins
import Derived.ChangeShapes
namespace Go.Proofs.YtbcahfiknelkcaaGreatDoor
open Go.RowKit
section
variable {H : Type} {enc : TypeId × Value → H} {P : Program} {w : World} {base : Nat} {spare : Nat → Bool} {held : Bool}
/-- The readings of an array's cells, one number after the other. -/
theorem arr_read {k : IntKind} {e : TypeId} {m : Nat} (he : P.underlying e = some (.int k)) (cs : List Value) (xs : List (DataW H × List MemPlace)) (hl : cs.length = xs.length)
    (h : ∀ i, i < cs.length → DataW.trod enc P w base spare held m e ((cs.drop i).take 1) = xs[i]?) :
    ∃ zs : List Int, cs = zs.map (Value.int k) ∧ (∀ z ∈ zs, (Lit.int k z).wf = true) ∧ xs = zs.map (fun z => (DataW.lit (.int k z), [])) := by
  induction cs generalizing xs with
  | nil => exact ⟨[], rfl, by simp, by cases xs with | nil => rfl | cons _ _ => simp at hl⟩
  | cons c cs ih =>
    match xs, hl with
    | x :: xs, hl =>
      have h0 := h 0 (by simp)
      simp only [List.drop_zero, List.take_succ_cons, List.take_zero, List.getElem?_cons_zero] at h0
      obtain ⟨z, hc, hw, hx⟩ : ∃ z, c = .int k z ∧ (Lit.int k z).wf = true ∧ x = (DataW.lit (.int k z), []) := by
        cases m with
        | zero => simp [DataW.trod] at h0
        | succ m =>
          unfold DataW.trod at h0
          rw [he] at h0
          cases c <;> simp at h0
          obtain ⟨⟨rfl, h1⟩, h2⟩ := h0
          exact ⟨_, rfl, h1, h2.symm⟩
      obtain ⟨zs, h1, h2, h3⟩ := ih xs (by simpa using hl) (fun i hi => by
        have := h (i + 1) (by simp; omega)
        simpa using this)
      exact ⟨z :: zs, by simp [hc, h1], by intro y hy; rcases List.mem_cons.1 hy with rfl | hy; exact hw; exact h2 y hy, by simp [hx, h3]⟩
theorem open_arr {r : Reach} {b0 : Nat} {t e : TypeId} {k : IntKind} {n : Nat} {v : Value} {d : DataW H} {ps : List MemPlace} (ht : P.underlying t = some (.array n e)) (he : P.underlying e = some (.int k))
    (hC : P.cellsOf t = n) (hE : P.cellsOf e = 1) (hv : Value.okWide P w r b0 t v) (h : DataW.Trod enc P w base spare held t v d ps) :
    ∃ xs : List Int, v = .agg (arr k xs) ∧ xs.length = n ∧ (∀ z ∈ xs, (Lit.int k z).wf = true) ∧ d = .agg (xs.map fun z => .lit (.int k z)) ∧ ps = [] := by
  obtain ⟨cs, rfl⟩ : ∃ cs, v = .agg cs := by
    simp only [Value.okWide, ht] at hv
    obtain ⟨cs, h1, _⟩ := hv
    exact ⟨cs, h1⟩
  obtain ⟨fuel, hf⟩ := h
  obtain ⟨xs, m, _, hx, hl, hn, hg⟩ := DataW.trod_array ht hf
  simp only [Value.cells, hC] at hl
  rw [hE] at hg
  obtain ⟨zs, h1, h2, h3⟩ := arr_read (enc := enc) (w := w) (base := base) (spare := spare) (held := held) he cs.toList xs (by rw [hl, hn]) (fun i hi => by
    have := hg i (by omega)
    simpa [Value.cells] using this)
  simp only [Prod.mk.injEq] at hx
  refine ⟨zs, ?_, ?_, h2, ?_, ?_⟩
  · simp [arr, ← h1]
  · have := congrArg List.length h1; simp at this; rw [← this]; simpa using hl
  · rw [hx.1, h3]; simp
  · rw [hx.2, h3]; simp
theorem mapM_some_of {α β : Type} (f : α → Option β) (g : α → β) (l : List α) (h : ∀ a ∈ l, f a = some (g a)) : l.mapM f = some (l.map g) := by
  induction l with
  | nil => rfl
  | cons a l ih => simp [List.mapM_cons, h a (by simp), ih (fun b hb => h b (by simp [hb]))]
theorem shut_arr {t e : TypeId} {k : IntKind} {n : Nat} {xs : List Int} (ht : P.underlying t = some (.array n e)) (he : P.underlying e = some (.int k))
    (hC : P.cellsOf t = n) (hE : P.cellsOf e = 1) (hl : xs.length = n) (hw : ∀ z ∈ xs, (Lit.int k z).wf = true) :
    DataW.Trod enc P w base spare held t (.agg (arr k xs)) (.agg (xs.map fun z => .lit (.int k z))) [] := by
  refine ⟨2, ?_⟩
  unfold DataW.trod
  rw [ht]
  have hc : (Value.agg (arr k xs)).cells.toList = xs.map (Value.int k) := by simp [Value.cells, arr]
  simp only [hc]
  rw [if_pos (by simp [hC, hl])]
  rw [mapM_some_of _ (fun i => (DataW.lit (.int k (xs.getD i 0)), [])) _ (fun i hi => ?_)]
  · have e1 : (List.range n).map (fun i => xs.getD i 0) = xs := by
      apply List.ext_getElem?
      intro i
      by_cases hi : i < n
      · simp [hi, hl, List.getD_eq_getElem?_getD]
      · simp [hi, hl]
    conv => rhs; rw [← e1]
    simp
  · have hi' : i < xs.length := by rw [hl]; simpa using hi
    rw [hE, Nat.mul_one]
    have e2 : ((xs.map (Value.int k)).drop i).take 1 = [.int k (xs.getD i 0)] := by
      rw [List.drop_eq_getElem_cons (by simpa using hi')]
      simp [List.getD_eq_getElem?_getD, hi']
    rw [e2]
    have hz := hw (xs.getD i 0) (by simp [List.getD_eq_getElem?_getD, hi'])
    simp only [DataW.trod, he]
    rw [if_pos ⟨trivial, hz⟩]
theorem read_int {t : TypeId} {k : IntKind} {v : Value} {y : DataW H × List MemPlace} {n : Nat} (ht : P.underlying t = some (.int k)) (h : DataW.trod enc P w base spare held n t [v] = some y) :
    ∃ z, v = .int k z ∧ y = (.lit (.int k z), []) ∧ (Lit.int k z).wf = true := by
  cases n with
  | zero => simp [DataW.trod] at h
  | succ m =>
    unfold DataW.trod at h
    rw [ht] at h
    cases v <;> simp at h
    obtain ⟨⟨rfl, h1⟩, h2⟩ := h
    exact ⟨_, rfl, h2.symm, h1⟩
theorem rangei8_of {xs : List Int} (h : ∀ z ∈ xs, (Lit.int .i8 z).wf = true) : I8 xs := fun j => by
  simpa [List.getD_eq_getElem?_getD] using range_i8 h j
theorem rangei16_of {xs : List Int} (h : ∀ z ∈ xs, (Lit.int .i16 z).wf = true) : I16 xs := fun j => by
  simpa [List.getD_eq_getElem?_getD] using range_i16 h j
end
end Go.Proofs.YtbcahfiknelkcaaGreatDoor
