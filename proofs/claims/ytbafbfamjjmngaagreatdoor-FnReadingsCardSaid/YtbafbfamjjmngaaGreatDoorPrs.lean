/- Lists of prints: blocks of 64 numbers an element: plain facts. -/
import Derived.Test.YtbafbfamjjmngaaGreatDoorBase
import Derived.Test.YtbafbfamjjmngaaGreatDoorStoreArr
import Derived.Deep.MidRow
import Derived.Laws.CopyRow
import Derived.Laws.StructEq
import Derived.Laws.MakeOwn
import Derived.StillTailTactics
namespace Go.Proofs.YtbafbfamjjmngaaGreatDoor
open Go.RowKit
def cellsP (p : List Int) : List Value := p.map (Value.int .i16)
theorem cellsP_length (p : List Int) : (cellsP p).length = p.length := by simp [cellsP]
theorem cellsP_arr (p : List Int) : (cellsP p).toArray = arr .i16 p := rfl
theorem cellsP_one (p : List Int) : ∀ v ∈ cellsP p, v.oneCell' = true := by
  intro v hv; obtain ⟨z, _, rfl⟩ := List.mem_map.1 hv; rfl
theorem cellsP_get (p : List Int) (j : Nat) (h : j < p.length) : (cellsP p)[j]? = some (.int .i16 (p.getD j 0)) := by
  simp [cellsP, List.getElem?_map, List.getElem?_eq_getElem h, List.getD_eq_getElem?_getD]
def Pr (p : List Int) : Prop := p.length = 64 ∧ I16 p
def Prs (l : List (List Int)) : Prop := ∀ i, i < l.length → Pr (l.getD i [])
def flatP (l : List (List Int)) : List Value := (l.map cellsP).flatten
def PrAt (w : World) (b o : Nat) (l : List (List Int)) : Prop := ∀ i, i < l.length → w.rangeAt b (o + i * 64) (cellsP (l.getD i []))
theorem rangeAt_below {w w1 : World} {B b o : Nat} {cs : List Value} (hb : Below B w w1) (h : b < B) (hr : w.rangeAt b o cs) : w1.rangeAt b o cs := fun j v hv => by
  rw [hb.cell (p := ⟨b, o + j, none⟩) h]; exact hr j v hv
theorem PrAt_below {w w1 : World} {B b o : Nat} {l : List (List Int)} (hb : Below B w w1) (h : b < B) (hr : PrAt w b o l) : PrAt w1 b o l :=
  fun i hi => rangeAt_below hb h (hr i hi)
theorem Prs_tail {p : List Int} {l : List (List Int)} (h : Prs (p :: l)) : Prs l := fun i hi => by
  have := h (i + 1) (by simp; omega)
  simpa using this
theorem Prs_head {p : List Int} {l : List (List Int)} (h : Prs (p :: l)) : Pr p := by
  have := h 0 (by simp)
  simpa using this
theorem flatP_length : ∀ (l : List (List Int)), Prs l → (flatP l).length = l.length * 64
  | [], _ => rfl
  | p :: l, h => by
    have h1 := flatP_length l (Prs_tail h)
    have h2 := (Prs_head h).1
    simp only [flatP, List.map_cons, List.flatten_cons, List.length_append, cellsP_length, List.length_cons] at h1 ⊢
    omega
theorem flatP_cons (p : List Int) (l : List (List Int)) : flatP (p :: l) = cellsP p ++ flatP l := rfl
theorem flatP_append (l m : List (List Int)) : flatP (l ++ m) = flatP l ++ flatP m := by simp [flatP]
theorem flatP_get : ∀ (l : List (List Int)), Prs l → ∀ i j, i < l.length → j < 64 → (flatP l)[i * 64 + j]? = some (.int .i16 ((l.getD i []).getD j 0))
  | [], _, i, j, hi, _ => absurd hi (by simp)
  | p :: l, h, 0, j, _, hj => by
    have h2 := (Prs_head h).1
    rw [flatP_cons, List.getElem?_append_left (by rw [cellsP_length]; omega), show 0 * 64 + j = j by omega, cellsP_get _ _ (by omega)]
    simp
  | p :: l, h, i + 1, j, hi, hj => by
    have h2 := (Prs_head h).1
    rw [flatP_cons, List.getElem?_append_right (by rw [cellsP_length]; omega), cellsP_length, show (i + 1) * 64 + j - p.length = i * 64 + j by omega, flatP_get l (Prs_tail h) i j (by simpa using hi) hj]
    simp
theorem PrAt_block {w : World} {b : Nat} {l : List (List Int)} {t : TypeId} {fr : Nat × Nat} (h : w.heap[b]? = some (.cells (flatP l).toArray t fr)) (hl : Prs l) : PrAt w b 0 l := fun i hi j v hv => by
  have hj : j < (cellsP (l.getD i [])).length := (List.getElem?_eq_some_iff.1 hv).1
  rw [cellsP_length, (hl i hi).1] at hj
  rw [cellsP_get _ _ (by rw [(hl i hi).1]; exact hj)] at hv
  rw [cell_of_row w b _ _ t fr h, show 0 + i * 64 + j = i * 64 + j by omega, List.getElem?_toArray, flatP_get l hl i j hi hj]
  exact hv
theorem PrAt_cell {w : World} {b o : Nat} {l : List (List Int)} (h : PrAt w b o l) (hl : Prs l) (i j : Nat) (hi : i < l.length) (hj : j < 64) : w.cell? ⟨b, o + i * 64 + j, none⟩ = some (.int .i16 ((l.getD i []).getD j 0)) :=
  h i hi j _ (cellsP_get _ _ (by rw [(hl i hi).1]; exact hj))
theorem Prs_take {l : List (List Int)} (h : Prs l) (k : Nat) : Prs (l.take k) := fun i hi => by
  have h1 : i < k ∧ i < l.length := by simp at hi; omega
  have e : (l.take k).getD i [] = l.getD i [] := by
    simp [List.getD_eq_getElem?_getD, h1.1]
  rw [e]; exact h i h1.2
theorem takeP_snoc (l : List (List Int)) (k : Nat) (h : k < l.length) : l.take (k + 1) = l.take k ++ [l.getD k []] := by
  rw [List.take_succ_eq_append_getElem h]; simp [List.getD_eq_getElem?_getD, h]
def ZP (n : Nat) : Array Value := (List.replicate (n * 64) (Value.int .i16 0)).toArray
/-- The first k rows written. -/
def partP (l : List (List Int)) (k : Nat) : Array Value := (flatP (l.take k) ++ List.replicate ((l.length - k) * 64) (Value.int .i16 0)).toArray
theorem partP_zero (l : List (List Int)) : partP l 0 = ZP l.length := by simp [partP, ZP, flatP]
theorem partP_full (l : List (List Int)) : partP l l.length = (flatP l).toArray := by simp [partP]
theorem partP_size (l : List (List Int)) (hl : Prs l) (k : Nat) (hk : k ≤ l.length) : (partP l k).size = l.length * 64 := by
  have := flatP_length _ (Prs_take hl k)
  simp only [partP, List.size_toArray, List.length_append, this, List.length_replicate, List.length_take]
  omega
theorem setCells_mid : ∀ (vs : List Value) (w : World) (g o : Nat) (cur : Array Value) (t : TypeId), w.heap[g]? = some (.cells cur t (0, 0)) → o + vs.length ≤ cur.size →
    (w.setCells g o vs).heap[g]? = some (.cells (cur.toList.take o ++ vs ++ cur.toList.drop (o + vs.length)).toArray t (0, 0))
  | [], w, g, o, cur, t, h, _ => by simpa [World.setCells] using h
  | v :: r, w, g, o, cur, t, h, hl => by
    have h1 := setCells_mid r (w.setCell ⟨g, o, none⟩ v) g (o + 1) (cur.setIfInBounds o v) t (heap_setCell_same w g o cur t v h) (by simp at hl ⊢; omega)
    simp only [World.setCells]
    rw [h1]
    congr 3
    have e := list_seg_step cur.toList o v r (by simp at hl ⊢; omega)
    simpa [Array.toList_setIfInBounds, Nat.add_assoc] using e
theorem setCells_other {g k : Nat} (h : k ≠ g) : ∀ (vs : List Value) (w : World) (o : Nat), (w.setCells g o vs).heap[k]? = w.heap[k]?
  | [], _, _ => rfl
  | v :: r, w, o => by
    simp only [World.setCells]
    rw [setCells_other h r _ (o + 1), heap_setCell_other w _ k v h]
theorem partP_step {w : World} {g : Nat} {l : List (List Int)} {k : Nat} {t : TypeId} (hl : Prs l) (hk : k < l.length) (h : w.heap[g]? = some (.cells (partP l k) t (0, 0))) :
    (w.setCells g (k * 64) (cellsP (l.getD k []))).heap[g]? = some (.cells (partP l (k + 1)) t (0, 0)) := by
  have h64 : (cellsP (l.getD k [])).length = 64 := by rw [cellsP_length, (hl k hk).1]
  have hf : (flatP (l.take k)).length = k * 64 := by
    rw [flatP_length _ (Prs_take hl k), List.length_take, Nat.min_eq_left (by omega)]
  rw [setCells_mid _ _ _ _ _ _ h (by rw [partP_size l hl k (by omega), h64]; omega), h64]
  congr 3
  simp only [partP]
  rw [List.take_left' hf, show k * 64 + 64 = (flatP (l.take k)).length + 64 by omega, ← List.drop_drop, List.drop_left, takeP_snoc l k hk, flatP_append, List.drop_replicate]
  simp only [List.append_assoc]
  congr 2
  · simp [flatP]
  · congr 1; omega
theorem there_part {w : World} {g : Nat} {cs : Array Value} {t : TypeId} (h : w.heap[g]? = some (.cells cs t (0, 0))) (o n : Nat) (hn : o + n ≤ cs.size) : w.there g o n := fun j hj => by
  refine ⟨?_, frozen_of_row _ _ _ _ _ h⟩
  rw [cell_of_row _ _ _ _ _ _ h]
  simp; omega
theorem all_range_arr (xs ys : List Int) (n : Nat) (hx : xs.length = n) (hy : ys.length = n) : ((List.range n).all fun i => xs.getD i 0 == ys.getD i 0) = decide (xs = ys) := by
  rw [Bool.eq_iff_iff, decide_eq_true_iff, List.all_eq_true]
  constructor
  · intro h
    apply List.ext_getElem (by omega)
    intro i h1 h2
    have := h i (by simp; omega)
    simpa [List.getD_eq_getElem?_getD, h1, h2] using this
  · rintro rfl i _; simp
/-- Two arrays of whole numbers are held against each other. -/
theorem run_equalIn_arr {P : Program} (d : Nat) (t e : TypeId) (n : Nat) (k : IntKind) (xs ys : List Int) (hu : P.underlying t = some (.array n e)) (he : P.underlying e = some (.int k)) (hs : (P.info? e).map (·.size) = some 1)
    (hx : xs.length = n) (hy : ys.length = n) (w : World) : (Op.equalIn (d + 2) t (.agg (arr k xs)) (.agg (arr k ys))).run P w = .ok (decide (xs = ys)) w := by
  have hsz : ∀ w, (sizeOf e).run P w = .ok 1 w := fun w => by
    cases hq : P.info? e with
    | none => simp [hq] at hs
    | some j => simp [hq] at hs; simp [sizeOf, typeInfo, hq, hs]
  have hagg : ∀ w, (isAgg e).run P w = .ok false w := fun w => by
    unfold isAgg
    rw [Sem.run_bind, run_underlying he w]; rfl
  rw [← all_range_arr xs ys n hx hy, List.range_eq_range', Op.equalIn]
  simp only [Sem.run_bind, run_underlying hu, Result.andThen_ok, hsz, Std.Legacy.Range.forIn_eq_forIn_range', Std.Legacy.Range.size, Nat.sub_zero, Nat.add_sub_cancel, Nat.div_one]
  have hl : ∀ i ∈ List.range' 0 n 1, i < n := fun i hi => by simpa using (List.mem_range'_1.1 hi).2
  generalize List.range' 0 n 1 = l at hl ⊢
  induction l with
  | nil => simp
  | cons i l ih =>
    have hi : i < n := hl i (by simp)
    have px : (part e (arr k xs) (i * 1)).run P w = .ok (.int k (xs.getD i 0)) w := by
      simp only [part, Sem.run_bind, hagg, Result.andThen_ok, Nat.mul_one]
      rw [arr_get k xs i (by omega)]; rfl
    have py : (part e (arr k ys) (i * 1)).run P w = .ok (.int k (ys.getD i 0)) w := by
      simp only [part, Sem.run_bind, hagg, Result.andThen_ok, Nat.mul_one]
      rw [arr_get k ys i (by omega)]; rfl
    have pe : (Op.equalIn (d + 1) e (.int k (xs.getD i 0)) (.int k (ys.getD i 0))).run P w = .ok (xs.getD i 0 == ys.getD i 0) w := run_equalIn_int w d e k k _ _ he
    simp only [List.forIn_cons, Sem.run_bind, px, py, pe, Result.andThen_ok, List.all_cons]
    cases hb : (xs.getD i 0 == ys.getD i 0)
    · simp
    · simp only [Bool.not_true, Bool.false_eq_true, if_false, Sem.run_pure, Result.andThen_ok, Bool.true_and]
      exact ih fun j hj => hl j (by simp [hj])
theorem run_neq_arr {P : Program} (t e : TypeId) (n : Nat) (k : IntKind) (xs ys : List Int) (hu : P.underlying t = some (.array n e)) (he : P.underlying e = some (.int k)) (hs : (P.info? e).map (·.size) = some 1)
    (hx : xs.length = n) (hy : ys.length = n) (w : World) : (binOp .neq t (.agg (arr k xs)) (.agg (arr k ys))).run P w = .ok (.bool (!decide (xs = ys))) w := by
  rw [run_neq_struct, run_equalIn_arr 9998 t e n k xs ys hu he hs hx hy]
  rfl
/-- A load in a region that draws its order, told by its run. -/
theorem wpStill_load {P : Program} {ops : Array Oper} {w : World} {Q : Act → Prop} {a : Act} {o : Oper} {rest : List Oper} (hg : o.guard = none) (ty : TypeId) (x : Operand) (ho : o.op = .load ty x) (v u : Value) (hx : a.eval x = u)
    (hl : (Instr.loadAt ty u).run P w = .ok v w) (h : wpStill P ops w Q rest (a.put o.dst v)) : wpStill P ops w Q (o :: rest) a := by
  refine wpStill_step (fun K hK => ?_)
  rw [if_pos (by simp [Region.wanted, hg])]
  unfold Oper.still execOp
  simp only [ho, hx, Sem.run_bind, hl, Result.andThen_ok, Sem.run_pure]
  exact ⟨rfl, hK _ h⟩
theorem wpQuiet_load {P : Program} {ops : Array Oper} {C : World → Prop} {Q : Act → Prop} {a : Act} {o : Oper} {rest : List Oper} (hg : o.guard = none) (ty : TypeId) (x : Operand) (ho : o.op = .load ty x) (v u : Value) (hx : a.eval x = u)
    (hl : ∀ w, C w → (Instr.loadAt ty u).run P w = .ok v w) (h : wpQuiet P ops C Q rest (a.put o.dst v)) : wpQuiet P ops C Q (o :: rest) a := by
  refine wpQuiet_step (fun K hK => ?_)
  rw [if_pos (by simp [Region.wanted, hg])]
  refine ⟨v, fun w hw => ?_, hK _ h⟩
  unfold Oper.quietAt execOp
  simp only [ho, hx, Sem.run_bind, hl w hw, Result.andThen_ok, Sem.run_pure]
  exact ⟨rfl, rfl⟩
/-- Where a list of prints lies: a slice without an element may point anywhere. -/
def PS (w : World) (p : Option Addr) (l : List (List Int)) : Prop := l ≠ [] → ∃ b o, p = some ⟨b, o, none⟩ ∧ b < w.heap.size ∧ PrAt w b o l
theorem PS_below {w w1 : World} {p : Option Addr} {l : List (List Int)} (hb : Below w.heap.size w w1) (h : PS w p l) : PS w1 p l := fun hl => by
  obtain ⟨b, o, h1, h2, h3⟩ := h hl
  exact ⟨b, o, h1, Nat.lt_of_lt_of_le h2 hb.size, PrAt_below hb h2 h3⟩
theorem PS_block {w : World} {b : Nat} {l : List (List Int)} {t : TypeId} {fr : Nat × Nat} (h : w.heap[b]? = some (.cells (flatP l).toArray t fr)) (hl : Prs l) : PS w (some ⟨b, 0, none⟩) l :=
  fun _ => ⟨b, 0, rfl, (Array.getElem?_eq_some_iff.1 h).1, PrAt_block h hl⟩
theorem ne_of_lt {l : List (List Int)} {k : Nat} (h : k < l.length) : l ≠ [] := by rintro rfl; simp at h
end Go.Proofs.YtbafbfamjjmngaaGreatDoor
