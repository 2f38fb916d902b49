/- The text of a scene: the program's. -/
import Derived.Test.YtbcahfiknelkcaaGreatDoorSceneT
import Derived.Lib.Join
namespace Go.Proofs.YtbcahfiknelkcaaGreatDoor
open Go.RowKit
def RowS (w : World) (base : Nat) (v : Value) (l : List ByteArray) : Prop := w.ownsRow base 9 1 v l.length (l.map Value.string)
theorem rowS_new (w : World) (base : Nat) (hb : base ≤ w.heap.size) : RowS (w.alloc (.cells #[] 9)) base (.slice (some ⟨w.heap.size, 0, none⟩) 0 0) [] :=
  ⟨rfl, .inr ⟨w.heap.size, 0, #[], rfl, hb, heap_alloc_new w _, Nat.le_refl _, by unfold maxLen; omega, rfl, rfl⟩⟩
theorem rowS_below {w w1 : World} {base B : Nat} {v : Value} {l : List ByteArray} (h : RowS w base v l) (hB : w.heap.size ≤ B) (hb : Below B w w1) : RowS w1 base v l := by
  obtain ⟨h1, h2⟩ := h
  refine ⟨h1, ?_⟩
  rcases h2 with h2 | ⟨g, cap, cur, hv, hg, hh, r⟩
  · exact Or.inl h2
  · exact Or.inr ⟨g, cap, cur, hv, hg, heap_below hb (Nat.lt_of_lt_of_le (lt_of_heap hh) hB) hh, r⟩
theorem rowS_shape {w : World} {base : Nat} {v : Value} {l : List ByteArray} (h : RowS w base v l) (hne : l ≠ []) :
    ∃ g cap, v = .slice (some ⟨g, 0, none⟩) l.length cap ∧ g < w.heap.size ∧ l.length ≤ cap ∧ ∀ (j : Nat) x, l[j]? = some x → w.cell? ⟨g, 0 + j, none⟩ = some (.string x) := by
  obtain ⟨h1, h2⟩ := h
  rcases h2 with ⟨_, h2⟩ | ⟨g, cap, cur, hv, hg, hh, hc, hm, hs, ht⟩
  · exact absurd (List.length_eq_zero_iff.1 h2) hne
  · refine ⟨g, cap, hv, lt_of_heap hh, hc, fun i x hx => ?_⟩
    have hi : i < l.length := (List.getElem?_eq_some_iff.1 hx).1
    rw [Nat.zero_add, cell_of_row w g i cur 9 _ hh]
    have h3 : (cur.toList.take (l.length * 1))[i]? = some (.string x) := by
      rw [ht, List.getElem?_map, hx]; rfl
    rw [List.getElem?_take, if_pos (by omega)] at h3
    simpa using h3
theorem infoStr : (Tryz.prog.info? 9).map (fun i => (i.zero, i.size, i.bytes)) = some (some (.string ⟨#[]⟩), 1, 16) := by kernel_rfl
/-- One string appended. -/
theorem wpList_appS {w : World} {ops : Array Oper} {rest : List Oper} {o : Oper} {a : Act} {Q : Exit → Act → World → Prop} (hgd : o.guard = none) (s x : Operand) (t : TypeId)
    (ho : o.op = .call { callee := .builtin .append, args := #[s, x], argTypes := #[t, t] })
    (base : Nat) (ht : Tryz.prog.underlying t = some (.slice 9))
    (v : Value) (l : List ByteArray) (hs : a.eval s = v) (hown : RowS w base v l) (g : Nat) (c : Nat) (z : ByteArray) (hx : a.eval x = .slice (some ⟨g, 0, none⟩) 1 c) (hg : w.cell? ⟨g, 0, none⟩ = some (.string z))
    (hlen : l.length ≤ 8000000000000) (hbase : base ≤ w.heap.size)
    (h : ∀ v' w', RowS w' base v' (l ++ [z]) → w.grownBy w' v.ownBlock → (∀ j, v.ownBlock = some j → base ≤ j) → wpList Tryz.prog ops Q rest (a.put o.dst v') w') : wpList Tryz.prog ops Q (o :: rest) a w := by
  obtain ⟨i, hi, hz0, hz1, hz2⟩ := info_parts infoStr
  have hbk : ∀ j, v.ownBlock = some j → base ≤ j := by
    intro j hj
    obtain ⟨_, h2⟩ := hown
    rcases h2 with ⟨h2, _⟩ | ⟨g', cap, cur, hv, hg', _⟩
    · rw [h2] at hj; cases hj
    · rw [hv] at hj; simp [Value.ownBlock] at hj; omega
  refine wpList_append_own w hgd s x t ho base 9 i (.string ⟨#[]⟩) 1 16 ht hi hz0 hz1 hz2 rfl (by decide) v l.length (l.map Value.string) hs hown ⟨g, 0, none⟩ 1 c [.string z] hx rfl (fun j u hj => ?_) (fun u hu => ?_) (by unfold maxLen; omega) (by omega) hbase
    (fun v' w' h2 h3 _ => h v' w' ?_ h3 hbk)
  · match j, hj with
    | 0, hj => simp at hj; subst hj; simpa [Addr.add] using hg
  · simp at hu; subst hu; rfl
  · unfold RowS
    simpa using h2
def joinB (l : List ByteArray) (sep : List UInt8) : ByteArray := ⟨(Lib.join (l.map (·.data.toList)) sep).toArray⟩
def wordsL (xs : List Int) (y j : Nat) : List ByteArray := (List.range j).map fun i => dgI (xs.getD (6 * y + i) 0)
def rowsL (xs : List Int) (y : Nat) : List ByteArray := (List.range y).map fun i => joinB (wordsL xs i 6) [32]
theorem wordsL_succ (xs : List Int) (y j : Nat) : wordsL xs y (j + 1) = wordsL xs y j ++ [dgI (xs.getD (6 * y + j) 0)] := by simp [wordsL, List.range_succ]
theorem rowsL_succ (xs : List Int) (y : Nat) : rowsL xs (y + 1) = rowsL xs y ++ [joinB (wordsL xs y 6) [32]] := by simp [rowsL, List.range_succ]
theorem wordsL_len (xs : List Int) (y j : Nat) : (wordsL xs y j).length = j := by simp [wordsL]
theorem rowsL_len (xs : List Int) (y : Nat) : (rowsL xs y).length = y := by simp [rowsL]
theorem joinTail_len (sep : List UInt8) (m : Nat) : ∀ r : List (List UInt8), (∀ x, x ∈ r → x.length ≤ m) → (Lib.joinTail sep r).length ≤ r.length * (m + sep.length)
  | [], _ => by simp [Lib.joinTail]
  | x :: r, h => by
    have ih := joinTail_len sep m r (fun y hy => h y (List.mem_cons_of_mem _ hy))
    have hx := h x List.mem_cons_self
    have e : Lib.joinTail sep (x :: r) = (sep ++ x) ++ Lib.joinTail sep r := rfl
    rw [e, List.length_append, List.length_append, List.length_cons, Nat.succ_mul]
    omega
theorem join_len (sep : List UInt8) (m : Nat) (ls : List (List UInt8)) (h : ∀ x, x ∈ ls → x.length ≤ m) : (Lib.join ls sep).length ≤ ls.length * (m + sep.length) := by
  cases ls with
  | nil => simp [Lib.join_nil]
  | cons x r =>
    have hx := h x List.mem_cons_self
    have ht := joinTail_len sep m r (fun y hy => h y (List.mem_cons_of_mem _ hy))
    rw [Lib.join_cons, List.length_append, List.length_cons, Nat.succ_mul]
    omega
theorem words_bd (xs : List Int) (h : ∀ k, 0 ≤ xs.getD k 0 ∧ xs.getD k 0 ≤ 60) (y j : Nat) : ∀ x, x ∈ (wordsL xs y j).map (·.data.toList) → x.length ≤ 2 := fun x hx => by
  simp only [wordsL, List.map_map, List.mem_map] at hx
  obtain ⟨i, _, rfl⟩ := hx
  have := dgS_size (n := (xs.getD (6 * y + i) 0).toNat) (by have := h (6 * y + i); omega)
  exact this
theorem rows_bd (xs : List Int) (h : ∀ k, 0 ≤ xs.getD k 0 ∧ xs.getD k 0 ≤ 60) (y : Nat) : ∀ x, x ∈ (rowsL xs y).map (·.data.toList) → x.length ≤ 18 := fun x hx => by
  simp only [rowsL, List.map_map, List.mem_map] at hx
  obtain ⟨i, _, rfl⟩ := hx
  have := join_len [32] 2 ((wordsL xs i 6).map (·.data.toList)) (words_bd xs h i 6)
  rw [List.length_map, wordsL_len] at this
  exact this
/-- Both texts are one. -/
theorem text_eq (xs : List Int) : joinB (rowsL xs 4) [47] = scT xs 24 := by
  apply ByteArray.ext
  apply Array.toList_inj.1
  simp [joinB, rowsL, wordsL, List.range_succ, Lib.join_cons, Lib.joinTail, scT, sepB, ByteArray.data_append, List.append_assoc]
theorem lenScene : Tryz.prog.arrayLen 49 = 24 := by kernel_rfl
theorem elemScene : Tryz.prog.elem 49 = 24 := by kernel_rfl
theorem slice6 (g y : Nat) (hy : y < 4) (w : World) : (Instr.sliceAt 49 (.pointer (some ⟨g, 0, none⟩)) (some (.int .i64 (6 * (y : Int)))) (some (.int .i64 (6 * ((y : Int) + 1)))) none).run Tryz.prog w = .ok (.slice (some ⟨g, 6 * y, none⟩) 6 (24 - 6 * y)) w := by
  have ht : Tryz.prog.underlying 49 = some (.array (Tryz.prog.arrayLen 49) (Tryz.prog.elem 49)) := by kernel_rfl
  have hl : (6 * (y : Int)).toNat = 6 * y := by omega
  have hh : (6 * ((y : Int) + 1)).toNat = 6 * y + 6 := by omega
  rw [run_sliceAt_array_lh w 49 ⟨g, 0, none⟩ ht .i64 .i64 _ _ (by omega) (by omega) (by rw [lenScene]; omega), elemScene, Tryz.sizeOf24, Result.andThen_ok, lenScene, hl, hh]
  unfold slicedAt
  rw [if_neg (by omega), show 6 * y + 6 - 6 * y = 6 by omega]
  simp [Addr.add]; omega
end Go.Proofs.YtbcahfiknelkcaaGreatDoor
