/- Two equal arrays of 64 numbers are compared. -/
import Derived.Test.YtdmlefccajaniaaDoorPrs
import Derived.ChangeKeysEq
import Derived.Laws.StructEq
import Derived.BigFrame
namespace Go.Proofs.YtdmlefccajaniaaDoor
open Go.RowKit
theorem plainI16 : Tryd.prog.plainKey 35 = true := by kernel_rfl
set_option maxRecDepth 100000 in
theorem infoI16 : ∃ i, Tryd.prog.info? 35 = some i := ⟨_, rfl⟩
theorem cellsI16 : Tryd.prog.cellsOf 35 = 1 := by kernel_rfl
theorem guardPrint : Tryd.prog.eqGuardType Tryd.prog.depth 37 = false := by kernel_rfl
theorem eqItems_arr (d : Nat) (xs : List Int) (w : World) : ∀ is : List Nat, (∀ i, i ∈ is → i < xs.length) → (Op.eqItems (d + 1) 35 1 (arr .i16 xs) (arr .i16 xs) is).run Tryd.prog w = .ok true w
  | [], _ => by simp [Op.eqItems]
  | i :: is, h => by
    have hi := h i (by simp)
    have hx : (arr .i16 xs)[i * 1]? = some (.int .i16 xs[i]) := by simp [arr, hi]
    have p1 : (part 35 (arr .i16 xs) (i * 1)).run Tryd.prog w = .ok (.int .i16 xs[i]) w := run_part_plain w plainI16 hx
    have p2 := run_equalIn_int (P := Tryd.prog) w d 35 .i16 .i16 xs[i] xs[i] Tryd.underlying35
    have ih := eqItems_arr d xs w is (fun j hj => h j (by simp [hj]))
    simp only [Op.eqItems, Sem.run_bind, p1, p2, Result.andThen_ok, beq_self_eq_true, Bool.not_true, Bool.false_eq_true, if_false]
    exact ih
theorem run_neq_same (xs : List Int) (h : xs.length = 64) (w : World) : (binOp .neq 37 (.agg (arr .i16 xs)) (.agg (arr .i16 xs))).run Tryd.prog w = .ok (.bool false) w := by
  obtain ⟨i, hi⟩ := infoI16
  rw [run_neq_struct, run_equalIn_array w 9999 (arr .i16 xs) (arr .i16 xs) Tryd.underlying37 hi, cellsI16, eqItems_arr 9998 xs w _ (fun j hj => by rw [List.mem_range] at hj; omega)]
  rfl
theorem wpList_neq_same {ops : Array Oper} {rest : List Oper} {o : Oper} {a : Act} {w : World} {Q : Exit → Act → World → Prop} (hgd : Region.wanted o (yielded ops a.tmps) = true) (x y : Operand) (t2 : TypeId) (ho : o.op = .binOp .neq 37 x y t2)
    (xs : List Int) (hl : xs.length = 64) (hx : a.eval x = .agg (arr .i16 xs)) (hy : a.eval y = .agg (arr .i16 xs))
    (h : wpList Tryd.prog ops Q rest (a.put o.dst (.bool false)) w) : wpList Tryd.prog ops Q (o :: rest) a w :=
  BigFrame.wpList_want hgd fun _ hK => by
    unfold Oper.wp execOp
    simp only [ho, hx, hy, Sem.run_bind, run_eqGuard_agg w .neq 37 x y _ _ guardPrint, run_neq_same xs hl w, Result.andThen_ok, Sem.run_pure]
    exact hK _ _ h
/-- The same, where the cells are behind a letter. -/
theorem wpList_neq_arr {ops : Array Oper} {rest : List Oper} {o : Oper} {a : Act} {w : World} {Q : Exit → Act → World → Prop} (hgd : Region.wanted o (yielded ops a.tmps) = true) (x y : Operand) (t2 : TypeId) (ho : o.op = .binOp .neq 37 x y t2)
    (xs : List Int) (A : Array Value) (hA : arr .i16 xs = A) (hl : xs.length = 64) (hx : a.eval x = .agg A) (hy : a.eval y = .agg A)
    (h : wpList Tryd.prog ops Q rest (a.put o.dst (.bool false)) w) : wpList Tryd.prog ops Q (o :: rest) a w := by
  subst hA
  exact wpList_neq_same hgd x y t2 ho xs hl hx hy h
theorem wpList_load_rowE {P : Program} {ops : Array Oper} {rest : List Oper} {o : Oper} {a : Act} {w : World} {Q : Exit → Act → World → Prop} (hgd : Region.wanted o (yielded ops a.tmps) = true) (ty : TypeId) (x : Operand) (ho : o.op = .load ty x)
    (g : Nat) (hx : a.eval x = .pointer (some ⟨g, 0, none⟩)) (t : TypeId) (cs : Array Value) (fr : Nat × Nat) (d : TypeDesc) (hg : w.heap[g]? = some (.cells cs t fr))
    (hu : P.underlying ty = some d) (hd : (match d with | .struct _ | .array _ _ => true | _ => false) = true) (hi : (P.info? ty).map (·.size) = some cs.size)
    (h : wpList P ops Q rest (a.put o.dst (.agg cs)) w) : wpList P ops Q (o :: rest) a w :=
  BigFrame.wpList_want hgd fun _ hK => wp_load_row ty x ho g hx t cs fr d hg hu hd hi (hK _ _ h)
end Go.Proofs.YtdmlefccajaniaaDoor
