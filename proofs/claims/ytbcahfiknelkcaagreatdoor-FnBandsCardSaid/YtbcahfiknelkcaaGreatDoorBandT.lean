/- FnBands: times and thirds. -/
import Derived.Test.YtbcahfiknelkcaaGreatDoorBandP
import Derived.Test.YtbcahfiknelkcaaGreatDoorStK
import Derived.ChangeKeysEq
import Derived.Deep.QuietTactic
namespace Go.Proofs.YtbcahfiknelkcaaGreatDoor
open Go.RowKit Go.Lib
set_option maxRecDepth 100000
theorem plainI64T : Tryz.prog.plainKey 2 = true := by kernel_rfl
theorem szI64T : (Tryz.prog.info? 2).map (·.size) = some 1 := by kernel_rfl
theorem wpList_index_i64 {ops : Array Oper} {rest : List Oper} {o : Oper} {a : Act} {w : World} {Q : Exit → Act → World → Prop} (hgd : o.guard = none) (ty : TypeId) (x y : Operand) (ho : o.op = .index ty x y)
    (vs : Array Value) (hx : a.eval x = .agg vs) {kk : IntKind} (i : Nat) (hy : a.eval y = .int kk i) (n : Nat) (hu : Tryz.prog.underlying ty = some (.array n 2))
    (hi : i < n) (r : Value) (hr : vs[i * 1]? = some r)
    (h : wpList Tryz.prog ops Q rest (a.put o.dst r) w) : wpList Tryz.prog ops Q (o :: rest) a w :=
  wpList_plain hgd fun _ hK => by
    have hsz : (sizeOf 2).run Tryz.prog w = .ok 1 w := by
      have hs := szI64T
      cases hq : Tryz.prog.info? 2 with
      | none => simp [hq] at hs
      | some j => simp [hq] at hs; simp [sizeOf, typeInfo, hq, hs]
    have hp : (part 2 vs (i * 1)).run Tryz.prog w = .ok r w := run_part_plain w plainI64T hr
    unfold Oper.wp execOp
    simp only [ho, hx, hy, Instr.index, asIntOf, Sem.run_bind, Sem.run_pure, Result.andThen_ok, run_underlying hu]
    rw [if_pos (by omega)]
    simp only [Sem.run_bind, hsz, Result.andThen_ok, Int.toNat_natCast, hp]
    exact hK _ _ h
theorem tmod3 (k : Nat) : (k : Int).tmod 3 = ((k % 3 : Nat) : Int) := by rw [Int.tmod_eq_emod_of_nonneg (by omega)]; omega
theorem tdiv3 (k : Nat) : (k : Int).tdiv 3 = ((k / 3 : Nat) : Int) := by rw [Int.tdiv_eq_ediv_of_nonneg (by omega)]; omega
theorem implTime_c (k : Nat) (hk : k ≤ 36) (w : World) : Calls Tryz.prog 122 #[.int .i64 k] w fun e w' => e = .returned (.int .i64 (timK k)) ∧ w = w' := by
  have t1 := tmod3 k
  have t2 := tdiv3 k
  have HB := Lib.hid (tim_bd hk)
  have HT : Hid (timK k = tab3 (k % 3) * 2 ^ (k / 3)) := Lib.hid rfl
  have hc : k / 3 ≤ 12 := by omega
  have hr : k % 3 = 0 ∨ k % 3 = 1 ∨ k % 3 = 2 := by omega
  generalize timK k = T at *
  generalize k / 3 = c at *
  have hcw : IntKind.i64.wrap (c : Int) = c := Go.IntWalk.i64_in _ (by omega)
  rcases hr with hr | hr | hr
  · rw [hr] at t1 HT
    have HE : Hid (T = 1000 * 2 ^ c) := HT
    have htw : IntKind.i64.wrap (1000 * 2 ^ c) = 1000 * 2 ^ c := by have := HB.out; rw [← HE.out]; exact Go.IntWalk.i64_in _ (by omega)
    go_enter Tryz.func122, Tryz.ntmps122
    go_wp2_with (refine wpList_index_i64 rfl 178 (.tmp 3) (.tmp 5) rfl _ rfl 0 rfl 3 Tryz.underlying178 (by decide) _ rfl ?_)
    go_ret
    exact ⟨ret_int (by first | exact HE.out.symm | (simp; exact HE.out.symm)), rfl⟩
  · rw [hr] at t1 HT
    have HE : Hid (T = 1260 * 2 ^ c) := HT
    have htw : IntKind.i64.wrap (1260 * 2 ^ c) = 1260 * 2 ^ c := by have := HB.out; rw [← HE.out]; exact Go.IntWalk.i64_in _ (by omega)
    go_enter Tryz.func122, Tryz.ntmps122
    go_wp2_with (refine wpList_index_i64 rfl 178 (.tmp 3) (.tmp 5) rfl _ rfl 1 rfl 3 Tryz.underlying178 (by decide) _ rfl ?_)
    go_ret
    exact ⟨ret_int (by first | exact HE.out.symm | (simp; exact HE.out.symm)), rfl⟩
  · rw [hr] at t1 HT
    have HE : Hid (T = 1587 * 2 ^ c) := HT
    have htw : IntKind.i64.wrap (1587 * 2 ^ c) = 1587 * 2 ^ c := by have := HB.out; rw [← HE.out]; exact Go.IntWalk.i64_in _ (by omega)
    go_enter Tryz.func122, Tryz.ntmps122
    go_wp2_with (refine wpList_index_i64 rfl 178 (.tmp 3) (.tmp 5) rfl _ rfl 2 rfl 3 Tryz.underlying178 (by decide) _ rfl ?_)
    go_ret
    exact ⟨ret_int (by first | exact HE.out.symm | (simp; exact HE.out.symm)), rfl⟩
end Go.Proofs.YtbcahfiknelkcaaGreatDoor
