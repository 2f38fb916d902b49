/- FnExactRepairCells: the row. -/
import Derived.Test.YtmnidldpkkpeoaaDoorRows
import Derived.Test.YtmnidldpkkpeoaaDoorCards
import Derived.Test.YtmnidldpkkpeoaaDoorTie
import Derived.Test.YtmnidldpkkpeoaaDoorArgs
import Derived.Test.YtmnidldpkkpeoaaDoorLaid
import Derived.Test.YtmnidldpkkpeoaaDoorHead
import Derived.Test.YtmnidldpkkpeoaaDoorLRepairCells
import Derived.WalkKit
import Derived.ProofKit
import Derived.OpenShut
import Derived.ShutString
import Derived.ChangeOld
import Derived.Below
import Derived.SizedLaws
import Derived.Deep.DeepHandedRow
namespace Go.Proofs.YtmnidldpkkpeoaaDoor.rowFnExactRepairCells
open Go.ChangeShapes Go.WideShapes Go.ChangeAt Go.RowKit
open Go.ChangeMaps (open_string shut_string)
open Go.Joins (open_agg2 shut_agg2 open_agg3 shut_agg3 field_of_Trod)
set_option linter.unusedVariables false
set_option maxRecDepth 100000
theorem cells_0 : Tryd.prog.cellsOf 34 = 64 := by kernel_rfl
theorem cellsE_0 : Tryd.prog.cellsOf 33 = 1 := by kernel_rfl
def wit : Array Value := #[.agg (Array.replicate 64 (.int .i16 0)), .int .u64 0]
def witD {H : Type} : List (DataW H) := [.agg (List.replicate 64 (.lit (.int .i16 0))), .lit (.int .u64 0)]
theorem contract (H : Type) (enc : TypeId × Value → H) (W : World) (base : Nat) (args : Array Value) (ds gs : List (DataW H)) (before : List MemPlace)
    (hval0 : ∀ (j : Nat) t v, Tryd.f7.params[j]? = some t → args[j]? = some v → Value.okWide Tryd.prog W .any base t v)
    (hW : DataW.Whole enc Tryd.prog Tryd.f7.params.toList Rows.fnExactRepairCellsSpec.vars false W args.toList ds gs before) (hL : laidMetH Tryd.prog Rows.fnExactRepairCellsRow.laid W) :
    Calls Tryd.prog 7 args W fun e W' => ∃ v, e = .returned v ∧ Rows.fnExactRepairCellsSpec.post enc Tryd.prog Tryd.f7 false true false false W args v W' := by
  have hval : ∀ (j : Nat) t v, Tryd.f7.params[j]? = some t → args[j]? = some v → Value.okWide Tryd.prog W .any base t v := hval0
  have hW' := hW
  obtain ⟨p, q, hA0, hV, rfl, hfz, hnd⟩ := hW
  have hA : DataW.TrodAll enc Tryd.prog W 0 (fun _ => true) true Tryd.f7.params.toList args.toList ds p := hA0
  rw [Tryd.params7] at hA hval
  obtain ⟨v0, vs0, d0, ds0, p0, q0, hargs, rfl, rfl, h0, r0⟩ := trodAll_cons hA
  obtain ⟨v1, vs1, d1, ds1, p1, q1, rfl, rfl, rfl, h1, r1⟩ := trodAll_cons r0
  obtain ⟨rfl, rfl, rfl⟩ := trodAll_nil r1
  obtain rfl : args = #[v0, v1] := by cases args; simp_all
  obtain ⟨rfl, rfl⟩ := trodVars_none hV
  obtain ⟨xs0, rfl, hl0, hw0, rfl, rfl⟩ := open_arr Tryd.underlying34 Tryd.underlying33 cells_0 cellsE_0 (hval 0 34 v0 rfl rfl) h0
  have hx0 := rangei16_of hw0
  obtain ⟨a1, rfl, rfl, rfl, w1⟩ := open_int Tryd.underlying22 (hval 1 22 v1 rfl rfl) h1
  clear hA0 hval0
  refine (lawRepairCells_d xs0 hl0 hx0 a1 (bounds_u64 w1) W (tabAt_of hL)).mono fun e W' ⟨he, bel⟩ => ?_
  subst he
  exact ⟨_, rfl, _, _, _, [], _, [], hW', trodAll_mk1 (shut_bool Tryd.underlying4 _), (trodAll_cons_mk (shut_arr Tryd.underlying34 Tryd.underlying33 cells_0 cellsE_0 hl0 hw0) (trodAll_cons_mk (shut_int Tryd.underlying22 w1) trodAll_mk0)), rfl, bel.frame _, fun h => by cases h⟩
theorem laid_met (os : Os) : laidMet Tryd.prog Rows.fnExactRepairCellsRow.laid ((laidWorld os).forCall (fun _ _ => 0) ⟨#[], wit, []⟩).memory :=
  laidMet_of_run' 8 (by kernel_rfl) (by kernel_rfl)
theorem reads (os : Os) {H : Type} (enc : TypeId × Value → H) : ∃ places, DataW.whole enc Tryd.prog ((laidWorld os).forCall (fun _ _ => 0) ⟨#[], wit, []⟩).memory Tryd.f7.params.toList Rows.fnExactRepairCellsSpec.vars false wit.toList 8 = some (witD, [], places) :=
  ⟨[], by kernel_rfl⟩
set_option maxRecDepth 100000 in
theorem lifted (os : Os) (started : os.Started) (H : Type) (enc : TypeId × Value → H) (F : Stop.Interp) :
    ReturnsInHanded {} Tryd.checked os 7 .any ((OpenSpec.ofChange Rows.fnExactRepairCellsSpec).preRow enc Tryd.prog Tryd.f7 Rows.fnExactRepairCellsRow.domain false Rows.fnExactRepairCellsRow.laid) (((OpenSpec.ofChange Rows.fnExactRepairCellsSpec).at F).post enc Tryd.prog Tryd.f7 false true false false) := by
  obtain ⟨places, hx⟩ := reads os enc
  refine returnsInHanded_of_row (C := Tryd.checked) (s := OpenSpec.ofChange Rows.fnExactRepairCellsSpec) hfOwn started (by kernel_rfl) Tryd.func7
    (witness_row_at (enc := enc) (C := Tryd.checked) false (laidWorld os) wit rfl (by kernel_rfl) (by kernel_rfl) (by kernel_rfl)
      (OpenSpec.preRow_of_cond 8 hx (by kernel_rfl) (fun k hk => by cases hk) (by kernel_rfl) (laid_met os))) ?_
  intro W base args ds gs before hval hW _ _ _ hL _ _
  exact contract H enc W base args ds gs before hval hW hL
theorem k1 : Rows.fnExactRepairCellsRow.wf (OpenSpec.ofChange Rows.fnExactRepairCellsSpec) = true := by kernel_rfl
theorem k4 : Tryd.f7.params.all (Tryd.prog.readableRec ·) = true := by kernel_rfl
theorem k5 : namedTie Tryd.prog Rows.fnExactRepairCellsRow.named Rows.fnExactRepairCellsSpec.vars = true := by kernel_rfl
theorem k10 : (Rows.fnExactRepairCellsRow.inPlace == Tryd.prog.inPlace 7) = true := by kernel_rfl
theorem k11 : (Rows.fnExactRepairCellsRow.unfollowed == Tryd.prog.unfollowed 7) = true := by kernel_rfl
theorem k12 : (Rows.fnExactRepairCellsRow.recurses == Tryd.prog.recurses 7) = true := by kernel_rfl
theorem k13 : (Rows.fnExactRepairCellsRow.named == Tryd.prog.varsNamed 7) = true := by kernel_rfl
theorem k14 : (Rows.fnExactRepairCellsRow.maps == (Tryd.f7.params.toList ++ Rows.fnExactRepairCellsSpec.plain.varTypes Tryd.prog).any (Tryd.prog.mapsRec ·)) = true := by kernel_rfl
theorem k15 : (Rows.fnExactRepairCellsRow.ifaces == (Tryd.f7.params.toList ++ Rows.fnExactRepairCellsSpec.plain.varTypes Tryd.prog).any (Tryd.prog.ifacesRec ·)) = true := by kernel_rfl
theorem k16 : (Rows.fnExactRepairCellsRow.mapsOut == Tryd.prog.mapsAmong Tryd.f7.resultTypes.toList) = true := by kernel_rfl
theorem k17 : (Rows.fnExactRepairCellsRow.loops == (Tryd.f7.params.toList ++ Rows.fnExactRepairCellsSpec.plain.varTypes Tryd.prog).any (Tryd.prog.loopsFrom ·)) = true := by kernel_rfl
theorem k17b : (Rows.fnExactRepairCellsRow.wideKeys == (Tryd.f7.params.toList ++ Rows.fnExactRepairCellsSpec.plain.varTypes Tryd.prog ++ Tryd.f7.resultTypes.toList).any (Tryd.prog.wideKeysFrom ·)) = true := by kernel_rfl
theorem k18 : Rows.fnExactRepairCellsSpec.vars.all (Tryd.prog.varReadable ·) = true := by kernel_rfl
theorem k19 : Tryd.f7.resultTypes.all (fun t => Tryd.prog.readableRec t && decide (t < Tryd.prog.types.size)) = true := by kernel_rfl
theorem k20 : (Rows.fnExactRepairCellsRow.ifacesOut == Tryd.f7.resultTypes.toList.any (Tryd.prog.ifacesRec ·)) = true := by kernel_rfl
theorem k21 : (Rows.fnExactRepairCellsRow.loopsOut == Tryd.f7.resultTypes.toList.any (Tryd.prog.loopsFrom ·)) = true := by kernel_rfl
theorem k25 : (Rows.fnExactRepairCellsRow.kinds == (if Rows.fnExactRepairCellsRow.domain.isEmpty then [] else Tryd.f7.params.toList.map fun t => match Tryd.prog.underlying t with | some (.int k) => some k | _ => none)) = true := by kernel_rfl
theorem k26 : (Rows.fnExactRepairCellsRow.pinned == Rows.fnExactRepairCellsRow.pinnedBy) = true := by kernel_rfl
theorem k27 : (Rows.fnExactRepairCellsRow.veiled == (Tryd.f7.params.toList ++ Rows.fnExactRepairCellsSpec.plain.varTypes Tryd.prog ++ Tryd.f7.resultTypes.toList).any (Tryd.prog.veiledRec ·)) = true := by kernel_rfl
theorem k28 : Rows.fnExactRepairCellsRow.veiledFits Tryd.prog Tryd.f7.params.toList (Tryd.f7.params.toList ++ Rows.fnExactRepairCellsSpec.plain.varTypes Tryd.prog ++ Tryd.f7.resultTypes.toList) = true := by kernel_rfl
theorem kName : Tryd.prog.funcNamed Rows.fnExactRepairCellsRow.func = some 7 := by kernel_rfl
theorem kInst : Tryd.f7.isInstance Tryd.prog Rows.fnExactRepairCellsRow.origin Rows.fnExactRepairCellsRow.targs := of_decide_eq_true (by kernel_rfl)
theorem kWrap : Tryd.f7.isWrapper Tryd.prog Rows.fnExactRepairCellsRow.wrapper Rows.fnExactRepairCellsRow.mainSum := by
  unfold Func.isWrapper; first | (rw [if_pos (by decide +kernel)]; kernel_rfl) | (rw [if_neg (by decide +kernel)]; exact ⟨rfl, rfl⟩)
theorem closed : joinedFacts Tryd.prog 7 Tryd.f7 Rows.fnExactRepairCellsSpec Rows.fnExactRepairCellsRow = true :=
  joined_of k1 hfLaid hfMaps k4 k5 rfl hfStops rfl hfKnobs k10 k11 k12 k13 k14 k15 k16 k17 k17b k18 k19 k20 k21 hfKeys rfl rfl hfHeard hfEnter hfFinal rfl hfMake rfl k25 k26 k27 k28
theorem over : Rows.fnExactRepairCellsRow.holds Tryd.pinned (OpenSpec.ofChange Rows.fnExactRepairCellsSpec) :=
  OpenClaim.holds_of_cond 7 Tryd.f7 rfl rfl rfl rfl rfl rfl rfl ⟨rfl, rfl, rfl, rfl, rfl⟩ rfl rfl rfl rfl rfl kName Tryd.func7 closed kInst kWrap
    (fun os started H enc _ F => by rw [OpenClaim.pre_eq_preRow]; exact lifted os started H enc F)
theorem wants : Tryd.f7.params.all (fun t => Tryd.prog.wantsStandIn t == false) = true := by kernel_rfl
theorem plain (f : FuncId) (fn : Func) (hf : Tryd.pinned.checked.prog.funcNamed Rows.fnExactRepairCellsRow.func = some f) (hfn : Tryd.pinned.checked.prog.funcs[f]? = some fn) :
    false = Tryd.pinned.checked.prog.looks [] ∧ ∀ (j : Nat) t, fn.params[j]? = some t → Tryd.pinned.checked.prog.wantsStandIn t = false := by
  obtain rfl : f = 7 := Option.some.inj (kName.symm.trans hf) |>.symm
  obtain rfl : fn = Tryd.f7 := (Option.some.inj (Tryd.func7.symm.trans hfn)).symm
  refine ⟨by kernel_rfl, fun j t ht => ?_⟩
  have := (Array.all_eq_true_iff_forall_mem.1 wants) t (Array.mem_of_getElem? ht)
  exact (show Tryd.prog.wantsStandIn t = false by simpa using this)
theorem card : Rows.FnExactRepairCellsCardSaid :=
  Claim7.holds_tied_plain_at .later [] _ _ _ _ over (fun _ h => by cases h) (by kernel_rfl) (fun _ h => by cases h) fnExactRepairCells_row_tie rfl ⟨rfl, rfl⟩ (by kernel_rfl) rfl plain (by kernel_rfl)
end Go.Proofs.YtmnidldpkkpeoaaDoor.rowFnExactRepairCells
namespace Go.Proofs.YtmnidldpkkpeoaaDoor
theorem fnExactRepairCells_card : Rows.FnExactRepairCellsCardSaid := rowFnExactRepairCells.card
#print axioms fnExactRepairCells_card
end Go.Proofs.YtmnidldpkkpeoaaDoor
