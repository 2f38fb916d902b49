/- FnExactSameSheet: the row. -/
import Derived.Test.YtnbbbmnjbfehmaaRows
import Derived.Test.YtnbbbmnjbfehmaaArgs
import Derived.Test.YtnbbbmnjbfehmaaHead
import Derived.Test.YtnbbbmnjbfehmaaLSameSheet
import Derived.Test.YtnbbbmnjbfehmaaArgS
import Derived.WalkKit
import Derived.ProofKit
import Derived.OpenShut
import Derived.ShutString
import Derived.ChangeOld
import Derived.Below
import Derived.SizedLaws
namespace Go.Proofs.Ytnbbbmnjbfehmaa.rowFnExactSameSheet
open Go.ChangeShapes Go.WideShapes Go.ChangeAt Go.RowKit
open Go.ChangeMaps (open_string shut_string)
open Go.Joins (open_agg2 shut_agg2 open_agg3 shut_agg3 field_of_Trod)
set_option linter.unusedVariables false
set_option maxRecDepth 100000
theorem cells_0 : Try.prog.cellsOf 25 = 2 := by kernel_rfl
theorem cellsA_0 : Try.prog.cellsOf 40 = 64 := by kernel_rfl
theorem cellsE_0 : Try.prog.cellsOf 39 = 1 := by kernel_rfl
theorem cells_1 : Try.prog.cellsOf 25 = 2 := by kernel_rfl
theorem cellsA_1 : Try.prog.cellsOf 40 = 64 := by kernel_rfl
theorem cellsE_1 : Try.prog.cellsOf 39 = 1 := by kernel_rfl
set_option maxRecDepth 100000 in
theorem lifted (os : Os) (started : os.Started) (H : Type) (enc : TypeId × Value → H) :
    ReturnsInHanded {} Try.checked os 3 .any (Rows.fnExactSameSheetSpec.pre6 enc Try.prog Try.f3 Rows.fnExactSameSheetRow.domain false) (Rows.fnExactSameSheetSpec.post enc Try.prog Try.f3 false true false false) := by
  refine returnsInHanded_of_change_sized (C := Try.checked) hfOwn started (by kernel_rfl) Try.func3
    (ChangeSpec.witness6 (enc := enc) (C := Try.checked) false ⟨#[], #[.agg #[.int .i8 0, .slice none 0 0], .agg #[.int .i8 0, .slice none 0 0]], []⟩ 8 (by kernel_rfl) (by kernel_rfl) (by kernel_rfl) (by kernel_rfl)) ?_
  intro W base args ds gs before hval0 hW hcnd hsz0 _
  have hsz : (DataW.weightsEach Try.prog (Try.f3.params.toList ++ Rows.fnExactSameSheetSpec.plain.varTypes Try.prog) (ds ++ gs)).all (· ≤ reachBytes) = true := hsz0
  have hval : ∀ (j : Nat) t v, Try.f3.params[j]? = some t → args[j]? = some v → Value.okWide Try.prog W .any base t v := hval0
  have hW' := hW
  obtain ⟨p, q, hA0, hV, rfl, hfz, hnd⟩ := hW
  have hA : DataW.TrodAll enc Try.prog W 0 (fun _ => true) true Try.f3.params.toList args.toList ds p := hA0
  rw [Try.params3] at hA hval hsz
  obtain ⟨v0, vs0, d0, ds0, p0, q0, hargs, rfl, rfl, h0, r0⟩ := trodAll_cons hA
  obtain ⟨v1, vs1, d1, ds1, p1, q1, rfl, rfl, rfl, h1, r1⟩ := trodAll_cons r0
  obtain ⟨rfl, rfl, rfl⟩ := trodAll_nil r1
  obtain rfl : args = #[v0, v1] := by cases args; simp_all
  obtain ⟨rfl, rfl⟩ := trodVars_none hV
  have hk0 := h0
  have hlt0 : ∀ x ∈ p0, x.block < W.heap.size := fun x hx => hW'.lt x (by simp [hx])
  obtain ⟨a0, s0, n0, c0, l0, rfl, ha0, hl0, hn0, hp0, hz0⟩ := open_sheet Try.underlying25 (by kernel_rfl) cells_0 rfl rfl Try.underlying22 (by kernel_rfl) Try.underlying23 Try.underlying40 Try.underlying39 cellsA_0 cellsE_0 (hval 0 25 v0 rfl rfl) h0
  have hk1 := h1
  have hlt1 : ∀ x ∈ p1, x.block < W.heap.size := fun x hx => hW'.lt x (by simp [hx])
  obtain ⟨a1, s1, n1, c1, l1, rfl, ha1, hl1, hn1, hp1, hz1⟩ := open_sheet Try.underlying25 (by kernel_rfl) cells_1 rfl rfl Try.underlying22 (by kernel_rfl) Try.underlying23 Try.underlying40 Try.underlying39 cellsA_1 cellsE_1 (hval 1 25 v1 rfl rfl) h1
  clear hA0 hval0 hsz0 hsz
  refine (lawSameSheet_c a0 ha0 s0 n0 c0 l0 hl0 hn0 hz0 a1 ha1 s1 n1 c1 l1 hl1 hn1 hz1 W hp0 hp1).mono fun e W' ⟨he, bel⟩ => ?_
  subst he
  exact ⟨_, rfl, _, _, _, [], _, [], hW', trodAll_mk1 (shut_bool Try.underlying4 _), (trodAll_cons_mk (Below.trod hfLaid (by kernel_rfl) (of_decide_eq_true (by kernel_rfl)) hk0 bel hlt0) (trodAll_cons_mk (Below.trod hfLaid (by kernel_rfl) (of_decide_eq_true (by kernel_rfl)) hk1 bel hlt1) trodAll_mk0)), rfl, bel.frame _, fun h => by cases h⟩
theorem k1 : Rows.fnExactSameSheetRow.wf (OpenSpec.ofChange Rows.fnExactSameSheetSpec) = true := by kernel_rfl
theorem k4 : Try.f3.params.all (Try.prog.readableRec ·) = true := by kernel_rfl
theorem k5 : namedTie Try.prog Rows.fnExactSameSheetRow.named Rows.fnExactSameSheetSpec.vars = true := by kernel_rfl
theorem k10 : (Rows.fnExactSameSheetRow.inPlace == Try.prog.inPlace 3) = true := by kernel_rfl
theorem k11 : (Rows.fnExactSameSheetRow.unfollowed == Try.prog.unfollowed 3) = true := by kernel_rfl
theorem k12 : (Rows.fnExactSameSheetRow.recurses == Try.prog.recurses 3) = true := by kernel_rfl
theorem k13 : (Rows.fnExactSameSheetRow.named == Try.prog.varsNamed 3) = true := by kernel_rfl
theorem k14 : (Rows.fnExactSameSheetRow.maps == (Try.f3.params.toList ++ Rows.fnExactSameSheetSpec.plain.varTypes Try.prog).any (Try.prog.mapsRec ·)) = true := by kernel_rfl
theorem k15 : (Rows.fnExactSameSheetRow.ifaces == (Try.f3.params.toList ++ Rows.fnExactSameSheetSpec.plain.varTypes Try.prog).any (Try.prog.ifacesRec ·)) = true := by kernel_rfl
theorem k16 : (Rows.fnExactSameSheetRow.mapsOut == Try.prog.mapsAmong Try.f3.resultTypes.toList) = true := by kernel_rfl
theorem k17 : (Rows.fnExactSameSheetRow.loops == (Try.f3.params.toList ++ Rows.fnExactSameSheetSpec.plain.varTypes Try.prog).any (Try.prog.loopsFrom ·)) = true := by kernel_rfl
theorem k17b : (Rows.fnExactSameSheetRow.wideKeys == (Try.f3.params.toList ++ Rows.fnExactSameSheetSpec.plain.varTypes Try.prog ++ Try.f3.resultTypes.toList).any (Try.prog.wideKeysFrom ·)) = true := by kernel_rfl
theorem k18 : Rows.fnExactSameSheetSpec.vars.all (Try.prog.varReadable ·) = true := by kernel_rfl
theorem k19 : Try.f3.resultTypes.all (fun t => Try.prog.readableRec t && decide (t < Try.prog.types.size)) = true := by kernel_rfl
theorem k20 : (Rows.fnExactSameSheetRow.ifacesOut == Try.f3.resultTypes.toList.any (Try.prog.ifacesRec ·)) = true := by kernel_rfl
theorem k21 : (Rows.fnExactSameSheetRow.loopsOut == Try.f3.resultTypes.toList.any (Try.prog.loopsFrom ·)) = true := by kernel_rfl
theorem k25 : (Rows.fnExactSameSheetRow.kinds == (if Rows.fnExactSameSheetRow.domain.isEmpty then [] else Try.f3.params.toList.map fun t => match Try.prog.underlying t with | some (.int k) => some k | _ => none)) = true := by kernel_rfl
theorem k26 : (Rows.fnExactSameSheetRow.pinned == Rows.fnExactSameSheetRow.pinnedBy) = true := by kernel_rfl
theorem k27 : (Rows.fnExactSameSheetRow.veiled == (Try.f3.params.toList ++ Rows.fnExactSameSheetSpec.plain.varTypes Try.prog ++ Try.f3.resultTypes.toList).any (Try.prog.veiledRec ·)) = true := by kernel_rfl
theorem k28 : Rows.fnExactSameSheetRow.veiledFits Try.prog Try.f3.params.toList (Try.f3.params.toList ++ Rows.fnExactSameSheetSpec.plain.varTypes Try.prog ++ Try.f3.resultTypes.toList) = true := by kernel_rfl
theorem kName : Try.prog.funcNamed Rows.fnExactSameSheetRow.func = some 3 := by kernel_rfl
theorem kInst : Try.f3.isInstance Try.prog Rows.fnExactSameSheetRow.origin Rows.fnExactSameSheetRow.targs := of_decide_eq_true (by kernel_rfl)
theorem kWrap : Try.f3.isWrapper Try.prog Rows.fnExactSameSheetRow.wrapper Rows.fnExactSameSheetRow.mainSum := by
  unfold Func.isWrapper; first | (rw [if_pos (by decide +kernel)]; kernel_rfl) | (rw [if_neg (by decide +kernel)]; exact ⟨rfl, rfl⟩)
theorem closed : joinedFacts Try.prog 3 Try.f3 Rows.fnExactSameSheetSpec Rows.fnExactSameSheetRow = true :=
  joined_of k1 hfLaid hfMaps k4 k5 rfl hfStops rfl hfKnobs k10 k11 k12 k13 k14 k15 k16 k17 k17b k18 k19 k20 k21 hfKeys rfl rfl hfHeard hfEnter hfFinal rfl hfMake rfl k25 k26 k27 k28
theorem over : Rows.fnExactSameSheetRow.holds Try.pinned (OpenSpec.ofChange Rows.fnExactSameSheetSpec) :=
  OpenClaim.holds_of_wide 3 Try.f3 rfl rfl rfl rfl rfl rfl rfl ⟨rfl, rfl, rfl, rfl, rfl⟩ rfl rfl rfl rfl rfl kName Try.func3 closed kInst kWrap
    (fun os started H enc _ => lifted os started H enc)
end Go.Proofs.Ytnbbbmnjbfehmaa.rowFnExactSameSheet
namespace Go.Proofs.Ytnbbbmnjbfehmaa
theorem fnExactSameSheet_holds : Rows.FnExactSameSheetSaid := rowFnExactSameSheet.over
#print axioms fnExactSameSheet_holds
end Go.Proofs.Ytnbbbmnjbfehmaa
