/- FnExactAlikeFields: the row. -/
import Derived.Test.YtmnidldpkkpeoaaRows
import Derived.Test.YtmnidldpkkpeoaaArgs
import Derived.Test.YtmnidldpkkpeoaaHead
import Derived.Test.YtmnidldpkkpeoaaLAlikeFields
import Derived.WalkKit
import Derived.ProofKit
import Derived.OpenShut
import Derived.ShutString
import Derived.ChangeOld
import Derived.Below
import Derived.SizedLaws
namespace Go.Proofs.Ytmnidldpkkpeoaa.rowFnExactAlikeFields
open Go.ChangeShapes Go.WideShapes Go.ChangeAt Go.RowKit
open Go.ChangeMaps (open_string shut_string)
open Go.Joins (open_agg2 shut_agg2 open_agg3 shut_agg3 field_of_Trod)
set_option linter.unusedVariables false
set_option maxRecDepth 100000
theorem cells_0 : Try.prog.cellsOf 23 = 24 := by kernel_rfl
theorem cellsE_0 : Try.prog.cellsOf 22 = 1 := by kernel_rfl
set_option maxRecDepth 100000 in
theorem lifted (os : Os) (started : os.Started) (H : Type) (enc : TypeId × Value → H) :
    ReturnsInHanded {} Try.checked os 3 .any (Rows.fnExactAlikeFieldsSpec.pre6 enc Try.prog Try.f3 Rows.fnExactAlikeFieldsRow.domain false) (Rows.fnExactAlikeFieldsSpec.post enc Try.prog Try.f3 false true false false) := by
  refine returnsInHanded_of_change_sized (C := Try.checked) hfOwn started (by kernel_rfl) Try.func3
    (ChangeSpec.witness6 (enc := enc) (C := Try.checked) false ⟨#[], #[.agg #[.int .i8 0, .int .i8 0, .int .i8 0, .int .i8 0, .int .i8 0, .int .i8 0, .int .i8 0, .int .i8 0, .int .i8 0, .int .i8 0, .int .i8 0, .int .i8 0, .int .i8 0, .int .i8 0, .int .i8 0, .int .i8 0, .int .i8 0, .int .i8 0, .int .i8 0, .int .i8 0, .int .i8 0, .int .i8 0, .int .i8 0, .int .i8 0], .int .i64 0], []⟩ 8 (by kernel_rfl) (by kernel_rfl) (by kernel_rfl) (by kernel_rfl)) ?_
  intro W base args ds gs before hval0 hW hcnd hsz0 _
  have hsz : (DataW.weightsEach Try.prog (Try.f3.params.toList ++ Rows.fnExactAlikeFieldsSpec.plain.varTypes Try.prog) (ds ++ gs)).all (· ≤ reachBytes) = true := hsz0
  have hval : ∀ (j : Nat) t v, Try.f3.params[j]? = some t → args[j]? = some v → Value.okWide Try.prog W .any base t v := hval0
  have hW' := hW
  obtain ⟨p, q, hA0, hV, rfl, hfz, hnd⟩ := hW
  have hA : DataW.TrodAll enc Try.prog W 0 (fun _ => true) true Try.f3.params.toList args.toList ds p := hA0
  rw [Try.params3] at hA hval hsz
  obtain ⟨v0, vs0, d0, ds0, p0, q0, hargs, rfl, rfl, h0, r0⟩ := trodAll_cons hA
  obtain ⟨v1, vs1, d1, ds1, p1, q1, rfl, rfl, rfl, h1, r1⟩ := trodAll_cons r0
  obtain ⟨rfl, rfl, rfl⟩ := trodAll_nil r1
  obtain rfl : args = #[v0, v1] := by cases args; simp_all
  obtain ⟨rfl, rfl⟩ := trodVars_none hV
  obtain ⟨xs0, rfl, hl0, hw0, rfl, rfl⟩ := open_arr Try.underlying23 Try.underlying22 cells_0 cellsE_0 (hval 0 23 v0 rfl rfl) h0
  have hx0 := rangei8_of hw0
  obtain ⟨a1, rfl, rfl, rfl, w1⟩ := open_int Try.underlying2 (hval 1 2 v1 rfl rfl) h1
  clear hA0 hval0 hsz0 hsz
  refine (lawAlikeFields_c xs0 hl0 hx0 a1 (bounds_i64 w1) W).mono fun e W' ⟨he, bel⟩ => ?_
  subst he
  exact ⟨_, rfl, _, _, _, [], _, [], hW', trodAll_mk1 (shut_bool Try.underlying4 _), (trodAll_cons_mk (shut_arr Try.underlying23 Try.underlying22 cells_0 cellsE_0 hl0 hw0) (trodAll_cons_mk (shut_int Try.underlying2 w1) trodAll_mk0)), rfl, bel.frame _, fun h => by cases h⟩
theorem k1 : Rows.fnExactAlikeFieldsRow.wf (OpenSpec.ofChange Rows.fnExactAlikeFieldsSpec) = true := by kernel_rfl
theorem k4 : Try.f3.params.all (Try.prog.readableRec ·) = true := by kernel_rfl
theorem k5 : namedTie Try.prog Rows.fnExactAlikeFieldsRow.named Rows.fnExactAlikeFieldsSpec.vars = true := by kernel_rfl
theorem k10 : (Rows.fnExactAlikeFieldsRow.inPlace == Try.prog.inPlace 3) = true := by kernel_rfl
theorem k11 : (Rows.fnExactAlikeFieldsRow.unfollowed == Try.prog.unfollowed 3) = true := by kernel_rfl
theorem k12 : (Rows.fnExactAlikeFieldsRow.recurses == Try.prog.recurses 3) = true := by kernel_rfl
theorem k13 : (Rows.fnExactAlikeFieldsRow.named == Try.prog.varsNamed 3) = true := by kernel_rfl
theorem k14 : (Rows.fnExactAlikeFieldsRow.maps == (Try.f3.params.toList ++ Rows.fnExactAlikeFieldsSpec.plain.varTypes Try.prog).any (Try.prog.mapsRec ·)) = true := by kernel_rfl
theorem k15 : (Rows.fnExactAlikeFieldsRow.ifaces == (Try.f3.params.toList ++ Rows.fnExactAlikeFieldsSpec.plain.varTypes Try.prog).any (Try.prog.ifacesRec ·)) = true := by kernel_rfl
theorem k16 : (Rows.fnExactAlikeFieldsRow.mapsOut == Try.prog.mapsAmong Try.f3.resultTypes.toList) = true := by kernel_rfl
theorem k17 : (Rows.fnExactAlikeFieldsRow.loops == (Try.f3.params.toList ++ Rows.fnExactAlikeFieldsSpec.plain.varTypes Try.prog).any (Try.prog.loopsFrom ·)) = true := by kernel_rfl
theorem k17b : (Rows.fnExactAlikeFieldsRow.wideKeys == (Try.f3.params.toList ++ Rows.fnExactAlikeFieldsSpec.plain.varTypes Try.prog ++ Try.f3.resultTypes.toList).any (Try.prog.wideKeysFrom ·)) = true := by kernel_rfl
theorem k18 : Rows.fnExactAlikeFieldsSpec.vars.all (Try.prog.varReadable ·) = true := by kernel_rfl
theorem k19 : Try.f3.resultTypes.all (fun t => Try.prog.readableRec t && decide (t < Try.prog.types.size)) = true := by kernel_rfl
theorem k20 : (Rows.fnExactAlikeFieldsRow.ifacesOut == Try.f3.resultTypes.toList.any (Try.prog.ifacesRec ·)) = true := by kernel_rfl
theorem k21 : (Rows.fnExactAlikeFieldsRow.loopsOut == Try.f3.resultTypes.toList.any (Try.prog.loopsFrom ·)) = true := by kernel_rfl
theorem k25 : (Rows.fnExactAlikeFieldsRow.kinds == (if Rows.fnExactAlikeFieldsRow.domain.isEmpty then [] else Try.f3.params.toList.map fun t => match Try.prog.underlying t with | some (.int k) => some k | _ => none)) = true := by kernel_rfl
theorem k26 : (Rows.fnExactAlikeFieldsRow.pinned == Rows.fnExactAlikeFieldsRow.pinnedBy) = true := by kernel_rfl
theorem k27 : (Rows.fnExactAlikeFieldsRow.veiled == (Try.f3.params.toList ++ Rows.fnExactAlikeFieldsSpec.plain.varTypes Try.prog ++ Try.f3.resultTypes.toList).any (Try.prog.veiledRec ·)) = true := by kernel_rfl
theorem k28 : Rows.fnExactAlikeFieldsRow.veiledFits Try.prog Try.f3.params.toList (Try.f3.params.toList ++ Rows.fnExactAlikeFieldsSpec.plain.varTypes Try.prog ++ Try.f3.resultTypes.toList) = true := by kernel_rfl
theorem kName : Try.prog.funcNamed Rows.fnExactAlikeFieldsRow.func = some 3 := by kernel_rfl
theorem kInst : Try.f3.isInstance Try.prog Rows.fnExactAlikeFieldsRow.origin Rows.fnExactAlikeFieldsRow.targs := of_decide_eq_true (by kernel_rfl)
theorem kWrap : Try.f3.isWrapper Try.prog Rows.fnExactAlikeFieldsRow.wrapper Rows.fnExactAlikeFieldsRow.mainSum := by
  unfold Func.isWrapper; first | (rw [if_pos (by decide +kernel)]; kernel_rfl) | (rw [if_neg (by decide +kernel)]; exact ⟨rfl, rfl⟩)
theorem closed : joinedFacts Try.prog 3 Try.f3 Rows.fnExactAlikeFieldsSpec Rows.fnExactAlikeFieldsRow = true :=
  joined_of k1 hfLaid hfMaps k4 k5 rfl hfStops rfl hfKnobs k10 k11 k12 k13 k14 k15 k16 k17 k17b k18 k19 k20 k21 hfKeys rfl rfl hfHeard hfEnter hfFinal rfl hfMake rfl k25 k26 k27 k28
theorem over : Rows.fnExactAlikeFieldsRow.holds Try.pinned (OpenSpec.ofChange Rows.fnExactAlikeFieldsSpec) :=
  OpenClaim.holds_of_wide 3 Try.f3 rfl rfl rfl rfl rfl rfl rfl ⟨rfl, rfl, rfl, rfl, rfl⟩ rfl rfl rfl rfl rfl kName Try.func3 closed kInst kWrap
    (fun os started H enc _ => lifted os started H enc)
end Go.Proofs.Ytmnidldpkkpeoaa.rowFnExactAlikeFields
namespace Go.Proofs.Ytmnidldpkkpeoaa
theorem fnExactAlikeFields_holds : Rows.FnExactAlikeFieldsSaid := rowFnExactAlikeFields.over
#print axioms fnExactAlikeFields_holds
end Go.Proofs.Ytmnidldpkkpeoaa
