/- FnExactMedianReading: the row. -/
import Derived.Test.YtmnidldpkkpeoaaRows
import Derived.Test.YtmnidldpkkpeoaaArgs
import Derived.Test.YtmnidldpkkpeoaaHead
import Derived.Test.YtmnidldpkkpeoaaLMedR
import Derived.WalkKit
import Derived.ProofKit
import Derived.OpenShut
import Derived.ShutString
import Derived.ChangeOld
import Derived.Below
import Derived.SizedLaws
namespace Go.Proofs.Ytmnidldpkkpeoaa.rowFnExactMedianReading
open Go.ChangeShapes Go.WideShapes Go.ChangeAt Go.RowKit
open Go.ChangeMaps (open_string shut_string)
open Go.Joins (open_agg2 shut_agg2 open_agg3 shut_agg3 field_of_Trod)
set_option linter.unusedVariables false
set_option maxRecDepth 100000
theorem cells_0 : Try.prog.cellsOf 23 = 24 := by kernel_rfl
theorem cellsE_0 : Try.prog.cellsOf 22 = 1 := by kernel_rfl
set_option maxRecDepth 100000 in
theorem lifted (os : Os) (started : os.Started) (H : Type) (enc : TypeId × Value → H) :
    ReturnsInHanded {} Try.checked os 6 .any (Rows.fnExactMedianReadingSpec.pre6 enc Try.prog Try.f6 Rows.fnExactMedianReadingRow.domain false) (Rows.fnExactMedianReadingSpec.post enc Try.prog Try.f6 false true false false) := by
  refine returnsInHanded_of_change_sized (C := Try.checked) hfOwn started (by kernel_rfl) Try.func6
    (ChangeSpec.witness6 (enc := enc) (C := Try.checked) false ⟨#[], #[.agg #[.int .i8 0, .int .i8 0, .int .i8 0, .int .i8 0, .int .i8 0, .int .i8 0, .int .i8 0, .int .i8 0, .int .i8 0, .int .i8 0, .int .i8 0, .int .i8 0, .int .i8 0, .int .i8 0, .int .i8 0, .int .i8 0, .int .i8 0, .int .i8 0, .int .i8 0, .int .i8 0, .int .i8 0, .int .i8 0, .int .i8 0, .int .i8 0]], []⟩ 8 (by kernel_rfl) (by kernel_rfl) (by kernel_rfl) (by kernel_rfl)) ?_
  intro W base args ds gs before hval0 hW hcnd hsz0 _
  have hsz : (DataW.weightsEach Try.prog (Try.f6.params.toList ++ Rows.fnExactMedianReadingSpec.plain.varTypes Try.prog) (ds ++ gs)).all (· ≤ reachBytes) = true := hsz0
  have hval : ∀ (j : Nat) t v, Try.f6.params[j]? = some t → args[j]? = some v → Value.okWide Try.prog W .any base t v := hval0
  have hW' := hW
  obtain ⟨p, q, hA0, hV, rfl, hfz, hnd⟩ := hW
  have hA : DataW.TrodAll enc Try.prog W 0 (fun _ => true) true Try.f6.params.toList args.toList ds p := hA0
  rw [Try.params6] at hA hval hsz
  obtain ⟨v0, vs0, d0, ds0, p0, q0, hargs, rfl, rfl, h0, r0⟩ := trodAll_cons hA
  obtain ⟨rfl, rfl, rfl⟩ := trodAll_nil r0
  obtain rfl : args = #[v0] := by cases args; simp_all
  obtain ⟨rfl, rfl⟩ := trodVars_none hV
  obtain ⟨xs0, rfl, hl0, hw0, rfl, rfl⟩ := open_arr Try.underlying23 Try.underlying22 cells_0 cellsE_0 (hval 0 23 v0 rfl rfl) h0
  have hx0 := rangei8_of hw0
  clear hA0 hval0 hsz0 hsz
  refine (lawMedianReading_c xs0 hl0 hx0 W).mono fun e W' ⟨he, bel⟩ => ?_
  subst he
  exact ⟨_, rfl, _, _, _, [], _, [], hW', trodAll_mk1 (shut_bool Try.underlying4 _), (trodAll_cons_mk (shut_arr Try.underlying23 Try.underlying22 cells_0 cellsE_0 hl0 hw0) trodAll_mk0), rfl, bel.frame _, fun h => by cases h⟩
theorem k1 : Rows.fnExactMedianReadingRow.wf (OpenSpec.ofChange Rows.fnExactMedianReadingSpec) = true := by kernel_rfl
theorem k4 : Try.f6.params.all (Try.prog.readableRec ·) = true := by kernel_rfl
theorem k5 : namedTie Try.prog Rows.fnExactMedianReadingRow.named Rows.fnExactMedianReadingSpec.vars = true := by kernel_rfl
theorem k10 : (Rows.fnExactMedianReadingRow.inPlace == Try.prog.inPlace 6) = true := by kernel_rfl
theorem k11 : (Rows.fnExactMedianReadingRow.unfollowed == Try.prog.unfollowed 6) = true := by kernel_rfl
theorem k12 : (Rows.fnExactMedianReadingRow.recurses == Try.prog.recurses 6) = true := by kernel_rfl
theorem k13 : (Rows.fnExactMedianReadingRow.named == Try.prog.varsNamed 6) = true := by kernel_rfl
theorem k14 : (Rows.fnExactMedianReadingRow.maps == (Try.f6.params.toList ++ Rows.fnExactMedianReadingSpec.plain.varTypes Try.prog).any (Try.prog.mapsRec ·)) = true := by kernel_rfl
theorem k15 : (Rows.fnExactMedianReadingRow.ifaces == (Try.f6.params.toList ++ Rows.fnExactMedianReadingSpec.plain.varTypes Try.prog).any (Try.prog.ifacesRec ·)) = true := by kernel_rfl
theorem k16 : (Rows.fnExactMedianReadingRow.mapsOut == Try.prog.mapsAmong Try.f6.resultTypes.toList) = true := by kernel_rfl
theorem k17 : (Rows.fnExactMedianReadingRow.loops == (Try.f6.params.toList ++ Rows.fnExactMedianReadingSpec.plain.varTypes Try.prog).any (Try.prog.loopsFrom ·)) = true := by kernel_rfl
theorem k17b : (Rows.fnExactMedianReadingRow.wideKeys == (Try.f6.params.toList ++ Rows.fnExactMedianReadingSpec.plain.varTypes Try.prog ++ Try.f6.resultTypes.toList).any (Try.prog.wideKeysFrom ·)) = true := by kernel_rfl
theorem k18 : Rows.fnExactMedianReadingSpec.vars.all (Try.prog.varReadable ·) = true := by kernel_rfl
theorem k19 : Try.f6.resultTypes.all (fun t => Try.prog.readableRec t && decide (t < Try.prog.types.size)) = true := by kernel_rfl
theorem k20 : (Rows.fnExactMedianReadingRow.ifacesOut == Try.f6.resultTypes.toList.any (Try.prog.ifacesRec ·)) = true := by kernel_rfl
theorem k21 : (Rows.fnExactMedianReadingRow.loopsOut == Try.f6.resultTypes.toList.any (Try.prog.loopsFrom ·)) = true := by kernel_rfl
theorem k25 : (Rows.fnExactMedianReadingRow.kinds == (if Rows.fnExactMedianReadingRow.domain.isEmpty then [] else Try.f6.params.toList.map fun t => match Try.prog.underlying t with | some (.int k) => some k | _ => none)) = true := by kernel_rfl
theorem k26 : (Rows.fnExactMedianReadingRow.pinned == Rows.fnExactMedianReadingRow.pinnedBy) = true := by kernel_rfl
theorem k27 : (Rows.fnExactMedianReadingRow.veiled == (Try.f6.params.toList ++ Rows.fnExactMedianReadingSpec.plain.varTypes Try.prog ++ Try.f6.resultTypes.toList).any (Try.prog.veiledRec ·)) = true := by kernel_rfl
theorem k28 : Rows.fnExactMedianReadingRow.veiledFits Try.prog Try.f6.params.toList (Try.f6.params.toList ++ Rows.fnExactMedianReadingSpec.plain.varTypes Try.prog ++ Try.f6.resultTypes.toList) = true := by kernel_rfl
theorem kName : Try.prog.funcNamed Rows.fnExactMedianReadingRow.func = some 6 := by kernel_rfl
theorem kInst : Try.f6.isInstance Try.prog Rows.fnExactMedianReadingRow.origin Rows.fnExactMedianReadingRow.targs := of_decide_eq_true (by kernel_rfl)
theorem kWrap : Try.f6.isWrapper Try.prog Rows.fnExactMedianReadingRow.wrapper Rows.fnExactMedianReadingRow.mainSum := by
  unfold Func.isWrapper; first | (rw [if_pos (by decide +kernel)]; kernel_rfl) | (rw [if_neg (by decide +kernel)]; exact ⟨rfl, rfl⟩)
theorem closed : joinedFacts Try.prog 6 Try.f6 Rows.fnExactMedianReadingSpec Rows.fnExactMedianReadingRow = true :=
  joined_of k1 hfLaid hfMaps k4 k5 rfl hfStops rfl hfKnobs k10 k11 k12 k13 k14 k15 k16 k17 k17b k18 k19 k20 k21 hfKeys rfl rfl hfHeard hfEnter hfFinal rfl hfMake rfl k25 k26 k27 k28
theorem over : Rows.fnExactMedianReadingRow.holds Try.pinned (OpenSpec.ofChange Rows.fnExactMedianReadingSpec) :=
  OpenClaim.holds_of_wide 6 Try.f6 rfl rfl rfl rfl rfl rfl rfl ⟨rfl, rfl, rfl, rfl, rfl⟩ rfl rfl rfl rfl rfl kName Try.func6 closed kInst kWrap
    (fun os started H enc _ => lifted os started H enc)
end Go.Proofs.Ytmnidldpkkpeoaa.rowFnExactMedianReading
namespace Go.Proofs.Ytmnidldpkkpeoaa
theorem fnExactMedianReading_holds : Rows.FnExactMedianReadingSaid := rowFnExactMedianReading.over
#print axioms fnExactMedianReading_holds
end Go.Proofs.Ytmnidldpkkpeoaa
