/- FnExactSceneRange: the row. -/
import Derived.Test.YtejkdiinohndiaaRows
import Derived.Test.YtejkdiinohndiaaArgs
import Derived.Test.YtejkdiinohndiaaHead
import Derived.Test.YtejkdiinohndiaaRange
import Derived.WalkKit
import Derived.ProofKit
import Derived.OpenShut
import Derived.ShutString
import Derived.ChangeOld
import Derived.Below
import Derived.SizedLaws
namespace Go.Proofs.Ytejkdiinohndiaa.rowFnExactSceneRange
open Go.ChangeShapes Go.WideShapes Go.ChangeAt Go.RowKit
open Go.ChangeMaps (open_string shut_string)
open Go.Joins (open_agg2 shut_agg2 open_agg3 shut_agg3 field_of_Trod)
set_option linter.unusedVariables false
set_option maxRecDepth 100000
theorem cells_0 : Try.prog.cellsOf 34 = 24 := by kernel_rfl
theorem cellsE_0 : Try.prog.cellsOf 22 = 1 := by kernel_rfl
set_option maxRecDepth 100000 in
theorem lifted (os : Os) (started : os.Started) (H : Type) (enc : TypeId × Value → H) :
    ReturnsInHanded {} Try.checked os 11 .any (Rows.fnExactSceneRangeSpec.pre6 enc Try.prog Try.f11 Rows.fnExactSceneRangeRow.domain false) (Rows.fnExactSceneRangeSpec.post enc Try.prog Try.f11 false true false false) := by
  refine returnsInHanded_of_change_sized (C := Try.checked) hfOwn started (by kernel_rfl) Try.func11
    (ChangeSpec.witness6 (enc := enc) (C := Try.checked) false ⟨#[], #[.agg #[.int .i8 0, .int .i8 0, .int .i8 0, .int .i8 0, .int .i8 0, .int .i8 0, .int .i8 0, .int .i8 0, .int .i8 0, .int .i8 0, .int .i8 0, .int .i8 0, .int .i8 0, .int .i8 0, .int .i8 0, .int .i8 0, .int .i8 0, .int .i8 0, .int .i8 0, .int .i8 0, .int .i8 0, .int .i8 0, .int .i8 0, .int .i8 0]], []⟩ 8 (by kernel_rfl) (by kernel_rfl) (by kernel_rfl) (by kernel_rfl)) ?_
  intro W base args ds gs before hval0 hW hcnd hsz0 _
  have hsz : (DataW.weightsEach Try.prog (Try.f11.params.toList ++ Rows.fnExactSceneRangeSpec.plain.varTypes Try.prog) (ds ++ gs)).all (· ≤ reachBytes) = true := hsz0
  have hval : ∀ (j : Nat) t v, Try.f11.params[j]? = some t → args[j]? = some v → Value.okWide Try.prog W .any base t v := hval0
  have hW' := hW
  obtain ⟨p, q, hA0, hV, rfl, hfz, hnd⟩ := hW
  have hA : DataW.TrodAll enc Try.prog W 0 (fun _ => true) true Try.f11.params.toList args.toList ds p := hA0
  rw [Try.params11] at hA hval hsz
  obtain ⟨v0, vs0, d0, ds0, p0, q0, hargs, rfl, rfl, h0, r0⟩ := trodAll_cons hA
  obtain ⟨rfl, rfl, rfl⟩ := trodAll_nil r0
  obtain rfl : args = #[v0] := by cases args; simp_all
  obtain ⟨rfl, rfl⟩ := trodVars_none hV
  obtain ⟨xs0, rfl, hl0, hw0, rfl, rfl⟩ := open_arr Try.underlying34 Try.underlying22 cells_0 cellsE_0 (hval 0 34 v0 rfl rfl) h0
  have hx0 := rangei8_of hw0
  clear hA0 hval0 hsz0 hsz
  refine (lawSceneRange_c xs0 hl0 hx0 W).mono fun e W' ⟨he, bel⟩ => ?_
  subst he
  exact ⟨_, rfl, _, _, _, [], _, [], hW', trodAll_mk1 (shut_bool Try.underlying4 _), (trodAll_cons_mk (shut_arr Try.underlying34 Try.underlying22 cells_0 cellsE_0 hl0 hw0) trodAll_mk0), rfl, bel.frame _, fun h => by cases h⟩
theorem k1 : Rows.fnExactSceneRangeRow.wf (OpenSpec.ofChange Rows.fnExactSceneRangeSpec) = true := by kernel_rfl
theorem k4 : Try.f11.params.all (Try.prog.readableRec ·) = true := by kernel_rfl
theorem k5 : namedTie Try.prog Rows.fnExactSceneRangeRow.named Rows.fnExactSceneRangeSpec.vars = true := by kernel_rfl
theorem k10 : (Rows.fnExactSceneRangeRow.inPlace == Try.prog.inPlace 11) = true := by kernel_rfl
theorem k11 : (Rows.fnExactSceneRangeRow.unfollowed == Try.prog.unfollowed 11) = true := by kernel_rfl
theorem k12 : (Rows.fnExactSceneRangeRow.recurses == Try.prog.recurses 11) = true := by kernel_rfl
theorem k13 : (Rows.fnExactSceneRangeRow.named == Try.prog.varsNamed 11) = true := by kernel_rfl
theorem k14 : (Rows.fnExactSceneRangeRow.maps == (Try.f11.params.toList ++ Rows.fnExactSceneRangeSpec.plain.varTypes Try.prog).any (Try.prog.mapsRec ·)) = true := by kernel_rfl
theorem k15 : (Rows.fnExactSceneRangeRow.ifaces == (Try.f11.params.toList ++ Rows.fnExactSceneRangeSpec.plain.varTypes Try.prog).any (Try.prog.ifacesRec ·)) = true := by kernel_rfl
theorem k16 : (Rows.fnExactSceneRangeRow.mapsOut == Try.prog.mapsAmong Try.f11.resultTypes.toList) = true := by kernel_rfl
theorem k17 : (Rows.fnExactSceneRangeRow.loops == (Try.f11.params.toList ++ Rows.fnExactSceneRangeSpec.plain.varTypes Try.prog).any (Try.prog.loopsFrom ·)) = true := by kernel_rfl
theorem k17b : (Rows.fnExactSceneRangeRow.wideKeys == (Try.f11.params.toList ++ Rows.fnExactSceneRangeSpec.plain.varTypes Try.prog ++ Try.f11.resultTypes.toList).any (Try.prog.wideKeysFrom ·)) = true := by kernel_rfl
theorem k18 : Rows.fnExactSceneRangeSpec.vars.all (Try.prog.varReadable ·) = true := by kernel_rfl
theorem k19 : Try.f11.resultTypes.all (fun t => Try.prog.readableRec t && decide (t < Try.prog.types.size)) = true := by kernel_rfl
theorem k20 : (Rows.fnExactSceneRangeRow.ifacesOut == Try.f11.resultTypes.toList.any (Try.prog.ifacesRec ·)) = true := by kernel_rfl
theorem k21 : (Rows.fnExactSceneRangeRow.loopsOut == Try.f11.resultTypes.toList.any (Try.prog.loopsFrom ·)) = true := by kernel_rfl
theorem k25 : (Rows.fnExactSceneRangeRow.kinds == (if Rows.fnExactSceneRangeRow.domain.isEmpty then [] else Try.f11.params.toList.map fun t => match Try.prog.underlying t with | some (.int k) => some k | _ => none)) = true := by kernel_rfl
theorem k26 : (Rows.fnExactSceneRangeRow.pinned == Rows.fnExactSceneRangeRow.pinnedBy) = true := by kernel_rfl
theorem k27 : (Rows.fnExactSceneRangeRow.veiled == (Try.f11.params.toList ++ Rows.fnExactSceneRangeSpec.plain.varTypes Try.prog ++ Try.f11.resultTypes.toList).any (Try.prog.veiledRec ·)) = true := by kernel_rfl
theorem k28 : Rows.fnExactSceneRangeRow.veiledFits Try.prog Try.f11.params.toList (Try.f11.params.toList ++ Rows.fnExactSceneRangeSpec.plain.varTypes Try.prog ++ Try.f11.resultTypes.toList) = true := by kernel_rfl
theorem kName : Try.prog.funcNamed Rows.fnExactSceneRangeRow.func = some 11 := by kernel_rfl
theorem kInst : Try.f11.isInstance Try.prog Rows.fnExactSceneRangeRow.origin Rows.fnExactSceneRangeRow.targs := of_decide_eq_true (by kernel_rfl)
theorem kWrap : Try.f11.isWrapper Try.prog Rows.fnExactSceneRangeRow.wrapper Rows.fnExactSceneRangeRow.mainSum := by
  unfold Func.isWrapper; first | (rw [if_pos (by decide +kernel)]; kernel_rfl) | (rw [if_neg (by decide +kernel)]; exact ⟨rfl, rfl⟩)
theorem closed : joinedFacts Try.prog 11 Try.f11 Rows.fnExactSceneRangeSpec Rows.fnExactSceneRangeRow = true :=
  joined_of k1 hfLaid hfMaps k4 k5 rfl hfStops rfl hfKnobs k10 k11 k12 k13 k14 k15 k16 k17 k17b k18 k19 k20 k21 hfKeys rfl rfl hfHeard hfEnter hfFinal rfl hfMake rfl k25 k26 k27 k28
theorem over : Rows.fnExactSceneRangeRow.holds Try.pinned (OpenSpec.ofChange Rows.fnExactSceneRangeSpec) :=
  OpenClaim.holds_of_wide 11 Try.f11 rfl rfl rfl rfl rfl rfl rfl ⟨rfl, rfl, rfl, rfl, rfl⟩ rfl rfl rfl rfl rfl kName Try.func11 closed kInst kWrap
    (fun os started H enc _ => lifted os started H enc)
end Go.Proofs.Ytejkdiinohndiaa.rowFnExactSceneRange
namespace Go.Proofs.Ytejkdiinohndiaa
theorem fnExactSceneRange_holds : Rows.FnExactSceneRangeSaid := rowFnExactSceneRange.over
#print axioms fnExactSceneRange_holds
end Go.Proofs.Ytejkdiinohndiaa
