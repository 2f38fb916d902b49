/- FnExactSamePlacing: the row. -/
import Derived.Test.YtejkdiinohndiaaRows
import Derived.Test.YtejkdiinohndiaaArgs
import Derived.Test.YtejkdiinohndiaaHead
import Derived.Test.YtejkdiinohndiaaSamePl
import Derived.WalkKit
import Derived.ProofKit
import Derived.OpenShut
import Derived.ShutString
import Derived.ChangeOld
import Derived.Below
import Derived.SizedLaws
namespace Go.Proofs.Ytejkdiinohndiaa.rowFnExactSamePlacing
open Go.ChangeShapes Go.WideShapes Go.ChangeAt Go.RowKit
open Go.ChangeMaps (open_string shut_string)
open Go.Joins (open_agg2 shut_agg2 open_agg3 shut_agg3 field_of_Trod)
set_option linter.unusedVariables false
set_option maxRecDepth 100000
theorem cells_0 : Try.prog.cellsOf 29 = 2 := by kernel_rfl
theorem cellsE_0 : Try.prog.cellsOf 22 = 1 := by kernel_rfl
set_option maxRecDepth 100000 in
theorem lifted (os : Os) (started : os.Started) (H : Type) (enc : TypeId × Value → H) :
    ReturnsInHanded {} Try.checked os 7 .any (Rows.fnExactSamePlacingSpec.pre6 enc Try.prog Try.f7 Rows.fnExactSamePlacingRow.domain false) (Rows.fnExactSamePlacingSpec.post enc Try.prog Try.f7 false true false false) := by
  refine returnsInHanded_of_change_sized (C := Try.checked) hfOwn started (by kernel_rfl) Try.func7
    (ChangeSpec.witness6 (enc := enc) (C := Try.checked) false ⟨#[], #[.agg #[.int .i8 0, .int .i8 0], .int .i64 0], []⟩ 8 (by kernel_rfl) (by kernel_rfl) (by kernel_rfl) (by kernel_rfl)) ?_
  intro W base args ds gs before hval0 hW hcnd hsz0 _
  have hsz : (DataW.weightsEach Try.prog (Try.f7.params.toList ++ Rows.fnExactSamePlacingSpec.plain.varTypes Try.prog) (ds ++ gs)).all (· ≤ reachBytes) = true := hsz0
  have hval : ∀ (j : Nat) t v, Try.f7.params[j]? = some t → args[j]? = some v → Value.okWide Try.prog W .any base t v := hval0
  have hW' := hW
  obtain ⟨p, q, hA0, hV, rfl, hfz, hnd⟩ := hW
  have hA : DataW.TrodAll enc Try.prog W 0 (fun _ => true) true Try.f7.params.toList args.toList ds p := hA0
  rw [Try.params7] at hA hval hsz
  obtain ⟨v0, vs0, d0, ds0, p0, q0, hargs, rfl, rfl, h0, r0⟩ := trodAll_cons hA
  obtain ⟨v1, vs1, d1, ds1, p1, q1, rfl, rfl, rfl, h1, r1⟩ := trodAll_cons r0
  obtain ⟨rfl, rfl, rfl⟩ := trodAll_nil r1
  obtain rfl : args = #[v0, v1] := by cases args; simp_all
  obtain ⟨rfl, rfl⟩ := trodVars_none hV
  obtain ⟨c0_0, c0_1, y0_0, y0_1, n0, rfl, rfl, rfl, g0_0, g0_1⟩ := open_agg2 Try.underlying29 (by kernel_rfl) cells_0 (hval 0 29 v0 rfl rfl) h0
  obtain ⟨a0_0, rfl, rfl, b0_0⟩ := read_int Try.underlying22 g0_0
  obtain ⟨a0_1, rfl, rfl, b0_1⟩ := read_int Try.underlying22 g0_1
  obtain ⟨a1, rfl, rfl, rfl, w1⟩ := open_int Try.underlying2 (hval 1 2 v1 rfl rfl) h1
  clear hA0 hval0 hsz0 hsz
  refine (lawSamePlacing_c a0_0 a0_1 (bounds_i8 b0_0) (bounds_i8 b0_1) a1 (bounds_i64 w1) W).mono fun e W' ⟨he, bel⟩ => ?_
  subst he
  exact ⟨_, rfl, _, _, _, [], _, [], hW', trodAll_mk1 (shut_bool Try.underlying4 _), (trodAll_cons_mk (shut_agg2 Try.underlying29 (by kernel_rfl) cells_0 (field_of_Trod (shut_int Try.underlying22 b0_0) rfl) (field_of_Trod (shut_int Try.underlying22 b0_1) rfl)) (trodAll_cons_mk (shut_int Try.underlying2 w1) trodAll_mk0)), rfl, bel.frame _, fun h => by cases h⟩
theorem k1 : Rows.fnExactSamePlacingRow.wf (OpenSpec.ofChange Rows.fnExactSamePlacingSpec) = true := by kernel_rfl
theorem k4 : Try.f7.params.all (Try.prog.readableRec ·) = true := by kernel_rfl
theorem k5 : namedTie Try.prog Rows.fnExactSamePlacingRow.named Rows.fnExactSamePlacingSpec.vars = true := by kernel_rfl
theorem k10 : (Rows.fnExactSamePlacingRow.inPlace == Try.prog.inPlace 7) = true := by kernel_rfl
theorem k11 : (Rows.fnExactSamePlacingRow.unfollowed == Try.prog.unfollowed 7) = true := by kernel_rfl
theorem k12 : (Rows.fnExactSamePlacingRow.recurses == Try.prog.recurses 7) = true := by kernel_rfl
theorem k13 : (Rows.fnExactSamePlacingRow.named == Try.prog.varsNamed 7) = true := by kernel_rfl
theorem k14 : (Rows.fnExactSamePlacingRow.maps == (Try.f7.params.toList ++ Rows.fnExactSamePlacingSpec.plain.varTypes Try.prog).any (Try.prog.mapsRec ·)) = true := by kernel_rfl
theorem k15 : (Rows.fnExactSamePlacingRow.ifaces == (Try.f7.params.toList ++ Rows.fnExactSamePlacingSpec.plain.varTypes Try.prog).any (Try.prog.ifacesRec ·)) = true := by kernel_rfl
theorem k16 : (Rows.fnExactSamePlacingRow.mapsOut == Try.prog.mapsAmong Try.f7.resultTypes.toList) = true := by kernel_rfl
theorem k17 : (Rows.fnExactSamePlacingRow.loops == (Try.f7.params.toList ++ Rows.fnExactSamePlacingSpec.plain.varTypes Try.prog).any (Try.prog.loopsFrom ·)) = true := by kernel_rfl
theorem k17b : (Rows.fnExactSamePlacingRow.wideKeys == (Try.f7.params.toList ++ Rows.fnExactSamePlacingSpec.plain.varTypes Try.prog ++ Try.f7.resultTypes.toList).any (Try.prog.wideKeysFrom ·)) = true := by kernel_rfl
theorem k18 : Rows.fnExactSamePlacingSpec.vars.all (Try.prog.varReadable ·) = true := by kernel_rfl
theorem k19 : Try.f7.resultTypes.all (fun t => Try.prog.readableRec t && decide (t < Try.prog.types.size)) = true := by kernel_rfl
theorem k20 : (Rows.fnExactSamePlacingRow.ifacesOut == Try.f7.resultTypes.toList.any (Try.prog.ifacesRec ·)) = true := by kernel_rfl
theorem k21 : (Rows.fnExactSamePlacingRow.loopsOut == Try.f7.resultTypes.toList.any (Try.prog.loopsFrom ·)) = true := by kernel_rfl
theorem k25 : (Rows.fnExactSamePlacingRow.kinds == (if Rows.fnExactSamePlacingRow.domain.isEmpty then [] else Try.f7.params.toList.map fun t => match Try.prog.underlying t with | some (.int k) => some k | _ => none)) = true := by kernel_rfl
theorem k26 : (Rows.fnExactSamePlacingRow.pinned == Rows.fnExactSamePlacingRow.pinnedBy) = true := by kernel_rfl
theorem k27 : (Rows.fnExactSamePlacingRow.veiled == (Try.f7.params.toList ++ Rows.fnExactSamePlacingSpec.plain.varTypes Try.prog ++ Try.f7.resultTypes.toList).any (Try.prog.veiledRec ·)) = true := by kernel_rfl
theorem k28 : Rows.fnExactSamePlacingRow.veiledFits Try.prog Try.f7.params.toList (Try.f7.params.toList ++ Rows.fnExactSamePlacingSpec.plain.varTypes Try.prog ++ Try.f7.resultTypes.toList) = true := by kernel_rfl
theorem kName : Try.prog.funcNamed Rows.fnExactSamePlacingRow.func = some 7 := by kernel_rfl
theorem kInst : Try.f7.isInstance Try.prog Rows.fnExactSamePlacingRow.origin Rows.fnExactSamePlacingRow.targs := of_decide_eq_true (by kernel_rfl)
theorem kWrap : Try.f7.isWrapper Try.prog Rows.fnExactSamePlacingRow.wrapper Rows.fnExactSamePlacingRow.mainSum := by
  unfold Func.isWrapper; first | (rw [if_pos (by decide +kernel)]; kernel_rfl) | (rw [if_neg (by decide +kernel)]; exact ⟨rfl, rfl⟩)
theorem closed : joinedFacts Try.prog 7 Try.f7 Rows.fnExactSamePlacingSpec Rows.fnExactSamePlacingRow = true :=
  joined_of k1 hfLaid hfMaps k4 k5 rfl hfStops rfl hfKnobs k10 k11 k12 k13 k14 k15 k16 k17 k17b k18 k19 k20 k21 hfKeys rfl rfl hfHeard hfEnter hfFinal rfl hfMake rfl k25 k26 k27 k28
theorem over : Rows.fnExactSamePlacingRow.holds Try.pinned (OpenSpec.ofChange Rows.fnExactSamePlacingSpec) :=
  OpenClaim.holds_of_wide 7 Try.f7 rfl rfl rfl rfl rfl rfl rfl ⟨rfl, rfl, rfl, rfl, rfl⟩ rfl rfl rfl rfl rfl kName Try.func7 closed kInst kWrap
    (fun os started H enc _ => lifted os started H enc)
end Go.Proofs.Ytejkdiinohndiaa.rowFnExactSamePlacing
namespace Go.Proofs.Ytejkdiinohndiaa
theorem fnExactSamePlacing_holds : Rows.FnExactSamePlacingSaid := rowFnExactSamePlacing.over
#print axioms fnExactSamePlacing_holds
end Go.Proofs.Ytejkdiinohndiaa
