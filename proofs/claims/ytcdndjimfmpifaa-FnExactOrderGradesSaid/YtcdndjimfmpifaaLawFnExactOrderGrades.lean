/- FnExactOrderGrades: the row. -/
import Derived.Test.YtcdndjimfmpifaaRows
import Derived.Test.YtcdndjimfmpifaaArgs
import Derived.Test.YtcdndjimfmpifaaHead
import Derived.Test.YtcdndjimfmpifaaArgC
import Derived.Test.YtcdndjimfmpifaaLOrdG
import Derived.WalkKit
import Derived.ProofKit
import Derived.OpenShut
import Derived.ShutString
import Derived.ChangeOld
import Derived.Below
import Derived.SizedLaws
namespace Go.Proofs.Ytcdndjimfmpifaa.rowFnExactOrderGrades
open Go.ChangeShapes Go.WideShapes Go.ChangeAt Go.RowKit
open Go.ChangeMaps (open_string shut_string)
open Go.Joins (open_agg2 shut_agg2 open_agg3 shut_agg3 field_of_Trod)
set_option linter.unusedVariables false
set_option maxRecDepth 100000
theorem cellsC_0 : Try.prog.cellsOf 52 = 1 := by kernel_rfl
theorem cellsP_0 : Try.prog.cellsOf 80 = 2 := by kernel_rfl
theorem cellsE_0 : Try.prog.cellsOf 76 = 1 := by kernel_rfl
set_option maxRecDepth 100000 in
theorem lifted (os : Os) (started : os.Started) (H : Type) (enc : TypeId × Value → H) :
    ReturnsInHanded {} Try.checked os 4 .any (Rows.fnExactOrderGradesSpec.pre6 enc Try.prog Try.f4 Rows.fnExactOrderGradesRow.domain false) (Rows.fnExactOrderGradesSpec.post enc Try.prog Try.f4 false true false false) := by
  refine returnsInHanded_of_change_sized (C := Try.checked) hfOwn started (by kernel_rfl) Try.func4
    (ChangeSpec.witness6 (enc := enc) (C := Try.checked) false ⟨#[], #[.slice none 0 0, .int .i64 0, .int .i64 0], []⟩ 8 (by kernel_rfl) (by kernel_rfl) (by kernel_rfl) (by kernel_rfl)) ?_
  intro W base args ds gs before hval0 hW hcnd hsz0 _
  have hsz : (DataW.weightsEach Try.prog (Try.f4.params.toList ++ Rows.fnExactOrderGradesSpec.plain.varTypes Try.prog) (ds ++ gs)).all (· ≤ reachBytes) = true := hsz0
  have hval : ∀ (j : Nat) t v, Try.f4.params[j]? = some t → args[j]? = some v → Value.okWide Try.prog W .any base t v := hval0
  have hW' := hW
  obtain ⟨p, q, hA0, hV, rfl, hfz, hnd⟩ := hW
  have hA : DataW.TrodAll enc Try.prog W 0 (fun _ => true) true Try.f4.params.toList args.toList ds p := hA0
  rw [Try.params4] at hA hval hsz
  obtain ⟨v0, vs0, d0, ds0, p0, q0, hargs, rfl, rfl, h0, r0⟩ := trodAll_cons hA
  obtain ⟨v1, vs1, d1, ds1, p1, q1, rfl, rfl, rfl, h1, r1⟩ := trodAll_cons r0
  obtain ⟨v2, vs2, d2, ds2, p2, q2, rfl, rfl, rfl, h2, r2⟩ := trodAll_cons r1
  obtain ⟨rfl, rfl, rfl⟩ := trodAll_nil r2
  obtain rfl : args = #[v0, v1, v2] := by cases args; simp_all
  obtain ⟨rfl, rfl⟩ := trodVars_none hV
  have hk0 := h0
  have hlt0 : ∀ x ∈ p0, x.block < W.heap.size := fun x hx => hW'.lt x (by simp [hx])
  obtain ⟨s0, n0, c0, l0, rfl, hl0, hn0, hz0, hp0⟩ := open_curves Try.underlying22 Try.underlying52 Try.underlying80 cellsC_0 cellsP_0 rfl rfl rfl rfl Try.underlying76 cellsE_0 (hval 0 22 v0 rfl rfl) h0
  obtain ⟨a1, rfl, rfl, rfl, w1⟩ := open_int Try.underlying2 (hval 1 2 v1 rfl rfl) h1
  obtain ⟨a2, rfl, rfl, rfl, w2⟩ := open_int Try.underlying2 (hval 2 2 v2 rfl rfl) h2
  clear hA0 hval0 hsz0 hsz
  refine (lawOrdG_c s0 n0 c0 l0 hl0 hn0 hz0 a1 (bounds_i64 w1) a2 (bounds_i64 w2) W hp0).mono fun e W' ⟨he, bel⟩ => ?_
  subst he
  exact ⟨_, rfl, _, _, _, [], _, [], hW', trodAll_mk1 (shut_bool Try.underlying4 _), (trodAll_cons_mk (Below.trod hfLaid (by kernel_rfl) (of_decide_eq_true (by kernel_rfl)) hk0 bel hlt0) (trodAll_cons_mk (shut_int Try.underlying2 w1) (trodAll_cons_mk (shut_int Try.underlying2 w2) trodAll_mk0))), rfl, bel.frame _, fun h => by cases h⟩
theorem k1 : Rows.fnExactOrderGradesRow.wf (OpenSpec.ofChange Rows.fnExactOrderGradesSpec) = true := by kernel_rfl
theorem k4 : Try.f4.params.all (Try.prog.readableRec ·) = true := by kernel_rfl
theorem k5 : namedTie Try.prog Rows.fnExactOrderGradesRow.named Rows.fnExactOrderGradesSpec.vars = true := by kernel_rfl
theorem k10 : (Rows.fnExactOrderGradesRow.inPlace == Try.prog.inPlace 4) = true := by kernel_rfl
theorem k11 : (Rows.fnExactOrderGradesRow.unfollowed == Try.prog.unfollowed 4) = true := by kernel_rfl
theorem k12 : (Rows.fnExactOrderGradesRow.recurses == Try.prog.recurses 4) = true := by kernel_rfl
theorem k13 : (Rows.fnExactOrderGradesRow.named == Try.prog.varsNamed 4) = true := by kernel_rfl
theorem k14 : (Rows.fnExactOrderGradesRow.maps == (Try.f4.params.toList ++ Rows.fnExactOrderGradesSpec.plain.varTypes Try.prog).any (Try.prog.mapsRec ·)) = true := by kernel_rfl
theorem k15 : (Rows.fnExactOrderGradesRow.ifaces == (Try.f4.params.toList ++ Rows.fnExactOrderGradesSpec.plain.varTypes Try.prog).any (Try.prog.ifacesRec ·)) = true := by kernel_rfl
theorem k16 : (Rows.fnExactOrderGradesRow.mapsOut == Try.prog.mapsAmong Try.f4.resultTypes.toList) = true := by kernel_rfl
theorem k17 : (Rows.fnExactOrderGradesRow.loops == (Try.f4.params.toList ++ Rows.fnExactOrderGradesSpec.plain.varTypes Try.prog).any (Try.prog.loopsFrom ·)) = true := by kernel_rfl
theorem k17b : (Rows.fnExactOrderGradesRow.wideKeys == (Try.f4.params.toList ++ Rows.fnExactOrderGradesSpec.plain.varTypes Try.prog ++ Try.f4.resultTypes.toList).any (Try.prog.wideKeysFrom ·)) = true := by kernel_rfl
theorem k18 : Rows.fnExactOrderGradesSpec.vars.all (Try.prog.varReadable ·) = true := by kernel_rfl
theorem k19 : Try.f4.resultTypes.all (fun t => Try.prog.readableRec t && decide (t < Try.prog.types.size)) = true := by kernel_rfl
theorem k20 : (Rows.fnExactOrderGradesRow.ifacesOut == Try.f4.resultTypes.toList.any (Try.prog.ifacesRec ·)) = true := by kernel_rfl
theorem k21 : (Rows.fnExactOrderGradesRow.loopsOut == Try.f4.resultTypes.toList.any (Try.prog.loopsFrom ·)) = true := by kernel_rfl
theorem k25 : (Rows.fnExactOrderGradesRow.kinds == (if Rows.fnExactOrderGradesRow.domain.isEmpty then [] else Try.f4.params.toList.map fun t => match Try.prog.underlying t with | some (.int k) => some k | _ => none)) = true := by kernel_rfl
theorem k26 : (Rows.fnExactOrderGradesRow.pinned == Rows.fnExactOrderGradesRow.pinnedBy) = true := by kernel_rfl
theorem k27 : (Rows.fnExactOrderGradesRow.veiled == (Try.f4.params.toList ++ Rows.fnExactOrderGradesSpec.plain.varTypes Try.prog ++ Try.f4.resultTypes.toList).any (Try.prog.veiledRec ·)) = true := by kernel_rfl
theorem k28 : Rows.fnExactOrderGradesRow.veiledFits Try.prog Try.f4.params.toList (Try.f4.params.toList ++ Rows.fnExactOrderGradesSpec.plain.varTypes Try.prog ++ Try.f4.resultTypes.toList) = true := by kernel_rfl
theorem kName : Try.prog.funcNamed Rows.fnExactOrderGradesRow.func = some 4 := by kernel_rfl
theorem kInst : Try.f4.isInstance Try.prog Rows.fnExactOrderGradesRow.origin Rows.fnExactOrderGradesRow.targs := of_decide_eq_true (by kernel_rfl)
theorem kWrap : Try.f4.isWrapper Try.prog Rows.fnExactOrderGradesRow.wrapper Rows.fnExactOrderGradesRow.mainSum := by
  unfold Func.isWrapper; first | (rw [if_pos (by decide +kernel)]; kernel_rfl) | (rw [if_neg (by decide +kernel)]; exact ⟨rfl, rfl⟩)
theorem closed : joinedFacts Try.prog 4 Try.f4 Rows.fnExactOrderGradesSpec Rows.fnExactOrderGradesRow = true :=
  joined_of k1 hfLaid hfMaps k4 k5 rfl hfStops rfl hfKnobs k10 k11 k12 k13 k14 k15 k16 k17 k17b k18 k19 k20 k21 hfKeys rfl rfl hfHeard hfEnter hfFinal rfl hfMake rfl k25 k26 k27 k28
theorem over : Rows.fnExactOrderGradesRow.holds Try.pinned (OpenSpec.ofChange Rows.fnExactOrderGradesSpec) :=
  OpenClaim.holds_of_wide 4 Try.f4 rfl rfl rfl rfl rfl rfl rfl ⟨rfl, rfl, rfl, rfl, rfl⟩ rfl rfl rfl rfl rfl kName Try.func4 closed kInst kWrap
    (fun os started H enc _ => lifted os started H enc)
end Go.Proofs.Ytcdndjimfmpifaa.rowFnExactOrderGrades
namespace Go.Proofs.Ytcdndjimfmpifaa
theorem fnExactOrderGrades_holds : Rows.FnExactOrderGradesSaid := rowFnExactOrderGrades.over
#print axioms fnExactOrderGrades_holds
end Go.Proofs.Ytcdndjimfmpifaa
