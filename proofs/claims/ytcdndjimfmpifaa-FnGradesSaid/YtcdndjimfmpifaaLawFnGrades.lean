/- FnGrades: the row. -/
import Derived.Test.YtcdndjimfmpifaaRows
import Derived.Test.YtcdndjimfmpifaaArgs
import Derived.Test.YtcdndjimfmpifaaHead
import Derived.Test.YtcdndjimfmpifaaLGrades
import Derived.Test.YtcdndjimfmpifaaArgB
import Derived.WalkKit
import Derived.ProofKit
import Derived.OpenShut
import Derived.ShutString
import Derived.ChangeOld
import Derived.Below
import Derived.SizedLaws
namespace Go.Proofs.Ytcdndjimfmpifaa.rowFnGrades
open Go.ChangeShapes Go.WideShapes Go.ChangeAt Go.RowKit
open Go.ChangeMaps (open_string shut_string)
open Go.Joins (open_agg2 shut_agg2 open_agg3 shut_agg3 field_of_Trod)
set_option linter.unusedVariables false
set_option maxRecDepth 100000
theorem cellsE_0 : Try.prog.cellsOf 5 = 1 := by kernel_rfl
theorem cellsE_1 : Try.prog.cellsOf 5 = 1 := by kernel_rfl
set_option maxRecDepth 100000 in
theorem lifted (os : Os) (started : os.Started) (H : Type) (enc : TypeId × Value → H) :
    ReturnsInHanded {} Try.checked os 5 .any (Rows.fnGradesSpec.pre6 enc Try.prog Try.f5 Rows.fnGradesRow.domain false) (Rows.fnGradesSpec.post enc Try.prog Try.f5 false true false false) := by
  refine returnsInHanded_of_change_sized (C := Try.checked) hfOwn started (by kernel_rfl) Try.func5
    (ChangeSpec.witness6 (enc := enc) (C := Try.checked) false ⟨#[], #[.slice none 0 0, .slice none 0 0], []⟩ 8 (by kernel_rfl) (by kernel_rfl) (by kernel_rfl) (by kernel_rfl)) ?_
  intro W base args ds gs before hval0 hW hcnd hsz0 _
  have hsz : (DataW.weightsEach Try.prog (Try.f5.params.toList ++ Rows.fnGradesSpec.plain.varTypes Try.prog) (ds ++ gs)).all (· ≤ reachBytes) = true := hsz0
  have hval : ∀ (j : Nat) t v, Try.f5.params[j]? = some t → args[j]? = some v → Value.okWide Try.prog W .any base t v := hval0
  have hW' := hW
  obtain ⟨p, q, hA0, hV, rfl, hfz, hnd⟩ := hW
  have hA : DataW.TrodAll enc Try.prog W 0 (fun _ => true) true Try.f5.params.toList args.toList ds p := hA0
  rw [Try.params5] at hA hval hsz
  obtain ⟨v0, vs0, d0, ds0, p0, q0, hargs, rfl, rfl, h0, r0⟩ := trodAll_cons hA
  obtain ⟨v1, vs1, d1, ds1, p1, q1, rfl, rfl, rfl, h1, r1⟩ := trodAll_cons r0
  obtain ⟨rfl, rfl, rfl⟩ := trodAll_nil r1
  obtain rfl : args = #[v0, v1] := by cases args; simp_all
  obtain ⟨rfl, rfl⟩ := trodVars_none hV
  have hk0 := h0
  have hlt0 : ∀ x ∈ p0, x.block < W.heap.size := fun x hx => hW'.lt x (by simp [hx])
  obtain ⟨n0, hq0⟩ := open_bytesV Try.underlying37 Try.underlying5 cellsE_0 (hval 0 37 v0 rfl rfl) h0
  have hk1 := h1
  have hlt1 : ∀ x ∈ p1, x.block < W.heap.size := fun x hx => hW'.lt x (by simp [hx])
  obtain ⟨n1, hq1⟩ := open_bytesV Try.underlying37 Try.underlying5 cellsE_1 (hval 1 37 v1 rfl rfl) h1
  clear hA0 hval0 hsz0 hsz
  refine (lawGrades_c v0 n0 v1 n1 W hq0 hq1).mono fun e W' ⟨he, bel⟩ => ?_
  subst he
  exact ⟨_, rfl, _, _, _, [], _, [], hW', trodAll_mk1 (shut_bool Try.underlying4 _), (trodAll_cons_mk (Below.trod hfLaid (by kernel_rfl) (of_decide_eq_true (by kernel_rfl)) hk0 bel hlt0) (trodAll_cons_mk (Below.trod hfLaid (by kernel_rfl) (of_decide_eq_true (by kernel_rfl)) hk1 bel hlt1) trodAll_mk0)), rfl, bel.frame _, fun h => by cases h⟩
theorem k1 : Rows.fnGradesRow.wf (OpenSpec.ofChange Rows.fnGradesSpec) = true := by kernel_rfl
theorem k4 : Try.f5.params.all (Try.prog.readableRec ·) = true := by kernel_rfl
theorem k5 : namedTie Try.prog Rows.fnGradesRow.named Rows.fnGradesSpec.vars = true := by kernel_rfl
theorem k10 : (Rows.fnGradesRow.inPlace == Try.prog.inPlace 5) = true := by kernel_rfl
theorem k11 : (Rows.fnGradesRow.unfollowed == Try.prog.unfollowed 5) = true := by kernel_rfl
theorem k12 : (Rows.fnGradesRow.recurses == Try.prog.recurses 5) = true := by kernel_rfl
theorem k13 : (Rows.fnGradesRow.named == Try.prog.varsNamed 5) = true := by kernel_rfl
theorem k14 : (Rows.fnGradesRow.maps == (Try.f5.params.toList ++ Rows.fnGradesSpec.plain.varTypes Try.prog).any (Try.prog.mapsRec ·)) = true := by kernel_rfl
theorem k15 : (Rows.fnGradesRow.ifaces == (Try.f5.params.toList ++ Rows.fnGradesSpec.plain.varTypes Try.prog).any (Try.prog.ifacesRec ·)) = true := by kernel_rfl
theorem k16 : (Rows.fnGradesRow.mapsOut == Try.prog.mapsAmong Try.f5.resultTypes.toList) = true := by kernel_rfl
theorem k17 : (Rows.fnGradesRow.loops == (Try.f5.params.toList ++ Rows.fnGradesSpec.plain.varTypes Try.prog).any (Try.prog.loopsFrom ·)) = true := by kernel_rfl
theorem k17b : (Rows.fnGradesRow.wideKeys == (Try.f5.params.toList ++ Rows.fnGradesSpec.plain.varTypes Try.prog ++ Try.f5.resultTypes.toList).any (Try.prog.wideKeysFrom ·)) = true := by kernel_rfl
theorem k18 : Rows.fnGradesSpec.vars.all (Try.prog.varReadable ·) = true := by kernel_rfl
theorem k19 : Try.f5.resultTypes.all (fun t => Try.prog.readableRec t && decide (t < Try.prog.types.size)) = true := by kernel_rfl
theorem k20 : (Rows.fnGradesRow.ifacesOut == Try.f5.resultTypes.toList.any (Try.prog.ifacesRec ·)) = true := by kernel_rfl
theorem k21 : (Rows.fnGradesRow.loopsOut == Try.f5.resultTypes.toList.any (Try.prog.loopsFrom ·)) = true := by kernel_rfl
theorem k25 : (Rows.fnGradesRow.kinds == (if Rows.fnGradesRow.domain.isEmpty then [] else Try.f5.params.toList.map fun t => match Try.prog.underlying t with | some (.int k) => some k | _ => none)) = true := by kernel_rfl
theorem k26 : (Rows.fnGradesRow.pinned == Rows.fnGradesRow.pinnedBy) = true := by kernel_rfl
theorem k27 : (Rows.fnGradesRow.veiled == (Try.f5.params.toList ++ Rows.fnGradesSpec.plain.varTypes Try.prog ++ Try.f5.resultTypes.toList).any (Try.prog.veiledRec ·)) = true := by kernel_rfl
theorem k28 : Rows.fnGradesRow.veiledFits Try.prog Try.f5.params.toList (Try.f5.params.toList ++ Rows.fnGradesSpec.plain.varTypes Try.prog ++ Try.f5.resultTypes.toList) = true := by kernel_rfl
theorem kName : Try.prog.funcNamed Rows.fnGradesRow.func = some 5 := by kernel_rfl
theorem kInst : Try.f5.isInstance Try.prog Rows.fnGradesRow.origin Rows.fnGradesRow.targs := of_decide_eq_true (by kernel_rfl)
theorem kWrap : Try.f5.isWrapper Try.prog Rows.fnGradesRow.wrapper Rows.fnGradesRow.mainSum := by
  unfold Func.isWrapper; first | (rw [if_pos (by decide +kernel)]; kernel_rfl) | (rw [if_neg (by decide +kernel)]; exact ⟨rfl, rfl⟩)
theorem closed : joinedFacts Try.prog 5 Try.f5 Rows.fnGradesSpec Rows.fnGradesRow = true :=
  joined_of k1 hfLaid hfMaps k4 k5 rfl hfStops rfl hfKnobs k10 k11 k12 k13 k14 k15 k16 k17 k17b k18 k19 k20 k21 hfKeys rfl rfl hfHeard hfEnter hfFinal rfl hfMake rfl k25 k26 k27 k28
theorem over : Rows.fnGradesRow.holds Try.pinned (OpenSpec.ofChange Rows.fnGradesSpec) :=
  OpenClaim.holds_of_wide 5 Try.f5 rfl rfl rfl rfl rfl rfl rfl ⟨rfl, rfl, rfl, rfl, rfl⟩ rfl rfl rfl rfl rfl kName Try.func5 closed kInst kWrap
    (fun os started H enc _ => lifted os started H enc)
end Go.Proofs.Ytcdndjimfmpifaa.rowFnGrades
namespace Go.Proofs.Ytcdndjimfmpifaa
theorem fnGrades_holds : Rows.FnGradesSaid := rowFnGrades.over
#print axioms fnGrades_holds
end Go.Proofs.Ytcdndjimfmpifaa
