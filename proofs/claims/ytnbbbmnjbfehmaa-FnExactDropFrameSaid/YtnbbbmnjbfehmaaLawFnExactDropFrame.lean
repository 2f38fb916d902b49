/- FnExactDropFrame: the row. -/
import Derived.Test.YtnbbbmnjbfehmaaRows
import Derived.Test.YtnbbbmnjbfehmaaArgs
import Derived.Test.YtnbbbmnjbfehmaaHead
import Derived.Test.YtnbbbmnjbfehmaaArgS
import Derived.Test.YtnbbbmnjbfehmaaLDropFrame
import Derived.WalkKit
import Derived.ProofKit
import Derived.OpenShut
import Derived.ShutString
import Derived.ChangeOld
import Derived.Below
import Derived.SizedLaws
namespace Go.Proofs.Ytnbbbmnjbfehmaa.rowFnExactDropFrame
open Go.ChangeShapes Go.WideShapes Go.ChangeAt Go.RowKit
open Go.ChangeMaps (open_string shut_string)
open Go.Joins (open_agg2 shut_agg2 open_agg3 shut_agg3 field_of_Trod)
set_option linter.unusedVariables false
set_option maxRecDepth 100000
theorem cells_0 : Try.prog.cellsOf 25 = 2 := by kernel_rfl
theorem cellsA_0 : Try.prog.cellsOf 40 = 64 := by kernel_rfl
theorem cellsE_0 : Try.prog.cellsOf 39 = 1 := by kernel_rfl
set_option maxRecDepth 100000 in
theorem lifted (os : Os) (started : os.Started) (H : Type) (enc : TypeId × Value → H) :
    ReturnsInHanded {} Try.checked os 11 .any (Rows.fnExactDropFrameSpec.pre6 enc Try.prog Try.f11 Rows.fnExactDropFrameRow.domain false) (Rows.fnExactDropFrameSpec.post enc Try.prog Try.f11 false true false false) := by
  refine returnsInHanded_of_change_sized (C := Try.checked) hfOwn started (by kernel_rfl) Try.func11
    (ChangeSpec.witness6 (enc := enc) (C := Try.checked) false ⟨#[], #[.agg #[.int .i8 0, .slice none 0 0], .int .i64 0], []⟩ 8 (by kernel_rfl) (by kernel_rfl) (by kernel_rfl) (by kernel_rfl)) ?_
  intro W base args ds gs before hval0 hW hcnd hsz0 _
  have hsz : (DataW.weightsEach Try.prog (Try.f11.params.toList ++ Rows.fnExactDropFrameSpec.plain.varTypes Try.prog) (ds ++ gs)).all (· ≤ reachBytes) = true := hsz0
  have hval : ∀ (j : Nat) t v, Try.f11.params[j]? = some t → args[j]? = some v → Value.okWide Try.prog W .any base t v := hval0
  have hW' := hW
  obtain ⟨p, q, hA0, hV, rfl, hfz, hnd⟩ := hW
  have hA : DataW.TrodAll enc Try.prog W 0 (fun _ => true) true Try.f11.params.toList args.toList ds p := hA0
  rw [Try.params11] at hA hval hsz
  obtain ⟨v0, vs0, d0, ds0, p0, q0, hargs, rfl, rfl, h0, r0⟩ := trodAll_cons hA
  obtain ⟨v1, vs1, d1, ds1, p1, q1, rfl, rfl, rfl, h1, r1⟩ := trodAll_cons r0
  obtain ⟨rfl, rfl, rfl⟩ := trodAll_nil r1
  obtain rfl : args = #[v0, v1] := by cases args; simp_all
  obtain ⟨rfl, rfl⟩ := trodVars_none hV
  have hk0 := h0
  have hlt0 : ∀ x ∈ p0, x.block < W.heap.size := fun x hx => hW'.lt x (by simp [hx])
  obtain ⟨a0, s0, n0, c0, l0, rfl, ha0, hl0, hn0, hp0, hz0⟩ := open_sheet Try.underlying25 (by kernel_rfl) cells_0 rfl rfl Try.underlying22 (by kernel_rfl) Try.underlying23 Try.underlying40 Try.underlying39 cellsA_0 cellsE_0 (hval 0 25 v0 rfl rfl) h0
  obtain ⟨a1, rfl, rfl, rfl, w1⟩ := open_int Try.underlying2 (hval 1 2 v1 rfl rfl) h1
  clear hA0 hval0 hsz0 hsz
  refine (lawDropFrame_c a0 ha0 s0 n0 c0 l0 hl0 hn0 hz0 a1 (bounds_i64 w1) W hp0).mono fun e W' ⟨he, bel⟩ => ?_
  subst he
  exact ⟨_, rfl, _, _, _, [], _, [], hW', trodAll_mk1 (shut_bool Try.underlying4 _), (trodAll_cons_mk (Below.trod hfLaid (by kernel_rfl) (of_decide_eq_true (by kernel_rfl)) hk0 bel hlt0) (trodAll_cons_mk (shut_int Try.underlying2 w1) trodAll_mk0)), rfl, bel.frame _, fun h => by cases h⟩
theorem k1 : Rows.fnExactDropFrameRow.wf (OpenSpec.ofChange Rows.fnExactDropFrameSpec) = true := by kernel_rfl
theorem k4 : Try.f11.params.all (Try.prog.readableRec ·) = true := by kernel_rfl
theorem k5 : namedTie Try.prog Rows.fnExactDropFrameRow.named Rows.fnExactDropFrameSpec.vars = true := by kernel_rfl
theorem k10 : (Rows.fnExactDropFrameRow.inPlace == Try.prog.inPlace 11) = true := by kernel_rfl
theorem k11 : (Rows.fnExactDropFrameRow.unfollowed == Try.prog.unfollowed 11) = true := by kernel_rfl
theorem k12 : (Rows.fnExactDropFrameRow.recurses == Try.prog.recurses 11) = true := by kernel_rfl
theorem k13 : (Rows.fnExactDropFrameRow.named == Try.prog.varsNamed 11) = true := by kernel_rfl
theorem k14 : (Rows.fnExactDropFrameRow.maps == (Try.f11.params.toList ++ Rows.fnExactDropFrameSpec.plain.varTypes Try.prog).any (Try.prog.mapsRec ·)) = true := by kernel_rfl
theorem k15 : (Rows.fnExactDropFrameRow.ifaces == (Try.f11.params.toList ++ Rows.fnExactDropFrameSpec.plain.varTypes Try.prog).any (Try.prog.ifacesRec ·)) = true := by kernel_rfl
theorem k16 : (Rows.fnExactDropFrameRow.mapsOut == Try.prog.mapsAmong Try.f11.resultTypes.toList) = true := by kernel_rfl
theorem k17 : (Rows.fnExactDropFrameRow.loops == (Try.f11.params.toList ++ Rows.fnExactDropFrameSpec.plain.varTypes Try.prog).any (Try.prog.loopsFrom ·)) = true := by kernel_rfl
theorem k17b : (Rows.fnExactDropFrameRow.wideKeys == (Try.f11.params.toList ++ Rows.fnExactDropFrameSpec.plain.varTypes Try.prog ++ Try.f11.resultTypes.toList).any (Try.prog.wideKeysFrom ·)) = true := by kernel_rfl
theorem k18 : Rows.fnExactDropFrameSpec.vars.all (Try.prog.varReadable ·) = true := by kernel_rfl
theorem k19 : Try.f11.resultTypes.all (fun t => Try.prog.readableRec t && decide (t < Try.prog.types.size)) = true := by kernel_rfl
theorem k20 : (Rows.fnExactDropFrameRow.ifacesOut == Try.f11.resultTypes.toList.any (Try.prog.ifacesRec ·)) = true := by kernel_rfl
theorem k21 : (Rows.fnExactDropFrameRow.loopsOut == Try.f11.resultTypes.toList.any (Try.prog.loopsFrom ·)) = true := by kernel_rfl
theorem k25 : (Rows.fnExactDropFrameRow.kinds == (if Rows.fnExactDropFrameRow.domain.isEmpty then [] else Try.f11.params.toList.map fun t => match Try.prog.underlying t with | some (.int k) => some k | _ => none)) = true := by kernel_rfl
theorem k26 : (Rows.fnExactDropFrameRow.pinned == Rows.fnExactDropFrameRow.pinnedBy) = true := by kernel_rfl
theorem k27 : (Rows.fnExactDropFrameRow.veiled == (Try.f11.params.toList ++ Rows.fnExactDropFrameSpec.plain.varTypes Try.prog ++ Try.f11.resultTypes.toList).any (Try.prog.veiledRec ·)) = true := by kernel_rfl
theorem k28 : Rows.fnExactDropFrameRow.veiledFits Try.prog Try.f11.params.toList (Try.f11.params.toList ++ Rows.fnExactDropFrameSpec.plain.varTypes Try.prog ++ Try.f11.resultTypes.toList) = true := by kernel_rfl
theorem kName : Try.prog.funcNamed Rows.fnExactDropFrameRow.func = some 11 := by kernel_rfl
theorem kInst : Try.f11.isInstance Try.prog Rows.fnExactDropFrameRow.origin Rows.fnExactDropFrameRow.targs := of_decide_eq_true (by kernel_rfl)
theorem kWrap : Try.f11.isWrapper Try.prog Rows.fnExactDropFrameRow.wrapper Rows.fnExactDropFrameRow.mainSum := by
  unfold Func.isWrapper; first | (rw [if_pos (by decide +kernel)]; kernel_rfl) | (rw [if_neg (by decide +kernel)]; exact ⟨rfl, rfl⟩)
theorem closed : joinedFacts Try.prog 11 Try.f11 Rows.fnExactDropFrameSpec Rows.fnExactDropFrameRow = true :=
  joined_of k1 hfLaid hfMaps k4 k5 rfl hfStops rfl hfKnobs k10 k11 k12 k13 k14 k15 k16 k17 k17b k18 k19 k20 k21 hfKeys rfl rfl hfHeard hfEnter hfFinal rfl hfMake rfl k25 k26 k27 k28
theorem over : Rows.fnExactDropFrameRow.holds Try.pinned (OpenSpec.ofChange Rows.fnExactDropFrameSpec) :=
  OpenClaim.holds_of_wide 11 Try.f11 rfl rfl rfl rfl rfl rfl rfl ⟨rfl, rfl, rfl, rfl, rfl⟩ rfl rfl rfl rfl rfl kName Try.func11 closed kInst kWrap
    (fun os started H enc _ => lifted os started H enc)
end Go.Proofs.Ytnbbbmnjbfehmaa.rowFnExactDropFrame
namespace Go.Proofs.Ytnbbbmnjbfehmaa
theorem fnExactDropFrame_holds : Rows.FnExactDropFrameSaid := rowFnExactDropFrame.over
#print axioms fnExactDropFrame_holds
end Go.Proofs.Ytnbbbmnjbfehmaa
