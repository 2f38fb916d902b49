/- FnExactPickFrames: the row. -/
import Derived.Test.YtpapmplmldfhpaaRows
import Derived.Test.YtpapmplmldfhpaaArgs
import Derived.Test.YtpapmplmldfhpaaHead
import Derived.Test.YtpapmplmldfhpaaArgI
import Derived.Test.YtpapmplmldfhpaaLPickFrames
import Derived.WalkKit
import Derived.ProofKit
import Derived.OpenShut
import Derived.ShutString
import Derived.ChangeOld
import Derived.Below
import Derived.SizedLaws
namespace Go.Proofs.Ytpapmplmldfhpaa.rowFnExactPickFrames
open Go.ChangeShapes Go.WideShapes Go.ChangeAt Go.RowKit
open Go.ChangeMaps (open_string shut_string)
open Go.Joins (open_agg2 shut_agg2 open_agg3 shut_agg3 field_of_Trod)
set_option linter.unusedVariables false
set_option maxRecDepth 100000
theorem cells_0 : Try.prog.cellsOf 25 = 2 := by kernel_rfl
theorem cellsA_0 : Try.prog.cellsOf 46 = 64 := by kernel_rfl
theorem cellsE_0 : Try.prog.cellsOf 45 = 1 := by kernel_rfl
theorem cellsE_1 : Try.prog.cellsOf 2 = 1 := by kernel_rfl
set_option maxRecDepth 100000 in
theorem lifted (os : Os) (started : os.Started) (H : Type) (enc : TypeId × Value → H) :
    ReturnsInHanded {} Try.checked os 5 .any (Rows.fnExactPickFramesSpec.pre6 enc Try.prog Try.f5 Rows.fnExactPickFramesRow.domain false) (Rows.fnExactPickFramesSpec.post enc Try.prog Try.f5 false true false false) := by
  refine returnsInHanded_of_change_sized (C := Try.checked) hfOwn started (by kernel_rfl) Try.func5
    (ChangeSpec.witness6 (enc := enc) (C := Try.checked) false ⟨#[], #[.agg #[.int .i8 0, .slice none 0 0], .slice none 0 0], []⟩ 8 (by kernel_rfl) (by kernel_rfl) (by kernel_rfl) (by kernel_rfl)) ?_
  intro W base args ds gs before hval0 hW hcnd hsz0 _
  have hsz : (DataW.weightsEach Try.prog (Try.f5.params.toList ++ Rows.fnExactPickFramesSpec.plain.varTypes Try.prog) (ds ++ gs)).all (· ≤ reachBytes) = true := hsz0
  have hval : ∀ (j : Nat) t v, Try.f5.params[j]? = some t → args[j]? = some v → Value.okWide Try.prog W .any base t v := hval0
  have hW' := hW
  obtain ⟨p, q, hA0, hV, rfl, hfz, hnd⟩ := hW
  have hA : DataW.TrodAll enc Try.prog W 0 (fun _ => true) true Try.f5.params.toList args.toList ds p := hA0
  rw [Try.params5] at hA hval hsz
  obtain ⟨v0, vs0, d0, ds0, p0, q0, hargs, rfl, rfl, h0, r0⟩ := trodAll_cons hA
  obtain ⟨v1, vs1, d1, ds1, p1, q1, rfl, rfl, rfl, h1, r1⟩ := trodAll_cons r0
  obtain ⟨rfl, rfl, rfl⟩ := trodAll_nil r1
  obtain rfl : args = #[v0, v1] := by cases args; simp_all
  obtain ⟨rfl, rfl⟩ := trodVars_none hV
  have hk0 := h0
  have hlt0 : ∀ x ∈ p0, x.block < W.heap.size := fun x hx => hW'.lt x (by simp [hx])
  obtain ⟨a0, s0, n0, c0, l0, rfl, ha0, hl0, hn0, hp0, hz0⟩ := open_sheet Try.underlying25 (by kernel_rfl) cells_0 rfl rfl Try.underlying22 (by kernel_rfl) Try.underlying23 Try.underlying46 Try.underlying45 cellsA_0 cellsE_0 (hval 0 25 v0 rfl rfl) h0
  have hk1 := h1
  have hlt1 : ∀ x ∈ p1, x.block < W.heap.size := fun x hx => hW'.lt x (by simp [hx])
  obtain ⟨s1, n1, c1, fs1, rfl, hf1, hq1, hz1⟩ := open_i64sV Try.underlying38 Try.underlying2 cellsE_1 (hval 1 38 v1 rfl rfl) h1
  clear hA0 hval0 hsz0 hsz
  refine (lawPickFrames_c a0 ha0 s0 n0 c0 l0 hl0 hn0 hz0 s1 n1 c1 fs1 hf1 hz1 W hp0 hq1).mono fun e W' ⟨he, bel⟩ => ?_
  subst he
  exact ⟨_, rfl, _, _, _, [], _, [], hW', trodAll_mk1 (shut_bool Try.underlying4 _), (trodAll_cons_mk (Below.trod hfLaid (by kernel_rfl) (of_decide_eq_true (by kernel_rfl)) hk0 bel hlt0) (trodAll_cons_mk (Below.trod hfLaid (by kernel_rfl) (of_decide_eq_true (by kernel_rfl)) hk1 bel hlt1) trodAll_mk0)), rfl, bel.frame _, fun h => by cases h⟩
theorem k1 : Rows.fnExactPickFramesRow.wf (OpenSpec.ofChange Rows.fnExactPickFramesSpec) = true := by kernel_rfl
theorem k4 : Try.f5.params.all (Try.prog.readableRec ·) = true := by kernel_rfl
theorem k5 : namedTie Try.prog Rows.fnExactPickFramesRow.named Rows.fnExactPickFramesSpec.vars = true := by kernel_rfl
theorem k10 : (Rows.fnExactPickFramesRow.inPlace == Try.prog.inPlace 5) = true := by kernel_rfl
theorem k11 : (Rows.fnExactPickFramesRow.unfollowed == Try.prog.unfollowed 5) = true := by kernel_rfl
theorem k12 : (Rows.fnExactPickFramesRow.recurses == Try.prog.recurses 5) = true := by kernel_rfl
theorem k13 : (Rows.fnExactPickFramesRow.named == Try.prog.varsNamed 5) = true := by kernel_rfl
theorem k14 : (Rows.fnExactPickFramesRow.maps == (Try.f5.params.toList ++ Rows.fnExactPickFramesSpec.plain.varTypes Try.prog).any (Try.prog.mapsRec ·)) = true := by kernel_rfl
theorem k15 : (Rows.fnExactPickFramesRow.ifaces == (Try.f5.params.toList ++ Rows.fnExactPickFramesSpec.plain.varTypes Try.prog).any (Try.prog.ifacesRec ·)) = true := by kernel_rfl
theorem k16 : (Rows.fnExactPickFramesRow.mapsOut == Try.prog.mapsAmong Try.f5.resultTypes.toList) = true := by kernel_rfl
theorem k17 : (Rows.fnExactPickFramesRow.loops == (Try.f5.params.toList ++ Rows.fnExactPickFramesSpec.plain.varTypes Try.prog).any (Try.prog.loopsFrom ·)) = true := by kernel_rfl
theorem k17b : (Rows.fnExactPickFramesRow.wideKeys == (Try.f5.params.toList ++ Rows.fnExactPickFramesSpec.plain.varTypes Try.prog ++ Try.f5.resultTypes.toList).any (Try.prog.wideKeysFrom ·)) = true := by kernel_rfl
theorem k18 : Rows.fnExactPickFramesSpec.vars.all (Try.prog.varReadable ·) = true := by kernel_rfl
theorem k19 : Try.f5.resultTypes.all (fun t => Try.prog.readableRec t && decide (t < Try.prog.types.size)) = true := by kernel_rfl
theorem k20 : (Rows.fnExactPickFramesRow.ifacesOut == Try.f5.resultTypes.toList.any (Try.prog.ifacesRec ·)) = true := by kernel_rfl
theorem k21 : (Rows.fnExactPickFramesRow.loopsOut == Try.f5.resultTypes.toList.any (Try.prog.loopsFrom ·)) = true := by kernel_rfl
theorem k25 : (Rows.fnExactPickFramesRow.kinds == (if Rows.fnExactPickFramesRow.domain.isEmpty then [] else Try.f5.params.toList.map fun t => match Try.prog.underlying t with | some (.int k) => some k | _ => none)) = true := by kernel_rfl
theorem k26 : (Rows.fnExactPickFramesRow.pinned == Rows.fnExactPickFramesRow.pinnedBy) = true := by kernel_rfl
theorem k27 : (Rows.fnExactPickFramesRow.veiled == (Try.f5.params.toList ++ Rows.fnExactPickFramesSpec.plain.varTypes Try.prog ++ Try.f5.resultTypes.toList).any (Try.prog.veiledRec ·)) = true := by kernel_rfl
theorem k28 : Rows.fnExactPickFramesRow.veiledFits Try.prog Try.f5.params.toList (Try.f5.params.toList ++ Rows.fnExactPickFramesSpec.plain.varTypes Try.prog ++ Try.f5.resultTypes.toList) = true := by kernel_rfl
theorem kName : Try.prog.funcNamed Rows.fnExactPickFramesRow.func = some 5 := by kernel_rfl
theorem kInst : Try.f5.isInstance Try.prog Rows.fnExactPickFramesRow.origin Rows.fnExactPickFramesRow.targs := of_decide_eq_true (by kernel_rfl)
theorem kWrap : Try.f5.isWrapper Try.prog Rows.fnExactPickFramesRow.wrapper Rows.fnExactPickFramesRow.mainSum := by
  unfold Func.isWrapper; first | (rw [if_pos (by decide +kernel)]; kernel_rfl) | (rw [if_neg (by decide +kernel)]; exact ⟨rfl, rfl⟩)
theorem closed : joinedFacts Try.prog 5 Try.f5 Rows.fnExactPickFramesSpec Rows.fnExactPickFramesRow = true :=
  joined_of k1 hfLaid hfMaps k4 k5 rfl hfStops rfl hfKnobs k10 k11 k12 k13 k14 k15 k16 k17 k17b k18 k19 k20 k21 hfKeys rfl rfl hfHeard hfEnter hfFinal rfl hfMake rfl k25 k26 k27 k28
theorem over : Rows.fnExactPickFramesRow.holds Try.pinned (OpenSpec.ofChange Rows.fnExactPickFramesSpec) :=
  OpenClaim.holds_of_wide 5 Try.f5 rfl rfl rfl rfl rfl rfl rfl ⟨rfl, rfl, rfl, rfl, rfl⟩ rfl rfl rfl rfl rfl kName Try.func5 closed kInst kWrap
    (fun os started H enc _ => lifted os started H enc)
end Go.Proofs.Ytpapmplmldfhpaa.rowFnExactPickFrames
namespace Go.Proofs.Ytpapmplmldfhpaa
theorem fnExactPickFrames_holds : Rows.FnExactPickFramesSaid := rowFnExactPickFrames.over
#print axioms fnExactPickFrames_holds
end Go.Proofs.Ytpapmplmldfhpaa
