/- FnExactSwapFrames: the row. -/
import Derived.Test.YtpapmplmldfhpaaRows
import Derived.Test.YtpapmplmldfhpaaArgs
import Derived.Test.YtpapmplmldfhpaaHead
import Derived.Test.YtpapmplmldfhpaaArgS
import Derived.Test.YtpapmplmldfhpaaLSwapFrames
import Derived.WalkKit
import Derived.ProofKit
import Derived.OpenShut
import Derived.ShutString
import Derived.ChangeOld
import Derived.Below
import Derived.SizedLaws
namespace Go.Proofs.Ytpapmplmldfhpaa.rowFnExactSwapFrames
open Go.ChangeShapes Go.WideShapes Go.ChangeAt Go.RowKit
open Go.ChangeMaps (open_string shut_string)
open Go.Joins (open_agg2 shut_agg2 open_agg3 shut_agg3 field_of_Trod)
set_option linter.unusedVariables false
set_option maxRecDepth 100000
theorem cells_0 : Try.prog.cellsOf 25 = 2 := by kernel_rfl
theorem cellsA_0 : Try.prog.cellsOf 46 = 64 := by kernel_rfl
theorem cellsE_0 : Try.prog.cellsOf 45 = 1 := by kernel_rfl
set_option maxRecDepth 100000 in
theorem lifted (os : Os) (started : os.Started) (H : Type) (enc : TypeId × Value → H) :
    ReturnsInHanded {} Try.checked os 3 .any (Rows.fnExactSwapFramesSpec.pre6 enc Try.prog Try.f3 Rows.fnExactSwapFramesRow.domain false) (Rows.fnExactSwapFramesSpec.post enc Try.prog Try.f3 false true false false) := by
  refine returnsInHanded_of_change_sized (C := Try.checked) hfOwn started (by kernel_rfl) Try.func3
    (ChangeSpec.witness6 (enc := enc) (C := Try.checked) false ⟨#[], #[.agg #[.int .i8 0, .slice none 0 0], .int .i64 0, .int .i64 0], []⟩ 8 (by kernel_rfl) (by kernel_rfl) (by kernel_rfl) (by kernel_rfl)) ?_
  intro W base args ds gs before hval0 hW hcnd hsz0 _
  have hsz : (DataW.weightsEach Try.prog (Try.f3.params.toList ++ Rows.fnExactSwapFramesSpec.plain.varTypes Try.prog) (ds ++ gs)).all (· ≤ reachBytes) = true := hsz0
  have hval : ∀ (j : Nat) t v, Try.f3.params[j]? = some t → args[j]? = some v → Value.okWide Try.prog W .any base t v := hval0
  have hW' := hW
  obtain ⟨p, q, hA0, hV, rfl, hfz, hnd⟩ := hW
  have hA : DataW.TrodAll enc Try.prog W 0 (fun _ => true) true Try.f3.params.toList args.toList ds p := hA0
  rw [Try.params3] at hA hval hsz
  obtain ⟨v0, vs0, d0, ds0, p0, q0, hargs, rfl, rfl, h0, r0⟩ := trodAll_cons hA
  obtain ⟨v1, vs1, d1, ds1, p1, q1, rfl, rfl, rfl, h1, r1⟩ := trodAll_cons r0
  obtain ⟨v2, vs2, d2, ds2, p2, q2, rfl, rfl, rfl, h2, r2⟩ := trodAll_cons r1
  obtain ⟨rfl, rfl, rfl⟩ := trodAll_nil r2
  obtain rfl : args = #[v0, v1, v2] := by cases args; simp_all
  obtain ⟨rfl, rfl⟩ := trodVars_none hV
  have hk0 := h0
  have hlt0 : ∀ x ∈ p0, x.block < W.heap.size := fun x hx => hW'.lt x (by simp [hx])
  obtain ⟨a0, s0, n0, c0, l0, rfl, ha0, hl0, hn0, hp0, hz0⟩ := open_sheet Try.underlying25 (by kernel_rfl) cells_0 rfl rfl Try.underlying22 (by kernel_rfl) Try.underlying23 Try.underlying46 Try.underlying45 cellsA_0 cellsE_0 (hval 0 25 v0 rfl rfl) h0
  obtain ⟨a1, rfl, rfl, rfl, w1⟩ := open_int Try.underlying2 (hval 1 2 v1 rfl rfl) h1
  obtain ⟨a2, rfl, rfl, rfl, w2⟩ := open_int Try.underlying2 (hval 2 2 v2 rfl rfl) h2
  clear hA0 hval0 hsz0 hsz
  refine (lawSwapFrames_c a0 ha0 s0 n0 c0 l0 hl0 hn0 hz0 a1 (bounds_i64 w1) a2 (bounds_i64 w2) W hp0).mono fun e W' ⟨he, bel⟩ => ?_
  subst he
  exact ⟨_, rfl, _, _, _, [], _, [], hW', trodAll_mk1 (shut_bool Try.underlying4 _), (trodAll_cons_mk (Below.trod hfLaid (by kernel_rfl) (of_decide_eq_true (by kernel_rfl)) hk0 bel hlt0) (trodAll_cons_mk (shut_int Try.underlying2 w1) (trodAll_cons_mk (shut_int Try.underlying2 w2) trodAll_mk0))), rfl, bel.frame _, fun h => by cases h⟩
theorem k1 : Rows.fnExactSwapFramesRow.wf (OpenSpec.ofChange Rows.fnExactSwapFramesSpec) = true := by kernel_rfl
theorem k4 : Try.f3.params.all (Try.prog.readableRec ·) = true := by kernel_rfl
theorem k5 : namedTie Try.prog Rows.fnExactSwapFramesRow.named Rows.fnExactSwapFramesSpec.vars = true := by kernel_rfl
theorem k10 : (Rows.fnExactSwapFramesRow.inPlace == Try.prog.inPlace 3) = true := by kernel_rfl
theorem k11 : (Rows.fnExactSwapFramesRow.unfollowed == Try.prog.unfollowed 3) = true := by kernel_rfl
theorem k12 : (Rows.fnExactSwapFramesRow.recurses == Try.prog.recurses 3) = true := by kernel_rfl
theorem k13 : (Rows.fnExactSwapFramesRow.named == Try.prog.varsNamed 3) = true := by kernel_rfl
theorem k14 : (Rows.fnExactSwapFramesRow.maps == (Try.f3.params.toList ++ Rows.fnExactSwapFramesSpec.plain.varTypes Try.prog).any (Try.prog.mapsRec ·)) = true := by kernel_rfl
theorem k15 : (Rows.fnExactSwapFramesRow.ifaces == (Try.f3.params.toList ++ Rows.fnExactSwapFramesSpec.plain.varTypes Try.prog).any (Try.prog.ifacesRec ·)) = true := by kernel_rfl
theorem k16 : (Rows.fnExactSwapFramesRow.mapsOut == Try.prog.mapsAmong Try.f3.resultTypes.toList) = true := by kernel_rfl
theorem k17 : (Rows.fnExactSwapFramesRow.loops == (Try.f3.params.toList ++ Rows.fnExactSwapFramesSpec.plain.varTypes Try.prog).any (Try.prog.loopsFrom ·)) = true := by kernel_rfl
theorem k17b : (Rows.fnExactSwapFramesRow.wideKeys == (Try.f3.params.toList ++ Rows.fnExactSwapFramesSpec.plain.varTypes Try.prog ++ Try.f3.resultTypes.toList).any (Try.prog.wideKeysFrom ·)) = true := by kernel_rfl
theorem k18 : Rows.fnExactSwapFramesSpec.vars.all (Try.prog.varReadable ·) = true := by kernel_rfl
theorem k19 : Try.f3.resultTypes.all (fun t => Try.prog.readableRec t && decide (t < Try.prog.types.size)) = true := by kernel_rfl
theorem k20 : (Rows.fnExactSwapFramesRow.ifacesOut == Try.f3.resultTypes.toList.any (Try.prog.ifacesRec ·)) = true := by kernel_rfl
theorem k21 : (Rows.fnExactSwapFramesRow.loopsOut == Try.f3.resultTypes.toList.any (Try.prog.loopsFrom ·)) = true := by kernel_rfl
theorem k25 : (Rows.fnExactSwapFramesRow.kinds == (if Rows.fnExactSwapFramesRow.domain.isEmpty then [] else Try.f3.params.toList.map fun t => match Try.prog.underlying t with | some (.int k) => some k | _ => none)) = true := by kernel_rfl
theorem k26 : (Rows.fnExactSwapFramesRow.pinned == Rows.fnExactSwapFramesRow.pinnedBy) = true := by kernel_rfl
theorem k27 : (Rows.fnExactSwapFramesRow.veiled == (Try.f3.params.toList ++ Rows.fnExactSwapFramesSpec.plain.varTypes Try.prog ++ Try.f3.resultTypes.toList).any (Try.prog.veiledRec ·)) = true := by kernel_rfl
theorem k28 : Rows.fnExactSwapFramesRow.veiledFits Try.prog Try.f3.params.toList (Try.f3.params.toList ++ Rows.fnExactSwapFramesSpec.plain.varTypes Try.prog ++ Try.f3.resultTypes.toList) = true := by kernel_rfl
theorem kName : Try.prog.funcNamed Rows.fnExactSwapFramesRow.func = some 3 := by kernel_rfl
theorem kInst : Try.f3.isInstance Try.prog Rows.fnExactSwapFramesRow.origin Rows.fnExactSwapFramesRow.targs := of_decide_eq_true (by kernel_rfl)
theorem kWrap : Try.f3.isWrapper Try.prog Rows.fnExactSwapFramesRow.wrapper Rows.fnExactSwapFramesRow.mainSum := by
  unfold Func.isWrapper; first | (rw [if_pos (by decide +kernel)]; kernel_rfl) | (rw [if_neg (by decide +kernel)]; exact ⟨rfl, rfl⟩)
theorem closed : joinedFacts Try.prog 3 Try.f3 Rows.fnExactSwapFramesSpec Rows.fnExactSwapFramesRow = true :=
  joined_of k1 hfLaid hfMaps k4 k5 rfl hfStops rfl hfKnobs k10 k11 k12 k13 k14 k15 k16 k17 k17b k18 k19 k20 k21 hfKeys rfl rfl hfHeard hfEnter hfFinal rfl hfMake rfl k25 k26 k27 k28
theorem over : Rows.fnExactSwapFramesRow.holds Try.pinned (OpenSpec.ofChange Rows.fnExactSwapFramesSpec) :=
  OpenClaim.holds_of_wide 3 Try.f3 rfl rfl rfl rfl rfl rfl rfl ⟨rfl, rfl, rfl, rfl, rfl⟩ rfl rfl rfl rfl rfl kName Try.func3 closed kInst kWrap
    (fun os started H enc _ => lifted os started H enc)
end Go.Proofs.Ytpapmplmldfhpaa.rowFnExactSwapFrames
namespace Go.Proofs.Ytpapmplmldfhpaa
theorem fnExactSwapFrames_holds : Rows.FnExactSwapFramesSaid := rowFnExactSwapFrames.over
#print axioms fnExactSwapFrames_holds
end Go.Proofs.Ytpapmplmldfhpaa
