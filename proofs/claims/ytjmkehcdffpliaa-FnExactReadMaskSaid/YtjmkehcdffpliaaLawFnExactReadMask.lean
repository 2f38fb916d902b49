/- FnExactReadMask: the row. -/
import Derived.Test.YtjmkehcdffpliaaRows
import Derived.Test.YtjmkehcdffpliaaArgs
import Derived.Test.YtjmkehcdffpliaaHead
import Derived.Test.YtjmkehcdffpliaaReadMask
import Derived.WalkKit
import Derived.ProofKit
import Derived.OpenShut
import Derived.ShutString
import Derived.ChangeOld
import Derived.Below
import Derived.SizedLaws
namespace Go.Proofs.Ytjmkehcdffpliaa.rowFnExactReadMask
open Go.ChangeShapes Go.WideShapes Go.ChangeAt Go.RowKit
open Go.ChangeMaps (open_string shut_string)
open Go.Joins (open_agg2 shut_agg2 open_agg3 shut_agg3 field_of_Trod)
set_option linter.unusedVariables false
set_option maxRecDepth 100000
set_option maxRecDepth 100000 in
theorem lifted (os : Os) (started : os.Started) (H : Type) (enc : TypeId × Value → H) :
    ReturnsInHanded {} Try.checked os 4 .any (Rows.fnExactReadMaskSpec.pre6 enc Try.prog Try.f4 Rows.fnExactReadMaskRow.domain false) (Rows.fnExactReadMaskSpec.post enc Try.prog Try.f4 false true false false) := by
  refine returnsInHanded_of_change_sized (C := Try.checked) hfOwn started (by kernel_rfl) Try.func4
    (ChangeSpec.witness6 (enc := enc) (C := Try.checked) false ⟨#[], #[.string ⟨#[]⟩], []⟩ 8 (by kernel_rfl) (by kernel_rfl) (by kernel_rfl) (by kernel_rfl)) ?_
  intro W base args ds gs before hval0 hW hcnd hsz0 _
  have hsz : (DataW.weightsEach Try.prog (Try.f4.params.toList ++ Rows.fnExactReadMaskSpec.plain.varTypes Try.prog) (ds ++ gs)).all (· ≤ reachBytes) = true := hsz0
  have hval : ∀ (j : Nat) t v, Try.f4.params[j]? = some t → args[j]? = some v → Value.okWide Try.prog W .any base t v := hval0
  have hW' := hW
  obtain ⟨p, q, hA0, hV, rfl, hfz, hnd⟩ := hW
  have hA : DataW.TrodAll enc Try.prog W 0 (fun _ => true) true Try.f4.params.toList args.toList ds p := hA0
  rw [Try.params4] at hA hval hsz
  obtain ⟨v0, vs0, d0, ds0, p0, q0, hargs, rfl, rfl, h0, r0⟩ := trodAll_cons hA
  obtain ⟨rfl, rfl, rfl⟩ := trodAll_nil r0
  obtain rfl : args = #[v0] := by cases args; simp_all
  obtain ⟨rfl, rfl⟩ := trodVars_none hV
  obtain ⟨a0, rfl, rfl, rfl, w0⟩ := open_string Try.underlying9 (hval 0 9 v0 rfl rfl) h0
  have hz0 : a0.size ≤ 140737488351232 := by
    have := sized_string hsz (j := 0) (t := 9) rfl rfl
    simpa [reachBytes] using this
  clear hA0 hval0 hsz0 hsz
  refine (lawReadMask_c a0 hz0 W).mono fun e W' ⟨he, bel⟩ => ?_
  subst he
  exact ⟨_, rfl, _, _, _, [], _, [], hW', trodAll_mk1 (shut_bool Try.underlying4 _), (trodAll_cons_mk (shut_string Try.underlying9 w0) trodAll_mk0), rfl, bel.frame _, fun h => by cases h⟩
theorem k1 : Rows.fnExactReadMaskRow.wf (OpenSpec.ofChange Rows.fnExactReadMaskSpec) = true := by kernel_rfl
theorem k4 : Try.f4.params.all (Try.prog.readableRec ·) = true := by kernel_rfl
theorem k5 : namedTie Try.prog Rows.fnExactReadMaskRow.named Rows.fnExactReadMaskSpec.vars = true := by kernel_rfl
theorem k10 : (Rows.fnExactReadMaskRow.inPlace == Try.prog.inPlace 4) = true := by kernel_rfl
theorem k11 : (Rows.fnExactReadMaskRow.unfollowed == Try.prog.unfollowed 4) = true := by kernel_rfl
theorem k12 : (Rows.fnExactReadMaskRow.recurses == Try.prog.recurses 4) = true := by kernel_rfl
theorem k13 : (Rows.fnExactReadMaskRow.named == Try.prog.varsNamed 4) = true := by kernel_rfl
theorem k14 : (Rows.fnExactReadMaskRow.maps == (Try.f4.params.toList ++ Rows.fnExactReadMaskSpec.plain.varTypes Try.prog).any (Try.prog.mapsRec ·)) = true := by kernel_rfl
theorem k15 : (Rows.fnExactReadMaskRow.ifaces == (Try.f4.params.toList ++ Rows.fnExactReadMaskSpec.plain.varTypes Try.prog).any (Try.prog.ifacesRec ·)) = true := by kernel_rfl
theorem k16 : (Rows.fnExactReadMaskRow.mapsOut == Try.prog.mapsAmong Try.f4.resultTypes.toList) = true := by kernel_rfl
theorem k17 : (Rows.fnExactReadMaskRow.loops == (Try.f4.params.toList ++ Rows.fnExactReadMaskSpec.plain.varTypes Try.prog).any (Try.prog.loopsFrom ·)) = true := by kernel_rfl
theorem k17b : (Rows.fnExactReadMaskRow.wideKeys == (Try.f4.params.toList ++ Rows.fnExactReadMaskSpec.plain.varTypes Try.prog ++ Try.f4.resultTypes.toList).any (Try.prog.wideKeysFrom ·)) = true := by kernel_rfl
theorem k18 : Rows.fnExactReadMaskSpec.vars.all (Try.prog.varReadable ·) = true := by kernel_rfl
theorem k19 : Try.f4.resultTypes.all (fun t => Try.prog.readableRec t && decide (t < Try.prog.types.size)) = true := by kernel_rfl
theorem k20 : (Rows.fnExactReadMaskRow.ifacesOut == Try.f4.resultTypes.toList.any (Try.prog.ifacesRec ·)) = true := by kernel_rfl
theorem k21 : (Rows.fnExactReadMaskRow.loopsOut == Try.f4.resultTypes.toList.any (Try.prog.loopsFrom ·)) = true := by kernel_rfl
theorem k25 : (Rows.fnExactReadMaskRow.kinds == (if Rows.fnExactReadMaskRow.domain.isEmpty then [] else Try.f4.params.toList.map fun t => match Try.prog.underlying t with | some (.int k) => some k | _ => none)) = true := by kernel_rfl
theorem k26 : (Rows.fnExactReadMaskRow.pinned == Rows.fnExactReadMaskRow.pinnedBy) = true := by kernel_rfl
theorem k27 : (Rows.fnExactReadMaskRow.veiled == (Try.f4.params.toList ++ Rows.fnExactReadMaskSpec.plain.varTypes Try.prog ++ Try.f4.resultTypes.toList).any (Try.prog.veiledRec ·)) = true := by kernel_rfl
theorem k28 : Rows.fnExactReadMaskRow.veiledFits Try.prog Try.f4.params.toList (Try.f4.params.toList ++ Rows.fnExactReadMaskSpec.plain.varTypes Try.prog ++ Try.f4.resultTypes.toList) = true := by kernel_rfl
theorem kName : Try.prog.funcNamed Rows.fnExactReadMaskRow.func = some 4 := by kernel_rfl
theorem kInst : Try.f4.isInstance Try.prog Rows.fnExactReadMaskRow.origin Rows.fnExactReadMaskRow.targs := of_decide_eq_true (by kernel_rfl)
theorem kWrap : Try.f4.isWrapper Try.prog Rows.fnExactReadMaskRow.wrapper Rows.fnExactReadMaskRow.mainSum := by
  unfold Func.isWrapper; first | (rw [if_pos (by decide +kernel)]; kernel_rfl) | (rw [if_neg (by decide +kernel)]; exact ⟨rfl, rfl⟩)
theorem closed : joinedFacts Try.prog 4 Try.f4 Rows.fnExactReadMaskSpec Rows.fnExactReadMaskRow = true :=
  joined_of k1 hfLaid hfMaps k4 k5 rfl hfStops rfl hfKnobs k10 k11 k12 k13 k14 k15 k16 k17 k17b k18 k19 k20 k21 hfKeys rfl rfl hfHeard hfEnter hfFinal rfl hfMake rfl k25 k26 k27 k28
theorem over : Rows.fnExactReadMaskRow.holds Try.pinned (OpenSpec.ofChange Rows.fnExactReadMaskSpec) :=
  OpenClaim.holds_of_wide 4 Try.f4 rfl rfl rfl rfl rfl rfl rfl ⟨rfl, rfl, rfl, rfl, rfl⟩ rfl rfl rfl rfl rfl kName Try.func4 closed kInst kWrap
    (fun os started H enc _ => lifted os started H enc)
end Go.Proofs.Ytjmkehcdffpliaa.rowFnExactReadMask
namespace Go.Proofs.Ytjmkehcdffpliaa
theorem fnExactReadMask_holds : Rows.FnExactReadMaskSaid := rowFnExactReadMask.over
#print axioms fnExactReadMask_holds
end Go.Proofs.Ytjmkehcdffpliaa
