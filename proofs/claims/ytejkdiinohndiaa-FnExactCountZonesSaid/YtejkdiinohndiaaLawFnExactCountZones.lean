/- FnExactCountZones: the row. -/
import Derived.Test.YtejkdiinohndiaaRows
import Derived.Test.YtejkdiinohndiaaArgs
import Derived.Test.YtejkdiinohndiaaHead
import Derived.Test.YtejkdiinohndiaaCountL
import Derived.WalkKit
import Derived.ProofKit
import Derived.OpenShut
import Derived.ShutString
import Derived.ChangeOld
import Derived.Below
import Derived.SizedLaws
namespace Go.Proofs.Ytejkdiinohndiaa.rowFnExactCountZones
open Go.ChangeShapes Go.WideShapes Go.ChangeAt Go.RowKit
open Go.ChangeMaps (open_string shut_string)
open Go.Joins (open_agg2 shut_agg2 open_agg3 shut_agg3 field_of_Trod)
set_option linter.unusedVariables false
set_option maxRecDepth 100000
theorem cells_0 : Try.prog.cellsOf 34 = 24 := by kernel_rfl
theorem cellsE_0 : Try.prog.cellsOf 22 = 1 := by kernel_rfl
theorem cells_1 : Try.prog.cellsOf 29 = 2 := by kernel_rfl
theorem cellsE_1 : Try.prog.cellsOf 22 = 1 := by kernel_rfl
set_option maxRecDepth 100000 in
theorem lifted (os : Os) (started : os.Started) (H : Type) (enc : TypeId × Value → H) :
    ReturnsInHanded {} Try.checked os 20 .any (Rows.fnExactCountZonesSpec.pre6 enc Try.prog Try.f20 Rows.fnExactCountZonesRow.domain false) (Rows.fnExactCountZonesSpec.post enc Try.prog Try.f20 false true false false) := by
  refine returnsInHanded_of_change_sized (C := Try.checked) hfOwn started (by kernel_rfl) Try.func20
    (ChangeSpec.witness6 (enc := enc) (C := Try.checked) false ⟨#[], #[.agg #[.int .i8 0, .int .i8 0, .int .i8 0, .int .i8 0, .int .i8 0, .int .i8 0, .int .i8 0, .int .i8 0, .int .i8 0, .int .i8 0, .int .i8 0, .int .i8 0, .int .i8 0, .int .i8 0, .int .i8 0, .int .i8 0, .int .i8 0, .int .i8 0, .int .i8 0, .int .i8 0, .int .i8 0, .int .i8 0, .int .i8 0, .int .i8 0], .agg #[.int .i8 0, .int .i8 0]], []⟩ 8 (by kernel_rfl) (by kernel_rfl) (by kernel_rfl) (by kernel_rfl)) ?_
  intro W base args ds gs before hval0 hW hcnd hsz0 _
  have hsz : (DataW.weightsEach Try.prog (Try.f20.params.toList ++ Rows.fnExactCountZonesSpec.plain.varTypes Try.prog) (ds ++ gs)).all (· ≤ reachBytes) = true := hsz0
  have hval : ∀ (j : Nat) t v, Try.f20.params[j]? = some t → args[j]? = some v → Value.okWide Try.prog W .any base t v := hval0
  have hW' := hW
  obtain ⟨p, q, hA0, hV, rfl, hfz, hnd⟩ := hW
  have hA : DataW.TrodAll enc Try.prog W 0 (fun _ => true) true Try.f20.params.toList args.toList ds p := hA0
  rw [Try.params20] at hA hval hsz
  obtain ⟨v0, vs0, d0, ds0, p0, q0, hargs, rfl, rfl, h0, r0⟩ := trodAll_cons hA
  obtain ⟨v1, vs1, d1, ds1, p1, q1, rfl, rfl, rfl, h1, r1⟩ := trodAll_cons r0
  obtain ⟨rfl, rfl, rfl⟩ := trodAll_nil r1
  obtain rfl : args = #[v0, v1] := by cases args; simp_all
  obtain ⟨rfl, rfl⟩ := trodVars_none hV
  obtain ⟨xs0, rfl, hl0, hw0, rfl, rfl⟩ := open_arr Try.underlying34 Try.underlying22 cells_0 cellsE_0 (hval 0 34 v0 rfl rfl) h0
  have hx0 := rangei8_of hw0
  obtain ⟨c1_0, c1_1, y1_0, y1_1, n1, rfl, rfl, rfl, g1_0, g1_1⟩ := open_agg2 Try.underlying29 (by kernel_rfl) cells_1 (hval 1 29 v1 rfl rfl) h1
  obtain ⟨a1_0, rfl, rfl, b1_0⟩ := read_int Try.underlying22 g1_0
  obtain ⟨a1_1, rfl, rfl, b1_1⟩ := read_int Try.underlying22 g1_1
  clear hA0 hval0 hsz0 hsz
  refine (lawCountZones_c xs0 hl0 hx0 a1_0 a1_1 (bounds_i8 b1_0) (bounds_i8 b1_1) W).mono fun e W' ⟨he, bel⟩ => ?_
  subst he
  exact ⟨_, rfl, _, _, _, [], _, [], hW', trodAll_mk1 (shut_bool Try.underlying4 _), (trodAll_cons_mk (shut_arr Try.underlying34 Try.underlying22 cells_0 cellsE_0 hl0 hw0) (trodAll_cons_mk (shut_agg2 Try.underlying29 (by kernel_rfl) cells_1 (field_of_Trod (shut_int Try.underlying22 b1_0) rfl) (field_of_Trod (shut_int Try.underlying22 b1_1) rfl)) trodAll_mk0)), rfl, bel.frame _, fun h => by cases h⟩
theorem k1 : Rows.fnExactCountZonesRow.wf (OpenSpec.ofChange Rows.fnExactCountZonesSpec) = true := by kernel_rfl
theorem k4 : Try.f20.params.all (Try.prog.readableRec ·) = true := by kernel_rfl
theorem k5 : namedTie Try.prog Rows.fnExactCountZonesRow.named Rows.fnExactCountZonesSpec.vars = true := by kernel_rfl
theorem k10 : (Rows.fnExactCountZonesRow.inPlace == Try.prog.inPlace 20) = true := by kernel_rfl
theorem k11 : (Rows.fnExactCountZonesRow.unfollowed == Try.prog.unfollowed 20) = true := by kernel_rfl
theorem k12 : (Rows.fnExactCountZonesRow.recurses == Try.prog.recurses 20) = true := by kernel_rfl
theorem k13 : (Rows.fnExactCountZonesRow.named == Try.prog.varsNamed 20) = true := by kernel_rfl
theorem k14 : (Rows.fnExactCountZonesRow.maps == (Try.f20.params.toList ++ Rows.fnExactCountZonesSpec.plain.varTypes Try.prog).any (Try.prog.mapsRec ·)) = true := by kernel_rfl
theorem k15 : (Rows.fnExactCountZonesRow.ifaces == (Try.f20.params.toList ++ Rows.fnExactCountZonesSpec.plain.varTypes Try.prog).any (Try.prog.ifacesRec ·)) = true := by kernel_rfl
theorem k16 : (Rows.fnExactCountZonesRow.mapsOut == Try.prog.mapsAmong Try.f20.resultTypes.toList) = true := by kernel_rfl
theorem k17 : (Rows.fnExactCountZonesRow.loops == (Try.f20.params.toList ++ Rows.fnExactCountZonesSpec.plain.varTypes Try.prog).any (Try.prog.loopsFrom ·)) = true := by kernel_rfl
theorem k17b : (Rows.fnExactCountZonesRow.wideKeys == (Try.f20.params.toList ++ Rows.fnExactCountZonesSpec.plain.varTypes Try.prog ++ Try.f20.resultTypes.toList).any (Try.prog.wideKeysFrom ·)) = true := by kernel_rfl
theorem k18 : Rows.fnExactCountZonesSpec.vars.all (Try.prog.varReadable ·) = true := by kernel_rfl
theorem k19 : Try.f20.resultTypes.all (fun t => Try.prog.readableRec t && decide (t < Try.prog.types.size)) = true := by kernel_rfl
theorem k20 : (Rows.fnExactCountZonesRow.ifacesOut == Try.f20.resultTypes.toList.any (Try.prog.ifacesRec ·)) = true := by kernel_rfl
theorem k21 : (Rows.fnExactCountZonesRow.loopsOut == Try.f20.resultTypes.toList.any (Try.prog.loopsFrom ·)) = true := by kernel_rfl
theorem k25 : (Rows.fnExactCountZonesRow.kinds == (if Rows.fnExactCountZonesRow.domain.isEmpty then [] else Try.f20.params.toList.map fun t => match Try.prog.underlying t with | some (.int k) => some k | _ => none)) = true := by kernel_rfl
theorem k26 : (Rows.fnExactCountZonesRow.pinned == Rows.fnExactCountZonesRow.pinnedBy) = true := by kernel_rfl
theorem k27 : (Rows.fnExactCountZonesRow.veiled == (Try.f20.params.toList ++ Rows.fnExactCountZonesSpec.plain.varTypes Try.prog ++ Try.f20.resultTypes.toList).any (Try.prog.veiledRec ·)) = true := by kernel_rfl
theorem k28 : Rows.fnExactCountZonesRow.veiledFits Try.prog Try.f20.params.toList (Try.f20.params.toList ++ Rows.fnExactCountZonesSpec.plain.varTypes Try.prog ++ Try.f20.resultTypes.toList) = true := by kernel_rfl
theorem kName : Try.prog.funcNamed Rows.fnExactCountZonesRow.func = some 20 := by kernel_rfl
theorem kInst : Try.f20.isInstance Try.prog Rows.fnExactCountZonesRow.origin Rows.fnExactCountZonesRow.targs := of_decide_eq_true (by kernel_rfl)
theorem kWrap : Try.f20.isWrapper Try.prog Rows.fnExactCountZonesRow.wrapper Rows.fnExactCountZonesRow.mainSum := by
  unfold Func.isWrapper; first | (rw [if_pos (by decide +kernel)]; kernel_rfl) | (rw [if_neg (by decide +kernel)]; exact ⟨rfl, rfl⟩)
theorem closed : joinedFacts Try.prog 20 Try.f20 Rows.fnExactCountZonesSpec Rows.fnExactCountZonesRow = true :=
  joined_of k1 hfLaid hfMaps k4 k5 rfl hfStops rfl hfKnobs k10 k11 k12 k13 k14 k15 k16 k17 k17b k18 k19 k20 k21 hfKeys rfl rfl hfHeard hfEnter hfFinal rfl hfMake rfl k25 k26 k27 k28
theorem over : Rows.fnExactCountZonesRow.holds Try.pinned (OpenSpec.ofChange Rows.fnExactCountZonesSpec) :=
  OpenClaim.holds_of_wide 20 Try.f20 rfl rfl rfl rfl rfl rfl rfl ⟨rfl, rfl, rfl, rfl, rfl⟩ rfl rfl rfl rfl rfl kName Try.func20 closed kInst kWrap
    (fun os started H enc _ => lifted os started H enc)
end Go.Proofs.Ytejkdiinohndiaa.rowFnExactCountZones
namespace Go.Proofs.Ytejkdiinohndiaa
theorem fnExactCountZones_holds : Rows.FnExactCountZonesSaid := rowFnExactCountZones.over
#print axioms fnExactCountZones_holds
end Go.Proofs.Ytejkdiinohndiaa
