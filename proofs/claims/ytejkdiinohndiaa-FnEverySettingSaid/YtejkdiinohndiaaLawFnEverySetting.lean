/- FnEverySetting: the row. -/
import Derived.Test.YtejkdiinohndiaaRows
import Derived.Test.YtejkdiinohndiaaArgs
import Derived.Test.YtejkdiinohndiaaHead
import Derived.Test.YtejkdiinohndiaaEvery
import Derived.WalkKit
import Derived.ProofKit
import Derived.OpenShut
import Derived.ShutString
import Derived.ChangeOld
import Derived.Below
import Derived.SizedLaws
namespace Go.Proofs.Ytejkdiinohndiaa.rowFnEverySetting
open Go.ChangeShapes Go.WideShapes Go.ChangeAt Go.RowKit
open Go.ChangeMaps (open_string shut_string)
open Go.Joins (open_agg2 shut_agg2 open_agg3 shut_agg3 field_of_Trod)
set_option linter.unusedVariables false
set_option maxRecDepth 100000
theorem cells_0 : Try.prog.cellsOf 51 = 3 := by kernel_rfl
theorem cellsE_0 : Try.prog.cellsOf 22 = 1 := by kernel_rfl
theorem cells_2 : Try.prog.cellsOf 24 = 2 := by kernel_rfl
theorem cellsE_2 : Try.prog.cellsOf 22 = 1 := by kernel_rfl
set_option maxRecDepth 100000 in
theorem lifted (os : Os) (started : os.Started) (H : Type) (enc : TypeId × Value → H) :
    ReturnsInHanded {} Try.checked os 13 .any (Rows.fnEverySettingSpec.pre6 enc Try.prog Try.f13 Rows.fnEverySettingRow.domain false) (Rows.fnEverySettingSpec.post enc Try.prog Try.f13 false true false false) := by
  refine returnsInHanded_of_change_sized (C := Try.checked) hfOwn started (by kernel_rfl) Try.func13
    (ChangeSpec.witness6 (enc := enc) (C := Try.checked) false ⟨#[], #[.agg #[.int .i8 0, .int .i8 0, .int .i8 0], .int .i64 0, .agg #[.int .i8 0, .int .i8 0]], []⟩ 8 (by kernel_rfl) (by kernel_rfl) (by kernel_rfl) (by kernel_rfl)) ?_
  intro W base args ds gs before hval0 hW hcnd hsz0 _
  have hsz : (DataW.weightsEach Try.prog (Try.f13.params.toList ++ Rows.fnEverySettingSpec.plain.varTypes Try.prog) (ds ++ gs)).all (· ≤ reachBytes) = true := hsz0
  have hval : ∀ (j : Nat) t v, Try.f13.params[j]? = some t → args[j]? = some v → Value.okWide Try.prog W .any base t v := hval0
  have hW' := hW
  obtain ⟨p, q, hA0, hV, rfl, hfz, hnd⟩ := hW
  have hA : DataW.TrodAll enc Try.prog W 0 (fun _ => true) true Try.f13.params.toList args.toList ds p := hA0
  rw [Try.params13] at hA hval hsz
  obtain ⟨v0, vs0, d0, ds0, p0, q0, hargs, rfl, rfl, h0, r0⟩ := trodAll_cons hA
  obtain ⟨v1, vs1, d1, ds1, p1, q1, rfl, rfl, rfl, h1, r1⟩ := trodAll_cons r0
  obtain ⟨v2, vs2, d2, ds2, p2, q2, rfl, rfl, rfl, h2, r2⟩ := trodAll_cons r1
  obtain ⟨rfl, rfl, rfl⟩ := trodAll_nil r2
  obtain rfl : args = #[v0, v1, v2] := by cases args; simp_all
  obtain ⟨rfl, rfl⟩ := trodVars_none hV
  obtain ⟨c0_0, c0_1, c0_2, y0_0, y0_1, y0_2, n0, rfl, rfl, rfl, g0_0, g0_1, g0_2⟩ := open_agg3 Try.underlying51 (by kernel_rfl) cells_0 (hval 0 51 v0 rfl rfl) h0
  obtain ⟨a0_0, rfl, rfl, b0_0⟩ := read_int Try.underlying22 g0_0
  obtain ⟨a0_1, rfl, rfl, b0_1⟩ := read_int Try.underlying22 g0_1
  obtain ⟨a0_2, rfl, rfl, b0_2⟩ := read_int Try.underlying22 g0_2
  obtain ⟨a1, rfl, rfl, rfl, w1⟩ := open_int Try.underlying2 (hval 1 2 v1 rfl rfl) h1
  obtain ⟨c2_0, c2_1, y2_0, y2_1, n2, rfl, rfl, rfl, g2_0, g2_1⟩ := open_agg2 Try.underlying24 (by kernel_rfl) cells_2 (hval 2 24 v2 rfl rfl) h2
  obtain ⟨a2_0, rfl, rfl, b2_0⟩ := read_int Try.underlying22 g2_0
  obtain ⟨a2_1, rfl, rfl, b2_1⟩ := read_int Try.underlying22 g2_1
  clear hA0 hval0 hsz0 hsz
  refine (lawEvery_c a0_0 a0_1 a0_2 (bounds_i8 b0_0) (bounds_i8 b0_1) (bounds_i8 b0_2) a1 (bounds_i64 w1) a2_0 a2_1 (bounds_i8 b2_0) (bounds_i8 b2_1) W).mono fun e W' ⟨he, bel⟩ => ?_
  subst he
  exact ⟨_, rfl, _, _, _, [], _, [], hW', trodAll_mk1 (shut_bool Try.underlying4 _), (trodAll_cons_mk (shut_agg3 Try.underlying51 (by kernel_rfl) cells_0 (field_of_Trod (shut_int Try.underlying22 b0_0) rfl) (field_of_Trod (shut_int Try.underlying22 b0_1) rfl) (field_of_Trod (shut_int Try.underlying22 b0_2) rfl)) (trodAll_cons_mk (shut_int Try.underlying2 w1) (trodAll_cons_mk (shut_agg2 Try.underlying24 (by kernel_rfl) cells_2 (field_of_Trod (shut_int Try.underlying22 b2_0) rfl) (field_of_Trod (shut_int Try.underlying22 b2_1) rfl)) trodAll_mk0))), rfl, bel.frame _, fun h => by cases h⟩
theorem k1 : Rows.fnEverySettingRow.wf (OpenSpec.ofChange Rows.fnEverySettingSpec) = true := by kernel_rfl
theorem k4 : Try.f13.params.all (Try.prog.readableRec ·) = true := by kernel_rfl
theorem k5 : namedTie Try.prog Rows.fnEverySettingRow.named Rows.fnEverySettingSpec.vars = true := by kernel_rfl
theorem k10 : (Rows.fnEverySettingRow.inPlace == Try.prog.inPlace 13) = true := by kernel_rfl
theorem k11 : (Rows.fnEverySettingRow.unfollowed == Try.prog.unfollowed 13) = true := by kernel_rfl
theorem k12 : (Rows.fnEverySettingRow.recurses == Try.prog.recurses 13) = true := by kernel_rfl
theorem k13 : (Rows.fnEverySettingRow.named == Try.prog.varsNamed 13) = true := by kernel_rfl
theorem k14 : (Rows.fnEverySettingRow.maps == (Try.f13.params.toList ++ Rows.fnEverySettingSpec.plain.varTypes Try.prog).any (Try.prog.mapsRec ·)) = true := by kernel_rfl
theorem k15 : (Rows.fnEverySettingRow.ifaces == (Try.f13.params.toList ++ Rows.fnEverySettingSpec.plain.varTypes Try.prog).any (Try.prog.ifacesRec ·)) = true := by kernel_rfl
theorem k16 : (Rows.fnEverySettingRow.mapsOut == Try.prog.mapsAmong Try.f13.resultTypes.toList) = true := by kernel_rfl
theorem k17 : (Rows.fnEverySettingRow.loops == (Try.f13.params.toList ++ Rows.fnEverySettingSpec.plain.varTypes Try.prog).any (Try.prog.loopsFrom ·)) = true := by kernel_rfl
theorem k17b : (Rows.fnEverySettingRow.wideKeys == (Try.f13.params.toList ++ Rows.fnEverySettingSpec.plain.varTypes Try.prog ++ Try.f13.resultTypes.toList).any (Try.prog.wideKeysFrom ·)) = true := by kernel_rfl
theorem k18 : Rows.fnEverySettingSpec.vars.all (Try.prog.varReadable ·) = true := by kernel_rfl
theorem k19 : Try.f13.resultTypes.all (fun t => Try.prog.readableRec t && decide (t < Try.prog.types.size)) = true := by kernel_rfl
theorem k20 : (Rows.fnEverySettingRow.ifacesOut == Try.f13.resultTypes.toList.any (Try.prog.ifacesRec ·)) = true := by kernel_rfl
theorem k21 : (Rows.fnEverySettingRow.loopsOut == Try.f13.resultTypes.toList.any (Try.prog.loopsFrom ·)) = true := by kernel_rfl
theorem k25 : (Rows.fnEverySettingRow.kinds == (if Rows.fnEverySettingRow.domain.isEmpty then [] else Try.f13.params.toList.map fun t => match Try.prog.underlying t with | some (.int k) => some k | _ => none)) = true := by kernel_rfl
theorem k26 : (Rows.fnEverySettingRow.pinned == Rows.fnEverySettingRow.pinnedBy) = true := by kernel_rfl
theorem k27 : (Rows.fnEverySettingRow.veiled == (Try.f13.params.toList ++ Rows.fnEverySettingSpec.plain.varTypes Try.prog ++ Try.f13.resultTypes.toList).any (Try.prog.veiledRec ·)) = true := by kernel_rfl
theorem k28 : Rows.fnEverySettingRow.veiledFits Try.prog Try.f13.params.toList (Try.f13.params.toList ++ Rows.fnEverySettingSpec.plain.varTypes Try.prog ++ Try.f13.resultTypes.toList) = true := by kernel_rfl
theorem kName : Try.prog.funcNamed Rows.fnEverySettingRow.func = some 13 := by kernel_rfl
theorem kInst : Try.f13.isInstance Try.prog Rows.fnEverySettingRow.origin Rows.fnEverySettingRow.targs := of_decide_eq_true (by kernel_rfl)
theorem kWrap : Try.f13.isWrapper Try.prog Rows.fnEverySettingRow.wrapper Rows.fnEverySettingRow.mainSum := by
  unfold Func.isWrapper; first | (rw [if_pos (by decide +kernel)]; kernel_rfl) | (rw [if_neg (by decide +kernel)]; exact ⟨rfl, rfl⟩)
theorem closed : joinedFacts Try.prog 13 Try.f13 Rows.fnEverySettingSpec Rows.fnEverySettingRow = true :=
  joined_of k1 hfLaid hfMaps k4 k5 rfl hfStops rfl hfKnobs k10 k11 k12 k13 k14 k15 k16 k17 k17b k18 k19 k20 k21 hfKeys rfl rfl hfHeard hfEnter hfFinal rfl hfMake rfl k25 k26 k27 k28
theorem over : Rows.fnEverySettingRow.holds Try.pinned (OpenSpec.ofChange Rows.fnEverySettingSpec) :=
  OpenClaim.holds_of_wide 13 Try.f13 rfl rfl rfl rfl rfl rfl rfl ⟨rfl, rfl, rfl, rfl, rfl⟩ rfl rfl rfl rfl rfl kName Try.func13 closed kInst kWrap
    (fun os started H enc _ => lifted os started H enc)
end Go.Proofs.Ytejkdiinohndiaa.rowFnEverySetting
namespace Go.Proofs.Ytejkdiinohndiaa
theorem fnEverySetting_holds : Rows.FnEverySettingSaid := rowFnEverySetting.over
#print axioms fnEverySetting_holds
end Go.Proofs.Ytejkdiinohndiaa
