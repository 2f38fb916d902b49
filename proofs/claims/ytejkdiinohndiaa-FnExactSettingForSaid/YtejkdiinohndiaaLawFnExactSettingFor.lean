/- FnExactSettingFor: the row. -/
import Derived.Test.YtejkdiinohndiaaRows
import Derived.Test.YtejkdiinohndiaaArgs
import Derived.Test.YtejkdiinohndiaaHead
import Derived.Test.YtejkdiinohndiaaSetForL
import Derived.WalkKit
import Derived.ProofKit
import Derived.OpenShut
import Derived.ShutString
import Derived.ChangeOld
import Derived.Below
import Derived.SizedLaws
namespace Go.Proofs.Ytejkdiinohndiaa.rowFnExactSettingFor
open Go.ChangeShapes Go.WideShapes Go.ChangeAt Go.RowKit
open Go.ChangeMaps (open_string shut_string)
open Go.Joins (open_agg2 shut_agg2 open_agg3 shut_agg3 field_of_Trod)
set_option linter.unusedVariables false
set_option maxRecDepth 100000
theorem cells_0 : Try.prog.cellsOf 56 = 3 := by kernel_rfl
theorem cellsE_0 : Try.prog.cellsOf 22 = 1 := by kernel_rfl
theorem cells_2 : Try.prog.cellsOf 29 = 2 := by kernel_rfl
theorem cellsE_2 : Try.prog.cellsOf 22 = 1 := by kernel_rfl
set_option maxRecDepth 100000 in
theorem lifted (os : Os) (started : os.Started) (H : Type) (enc : TypeId × Value → H) :
    ReturnsInHanded {} Try.checked os 14 .any (Rows.fnExactSettingForSpec.pre6 enc Try.prog Try.f14 Rows.fnExactSettingForRow.domain false) (Rows.fnExactSettingForSpec.post enc Try.prog Try.f14 false true false false) := by
  refine returnsInHanded_of_change_sized (C := Try.checked) hfOwn started (by kernel_rfl) Try.func14
    (ChangeSpec.witness6 (enc := enc) (C := Try.checked) false ⟨#[], #[.agg #[.int .i8 0, .int .i8 0, .int .i8 0], .int .i64 0, .agg #[.int .i8 0, .int .i8 0]], []⟩ 8 (by kernel_rfl) (by kernel_rfl) (by kernel_rfl) (by kernel_rfl)) ?_
  intro W base args ds gs before hval0 hW hcnd hsz0 _
  have hsz : (DataW.weightsEach Try.prog (Try.f14.params.toList ++ Rows.fnExactSettingForSpec.plain.varTypes Try.prog) (ds ++ gs)).all (· ≤ reachBytes) = true := hsz0
  have hval : ∀ (j : Nat) t v, Try.f14.params[j]? = some t → args[j]? = some v → Value.okWide Try.prog W .any base t v := hval0
  have hW' := hW
  obtain ⟨p, q, hA0, hV, rfl, hfz, hnd⟩ := hW
  have hA : DataW.TrodAll enc Try.prog W 0 (fun _ => true) true Try.f14.params.toList args.toList ds p := hA0
  rw [Try.params14] at hA hval hsz
  obtain ⟨v0, vs0, d0, ds0, p0, q0, hargs, rfl, rfl, h0, r0⟩ := trodAll_cons hA
  obtain ⟨v1, vs1, d1, ds1, p1, q1, rfl, rfl, rfl, h1, r1⟩ := trodAll_cons r0
  obtain ⟨v2, vs2, d2, ds2, p2, q2, rfl, rfl, rfl, h2, r2⟩ := trodAll_cons r1
  obtain ⟨rfl, rfl, rfl⟩ := trodAll_nil r2
  obtain rfl : args = #[v0, v1, v2] := by cases args; simp_all
  obtain ⟨rfl, rfl⟩ := trodVars_none hV
  obtain ⟨c0_0, c0_1, c0_2, y0_0, y0_1, y0_2, n0, rfl, rfl, rfl, g0_0, g0_1, g0_2⟩ := open_agg3 Try.underlying56 (by kernel_rfl) cells_0 (hval 0 56 v0 rfl rfl) h0
  obtain ⟨a0_0, rfl, rfl, b0_0⟩ := read_int Try.underlying22 g0_0
  obtain ⟨a0_1, rfl, rfl, b0_1⟩ := read_int Try.underlying22 g0_1
  obtain ⟨a0_2, rfl, rfl, b0_2⟩ := read_int Try.underlying22 g0_2
  obtain ⟨a1, rfl, rfl, rfl, w1⟩ := open_int Try.underlying2 (hval 1 2 v1 rfl rfl) h1
  obtain ⟨c2_0, c2_1, y2_0, y2_1, n2, rfl, rfl, rfl, g2_0, g2_1⟩ := open_agg2 Try.underlying29 (by kernel_rfl) cells_2 (hval 2 29 v2 rfl rfl) h2
  obtain ⟨a2_0, rfl, rfl, b2_0⟩ := read_int Try.underlying22 g2_0
  obtain ⟨a2_1, rfl, rfl, b2_1⟩ := read_int Try.underlying22 g2_1
  clear hA0 hval0 hsz0 hsz
  refine (lawSettingFor_c a0_0 a0_1 a0_2 (bounds_i8 b0_0) (bounds_i8 b0_1) (bounds_i8 b0_2) a1 (bounds_i64 w1) a2_0 a2_1 (bounds_i8 b2_0) (bounds_i8 b2_1) W).mono fun e W' ⟨he, bel⟩ => ?_
  subst he
  exact ⟨_, rfl, _, _, _, [], _, [], hW', trodAll_mk1 (shut_bool Try.underlying4 _), (trodAll_cons_mk (shut_agg3 Try.underlying56 (by kernel_rfl) cells_0 (field_of_Trod (shut_int Try.underlying22 b0_0) rfl) (field_of_Trod (shut_int Try.underlying22 b0_1) rfl) (field_of_Trod (shut_int Try.underlying22 b0_2) rfl)) (trodAll_cons_mk (shut_int Try.underlying2 w1) (trodAll_cons_mk (shut_agg2 Try.underlying29 (by kernel_rfl) cells_2 (field_of_Trod (shut_int Try.underlying22 b2_0) rfl) (field_of_Trod (shut_int Try.underlying22 b2_1) rfl)) trodAll_mk0))), rfl, bel.frame _, fun h => by cases h⟩
theorem k1 : Rows.fnExactSettingForRow.wf (OpenSpec.ofChange Rows.fnExactSettingForSpec) = true := by kernel_rfl
theorem k4 : Try.f14.params.all (Try.prog.readableRec ·) = true := by kernel_rfl
theorem k5 : namedTie Try.prog Rows.fnExactSettingForRow.named Rows.fnExactSettingForSpec.vars = true := by kernel_rfl
theorem k10 : (Rows.fnExactSettingForRow.inPlace == Try.prog.inPlace 14) = true := by kernel_rfl
theorem k11 : (Rows.fnExactSettingForRow.unfollowed == Try.prog.unfollowed 14) = true := by kernel_rfl
theorem k12 : (Rows.fnExactSettingForRow.recurses == Try.prog.recurses 14) = true := by kernel_rfl
theorem k13 : (Rows.fnExactSettingForRow.named == Try.prog.varsNamed 14) = true := by kernel_rfl
theorem k14 : (Rows.fnExactSettingForRow.maps == (Try.f14.params.toList ++ Rows.fnExactSettingForSpec.plain.varTypes Try.prog).any (Try.prog.mapsRec ·)) = true := by kernel_rfl
theorem k15 : (Rows.fnExactSettingForRow.ifaces == (Try.f14.params.toList ++ Rows.fnExactSettingForSpec.plain.varTypes Try.prog).any (Try.prog.ifacesRec ·)) = true := by kernel_rfl
theorem k16 : (Rows.fnExactSettingForRow.mapsOut == Try.prog.mapsAmong Try.f14.resultTypes.toList) = true := by kernel_rfl
theorem k17 : (Rows.fnExactSettingForRow.loops == (Try.f14.params.toList ++ Rows.fnExactSettingForSpec.plain.varTypes Try.prog).any (Try.prog.loopsFrom ·)) = true := by kernel_rfl
theorem k17b : (Rows.fnExactSettingForRow.wideKeys == (Try.f14.params.toList ++ Rows.fnExactSettingForSpec.plain.varTypes Try.prog ++ Try.f14.resultTypes.toList).any (Try.prog.wideKeysFrom ·)) = true := by kernel_rfl
theorem k18 : Rows.fnExactSettingForSpec.vars.all (Try.prog.varReadable ·) = true := by kernel_rfl
theorem k19 : Try.f14.resultTypes.all (fun t => Try.prog.readableRec t && decide (t < Try.prog.types.size)) = true := by kernel_rfl
theorem k20 : (Rows.fnExactSettingForRow.ifacesOut == Try.f14.resultTypes.toList.any (Try.prog.ifacesRec ·)) = true := by kernel_rfl
theorem k21 : (Rows.fnExactSettingForRow.loopsOut == Try.f14.resultTypes.toList.any (Try.prog.loopsFrom ·)) = true := by kernel_rfl
theorem k25 : (Rows.fnExactSettingForRow.kinds == (if Rows.fnExactSettingForRow.domain.isEmpty then [] else Try.f14.params.toList.map fun t => match Try.prog.underlying t with | some (.int k) => some k | _ => none)) = true := by kernel_rfl
theorem k26 : (Rows.fnExactSettingForRow.pinned == Rows.fnExactSettingForRow.pinnedBy) = true := by kernel_rfl
theorem k27 : (Rows.fnExactSettingForRow.veiled == (Try.f14.params.toList ++ Rows.fnExactSettingForSpec.plain.varTypes Try.prog ++ Try.f14.resultTypes.toList).any (Try.prog.veiledRec ·)) = true := by kernel_rfl
theorem k28 : Rows.fnExactSettingForRow.veiledFits Try.prog Try.f14.params.toList (Try.f14.params.toList ++ Rows.fnExactSettingForSpec.plain.varTypes Try.prog ++ Try.f14.resultTypes.toList) = true := by kernel_rfl
theorem kName : Try.prog.funcNamed Rows.fnExactSettingForRow.func = some 14 := by kernel_rfl
theorem kInst : Try.f14.isInstance Try.prog Rows.fnExactSettingForRow.origin Rows.fnExactSettingForRow.targs := of_decide_eq_true (by kernel_rfl)
theorem kWrap : Try.f14.isWrapper Try.prog Rows.fnExactSettingForRow.wrapper Rows.fnExactSettingForRow.mainSum := by
  unfold Func.isWrapper; first | (rw [if_pos (by decide +kernel)]; kernel_rfl) | (rw [if_neg (by decide +kernel)]; exact ⟨rfl, rfl⟩)
theorem closed : joinedFacts Try.prog 14 Try.f14 Rows.fnExactSettingForSpec Rows.fnExactSettingForRow = true :=
  joined_of k1 hfLaid hfMaps k4 k5 rfl hfStops rfl hfKnobs k10 k11 k12 k13 k14 k15 k16 k17 k17b k18 k19 k20 k21 hfKeys rfl rfl hfHeard hfEnter hfFinal rfl hfMake rfl k25 k26 k27 k28
theorem over : Rows.fnExactSettingForRow.holds Try.pinned (OpenSpec.ofChange Rows.fnExactSettingForSpec) :=
  OpenClaim.holds_of_wide 14 Try.f14 rfl rfl rfl rfl rfl rfl rfl ⟨rfl, rfl, rfl, rfl, rfl⟩ rfl rfl rfl rfl rfl kName Try.func14 closed kInst kWrap
    (fun os started H enc _ => lifted os started H enc)
end Go.Proofs.Ytejkdiinohndiaa.rowFnExactSettingFor
namespace Go.Proofs.Ytejkdiinohndiaa
theorem fnExactSettingFor_holds : Rows.FnExactSettingForSaid := rowFnExactSettingFor.over
#print axioms fnExactSettingFor_holds
end Go.Proofs.Ytejkdiinohndiaa
