/- FnSpots: the row. -/
import Derived.Test.YtdmlefccajaniaaDoorRows
import Derived.Test.YtdmlefccajaniaaDoorCards
import Derived.Test.YtdmlefccajaniaaDoorTie
import Derived.Test.YtdmlefccajaniaaDoorArgs
import Derived.Test.YtdmlefccajaniaaDoorLaid
import Derived.Test.YtdmlefccajaniaaDoorHead
import Derived.Test.YtdmlefccajaniaaDoorLSpots
import Derived.Test.YtdmlefccajaniaaDoorArgB
import Derived.WalkKit
import Derived.ProofKit
import Derived.OpenShut
import Derived.ShutString
import Derived.ChangeOld
import Derived.Below
import Derived.SizedLaws
import Derived.Deep.DeepHandedRow
namespace Go.Proofs.YtdmlefccajaniaaDoor.rowFnSpots
open Go.ChangeShapes Go.WideShapes Go.ChangeAt Go.RowKit
open Go.ChangeMaps (open_string shut_string)
open Go.Joins (open_agg2 shut_agg2 open_agg3 shut_agg3 field_of_Trod)
set_option linter.unusedVariables false
set_option maxRecDepth 100000
theorem cellsE_0 : Tryd.prog.cellsOf 5 = 1 := by kernel_rfl
theorem cellsE_1 : Tryd.prog.cellsOf 5 = 1 := by kernel_rfl
theorem contract (H : Type) (enc : TypeId × Value → H) (W : World) (base : Nat) (args : Array Value) (ds gs : List (DataW H)) (before : List MemPlace)
    (hval0 : ∀ (j : Nat) t v, Tryd.f3.params[j]? = some t → args[j]? = some v → Value.okWide Tryd.prog W .any base t v)
    (hW : DataW.Whole enc Tryd.prog Tryd.f3.params.toList Rows.fnSpotsSpec.vars false W args.toList ds gs before) (hL : laidMetH Tryd.prog Rows.fnSpotsRow.laid W) :
    Calls Tryd.prog 3 args W fun e W' => ∃ v, e = .returned v ∧ Rows.fnSpotsSpec.post enc Tryd.prog Tryd.f3 false true false false W args v W' := by
  have hval : ∀ (j : Nat) t v, Tryd.f3.params[j]? = some t → args[j]? = some v → Value.okWide Tryd.prog W .any base t v := hval0
  have hW' := hW
  obtain ⟨p, q, hA0, hV, rfl, hfz, hnd⟩ := hW
  have hA : DataW.TrodAll enc Tryd.prog W 0 (fun _ => true) true Tryd.f3.params.toList args.toList ds p := hA0
  rw [Tryd.params3] at hA hval
  obtain ⟨v0, vs0, d0, ds0, p0, q0, hargs, rfl, rfl, h0, r0⟩ := trodAll_cons hA
  obtain ⟨v1, vs1, d1, ds1, p1, q1, rfl, rfl, rfl, h1, r1⟩ := trodAll_cons r0
  obtain ⟨rfl, rfl, rfl⟩ := trodAll_nil r1
  obtain rfl : args = #[v0, v1] := by cases args; simp_all
  obtain ⟨rfl, rfl⟩ := trodVars_none hV
  have hk0 := h0
  have hlt0 : ∀ x ∈ p0, x.block < W.heap.size := fun x hx => hW'.lt x (by simp [hx])
  obtain ⟨n0, hq0⟩ := open_bytesV Tryd.underlying22 Tryd.underlying5 cellsE_0 (hval 0 22 v0 rfl rfl) h0
  have hk1 := h1
  have hlt1 : ∀ x ∈ p1, x.block < W.heap.size := fun x hx => hW'.lt x (by simp [hx])
  obtain ⟨n1, hq1⟩ := open_bytesV Tryd.underlying22 Tryd.underlying5 cellsE_1 (hval 1 22 v1 rfl rfl) h1
  clear hA0 hval0
  refine (lawSpots_c v0 n0 v1 n1 W hq0 hq1 (tabAt_of hL)).mono fun e W' ⟨he, bel⟩ => ?_
  subst he
  exact ⟨_, rfl, _, _, _, [], _, [], hW', trodAll_mk1 (shut_bool Tryd.underlying4 _), (trodAll_cons_mk (Below.trod hfLaid (by kernel_rfl) (of_decide_eq_true (by kernel_rfl)) hk0 bel hlt0) (trodAll_cons_mk (Below.trod hfLaid (by kernel_rfl) (of_decide_eq_true (by kernel_rfl)) hk1 bel hlt1) trodAll_mk0)), rfl, bel.frame _, fun h => by cases h⟩
theorem laid_met (os : Os) : laidMet Tryd.prog Rows.fnSpotsRow.laid ((laidWorld os).forCall (fun _ _ => 0) ⟨#[], #[.slice none 0 0, .slice none 0 0], []⟩).memory :=
  laidMet_of_run' 8 (by kernel_rfl) (by kernel_rfl)
theorem reads (os : Os) {H : Type} (enc : TypeId × Value → H) : ∃ places, DataW.whole enc Tryd.prog ((laidWorld os).forCall (fun _ _ => 0) ⟨#[], #[.slice none 0 0, .slice none 0 0], []⟩).memory Tryd.f3.params.toList Rows.fnSpotsSpec.vars false (#[.slice none 0 0, .slice none 0 0] : Array Value).toList 8 = some ([.nil, .nil], [], places) :=
  ⟨[], by kernel_rfl⟩
set_option maxRecDepth 100000 in
theorem lifted (os : Os) (started : os.Started) (H : Type) (enc : TypeId × Value → H) (F : Stop.Interp) :
    ReturnsInHanded {} Tryd.checked os 3 .any ((OpenSpec.ofChange Rows.fnSpotsSpec).preRow enc Tryd.prog Tryd.f3 Rows.fnSpotsRow.domain false Rows.fnSpotsRow.laid) (((OpenSpec.ofChange Rows.fnSpotsSpec).at F).post enc Tryd.prog Tryd.f3 false true false false) := by
  obtain ⟨places, hx⟩ := reads os enc
  refine returnsInHanded_of_row (C := Tryd.checked) (s := OpenSpec.ofChange Rows.fnSpotsSpec) hfOwn started (by kernel_rfl) Tryd.func3
    (witness_row_at (enc := enc) (C := Tryd.checked) false (laidWorld os) #[.slice none 0 0, .slice none 0 0] rfl (by kernel_rfl) (by kernel_rfl) (by kernel_rfl)
      (OpenSpec.preRow_of_cond 8 hx (by kernel_rfl) (fun k hk => by cases hk) (by kernel_rfl) (laid_met os))) ?_
  intro W base args ds gs before hval hW _ _ _ hL _ _
  exact contract H enc W base args ds gs before hval hW hL
theorem k1 : Rows.fnSpotsRow.wf (OpenSpec.ofChange Rows.fnSpotsSpec) = true := by kernel_rfl
theorem k4 : Tryd.f3.params.all (Tryd.prog.readableRec ·) = true := by kernel_rfl
theorem k5 : namedTie Tryd.prog Rows.fnSpotsRow.named Rows.fnSpotsSpec.vars = true := by kernel_rfl
theorem k10 : (Rows.fnSpotsRow.inPlace == Tryd.prog.inPlace 3) = true := by kernel_rfl
theorem k11 : (Rows.fnSpotsRow.unfollowed == Tryd.prog.unfollowed 3) = true := by kernel_rfl
theorem k12 : (Rows.fnSpotsRow.recurses == Tryd.prog.recurses 3) = true := by kernel_rfl
theorem k13 : (Rows.fnSpotsRow.named == Tryd.prog.varsNamed 3) = true := by kernel_rfl
theorem k14 : (Rows.fnSpotsRow.maps == (Tryd.f3.params.toList ++ Rows.fnSpotsSpec.plain.varTypes Tryd.prog).any (Tryd.prog.mapsRec ·)) = true := by kernel_rfl
theorem k15 : (Rows.fnSpotsRow.ifaces == (Tryd.f3.params.toList ++ Rows.fnSpotsSpec.plain.varTypes Tryd.prog).any (Tryd.prog.ifacesRec ·)) = true := by kernel_rfl
theorem k16 : (Rows.fnSpotsRow.mapsOut == Tryd.prog.mapsAmong Tryd.f3.resultTypes.toList) = true := by kernel_rfl
theorem k17 : (Rows.fnSpotsRow.loops == (Tryd.f3.params.toList ++ Rows.fnSpotsSpec.plain.varTypes Tryd.prog).any (Tryd.prog.loopsFrom ·)) = true := by kernel_rfl
theorem k17b : (Rows.fnSpotsRow.wideKeys == (Tryd.f3.params.toList ++ Rows.fnSpotsSpec.plain.varTypes Tryd.prog ++ Tryd.f3.resultTypes.toList).any (Tryd.prog.wideKeysFrom ·)) = true := by kernel_rfl
theorem k18 : Rows.fnSpotsSpec.vars.all (Tryd.prog.varReadable ·) = true := by kernel_rfl
theorem k19 : Tryd.f3.resultTypes.all (fun t => Tryd.prog.readableRec t && decide (t < Tryd.prog.types.size)) = true := by kernel_rfl
theorem k20 : (Rows.fnSpotsRow.ifacesOut == Tryd.f3.resultTypes.toList.any (Tryd.prog.ifacesRec ·)) = true := by kernel_rfl
theorem k21 : (Rows.fnSpotsRow.loopsOut == Tryd.f3.resultTypes.toList.any (Tryd.prog.loopsFrom ·)) = true := by kernel_rfl
theorem k25 : (Rows.fnSpotsRow.kinds == (if Rows.fnSpotsRow.domain.isEmpty then [] else Tryd.f3.params.toList.map fun t => match Tryd.prog.underlying t with | some (.int k) => some k | _ => none)) = true := by kernel_rfl
theorem k26 : (Rows.fnSpotsRow.pinned == Rows.fnSpotsRow.pinnedBy) = true := by kernel_rfl
theorem k27 : (Rows.fnSpotsRow.veiled == (Tryd.f3.params.toList ++ Rows.fnSpotsSpec.plain.varTypes Tryd.prog ++ Tryd.f3.resultTypes.toList).any (Tryd.prog.veiledRec ·)) = true := by kernel_rfl
theorem k28 : Rows.fnSpotsRow.veiledFits Tryd.prog Tryd.f3.params.toList (Tryd.f3.params.toList ++ Rows.fnSpotsSpec.plain.varTypes Tryd.prog ++ Tryd.f3.resultTypes.toList) = true := by kernel_rfl
theorem kName : Tryd.prog.funcNamed Rows.fnSpotsRow.func = some 3 := by kernel_rfl
theorem kInst : Tryd.f3.isInstance Tryd.prog Rows.fnSpotsRow.origin Rows.fnSpotsRow.targs := of_decide_eq_true (by kernel_rfl)
theorem kWrap : Tryd.f3.isWrapper Tryd.prog Rows.fnSpotsRow.wrapper Rows.fnSpotsRow.mainSum := by
  unfold Func.isWrapper; first | (rw [if_pos (by decide +kernel)]; kernel_rfl) | (rw [if_neg (by decide +kernel)]; exact ⟨rfl, rfl⟩)
theorem closed : joinedFacts Tryd.prog 3 Tryd.f3 Rows.fnSpotsSpec Rows.fnSpotsRow = true :=
  joined_of k1 hfLaid hfMaps k4 k5 rfl hfStops rfl hfKnobs k10 k11 k12 k13 k14 k15 k16 k17 k17b k18 k19 k20 k21 hfKeys rfl rfl hfHeard hfEnter hfFinal rfl hfMake rfl k25 k26 k27 k28
theorem over : Rows.fnSpotsRow.holds Tryd.pinned (OpenSpec.ofChange Rows.fnSpotsSpec) :=
  OpenClaim.holds_of_cond 3 Tryd.f3 rfl rfl rfl rfl rfl rfl rfl ⟨rfl, rfl, rfl, rfl, rfl⟩ rfl rfl rfl rfl rfl kName Tryd.func3 closed kInst kWrap
    (fun os started H enc _ F => by rw [OpenClaim.pre_eq_preRow]; exact lifted os started H enc F)
theorem wants : Tryd.f3.params.all (fun t => Tryd.prog.wantsStandIn t == false) = true := by kernel_rfl
theorem plain (f : FuncId) (fn : Func) (hf : Tryd.pinned.checked.prog.funcNamed Rows.fnSpotsRow.func = some f) (hfn : Tryd.pinned.checked.prog.funcs[f]? = some fn) :
    true = Tryd.pinned.checked.prog.looks [] ∧ ∀ (j : Nat) t, fn.params[j]? = some t → Tryd.pinned.checked.prog.wantsStandIn t = false := by
  obtain rfl : f = 3 := Option.some.inj (kName.symm.trans hf) |>.symm
  obtain rfl : fn = Tryd.f3 := (Option.some.inj (Tryd.func3.symm.trans hfn)).symm
  refine ⟨by kernel_rfl, fun j t ht => ?_⟩
  have := (Array.all_eq_true_iff_forall_mem.1 wants) t (Array.mem_of_getElem? ht)
  exact (show Tryd.prog.wantsStandIn t = false by simpa using this)
theorem card : Rows.FnSpotsCardSaid :=
  Claim7.holds_tied_plain_at .later [] _ _ _ _ over (fun _ h => by cases h) (by kernel_rfl) (fun _ h => by cases h) fnSpots_row_tie rfl ⟨rfl, rfl⟩ (by kernel_rfl) rfl plain (by kernel_rfl)
end Go.Proofs.YtdmlefccajaniaaDoor.rowFnSpots
namespace Go.Proofs.YtdmlefccajaniaaDoor
theorem fnSpots_card : Rows.FnSpotsCardSaid := rowFnSpots.card
#print axioms fnSpots_card
end Go.Proofs.YtdmlefccajaniaaDoor
