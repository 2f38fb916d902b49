/- Alike fields: the cells beside a cell. -/
import Derived.Test.YtbafbfamjjmngaaGreatDoorAlikeP
import Derived.Test.YtbafbfamjjmngaaGreatDoorRow
import Derived.Deep.DeepCutAuto
import Derived.Deep.RegionHeld3
namespace Go.Proofs.YtbafbfamjjmngaaGreatDoor
open Go.RowKit Go.Lib
theorem info_int : (Tryz.prog.info? 3).map (fun i => (i.zero, i.size, i.bytes)) = some (some (.int .i64 0), 1, 8) := by kernel_rfl
def be1 (i : Nat) : List Int := if 6 ≤ i then [(i : Int) - 6] else []
def be2 (i : Nat) : List Int := if 0 < i % 6 then be1 i ++ [(i : Int) - 1] else be1 i
def be3 (i : Nat) : List Int := if i % 6 < 5 then be2 i ++ [(i : Int) + 1] else be2 i
def beL (i : Nat) : List Int := if i < 18 then be3 i ++ [(i : Int) + 6] else be3 i
theorem beL_tab : ∀ i : Fin 24, (beL i.val).length ≤ 4 ∧ (∀ k, k < (beL i.val).length → 0 ≤ (beL i.val).getD k 0 ∧ (beL i.val).getD k 0 < 24) ∧ ∀ j : Fin 24, bes i.val j.val = decide ((j.val : Int) ∈ beL i.val) := by decide +kernel
theorem be_len (i : Nat) : (be1 i).length ≤ 1 ∧ (be2 i).length ≤ 2 ∧ (be3 i).length ≤ 3 := by
  unfold be3 be2 be1
  repeat' split
  all_goals simp
set_option maxHeartbeats 2000000 in
theorem beside_c (i : Nat) (hi : i < 24) (w : World) :
    Calls Tryz.prog 47 #[.int .i64 i] w fun e w' => ∃ v, e = .returned v ∧ Row w' w.heap.size 3 .i64 v (beL i) ∧ Below w.heap.size w w' := by
  have HR := Lib.hid (row_new w 3 .i64 w.heap.size (Nat.le_refl _))
  have HW := Lib.hid (bl1 w (.cells #[] 3))
  by_cases h1 : 6 ≤ i <;> by_cases h2 : 0 < i % 6 <;> by_cases h3 : i % 6 < 5 <;> by_cases h4 : i < 18
  all_goals first | (exfalso; omega) | skip
  all_goals
    go_enter Tryz.func47, Tryz.ntmps47
    go_upto_region 2 with fail
    generalize w.alloc (.cells #[] 3) = w0 at *
    generalize (Value.slice (some ⟨w.heap.size, 0, none⟩) 0 0) = v0 at *
    go_wp2_with (first
      | (at_builtin; refine wpList_app rfl (.tmp 7) (.tmp 10) 73 rfl w.heap.size 3 .i64 8 Tryz.underlying73 info_int (by decide) _ _ rfl (row_alloc HR.out _) _ 1 ((i : Int) - 6) rfl (by simp) (by simp) (by simp; have := HW.out.size; omega) ?_; intro v1 w1 hrow hgr hbk; have HW := Lib.hid (below_app (HW.out.alloc HW.out.size _) hgr (Nat.le_refl _) hbk); have HR := Lib.hid hrow; clear hrow hgr hbk)
      | (at_builtin; refine wpList_app rfl (.tmp 15) (.tmp 18) 73 rfl w.heap.size 3 .i64 8 Tryz.underlying73 info_int (by decide) _ _ rfl (row_alloc HR.out _) _ 1 ((i : Int) - 1) rfl (by simp) (by simp) (by simp; have := HW.out.size; omega) ?_; intro v1 w1 hrow hgr hbk; have HW := Lib.hid (below_app (HW.out.alloc HW.out.size _) hgr (Nat.le_refl _) hbk); have HR := Lib.hid hrow; clear hrow hgr hbk)
      | (at_builtin; refine wpList_app rfl (.tmp 23) (.tmp 26) 73 rfl w.heap.size 3 .i64 8 Tryz.underlying73 info_int (by decide) _ _ rfl (row_alloc HR.out _) _ 1 ((i : Int) + 1) rfl (by simp) (by simp) (by simp; have := HW.out.size; omega) ?_; intro v1 w1 hrow hgr hbk; have HW := Lib.hid (below_app (HW.out.alloc HW.out.size _) hgr (Nat.le_refl _) hbk); have HR := Lib.hid hrow; clear hrow hgr hbk)
      | (at_builtin; refine wpList_app rfl (.tmp 30) (.tmp 33) 73 rfl w.heap.size 3 .i64 8 Tryz.underlying73 info_int (by decide) _ _ rfl (row_alloc HR.out _) _ 1 ((i : Int) + 6) rfl (by simp) (by simp) (by simp; have := HW.out.size; omega) ?_; intro v1 w1 hrow hgr hbk; have HW := Lib.hid (below_app (HW.out.alloc HW.out.size _) hgr (Nat.le_refl _) hbk); have HR := Lib.hid hrow; clear hrow hgr hbk))
    all_goals first | (exfalso; omega) | skip
    go_ret
    refine ⟨_, rfl, ?_, HW.out⟩
    have e := HR.out
    simp only [beL, be3, be2, be1, h1, h2, h3, h4, if_true, if_false]
    exact e
end Go.Proofs.YtbafbfamjjmngaaGreatDoor
