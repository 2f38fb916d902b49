/- PlaceOf. -/
import Derived.Test.YtpapmplmldfhpaaSheetCode
namespace Go.Proofs.Ytpapmplmldfhpaa
open Go.RowKit
def plV (a : Int) (l : List (List Int)) (x : Int) : Int × Int × Int := if shB a l then (if inF l.length x then (x % a, x / a, 0) else (0, 0, 2)) else (0, 0, 1)
theorem okI_one (n : Nat) (x : Int) : okI n [x] = inF n x := by simp [okI]
theorem scV_bad {a : Int} {l : List (List Int)} {fs : List Int} (h : shB a l = false) : scV a l fs = 1 := by simp [scV, h]
set_option maxHeartbeats 400000 in
theorem l07Asked_c (a : Int) (ha : -128 ≤ a ∧ a ≤ 127) (p : Option Addr) (n c : Nat) (l : List (List Int)) (hl : Prs l) (hn : n = l.length) (hm : n ≤ 1048576) (g : Nat) (t : TypeId) (x : Int) (w : World) (hp : PS w p l) (hg : w.heap[g]? = some (.cells #[.int .i8 a, .slice p n c] t (0, 0))) :
    Calls Try.prog 33 #[.pointer (some ⟨g, 0, none⟩), .int .i64 x] w fun e w' => e = .returned (.int .i64 (scV a l [x])) ∧ Below w.heap.size w w' := by
  have HN := Lib.hid hn
  have HA := Lib.hid hp
  have HG := Lib.hid hg
  clear hp hn hg
  cases hv : shB a l
  · have HV := Lib.hid hv
    have HR : Hid (scV a l [x] = 1) := Lib.hid (scV_bad hv)
    clear hv
    go_enter Try.func33, Try.ntmps33
    go_wp2_with fail
    refine (l07Ok_c a ha p n c l hl HN.out hm _ _ _ HA.out HG.out).mono ?_
    rintro e w1 ⟨rfl, hb1⟩
    rw [HV.out]
    have hB := Lib.hid hb1
    clear hb1
    go_wp2
    go_ret
    exact ⟨ret_int HR.out.symm, hB.out⟩
  · have HV := Lib.hid hv
    have HR : Hid (scV a l [x] = if inF n x then 0 else 2) := Lib.hid (by simp [scV, hv, ← HN.out, okI_one])
    clear hv
    cases ho : inF n x
    all_goals
      have HO := Lib.hid ho
      have HD := Lib.hid (show (decide (0 ≤ x) && decide (x ≤ (n : Int) - 1)) = _ from ho)
      clear ho
      go_enter Try.func33, Try.ntmps33
      go_wp2_with fail
      refine (l07Ok_c a ha p n c l hl HN.out hm _ _ _ HA.out HG.out).mono ?_
      rintro e w1 ⟨rfl, hb1⟩
      rw [HV.out]
      have H1 := Lib.hid (heap_below hb1 (lt_of_heap HG.out) HG.out)
      have c0 := bk2_0 H1.out
      have c1 := bk2_1 H1.out
      have hB := Lib.hid hb1
      clear hb1
      go_wp2_with (go_at_call 41; refine (l00In_c _ _ _ _).mono ?_; rintro e w' ⟨rfl, rfl⟩; rw [HD.out])
      go_ret
      exact ⟨ret_int (by rw [HR.out, HO.out] <;> rfl), hB.out⟩
end Go.Proofs.Ytpapmplmldfhpaa
