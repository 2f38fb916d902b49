/- Short functions of the laws: lengths of drawn bytes, a drawn number, equal masks, a number in a list. -/
import Derived.Test.YtdmlefccajaniaaDoorSrc
import Derived.Test.YtdmlefccajaniaaDoorLstUint64S
import Derived.Test.YtdmlefccajaniaaDoorLstInt64S
import Derived.Test.YtdmlefccajaniaaDoorRepW
namespace Go.Proofs.YtdmlefccajaniaaDoor
open Go.RowKit Go.Lib
theorem f6bigG_c (v1 : Value) (n1 : Nat) (p1 : Option Addr) (c1 : Nat) (h1 : v1 = .slice p1 n1 c1) (w : World) :
    Calls Tryd.prog 7 #[v1] w fun e w' => e = .returned (.bool (decide (4096 < (n1 : Int)))) ∧ w = w' := by
  subst h1
  go_enter Tryd.func7, Tryd.ntmps7
  go_wp2
  go_ret
  exact ⟨by simp, rfl⟩
theorem p6PickG_c (v : Value) (n : Nat) (w : World) (h : Bytes w v n) (m : Int) (h2 : m ≤ 1000000000) :
    Calls Tryd.prog 22 #[v, .int .i64 m] w fun e w' => ∃ x : Int, e = .returned (.int .i64 x) ∧ 0 ≤ x ∧ x ≤ max (m - 1) 0 ∧ Below w.heap.size w w' := by
  have HS := Lib.hid h
  clear h
  go_enter Tryd.func22, Tryd.ntmps22
  go_wp2_with fail
  refine (srcFrom_c _ _ _ HS.out).mono ?_
  rintro e w2 ⟨g, rfl, hg, hS, hb⟩
  have HS2 := Lib.hid hS
  clear hS
  go_wp2_with fail
  refine (srcPickAny_c g 0 m _ HS2.out (by omega) (by omega)).mono ?_
  rintro e w3 ⟨x, rfl, x0, x1, _, hO⟩
  go_wp2
  go_ret
  exact ⟨x, rfl, x0, x1, only_above hb hO hg⟩
set_option maxHeartbeats 400000 in
theorem sameMasks_c (xs : List Int) (p1 p2 : Option Addr) (n c1 c2 : Nat) (hn : n = xs.length) (hm : n ≤ 1048576) (w : World) (B1 B2 : Nat) (h1 : PB_u64 w B1 p1 xs) (h2 : PB_u64 w B2 p2 xs) :
    Calls Tryd.prog 15 #[.slice p1 n c1, .slice p2 n c2] w fun e w' => e = .returned (.bool true) ∧ Below w.heap.size w w' := by
  have HN := Lib.hid hn
  have H1 := Lib.hid h1
  have H2 := Lib.hid h2
  clear hn h1 h2
  go_enter Tryd.func15, Tryd.ntmps15
  go_wp2
  go_loopw [5] (fun i wr => ∃ k q : Nat, k ≤ n ∧ i = .int .i64 k ∧ wr = w.drewN q) (fun i _ => n - (intOf i).toNat)
  case atStart => exact ⟨0, 0, Nat.zero_le _, rfl, rfl⟩
  case round =>
    obtain ⟨k, q, hk, rfl, hW⟩ := hrel
    have HW := Lib.hid hW
    clear hW
    by_cases hlt : k < n
    · obtain ⟨b1, o1, rfl, _, hc1⟩ := H1.out (neL_of_lt_u64 (k := k) (by have := HN.out; omega))
      obtain ⟨b2, o2, rfl, _, hc2⟩ := H2.out (neL_of_lt_u64 (k := k) (by have := HN.out; omega))
      have d1 := hc1 k (by have := HN.out; omega)
      have d2 := hc2 k (by have := HN.out; omega)
      have e1 : wr.cell? ⟨b1, o1 + k, none⟩ = some (.int .u64 (xs.getD k 0)) := by rw [HW.out, World.cell?_drewN]; exact d1
      have e2 : wr.cell? ⟨b2, o2 + k, none⟩ = some (.int .u64 (xs.getD k 0)) := by rw [HW.out, World.cell?_drewN]; exact d2
      generalize xs.getD k 0 = x at *
      have hself : (x != x) = false := by simp
      clear hc1 hc2 d1 d2
      go_wp2_with fail
      go_quiet (fail)
      go_wp2
      go_roundw
      case rel => exact ⟨k + 1, q + nq, by omega, by go_num, by rw [HW.out, World.drewN_drewN]⟩
      case measure => simp [intOf]; omega
    · go_wp2
      go_ret
      exact ⟨rfl, by rw [HW.out]; exact bl_drewN (Below.refl _ _) _⟩
/-- Whether a number is in a list. -/
def hasI (xs : List Int) (x : Int) : Bool := xs.any fun y => y == x
theorem hasI_take (xs : List Int) (x : Int) (k : Nat) (h : k < xs.length) : hasI (xs.take (k + 1)) x = (hasI (xs.take k) x || (xs.getD k 0 == x)) := by
  unfold hasI
  rw [List.take_succ_eq_append_getElem h, List.any_append]
  simp [List.getD_eq_getElem?_getD, h]
theorem hasI_at (xs : List Int) (x : Int) (k : Nat) (h : k < xs.length) (e : (xs.getD k 0 == x) = true) : hasI xs x = true := by
  unfold hasI
  rw [List.any_eq_true]
  refine ⟨xs[k], List.getElem_mem h, ?_⟩
  rwa [List.getD_eq_getElem?_getD, List.getElem?_eq_getElem h] at e
set_option maxHeartbeats 400000 in
theorem l00Has_c (xs : List Int) (p1 : Option Addr) (n c1 : Nat) (x : Int) (hn : n = xs.length) (hm : n ≤ 1048576) (w : World) (B1 : Nat) (h1 : PB_i64 w B1 p1 xs) :
    Calls Tryd.prog 70 #[.slice p1 n c1, .int .i64 x] w fun e w' => e = .returned (.bool (hasI xs x)) ∧ w = w' := by
  have HN := Lib.hid hn
  have H1 := Lib.hid h1
  clear hn h1
  go_enter Tryd.func70, Tryd.ntmps70
  go_wp2
  go_loop [5] (fun i => ∃ k : Nat, k ≤ n ∧ i = .int .i64 k ∧ hasI (xs.take k) x = false) (fun i => n - (intOf i).toNat)
  case atStart => exact ⟨0, Nat.zero_le _, rfl, rfl⟩
  case round =>
    obtain ⟨k, hk, rfl, hno⟩ := hrel
    have HNo := Lib.hid hno
    clear hno
    by_cases hlt : k < n
    · have hkx : Hid (k < xs.length) := Lib.hid (by have := HN.out; omega)
      obtain ⟨b1, o1, rfl, _, hc1⟩ := H1.out (neL_of_lt_i64 hkx.out)
      have d1 := hc1 k hkx.out
      have ht := hasI_take xs x k hkx.out
      have ha := hasI_at xs x k hkx.out
      generalize xs.getD k 0 = y at *
      clear hc1
      cases hy : (y == x)
      · have HT := Lib.hid ht
        have HY := Lib.hid hy
        clear ht ha hy
        have hy2 := HY.out
        go_wp2
        go_round
        case rel => exact ⟨k + 1, by omega, by go_num, by rw [HT.out, HNo.out, HY.out]; rfl⟩
        case measure => simp [intOf]; omega
      · have HA := Lib.hid (ha hy)
        clear ht ha
        go_wp2
        go_ret
        exact ⟨ret_bool HA.out.symm, rfl⟩
    · have HE : Hid (hasI xs x = false) := Lib.hid (by have := HNo.out; rwa [List.take_of_length_le (by have := HN.out; omega)] at this)
      go_wp2
      go_ret
      exact ⟨ret_bool HE.out.symm, rfl⟩
theorem hasNumber_c (xs : List Int) (p1 : Option Addr) (n c1 : Nat) (x : Int) (hn : n = xs.length) (hm : n ≤ 1048576) (w : World) (B1 : Nat) (h1 : PB_i64 w B1 p1 xs) :
    Calls Tryd.prog 34 #[.slice p1 n c1, .int .i64 x] w fun e w' => e = .returned (.bool (hasI xs x)) ∧ w = w' := by
  have HN := Lib.hid hn
  have H1 := Lib.hid h1
  clear hn h1
  go_enter Tryd.func34, Tryd.ntmps34
  go_wp2_with fail
  refine (l00Has_c xs p1 n c1 x HN.out hm _ B1 H1.out).mono ?_
  rintro e w1 ⟨rfl, rfl⟩
  go_wp2
  go_ret
  exact ⟨rfl, rfl⟩
theorem cellsInD_c (D : Nat) (hD : D < 2 ^ 64) (w : World) :
    Calls Tryd.prog 17 #[.int .u64 D] w fun e w' => e = .returned (.int .i64 (cnt D : Nat)) ∧ w = w' := by
  go_enter Tryd.func17, Tryd.ntmps17
  go_wp2_with fail
  refine (count_c D hD _).mono ?_
  rintro e w1 ⟨rfl, rfl⟩
  go_wp2
  go_ret
  exact ⟨rfl, rfl⟩
end Go.Proofs.YtdmlefccajaniaaDoor
