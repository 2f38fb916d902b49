/- Lists of whole numbers: how the laws compare, mark and read them again. -/
import Derived.Test.YtbcahfiknelkcaaGreatDoorRow
import Derived.Test.YtbcahfiknelkcaaGreatDoorStoreArr
namespace Go.Proofs.YtbcahfiknelkcaaGreatDoor
open Go.RowKit
/-- Where a list lies, below a block. -/
def PB_i64 (w : World) (B : Nat) (p : Option Addr) (xs : List Int) : Prop := xs ≠ [] → ∃ b o, p = some ⟨b, o, none⟩ ∧ b < B ∧ ∀ i, i < xs.length → w.cell? ⟨b, o + i, none⟩ = some (.int .i64 (xs.getD i 0))
theorem PB_i64_below {w w1 : World} {B : Nat} {p : Option Addr} {xs : List Int} (hb : Below B w w1) (h : PB_i64 w B p xs) : PB_i64 w1 B p xs := fun hne => by
  obtain ⟨b, o, h1, h2, h3⟩ := h hne
  exact ⟨b, o, h1, h2, fun i hi => by rw [hb.cell (p := ⟨b, o + i, none⟩) h2]; exact h3 i hi⟩
theorem PB_i64_row {w : World} {base : Nat} {v : Value} {xs : List Int} (h : Row w base 2 .i64 v xs) : ∃ p cap, v = .slice p xs.length cap ∧ PB_i64 w w.heap.size p xs := by
  by_cases hne : xs = []
  · subst hne
    obtain ⟨_, h2⟩ := h
    rcases h2 with ⟨h2, _⟩ | ⟨g, cap, cur, hv, _⟩
    · exact ⟨none, 0, h2, fun h => absurd rfl h⟩
    · exact ⟨_, cap, hv, fun h => absurd rfl h⟩
  · obtain ⟨g, cap, hv, _, hg, _, _, hc⟩ := row_shape h hne
    exact ⟨_, cap, hv, fun _ => ⟨g, 0, rfl, hg, fun i hi => by rw [Nat.zero_add]; exact hc i hi⟩⟩
theorem neL_of_lt_i64 {l : List Int} {k : Nat} (h : k < l.length) : l ≠ [] := by rintro rfl; simp at h
/-- The marks. -/
def mkL_i64 (k0 : Int) (n : Nat) : List Int := (List.range n).map fun (t : Nat) => k0 + (t : Int)
theorem mkL_i64_len (k0 : Int) (n : Nat) : (mkL_i64 k0 n).length = n := by simp [mkL_i64]
theorem mkL_i64_get (k0 : Int) (n j : Nat) (h : j < n) : (mkL_i64 k0 n).getD j 0 = k0 + (j : Int) := by
  simp [mkL_i64, List.getD_eq_getElem?_getD, h]
theorem mkL_i64_succ (k0 : Int) (n : Nat) : mkL_i64 k0 (n + 1) = mkL_i64 k0 n ++ [k0 + (n : Int)] := by
  simp [mkL_i64, List.range_succ]
theorem mk_step_i64 (k0 : Int) (xs : List Int) (j : Nat) (h : j < xs.length) : (mkL_i64 k0 j ++ xs.drop j).set j (k0 + (j : Int)) = mkL_i64 k0 (j + 1) ++ xs.drop (j + 1) := by
  rw [List.set_append_right _ _ (by rw [mkL_i64_len]; exact Nat.le_refl _), mkL_i64_len, Nat.sub_self, List.drop_eq_getElem_cons h, List.set_cons_zero, mkL_i64_succ, List.append_assoc]
  rfl
end Go.Proofs.YtbcahfiknelkcaaGreatDoor
namespace Go.Proofs.YtbcahfiknelkcaaGreatDoor
open Go.RowKit Go.Lib
theorem PB_i64_keep {w w1 : World} {p : Option Addr} {xs : List Int} (hb : Below w.heap.size w w1) (h : PB_i64 w w.heap.size p xs) : PB_i64 w1 w1.heap.size p xs := fun hne => by
  obtain ⟨b, o, h1, h2, h3⟩ := h hne
  exact ⟨b, o, h1, Nat.lt_of_lt_of_le h2 hb.size, fun i hi => by rw [hb.cell (p := ⟨b, o + i, none⟩) h2]; exact h3 i hi⟩
set_option maxHeartbeats 400000 in
theorem l00Same_c (xs : List Int) (p1 p2 : Option Addr) (n c1 c2 : Nat) (hn : n = xs.length) (hm : n ≤ 1048576) (w : World) (B1 B2 : Nat) (h1 : PB_i64 w B1 p1 xs) (h2 : PB_i64 w B2 p2 xs) :
    Calls Tryz.prog 67 #[.slice p1 n c1, .slice p2 n c2] w fun e w' => e = .returned (.bool true) ∧ Below w.heap.size w w' := by
  have HN := Lib.hid hn
  have H1 := Lib.hid h1
  have H2 := Lib.hid h2
  clear hn h1 h2
  go_enter Tryz.func67, Tryz.ntmps67
  go_wp2
  go_loopw [5] (fun i wr => ∃ k q : Nat, k ≤ n ∧ i = .int .i64 k ∧ wr = w.drewN q) (fun i _ => n - (intOf i).toNat)
  case atStart => exact ⟨0, 0, Nat.zero_le _, rfl, rfl⟩
  case round =>
    obtain ⟨k, q, hk, rfl, hW⟩ := hrel
    have HW := Lib.hid hW
    clear hW
    by_cases hlt : k < n
    · obtain ⟨b1, o1, rfl, _, hc1⟩ := H1.out (neL_of_lt_i64 (k := k) (by have := HN.out; omega))
      obtain ⟨b2, o2, rfl, _, hc2⟩ := H2.out (neL_of_lt_i64 (k := k) (by have := HN.out; omega))
      have d1 := hc1 k (by have := HN.out; omega)
      have d2 := hc2 k (by have := HN.out; omega)
      have e1 : wr.cell? ⟨b1, o1 + k, none⟩ = some (.int .i64 (xs.getD k 0)) := by rw [HW.out, World.cell?_drewN]; exact d1
      have e2 : wr.cell? ⟨b2, o2 + k, none⟩ = some (.int .i64 (xs.getD k 0)) := by rw [HW.out, World.cell?_drewN]; exact d2
      generalize xs.getD k 0 = x at *
      have hself : (x != x) = false := by simp
      clear hc1 hc2 d1 d2
      go_wp2_with fail
      go_quiet (fail)
      go_wp2
      go_roundw
      case rel => exact ⟨k + 1, q + nq, by omega, by go_num, by rw [HW.out, World.drewN_drewN]⟩
      case measure => simp [intOf]; omega
    · go_wp2
      go_ret
      exact ⟨rfl, by rw [HW.out]; exact bl_drewN (Below.refl _ _) _⟩
theorem sameNumbers_c (xs : List Int) (p1 p2 : Option Addr) (n c1 c2 : Nat) (hn : n = xs.length) (hm : n ≤ 1048576) (w : World) (B1 B2 : Nat) (h1 : PB_i64 w B1 p1 xs) (h2 : PB_i64 w B2 p2 xs) :
    Calls Tryz.prog 19 #[.slice p1 n c1, .slice p2 n c2] w fun e w' => e = .returned (.bool true) ∧ Below w.heap.size w w' := by
  have HN := Lib.hid hn
  have H1 := Lib.hid h1
  have H2 := Lib.hid h2
  clear hn h1 h2
  go_enter Tryz.func19, Tryz.ntmps19
  go_wp2_with fail
  refine (l00Same_c xs p1 p2 n c1 c2 HN.out hm _ B1 B2 H1.out H2.out).mono ?_
  rintro e w1 ⟨rfl, hb⟩
  go_wp2
  go_ret
  exact ⟨rfl, hb⟩
end Go.Proofs.YtbcahfiknelkcaaGreatDoor
