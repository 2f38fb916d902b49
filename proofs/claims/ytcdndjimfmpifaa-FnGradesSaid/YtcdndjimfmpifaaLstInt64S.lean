/- Lists of whole numbers: how the laws compare, mark and read them again. -/
import Derived.Test.YtcdndjimfmpifaaRow
import Derived.Test.YtcdndjimfmpifaaStoreArr
namespace Go.Proofs.Ytcdndjimfmpifaa
open Go.RowKit
/-- Where a list lies, below a block. -/
def PB_i64 (w : World) (B : Nat) (p : Option Addr) (xs : List Int) : Prop := xs ≠ [] → ∃ b o, p = some ⟨b, o, none⟩ ∧ b < B ∧ ∀ i, i < xs.length → w.cell? ⟨b, o + i, none⟩ = some (.int .i64 (xs.getD i 0))
theorem PB_i64_below {w w1 : World} {B : Nat} {p : Option Addr} {xs : List Int} (hb : Below B w w1) (h : PB_i64 w B p xs) : PB_i64 w1 B p xs := fun hne => by
  obtain ⟨b, o, h1, h2, h3⟩ := h hne
  exact ⟨b, o, h1, h2, fun i hi => by rw [hb.cell (p := ⟨b, o + i, none⟩) h2]; exact h3 i hi⟩
theorem PB_i64_row {w : World} {base : Nat} {v : Value} {xs : List Int} (h : Row w base 2 .i64 v xs) : ∃ p cap, v = .slice p xs.length cap ∧ PB_i64 w w.heap.size p xs := by
  by_cases hne : xs = []
  · subst hne
    obtain ⟨_, h2⟩ := h
    rcases h2 with ⟨h2, _⟩ | ⟨g, cap, cur, hv, _⟩
    · exact ⟨none, 0, h2, fun h => absurd rfl h⟩
    · exact ⟨_, cap, hv, fun h => absurd rfl h⟩
  · obtain ⟨g, cap, hv, _, hg, _, _, hc⟩ := row_shape h hne
    exact ⟨_, cap, hv, fun _ => ⟨g, 0, rfl, hg, fun i hi => by rw [Nat.zero_add]; exact hc i hi⟩⟩
theorem neL_of_lt_i64 {l : List Int} {k : Nat} (h : k < l.length) : l ≠ [] := by rintro rfl; simp at h
set_option maxHeartbeats 400000 in
theorem eqInt64S_same (xs : List Int) (p1 p2 : Option Addr) (n c1 c2 : Nat) (hn : n = xs.length) (hm : n ≤ 1048576) (w : World) (B1 B2 : Nat) (h1 : PB_i64 w B1 p1 xs) (h2 : PB_i64 w B2 p2 xs) :
    Calls Try.prog 13 #[.slice p1 n c1, .slice p2 n c2] w fun e w' => e = .returned (.bool true) ∧ Below w.heap.size w w' := by
  have HN := Lib.hid hn
  have H1 := Lib.hid h1
  have H2 := Lib.hid h2
  clear hn h1 h2
  go_enter Try.func13, Try.ntmps13
  go_wp2
  go_loopw [5] (fun i wr => ∃ k q : Nat, k ≤ n ∧ i = .int .i64 k ∧ wr = w.drewN q) (fun i _ => n - (intOf i).toNat)
  case atStart => exact ⟨0, 0, Nat.zero_le _, rfl, rfl⟩
  case round =>
    obtain ⟨k, q, hk, rfl, hW⟩ := hrel
    have HW := Lib.hid hW
    clear hW
    by_cases hlt : k < n
    · obtain ⟨b1, o1, rfl, _, hc1⟩ := H1.out (neL_of_lt_i64 (k := k) (by have := HN.out; omega))
      obtain ⟨b2, o2, rfl, _, hc2⟩ := H2.out (neL_of_lt_i64 (k := k) (by have := HN.out; omega))
      have d1 := hc1 k (by have := HN.out; omega)
      have d2 := hc2 k (by have := HN.out; omega)
      have e1 : wr.cell? ⟨b1, o1 + k, none⟩ = some (.int .i64 (xs.getD k 0)) := by rw [HW.out, World.cell?_drewN]; exact d1
      have e2 : wr.cell? ⟨b2, o2 + k, none⟩ = some (.int .i64 (xs.getD k 0)) := by rw [HW.out, World.cell?_drewN]; exact d2
      generalize xs.getD k 0 = x at *
      have hself : (x != x) = false := by simp
      clear hc1 hc2 d1 d2
      go_wp2_with fail
      go_quiet (fail)
      go_wp2
      go_roundw
      case rel => exact ⟨k + 1, q + nq, by omega, by go_num, by rw [HW.out, World.drewN_drewN]⟩
      case measure => simp [intOf]; omega
    · go_wp2
      go_ret
      exact ⟨rfl, by rw [HW.out]; exact bl_drewN (Below.refl _ _) _⟩
/-- The marks. -/
def mkL_i64 (k0 : Int) (n : Nat) : List Int := (List.range n).map fun (t : Nat) => k0 + (t : Int)
theorem mkL_i64_len (k0 : Int) (n : Nat) : (mkL_i64 k0 n).length = n := by simp [mkL_i64]
theorem mkL_i64_get (k0 : Int) (n j : Nat) (h : j < n) : (mkL_i64 k0 n).getD j 0 = k0 + (j : Int) := by
  simp [mkL_i64, List.getD_eq_getElem?_getD, h]
theorem mkL_i64_succ (k0 : Int) (n : Nat) : mkL_i64 k0 (n + 1) = mkL_i64 k0 n ++ [k0 + (n : Int)] := by
  simp [mkL_i64, List.range_succ]
theorem mk_step_i64 (k0 : Int) (xs : List Int) (j : Nat) (h : j < xs.length) : (mkL_i64 k0 j ++ xs.drop j).set j (k0 + (j : Int)) = mkL_i64 k0 (j + 1) ++ xs.drop (j + 1) := by
  rw [List.set_append_right _ _ (by rw [mkL_i64_len]; exact Nat.le_refl _), mkL_i64_len, Nat.sub_self, List.drop_eq_getElem_cons h, List.set_cons_zero, mkL_i64_succ, List.append_assoc]
  rfl
set_option maxHeartbeats 1000000 in
theorem markInt64S_c (xs : List Int) (v : Value) (base : Nat) (k0 : Int) (hk0 : 0 ≤ k0 ∧ k0 ≤ 1099511627776) (hm : xs.length ≤ 1048576) (w : World) (hR : Row w base 2 .i64 v xs) (_ : base ≤ w.heap.size) :
    Calls Try.prog 15 #[v, .int .i64 k0] w fun e w' => e = .returned (.int .i64 (k0 + xs.length)) ∧ Row w' base 2 .i64 v (mkL_i64 k0 xs.length) ∧ Below base w w' := by
  obtain ⟨k1, k2⟩ := hk0
  by_cases hne : xs = []
  · subst hne
    obtain ⟨p, cap, rfl, _⟩ := PB_i64_row hR
    have HR := Lib.hid hR
    clear hR
    go_enter Try.func15, Try.ntmps15
    go_wp2
    go_loop [1, 5] (fun a i => a = .int .i64 k0 ∧ i = .int .i64 0) (fun _ _ => 0)
    case atStart => exact ⟨rfl, rfl⟩
    case round =>
      obtain ⟨rfl, rfl⟩ := hrel
      go_wp2
      go_ret
      exact ⟨ret_int (by simp), by simpa [mkL_i64] using HR.out, Below.refl _ _⟩
  · obtain ⟨g, cap, rfl, hg1, hg2, hcap, hcm, _⟩ := row_shape hR hne
    have HR := Lib.hid hR
    have HG := Lib.hid hg1
    clear hR hne
    generalize hn : xs.length = n at *
    have HN := Lib.hid hn
    clear hn
    go_enter Try.func15, Try.ntmps15
    go_wp2
    go_loopw [1, 5] (fun a i wr => ∃ j : Nat, j ≤ n ∧ i = .int .i64 j ∧ a = .int .i64 (k0 + j) ∧ Row wr base 2 .i64 (.slice (some ⟨g, 0, none⟩) n cap) (mkL_i64 k0 j ++ xs.drop j) ∧ Below base w wr) (fun _ i _ => n - (intOf i).toNat)
    case atStart => exact ⟨0, Nat.zero_le _, rfl, by simp, by rw [show mkL_i64 k0 0 = [] from rfl, List.nil_append, List.drop_zero]; exact HR.out, Below.refl _ _⟩
    case round =>
      obtain ⟨j, hj, rfl, rfl, hRj, hW⟩ := hrel
      have HRj := Lib.hid hRj
      have HW := Lib.hid hW
      clear hRj hW
      by_cases hlt : j < n
      · have hlen : (mkL_i64 k0 j ++ xs.drop j).length = n := by rw [List.length_append, mkL_i64_len, List.length_drop, HN.out]; omega
        have hcell : wr.cell? ⟨g, j, none⟩ = some (.int .i64 ((mkL_i64 k0 j ++ xs.drop j).getD j 0)) := by
          obtain ⟨g', cap', hv, _, _, _, _, hc⟩ := row_shape HRj.out (neL_of_lt_i64 (k := j) (by rw [hlen]; exact hlt))
          simp only [Value.slice.injEq, Option.some.injEq, Addr.mk.injEq, and_true] at hv
          obtain ⟨rfl, _⟩ := hv
          exact hc j (by rw [hlen]; exact hlt)
        have hfr : wr.frozen? ⟨g, j, none⟩ = false := by
          have h1 := HRj.out
          unfold Row at h1
          rw [hlen] at h1
          exact h1.frozenAt j
        have HS : Hid (Row (wr.setCell ⟨g, j, none⟩ (.int .i64 (k0 + (j : Int)))) base 2 .i64 (.slice (some ⟨g, 0, none⟩) n cap) (mkL_i64 k0 (j + 1) ++ xs.drop (j + 1))) := Lib.hid (by
          have h1 := HRj.out
          unfold Row at h1
          rw [hlen] at h1
          have h2 := (h1.stored j (.int .i64 (k0 + (j : Int)))).1
          rw [← List.map_set, mk_step_i64 k0 xs j (by rw [HN.out]; exact hlt)] at h2
          unfold Row
          have h3 : (mkL_i64 k0 (j + 1) ++ xs.drop (j + 1)).length = n := by rw [List.length_append, mkL_i64_len, List.length_drop, HN.out]; omega
          rw [h3]; exact h2)
        have HE : Hid (k0 + (j : Int) + 1 = k0 + ((j + 1 : Nat) : Int)) := Lib.hid (by omega)
        go_wp2
        go_roundw
        case rel => exact ⟨j + 1, by omega, by go_num, by rw [HE.out], HS.out, HW.out.setCell (p := ⟨g, j, none⟩) HG.out _⟩
        case measure => simp [intOf]; omega
      · have hjn : j = n := by omega
        subst hjn
        go_wp2
        go_ret
        exact ⟨rfl, by have := HRj.out; rwa [List.drop_of_length_le (by rw [HN.out]; exact Nat.le_refl _), List.append_nil] at this, HW.out⟩
set_option maxHeartbeats 1000000 in
theorem heldInt64S_c (v : Value) (base n : Nat) (k0 : Int) (hk0 : 0 ≤ k0 ∧ k0 ≤ 1099511627776) (hm : n ≤ 1048576) (w : World) (hR : Row w base 2 .i64 v (mkL_i64 k0 n)) :
    Calls Try.prog 16 #[v, .int .i64 k0] w fun e w' => e = .returned (.int .i64 (k0 + n)) ∧ w = w' := by
  obtain ⟨k1, k2⟩ := hk0
  obtain ⟨p, cap, rfl, hP⟩ := PB_i64_row hR
  have HP := Lib.hid hP
  clear hR hP
  rw [mkL_i64_len]
  go_enter Try.func16, Try.ntmps16
  go_wp2
  go_loop [1, 5] (fun a i => ∃ j : Nat, j ≤ n ∧ i = .int .i64 j ∧ a = .int .i64 (k0 + j)) (fun _ i => n - (intOf i).toNat)
  case atStart => exact ⟨0, Nat.zero_le _, rfl, by simp⟩
  case round =>
    obtain ⟨j, hj, rfl, rfl⟩ := hrel
    by_cases hlt : j < n
    · obtain ⟨b, o, rfl, _, hc⟩ := HP.out (neL_of_lt_i64 (k := j) (by rw [mkL_i64_len]; exact hlt))
      have hcell := hc j (by rw [mkL_i64_len]; exact hlt)
      rw [mkL_i64_get k0 n j hlt] at hcell
      have HE : Hid (k0 + (j : Int) + 1 = k0 + ((j + 1 : Nat) : Int)) := Lib.hid (by omega)
      have hself : (k0 + (j : Int) != k0 + (j : Int)) = false := by simp
      clear hc
      go_wp2
      go_round
      case rel => exact ⟨j + 1, by omega, by go_num, by rw [HE.out]⟩
      case measure => simp [intOf]; omega
    · have hjn : j = n := by omega
      subst hjn
      go_wp2
      go_ret
      exact ⟨rfl, rfl⟩
end Go.Proofs.Ytcdndjimfmpifaa

