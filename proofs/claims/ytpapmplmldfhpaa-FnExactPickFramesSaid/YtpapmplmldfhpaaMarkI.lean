/- A list of whole numbers marked: nothing but its block changes. -/
import Derived.Test.YtpapmplmldfhpaaLstInt64S
import Derived.Test.YtpapmplmldfhpaaMarkP
namespace Go.Proofs.Ytpapmplmldfhpaa
open Go.RowKit
set_option maxHeartbeats 1000000 in
theorem markInt64S_o (xs : List Int) (g n cap : Nat) (base : Nat) (k0 : Int) (hk0 : 0 ≤ k0 ∧ k0 ≤ 1099511627776) (hm : xs.length ≤ 1048576) (w : World) (hR : Row w base 2 .i64 (.slice (some ⟨g, 0, none⟩) n cap) xs) (hn : n = xs.length) :
    Calls Try.prog 22 #[.slice (some ⟨g, 0, none⟩) n cap, .int .i64 k0] w fun e w' => e = .returned (.int .i64 (k0 + n)) ∧ OnlyB g w w' := by
  obtain ⟨k1, k2⟩ := hk0
  have hg1 : base ≤ g := (World.ownsRow.lt hR g rfl).1
  have HR := Lib.hid hR
  have HG := Lib.hid hg1
  have HN := Lib.hid hn.symm
  have hn8 : n ≤ 1048576 := by omega
  clear hR hn
  go_enter Try.func22, Try.ntmps22
  go_wp2
  go_loopw [1, 5] (fun a i wr => ∃ j : Nat, j ≤ n ∧ i = .int .i64 j ∧ a = .int .i64 (k0 + j) ∧ Row wr base 2 .i64 (.slice (some ⟨g, 0, none⟩) n cap) (mkL_i64 k0 j ++ xs.drop j) ∧ OnlyB g w wr) (fun _ i _ => n - (intOf i).toNat)
  case atStart => exact ⟨0, Nat.zero_le _, rfl, by simp, by rw [show mkL_i64 k0 0 = [] from rfl, List.nil_append, List.drop_zero]; exact HR.out, onlyB_refl _ _⟩
  case round =>
    obtain ⟨j, hj, rfl, rfl, hRj, hW⟩ := hrel
    have HRj := Lib.hid hRj
    have HW := Lib.hid hW
    clear hRj hW
    by_cases hlt : j < n
    · have hlen : (mkL_i64 k0 j ++ xs.drop j).length = n := by rw [List.length_append, mkL_i64_len, List.length_drop, HN.out]; omega
      have hcell : wr.cell? ⟨g, j, none⟩ = some (.int .i64 ((mkL_i64 k0 j ++ xs.drop j).getD j 0)) := by
        obtain ⟨g', cap', hv, _, _, _, _, hc⟩ := row_shape HRj.out (neL_of_lt_i64 (k := j) (by rw [hlen]; exact hlt))
        simp only [Value.slice.injEq, Option.some.injEq, Addr.mk.injEq, and_true] at hv
        obtain ⟨rfl, _⟩ := hv
        exact hc j (by rw [hlen]; exact hlt)
      have hfr : wr.frozen? ⟨g, j, none⟩ = false := by
        have h1 := HRj.out
        unfold Row at h1
        rw [hlen] at h1
        exact h1.frozenAt j
      have HS : Hid (Row (wr.setCell ⟨g, j, none⟩ (.int .i64 (k0 + (j : Int)))) base 2 .i64 (.slice (some ⟨g, 0, none⟩) n cap) (mkL_i64 k0 (j + 1) ++ xs.drop (j + 1))) := Lib.hid (by
        have h1 := HRj.out
        unfold Row at h1
        rw [hlen] at h1
        have h2 := (h1.stored j (.int .i64 (k0 + (j : Int)))).1
        rw [← List.map_set, mk_step_i64 k0 xs j (by rw [HN.out]; exact hlt)] at h2
        unfold Row
        have h3 : (mkL_i64 k0 (j + 1) ++ xs.drop (j + 1)).length = n := by rw [List.length_append, mkL_i64_len, List.length_drop, HN.out]; omega
        rw [h3]; exact h2)
      have HE : Hid (k0 + (j : Int) + 1 = k0 + ((j + 1 : Nat) : Int)) := Lib.hid (by omega)
      go_wp2
      go_roundw
      case rel => exact ⟨j + 1, by omega, by go_num, by rw [HE.out], HS.out, onlyB_set HW.out _ _⟩
      case measure => simp [intOf]; omega
    · have hjn : j = n := by omega
      subst hjn
      go_wp2
      go_ret
      exact ⟨rfl, HW.out⟩
end Go.Proofs.Ytpapmplmldfhpaa
