/- The reference's readings in ascending order. -/
import Derived.Test.YtmnidldpkkpeoaaScene
import Derived.Test.YtmnidldpkkpeoaaRow
namespace Go.Proofs.Ytmnidldpkkpeoaa
open Go.RowKit
/-- The readings below n, in ascending order. -/
def sortN (xs : List Int) : Nat → List Int
  | 0 => []
  | n + 1 => sortN xs n ++ xs.filter (fun x : Int => decide (x = (n : Int)))
theorem filt_len (xs : List Int) (n : Int) (k : Nat) : ((xs.take k).filter (fun x => decide (x = n))).length ≤ k := by
  have := List.length_filter_le (fun x : Int => decide (x = n)) (xs.take k)
  have := List.length_take_le k xs
  omega
theorem sortN_len (xs : List Int) (hl : xs.length = 24) (n : Nat) : (sortN xs n).length ≤ 24 * n := by
  induction n with
  | zero => simp [sortN]
  | succ n ih =>
    have h := List.length_filter_le (fun x : Int => decide (x = (n : Int))) xs
    simp only [sortN, List.length_append]
    omega
theorem filt_yes (xs : List Int) (n : Int) (k : Nat) (h : k < xs.length) (hx : xs.getD k 0 = n) : (xs.take (k + 1)).filter (fun x => decide (x = n)) = (xs.take k).filter (fun x => decide (x = n)) ++ [n] := by
  rw [take_snoc xs k h, List.filter_append, hx]; simp
theorem filt_no (xs : List Int) (n : Int) (k : Nat) (h : k < xs.length) (hx : xs.getD k 0 ≠ n) : (xs.take (k + 1)).filter (fun x => decide (x = n)) = (xs.take k).filter (fun x => decide (x = n)) := by
  rw [take_snoc xs k h, List.filter_append]; simpa using hx
theorem info_i64 : (Try.prog.info? 2).map (fun i => (i.zero, i.size, i.bytes)) = some (some (.int .i64 0), 1, 8) := by kernel_rfl
/-- A slice that the call has made, with these numbers. -/
def SomeRow (P : List Int) (w0 : World) (e : Ending) (w' : World) : Prop := ∃ v, e = .returned v ∧ Row w' w0.heap.size 2 .i64 v P ∧ Below w0.heap.size w0 w'
set_option maxHeartbeats 1000000 in
theorem l06Sorted_c (xs : List Int) (hs : Sc xs) (g : Nat) (t : TypeId) (w : World) (hg0 : w.heap[g]? = some (.cells (arr .i8 xs) t (0, 0))) :
    Calls Try.prog 73 #[.pointer (some ⟨g, 0, none⟩)] w (SomeRow (sortN xs 61) w) := by
  have HL := Lib.hid hs.1
  have HG := Lib.hid hg0
  clear hg0
  go_enter Try.func73, Try.ntmps73
  go_wp2
  go_loopw [3, 4] (fun v n wr => ∃ k : Nat, k ≤ 61 ∧ n = .int .i64 k ∧ Row wr w.heap.size 2 .i64 v (sortN xs k) ∧ Below w.heap.size w wr) (fun _ n _ => 61 - (intOf n).toNat)
  case atStart => exact ⟨0, by omega, rfl, row_new _ _ _ _ (Nat.le_refl _), bl1 _ _⟩
  case round =>
    obtain ⟨n, hn, rfl, hR, hW⟩ := hrel
    have HR := Lib.hid hR
    have HW := Lib.hid hW
    clear hR hW
    by_cases hlt : n ≤ 60
    · obtain ⟨wo, hwo⟩ : ∃ wo : World, wo = wr := ⟨_, rfl⟩
      subst hwo
      have hdn : decide ((n : Int) ≤ 60) = true := by simp; omega
      go_wp2
      go_loopw [3, 5] (fun v i wr => ∃ k : Nat, k ≤ 24 ∧ i = .int .i64 k ∧ Row wr w.heap.size 2 .i64 v (sortN xs n ++ (xs.take k).filter (fun x => decide (x = (n : Int)))) ∧ Below w.heap.size w wr) (fun _ i _ => 24 - (intOf i).toNat)
      case atStart => exact ⟨0, by omega, rfl, by simpa using HR.out, HW.out⟩
      case round =>
        obtain ⟨k, hk, rfl, hR2, hW2⟩ := hrel
        have HR2 := Lib.hid hR2
        have HW2 := Lib.hid hW2
        clear hR2 hW2
        by_cases hlt2 : k < 24
        · obtain ⟨x, hxe⟩ : ∃ x, x = xs.getD k 0 := ⟨_, rfl⟩
          have hcell : wr.cell? ⟨g, k, none⟩ = some (.int .i8 x) := by rw [hxe]; exact arr_cell (heap_below HW2.out (lt_of_heap HG.out) HG.out) k (by rw [HL.out]; exact hlt2)
          have hx1 : -128 ≤ x := by rw [hxe]; exact (hs.2 k).1
          have hx2 : x ≤ 127 := by rw [hxe]; exact (hs.2 k).2
          by_cases hq : x = n
          · have HF := Lib.hid (filt_yes xs n k (by rw [HL.out]; exact hlt2) (hxe.symm.trans hq))
            have hlen : (sortN xs n ++ (xs.take k).filter (fun x => decide (x = (n : Int)))).length ≤ 17592186000000 := by
              have := sortN_len xs hs.1 n
              have := filt_len xs n k
              rw [List.length_append]; omega
            have HX := Lib.hid hxe
            subst hq
            clear hxe
            go_wp2_with (at_builtin; refine wpList_app rfl (.tmp 23) (.tmp 25) 98 rfl w.heap.size 2 .i64 8 Try.underlying98 info_i64 (by decide) _ _ rfl (row_alloc HR2.out _) wr.heap.size 1 n rfl (by simp) hlen (by simp; have := HW2.out.size; omega) ?_; intro v' w' hrow hgr hbk)
            have HW3 := Lib.hid (below_app (HW2.out.alloc HW2.out.size _) hgr (Nat.le_refl _) hbk)
            have HR3 := Lib.hid hrow
            clear hrow hgr hbk
            go_wp2
            go_roundw
            case rel => exact ⟨k + 1, by omega, by go_num, by rw [HF.out, ← List.append_assoc]; exact HR3.out, HW3.out⟩
            case measure => simp [intOf]; omega
          · have HF := Lib.hid (filt_no xs n k (by rw [HL.out]; exact hlt2) (fun h => hq (hxe.trans h)))
            have hd : (x == (n : Int)) = false := by simpa using hq
            clear hxe hq
            go_wp2
            go_roundw
            case rel => exact ⟨k + 1, by omega, by go_num, by rw [HF.out]; exact HR2.out, HW2.out⟩
            case measure => simp [intOf]; omega
        · have hk24 : k = 24 := by omega
          subst hk24
          have HR3 : Hid (Row wr w.heap.size 2 .i64 u3 (sortN xs (n + 1))) := Lib.hid (by
            have := HR2.out
            rwa [List.take_of_length_le (by rw [HL.out]; omega)] at this)
          go_wp2
          go_roundw
          case rel => exact ⟨n + 1, by omega, by go_num, HR3.out, HW2.out⟩
          case measure => simp [intOf]; omega
    · have hn61 : n = 61 := by omega
      subst hn61
      go_wp2
      go_ret
      exact ⟨_, rfl, HR.out, HW.out⟩
end Go.Proofs.Ytmnidldpkkpeoaa
