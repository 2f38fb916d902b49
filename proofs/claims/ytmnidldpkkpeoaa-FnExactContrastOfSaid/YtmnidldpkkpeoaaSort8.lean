/- slices.Sort at int8: the library's own text, walked: the cells hold the sorted numbers. -/
import Derived.Test.YtmnidldpkkpeoaaSoWalk13
import Derived.Test.YtmnidldpkkpeoaaSoBits
import Derived.Sort.WalkA14
import Derived.Sort.AssemblyPlain
namespace Go.Proofs.Ytmnidldpkkpeoaa
open Go.RowKit Go.Sort
theorem callees13 : Callees13 where
  ins := S8.insertionSort_int
  brk := S8.breakPatterns_int
  piv := S8.choosePivot_int
  par := S8.partialInsertionSort_int
  peq := S8.partitionEqualOrdered_int
  prt := S8.partitionOrdered_int
theorem plain13 : Plain13 where
  swo := swo_ltInt
  ins := insertionSort_holds
  par := partialInsertionSort_holds
  prt := partition_holds _
  peq := partitionEqual_holds _
  pdq := pdq_sorts _
set_option maxRecDepth 100000 in
theorem sort8_arr (blk off cap : Nat) (d : Array Int) (w : World) (hH : Holds encB w blk off d) (hblk : blk < w.heap.size) (hsz : d.size < 4611686018427387904) :
    Calls Try.prog 74 #[.slice (some ⟨blk, off, none⟩) d.size cap] w fun e w' => e = .returned (.tuple #[]) ∧ ∃ n os, w' = grow (putRow encB (Sort.ahead w n) blk off (Sort.sort ltInt d)) os := by
  have HH : Hid (Holds encB w blk off d) := hH
  clear hH
  have hLen : ∀ w, Calls Try.prog 86 #[.int .u64 (d.size : Int)] w fun e w' => e = .returned (.int .i64 (bitsLen d.size : Nat)) ∧ w' = w := fun w => by
    have h := S8.bits_Len (d.size : Int) w (by omega) (by omega)
    rwa [Int.toNat_natCast, bitLen_eq _ (by omega)] at h
  have hk : bitsLen d.size ≤ 62 := (bitsLen_le_iff d.size 62).2 (by omega)
  go_enter Try.func74, Try.ntmps74
  go_wp2_with (first
    | (go_at_call 86; refine (hLen _).mono ?_; rintro e w' ⟨rfl, rfl⟩)
    | (go_at_call 85; refine (S8.pdqsort_int callees13 plain13 (d.size - 0 + 1) blk off cap 0 d.size (bitsLen d.size) d _ (by omega) (by exact HH.out) (by exact hblk) (Nat.zero_le _) (Nat.le_refl _) hsz (by omega) (Or.inl rfl)).mono ?_; rintro e w' ⟨rfl, n, os, rfl⟩))
  go_end0
  exact ⟨rfl, n, os, rfl⟩
theorem sort8_eq (zs : List Int) : Sort.sort ltInt zs.toArray = (zs.mergeSort fun x y => decide (x ≤ y)).toArray := by
  rw [← sortInt zs]
end Go.Proofs.Ytmnidldpkkpeoaa
