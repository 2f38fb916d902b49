/- Sheets and lists of prints: how the laws copy and compare them. -/
import Derived.Test.YtdmlefccajaniaaDoorPrs
import Derived.Outline
import Derived.StillTailTactics
namespace Go.Proofs.YtdmlefccajaniaaDoor
open Go.RowKit
theorem szPrint : (Tryd.prog.info? 37).map (·.size) = some 64 := by kernel_rfl
theorem szA64 : (Tryd.prog.info? 36).map (·.size) = some 64 := by kernel_rfl
theorem szI16 : (Tryd.prog.info? 35).map (·.size) = some 1 := by kernel_rfl
theorem z64_eq : (#[.int .i16 0, .int .i16 0, .int .i16 0, .int .i16 0, .int .i16 0, .int .i16 0, .int .i16 0, .int .i16 0, .int .i16 0, .int .i16 0, .int .i16 0, .int .i16 0, .int .i16 0, .int .i16 0, .int .i16 0, .int .i16 0, .int .i16 0, .int .i16 0, .int .i16 0, .int .i16 0, .int .i16 0, .int .i16 0, .int .i16 0, .int .i16 0, .int .i16 0, .int .i16 0, .int .i16 0, .int .i16 0, .int .i16 0, .int .i16 0, .int .i16 0, .int .i16 0, .int .i16 0, .int .i16 0, .int .i16 0, .int .i16 0, .int .i16 0, .int .i16 0, .int .i16 0, .int .i16 0, .int .i16 0, .int .i16 0, .int .i16 0, .int .i16 0, .int .i16 0, .int .i16 0, .int .i16 0, .int .i16 0, .int .i16 0, .int .i16 0, .int .i16 0, .int .i16 0, .int .i16 0, .int .i16 0, .int .i16 0, .int .i16 0, .int .i16 0, .int .i16 0, .int .i16 0, .int .i16 0, .int .i16 0, .int .i16 0, .int .i16 0, .int .i16 0] : Array Value) = arr .i16 (List.replicate 64 0) := by kernel_rfl
def Z64 : List Int := List.replicate 64 0
theorem Z64_length : Z64.length = 64 := by simp [Z64]
theorem z64_Z : (#[.int .i16 0, .int .i16 0, .int .i16 0, .int .i16 0, .int .i16 0, .int .i16 0, .int .i16 0, .int .i16 0, .int .i16 0, .int .i16 0, .int .i16 0, .int .i16 0, .int .i16 0, .int .i16 0, .int .i16 0, .int .i16 0, .int .i16 0, .int .i16 0, .int .i16 0, .int .i16 0, .int .i16 0, .int .i16 0, .int .i16 0, .int .i16 0, .int .i16 0, .int .i16 0, .int .i16 0, .int .i16 0, .int .i16 0, .int .i16 0, .int .i16 0, .int .i16 0, .int .i16 0, .int .i16 0, .int .i16 0, .int .i16 0, .int .i16 0, .int .i16 0, .int .i16 0, .int .i16 0, .int .i16 0, .int .i16 0, .int .i16 0, .int .i16 0, .int .i16 0, .int .i16 0, .int .i16 0, .int .i16 0, .int .i16 0, .int .i16 0, .int .i16 0, .int .i16 0, .int .i16 0, .int .i16 0, .int .i16 0, .int .i16 0, .int .i16 0, .int .i16 0, .int .i16 0, .int .i16 0, .int .i16 0, .int .i16 0, .int .i16 0, .int .i16 0] : Array Value) = arr .i16 Z64 := by kernel_rfl
theorem infoPrint : (Tryd.prog.info? 37).map (fun i => (i.zero, i.size, i.bytes)) = some (some (.agg (arr .i16 (List.replicate 64 0))), 64, 128) := by kernel_rfl
theorem made_zeros (N m : Nat) (hN : 0 < N) : madeCells (Value.agg (arr .i16 (List.replicate N 0))).cells m = (List.replicate m (Value.int .i16 0)).toArray := by
  apply Array.ext
  · simp [madeCells]
  · intro i h1 h2
    have h3 : i % N < N := Nat.mod_lt _ hN
    simp [madeCells, Value.cells, arr, List.map_replicate, h3]
theorem made_ZP (n : Nat) : madeCells (Value.agg (arr .i16 (List.replicate 64 0))).cells (n * 64) = ZP n := made_zeros 64 _ (by omega)
theorem makePrints (n : Nat) (hn : n ≤ 1048576) (w : World) : (Instr.makeSlice 38 (.int .i64 n) (.int .i64 n)).run Tryd.prog w = .ok (.slice (some ⟨w.heap.size, 0, none⟩) n n) (w.alloc (.cells (ZP n) 37)) := by
  obtain ⟨i, hi, hz0, hz1, hz2⟩ := info_parts infoPrint
  have h := run_make w 38 37 i _ Tryd.underlying38 hi hz0 .i64 .i64 n n (by omega) (Int.le_refl _) (by rw [hz2]; omega) (by omega)
  rw [h, hz1, Int.toNat_natCast, made_ZP]
end Go.Proofs.YtdmlefccajaniaaDoor
