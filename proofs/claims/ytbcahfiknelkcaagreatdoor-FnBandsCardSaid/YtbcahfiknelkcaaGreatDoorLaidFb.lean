/- A world in which what FnBands' row lists lies, and what the list and the world's shape give the walk. -/
import Derived.Test.YtbcahfiknelkcaaGreatDoorRdE
import Derived.Test.YtbcahfiknelkcaaGreatDoorLaidT0
import Derived.Stop.LaidErr
import Derived.Shelf.Vars
import Derived.RowKitTokens
import GoSem.PinnedTables
namespace Go.Proofs.YtbcahfiknelkcaaGreatDoor
open Go.RowKit Go.ChangeShapes Go.WideShapes Go.ChangeAt
set_option maxRecDepth 100000
theorem starE : "*" ++ "errors.errorString" = "*errors.errorString" := by decide
theorem rowE (u : TypeId) (h : Tryz.prog.typeName? 3 u = some "*errors.errorString") : u = 241 :=
  typeName_ptr_named (nm := "errors.errorString") (by rw [starE]; kernel_rfl) (by kernel_rfl) (by decide) u (by rw [starE]; exact h)
theorem cellsES : Tryz.prog.cellsOf 243 = 1 := by kernel_rfl
theorem cellsStr : Tryz.prog.cellsOf 9 = 1 := by kernel_rfl
theorem gSyn : Tryz.prog.globalNamed "strconv.ErrSyntax" = some 0 := by kernel_rfl
theorem gRng : Tryz.prog.globalNamed "strconv.ErrRange" = some 1 := by kernel_rfl
theorem gSynT : (Tryz.prog.globals[0]?).map (·.type) = some 101 := by kernel_rfl
theorem gRngT : (Tryz.prog.globals[1]?).map (·.type) = some 101 := by kernel_rfl
def textRange : List UInt8 := [118, 97, 108, 117, 101, 32, 111, 117, 116, 32, 111, 102, 32, 114, 97, 110, 103, 101]
def textSyntax : List UInt8 := [105, 110, 118, 97, 108, 105, 100, 32, 115, 121, 110, 116, 97, 120]
noncomputable def lowR : Nat := (World.holding Tryz.prog default ⟨#[], #[], []⟩).heap.size
noncomputable def laidWorldR (os : Os) : World :=
  let w0 := World.holding Tryz.prog os ⟨#[.cells #[.string ⟨textRange.toArray⟩] 243, .cells #[.string ⟨textSyntax.toArray⟩] 243], #[], []⟩
  let h1 := w0.heap.modify 6 (laidCells (tab32.map (Value.int .u8)).toArray)
  let h2 := h1.modify 7 (laidCells (tab64.map (Value.int .u8)).toArray)
  let h3 := h2.modify 3 (laidCells (tab10.map (Value.int .u64)).toArray)
  let h4 := h3.modify 5 (laidCells ((List.range 16).flatMap fun i => [Value.int .u8 (if i = 1 then 160 else if i = 3 then 144 else if i < 5 then 128 else 0), Value.int .u8 (if i = 2 then 159 else if i = 4 then 143 else if i < 5 then 191 else 0)]).toArray)
  let h5 := h4.modify 4 (laidCells (Go.Pinned.utf8FirstZ.map fun (n : Nat) => Value.int .u8 (n : Int)).toArray)
  let h6 := h5.modify 1 (laidCells #[.iface 241 (.pointer (some ⟨lowR, 0, none⟩))])
  let h7 := h6.modify 0 (laidCells #[.iface 241 (.pointer (some ⟨lowR + 1, 0, none⟩))])
  { w0 with heap := h7 }
theorem ev_of {W : World} (hL : laidMetH Tryz.prog Rows.fnBandsRow.laid W) (hsh : W.ShapedOpen Tryz.prog) : EV W := by
  have hL' : laidMet Tryz.prog Rows.fnBandsRow.laid W := hL
  obtain ⟨a0, s0, hv0, -, -, -⟩ := laid_sentinel hL'.tail.tail.tail.tail gRng gRngT Tryz.underlying101 rowE Tryz.underlying241 Tryz.underlying243 rfl rfl Tryz.underlying9 cellsES cellsStr
  obtain ⟨a1, s1, hv1, -, -, -⟩ := laid_sentinel hL'.tail.tail.tail.tail.tail gSyn gSynT Tryz.underlying101 rowE Tryz.underlying241 Tryz.underlying243 rfl rfl Tryz.underlying9 cellsES cellsStr
  have h3 := Go.Proofs.cell_of_shapedOpen_int (g := 2) (t := 3) (zero := #[.int .i64 0]) (k := .i64) hsh (of_decide_eq_true (by kernel_rfl)) (by kernel_rfl) rfl (by kernel_rfl) (by kernel_rfl) Tryz.underlying3
  refine ⟨?_, h3, ⟨_, _, by have h0 := World.var?_cell gSyn hv1 0; simpa using h0⟩, ⟨_, _, by have h0 := World.var?_cell gRng hv0 0; simpa using h0⟩⟩
  obtain ⟨m, hm⟩ := h3
  have b3 := World.block_lt_of_cell? W _ hm
  have b1 := World.block_lt_of_cell? W ⟨0, 0, none⟩ (by have h0 := World.var?_cell gSyn hv1 0; simpa using h0)
  have b2 := World.block_lt_of_cell? W ⟨1, 0, none⟩ (by have h0 := World.var?_cell gRng hv0 0; simpa using h0)
  unfold gN
  simp only at b1 b2 b3
  omega
end Go.Proofs.YtbcahfiknelkcaaGreatDoor
