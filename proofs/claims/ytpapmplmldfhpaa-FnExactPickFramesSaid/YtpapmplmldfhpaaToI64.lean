/- A list of whole numbers, copied by the law. -/
import Derived.Test.YtpapmplmldfhpaaSheetCode
import Derived.Test.YtpapmplmldfhpaaStoreArr
namespace Go.Proofs.Ytpapmplmldfhpaa
open Go.RowKit Go.Lib
theorem infoI64 : (Try.prog.info? 2).map (fun i => (i.zero, i.size, i.bytes)) = some (some (.int .i64 0), 1, 8) := by kernel_rfl
theorem makeI64s (n : Nat) (hn : n ≤ 1048576) (w : World) : (Instr.makeSlice 38 (.int .i64 n) (.int .i64 n)).run Try.prog w = .ok (.slice (some ⟨w.heap.size, 0, none⟩) n n) (w.alloc (.cells (arr .i64 (List.replicate n 0)) 2)) := by
  obtain ⟨i, hi, hz0, hz1, hz2⟩ := info_parts infoI64
  have h := run_make w 38 2 i _ Try.underlying38 hi hz0 .i64 .i64 n n (by omega) (Int.le_refl _) (by rw [hz2]; omega) (by omega)
  rw [h, hz1, Int.toNat_natCast, Nat.mul_one]
  have e : madeCells (Value.int .i64 0).cells n = arr .i64 (List.replicate n 0) := by
    apply Array.ext
    · simp [madeCells, arr]
    · intro i h1 h2
      simp [madeCells, Value.cells, arr, Nat.mod_one]
  rw [e]
theorem toInt64S_c (q : Option Addr) (m cm : Nat) (fs : List Int) (hf : m = fs.length) (hm : m ≤ 1048576) (w : World) (hq : PI w q fs) :
    Calls Try.prog 19 #[.slice q m cm] w fun e w' => e = .returned (.slice (some ⟨w.heap.size, 0, none⟩) m m) ∧ w'.heap[w.heap.size]? = some (.cells (arr .i64 fs) 2 (0, 0)) ∧ Below w.heap.size w w' := by
  have hmk := fun w => makeI64s m hm w
  have HF := Lib.hid hf
  have HQ := Lib.hid hq
  clear hf hq
  go_enter Try.func19, Try.ntmps19
  go_wp2
  clear hmk
  go_loopw [4] (fun i wr => ∃ k : Nat, k ≤ m ∧ i = .int .i64 k ∧ wr.heap[w.heap.size]? = some (.cells (arr .i64 (fs.take k ++ List.replicate (m - k) 0)) 2 (0, 0)) ∧ Below w.heap.size w wr) (fun i _ => m - (intOf i).toNat)
  case atStart => exact ⟨0, Nat.zero_le _, rfl, by simpa using (al1_0 w (.cells (arr .i64 (List.replicate m 0)) 2)), bl1 _ _⟩
  case round =>
    obtain ⟨k, hk, rfl, hA, hW⟩ := hrel
    have HA1 := Lib.hid hA
    have HW := Lib.hid hW
    by_cases hlt : k < m
    · have hkf : k < fs.length := by rw [← HF.out]; exact hlt
      have hkk : (k : Int) < m := by omega
      obtain ⟨b, o, rfl, hb, hat⟩ := HQ.out (neI_of_lt hkf)
      have hcj : wr.cell? ⟨b, o + k, none⟩ = some (.int .i64 (fs.getD k 0)) := by rw [hW.cell (p := ⟨b, o + k, none⟩) hb]; exact hat k hkf
      have hlen : (fs.take k ++ List.replicate (m - k) 0).length = m := by rw [List.length_append, List.length_take, List.length_replicate]; omega
      have hco := arr_cell hA k (by rw [hlen]; exact hlt)
      have hfo := frozen_of_row _ _ k _ _ hA
      have HS := Lib.hid (set_step fs k m HF.out.symm hlt 0)
      clear hat hA hW hlen
      generalize fs.getD k 0 = x at *
      go_wp2
      go_roundw
      case rel => exact ⟨k + 1, by omega, by go_num, by rw [← HS.out]; exact arr_store HA1.out k x, HW.out.setCell (Nat.le_refl _) _⟩
      case measure => simp [intOf]; omega
    · have hkm : k = m := by omega
      subst hkm
      clear hA hW
      have HE : Hid (fs.take k ++ List.replicate (k - k) 0 = fs) := Lib.hid (by rw [HF.out]; simp)
      go_wp2
      go_ret
      exact ⟨rfl, by have := HA1.out; rwa [HE.out] at this, HW.out⟩
end Go.Proofs.Ytpapmplmldfhpaa
