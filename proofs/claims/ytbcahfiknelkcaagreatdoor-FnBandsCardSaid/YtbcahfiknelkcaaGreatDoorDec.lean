/- Decimal numerals of numbers below 100: the reference's and the program's. -/
import Derived.Test.YtbcahfiknelkcaaGreatDoorRow
import Derived.Test.YtbcahfiknelkcaaGreatDoorStoreArr
import Derived.Test.YtbcahfiknelkcaaGreatDoorShelf
import Derived.Laws.IdiomStrings
import Derived.Deep.RegionHeld3
namespace Go.Proofs.YtbcahfiknelkcaaGreatDoor
open Go.RowKit Go.Lib
def dgS (n : Nat) : ByteArray := ⟨(Lib.decDigits n).toArray⟩
theorem dg_one {n : Nat} (h : n < 10) : Lib.decDigits n = [UInt8.ofNat (48 + n)] := by rw [Lib.decDigits, dif_pos h]
theorem dg_two {n : Nat} (h : ¬ n < 10) : Lib.decDigits n = Lib.decDigits (n / 10) ++ [UInt8.ofNat (48 + n % 10)] := by rw [Lib.decDigits, dif_neg h]
theorem conv1 (x : Int) (w : World) (g c : Nat) (h : w.cell? ⟨g, 0, none⟩ = some (.int .u8 x)) : (convert 22 9 (.slice (some ⟨g, 0, none⟩) 1 c)).run Tryz.prog w = .ok (.string ⟨#[UInt8.ofNat x.toNat]⟩) w := by
  rw [run_convert_bytes_string w _ _ 5 _ _ _ Tryz.underlying22 Tryz.underlying5 Tryz.underlying9]
  have hl := run_loadCells_list (P := Tryz.prog) (w := w) ⟨g, 0, none⟩ [Value.int .u8 x] (fun j v hj => by
    match j with
    | 0 => simp at hj; rw [← hj]; exact h
    | j + 1 => simp at hj)
  exact run_bytesToString w _ _ _ [x] hl
theorem implDec_c (n : Nat) (h : n < 100) (w : World) :
    Calls Tryz.prog 127 #[.int .i64 n] w fun e w' => e = .returned (.string (dgS n)) ∧ w = w' := by
  go_enter Tryz.func127, Tryz.ntmps127
  go_wp2_with fail
  refine (Go.Proofs.Tryz.strconv_FormatInt_10_small n h _).mono ?_
  rintro e w1 ⟨rfl, rfl⟩
  go_wp2
  go_ret
  exact ⟨rfl, rfl⟩
end Go.Proofs.YtbcahfiknelkcaaGreatDoor
