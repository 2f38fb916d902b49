/- RowsOf, FrameAt. -/
import Derived.Test.YtdmlefccajaniaaDoorVSheet
namespace Go.Proofs.YtdmlefccajaniaaDoor
open Go.RowKit
def rowsV (a : Int) (l : List (List Int)) : Int × Int := if shB a l then ((l.length + a - 1) / a, 0) else (0, 1)
theorem quo_in (n a : Int) (hn : 0 ≤ n) (hm : n ≤ 12) (h1 : 1 ≤ a) (h2 : a ≤ 12) : 0 ≤ (n + a - 1) / a ∧ (n + a - 1) / a ≤ 23 := by
  constructor
  · exact Int.ediv_nonneg (by omega) (by omega)
  · exact Int.le_trans (Int.ediv_le_self _ (by omega)) (by omega)
set_option linter.unusedVariables false in
theorem length_c (p : Option Addr) (n c : Nat) (w : World) (hn : n ≤ 1048576) :
    Calls Tryd.prog 68 #[.slice p n c] w fun e w' => e = .returned (.int .i64 n) ∧ w = w' := by
  go_enter Tryd.func68, Tryd.ntmps68
  go_wp2
  go_ret
  exact ⟨rfl, rfl⟩
end Go.Proofs.YtdmlefccajaniaaDoor
