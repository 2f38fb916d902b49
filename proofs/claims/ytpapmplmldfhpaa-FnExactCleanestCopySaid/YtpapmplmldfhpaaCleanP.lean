/- CleanestCopy: plain facts. -/
import Derived.Test.YtpapmplmldfhpaaDusts
import Derived.Test.YtpapmplmldfhpaaSpotQ
namespace Go.Proofs.Ytpapmplmldfhpaa
open Go.RowKit
def dmI (l : List (List Int)) (wi : Int) (i : Nat) : Nat := difM (medP l) (l.getD i []) wi
def clS (l : List (List Int)) (wi : Int) : Nat → Nat × Nat
  | 0 => (0, 65)
  | k + 1 => if cnt (dmI l wi k) < (clS l wi k).2 then (k, cnt (dmI l wi k)) else clS l wi k
def clV (l : List (List Int)) (wi : Int) : Int × Int × Int := if cpV l (dnB wi) = 0 then (((clS l wi l.length).1 : Nat), ((clS l wi l.length).2 : Nat), 0) else (0, 0, cpV l (dnB wi))
theorem clS_first (l : List (List Int)) (wi : Int) (k : Nat) : (clS l wi k).1 ≤ k ∧ (clS l wi k).2 ≤ 65 ∧ (0 < k → (clS l wi k).2 ≤ 64) := by
  induction k with
  | zero => exact ⟨Nat.le_refl _, Nat.le_refl _, fun h => absurd h (by omega)⟩
  | succ k ih =>
    have hc := cnt_le (dmI l wi k)
    unfold clS
    split
    · exact ⟨by simp, by simp; omega, fun _ => by simpa using hc⟩
    · rename_i h
      exact ⟨by omega, ih.2.1, fun _ => by omega⟩
theorem clS_one (l : List (List Int)) (wi : Int) : clS l wi 1 = (0, cnt (dmI l wi 0)) := by
  have hc := cnt_le (dmI l wi 0)
  unfold clS
  rw [if_pos (by simp [clS]; omega)]
end Go.Proofs.Ytpapmplmldfhpaa
