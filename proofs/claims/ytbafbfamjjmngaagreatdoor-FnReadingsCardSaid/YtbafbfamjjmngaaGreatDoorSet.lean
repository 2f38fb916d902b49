/- Settings: valid ones, their values, more light. -/
import Derived.Test.YtbafbfamjjmngaaGreatDoorPlac
import Derived.Test.YtbafbfamjjmngaaGreatDoorSrc
namespace Go.Proofs.YtbafbfamjjmngaaGreatDoor
open Go.RowKit
/-- Three numbers of eight bits. -/
def S8 (a b c : Int) : Prop := (-128 ≤ a ∧ a ≤ 127) ∧ (-128 ≤ b ∧ b ≤ 127) ∧ -128 ≤ c ∧ c ≤ 127
def shB (a : Int) : Bool := decide (0 ≤ a) && decide (a ≤ 45)
def apB (b : Int) : Bool := decide (0 ≤ b) && decide (b ≤ 30)
def spB (c : Int) : Bool := decide (0 ≤ c) && decide (c ≤ 21)
def stB (a b c : Int) : Bool := shB a && (apB b && spB c)
theorem stB_iff (a b c : Int) : stB a b c = true ↔ (0 ≤ a ∧ a ≤ 45) ∧ (0 ≤ b ∧ b ≤ 30) ∧ 0 ≤ c ∧ c ≤ 21 := by simp [stB, shB, apB, spB]
def valV (a b c : Int) : Int × Int := if stB a b c then (a - b + c, 0) else (0, 1)
theorem within_t (n a b : Int) (h : a ≤ n ∧ n ≤ b) (w : World) : Calls Tryz.prog 34 #[.int .i64 n, .int .i64 a, .int .i64 b] w fun e w' => e = .returned (.bool true) ∧ w = w' :=
  (within_c n a b w).mono fun _ _ ⟨he, hw⟩ => ⟨by rw [he]; simp [h], hw⟩
theorem within_f (n a b : Int) (h : n < a ∨ b < n) (w : World) : Calls Tryz.prog 34 #[.int .i64 n, .int .i64 a, .int .i64 b] w fun e w' => e = .returned (.bool false) ∧ w = w' :=
  (within_c n a b w).mono fun _ _ ⟨he, hw⟩ => ⟨by rw [he]; exact ret_bool (by simp; omega), hw⟩
theorem l00In_t (n a b : Int) (h : a ≤ n ∧ n ≤ b) (w : World) : Calls Tryz.prog 37 #[.int .i64 n, .int .i64 a, .int .i64 b] w fun e w' => e = .returned (.bool true) ∧ w = w' :=
  (l00In_c n a b w).mono fun _ _ ⟨he, hw⟩ => ⟨by rw [he]; simp [h], hw⟩
theorem l00In_f (n a b : Int) (h : n < a ∨ b < n) (w : World) : Calls Tryz.prog 37 #[.int .i64 n, .int .i64 a, .int .i64 b] w fun e w' => e = .returned (.bool false) ∧ w = w' :=
  (l00In_c n a b w).mono fun _ _ ⟨he, hw⟩ => ⟨by rw [he]; exact ret_bool (by simp; omega), hw⟩
/-- The shutter of a setting with some thirds more. -/
def moreSh (a th : Int) : Int := if a + th ≤ 0 then 0 else if a + th < 45 then a + th else 45
def moreAp (a b th : Int) : Int := b - (th - (moreSh a th - a))
def moreV (a b c th : Int) : Int × Int × Int × Int := if apB (moreAp a b th) then (moreSh a th, moreAp a b th, c, 0) else (0, 0, 0, 6)
def moreB (a b c th : Int) : Int × Int × Int × Bool := if apB (moreAp a b th) then (moreSh a th, moreAp a b th, c, true) else (0, 0, 0, false)
def mlV (a b c th : Int) : Int × Int × Int × Int := if stB a b c then (if -100 ≤ th ∧ th ≤ 100 then moreV a b c th else (0, 0, 0, 2)) else (0, 0, 0, 1)
def stV (p : Int × Int × Int × Int) : Value := .tuple #[.agg #[.int .i8 p.1, .int .i8 p.2.1, .int .i8 p.2.2.1], .int .i64 p.2.2.2]
end Go.Proofs.YtbafbfamjjmngaaGreatDoor
namespace Go.Proofs.YtbafbfamjjmngaaGreatDoor
open Go.RowKit Go.Lib
theorem a2At_c (v : Value) (n : Nat) (w0 : World) (h : Bytes w0 v n) (k : Nat) (hk : k ≤ 1000) (m : Int) (m1 : 1 ≤ m) (m2 : m ≤ 1000) :
    ∃ q : Int, 0 ≤ q ∧ q < m ∧ ∀ w, Below w0.heap.size w0 w → Calls Tryz.prog 17 #[v, .int .i64 k, .int .i64 m] w fun e w' => e = .returned (.int .i64 q) ∧ w = w' := by
  obtain ⟨p, c, rfl, hn, hx⟩ := bytes_shape h
  have hm1 : ¬ m < 1 := by omega
  by_cases hlt : k < n
  · obtain ⟨b, o, rfl, hz, hx'⟩ := hx (by omega)
    obtain ⟨x, x0, x1, hc⟩ := hx' k hlt
    have hmz : ¬ m = 0 := by omega
    have ht : x.tmod m = x % m := Int.tmod_eq_emod_of_nonneg (by omega)
    have ht0 := Int.emod_nonneg x hmz
    have ht1 := Int.emod_lt_of_pos x (show 0 < m by omega)
    have hw : IntKind.i64.wrap (x % m) = x % m := Go.IntWalk.i64_in _ (by omega)
    refine ⟨x % m, ht0, ht1, fun w hb => ?_⟩
    have hcell : w.cell? ⟨b, o + k, none⟩ = some (.int .u8 x) := by rw [hb.cell (p := ⟨b, o + k, none⟩) hz]; exact hc
    have hkn : (k : Int) < n := by omega
    have hkn' : ¬ (n : Int) ≤ k := by omega
    clear hx hx' hc hb h
    go_enter Tryz.func17, Tryz.ntmps17
    go_wp2
    go_ret
    exact ⟨rfl, rfl⟩
  · refine ⟨0, by omega, by omega, fun w hb => ?_⟩
    have hkn' : (n : Int) ≤ k := by omega
    clear hx hb h
    go_enter Tryz.func17, Tryz.ntmps17
    go_wp2
    go_ret
    exact ⟨rfl, rfl⟩
end Go.Proofs.YtbafbfamjjmngaaGreatDoor
