/- The fields below and above the scale. -/
import Derived.Test.YtmnidldpkkpeoaaZones
import Derived.Test.YtmnidldpkkpeoaaPop
namespace Go.Proofs.Ytmnidldpkkpeoaa
open Go.RowKit
def lowP (xs : List Int) (r z : Int) (i : Nat) : Bool := decide (znV r z (xs.getD i 0) < 0)
def highP (xs : List Int) (r z : Int) (i : Nat) : Bool := decide (11 ≤ znV r z (xs.getD i 0))
theorem mask_step (p : Nat → Bool) (k : Nat) (hk : k < 24) (h : p k = true) : bits .or .u32 (maskOf p k : Nat) ((2 : Int) ^ k) = ((maskOf p (k + 1) : Nat) : Int) := by
  have h1 : maskOf p k < 2 ^ 32 := Nat.lt_of_lt_of_le (maskOf_lt p k) (Nat.pow_le_pow_right (by omega) (by omega))
  have h2 : 2 ^ k < 2 ^ 32 := Nat.pow_lt_pow_right (by omega) (by omega)
  have := or32 (maskOf p k) (2 ^ k) h1 h2
  simp only [maskOf, h, if_true]
  rw [← this]; simp
theorem mask_stay (p : Nat → Bool) (k : Nat) (h : p k = false) : maskOf p (k + 1) = maskOf p k := by
  simp [maskOf, h]
theorem pow_bd (k : Nat) (hk : k < 24) : (1 : Int) ≤ 2 ^ k ∧ (2 : Int) ^ k ≤ 8388608 := by
  have : ∀ k : Fin 24, (1 : Int) ≤ 2 ^ k.val ∧ (2 : Int) ^ k.val ≤ 8388608 := by decide
  exact this ⟨k, hk⟩
set_option maxHeartbeats 800000 in
set_option maxRecDepth 100000 in
theorem l06Off_c (xs : List Int) (hs : Sc xs) (hok : okS xs = true) (r z : Int) (hp : Pl r z) (g : Nat) (t : TypeId) (w : World) (hg0 : w.heap[g]? = some (.cells (arr .i8 xs) t (0, 0))) :
    Calls Try.prog 64 #[.pointer (some ⟨g, 0, none⟩), .agg #[.int .i8 r, .int .i8 z]] w fun e w' => e = .returned (.tuple #[.int .u32 (maskOf (lowP xs r z) 24 : Nat), .int .u32 (maskOf (highP xs r z) 24 : Nat)]) ∧ Below w.heap.size w w' := by
  have HL := Lib.hid hs.1
  have hg := okS_get hok
  have HG := Lib.hid hg0
  have p1 : -128 ≤ r ∧ r ≤ 127 := by obtain ⟨⟨h1, h2⟩, h3, h4⟩ := hp; omega
  have p2 : -128 ≤ z ∧ z ≤ 127 := by obtain ⟨⟨h1, h2⟩, h3, h4⟩ := hp; omega
  clear hg0
  go_enter Try.func64, Try.ntmps64
  go_wp2
  go_loopw [6, 7, 8] (fun b a i wr => ∃ k : Nat, k ≤ 24 ∧ i = .int .i64 k ∧ b = .int .u32 (maskOf (lowP xs r z) k : Nat) ∧ a = .int .u32 (maskOf (highP xs r z) k : Nat) ∧
      wr.heap[w.heap.size]? = some (.cells #[.int .i8 r, .int .i8 z] 42 (0, 0)) ∧ Below w.heap.size w wr) (fun _ _ i _ => 24 - (intOf i).toNat)
  case atStart => exact ⟨0, Nat.zero_le _, rfl, rfl, rfl, al1_0 _ _, bl1 _ _⟩
  case round =>
    obtain ⟨k, hk, rfl, rfl, rfl, hA, hW⟩ := hrel
    have HA := Lib.hid hA
    have HW := Lib.hid hW
    clear hA hW
    by_cases hlt : k < 24
    · obtain ⟨x, hxe⟩ : ∃ x, x = xs.getD k 0 := ⟨_, rfl⟩
      have hx1 : 0 ≤ x := by rw [hxe]; exact (hg k).1
      have hx2 : x ≤ 60 := by rw [hxe]; exact (hg k).2
      have hcell : wr.cell? ⟨g, k, none⟩ = some (.int .i8 x) := by rw [hxe]; exact arr_cell (heap_below HW.out (lt_of_heap HG.out) HG.out) k (by rw [HL.out]; exact hlt)
      have hc0 : wr.cell? ⟨w.heap.size, 0, none⟩ = some (.int .i8 r) := by rw [cell_of_row _ _ 0 _ _ _ HA.out]; rfl
      have hc1 : wr.cell? ⟨w.heap.size, 1, none⟩ = some (.int .i8 z) := by rw [cell_of_row _ _ 1 _ _ _ HA.out]; rfl
      have HX := Lib.hid hxe
      clear hxe
      have hwx : IntKind.i64.wrap x = x := IntWalk.i64_in _ (by omega)
      go_wp2
      have l1 : g < wr.heap.size := World.block_lt_of_cell? wr _ hcell
      have l2 : w.heap.size < wr.heap.size := World.block_lt_of_cell? wr _ hc0
      go_region_held3 (fun w' => w'.cell? ⟨g, k, none⟩ = some (.int .i8 x) ∧ w'.cell? ⟨w.heap.size, 0, none⟩ = some (.int .i8 r) ∧ w'.cell? ⟨w.heap.size, 1, none⟩ = some (.int .i8 z)) (go_keep) (first | (go_at_call 60; refine (l06Zone_c r z x p1 p2 ⟨by omega, by omega⟩ _).mono ?_; rintro e w1 ⟨rfl, hb1⟩; have s1 : w1.cell? ⟨g, k, none⟩ = some (.int .i8 x) := (hb1.cell (p := ⟨g, k, none⟩) l1).trans hcell; have s2 : w1.cell? ⟨w.heap.size, 0, none⟩ = some (.int .i8 r) := (hb1.cell (p := ⟨w.heap.size, 0, none⟩) l2).trans hc0; have s3 : w1.cell? ⟨w.heap.size, 1, none⟩ = some (.int .i8 z) := (hb1.cell (p := ⟨w.heap.size, 1, none⟩) l2).trans hc1))
      have hzb := zn_bd hp ⟨hx1, hx2⟩
      have HZ : Hid (znV r z (xs.getD k 0) = znV r z x) := Lib.hid (by rw [HX.out])
      have hd1 : w1.heap.size ≥ wr.heap.size := hb1.size
      have HA1 := Lib.hid (heap_below hb1 l2 HA.out)
      have HW1 := Lib.hid (below_trans HW.out HW.out.size (show Below wr.heap.size wr w1 from ⟨hb1.os, hb1.tape, hb1.output, hb1.size, hb1.block⟩))
      obtain ⟨q1, q2⟩ := hzb
      have hpw := pow_bd k hlt
      obtain ⟨w1b, w2b⟩ := hpw
      clear hb1 hd1 s1 s2 s3 hc0 hc1 hcell hwx l1 l2
      by_cases c1 : znV r z x < 0
      · have HP1 : Hid (lowP xs r z k = true) := Lib.hid (by simp only [lowP]; rw [HZ.out]; simpa using c1)
        have HP2 : Hid (highP xs r z k = false) := Lib.hid (by simp only [highP]; rw [HZ.out]; simp; omega)
        generalize znV r z x = zv at *
        go_wp2
        go_roundw
        case rel => exact ⟨k + 1, by omega, by go_num, by exact congrArg _ (mask_step _ _ hlt HP1.out), by rw [mask_stay _ _ HP2.out], HA1.out, HW1.out⟩
        case measure => simp [intOf]; omega
      · by_cases c2 : 11 ≤ znV r z x
        · have HP1 : Hid (lowP xs r z k = false) := Lib.hid (by simp only [lowP]; rw [HZ.out]; simpa using c1)
          have HP2 : Hid (highP xs r z k = true) := Lib.hid (by simp only [highP]; rw [HZ.out]; simpa using c2)
          generalize znV r z x = zv at *
          go_wp2
          go_roundw
          case rel => exact ⟨k + 1, by omega, by go_num, by rw [mask_stay _ _ HP1.out], by exact congrArg _ (mask_step _ _ hlt HP2.out), HA1.out, HW1.out⟩
          case measure => simp [intOf]; omega
        · have HP1 : Hid (lowP xs r z k = false) := Lib.hid (by simp only [lowP]; rw [HZ.out]; simpa using c1)
          have HP2 : Hid (highP xs r z k = false) := Lib.hid (by simp only [highP]; rw [HZ.out]; simpa using c2)
          generalize znV r z x = zv at *
          go_wp2
          go_roundw
          case rel => exact ⟨k + 1, by omega, by go_num, by rw [mask_stay _ _ HP1.out], by rw [mask_stay _ _ HP2.out], HA1.out, HW1.out⟩
          case measure => simp [intOf]; omega
    · have hk24 : k = 24 := by omega
      subst hk24
      go_wp2
      go_ret2
      exact ⟨rfl, HW.out⟩
set_option maxHeartbeats 800000 in
theorem offScale_c (xs : List Int) (hs : Sc xs) (hok : okS xs = true) (r z : Int) (hp : Pl r z) (w : World) :
    Calls Try.prog 61 #[.agg (arr .i8 xs), .agg #[.int .i8 r, .int .i8 z]] w fun e w' => e = .returned (.tuple #[.int .u32 (maskOf (lowP xs r z) 24 : Nat), .int .u32 (maskOf (highP xs r z) 24 : Nat)]) ∧ Below w.heap.size w w' := by
  have HL := Lib.hid hs.1
  have HZ : Hid ((zonesL xs r z).length = 24) := Lib.hid (by rw [zonesL_len, HL.out])
  have hg := okS_get hok
  have H0 := Lib.hid (al2_0 w (.cells (arr .i8 xs) 27) (.cells #[.int .i8 r, .int .i8 z] 42))
  go_enter Try.func61, Try.ntmps61
  go_wp2_with (refine wpList_load_row rfl 27 (.tmp 2) rfl _ rfl _ _ _ _ H0.out Try.underlying27 rfl (by rw [szScene, arr_size, HL.out]) ?_)
  refine (zones_c xs hs hok r z hp _).mono ?_
  rintro e w1 ⟨rfl, hb1⟩
  have HW1 := Lib.hid (bt (bl2 _ _ _) hb1)
  clear hb1
  go_wp2
  go_loop [6, 7, 13] (fun b a i => ∃ k : Nat, k ≤ 24 ∧ i = .int .i64 k ∧ b = .int .u32 (maskOf (lowP xs r z) k : Nat) ∧ a = .int .u32 (maskOf (highP xs r z) k : Nat)) (fun _ _ i => 24 - (intOf i).toNat)
  case atStart => exact ⟨0, Nat.zero_le _, rfl, rfl, rfl⟩
  case round =>
    obtain ⟨k, hk, rfl, rfl, rfl⟩ := hrel
    by_cases hlt : k < 24
    · obtain ⟨v, hv⟩ : ∃ v, v = znV r z (xs.getD k 0) := ⟨_, rfl⟩
      have hzb := zn_bd hp (hg k)
      rw [← hv] at hzb
      have HS : Hid ((zonesL xs r z).getD k 0 = v) := Lib.hid (by rw [zonesL_get _ _ _ _ (by rw [HL.out]; exact hlt), hv])
      have HV := Lib.hid hv
      obtain ⟨q1, q2⟩ := hzb
      have hpw := pow_bd k hlt
      obtain ⟨w1b, w2b⟩ := hpw
      clear hv
      by_cases c1 : v < 0
      · have HP1 : Hid (lowP xs r z k = true) := Lib.hid (by simp only [lowP]; rw [← HV.out]; simpa using c1)
        have HP2 : Hid (highP xs r z k = false) := Lib.hid (by simp only [highP]; rw [← HV.out]; simp; omega)
        go_wp2_with (refine wpList_index_arr rfl 23 (.tmp 12) (.tmp 13) rfl _ rfl k rfl 24 22 Try.underlying23 (by kernel_rfl) Try.underlying22 hlt HZ.out ?_; rw [HS.out])
        go_round
        case rel => exact ⟨k + 1, by omega, by go_num, by exact congrArg _ (mask_step _ _ hlt HP1.out), by rw [mask_stay _ _ HP2.out]⟩
        case measure => simp [intOf]; omega
      · by_cases c2 : 11 ≤ v
        · have HP1 : Hid (lowP xs r z k = false) := Lib.hid (by simp only [lowP]; rw [← HV.out]; simpa using c1)
          have HP2 : Hid (highP xs r z k = true) := Lib.hid (by simp only [highP]; rw [← HV.out]; simpa using c2)
          go_wp2_with (refine wpList_index_arr rfl 23 (.tmp 12) (.tmp 13) rfl _ rfl k rfl 24 22 Try.underlying23 (by kernel_rfl) Try.underlying22 hlt HZ.out ?_; rw [HS.out])
          go_round
          case rel => exact ⟨k + 1, by omega, by go_num, by rw [mask_stay _ _ HP1.out], by exact congrArg _ (mask_step _ _ hlt HP2.out)⟩
          case measure => simp [intOf]; omega
        · have HP1 : Hid (lowP xs r z k = false) := Lib.hid (by simp only [lowP]; rw [← HV.out]; simpa using c1)
          have HP2 : Hid (highP xs r z k = false) := Lib.hid (by simp only [highP]; rw [← HV.out]; simpa using c2)
          go_wp2_with (refine wpList_index_arr rfl 23 (.tmp 12) (.tmp 13) rfl _ rfl k rfl 24 22 Try.underlying23 (by kernel_rfl) Try.underlying22 hlt HZ.out ?_; rw [HS.out])
          go_round
          case rel => exact ⟨k + 1, by omega, by go_num, by rw [mask_stay _ _ HP1.out], by rw [mask_stay _ _ HP2.out]⟩
          case measure => simp [intOf]; omega
    · have hk24 : k = 24 := by omega
      subst hk24
      go_wp2
      go_ret2
      exact ⟨rfl, HW1.out⟩
end Go.Proofs.Ytmnidldpkkpeoaa
