/- Lists of prints: how the laws mark them and read the marks again. -/
import Derived.Test.YtnbbbmnjbfehmaaMarkP
namespace Go.Proofs.Ytnbbbmnjbfehmaa
open Go.RowKit Go.Lib
set_option maxHeartbeats 1000000 in
set_option maxRecDepth 100000 in
theorem markPrintS_c (p : Option Addr) (g n c s : Nat) (t : TypeId) (k0 : Int) (hk0 : 0 ≤ k0 ∧ k0 ≤ 1048576) (hm : n ≤ 1048576) (hs : n * 64 ≤ s) (w : World) (hp : 0 < n → p = some ⟨g, 0, none⟩) (hg : 0 < n → Mkd w g t s k0 0) :
    Calls Try.prog 66 #[.slice p n c, .int .i64 k0] w fun e w' => e = .returned (.int .i64 (k0 + ((n * 64 : Nat) : Int))) ∧ (0 < n → Mkd w' g t s k0 (n * 64)) ∧ OnlyB g w w' := by
  obtain ⟨k1, k2⟩ := hk0
  have HS := Lib.hid hs
  have HG := Lib.hid hg
  have HP := Lib.hid hp
  clear hs hg hp
  go_enter Try.func66, Try.ntmps66
  go_upto_region 2 with fail
  go_loopw [1, 5] (fun a i wr => ∃ k : Nat, k ≤ n ∧ i = .int .i64 k ∧ a = .int .i64 (k0 + ((k * 64 : Nat) : Int)) ∧ (0 < n → Mkd wr g t s k0 (k * 64)) ∧ OnlyB g w wr) (fun _ i _ => n - (intOf i).toNat)
  case atStart => exact ⟨0, Nat.zero_le _, rfl, by simp, by simpa using HG.out, onlyB_refl g w⟩
  case round =>
    obtain ⟨k, hk, rfl, rfl, hM, hW⟩ := hrel
    have HM := Lib.hid hM
    have HW := Lib.hid hW
    clear hM hW
    by_cases hlt : k < n
    · have hpe := HP.out (by omega)
      subst hpe
      have hki : (k : Int) < n := by omega
      have HM1 := Lib.hid (HM.out (by omega))
      go_upto_region 5 with fail
      go_loopw [1, 6] (fun a j wr => ∃ m : Nat, m ≤ 64 ∧ j = .int .i64 m ∧ a = .int .i64 (k0 + ((k * 64 + m : Nat) : Int)) ∧ Mkd wr g t s k0 (k * 64 + m) ∧ OnlyB g w wr) (fun _ j _ => 64 - (intOf j).toNat)
      case atStart => exact ⟨0, Nat.zero_le _, rfl, by simp, HM1.out, HW.out⟩
      case round =>
        clear HM HW HM1
        obtain ⟨m, hm64, rfl, rfl, hM, hW⟩ := hrel
        have HM := Lib.hid hM
        have HW := Lib.hid hW
        by_cases hmt : m < 64
        · obtain ⟨u, hu⟩ := mkd_any hM (k * 64 + m) (by have := HS.out; omega)
          have hfr := mkd_frozen hM (k * 64 + m)
          have hmi : (m : Int) < 64 := by omega
          have HSt := Lib.hid (mkd_step hM (by have := HS.out; omega))
          clear hM hW
          have hE : k0 + ((k * 64 + m : Nat) : Int) + 1 = k0 + ((k * 64 + (m + 1) : Nat) : Int) := by omega
          have HE := Lib.hid hE
          clear hE
          generalize hz : k0 + ((k * 64 + m : Nat) : Int) = z at *
          have hzb : 0 ≤ z ∧ z ≤ 200000000 := by omega
          clear hz
          go_wp2
          go_roundw
          case rel => exact ⟨m + 1, by omega, by go_num, by rw [HE.out], HSt.out, onlyB_set HW.out _ _⟩
          case measure => simp [intOf]; omega
        · have hm' : m = 64 := by omega
          subst hm'
          have HE : Hid (k0 + ((k * 64 + 64 : Nat) : Int) = k0 + (((k + 1) * 64 : Nat) : Int)) := Lib.hid (by omega)
          clear hM hW
          go_wp2
          go_roundw
          case rel => exact ⟨k + 1, by omega, by go_num, by rw [HE.out], fun _ => by rw [show (k + 1) * 64 = k * 64 + 64 by omega]; exact HM.out, HW.out⟩
          case measure => simp [intOf]; omega
    · have hkn : k = n := by omega
      subst hkn
      go_wp2
      go_ret
      exact ⟨rfl, HM.out, HW.out⟩
set_option maxHeartbeats 1000000 in
set_option maxRecDepth 100000 in
theorem heldPrintS_c (p : Option Addr) (g n c s : Nat) (t : TypeId) (k0 : Int) (hk0 : 0 ≤ k0 ∧ k0 ≤ 1048576) (hm : n ≤ 1048576) (w : World) (hp : 0 < n → p = some ⟨g, 0, none⟩) (hg : 0 < n → Mkd w g t s k0 (n * 64)) :
    Calls Try.prog 67 #[.slice p n c, .int .i64 k0] w fun e w' => e = .returned (.int .i64 (k0 + ((n * 64 : Nat) : Int))) ∧ Below w.heap.size w w' := by
  obtain ⟨k1, k2⟩ := hk0
  have HG := Lib.hid hg
  have HP := Lib.hid hp
  clear hg hp
  go_enter Try.func67, Try.ntmps67
  go_upto_region 2 with fail
  go_loopw [1, 5] (fun a i wr => ∃ k : Nat, k ≤ n ∧ i = .int .i64 k ∧ a = .int .i64 (k0 + ((k * 64 : Nat) : Int)) ∧ ∃ q, wr = w.drewN q) (fun _ i _ => n - (intOf i).toNat)
  case atStart => exact ⟨0, Nat.zero_le _, rfl, by simp, 0, rfl⟩
  case round =>
    obtain ⟨k, hk, rfl, rfl, q, hW⟩ := hrel
    have HW := Lib.hid hW
    clear hW
    by_cases hlt : k < n
    · have hpe := HP.out (by omega)
      subst hpe
      have HM := Lib.hid (HG.out (by omega))
      have hki : (k : Int) < n := by omega
      go_upto_region 5 with fail
      go_loopw [1, 6] (fun a j wr => ∃ m : Nat, m ≤ 64 ∧ j = .int .i64 m ∧ a = .int .i64 (k0 + ((k * 64 + m : Nat) : Int)) ∧ ∃ q, wr = w.drewN q) (fun _ j _ => 64 - (intOf j).toNat)
      case atStart => exact ⟨0, Nat.zero_le _, rfl, by simp, q, HW.out⟩
      case round =>
        clear HW
        obtain ⟨m, hm64, rfl, rfl, q2, hW⟩ := hrel
        have HW := Lib.hid hW
        clear hW
        by_cases hmt : m < 64
        · have hlt2 : k * 64 + m < n * 64 := by omega
          have hcell : wr.cell? ⟨g, k * 64 + m, none⟩ = some (.int .i16 (w16 (k0 + ((k * 64 + m : Nat) : Int)))) := by rw [HW.out, World.cell?_drewN]; exact mkd_cell HM.out _ hlt2
          have hmi : (m : Int) < 64 := by omega
          have HE : Hid (k0 + ((k * 64 + m : Nat) : Int) + 1 = k0 + ((k * 64 + (m + 1) : Nat) : Int)) := Lib.hid (by omega)
          generalize hz : k0 + ((k * 64 + m : Nat) : Int) = z at *
          have hzb : 0 ≤ z ∧ z ≤ 200000000 := by omega
          have hw : w16 z = IntKind.i16.wrap z := rfl
          have hself : (IntKind.i16.wrap z != IntKind.i16.wrap z) = false := by simp
          rw [hw] at hcell
          clear hz hw
          go_wp2
          go_roundw
          case rel => exact ⟨m + 1, by omega, by go_num, by rw [HE.out], q2, HW.out⟩
          case measure => simp [intOf]; omega
        · have hm' : m = 64 := by omega
          subst hm'
          have HE : Hid (k0 + ((k * 64 + 64 : Nat) : Int) = k0 + (((k + 1) * 64 : Nat) : Int)) := Lib.hid (by omega)
          go_wp2
          go_roundw
          case rel => exact ⟨k + 1, by omega, by go_num, by rw [HE.out], q2, HW.out⟩
          case measure => simp [intOf]; omega
    · have hkn : k = n := by omega
      subst hkn
      go_wp2
      go_ret
      exact ⟨rfl, by rw [HW.out]; exact bl_drewN (Below.refl _ _) _⟩
/-- One old block alone has changed. -/
def BFq (g : Nat) (w w' : World) : Prop := Below g w w' ∧ ∀ k, k < w.heap.size → k ≠ g → w'.heap[k]? = w.heap[k]?
theorem bfq_alloc {g : Nat} {w w' : World} (o : Obj) (hg : g ≤ w.heap.size) (h : OnlyB g (w.alloc o) w') : BFq g w w' :=
  ⟨((Below.refl g w).alloc hg o).trans h.below, fun k hk hn => by rw [h.apart k hn]; exact heap_old o k hk rfl⟩
theorem mkd_alloc {w : World} {g : Nat} {t : TypeId} {s : Nat} {k0 : Int} {m : Nat} (h : Mkd w g t s k0 m) (o : Obj) : Mkd (w.alloc o) g t s k0 m := by
  have h' := h
  obtain ⟨C, h1, _⟩ := h'
  exact mkd_apart h ((heap_old o g (lt_of_heap h1) rfl))
theorem mkd_below {w w1 : World} {g : Nat} {t : TypeId} {s : Nat} {k0 : Int} {m : Nat} (h : Mkd w g t s k0 m) (hb : Below w.heap.size w w1) : Mkd w1 g t s k0 m := by
  have h' := h
  obtain ⟨C, h1, _⟩ := h'
  exact mkd_apart h (heap_below hb (lt_of_heap h1) rfl)
theorem markSheet_c (a : Int) (p : Option Addr) (g n c s : Nat) (t : TypeId) (k0 : Int) (hk0 : 0 ≤ k0 ∧ k0 ≤ 1048576) (hm : n ≤ 1048576) (hs : n * 64 ≤ s) (w : World) (hp : 0 < n → p = some ⟨g, 0, none⟩) (hg : 0 < n → Mkd w g t s k0 0) (hgs : g ≤ w.heap.size) :
    Calls Try.prog 37 #[.agg #[.int .i8 a, .slice p n c], .int .i64 k0] w fun e w' => e = .returned (.int .i64 (k0 + ((n * 64 : Nat) : Int))) ∧ (0 < n → Mkd w' g t s k0 (n * 64)) ∧ BFq g w w' := by
  have HG : Hid (0 < n → Mkd (w.alloc (.cells #[.int .i8 a, .slice p n c] 30)) g t s k0 0) := Lib.hid (fun h => mkd_alloc (hg h) _)
  have HP := Lib.hid hp
  have HS := Lib.hid hs
  have HGS := Lib.hid hgs
  clear hg hp hs hgs
  go_enter Try.func37, Try.ntmps37
  go_wp2_with fail
  refine (markPrintS_c p g n c s t k0 hk0 hm HS.out _ HP.out HG.out).mono ?_
  rintro e w1 ⟨rfl, hM, hb1⟩
  have HM := Lib.hid hM
  have HB := Lib.hid (bfq_alloc _ HGS.out hb1)
  clear hM hb1
  go_wp2
  go_ret
  exact ⟨rfl, HM.out, HB.out⟩
theorem heldSheet_c (a : Int) (p : Option Addr) (g n c s : Nat) (t : TypeId) (k0 : Int) (hk0 : 0 ≤ k0 ∧ k0 ≤ 1048576) (hm : n ≤ 1048576) (w : World) (hp : 0 < n → p = some ⟨g, 0, none⟩) (hg : 0 < n → Mkd w g t s k0 (n * 64)) :
    Calls Try.prog 38 #[.agg #[.int .i8 a, .slice p n c], .int .i64 k0] w fun e w' => e = .returned (.int .i64 (k0 + ((n * 64 : Nat) : Int))) ∧ Below w.heap.size w w' := by
  have HG : Hid (0 < n → Mkd (w.alloc (.cells #[.int .i8 a, .slice p n c] 30)) g t s k0 (n * 64)) := Lib.hid (fun h => mkd_alloc (hg h) _)
  have HP := Lib.hid hp
  have HK := Lib.hid (show ¬ (k0 + ((n * 64 : Nat) : Int) < 0) by omega)
  clear hg hp
  go_enter Try.func38, Try.ntmps38
  go_wp2_with fail
  refine (heldPrintS_c p g n c s t k0 hk0 hm _ HP.out HG.out).mono ?_
  rintro e w1 ⟨rfl, hb1⟩
  have HB := Lib.hid (bt (bl1 _ _) hb1)
  have hk := HK.out
  generalize hz : k0 + ((n * 64 : Nat) : Int) = z at *
  have HZ := Lib.hid hz
  clear hb1 hz
  go_wp2
  go_ret
  exact ⟨ret_int HZ.out.symm, HB.out⟩
end Go.Proofs.Ytnbbbmnjbfehmaa
