/- Lists of prints: how the laws mark them, read them again and compare them, wherever they lie. -/
import Derived.Test.YtnbbbmnjbfehmaaRowP
namespace Go.Proofs.Ytnbbbmnjbfehmaa
open Go.RowKit Go.Lib
def w16 (z : Int) : Int := IntKind.i16.wrap z
/-- One block alone has changed. -/
structure OnlyB (g : Nat) (w w' : World) : Prop where
  below : Below g w w'
  size : w'.heap.size = w.heap.size
  apart : ∀ b, b ≠ g → w'.heap[b]? = w.heap[b]?
theorem onlyB_refl (g : Nat) (w : World) : OnlyB g w w := ⟨Below.refl _ _, rfl, fun _ _ => rfl⟩
theorem onlyB_trans {g : Nat} {w w1 w2 : World} (h : OnlyB g w w1) (k : OnlyB g w1 w2) : OnlyB g w w2 :=
  ⟨h.below.trans k.below, k.size.trans h.size, fun b hb => (k.apart b hb).trans (h.apart b hb)⟩
theorem onlyB_set {g : Nat} {w w1 : World} (h : OnlyB g w w1) (i : Nat) (u : Value) : OnlyB g w (w1.setCell ⟨g, i, none⟩ u) :=
  ⟨h.below.setCell (p := ⟨g, i, none⟩) (Nat.le_refl _) u, by rw [← h.size]; simp, fun b hb => heap_far _ hb (h.apart b hb)⟩
theorem onlyB_drewN {g : Nat} {w w1 : World} (h : OnlyB g w w1) (n : Nat) : OnlyB g w (w1.drewN n) := ⟨bl_drewN h.below n, h.size, h.apart⟩
theorem onlyB_drew {g : Nat} {w w1 : World} (h : OnlyB g w w1) : OnlyB g w w1.drew := ⟨bl_drew h.below, h.size, h.apart⟩
/-- The first m cells of a block are marked. -/
def Mkd (w : World) (g : Nat) (t : TypeId) (s : Nat) (k0 : Int) (m : Nat) : Prop := ∃ C : Array Value, w.heap[g]? = some (.cells C t (0, 0)) ∧ C.size = s ∧ ∀ i, i < m → C[i]? = some (.int .i16 (w16 (k0 + (i : Int))))
theorem mkd_start {w : World} {g : Nat} {t : TypeId} {C : Array Value} (h : w.heap[g]? = some (.cells C t (0, 0))) (k0 : Int) : Mkd w g t C.size k0 0 := ⟨C, h, rfl, fun i hi => absurd hi (by omega)⟩
theorem mkd_step {w : World} {g : Nat} {t : TypeId} {s : Nat} {k0 : Int} {m : Nat} (h : Mkd w g t s k0 m) (hm : m < s) : Mkd (w.setCell ⟨g, m, none⟩ (.int .i16 (w16 (k0 + (m : Int))))) g t s k0 (m + 1) := by
  obtain ⟨C, h1, h2, h3⟩ := h
  refine ⟨C.setIfInBounds m _, heap_setCell_same _ _ _ _ _ _ h1, by simp [h2], fun i hi => ?_⟩
  by_cases e : i = m
  · subst e; simp [h2, hm]
  · rw [Array.getElem?_setIfInBounds_ne (Ne.symm e)]; exact h3 i (by omega)
theorem mkd_cell {w : World} {g : Nat} {t : TypeId} {s : Nat} {k0 : Int} {m : Nat} (h : Mkd w g t s k0 m) (i : Nat) (hi : i < m) : w.cell? ⟨g, i, none⟩ = some (.int .i16 (w16 (k0 + (i : Int)))) := by
  obtain ⟨C, h1, _, h3⟩ := h
  rw [cell_of_row w g i C t _ h1]; exact h3 i hi
theorem mkd_any {w : World} {g : Nat} {t : TypeId} {s : Nat} {k0 : Int} {m : Nat} (h : Mkd w g t s k0 m) (i : Nat) (hi : i < s) : ∃ u, w.cell? ⟨g, i, none⟩ = some u := by
  obtain ⟨C, h1, h2, _⟩ := h
  rw [cell_of_row w g i C t _ h1]
  exact ⟨_, Array.getElem?_eq_getElem (by omega)⟩
theorem mkd_frozen {w : World} {g : Nat} {t : TypeId} {s : Nat} {k0 : Int} {m : Nat} (h : Mkd w g t s k0 m) (i : Nat) : w.frozen? ⟨g, i, none⟩ = false := by
  obtain ⟨C, h1, _⟩ := h
  exact frozen_of_row _ _ _ _ _ h1
theorem mkd_apart {w w1 : World} {g : Nat} {t : TypeId} {s : Nat} {k0 : Int} {m : Nat} (h : Mkd w g t s k0 m) (hb : w1.heap[g]? = w.heap[g]?) : Mkd w1 g t s k0 m := by
  obtain ⟨C, h1, h2, h3⟩ := h
  exact ⟨C, by rw [hb]; exact h1, h2, h3⟩
set_option maxHeartbeats 1000000 in
set_option maxRecDepth 100000 in
theorem eqPrintS_ps (p1 p2 : Option Addr) (n c1 c2 : Nat) (l : List (List Int)) (hl : Prs l) (hn : n = l.length) (hm : n ≤ 1048576) (w : World) (h1 : PS w p1 l) (h2 : PS w p2 l) :
    Calls Try.prog 30 #[.slice p1 n c1, .slice p2 n c2] w fun e w' => e = .returned (.bool true) ∧ Below w.heap.size w w' := by
  have HN := Lib.hid hn
  have HP := Lib.hid hl
  have H1 := Lib.hid h1
  have H2 := Lib.hid h2
  have hu := Try.underlying45
  clear hn hl h1 h2
  go_enter Try.func30, Try.ntmps30
  go_wp2
  go_loopw [5] (fun i wr => ∃ k : Nat, k ≤ n ∧ i = .int .i64 k ∧ Below w.heap.size w wr) (fun i _ => n - (intOf i).toNat)
  case atStart => exact ⟨0, Nat.zero_le _, rfl, Below.refl _ _⟩
  case round =>
    obtain ⟨k, hk, rfl, hW⟩ := hrel
    have HW := Lib.hid hW
    clear hW
    by_cases hlt : k < n
    · obtain ⟨b1, o1, rfl, hz1, ha1⟩ := H1.out (ne_of_lt (k := k) (by have := HN.out; omega))
      obtain ⟨b2, o2, rfl, hz2, ha2⟩ := H2.out (ne_of_lt (k := k) (by have := HN.out; omega))
      obtain ⟨q, hpe⟩ : ∃ q, q = l.getD k [] := ⟨_, rfl⟩
      have HPr : Hid (Pr q) := Lib.hid (by rw [hpe]; exact HP.out k (by have := HN.out; omega))
      have hi : (Try.prog.info? 45).map (·.size) = some (cellsP q).length := by rw [szPrint, cellsP_length, HPr.out.1]
      have K : Hid (∀ w', Below wr.heap.size wr w' → (Below wr.heap.size wr w' ∧ w'.rangeAt b1 (o1 + k * 64) (cellsP q) ∧ w'.rangeAt b2 (o2 + k * 64) (cellsP q))) := Lib.hid fun w' hb => by
        have hb1 := bt HW.out hb
        have r1 := rangeAt_below hb1 hz1 (ha1 k (by have := HN.out; omega))
        have r2 := rangeAt_below hb1 hz2 (ha2 k (by have := HN.out; omega))
        rw [← hpe] at r1 r2
        exact ⟨hb, r1, r2⟩
      have HE := Lib.hid hpe
      clear hpe ha1 ha2
      have L1 : Sem.run Try.prog (Instr.loadAt 45 (.pointer (some ⟨b1, o1 + k * 64, none⟩))) wr.drew = .ok (.agg (arr .i16 q)) wr.drew :=
        run_loadAt_mid _ _ _ _ _ _ (K.out _ (bl_drew (Below.refl _ _))).2.1 hu rfl hi
      have L2 : Sem.run Try.prog (Instr.loadAt 45 (.pointer (some ⟨b2, o2 + k * 64, none⟩))) wr.drew = .ok (.agg (arr .i16 q)) wr.drew :=
        run_loadAt_mid _ _ _ _ _ _ (K.out _ (bl_drew (Below.refl _ _))).2.2 hu rfl hi
      clear hu hi
      go_upto_region 6 with fail
      refine wp_region_still_tail 8 (by kernel_rfl) (by kernel_rfl) ?_
      simp only [List.take_succ_cons, List.take_zero, List.drop_succ_cons, List.drop_zero]
      still_step
      still_step
      still_step
      refine wpStill_load rfl _ _ rfl _ _ rfl L1 ?_
      still_step
      still_step
      still_step
      refine wpStill_load rfl _ _ rfl _ _ rfl L2 ?_
      refine wpStill_nil ?_
      change wpList _ _ _ _ _ wr.drew
      go_wp2_with (go_at_call 61; refine (eqPrint_same q HPr.out.1 _).mono ?_; rintro e w9 ⟨rfl, hb9⟩; have HB9 := Lib.hid hb9; clear hb9)
      go_roundw
      case rel => exact ⟨k + 1, by omega, by go_num, bt HW.out (bt (bl_drew (Below.refl _ _)) HB9.out)⟩
      case measure => simp [intOf]; omega
    · have hkn : k = n := by omega
      subst hkn
      go_wp2
      go_ret
      exact ⟨rfl, HW.out⟩
set_option maxHeartbeats 400000 in
theorem eqSheet_ps (a : Int) (p1 p2 : Option Addr) (n c1 c2 : Nat) (l : List (List Int)) (hl : Prs l) (hn : n = l.length) (hm : n ≤ 1048576) (w : World) (h1 : PS w p1 l) (h2 : PS w p2 l) :
    Calls Try.prog 18 #[.agg #[.int .i8 a, .slice p1 n c1], .agg #[.int .i8 a, .slice p2 n c2]] w fun e w' => e = .returned (.bool true) ∧ Below w.heap.size w w' := by
  have HN := Lib.hid hn
  have HP := Lib.hid hl
  have H1 := Lib.hid h1
  have H2 := Lib.hid h2
  clear hn hl h1 h2
  have hself : (a != a) = false := by simp
  go_enter Try.func18, Try.ntmps18
  go_wp2_with fail
  refine (eqPrintS_ps p1 p2 n c1 c2 l HP.out HN.out hm _ (PS_below (bl2 _ _ _) H1.out) (PS_below (bl2 _ _ _) H2.out)).mono ?_
  rintro e w1 ⟨rfl, hb1⟩
  have hB := Lib.hid (bt (bl2 _ _ _) hb1)
  clear hb1
  go_wp2
  go_ret
  exact ⟨rfl, hB.out⟩
end Go.Proofs.Ytnbbbmnjbfehmaa
