/- FnFrames: short functions of the law; lists of prints as arguments. -/
import Derived.Test.YtnbbbmnjbfehmaaFramesD
import Derived.Test.YtnbbbmnjbfehmaaFramesP
import Derived.Test.YtnbbbmnjbfehmaaDropS
import Derived.Test.YtnbbbmnjbfehmaaSwapS
import Derived.Test.YtnbbbmnjbfehmaaSameSh
namespace Go.Proofs.Ytnbbbmnjbfehmaa
open Go.RowKit Go.Lib
set_option maxHeartbeats 400000 in
theorem p6Sheet_c (v : Value) (n : Nat) (w : World) (h : Bytes w v n) :
    Calls Try.prog 47 #[v] w fun e w' => ∃ a p c l, e = .returned (.agg #[.int .i8 a, .slice p l.length c]) ∧ 1 ≤ a ∧ a ≤ 5 ∧ l.length ≤ 5 ∧ Prs l ∧ okL l = true ∧ RowP w' w.heap.size (.slice p l.length c) l ∧ Below w.heap.size w w' := by
  have HS := Lib.hid (bytes_keep h (bl1 w (.cells #[.int .i8 0, .slice none 0 0] 30)))
  have K0 := Lib.hid (al1_0 w (.cells #[.int .i8 0, .slice none 0 0] 30))
  have HB := Lib.hid (bl1 w (.cells #[.int .i8 0, .slice none 0 0] 30))
  clear h
  go_enter Try.func47, Try.ntmps47
  go_wp2_with fail
  generalize w.alloc (.cells #[.int .i8 0, .slice none 0 0] 30) = w1 at *
  refine (srcFrom_c _ _ _ HS.out).mono ?_
  rintro e w2 ⟨g, rfl, hg, hS, hb⟩
  have HS2 := Lib.hid hS
  have K2 := Lib.hid (heap_below hb (lt_of_heap K0.out) K0.out)
  have HB2 := Lib.hid (bt HB.out hb)
  have hg1 := lt_of_heap K0.out
  have hlw2 := HB2.out.size
  clear hS hb K0 HB HS
  go_wp2_with fail
  refine (sheetDrawn_c g 0 _ HS2.out (by omega)).mono ?_
  rintro e w3 ⟨a, p, c, l, rfl, a1, a5, l5, hl, ho, hR, hB3⟩
  have K3 := Lib.hid ((hB3.apart _ (lt_of_heap K2.out) (by omega)).trans K2.out)
  have HB3 := Lib.hid (but_new HB2.out hB3 (by omega))
  have hk2 := lt_of_heap K2.out
  have HR := Lib.hid (rowP_mono (rowP_far (p := ⟨w.heap.size, 1, none⟩) (rowP_far (p := ⟨w.heap.size, 0, none⟩) hR hk2 (.int .i8 a)) hk2 (.slice p l.length c)) hlw2)
  have HL := Lib.hid hl
  have HO := Lib.hid ho
  clear hR hB3 HB2 K2 HS2 hl ho
  obtain ⟨nl, hnl⟩ : ∃ nl, nl = l.length := ⟨_, rfl⟩
  have HN := Lib.hid hnl
  rw [← hnl] at HR ⊢
  have c0 := bk2_0 K3.out
  have c1 := bk2_1 K3.out
  have f0 := blk_f K3.out 0
  have f1 := blk_f K3.out 1
  clear hnl
  go_wp2
  exact bodyPost_ret (results_cell_row rfl _ _ _ _ _ _ _ rfl (bk2 K3.out) Try.underlying30 rfl szSheetI) rfl ⟨a, p, c, l, by rw [HN.out], a1, a5, l5, HL.out, HO.out, by rw [← HN.out]; exact HR.out, below2 HB3.out (Nat.le_refl _) _ _⟩
theorem p6Pick_c (v : Value) (n : Nat) (w : World) (h : Bytes w v n) (m : Int) (h2 : m ≤ 1000000000) :
    Calls Try.prog 48 #[v, .int .i64 m] w fun e w' => ∃ x : Int, e = .returned (.int .i64 x) ∧ 0 ≤ x ∧ x ≤ max (m - 1) 0 ∧ Below w.heap.size w w' := by
  have HS := Lib.hid h
  clear h
  go_enter Try.func48, Try.ntmps48
  go_wp2_with fail
  refine (srcFrom_c _ _ _ HS.out).mono ?_
  rintro e w2 ⟨g, rfl, hg, hS, hb⟩
  have HS2 := Lib.hid hS
  clear hS
  go_wp2_with fail
  refine (srcPickAny_c g 0 m _ HS2.out (by omega) h2).mono ?_
  rintro e w3 ⟨x, rfl, x0, x1, _, hO⟩
  go_wp2
  go_ret
  exact ⟨x, rfl, x0, x1, only_above hb hO hg⟩
theorem f6big_c (v1 : Value) (n1 : Nat) (p1 : Option Addr) (c1 : Nat) (h1 : v1 = .slice p1 n1 c1) (w : World) :
    Calls Try.prog 46 #[v1] w fun e w' => e = .returned (.bool (decide (4096 < (n1 : Int)))) ∧ w = w' := by
  subst h1
  go_enter Try.func46, Try.ntmps46
  go_wp2
  go_ret
  exact ⟨by simp, rfl⟩
theorem rowP_PB {w : World} {base : Nat} {v : Value} {l : List (List Int)} (h : RowP w base v l) (hl : Prs l) (h0 : 0 < l.length) : ∃ g c, v = .slice (some ⟨g, 0, none⟩) l.length c ∧ PB w g l ∧ l.length ≤ c := by
  obtain ⟨q, c, hv, hps⟩ := rowP_PS h hl
  obtain ⟨_, h2⟩ := h
  rcases h2 with ⟨_, h0'⟩ | ⟨g, cap, cur, hv2, hg, hh, hc, _⟩
  · omega
  · have hv3 := hv
    rw [hv2] at hv3
    simp only [Value.slice.injEq] at hv3
    obtain ⟨e1, _, e3⟩ := hv3
    obtain ⟨b, o, hb, hlt, hat⟩ := hps (by rintro rfl; simp at h0)
    rw [← e1] at hb
    simp only [Option.some.injEq, Addr.mk.injEq, and_true] at hb
    obtain ⟨rfl, rfl⟩ := hb
    exact ⟨g, cap, hv2, ⟨hlt, hat⟩, hc⟩
end Go.Proofs.Ytnbbbmnjbfehmaa
