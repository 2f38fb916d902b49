/- The source of draws: it reads bytes, and each number drawn lies in its range. -/
import Derived.BigQuiet
import Derived.Laws.Bits64b
import Derived.Test.YtbcahfiknelkcaaGreatDoorBase
namespace Go.Proofs.YtbcahfiknelkcaaGreatDoor
open Go.RowKit Go.Lib
structure Only (g : Nat) (w w' : World) : Prop where
  below : Below g w w'
  size : w'.heap.size = w.heap.size
  apart : ∀ b, b ≠ g → w'.heap[b]? = w.heap[b]?
theorem only_refl (g : Nat) (w : World) : Only g w w := ⟨Below.refl _ _, rfl, fun _ _ => rfl⟩
theorem only_trans {g : Nat} {w w1 w2 : World} (h : Only g w w1) (k : Only g w1 w2) : Only g w w2 :=
  ⟨h.below.trans k.below, k.size.trans h.size, fun b hb => (k.apart b hb).trans (h.apart b hb)⟩
theorem only_set {g : Nat} {w w1 : World} (h : Only g w w1) (i : Nat) (u : Value) : Only g w (w1.setCell ⟨g, i, none⟩ u) :=
  ⟨h.below.setCell (p := ⟨g, i, none⟩) (Nat.le_refl _) u, by rw [← h.size]; simp, fun b hb => heap_far _ hb (h.apart b hb)⟩
theorem only_drewN {g : Nat} {w w1 : World} (h : Only g w w1) (n : Nat) : Only g w (w1.drewN n) := ⟨bl_drewN h.below n, h.size, h.apart⟩
theorem only_drew {g : Nat} {w w1 : World} (h : Only g w w1) : Only g w w1.drew := ⟨bl_drew h.below, h.size, h.apart⟩
/-- A block of the callee's own that alone has changed. -/
theorem only_above {g : Nat} {w0 w w' : World} (h : Below w0.heap.size w0 w) (k : Only g w w') (hg : w0.heap.size ≤ g) : Below w0.heap.size w0 w' := h.trans (k.below.mono hg)
/-- One old block has changed, and there are new ones. -/
structure But (g : Nat) (w w' : World) : Prop where
  below : Below g w w'
  apart : ∀ b, b < w.heap.size → b ≠ g → w'.heap[b]? = w.heap[b]?
theorem but_refl (g : Nat) (w : World) : But g w w := ⟨Below.refl _ _, fun _ _ _ => rfl⟩
theorem but_trans {g : Nat} {w w1 w2 : World} (h : But g w w1) (k : But g w1 w2) : But g w w2 :=
  ⟨h.below.trans k.below, fun b hb hg => (k.apart b (Nat.lt_of_lt_of_le hb h.below.size) hg).trans (h.apart b hb hg)⟩
theorem but_only {g : Nat} {w w1 w2 : World} (h : But g w w1) (k : Only g w1 w2) : But g w w2 :=
  but_trans h ⟨k.below, fun b _ hg => k.apart b hg⟩
theorem but_below {g : Nat} {w w1 w2 : World} (h : But g w w1) (hg : g ≤ w1.heap.size) (k : Below w1.heap.size w1 w2) : But g w w2 :=
  but_trans h ⟨k.mono hg, fun b hb _ => k.block b hb⟩
theorem but_alloc {g : Nat} {w w1 : World} (h : But g w w1) (hg : g < w1.heap.size) (o : Obj) : But g w (w1.alloc o) := but_below h (Nat.le_of_lt hg) (bl1 _ _)
/-- A store to a block of the callee's own. -/
theorem but_set {g : Nat} {w w1 : World} (h : But g w w1) {b : Nat} (hg : g < w.heap.size) (hb : w.heap.size ≤ b) (i : Nat) (u : Value) : But g w (w1.setCell ⟨b, i, none⟩ u) :=
  ⟨h.below.setCell (p := ⟨b, i, none⟩) (by show g ≤ b; omega) u, fun c hc hne => heap_far _ (by show c ≠ b; omega) (h.apart c hc hne)⟩
theorem but_setRow {g : Nat} {w w1 : World} (h : But g w w1) {b : Nat} (hg : g < w.heap.size) (hb : w.heap.size ≤ b) (vs : Array Value) : But g w (w1.setRow b vs) :=
  ⟨below_setRow h.below (by omega) _, fun c hc hne => by rw [setRow_other _ _ _ _ (by omega)]; exact h.apart c hc hne⟩
theorem but_drewN {g : Nat} {w w1 : World} (h : But g w w1) (n : Nat) : But g w (w1.drewN n) := ⟨bl_drewN h.below n, h.apart⟩
/-- Seen from before the block was made. -/
theorem but_new {w0 w w' : World} {g : Nat} (h : Below w0.heap.size w0 w) (k : But g w w') (hg : w0.heap.size ≤ g) : Below w0.heap.size w0 w' := h.trans (k.below.mono hg)
end Go.Proofs.YtbcahfiknelkcaaGreatDoor
namespace Go.Proofs.YtbcahfiknelkcaaGreatDoor
open Go.RowKit Go.Lib
/-- A slice of bytes. -/
def Bytes (w : World) (v : Value) (n : Nat) : Prop := (v = .slice none 0 0 ∧ n = 0) ∨ ∃ (b o c : Nat) (xs : List Int), v = .slice (some ⟨b, o, none⟩) n c ∧ n ≤ 9223372036854775807 ∧ xs.length = n ∧ (0 < n → b < w.heap.size) ∧ (∀ i, 0 ≤ xs.getD i 0 ∧ xs.getD i 0 ≤ 255) ∧ ∀ i, i < n → w.cell? ⟨b, o + i, none⟩ = some (.int .u8 (xs.getD i 0))
theorem bytes_keep {w w1 : World} {v : Value} {n : Nat} (h : Bytes w v n) (hb : Below w.heap.size w w1) : Bytes w1 v n := by
  rcases h with h | ⟨b, o, c, xs, e, hn, hl, hz, hx, hc⟩
  · exact Or.inl h
  · exact Or.inr ⟨b, o, c, xs, e, hn, hl, fun h0 => Nat.lt_of_lt_of_le (hz h0) hb.size, hx, fun i hi => by rw [hb.cell (p := ⟨b, o + i, none⟩) (hz (by omega))]; exact hc i hi⟩
theorem bytes_shape {w : World} {v : Value} {n : Nat} (h : Bytes w v n) : ∃ p c, v = .slice p n c ∧ n ≤ 9223372036854775807 ∧ (0 < n → ∃ b o, p = some ⟨b, o, none⟩ ∧ b < w.heap.size ∧ ∀ i, i < n → ∃ x : Int, 0 ≤ x ∧ x ≤ 255 ∧ w.cell? ⟨b, o + i, none⟩ = some (.int .u8 x)) := by
  rcases h with ⟨e, hn⟩ | ⟨b, o, c, xs, e, hn, hl, hz, hx, hc⟩
  · exact ⟨none, 0, by rw [e, hn], by omega, fun h => by omega⟩
  · exact ⟨_, c, e, hn, fun h0 => ⟨b, o, rfl, hz h0, fun i hi => ⟨_, (hx i).1, (hx i).2, hc i hi⟩⟩⟩
/-- The source in block g: bytes that lie below it; at most k draws behind. -/
def Src (w : World) (g k : Nat) : Prop := ∃ (p : Option Addr) (n c a : Nat) (s : Int), w.heap[g]? = some (.cells #[.slice p n c, .int .i64 a, .int .u64 s] 145 (0, 0)) ∧ a ≤ k ∧ 0 ≤ s ∧ s < 18446744073709551616 ∧ n ≤ 9223372036854775807 ∧
  (0 < n → ∃ b o, p = some ⟨b, o, none⟩ ∧ b < g ∧ ∀ i, i < n → ∃ x : Int, 0 ≤ x ∧ x ≤ 255 ∧ w.cell? ⟨b, o + i, none⟩ = some (.int .u8 x))
theorem src_keep {w w1 : World} {g k : Nat} (h : Src w g k) (hb : Below w.heap.size w w1) : Src w1 g k := by
  obtain ⟨p, n, c, a, s, hg, ha, h0, h1, hn, hx⟩ := h
  refine ⟨p, n, c, a, s, heap_below hb (lt_of_heap hg) hg, ha, h0, h1, hn, fun h => ?_⟩
  obtain ⟨b, o, hp, hz, hx⟩ := hx h
  exact ⟨b, o, hp, hz, fun i hi => by rw [hb.cell (p := ⟨b, o + i, none⟩) (Nat.lt_trans hz (lt_of_heap hg))]; exact hx i hi⟩
/-- Another block has changed. -/
theorem src_far {w : World} {g k : Nat} (h : Src w g k) {a : Addr} {v : Value} (hne : g ≠ a.block) (hle : g ≤ a.block) : Src (w.setCell a v) g k := by
  obtain ⟨p, n, c, q, s, hg, ha, h0, h1, hn, hx⟩ := h
  refine ⟨p, n, c, q, s, heap_far _ hne hg, ha, h0, h1, hn, fun h => ?_⟩
  obtain ⟨b, o, hp, hz, hx⟩ := hx h
  exact ⟨b, o, hp, hz, fun i hi => by rw [World.cell?_setCell_other _ _ _ _ (by intro h; rw [h] at hle; simp at hle; omega)]; exact hx i hi⟩
theorem src_setRow {w : World} {g k : Nat} (h : Src w g k) {b : Nat} {vs : Array Value} (hlt : g < b) : Src (w.setRow b vs) g k := by
  obtain ⟨p, n, c, q, s, hg, ha, h0, h1, hn, hx⟩ := h
  refine ⟨p, n, c, q, s, by rw [setRow_other _ _ _ _ (by omega)]; exact hg, ha, h0, h1, hn, fun h => ?_⟩
  obtain ⟨b', o, hp, hz, hx⟩ := hx h
  exact ⟨b', o, hp, hz, fun i hi => by rw [cell_setRow_other _ _ _ _ (by show b' ≠ b; omega)]; exact hx i hi⟩
theorem src_lt {w : World} {g k : Nat} (h : Src w g k) : g < w.heap.size := by
  obtain ⟨p, n, c, a, s, hg, _⟩ := h
  exact lt_of_heap hg
theorem src_mono {w : World} {g k k' : Nat} (h : Src w g k) (hk : k ≤ k') : Src w g k' := by
  obtain ⟨p, n, c, a, s, hg, ha, r⟩ := h
  exact ⟨p, n, c, a, s, hg, Nat.le_trans ha hk, r⟩
theorem wrap64_bd (x : Int) : 0 ≤ IntKind.u64.wrap x ∧ IntKind.u64.wrap x < 18446744073709551616 := by
  rw [IntKind.wrap_u64]; omega
theorem bk3_12 {w : World} {g : Nat} {x y z b c : Value} {t : TypeId} (h : w.heap[g]? = some (.cells #[x, y, z] t (0, 0))) : ((w.setCell ⟨g, 1, none⟩ b).setCell ⟨g, 2, none⟩ c).heap[g]? = some (.cells #[x, b, c] t (0, 0)) := by
  rw [heap_setCell_same _ g 2 _ t c (heap_setCell_same _ g 1 _ t b h)]; rfl
theorem src_step {w : World} {g a k n c : Nat} {s s' : Int} {p : Option Addr} (hg : w.heap[g]? = some (.cells #[.slice p n c, .int .i64 a, .int .u64 s] 145 (0, 0))) (ha : a ≤ k) (h0 : 0 ≤ s' ∧ s' < 18446744073709551616) (hn : n ≤ 9223372036854775807)
    (hx : 0 < n → ∃ b o, p = some ⟨b, o, none⟩ ∧ b < g ∧ ∀ i, i < n → ∃ x : Int, 0 ≤ x ∧ x ≤ 255 ∧ w.cell? ⟨b, o + i, none⟩ = some (.int .u8 x)) (q : Nat) (e : Int) (he : e = (a : Int) + 1) :
    Src (((w.drewN q).setCell ⟨g, 1, none⟩ (.int .i64 e)).setCell ⟨g, 2, none⟩ (.int .u64 s')) g (k + 1) := by
  subst he
  refine ⟨p, n, c, a + 1, s', ?_, by omega, h0.1, h0.2, hn, fun h => ?_⟩
  · rw [bk3_12 (w := w.drewN q) hg]; simp
  · obtain ⟨b, o, hp, hz, hx⟩ := hx h
    refine ⟨b, o, hp, hz, fun i hi => ?_⟩
    obtain ⟨x, x0, x1, hc⟩ := hx i hi
    refine ⟨x, x0, x1, ?_⟩
    rw [World.cell?_setCell_other _ _ _ _ (by intro h; injection h; omega), World.cell?_setCell_other _ _ _ _ (by intro h; injection h; omega)]
    exact hc
theorem src_drewN {w : World} {g k : Nat} (h : Src w g k) (q : Nat) : Src (w.drewN q) g k := h
theorem seed_bd (X : Int) (h0 : 0 ≤ X) (h1 : X < 18446744073709551616) : 0 ≤ wrap64 (bits .and .u64 (X / 1099511627776) 255) ∧ wrap64 (bits .and .u64 (X / 1099511627776) 255) ≤ 255 := by
  obtain ⟨m, rfl⟩ : ∃ m : Nat, X = m := ⟨X.toNat, by omega⟩
  have e : ((m : Int) / 1099511627776) = ((m / 1099511627776 : Nat) : Int) := by omega
  have e2 : bits .and .u64 ((m / 1099511627776 : Nat) : Int) ((255 : Nat) : Int) = (((m / 1099511627776) &&& 255 : Nat) : Int) := bits_and_u64_nat _ _ (by omega) (by omega)
  have e3 : (m / 1099511627776) &&& 255 = m / 1099511627776 % 256 := Nat.and_two_pow_sub_one_eq_mod _ 8
  rw [e]
  have e4 : ((255 : Nat) : Int) = 255 := rfl
  rw [e4] at e2
  rw [e2, e3]
  have : wrap64 ((m / 1099511627776 % 256 : Nat) : Int) = ((m / 1099511627776 % 256 : Nat) : Int) := by unfold wrap64; omega
  rw [this]
  omega
set_option maxHeartbeats 1000000 in
theorem srcNext_c (g k : Nat) (w : World) (h : Src w g k) (hk : k ≤ 1000000000) :
    Calls Tryz.prog 123 #[.pointer (some ⟨g, 0, none⟩)] w fun e w' => ∃ x : Int, e = .returned (.int .i64 x) ∧ 0 ≤ x ∧ x ≤ 255 ∧ Src w' g (k + 1) ∧ Only g w w' := by
  obtain ⟨p, n, c, a, s, hg, ha, h0, h1, hn, hx⟩ := h
  have HG := Lib.hid hg
  have c0 := blk3_0 hg
  have c1 := blk3_1 hg
  have c2 := blk3_2 hg
  have f1 := blk_f hg 1
  have f2 := blk_f hg 2
  have hw1 : IntKind.i64.wrap ((a : Int) + 1) = a + 1 := Go.IntWalk.i64_in _ (by omega)
  have HX := Lib.hid hx
  by_cases hlt : a < n
  · obtain ⟨b, o, rfl, hz, hx'⟩ := hx (by omega)
    obtain ⟨x, x0, x1, hc⟩ := hx' a hlt
    clear hx hx' hg
    have hai : (a : Int) < n := by omega
    have hle : decide ((a : Int) + 1 ≤ n) = true := by simp; omega
    have hx64 : IntKind.u64.wrap x = x := by rw [IntKind.wrap_u64]; omega
    go_enter Tryz.func123, Tryz.ntmps123
    go_wp2_with fail
    go_quiet (fail)
    go_wp2_with fail
    go_quiet (fail)
    go_wp2_with fail
    go_quiet (fail)
    go_wp2
    go_ret
    exact ⟨x, rfl, x0, x1, src_drewN (src_step HG.out ha (wrap64_bd _) hn HX.out _ _ rfl) _, only_drewN (only_set (only_set (only_drewN (only_refl _ _) _) _ _) _ _) _⟩
  · clear hx hg
    have hai : ¬ (a : Int) < n := by omega
    have hle : decide ((a : Int) + 1 ≤ n) = false := by simp; omega
    go_enter Tryz.func123, Tryz.ntmps123
    go_wp2_with fail
    go_quiet (fail)
    go_wp2_with fail
    go_quiet (fail)
    go_wp2
    go_ret
    have hb := fun y => seed_bd (IntKind.u64.wrap y) (wrap64_bd y).1 (wrap64_bd y).2
    exact ⟨_, rfl, (hb _).1, (hb _).2, src_drewN (src_step HG.out ha (wrap64_bd _) hn HX.out _ _ rfl) _, only_drewN (only_set (only_set (only_drewN (only_refl _ _) _) _ _) _ _) _⟩
/-- A number that is drawn: from 0 to n - 1. -/
theorem srcPick_c (g k : Nat) (n : Int) (w : World) (h : Src w g k) (hk : k ≤ 999999990) (h1 : 2 ≤ n) (h2 : n ≤ 10000000000) :
    Calls Tryz.prog 54 #[.pointer (some ⟨g, 0, none⟩), .int .i64 n] w fun e w' => ∃ x : Int, e = .returned (.int .i64 x) ∧ 0 ≤ x ∧ x < n ∧ Src w' g (k + 2) ∧ Only g w w' := by
  have HS := Lib.hid h
  clear h
  by_cases hb : n > 200
  · go_enter Tryz.func54, Tryz.ntmps54
    go_wp2_with fail
    refine (srcNext_c g k _ HS.out (by omega)).mono ?_
    rintro e w1 ⟨x, rfl, x0, x1, hS1, hO1⟩
    have HS1 := Lib.hid hS1
    clear hS1
    have hm : IntKind.i64.wrap (x * 256) = x * 256 := Go.IntWalk.i64_in _ (by omega)
    go_wp2_with fail
    refine (srcNext_c g (k + 1) _ HS1.out (by omega)).mono ?_
    rintro e w2 ⟨y, rfl, y0, y1, hS2, hO2⟩
    have HS2 := Lib.hid hS2
    clear hS2
    have hm2 : IntKind.i64.wrap (x * 256 + y) = x * 256 + y := Go.IntWalk.i64_in _ (by omega)
    have hnz : ¬ n = 0 := by omega
    have ht : (x * 256 + y).tmod n = (x * 256 + y) % n := Int.tmod_eq_emod_of_nonneg (by omega)
    have ht0 := Int.emod_nonneg (x * 256 + y) hnz
    have ht1 := Int.emod_lt_of_pos (x * 256 + y) (show 0 < n by omega)
    have hm3 : IntKind.i64.wrap ((x * 256 + y) % n) = (x * 256 + y) % n := Go.IntWalk.i64_in _ (by omega)
    go_wp2
    go_ret
    exact ⟨_, rfl, ht0, ht1, HS2.out, only_trans hO1 hO2⟩
  · go_enter Tryz.func54, Tryz.ntmps54
    go_wp2_with fail
    refine (srcNext_c g k _ HS.out (by omega)).mono ?_
    rintro e w1 ⟨x, rfl, x0, x1, hS1, hO1⟩
    have HS1 := Lib.hid hS1
    clear hS1
    have hnz : ¬ n = 0 := by omega
    have ht : x.tmod n = x % n := Int.tmod_eq_emod_of_nonneg (by omega)
    have ht0 := Int.emod_nonneg x hnz
    have ht1 := Int.emod_lt_of_pos x (show 0 < n by omega)
    have hm3 : IntKind.i64.wrap (x % n) = x % n := Go.IntWalk.i64_in _ (by omega)
    go_wp2
    go_ret
    exact ⟨_, rfl, ht0, ht1, src_mono HS1.out (by omega), hO1⟩
theorem srcPick1_c (g k : Nat) (n : Int) (w : World) (h : Src w g k) (h1 : n ≤ 1) :
    Calls Tryz.prog 54 #[.pointer (some ⟨g, 0, none⟩), .int .i64 n] w fun e w' => e = .returned (.int .i64 0) ∧ Src w' g (k + 2) ∧ Only g w w' := by
  have HS := Lib.hid h
  clear h
  go_enter Tryz.func54, Tryz.ntmps54
  go_wp2
  go_ret
  exact ⟨rfl, src_mono HS.out (by omega), only_refl _ _⟩
/-- Whatever the bound. -/
theorem srcPickAny_c (g k : Nat) (n : Int) (w : World) (h : Src w g k) (hk : k ≤ 999999990) (h2 : n ≤ 10000000000) :
    Calls Tryz.prog 54 #[.pointer (some ⟨g, 0, none⟩), .int .i64 n] w fun e w' => ∃ x : Int, e = .returned (.int .i64 x) ∧ 0 ≤ x ∧ x ≤ max (n - 1) 0 ∧ Src w' g (k + 2) ∧ Only g w w' := by
  by_cases h1 : 2 ≤ n
  · refine (srcPick_c g k n w h hk h1 h2).mono ?_
    rintro e w' ⟨x, he, x0, x1, r⟩
    exact ⟨x, he, x0, by omega, r⟩
  · refine (srcPick1_c g k n w h (by omega)).mono ?_
    rintro e w' ⟨he, r⟩
    exact ⟨0, he, by omega, by omega, r⟩
theorem srcFrom_c (v : Value) (n : Nat) (w : World) (h : Bytes w v n) :
    Calls Tryz.prog 52 #[v] w fun e w' => ∃ g, e = .returned (.pointer (some ⟨g, 0, none⟩)) ∧ w.heap.size ≤ g ∧ Src w' g 0 ∧ Below w.heap.size w w' := by
  obtain ⟨p, c, rfl, hn, hx⟩ := bytes_shape h
  have HX := Lib.hid hx
  clear hx
  go_enter Tryz.func52, Tryz.ntmps52
  go_wp2
  go_ret
  exact ⟨_, rfl, Nat.le_refl _, ⟨p, n, c, 0, 0, al1_0 _ _, Nat.le_refl _, by omega, by omega, hn, fun h => by
    obtain ⟨b, o, hp, hz, hx⟩ := HX.out h
    exact ⟨b, o, hp, hz, fun i hi => by rw [(bl1 w _).cell (p := ⟨b, o + i, none⟩) hz]; exact hx i hi⟩⟩, bl1 _ _⟩
end Go.Proofs.YtbcahfiknelkcaaGreatDoor
namespace Go.Proofs.YtbcahfiknelkcaaGreatDoor
theorem wp_var {P : Program} {c : Code} {Q : Exit → Act → World → Prop} {a : Act} {w : World} (h : ∀ Q0 : Exit → Act → World → Prop, (∀ e a w, Q e a w → Q0 e a w) → Code.wp P c Q0 a w) : Code.wp P c Q a w := h Q (fun _ _ _ h => h)
end Go.Proofs.YtbcahfiknelkcaaGreatDoor
