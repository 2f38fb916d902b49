/- SettingFor: the law. -/
import Derived.Test.YtejkdiinohndiaaSetFor
import Derived.Deep.DeepCutAuto
namespace Go.Proofs.Ytejkdiinohndiaa
open Go.RowKit
theorem bal {w0 w : World} (h : Below w0.heap.size w0 w) (o : Obj) : Below w0.heap.size w0 (w.alloc o) := h.alloc h.size o
theorem bst3 {w0 w v : World} (h : Below w0.heap.size w0 w) (k : Below w0.heap.size w0 v) (x y z : Value) :
    Below w0.heap.size w0 (((w.setCell ⟨v.heap.size, 0, none⟩ x).setCell ⟨v.heap.size, 1, none⟩ y).setCell ⟨v.heap.size, 2, none⟩ z) := below3 h k.size x y z
theorem toSetting_c (a b c : Int) (w : World) :
    Calls Try.prog 52 #[.agg #[.int .i8 a, .int .i8 b, .int .i8 c]] w fun e w' => e = .returned (.agg #[.int .i8 a, .int .i8 b, .int .i8 c]) ∧ Below w.heap.size w w' := by
  go_enter Try.func52, Try.ntmps52
  go_wp2
  exact bodyPost_ret (v := .agg #[.int .i8 a, .int .i8 b, .int .i8 c]) (by simp [results, Try.results52, go_sem]) rfl ⟨rfl, bl3 _ _ _ _⟩
theorem eqSetting_same (a b c : Int) (w : World) :
    Calls Try.prog 53 #[.agg #[.int .i8 a, .int .i8 b, .int .i8 c], .agg #[.int .i8 a, .int .i8 b, .int .i8 c]] w fun e w' => e = .returned (.bool true) ∧ Below w.heap.size w w' := by
  go_enter Try.func53, Try.ntmps53
  go_wp2
  go_ret
  exact ⟨rfl, bl2 _ _ _⟩
set_option maxHeartbeats 2000000 in
set_option maxRecDepth 100000 in
set_option linter.unusedVariables false in
theorem lawSettingFor_c (a b c : Int) (ha : -128 ≤ a ∧ a ≤ 127) (hb : -128 ≤ b ∧ b ≤ 127) (hc : -128 ≤ c ∧ c ≤ 127) (q : Int) (hq : -9223372036854775808 ≤ q ∧ q ≤ 9223372036854775807) (r z : Int) (hr : -128 ≤ r ∧ r ≤ 127) (hz : -128 ≤ z ∧ z ≤ 127) (w : World) :
    Calls Try.prog 14 #[.agg #[.int .i8 a, .int .i8 b, .int .i8 c], .int .i64 q, .agg #[.int .i8 r, .int .i8 z]] w fun e w' => e = .returned (.bool true) ∧ Below w.heap.size w w' := by
  have h8 : S8 a b c := ⟨ha, hb, hc⟩
  obtain ⟨⟨x, y, u, k⟩, hv⟩ : ∃ p, sfV a b c q r z = p := ⟨_, rfl⟩
  have HV : Hid (stV (sfV a b c q r z) = .tuple #[.agg #[.int .i8 x, .int .i8 y, .int .i8 u], .int .i64 k]) := Lib.hid (by rw [hv]; rfl)
  have B0 := Lib.hid (al2_0 w (.cells #[.int .i8 a, .int .i8 b, .int .i8 c] 56) (.cells #[.int .i8 r, .int .i8 z] 29))
  have B1 := Lib.hid (al2_1 w (.cells #[.int .i8 a, .int .i8 b, .int .i8 c] 56) (.cells #[.int .i8 r, .int .i8 z] 29))
  have L := Lib.hid (bl2 w (.cells #[.int .i8 a, .int .i8 b, .int .i8 c] 56) (.cells #[.int .i8 r, .int .i8 z] 29))
  clear hv ha hb hc hq
  go_enter Try.func14, Try.ntmps14
  go_upto_region 1 with fail
  generalize ((w.alloc (.cells #[.int .i8 a, .int .i8 b, .int .i8 c] 56)).alloc (.cells #[.int .i8 r, .int .i8 z] 29)) = w1 at *
  have K : Hid (∀ w', Below w1.heap.size w1 w' → (Below w1.heap.size w1 w' ∧ (w'.cell? ⟨w.heap.size, 0, none⟩ = some (.int .i8 a) ∧ w'.cell? ⟨w.heap.size, 1, none⟩ = some (.int .i8 b) ∧ w'.cell? ⟨w.heap.size, 2, none⟩ = some (.int .i8 c)) ∧ (w'.cell? ⟨w.heap.size + 1, 0, none⟩ = some (.int .i8 r) ∧ w'.cell? ⟨w.heap.size + 1, 1, none⟩ = some (.int .i8 z)))) := Lib.hid fun w' hb => by
    have b0 := heap_below hb (lt_of_heap B0.out) B0.out
    have b1 := heap_below hb (lt_of_heap B1.out) B1.out
    exact ⟨hb, ⟨blk3_0 b0, blk3_1 b0, blk3_2 b0⟩, bk2_0 b1, bk2_1 b1⟩
  go_cut [7, 8] (fun s7 s8 wx => ∃ g : Nat, s7 = .pointer (some ⟨g, 0, none⟩) ∧ s8 = .int .i64 k ∧ wx.heap[g]? = some (.cells #[.int .i8 x, .int .i8 y, .int .i8 u] 51 (0, 0)) ∧ Below w1.heap.size w1 wx)
  case first =>
    have s0 := K.out _ (Below.refl _ _)
    go_region_held3 (fun w' => Below w1.heap.size w1 w' ∧ (w'.cell? ⟨w.heap.size, 0, none⟩ = some (.int .i8 a) ∧ w'.cell? ⟨w.heap.size, 1, none⟩ = some (.int .i8 b) ∧ w'.cell? ⟨w.heap.size, 2, none⟩ = some (.int .i8 c)) ∧ (w'.cell? ⟨w.heap.size + 1, 0, none⟩ = some (.int .i8 r) ∧ w'.cell? ⟨w.heap.size + 1, 1, none⟩ = some (.int .i8 z)))
      (first | (with_reducible assumption) | exact K.out _ (bl_drew (Below.refl _ _)) | exact K.out _ (bl_drew (bal (Below.refl _ _) _)) | exact K.out _ (bst3 (‹Below w1.heap.size w1 _ ∧ _›).1 (Below.refl _ _) _ _ _) | exact K.out _ (bal (‹Below w1.heap.size w1 _ ∧ _›).1 _) | exact K.out _ (bst3 (‹Below w1.heap.size w1 _ ∧ _›).1 (‹Below w1.heap.size w1 _ ∧ _›).1 _ _ _) | exact K.out _ (bst3 (bal (‹Below w1.heap.size w1 _ ∧ _›).1 _) (‹Below w1.heap.size w1 _ ∧ _›).1 _ _ _))
      (first
        | (go_at_call 52; refine (toSetting_c a b c _).mono ?_; rintro e w9 ⟨rfl, hb9⟩; have s9 := K.out _ (bt (‹Below w1.heap.size w1 _ ∧ _›).1 hb9); (try have n9 := heap_below hb9 (lt_of_heap n9) n9); (try have n9 := heap_below hb9 (by simp) (al1_0 _ (.cells #[.int .i8 0, .int .i8 0, .int .i8 0] 51))))
        | (go_at_call 30; refine (toPlacement_c r z _).mono ?_; rintro e w9 ⟨rfl, hb9⟩; have s9 := K.out _ (bt (‹Below w1.heap.size w1 _ ∧ _›).1 hb9); (try have n9 := heap_below hb9 (lt_of_heap n9) n9); (try have n9 := heap_below hb9 (by simp) (al1_0 _ (.cells #[.int .i8 0, .int .i8 0, .int .i8 0] 51))))
        | (go_at_call 50; refine (specSettingFor_c a b c h8 q r z hr hz _).mono ?_; rintro e w9 ⟨rfl, hb9⟩; rw [HV.out]; have s9 := K.out _ (bt (‹Below w1.heap.size w1 _ ∧ _›).1 hb9); (try have n9 := heap_below hb9 (lt_of_heap n9) n9); (try have n9 := heap_below hb9 (by simp) (al1_0 _ (.cells #[.int .i8 0, .int .i8 0, .int .i8 0] 51))); (try (have r0 := blk3_0 n9; have rf0 := blk_f n9 0; have r1 := blk3_1 n9; have rf1 := blk_f n9 1; have r2 := blk3_2 n9; have rf2 := blk_f n9 2))))
    all_goals (go_wp2_with fail; go_meet)
    all_goals with_reducible (first | exact ⟨_, rfl, rfl, al1_0 _ _, bal (‹Below w1.heap.size w1 _ ∧ _›).1 _⟩ | exact ⟨_, rfl, rfl, blk3 (by with_reducible assumption), bst3 (‹Below w1.heap.size w1 _ ∧ _›).1 (‹Below w1.heap.size w1 _ ∧ _›).1 _ _ _⟩ | exact ⟨_, rfl, rfl, blk3 (by with_reducible assumption), bst3 (‹Below w1.heap.size w1 _ ∧ _›).1 (Below.refl _ _) _ _ _⟩)
  case rest =>
    obtain ⟨g, rfl, rfl, G1, L1⟩ := hcut
    have B0 := Lib.hid (heap_below L1 (lt_of_heap B0.out) B0.out)
    have B1 := Lib.hid (heap_below L1 (lt_of_heap B1.out) B1.out)
    have L := Lib.hid (bt L.out L1)
    have G1 := Lib.hid G1
    clear K L1
    generalize wc = w1 at *
    go_upto_region 2 with fail
    have K : Hid (∀ w', Below w1.heap.size w1 w' → (Below w1.heap.size w1 w' ∧ (w'.cell? ⟨w.heap.size, 0, none⟩ = some (.int .i8 a) ∧ w'.cell? ⟨w.heap.size, 1, none⟩ = some (.int .i8 b) ∧ w'.cell? ⟨w.heap.size, 2, none⟩ = some (.int .i8 c)) ∧ (w'.cell? ⟨w.heap.size + 1, 0, none⟩ = some (.int .i8 r) ∧ w'.cell? ⟨w.heap.size + 1, 1, none⟩ = some (.int .i8 z)))) := Lib.hid fun w' hb => by
      have b0 := heap_below hb (lt_of_heap B0.out) B0.out
      have b1 := heap_below hb (lt_of_heap B1.out) B1.out
      exact ⟨hb, ⟨blk3_0 b0, blk3_1 b0, blk3_2 b0⟩, bk2_0 b1, bk2_1 b1⟩
    go_cut [9, 10] (fun s7 s8 wx => ∃ g : Nat, s7 = .pointer (some ⟨g, 0, none⟩) ∧ s8 = .int .i64 k ∧ wx.heap[g]? = some (.cells #[.int .i8 x, .int .i8 y, .int .i8 u] 51 (0, 0)) ∧ Below w1.heap.size w1 wx)
    case first =>
      have s0 := K.out _ (Below.refl _ _)
      go_region_held3 (fun w' => Below w1.heap.size w1 w' ∧ (w'.cell? ⟨w.heap.size, 0, none⟩ = some (.int .i8 a) ∧ w'.cell? ⟨w.heap.size, 1, none⟩ = some (.int .i8 b) ∧ w'.cell? ⟨w.heap.size, 2, none⟩ = some (.int .i8 c)) ∧ (w'.cell? ⟨w.heap.size + 1, 0, none⟩ = some (.int .i8 r) ∧ w'.cell? ⟨w.heap.size + 1, 1, none⟩ = some (.int .i8 z)))
        (first | (with_reducible assumption) | exact K.out _ (bl_drew (Below.refl _ _)) | exact K.out _ (bl_drew (bal (Below.refl _ _) _)) | exact K.out _ (bst3 (‹Below w1.heap.size w1 _ ∧ _›).1 (Below.refl _ _) _ _ _) | exact K.out _ (bal (‹Below w1.heap.size w1 _ ∧ _›).1 _) | exact K.out _ (bst3 (‹Below w1.heap.size w1 _ ∧ _›).1 (‹Below w1.heap.size w1 _ ∧ _›).1 _ _ _) | exact K.out _ (bst3 (bal (‹Below w1.heap.size w1 _ ∧ _›).1 _) (‹Below w1.heap.size w1 _ ∧ _›).1 _ _ _))
        (first
          | (go_at_call 52; refine (toSetting_c a b c _).mono ?_; rintro e w9 ⟨rfl, hb9⟩; have s9 := K.out _ (bt (‹Below w1.heap.size w1 _ ∧ _›).1 hb9); (try have n9 := heap_below hb9 (lt_of_heap n9) n9); (try have n9 := heap_below hb9 (by simp) (al1_0 _ (.cells #[.int .i8 0, .int .i8 0, .int .i8 0] 51))))
          | (go_at_call 30; refine (toPlacement_c r z _).mono ?_; rintro e w9 ⟨rfl, hb9⟩; have s9 := K.out _ (bt (‹Below w1.heap.size w1 _ ∧ _›).1 hb9); (try have n9 := heap_below hb9 (lt_of_heap n9) n9); (try have n9 := heap_below hb9 (by simp) (al1_0 _ (.cells #[.int .i8 0, .int .i8 0, .int .i8 0] 51))))
          | (go_at_call 49; refine (implSettingFor_c a b c h8 q r z hr hz _).mono ?_; rintro e w9 ⟨rfl, hb9⟩; rw [HV.out]; have s9 := K.out _ (bt (‹Below w1.heap.size w1 _ ∧ _›).1 hb9); (try have n9 := heap_below hb9 (lt_of_heap n9) n9); (try have n9 := heap_below hb9 (by simp) (al1_0 _ (.cells #[.int .i8 0, .int .i8 0, .int .i8 0] 51))); (try (have r0 := blk3_0 n9; have rf0 := blk_f n9 0; have r1 := blk3_1 n9; have rf1 := blk_f n9 1; have r2 := blk3_2 n9; have rf2 := blk_f n9 2))))
      all_goals (go_wp2_with fail; go_meet)
      all_goals with_reducible (first | exact ⟨_, rfl, rfl, al1_0 _ _, bal (‹Below w1.heap.size w1 _ ∧ _›).1 _⟩ | exact ⟨_, rfl, rfl, blk3 (by with_reducible assumption), bst3 (‹Below w1.heap.size w1 _ ∧ _›).1 (‹Below w1.heap.size w1 _ ∧ _›).1 _ _ _⟩ | exact ⟨_, rfl, rfl, blk3 (by with_reducible assumption), bst3 (‹Below w1.heap.size w1 _ ∧ _›).1 (Below.refl _ _) _ _ _⟩)
    case rest =>
      obtain ⟨g2, rfl, rfl, G2, L2⟩ := hcut
      have G1 := heap_below L2 (lt_of_heap G1.out) G1.out
      have L := Lib.hid (bt L.out L2)
      have r0 := blk3_0 G1
      have r1 := blk3_1 G1
      have r2 := blk3_2 G1
      have p0 := blk3_0 G2
      have p1 := blk3_1 G2
      have p2 := blk3_2 G2
      clear G1 G2 K L2
      go_wp2_with (first | (go_at_call 53; refine (eqSetting_same x y u _).mono ?_; rintro e w3 ⟨rfl, hb3⟩; have L := Lib.hid (bt L.out hb3)))
      go_ret
      exact ⟨rfl, L.out⟩
end Go.Proofs.Ytejkdiinohndiaa
