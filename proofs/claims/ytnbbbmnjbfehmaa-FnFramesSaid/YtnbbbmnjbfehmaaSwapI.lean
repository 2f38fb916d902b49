/- SwapFrames: the program. -/
import Derived.Test.YtnbbbmnjbfehmaaSwapC
namespace Go.Proofs.Ytnbbbmnjbfehmaa
open Go.RowKit Go.Lib
theorem rowP_at {w : World} {base g cap n : Nat} {l : List (List Int)} (h : RowP w base (.slice (some ⟨g, 0, none⟩) n cap) l) (hl : Prs l) : ∀ i, i < l.length → w.rangeAt g (i * 64) (cellsP (l.getD i [])) := fun i hi => by
  obtain ⟨p, c, hv, hps⟩ := rowP_PS h hl
  simp only [Value.slice.injEq] at hv
  obtain ⟨b, o, hb, _, hat⟩ := hps (by rintro rfl; simp at hi)
  rw [← hv.1] at hb
  simp only [Option.some.injEq, Addr.mk.injEq, and_true] at hb
  obtain ⟨rfl, rfl⟩ := hb
  have := hat i hi
  rwa [Nat.zero_add] at this
theorem rowP_lt {w : World} {base g cap n : Nat} {l : List (List Int)} (h : RowP w base (.slice (some ⟨g, 0, none⟩) n cap) l) : g < w.heap.size := (World.ownsRow.lt h g rfl).2
def swL (l : List (List Int)) (i k : Nat) : List (List Int) := (l.set i (l.getD k [])).set k (l.getD i [])
def swV (a : Int) (l : List (List Int)) (x y : Int) : (Int × List (List Int)) × Int := if scV a l [x, y] = 0 then ((a, swL l x.toNat y.toNat), 0) else ((0, []), scV a l [x, y])
theorem okI_two (n : Nat) (x y : Int) : okI n [x, y] = (inF n x && inF n y) := by simp [okI]
theorem scV_zero2 {a : Int} {l : List (List Int)} {x y : Int} (h : scV a l [x, y] = 0) : shB a l = true ∧ inF l.length x = true ∧ inF l.length y = true := by
  unfold scV at h
  rw [okI_two] at h
  cases h1 : shB a l <;> cases h2 : inF l.length x <;> cases h3 : inF l.length y <;> simp [h1, h2, h3] at h ⊢
theorem setCells_apart {b g : Nat} (h : b ≠ g) : ∀ (vs : List Value) (w : World) (i : Nat), (w.setCells g i vs).heap[b]? = w.heap[b]?
  | [], _, _ => rfl
  | v :: r, _, i => (setCells_apart h r _ (i + 1)).trans (heap_far (a := ⟨g, i, none⟩) v h rfl)
set_option maxHeartbeats 2000000 in
set_option maxRecDepth 100000 in
theorem implSwap_c (a : Int) (ha : -128 ≤ a ∧ a ≤ 127) (g n c : Nat) (l : List (List Int)) (hl : Prs l) (hn : n = l.length) (hm : n ≤ 1048576) (x y : Int) (w : World) (hg : PB w g l) :
    Calls Try.prog 36 #[.agg #[.int .i8 a, .slice (some ⟨g, 0, none⟩) n c], .int .i64 x, .int .i64 y] w fun e w' => ∃ v, e = .returned (.tuple #[.agg #[.int .i8 (swV a l x y).1.1, v], .int .i64 (swV a l x y).2]) ∧ RowP w' w.heap.size v (swV a l x y).1.2 ∧ Below w.heap.size w w' := by
  have HN := Lib.hid hn
  have HP := Lib.hid hl
  have HG := Lib.hid hg
  have K0 := Lib.hid (al2_0 w (.cells #[.int .i8 a, .slice (some ⟨g, 0, none⟩) n c] 30) (.cells #[.int .i8 0, .slice none 0 0] 30))
  have K1 := Lib.hid (al2_1 w (.cells #[.int .i8 a, .slice (some ⟨g, 0, none⟩) n c] 30) (.cells #[.int .i8 0, .slice none 0 0] 30))
  have KB := Lib.hid (bl2 w (.cells #[.int .i8 a, .slice (some ⟨g, 0, none⟩) n c] 30) (.cells #[.int .i8 0, .slice none 0 0] 30))
  clear hl hn hg
  by_cases hc : scV a l [x, y] = 0
  · obtain ⟨hsh, hx, hy⟩ := scV_zero2 hc
    obtain ⟨hx0, hx1⟩ := (inF_iff _ _).1 hx
    obtain ⟨hy0, hy1⟩ := (inF_iff _ _).1 hy
    obtain ⟨i, rfl⟩ := Int.eq_ofNat_of_zero_le hx0
    obtain ⟨k, rfl⟩ := Int.eq_ofNat_of_zero_le hy0
    have HV : Hid (swV a l i k = ((a, swL l i k), 0)) := Lib.hid (by simp [swV, hc])
    have HC := Lib.hid hc
    have hin : i < n := by rw [HN.out]; omega
    have hkn : k < n := by rw [HN.out]; omega
    have hii : (i : Int) < n := by omega
    have hki : (k : Int) < n := by omega
    clear hc hsh hx hy hx0 hx1 hy0 hy1
    go_enter Try.func36, Try.ntmps36
    go_upto_region 1 with fail
    generalize ((w.alloc (.cells #[.int .i8 a, .slice (some ⟨g, 0, none⟩) n c] 30)).alloc (.cells #[.int .i8 0, .slice none 0 0] 30)) = w0 at *
    have c0 := bk2_0 K0.out
    have c1 := bk2_1 K0.out
    go_wp2_with fail
    have HPS : Hid (PS w0 (some ⟨g, 0, none⟩) l) := Lib.hid (pb_PS (pb_below KB.out HG.out))
    refine (sheetCode_c a ha _ n c l HP.out HN.out hm _ 2 2 [(i : Int), (k : Int)] rfl (by omega) _ (PS_below (bl1 _ _) HPS.out) (PI_block (al1_0 _ _))).mono ?_
    rintro e w1 ⟨rfl, hb1⟩
    rw [HC.out]
    have hb1' := bt (bl1 w0 _) hb1
    have K01 := Lib.hid (heap_below hb1' (lt_of_heap K0.out) K0.out)
    have K11 := Lib.hid (heap_below hb1' (lt_of_heap K1.out) K1.out)
    have HB1 := Lib.hid (bt KB.out hb1')
    clear hb1 hb1' c0 c1 K0 K1 KB HPS
    have c0 := bk2_0 K01.out
    have c1 := bk2_1 K01.out
    go_wp2_with fail
    refine (clone_c g n c l HP.out HN.out hm _ (pb_below HB1.out HG.out)).mono ?_
    rintro e w2 ⟨v, rfl, hR, hb2⟩
    obtain ⟨g9, cap, rfl, hg91, hg92⟩ := World.ownsRow.form hR (by have := HN.out; omega)
    rw [← HN.out] at hR ⊢
    have HR := Lib.hid hR
    have K02 := Lib.hid (heap_below hb2 (lt_of_heap K01.out) K01.out)
    have K12 := Lib.hid (heap_below hb2 (lt_of_heap K11.out) K11.out)
    have L2 : Hid (w.heap.size + 1 < w1.heap.size) := Lib.hid (lt_of_heap K11.out)
    have L1 : Hid (w.heap.size + 1 < g9) := Lib.hid (Nat.lt_of_lt_of_le (lt_of_heap K11.out) hg91)
    have HB2 := Lib.hid (bt HB1.out hb2)
    clear hb2 hR c0 c1 K01 K11 HB1 hg91 hg92
    go_upto_region 5 with fail
    obtain ⟨qi, hqi⟩ : ∃ q, q = l.getD i [] := ⟨_, rfl⟩
    obtain ⟨qk, hqk⟩ : ∃ q, q = l.getD k [] := ⟨_, rfl⟩
    have HPi : Hid (Pr qi) := Lib.hid (by rw [hqi]; exact HP.out i (by rw [← HN.out]; exact hin))
    have HPk : Hid (Pr qk) := Lib.hid (by rw [hqk]; exact HP.out k (by rw [← HN.out]; exact hkn))
    have hPS := rowP_at HR.out HP.out
    have hu := Try.underlying45
    have hi1 : (Try.prog.info? 45).map (·.size) = some (cellsP qi).length := by rw [szPrint, cellsP_length, HPi.out.1]
    have hi2 : (Try.prog.info? 45).map (·.size) = some (cellsP qk).length := by rw [szPrint, cellsP_length, HPk.out.1]
    have hl1 : (cellsP qi).length = 64 := by rw [cellsP_length, HPi.out.1]
    have hl2 : (cellsP qk).length = 64 := by rw [cellsP_length, HPk.out.1]
    have ho1 : ∀ v ∈ cellsP qi, v.oneCell' = true := cellsP_one qi
    have ho2 : ∀ v ∈ cellsP qk, v.oneCell' = true := cellsP_one qk
    have r1 : w2.drew.rangeAt g9 (k * 64) (cellsP qk) := by rw [hqk]; exact rangeAt_below (bl_drew (Below.refl _ w2)) (rowP_lt HR.out) (hPS k (by rw [← HN.out]; exact hkn))
    have r2 : w2.drew.rangeAt g9 (i * 64) (cellsP qi) := by rw [hqi]; exact rangeAt_below (bl_drew (Below.refl _ w2)) (rowP_lt HR.out) (hPS i (by rw [← HN.out]; exact hin))
    have t1 : w2.drew.there g9 (k * 64) 64 := rowP_there (rowP_below HR.out (bl_drew (Below.refl _ w2))) k (by rw [← HN.out]; exact hkn)
    have t2 : w2.drew.there g9 (i * 64) 64 := rowP_there (rowP_below HR.out (bl_drew (Below.refl _ w2))) i (by rw [← HN.out]; exact hin)
    have HQi := Lib.hid hqi
    have HQk := Lib.hid hqk
    clear hPS hqi hqk
    refine wp_region_noPanic ?_
    refine wp_region_held_drew (S := (fun w' => w'.there g9 (k * 64) 64 ∧ w'.there g9 (i * 64) 64)) (by kernel_rfl) ⟨t1, t2⟩ (fun hHeld => ?_)
    refine wpAnyH_take (i := 0) (oi := { dst := some 22, op := Op.move (Operand.tmp 9), type := 28, pos := "l07_sheets.go:78", after := #[], guard := none }) (v := .slice (some ⟨g9, 0, none⟩) n cap) rfl (by kernel_rfl) (by kernel_rfl) (by kernel_rfl) (fun _ _ _ h => h) (Or.inl ⟨by rfl, fun w1 hSw => by go_simp⟩) (by assumption) ?_
    simp only [Act.put, List.setIfInBounds_toArray]
    refine wpAnyH_take (i := 1) (oi := { dst := some 23, op := Op.move (Operand.tmp 1), type := 2, pos := "l07_sheets.go:78", after := #[], guard := none }) (v := .int .i64 i) rfl (by kernel_rfl) (by kernel_rfl) (by kernel_rfl) (fun _ _ _ h => h) (Or.inl ⟨by rfl, fun w1 hSw => by go_simp⟩) (by assumption) ?_
    simp only [Act.put, List.setIfInBounds_toArray]
    refine wpAnyH_take (i := 2) (oi := { dst := some 24, op := Op.move (Operand.tmp 9), type := 28, pos := "l07_sheets.go:78", after := #[{ on := 13, ground := Ground.gcOnly Departure.lateStores }], guard := none }) (v := .slice (some ⟨g9, 0, none⟩) n cap) rfl (by kernel_rfl) (by kernel_rfl) (by kernel_rfl) (fun _ _ _ h => h) (Or.inl ⟨by rfl, fun w1 hSw => by go_simp⟩) (by assumption) ?_
    simp only [Act.put, List.setIfInBounds_toArray]
    refine wpAnyH_take (i := 3) (oi := { dst := some 25, op := Op.move (Operand.tmp 2), type := 2, pos := "l07_sheets.go:78", after := #[{ on := 13, ground := Ground.gcOnly Departure.lateStores }], guard := none }) (v := .int .i64 k) rfl (by kernel_rfl) (by kernel_rfl) (by kernel_rfl) (fun _ _ _ h => h) (Or.inl ⟨by rfl, fun w1 hSw => by go_simp⟩) (by assumption) ?_
    simp only [Act.put, List.setIfInBounds_toArray]
    refine wpAnyH_take (i := 4) (oi := { dst := some 26, op := Op.move (Operand.tmp 9), type := 28, pos := "l07_sheets.go:78", after := #[], guard := none }) (v := .slice (some ⟨g9, 0, none⟩) n cap) rfl (by kernel_rfl) (by kernel_rfl) (by kernel_rfl) (fun _ _ _ h => h) (Or.inl ⟨by rfl, fun w1 hSw => by go_simp⟩) (by assumption) ?_
    simp only [Act.put, List.setIfInBounds_toArray]
    refine wpAnyH_take (i := 5) (oi := { dst := some 27, op := Op.move (Operand.tmp 2), type := 2, pos := "l07_sheets.go:78", after := #[], guard := none }) (v := .int .i64 k) rfl (by kernel_rfl) (by kernel_rfl) (by kernel_rfl) (fun _ _ _ h => h) (Or.inl ⟨by rfl, fun w1 hSw => by go_simp⟩) (by assumption) ?_
    simp only [Act.put, List.setIfInBounds_toArray]
    refine wpAnyH_take (i := 6) (oi := { dst := some 28, op := Op.indexAddr 28 (Operand.tmp 26) (Operand.tmp 27), type := 0, pos := "l07_sheets.go:78", after := #[{ on := 4, ground := Ground.data }, { on := 5, ground := Ground.data }], guard := none }) (v := .pointer (some ⟨g9, k * 64, none⟩)) rfl (by kernel_rfl) (by kernel_rfl) (by kernel_rfl) (fun _ _ _ h => h) (Or.inl ⟨by rfl, fun w1 hSw => by go_simp⟩) (by assumption) ?_
    simp only [Act.put, List.setIfInBounds_toArray]
    refine wpAnyH_take (i := 8) (oi := { dst := some 30, op := Op.move (Operand.tmp 9), type := 28, pos := "l07_sheets.go:78", after := #[], guard := none }) (v := .slice (some ⟨g9, 0, none⟩) n cap) rfl (by kernel_rfl) (by kernel_rfl) (by kernel_rfl) (fun _ _ _ h => h) (Or.inl ⟨by rfl, fun w1 hSw => by go_simp⟩) (by assumption) ?_
    simp only [Act.put, List.setIfInBounds_toArray]
    refine wpAnyH_take (i := 9) (oi := { dst := some 31, op := Op.move (Operand.tmp 1), type := 2, pos := "l07_sheets.go:78", after := #[], guard := none }) (v := .int .i64 i) rfl (by kernel_rfl) (by kernel_rfl) (by kernel_rfl) (fun _ _ _ h => h) (Or.inl ⟨by rfl, fun w1 hSw => by go_simp⟩) (by assumption) ?_
    simp only [Act.put, List.setIfInBounds_toArray]
    refine wpAnyH_take (i := 10) (oi := { dst := some 32, op := Op.indexAddr 28 (Operand.tmp 30) (Operand.tmp 31), type := 0, pos := "l07_sheets.go:78", after := #[{ on := 8, ground := Ground.data }, { on := 9, ground := Ground.data }], guard := none }) (v := .pointer (some ⟨g9, i * 64, none⟩)) rfl (by kernel_rfl) (by kernel_rfl) (by kernel_rfl) (fun _ _ _ h => h) (Or.inl ⟨by rfl, fun w1 hSw => by go_simp⟩) (by assumption) ?_
    simp only [Act.put, List.setIfInBounds_toArray]
    simp only [List.set]
    refine wpAnyH_ready (rs := [7, 11]) (by kernel_rfl) (by simp) ?_
    refine AllReadyH.cons (o := { dst := some 29, op := Op.load 45 (Operand.tmp 28), type := 45, pos := "l07_sheets.go:78", after := #[{ on := 6, ground := Ground.data }], guard := none }) rfl (fun K hK => ?_) (AllReadyH.cons (o := { dst := some 33, op := Op.load 45 (Operand.tmp 32), type := 45, pos := "l07_sheets.go:78", after := #[{ on := 10, ground := Ground.data }], guard := none }) rfl (fun K hK => ?_) AllReadyH.nil)
    · rw [if_pos (by rfl)]
      refine wp_load_mid 45 (.tmp 28) rfl g9 (k * 64) rfl (cellsP qk) _ r1 hu rfl hi2 ?_
      refine hK.out _ _ ⟨t1, t2⟩ (fun hHeld => ?_)
      clear hK K
      simp only [Act.put, List.setIfInBounds_toArray, List.set]
      refine wpAnyH_ready (rs := [11]) (by kernel_rfl) (by simp) ?_
      refine AllReadyH.cons (o := { dst := some 33, op := Op.load 45 (Operand.tmp 32), type := 45, pos := "l07_sheets.go:78", after := #[{ on := 10, ground := Ground.data }], guard := none }) rfl (fun K hK => ?_) AllReadyH.nil
      rw [if_pos (by rfl)]
      refine wp_load_mid 45 (.tmp 32) rfl g9 (i * 64) rfl (cellsP qi) _ r2 hu rfl hi1 ?_
      refine hK.out _ _ ⟨t1, t2⟩ (fun hHeld => ?_)
      clear hK K
      simp only [Act.put, List.setIfInBounds_toArray, List.set]
      refine wpAnyH_take (i := 12) (oi := { dst := some 34, op := Op.indexAddr 28 (Operand.tmp 22) (Operand.tmp 23), type := 0, pos := "l07_sheets.go:78", after := #[{ on := 0, ground := Ground.data }, { on := 1, ground := Ground.data }, { on := 0, ground := Ground.phase }, { on := 1, ground := Ground.phase }, { on := 2, ground := Ground.textOnly Departure.lateStores }, { on := 3, ground := Ground.textOnly Departure.lateStores }, { on := 4, ground := Ground.phase }, { on := 5, ground := Ground.phase }, { on := 6, ground := Ground.phase }, { on := 7, ground := Ground.phase }, { on := 8, ground := Ground.textOnly Departure.lateStores }, { on := 9, ground := Ground.textOnly Departure.lateStores }, { on := 10, ground := Ground.textOnly Departure.lateStoresUnsure }, { on := 11, ground := Ground.phase }], guard := none }) (v := .pointer (some ⟨g9, i * 64, none⟩)) rfl (by kernel_rfl) (by kernel_rfl) (by kernel_rfl) (fun _ _ _ h => h) (Or.inl ⟨by rfl, fun w1 hSw => by go_simp⟩) (by assumption) ?_
      simp only [Act.put, List.setIfInBounds_toArray, List.set]
      refine wpAnyH_ready (rs := [13]) (by kernel_rfl) (by simp) ?_
      refine AllReadyH.cons (o := { dst := none, op := Op.store 45 (Operand.tmp 34) (Operand.tmp 29), type := 0, pos := "l07_sheets.go:78", after := #[{ on := 12, ground := Ground.data }, { on := 7, ground := Ground.data }, { on := 0, ground := Ground.phase }, { on := 1, ground := Ground.phase }, { on := 2, ground := Ground.textOnly Departure.lateStores }, { on := 3, ground := Ground.textOnly Departure.lateStores }, { on := 4, ground := Ground.phase }, { on := 5, ground := Ground.phase }, { on := 6, ground := Ground.phase }, { on := 7, ground := Ground.phase }, { on := 8, ground := Ground.textOnly Departure.lateStores }, { on := 9, ground := Ground.textOnly Departure.lateStores }, { on := 10, ground := Ground.textOnly Departure.lateStoresUnsure }, { on := 11, ground := Ground.phase }], guard := none }) rfl (fun K hK => ?_) AllReadyH.nil
      rw [if_pos (by rfl)]
      refine wp_store_mid 45 (.tmp 34) (.tmp 29) rfl g9 (i * 64) (cellsP qk).toArray rfl rfl (by rw [List.size_toArray, hl2]; exact t2) (by rw [List.size_toArray]; exact hi2) (all_oneCell_toArray ho2) ?_
      refine hK.out _ _ ⟨World.there_setCells t1 _ _ _, World.there_setCells t2 _ _ _⟩ (fun hHeld => ?_)
      clear hK K
      refine wpAnyH_take (i := 14) (oi := { dst := some 35, op := Op.indexAddr 28 (Operand.tmp 24) (Operand.tmp 25), type := 0, pos := "l07_sheets.go:78", after := #[{ on := 2, ground := Ground.data }, { on := 3, ground := Ground.data }, { on := 0, ground := Ground.phase }, { on := 1, ground := Ground.phase }, { on := 2, ground := Ground.phase }, { on := 3, ground := Ground.phase }, { on := 4, ground := Ground.phase }, { on := 5, ground := Ground.phase }, { on := 6, ground := Ground.phase }, { on := 7, ground := Ground.phase }, { on := 8, ground := Ground.phase }, { on := 9, ground := Ground.phase }, { on := 10, ground := Ground.phase }, { on := 11, ground := Ground.phase }, { on := 12, ground := Ground.phase }, { on := 13, ground := Ground.phase }], guard := none }) (v := .pointer (some ⟨g9, k * 64, none⟩)) rfl (by kernel_rfl) (by kernel_rfl) (by kernel_rfl) (fun _ _ _ h => h) (Or.inl ⟨by rfl, fun w1 hSw => by go_simp⟩) (by assumption) ?_
      simp only [Act.put, List.setIfInBounds_toArray, List.set]
      refine wpAnyH_ready (rs := [15]) (by kernel_rfl) (by simp) ?_
      refine AllReadyH.cons (o := { dst := none, op := Op.store 45 (Operand.tmp 35) (Operand.tmp 33), type := 0, pos := "l07_sheets.go:78", after := #[{ on := 14, ground := Ground.data }, { on := 11, ground := Ground.data }, { on := 13, ground := Ground.chain }, { on := 0, ground := Ground.phase }, { on := 1, ground := Ground.phase }, { on := 2, ground := Ground.phase }, { on := 3, ground := Ground.phase }, { on := 4, ground := Ground.phase }, { on := 5, ground := Ground.phase }, { on := 6, ground := Ground.phase }, { on := 7, ground := Ground.phase }, { on := 8, ground := Ground.phase }, { on := 9, ground := Ground.phase }, { on := 10, ground := Ground.phase }, { on := 11, ground := Ground.phase }, { on := 12, ground := Ground.phase }, { on := 13, ground := Ground.phase }], guard := none }) rfl (fun K hK => ?_) AllReadyH.nil
      rw [if_pos (by rfl)]
      refine wp_store_mid 45 (.tmp 35) (.tmp 33) rfl g9 (k * 64) (cellsP qi).toArray rfl rfl (by rw [List.size_toArray, hl1]; exact World.there_setCells t1 _ _ _) (by rw [List.size_toArray]; exact hi1) (all_oneCell_toArray ho1) ?_
      refine hK.out _ _ ⟨World.there_setCells (World.there_setCells t1 _ _ _) _ _ _, World.there_setCells (World.there_setCells t2 _ _ _) _ _ _⟩ (fun hHeld => ?_)
      clear hK K
      refine wpAnyH_done (by kernel_rfl) ?_ _
      refine NoPanic.normal ?_
      have HRs := Lib.hid (rowP_set (rowP_set (rowP_below HR.out (bl_drew (Below.refl _ w2))) HP.out (by rw [← HN.out]; exact hin) HPk.out.1) (Prs_set i HP.out HPk.out) (by rw [List.length_set, ← HN.out]; exact hkn) HPi.out.1)
      have HBs := Lib.hid (bsc (g := g9) (by have := L1.out; omega) (cellsP qi) _ (k * 64) (bsc (g := g9) (by have := L1.out; omega) (cellsP qk) _ (i * 64) (bl_drew HB2.out)))
      have K0s := Lib.hid (((setCells_apart (g := g9) (by have := L1.out; omega) (cellsP qi) (w2.drew.setCells g9 (i * 64) (cellsP qk)) (k * 64)).trans (setCells_apart (g := g9) (by have := L1.out; omega) (cellsP qk) w2.drew (i * 64))).trans K02.out)
      have K1s := Lib.hid (((setCells_apart (g := g9) (by have := L1.out; omega) (cellsP qi) (w2.drew.setCells g9 (i * 64) (cellsP qk)) (k * 64)).trans (setCells_apart (g := g9) (by have := L1.out; omega) (cellsP qk) w2.drew (i * 64))).trans K12.out)
      have HSw : Hid ((l.set i qk).set k qi = swL l i k) := Lib.hid (by rw [swL, HQi.out, HQk.out])
      simp only
      generalize (w2.drew.setCells g9 (i * 64) (cellsP qk)).setCells g9 (k * 64) (cellsP qi) = wF at *
      have c0 := bk2_0 K0s.out
      have c1 := bk2_1 K0s.out
      have d0 := bk2_0 K1s.out
      have d1 := bk2_1 K1s.out
      have f0 := blk_f K1s.out 0
      have f1 := blk_f K1s.out 1
      have L3 : Hid (w.heap.size ≤ w1.heap.size) := Lib.hid (by have := L2.out; omega)
      clear hHeld t1 t2 r1 r2 hu hi1 hi2 hl1 hl2 ho1 ho2
      go_wp2
      exact bodyPost_ret (results_ct rfl _ _ _ 30 _ _ _ rfl (bk2 K1s.out) Try.underlying30 rfl szSheetI) rfl ⟨_, by rw [HV.out] <;> rfl, by rw [HV.out, ← HSw.out]; exact rowP_mono (rowP_far (rowP_far HRs.out L2.out _) L2.out _) L3.out, below2 HBs.out (Nat.le_succ _) _ _⟩
    · rw [if_pos (by rfl)]
      refine wp_load_mid 45 (.tmp 32) rfl g9 (i * 64) rfl (cellsP qi) _ r2 hu rfl hi1 ?_
      refine hK.out _ _ ⟨t1, t2⟩ (fun hHeld => ?_)
      clear hK K
      simp only [Act.put, List.setIfInBounds_toArray, List.set]
      refine wpAnyH_ready (rs := [7]) (by kernel_rfl) (by simp) ?_
      refine AllReadyH.cons (o := { dst := some 29, op := Op.load 45 (Operand.tmp 28), type := 45, pos := "l07_sheets.go:78", after := #[{ on := 6, ground := Ground.data }], guard := none }) rfl (fun K hK => ?_) AllReadyH.nil
      rw [if_pos (by rfl)]
      refine wp_load_mid 45 (.tmp 28) rfl g9 (k * 64) rfl (cellsP qk) _ r1 hu rfl hi2 ?_
      refine hK.out _ _ ⟨t1, t2⟩ (fun hHeld => ?_)
      clear hK K
      simp only [Act.put, List.setIfInBounds_toArray, List.set]
      refine wpAnyH_take (i := 12) (oi := { dst := some 34, op := Op.indexAddr 28 (Operand.tmp 22) (Operand.tmp 23), type := 0, pos := "l07_sheets.go:78", after := #[{ on := 0, ground := Ground.data }, { on := 1, ground := Ground.data }, { on := 0, ground := Ground.phase }, { on := 1, ground := Ground.phase }, { on := 2, ground := Ground.textOnly Departure.lateStores }, { on := 3, ground := Ground.textOnly Departure.lateStores }, { on := 4, ground := Ground.phase }, { on := 5, ground := Ground.phase }, { on := 6, ground := Ground.phase }, { on := 7, ground := Ground.phase }, { on := 8, ground := Ground.textOnly Departure.lateStores }, { on := 9, ground := Ground.textOnly Departure.lateStores }, { on := 10, ground := Ground.textOnly Departure.lateStoresUnsure }, { on := 11, ground := Ground.phase }], guard := none }) (v := .pointer (some ⟨g9, i * 64, none⟩)) rfl (by kernel_rfl) (by kernel_rfl) (by kernel_rfl) (fun _ _ _ h => h) (Or.inl ⟨by rfl, fun w1 hSw => by go_simp⟩) (by assumption) ?_
      simp only [Act.put, List.setIfInBounds_toArray, List.set]
      refine wpAnyH_ready (rs := [13]) (by kernel_rfl) (by simp) ?_
      refine AllReadyH.cons (o := { dst := none, op := Op.store 45 (Operand.tmp 34) (Operand.tmp 29), type := 0, pos := "l07_sheets.go:78", after := #[{ on := 12, ground := Ground.data }, { on := 7, ground := Ground.data }, { on := 0, ground := Ground.phase }, { on := 1, ground := Ground.phase }, { on := 2, ground := Ground.textOnly Departure.lateStores }, { on := 3, ground := Ground.textOnly Departure.lateStores }, { on := 4, ground := Ground.phase }, { on := 5, ground := Ground.phase }, { on := 6, ground := Ground.phase }, { on := 7, ground := Ground.phase }, { on := 8, ground := Ground.textOnly Departure.lateStores }, { on := 9, ground := Ground.textOnly Departure.lateStores }, { on := 10, ground := Ground.textOnly Departure.lateStoresUnsure }, { on := 11, ground := Ground.phase }], guard := none }) rfl (fun K hK => ?_) AllReadyH.nil
      rw [if_pos (by rfl)]
      refine wp_store_mid 45 (.tmp 34) (.tmp 29) rfl g9 (i * 64) (cellsP qk).toArray rfl rfl (by rw [List.size_toArray, hl2]; exact t2) (by rw [List.size_toArray]; exact hi2) (all_oneCell_toArray ho2) ?_
      refine hK.out _ _ ⟨World.there_setCells t1 _ _ _, World.there_setCells t2 _ _ _⟩ (fun hHeld => ?_)
      clear hK K
      refine wpAnyH_take (i := 14) (oi := { dst := some 35, op := Op.indexAddr 28 (Operand.tmp 24) (Operand.tmp 25), type := 0, pos := "l07_sheets.go:78", after := #[{ on := 2, ground := Ground.data }, { on := 3, ground := Ground.data }, { on := 0, ground := Ground.phase }, { on := 1, ground := Ground.phase }, { on := 2, ground := Ground.phase }, { on := 3, ground := Ground.phase }, { on := 4, ground := Ground.phase }, { on := 5, ground := Ground.phase }, { on := 6, ground := Ground.phase }, { on := 7, ground := Ground.phase }, { on := 8, ground := Ground.phase }, { on := 9, ground := Ground.phase }, { on := 10, ground := Ground.phase }, { on := 11, ground := Ground.phase }, { on := 12, ground := Ground.phase }, { on := 13, ground := Ground.phase }], guard := none }) (v := .pointer (some ⟨g9, k * 64, none⟩)) rfl (by kernel_rfl) (by kernel_rfl) (by kernel_rfl) (fun _ _ _ h => h) (Or.inl ⟨by rfl, fun w1 hSw => by go_simp⟩) (by assumption) ?_
      simp only [Act.put, List.setIfInBounds_toArray, List.set]
      refine wpAnyH_ready (rs := [15]) (by kernel_rfl) (by simp) ?_
      refine AllReadyH.cons (o := { dst := none, op := Op.store 45 (Operand.tmp 35) (Operand.tmp 33), type := 0, pos := "l07_sheets.go:78", after := #[{ on := 14, ground := Ground.data }, { on := 11, ground := Ground.data }, { on := 13, ground := Ground.chain }, { on := 0, ground := Ground.phase }, { on := 1, ground := Ground.phase }, { on := 2, ground := Ground.phase }, { on := 3, ground := Ground.phase }, { on := 4, ground := Ground.phase }, { on := 5, ground := Ground.phase }, { on := 6, ground := Ground.phase }, { on := 7, ground := Ground.phase }, { on := 8, ground := Ground.phase }, { on := 9, ground := Ground.phase }, { on := 10, ground := Ground.phase }, { on := 11, ground := Ground.phase }, { on := 12, ground := Ground.phase }, { on := 13, ground := Ground.phase }], guard := none }) rfl (fun K hK => ?_) AllReadyH.nil
      rw [if_pos (by rfl)]
      refine wp_store_mid 45 (.tmp 35) (.tmp 33) rfl g9 (k * 64) (cellsP qi).toArray rfl rfl (by rw [List.size_toArray, hl1]; exact World.there_setCells t1 _ _ _) (by rw [List.size_toArray]; exact hi1) (all_oneCell_toArray ho1) ?_
      refine hK.out _ _ ⟨World.there_setCells (World.there_setCells t1 _ _ _) _ _ _, World.there_setCells (World.there_setCells t2 _ _ _) _ _ _⟩ (fun hHeld => ?_)
      clear hK K
      refine wpAnyH_done (by kernel_rfl) ?_ _
      refine NoPanic.normal ?_
      have HRs := Lib.hid (rowP_set (rowP_set (rowP_below HR.out (bl_drew (Below.refl _ w2))) HP.out (by rw [← HN.out]; exact hin) HPk.out.1) (Prs_set i HP.out HPk.out) (by rw [List.length_set, ← HN.out]; exact hkn) HPi.out.1)
      have HBs := Lib.hid (bsc (g := g9) (by have := L1.out; omega) (cellsP qi) _ (k * 64) (bsc (g := g9) (by have := L1.out; omega) (cellsP qk) _ (i * 64) (bl_drew HB2.out)))
      have K0s := Lib.hid (((setCells_apart (g := g9) (by have := L1.out; omega) (cellsP qi) (w2.drew.setCells g9 (i * 64) (cellsP qk)) (k * 64)).trans (setCells_apart (g := g9) (by have := L1.out; omega) (cellsP qk) w2.drew (i * 64))).trans K02.out)
      have K1s := Lib.hid (((setCells_apart (g := g9) (by have := L1.out; omega) (cellsP qi) (w2.drew.setCells g9 (i * 64) (cellsP qk)) (k * 64)).trans (setCells_apart (g := g9) (by have := L1.out; omega) (cellsP qk) w2.drew (i * 64))).trans K12.out)
      have HSw : Hid ((l.set i qk).set k qi = swL l i k) := Lib.hid (by rw [swL, HQi.out, HQk.out])
      simp only
      generalize (w2.drew.setCells g9 (i * 64) (cellsP qk)).setCells g9 (k * 64) (cellsP qi) = wF at *
      have c0 := bk2_0 K0s.out
      have c1 := bk2_1 K0s.out
      have d0 := bk2_0 K1s.out
      have d1 := bk2_1 K1s.out
      have f0 := blk_f K1s.out 0
      have f1 := blk_f K1s.out 1
      have L3 : Hid (w.heap.size ≤ w1.heap.size) := Lib.hid (by have := L2.out; omega)
      clear hHeld t1 t2 r1 r2 hu hi1 hi2 hl1 hl2 ho1 ho2
      go_wp2
      exact bodyPost_ret (results_ct rfl _ _ _ 30 _ _ _ rfl (bk2 K1s.out) Try.underlying30 rfl szSheetI) rfl ⟨_, by rw [HV.out] <;> rfl, by rw [HV.out, ← HSw.out]; exact rowP_mono (rowP_far (rowP_far HRs.out L2.out _) L2.out _) L3.out, below2 HBs.out (Nat.le_succ _) _ _⟩
  · obtain ⟨CC, hCC⟩ : ∃ CC, CC = scV a l [x, y] := ⟨_, rfl⟩
    have HV : Hid (swV a l x y = ((0, []), CC)) := Lib.hid (by simp [swV, hc, hCC])
    have HC := Lib.hid hCC.symm
    rw [← hCC] at hc
    have hcd : (CC != 0) = true := by rw [bne_iff_ne]; exact hc
    clear hCC
    go_enter Try.func36, Try.ntmps36
    go_upto_region 1 with fail
    generalize ((w.alloc (.cells #[.int .i8 a, .slice (some ⟨g, 0, none⟩) n c] 30)).alloc (.cells #[.int .i8 0, .slice none 0 0] 30)) = w0 at *
    have c0 := bk2_0 K0.out
    have c1 := bk2_1 K0.out
    go_wp2_with fail
    have HPS : Hid (PS w0 (some ⟨g, 0, none⟩) l) := Lib.hid (pb_PS (pb_below KB.out HG.out))
    refine (sheetCode_c a ha _ n c l HP.out HN.out hm _ 2 2 [x, y] rfl (by omega) _ (PS_below (bl1 _ _) HPS.out) (PI_block (al1_0 _ _))).mono ?_
    rintro e w1 ⟨rfl, hb1⟩
    rw [HC.out]
    have hb1' := bt (bl1 w0 _) hb1
    have K11 := Lib.hid (heap_below hb1' (lt_of_heap K1.out) K1.out)
    have HB1 := Lib.hid (bt KB.out hb1')
    clear hb1 hb1' c0 c1 K0 K1 KB
    have d0 := bk2_0 K11.out
    have d1 := bk2_1 K11.out
    have f0 := blk_f K11.out 0
    have f1 := blk_f K11.out 1
    go_wp2
    exact bodyPost_ret (results_ct rfl _ _ _ 30 _ _ _ rfl (bk2 K11.out) Try.underlying30 rfl szSheetI) rfl ⟨.slice none 0 0, by rw [HV.out]; rfl, by rw [HV.out]; exact rowP_nil _ _, below2 HB1.out (Nat.le_succ _) _ _⟩
end Go.Proofs.Ytnbbbmnjbfehmaa
