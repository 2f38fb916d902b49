/- Lists of curves that are marked. -/
import Derived.Test.YtcdndjimfmpifaaCrvC
import Derived.Test.YtcdndjimfmpifaaOnlyB
import Derived.Test.YtcdndjimfmpifaaRow
namespace Go.Proofs.Ytcdndjimfmpifaa
open Go.RowKit Go.Lib
/-- A block of points that may be written. -/
def Wr (w : World) (r m : Nat) : Prop := ∃ cur : Array Value, w.heap[r]? = some (.cells cur 78 (0, 0)) ∧ m * 2 ≤ cur.size
theorem wr_below {w w1 : World} {r m : Nat} (hb : Below w.heap.size w w1) (h : Wr w r m) : Wr w1 r m := by
  obtain ⟨cur, h1, h2⟩ := h
  exact ⟨cur, heap_below hb (lt_of_heap h1) h1, h2⟩
theorem wr_far {w : World} {g r m : Nat} (h : Wr w r m) (hne : r ≠ g) (i : Nat) (v : Value) : Wr (w.setCell ⟨g, i, none⟩ v) r m := by
  obtain ⟨cur, h1, h2⟩ := h
  exact ⟨cur, heap_far v hne h1, h2⟩
theorem wr_set {w : World} {r m : Nat} (g : Nat) (h : Wr w r m) (i : Nat) (v : Value) : Wr (w.setCell ⟨g, i, none⟩ v) r m := by
  by_cases e : r = g
  · subst e
    obtain ⟨cur, h1, h2⟩ := h
    exact ⟨_, heap_setCell_same _ _ _ _ _ _ h1, by simpa using h2⟩
  · exact wr_far h e i v
theorem wr_cell {w : World} {r m i : Nat} (h : Wr w r m) (hi : i < m * 2) : ∃ u, w.cell? ⟨r, i, none⟩ = some u := by
  obtain ⟨cur, h1, h2⟩ := h
  exact ⟨cur[i], by rw [cell_of_row w r i _ _ _ h1]; exact Array.getElem?_eq_getElem (by omega)⟩
theorem wr_frz {w : World} {r m : Nat} (h : Wr w r m) (i : Nat) : w.frozen? ⟨r, i, none⟩ = false := by
  obtain ⟨cur, h1, _⟩ := h
  exact frozen_of_row _ _ _ _ _ h1
set_option maxHeartbeats 400000 in
theorem markCurve_c (r n c : Nat) (k0 : Int) (hk0 : 0 ≤ k0 ∧ k0 ≤ 1125899906842624) (hm : n ≤ 1048576) (w : World) (h : Wr w r n) :
    Calls Try.prog 47 #[.slice (some ⟨r, 0, none⟩) n c, .int .i64 k0] w fun e w' => e = .returned (.int .i64 (k0 + 2 * n)) ∧ (∀ b m, Wr w b m → Wr w' b m) ∧ Only r w w' := by
  obtain ⟨k1, k2⟩ := hk0
  have HW := Lib.hid h
  clear h
  go_enter Try.func47, Try.ntmps47
  go_wp2_with fail
  go_loopw [1, 5] (fun a i wr => ∃ j : Nat, j ≤ n ∧ i = .int .i64 j ∧ a = .int .i64 (k0 + 2 * j) ∧ (∀ b m, Wr w b m → Wr wr b m) ∧ Only r w wr) (fun _ i _ => n - (intOf i).toNat)
  case atStart => exact ⟨0, Nat.zero_le _, rfl, by simp, fun _ _ h => h, only_refl _ _⟩
  case round =>
    obtain ⟨j, hj, rfl, rfl, hwr, hO⟩ := hrel
    have HWR := Lib.hid hwr
    have HO := Lib.hid hO
    clear hwr hO
    obtain ⟨K, hK⟩ : ∃ K : Int, K = k0 + 2 * j := ⟨_, rfl⟩
    rw [← hK]
    by_cases hlt : j < n
    · have hji : (j : Int) < n := by omega
      obtain ⟨u0, c0⟩ := wr_cell (HWR.out _ _ HW.out) (i := j * 2) (by omega)
      obtain ⟨u1, c1⟩ := wr_cell (HWR.out _ _ HW.out) (i := j * 2 + 1) (by omega)
      have f0 := wr_frz (HWR.out _ _ HW.out) (j * 2)
      have f1 := wr_frz (HWR.out _ _ HW.out) (j * 2 + 1)
      have w1 := Go.IntWalk.i64_in (K + 1) (by omega)
      have w2 := Go.IntWalk.i64_in (K + 1 + 1) (by omega)
      have HK := Lib.hid hK
      clear hK
      go_wp2
      go_roundw
      case rel => exact ⟨j + 1, by omega, by go_num, by rw [HK.out]; congr 1; omega, fun b m h => wr_set _ (wr_set _ (HWR.out b m h) _ _) _ _, only_set (only_set HO.out _ _) _ _⟩
      case measure => simp [intOf]; omega
    · have hji : ¬ (j : Int) < n := by omega
      have hE : Hid (K = k0 + 2 * n) := Lib.hid (by omega)
      clear hK
      go_wp2
      go_ret
      exact ⟨ret_int hE.out, HWR.out, HO.out⟩
set_option maxHeartbeats 400000 in
theorem toCurveW_c (p : Option Addr) (n c : Nat) (q : Cv) (hn : n = q.length) (hm : n ≤ 1048576) (w : World) (hp : CvS w p q) :
    Calls Try.prog 36 #[.slice p n c] w fun e w' => e = .returned (.slice (some ⟨w.heap.size, 0, none⟩) n n) ∧ CvS w' (some ⟨w.heap.size, 0, none⟩) q ∧ Wr w' w.heap.size n ∧ Below w.heap.size w w' := by
  obtain ⟨cur, hsz, hmk⟩ := makePoints n hm w
  have HN := Lib.hid hn
  have HA := Lib.hid hp
  have HZ : Hid (partC cur q 0) := Lib.hid ⟨by rw [hsz, hn], fun i hi => absurd hi (Nat.not_lt_zero _)⟩
  clear hn hp hsz
  go_enter Try.func36, Try.ntmps36
  go_wp2
  clear hmk
  go_loopw [4] (fun i wr => ∃ k : Nat, k ≤ n ∧ i = .int .i64 k ∧ (∃ cur, partC cur q k ∧ wr.heap[w.heap.size]? = some (.cells cur 78 (0, 0))) ∧ Below w.heap.size w wr) (fun i _ => n - (intOf i).toNat)
  case atStart => exact ⟨0, Nat.zero_le _, rfl, ⟨cur, HZ.out, al1_0 _ _⟩, bl1 _ _⟩
  case round =>
    clear HZ
    obtain ⟨k, hk, rfl, ⟨cur, hpc, hA⟩, hW⟩ := hrel
    have HA1 := Lib.hid hA
    have HW := Lib.hid hW
    have HP := Lib.hid hpc
    clear hA hW hpc
    by_cases hlt : k < n
    · have hki : (k : Int) < n := by omega
      have hkl : k < q.length := by rw [← HN.out]; exact hlt
      obtain ⟨b, o, rfl, hb, hc⟩ := HA.out (cne_of_lt hkl)
      have c0 : wr.cell? ⟨b, o + k * 2, none⟩ = some (.int .i16 (px q k)) := by rw [HW.out.cell (p := ⟨b, _, none⟩) hb]; exact (hc k hkl).1
      have c1 : wr.cell? ⟨b, o + k * 2 + 1, none⟩ = some (.int .i16 (py q k)) := by rw [HW.out.cell (p := ⟨b, _, none⟩) hb]; exact (hc k hkl).2
      have HX := Lib.hid (partC_set HP.out hkl)
      have hgl := lt_of_heap HA1.out
      generalize px q k = x at *
      generalize py q k = y at *
      clear hc hkl
      go_wp2_with fail
      refine (toPoint_c x y _).mono ?_
      rintro e w1 ⟨rfl, hb1⟩
      have HA2 := Lib.hid (heap_below hb1 hgl HA1.out)
      have hsz := HP.out.1
      obtain ⟨u0, hu0⟩ : ∃ u, cur[k * 2]? = some u := ⟨_, Array.getElem?_eq_getElem (by rw [hsz, ← HN.out]; omega)⟩
      obtain ⟨u1, hu1⟩ : ∃ u, cur[k * 2 + 1]? = some u := ⟨_, Array.getElem?_eq_getElem (by rw [hsz, ← HN.out]; omega)⟩
      have d0 : w1.cell? ⟨w.heap.size, k * 2, none⟩ = some u0 := by rw [cell_of_row w1 _ _ _ _ _ HA2.out]; exact hu0
      have d1 : w1.cell? ⟨w.heap.size, k * 2 + 1, none⟩ = some u1 := by rw [cell_of_row w1 _ _ _ _ _ HA2.out]; exact hu1
      have e0 : w1.frozen? ⟨w.heap.size, k * 2, none⟩ = false := frozen_of_row _ _ _ _ _ HA2.out
      have e1 : w1.frozen? ⟨w.heap.size, k * 2 + 1, none⟩ = false := frozen_of_row _ _ _ _ _ HA2.out
      have HB2 := Lib.hid (bt HW.out hb1)
      clear hb1 HA1 hu0 hu1 hsz
      go_wp2
      go_roundw
      case rel => exact ⟨k + 1, by omega, by go_num, ⟨_, HX.out, heap_setCell_same _ _ (k * 2 + 1) _ _ _ (heap_setCell_same _ _ (k * 2) _ _ _ HA2.out)⟩, (HB2.out.setCell (p := ⟨w.heap.size, k * 2, none⟩) (Nat.le_refl _) _).setCell (p := ⟨w.heap.size, k * 2 + 1, none⟩) (Nat.le_refl _) _⟩
      case measure => simp [intOf]; omega
    · have hki : ¬ (k : Int) < n := by omega
      have hkn : k = q.length := by rw [← HN.out]; omega
      have HC := Lib.hid (partC_cvs HA1.out (by rw [← hkn]; exact HP.out))
      have HWr : Hid (Wr wr w.heap.size n) := Lib.hid ⟨cur, HA1.out, by rw [HP.out.1, ← HN.out]; exact Nat.le_refl _⟩
      clear hkn
      go_wp2
      go_ret
      exact ⟨rfl, HC.out, HWr.out, HW.out⟩
/-- A row of curves of which the first k are written; none lies in block g. -/
def partH (w : World) (g : Nat) (cur : Array Value) (cs : List Cv) (k : Nat) : Prop := cur.size = cs.length ∧ ∀ i, i < k → ∃ r m cap, cur[i]? = some (.slice (some ⟨r, 0, none⟩) m cap) ∧ m = (cs.getD i []).length ∧ m ≤ 1048576 ∧ r ≠ g ∧ CvS w (some ⟨r, 0, none⟩) (cs.getD i []) ∧ g ≤ r ∧ Wr w r m
theorem partH_below {w w1 : World} {g k : Nat} {cur : Array Value} {cs : List Cv} (hb : Below w.heap.size w w1) (h : partH w g cur cs k) : partH w1 g cur cs k :=
  ⟨h.1, fun i hi => by obtain ⟨r, m, cap, h1, h2, h3, h4, h5, h6, h7⟩ := h.2 i hi; exact ⟨r, m, cap, h1, h2, h3, h4, CvS_below hb h5, h6, wr_below hb h7⟩⟩
theorem partH_set {w : World} {g k r m cap : Nat} {cur : Array Value} {cs : List Cv} (h : partH w g cur cs k) (hk : k < cs.length) (hm : m = (cs.getD k []).length) (hmm : m ≤ 1048576) (hr : r ≠ g) (hc : CvS w (some ⟨r, 0, none⟩) (cs.getD k [])) (hgr : g ≤ r) (hwr : Wr w r m) :
    partH (w.setCell ⟨g, k, none⟩ (.slice (some ⟨r, 0, none⟩) m cap)) g (cur.setIfInBounds k (.slice (some ⟨r, 0, none⟩) m cap)) cs (k + 1) := by
  refine ⟨by simp [h.1], fun i hi => ?_⟩
  by_cases e : i = k
  · subst e
    exact ⟨r, m, cap, by rw [Array.getElem?_setIfInBounds, if_pos rfl, if_pos (by rw [h.1]; exact hk)], hm, hmm, hr, CvS_far hc hr _ _, hgr, wr_far hwr hr _ _⟩
  · obtain ⟨r', m', cap', h1, h2, h3, h4, h5, h6, h7⟩ := h.2 i (by omega)
    exact ⟨r', m', cap', by rw [Array.getElem?_setIfInBounds, if_neg (by omega)]; exact h1, h2, h3, h4, CvS_far h5 h4 _ _, h6, wr_far h7 h4 _ _⟩
theorem partH_grs {w : World} {g : Nat} {cur : Array Value} {cs : List Cv} {t : TypeId} {fr : Nat × Nat} (h : w.heap[g]? = some (.cells cur t fr)) (hp : partH w g cur cs cs.length) : GrS w (some ⟨g, 0, none⟩) cs := fun _ =>
  ⟨g, 0, rfl, lt_of_heap h, fun i hi => by
    obtain ⟨r, m, cap, h1, h2, h3, _, h5, _⟩ := hp.2 i hi
    exact ⟨_, m, cap, by rw [cell_of_row w g _ _ t fr h, Nat.zero_add]; exact h1, h2, h3, h5⟩⟩
/-- Curves that may be written: block g holds their slices, each points to a block of its own from g on. -/
def GrW (w : World) (g hi : Nat) (cs : List Cv) : Prop := ∀ i, i < cs.length → ∃ r m cap, w.cell? ⟨g, i, none⟩ = some (.slice (some ⟨r, 0, none⟩) m cap) ∧ m ≤ 1048576 ∧ g < r ∧ r < hi ∧ Wr w r m
theorem partH_grw {w : World} {g : Nat} {cur : Array Value} {cs : List Cv} {t : TypeId} {fr : Nat × Nat} (h : w.heap[g]? = some (.cells cur t fr)) (hp : partH w g cur cs cs.length) : GrW w g w.heap.size cs := fun i hi => by
  obtain ⟨r, m, cap, h1, _, h3, h4, _, h6, h7⟩ := hp.2 i hi
  exact ⟨r, m, cap, by rw [cell_of_row w g _ _ t fr h]; exact h1, h3, by omega, (by obtain ⟨cur2, e1, _⟩ := h7; exact lt_of_heap e1), h7⟩
set_option maxHeartbeats 400000 in
theorem toCurveSW_c (p : Option Addr) (n c : Nat) (cs : List Cv) (hn : n = cs.length) (hm : n ≤ 1048576) (w : World) (hp : GrS w p cs) :
    Calls Try.prog 8 #[.slice p n c] w fun e w' => e = .returned (.slice (some ⟨w.heap.size, 0, none⟩) n n) ∧ GrS w' (some ⟨w.heap.size, 0, none⟩) cs ∧ GrW w' w.heap.size w'.heap.size cs ∧ Below w.heap.size w w' := by
  obtain ⟨cur, hsz, hmk⟩ := makeCurves n hm w
  have HN := Lib.hid hn
  have HA := Lib.hid hp
  have HZ : Hid (partH (w.alloc (.cells cur 40)) w.heap.size cur cs 0) := Lib.hid ⟨by rw [hsz, hn], fun i hi => absurd hi (Nat.not_lt_zero _)⟩
  clear hn hp hsz
  go_enter Try.func8, Try.ntmps8
  go_wp2
  clear hmk
  go_loopw [4] (fun i wr => ∃ k : Nat, k ≤ n ∧ i = .int .i64 k ∧ (∃ cur, partH wr w.heap.size cur cs k ∧ wr.heap[w.heap.size]? = some (.cells cur 40 (0, 0))) ∧ Below w.heap.size w wr) (fun i _ => n - (intOf i).toNat)
  case atStart => exact ⟨0, Nat.zero_le _, rfl, ⟨cur, HZ.out, al1_0 _ _⟩, bl1 _ _⟩
  case round =>
    clear HZ
    obtain ⟨k, hk, rfl, ⟨cur, hpc, hA⟩, hW⟩ := hrel
    have HA1 := Lib.hid hA
    have HW := Lib.hid hW
    have HP := Lib.hid hpc
    clear hA hW hpc
    by_cases hlt : k < n
    · have hki : (k : Int) < n := by omega
      have hkl : k < cs.length := by rw [← HN.out]; exact hlt
      obtain ⟨b, o, rfl, hb, hc⟩ := GrS_below HW.out HA.out (gne_of_lt hkl)
      obtain ⟨r, m, cap2, hcell, hmn, hmm, hcv⟩ := hc k hkl
      have HM := Lib.hid hmn
      have HCV := Lib.hid hcv
      have HKL := Lib.hid hkl
      have hgl := lt_of_heap HA1.out
      clear hc hkl hmn hcv
      go_wp2_with fail
      refine (toCurveW_c r m cap2 _ HM.out hmm _ HCV.out).mono ?_
      rintro e w1 ⟨rfl, hcv1, hwr1, hb1⟩
      have HA2 := Lib.hid (heap_below hb1 hgl HA1.out)
      have HP2 := Lib.hid (partH_set (cap := m) (partH_below hb1 HP.out) HKL.out HM.out hmm (show wr.heap.size ≠ w.heap.size by omega) hcv1 (show w.heap.size ≤ wr.heap.size by omega) hwr1)
      obtain ⟨u0, hu0⟩ : ∃ u, cur[k]? = some u := ⟨_, Array.getElem?_eq_getElem (by rw [HP.out.1]; exact HKL.out)⟩
      have d0 : w1.cell? ⟨w.heap.size, k, none⟩ = some u0 := by rw [cell_of_row w1 _ _ _ _ _ HA2.out]; exact hu0
      have e0 : w1.frozen? ⟨w.heap.size, k, none⟩ = false := frozen_of_row _ _ _ _ _ HA2.out
      have HB2 := Lib.hid (bt HW.out hb1)
      clear hb1 HA1 hu0 hcv1 hwr1
      go_wp2
      go_roundw
      case rel => exact ⟨k + 1, by omega, by go_num, ⟨_, HP2.out, heap_setCell_same _ _ k _ _ _ HA2.out⟩, HB2.out.setCell (p := ⟨w.heap.size, k, none⟩) (Nat.le_refl _) _⟩
      case measure => simp [intOf]; omega
    · have hki : ¬ (k : Int) < n := by omega
      have hkn : k = cs.length := by rw [← HN.out]; omega
      have HC := Lib.hid (partH_grs HA1.out (by rw [← hkn]; exact HP.out))
      have HGW := Lib.hid (partH_grw HA1.out (by rw [← hkn]; exact HP.out))
      clear hkn
      go_wp2
      go_ret
      exact ⟨rfl, HC.out, HGW.out, HW.out⟩
/-- Blocks from lo to hi alone have changed. -/
structure OnlyR (lo hi : Nat) (w w' : World) : Prop where
  below : Below lo w w'
  size : w'.heap.size = w.heap.size
  apart : ∀ b, b < lo ∨ hi ≤ b → w'.heap[b]? = w.heap[b]?
set_option maxHeartbeats 400000 in
theorem markCurveS_c (g hi n c : Nat) (cs : List Cv) (hn : n = cs.length) (hm : n ≤ 1048576) (w : World) (h : GrW w g hi cs) :
    Calls Try.prog 14 #[.slice (some ⟨g, 0, none⟩) n c, .int .i64 1] w fun e w' => (∃ k : Int, e = .returned (.int .i64 k) ∧ 0 ≤ k) ∧ OnlyR (g + 1) hi w w' := by
  have HN := Lib.hid hn
  have HG := Lib.hid h
  clear hn h
  go_enter Try.func14, Try.ntmps14
  go_wp2_with fail
  go_loopw [1, 5] (fun a i wr => ∃ (j : Nat) (K : Int), j ≤ n ∧ i = .int .i64 j ∧ a = .int .i64 K ∧ 0 ≤ K ∧ K ≤ 1 + 2097152 * j ∧ (∀ b m, Wr w b m → Wr wr b m) ∧ OnlyR (g + 1) hi w wr) (fun _ i _ => n - (intOf i).toNat)
  case atStart => exact ⟨0, 1, Nat.zero_le _, rfl, rfl, by omega, by omega, fun _ _ h => h, Below.refl _ _, rfl, fun _ _ => rfl⟩
  case round =>
    obtain ⟨j, K, hj, rfl, rfl, k0, k1, hwr, hO⟩ := hrel
    have HWR := Lib.hid hwr
    have HO := Lib.hid hO
    clear hwr hO
    by_cases hlt : j < n
    · have hji : (j : Int) < n := by omega
      obtain ⟨r, m, cap, hc, hmm, hgr, hrh, hwr⟩ := HG.out j (by rw [← HN.out]; exact hlt)
      have hc2 : wr.cell? ⟨g, j, none⟩ = some (.slice (some ⟨r, 0, none⟩) m cap) := by
        rw [World.cell?_of_block (w := w) (a := ⟨g, j, none⟩) (HO.out.apart g (Or.inl (Nat.lt_succ_self g)))]; exact hc
      have HWr := Lib.hid (HWR.out _ _ hwr)
      have hrs := Lib.hid hrh
      clear hc hwr
      go_wp2_with fail
      refine (markCurve_c r m cap K ⟨k0, by omega⟩ hmm _ HWr.out).mono ?_
      rintro e w1 ⟨rfl, hw1, hO1⟩
      have HW1 := Lib.hid hw1
      have HO1 := Lib.hid hO1
      obtain ⟨K2, hK2⟩ : ∃ K2 : Int, K2 = K + 2 * m := ⟨_, rfl⟩
      rw [← hK2]
      have HK2 : Hid (0 ≤ K2 ∧ K2 ≤ 1 + 2097152 * ((j + 1 : Nat) : Int)) := Lib.hid (by omega)
      clear hw1 hO1 hK2
      go_wp2
      go_roundw
      case rel =>
        exact ⟨j + 1, K2, by omega, by go_num, rfl, HK2.out.1, HK2.out.2, fun b m h => HW1.out b m (HWR.out b m h), HO.out.below.trans (HO1.out.below.mono hgr), HO1.out.size.trans HO.out.size, fun b hb => (HO1.out.apart b (by have := hrs.out; omega)).trans (HO.out.apart b hb)⟩
      case measure => simp [intOf]; omega
    · have hji : ¬ (j : Int) < n := by omega
      go_wp2
      go_ret
      exact ⟨⟨K, rfl, k0⟩, HO.out⟩
theorem row_onlyR {w w1 : World} {lo hi base : Nat} {e : TypeId} {k : IntKind} {v : Value} {xs : List Int} (h : Row w base e k v xs) (ho : OnlyR lo hi w w1) (hb : hi ≤ base) : Row w1 base e k v xs := by
  obtain ⟨h1, h2⟩ := h
  refine ⟨h1, ?_⟩
  rcases h2 with h2 | ⟨g, cap, cur, hv, hg, hh, r⟩
  · exact Or.inl h2
  · exact Or.inr ⟨g, cap, cur, hv, hg, (ho.apart g (Or.inr (Nat.le_trans hb hg))).trans hh, r⟩
theorem GrW_below {w w1 : World} {g hi : Nat} {cs : List Cv} (hb : Below w.heap.size w w1) (h : GrW w g hi cs) (hg : g < w.heap.size) : GrW w1 g hi cs := fun i hi => by
  obtain ⟨r, m, cap, h1, h2, h3, h4, h5⟩ := h i hi
  exact ⟨r, m, cap, by rw [hb.cell (p := ⟨g, i, none⟩) hg]; exact h1, h2, h3, h4, wr_below hb h5⟩
end Go.Proofs.Ytcdndjimfmpifaa
