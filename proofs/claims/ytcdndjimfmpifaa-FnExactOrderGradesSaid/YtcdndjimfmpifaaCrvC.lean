/- Lists of curves: how the laws copy, measure and compare them. -/
import Derived.Test.YtcdndjimfmpifaaGrdB
import Derived.Laws.MakeOwn
import Derived.Lib.QuietBelow
import Derived.BigQuiet
import Derived.OwnWalk
namespace Go.Proofs.Ytcdndjimfmpifaa
open Go.RowKit Go.Sort
theorem szPoint : (Try.prog.info? 78).map (·.size) = some 2 := by kernel_rfl
theorem infoPoint : (Try.prog.info? 78).map (fun i => (i.zero, i.size, i.bytes)) = some (some (.agg #[.int .i16 0, .int .i16 0]), 2, 4) := by kernel_rfl
theorem infoCurve : (Try.prog.info? 40).map (fun i => (i.zero, i.size, i.bytes)) = some (some (.slice none 0 0), 1, 24) := by kernel_rfl
theorem toPoint_c (x y : Int) (w : World) :
    Calls Try.prog 67 #[.agg #[.int .i16 x, .int .i16 y]] w fun e w' => e = .returned (.agg #[.int .i16 x, .int .i16 y]) ∧ Below w.heap.size w w' := by
  have K0 := Lib.hid (al3_0 w (.cells #[.int .i16 x, .int .i16 y] 80) (.cells #[.int .i16 0, .int .i16 0] 78) (.cells #[.int .i16 0, .int .i16 0] 78))
  have K1 := Lib.hid (al3_1 w (.cells #[.int .i16 x, .int .i16 y] 80) (.cells #[.int .i16 0, .int .i16 0] 78) (.cells #[.int .i16 0, .int .i16 0] 78))
  have K2 := Lib.hid (al3_2 w (.cells #[.int .i16 x, .int .i16 y] 80) (.cells #[.int .i16 0, .int .i16 0] 78) (.cells #[.int .i16 0, .int .i16 0] 78))
  have HB := Lib.hid (bl3 w (.cells #[.int .i16 x, .int .i16 y] 80) (.cells #[.int .i16 0, .int .i16 0] 78) (.cells #[.int .i16 0, .int .i16 0] 78))
  go_enter Try.func67, Try.ntmps67
  go_upto_region 2 with fail
  generalize (((w.alloc (.cells #[.int .i16 x, .int .i16 y] 80)).alloc (.cells #[.int .i16 0, .int .i16 0] 78)).alloc (.cells #[.int .i16 0, .int .i16 0] 78)) = w1 at *
  have c0 := bk2_0 K0.out
  have c1 := bk2_1 K0.out
  have d0 := bk2_0 K1.out
  have d1 := bk2_1 K1.out
  have e0 := bk2_0 K2.out
  have e1 := bk2_1 K2.out
  have f0 := blk_f K1.out 0
  have f1 := blk_f K1.out 1
  have g0 := blk_f K2.out 0
  have g1 := blk_f K2.out 1
  have hne : ¬ w.heap.size + 1 + 1 = w.heap.size + 1 := by omega
  have hne2 : ¬ w.heap.size + 1 = w.heap.size + 1 + 1 := by omega
  have hne3 : ¬ w.heap.size = w.heap.size + 1 + 1 := by omega
  have hne4 : ¬ w.heap.size + 1 + 1 = w.heap.size := by omega
  go_wp2
  have G1 := heap_far (a := ⟨w.heap.size + 1 + 1, 1, none⟩) (.int .i16 y) (by show w.heap.size + 1 ≠ w.heap.size + 1 + 1; omega) (heap_far (a := ⟨w.heap.size + 1 + 1, 0, none⟩) (.int .i16 x) (by show w.heap.size + 1 ≠ w.heap.size + 1 + 1; omega) K1.out)
  exact bodyPost_ret (results_cell_row rfl _ _ _ _ _ _ _ rfl (bk2 G1) Try.underlying78 rfl szPoint) rfl ⟨rfl, below2 (below2 HB.out (by omega) _ _) (by omega) _ _⟩
/-- A row of points of which the first k are written. -/
def partC (cur : Array Value) (q : Cv) (k : Nat) : Prop := cur.size = q.length * 2 ∧ ∀ i, i < k → cur[i * 2]? = some (.int .i16 (px q i)) ∧ cur[i * 2 + 1]? = some (.int .i16 (py q i))
theorem partC_cvs {w : World} {g : Nat} {cur : Array Value} {q : Cv} {t : TypeId} {fr : Nat × Nat} (h : w.heap[g]? = some (.cells cur t fr)) (hp : partC cur q q.length) : CvS w (some ⟨g, 0, none⟩) q := fun _ =>
  ⟨g, 0, rfl, lt_of_heap h, fun i hi => ⟨by rw [cell_of_row w g _ _ t fr h, Nat.zero_add]; exact (hp.2 i hi).1, by rw [cell_of_row w g _ _ t fr h, Nat.zero_add]; exact (hp.2 i hi).2⟩⟩
theorem partC_set {cur : Array Value} {q : Cv} {k : Nat} (h : partC cur q k) (hk : k < q.length) : partC ((cur.setIfInBounds (k * 2) (.int .i16 (px q k))).setIfInBounds (k * 2 + 1) (.int .i16 (py q k))) q (k + 1) := by
  obtain ⟨h1, h2⟩ := h
  refine ⟨by simp [h1], fun i hi => ?_⟩
  by_cases e : i = k
  · subst e
    constructor
    · rw [Array.getElem?_setIfInBounds, if_neg (by omega), Array.getElem?_setIfInBounds, if_pos rfl, if_pos (by omega)]
    · rw [Array.getElem?_setIfInBounds, if_pos rfl, if_pos (by simp; omega)]
  · have := h2 i (by omega)
    constructor
    · rw [Array.getElem?_setIfInBounds, if_neg (by omega), Array.getElem?_setIfInBounds, if_neg (by omega)]; exact this.1
    · rw [Array.getElem?_setIfInBounds, if_neg (by omega), Array.getElem?_setIfInBounds, if_neg (by omega)]; exact this.2
theorem makePoints (n : Nat) (hn : n ≤ 1048576) (w : World) : ∃ cur : Array Value, cur.size = n * 2 ∧ (Instr.makeSlice 40 (.int .i64 n) (.int .i64 n)).run Try.prog w = .ok (.slice (some ⟨w.heap.size, 0, none⟩) n n) (w.alloc (.cells cur 78)) := by
  obtain ⟨i, hi, hz0, hz1, hz2⟩ := info_parts infoPoint
  have h := run_make w 40 78 i _ Try.underlying40 hi hz0 .i64 .i64 n n (by omega) (Int.le_refl _) (by rw [hz2]; omega) (by omega)
  refine ⟨_, ?_, h⟩
  rw [hz1]; simp [madeCells]
set_option maxHeartbeats 400000 in
theorem toCurve_c (p : Option Addr) (n c : Nat) (q : Cv) (hn : n = q.length) (hm : n ≤ 1048576) (w : World) (hp : CvS w p q) :
    Calls Try.prog 36 #[.slice p n c] w fun e w' => e = .returned (.slice (some ⟨w.heap.size, 0, none⟩) n n) ∧ CvS w' (some ⟨w.heap.size, 0, none⟩) q ∧ Below w.heap.size w w' := by
  obtain ⟨cur, hsz, hmk⟩ := makePoints n hm w
  have HN := Lib.hid hn
  have HA := Lib.hid hp
  have HZ : Hid (partC cur q 0) := Lib.hid ⟨by rw [hsz, hn], fun i hi => absurd hi (Nat.not_lt_zero _)⟩
  clear hn hp hsz
  go_enter Try.func36, Try.ntmps36
  go_wp2
  clear hmk
  go_loopw [4] (fun i wr => ∃ k : Nat, k ≤ n ∧ i = .int .i64 k ∧ (∃ cur, partC cur q k ∧ wr.heap[w.heap.size]? = some (.cells cur 78 (0, 0))) ∧ Below w.heap.size w wr) (fun i _ => n - (intOf i).toNat)
  case atStart => exact ⟨0, Nat.zero_le _, rfl, ⟨cur, HZ.out, al1_0 _ _⟩, bl1 _ _⟩
  case round =>
    clear HZ
    obtain ⟨k, hk, rfl, ⟨cur, hpc, hA⟩, hW⟩ := hrel
    have HA1 := Lib.hid hA
    have HW := Lib.hid hW
    have HP := Lib.hid hpc
    clear hA hW hpc
    by_cases hlt : k < n
    · have hki : (k : Int) < n := by omega
      have hkl : k < q.length := by rw [← HN.out]; exact hlt
      obtain ⟨b, o, rfl, hb, hc⟩ := HA.out (cne_of_lt hkl)
      have c0 : wr.cell? ⟨b, o + k * 2, none⟩ = some (.int .i16 (px q k)) := by rw [HW.out.cell (p := ⟨b, _, none⟩) hb]; exact (hc k hkl).1
      have c1 : wr.cell? ⟨b, o + k * 2 + 1, none⟩ = some (.int .i16 (py q k)) := by rw [HW.out.cell (p := ⟨b, _, none⟩) hb]; exact (hc k hkl).2
      have HX := Lib.hid (partC_set HP.out hkl)
      have hgl := lt_of_heap HA1.out
      generalize px q k = x at *
      generalize py q k = y at *
      clear hc hkl
      go_wp2_with fail
      refine (toPoint_c x y _).mono ?_
      rintro e w1 ⟨rfl, hb1⟩
      have HA2 := Lib.hid (heap_below hb1 hgl HA1.out)
      have hsz := HP.out.1
      obtain ⟨u0, hu0⟩ : ∃ u, cur[k * 2]? = some u := ⟨_, Array.getElem?_eq_getElem (by rw [hsz, ← HN.out]; omega)⟩
      obtain ⟨u1, hu1⟩ : ∃ u, cur[k * 2 + 1]? = some u := ⟨_, Array.getElem?_eq_getElem (by rw [hsz, ← HN.out]; omega)⟩
      have d0 : w1.cell? ⟨w.heap.size, k * 2, none⟩ = some u0 := by rw [cell_of_row w1 _ _ _ _ _ HA2.out]; exact hu0
      have d1 : w1.cell? ⟨w.heap.size, k * 2 + 1, none⟩ = some u1 := by rw [cell_of_row w1 _ _ _ _ _ HA2.out]; exact hu1
      have e0 : w1.frozen? ⟨w.heap.size, k * 2, none⟩ = false := frozen_of_row _ _ _ _ _ HA2.out
      have e1 : w1.frozen? ⟨w.heap.size, k * 2 + 1, none⟩ = false := frozen_of_row _ _ _ _ _ HA2.out
      have HB2 := Lib.hid (bt HW.out hb1)
      clear hb1 HA1 hu0 hu1 hsz
      go_wp2
      go_roundw
      case rel => exact ⟨k + 1, by omega, by go_num, ⟨_, HX.out, heap_setCell_same _ _ (k * 2 + 1) _ _ _ (heap_setCell_same _ _ (k * 2) _ _ _ HA2.out)⟩, (HB2.out.setCell (p := ⟨w.heap.size, k * 2, none⟩) (Nat.le_refl _) _).setCell (p := ⟨w.heap.size, k * 2 + 1, none⟩) (Nat.le_refl _) _⟩
      case measure => simp [intOf]; omega
    · have hki : ¬ (k : Int) < n := by omega
      have hkn : k = q.length := by rw [← HN.out]; omega
      have HC := Lib.hid (partC_cvs HA1.out (by rw [← hkn]; exact HP.out))
      clear hkn
      go_wp2
      go_ret
      exact ⟨rfl, HC.out, HW.out⟩
theorem eqPoint_c (x y : Int) (w : World) :
    Calls Try.prog 73 #[.agg #[.int .i16 x, .int .i16 y], .agg #[.int .i16 x, .int .i16 y]] w fun e w' => e = .returned (.bool true) ∧ Below w.heap.size w w' := by
  go_enter Try.func73, Try.ntmps73
  go_wp2
  go_ret
  exact ⟨rfl, bl2 _ _ _⟩
set_option maxHeartbeats 400000 in
theorem eqCurve_c (p1 p2 : Option Addr) (n c1 c2 : Nat) (q : Cv) (hn : n = q.length) (hm : n ≤ 1048576) (w : World) (hp1 : CvS w p1 q) (hp2 : CvS w p2 q) :
    Calls Try.prog 40 #[.slice p1 n c1, .slice p2 n c2] w fun e w' => e = .returned (.bool true) ∧ Below w.heap.size w w' := by
  have HN := Lib.hid hn
  have HA1 := Lib.hid hp1
  have HA2 := Lib.hid hp2
  clear hn hp1 hp2
  go_enter Try.func40, Try.ntmps40
  go_wp2_with fail
  go_loopw [5] (fun i wr => ∃ k : Nat, k ≤ n ∧ i = .int .i64 k ∧ Below w.heap.size w wr) (fun i _ => n - (intOf i).toNat)
  case atStart => exact ⟨0, Nat.zero_le _, rfl, Below.refl _ _⟩
  case round =>
    obtain ⟨k, hk, rfl, hW⟩ := hrel
    have HW := Lib.hid hW
    clear hW
    by_cases hlt : k < n
    · have hki : (k : Int) < n := by omega
      have hkl : k < q.length := by rw [← HN.out]; exact hlt
      obtain ⟨b, o, rfl, hb, hc⟩ := CvS_below HW.out HA1.out (cne_of_lt hkl)
      obtain ⟨b2, o2, rfl, hb2, hc2⟩ := CvS_below HW.out HA2.out (cne_of_lt hkl)
      obtain ⟨d0, d1⟩ := hc k hkl
      obtain ⟨d2, d3⟩ := hc2 k hkl
      generalize px q k = x at *
      generalize py q k = y at *
      have k0 := cell_regrown d0
      have k1 := cell_regrown d1
      have k2 := cell_regrown d2
      have k3 := cell_regrown d3
      have cP := fun d os => Calls.regrown_of (eqPoint_c x y (grow (redrawn wr d) os))
      clear hc hc2 hkl d0 d1 d2 d3
      go_upto_region 6 with fail
      refine wp_region_quiet_below (by kernel_rfl) (by kernel_rfl) ?_
      repeat (go_big_quiet_step (exact cP _ _))
      refine wpQuiet_nil ?_
      intro _ hw'
      obtain ⟨⟨dq, osq⟩, hw''⟩ := hw'
      subst hw''
      go_wp2
      go_roundw
      case rel => exact ⟨k + 1, by omega, by go_num, bt HW.out (below_regrown wr dq osq)⟩
      case measure => simp [intOf]; omega
    · have hki : ¬ (k : Int) < n := by omega
      go_wp2
      go_ret
      exact ⟨rfl, HW.out⟩
/-- As GrS, of an argument: no bound on the curves' lengths. -/
def GrA (w : World) (p : Option Addr) (cs : List Cv) : Prop := cs ≠ [] → ∃ b o, p = some ⟨b, o, none⟩ ∧ b < w.heap.size ∧ ∀ i, i < cs.length → ∃ r m cap, w.cell? ⟨b, o + i, none⟩ = some (.slice r m cap) ∧ m = (cs.getD i []).length ∧ m ≤ 9223372036854775807 ∧ CvS w r (cs.getD i [])
theorem GrA_S {w : World} {p : Option Addr} {cs : List Cv} (h : GrA w p cs) (hl : ∀ i, i < cs.length → (cs.getD i []).length ≤ 1048576) : GrS w p cs := fun hne => by
  obtain ⟨b, o, h1, h2, h3⟩ := h hne
  refine ⟨b, o, h1, h2, fun i hi => ?_⟩
  obtain ⟨r, m, cap, h4, h5, h6, h7⟩ := h3 i hi
  exact ⟨r, m, cap, h4, h5, by have := hl i hi; omega, h7⟩
theorem GrA_below {w w1 : World} {p : Option Addr} {cs : List Cv} (hb : Below w.heap.size w w1) (h : GrA w p cs) : GrA w1 p cs := fun hl => by
  obtain ⟨b, o, h1, h2, h3⟩ := h hl
  refine ⟨b, o, h1, Nat.lt_of_lt_of_le h2 hb.size, fun i hi => ?_⟩
  obtain ⟨r, m, cap, h4, h5, h6, h7⟩ := h3 i hi
  exact ⟨r, m, cap, by rw [hb.cell (p := ⟨b, o + i, none⟩) h2]; exact h4, h5, h6, CvS_below hb h7⟩
theorem szCurve_c (p : Option Addr) (n c : Nat) (hm : n ≤ 9223372036854775807) (L : Int) (h0 : 0 ≤ L) (h1 : L ≤ 1048576) (w : World) :
    Calls Try.prog 32 #[.slice p n c, .int .i64 L] w fun e w' => e = .returned (.int .i64 (if L < n then -1 else L - n)) ∧ w = w' := by
  have hw := Go.IntWalk.i64_in (L - (n : Int)) (by omega)
  by_cases h : L < n
  · have hd : L - (n : Int) < 0 := by omega
    go_enter Try.func32, Try.ntmps32
    go_wp2
    go_ret
    exact ⟨rfl, rfl⟩
  · have hd : ¬ L - (n : Int) < 0 := by omega
    go_enter Try.func32, Try.ntmps32
    go_wp2
    go_ret
    exact ⟨rfl, rfl⟩
set_option maxHeartbeats 400000 in
theorem szCurveS_c (p : Option Addr) (n c : Nat) (cs : List Cv) (hn : n = cs.length) (hm : n ≤ 9223372036854775807) (w : World) (hp : GrA w p cs) :
    Calls Try.prog 6 #[.slice p n c, .int .i64 1048576] w fun e w' => (∃ v : Int, e = .returned (.int .i64 v) ∧ -1 ≤ v ∧ (0 ≤ v → n ≤ 1048576 ∧ ∀ i, i < n → (cs.getD i []).length ≤ 1048576)) ∧ w = w' := by
  have HN := Lib.hid hn
  have HA := Lib.hid hp
  have hw := Go.IntWalk.i64_in ((1048576 : Int) - (n : Int)) (by omega)
  clear hn hp
  by_cases h : (1048576 : Int) < n
  · have hd : (1048576 : Int) - (n : Int) < 0 := by omega
    go_enter Try.func6, Try.ntmps6
    go_wp2
    go_ret
    exact ⟨⟨-1, rfl, by omega, fun h => by omega⟩, rfl⟩
  · have hd : ¬ (1048576 : Int) - (n : Int) < 0 := by omega
    have HL0 : Hid (0 ≤ (1048576 : Int) - n ∧ (1048576 : Int) - n ≤ 1048576) := Lib.hid (by omega)
    go_enter Try.func6, Try.ntmps6
    go_wp2_with fail
    go_loopw [1, 5] (fun l i wr => ∃ (k : Nat) (L : Int), k ≤ n ∧ l = .int .i64 L ∧ i = .int .i64 k ∧ 0 ≤ L ∧ L ≤ 1048576 ∧ (∀ i, i < k → (cs.getD i []).length ≤ 1048576) ∧ w = wr) (fun _ i _ => n - (intOf i).toNat)
    case atStart => exact ⟨0, _, Nat.zero_le _, rfl, rfl, HL0.out.1, HL0.out.2, fun i hi => absurd hi (Nat.not_lt_zero _), rfl⟩
    case round =>
      clear HL0 hw hd
      obtain ⟨k, L, hk, rfl, rfl, l0, l1, hall, rfl⟩ := hrel
      have HALL := Lib.hid hall
      clear hall
      by_cases hlt : k < n
      · have hki : (k : Int) < n := by omega
        have hkl : k < cs.length := by rw [← HN.out]; exact hlt
        obtain ⟨b, o, rfl, hb, hc⟩ := HA.out (gne_of_lt hkl)
        obtain ⟨r, m, cap2, hcell, hmn, hmm, hcv⟩ := hc k hkl
        have HM := Lib.hid hmn
        clear hc hmn hcv hkl
        by_cases hL : L < m
        · have C := Lib.hid (fun w => szCurve_c r m cap2 hmm L l0 l1 w)
          have hE : Hid ((if L < (m : Int) then (-1 : Int) else L - m) = -1) := Lib.hid (by rw [if_pos hL])
          clear hL
          go_wp2_with fail
          refine (C.out _).mono ?_
          rintro e w' ⟨rfl, rfl⟩
          rw [hE.out]
          go_wp2
          go_ret
          exact ⟨⟨-1, rfl, by omega, fun h => by omega⟩, rfl⟩
        · have C := Lib.hid (fun w => szCurve_c r m cap2 hmm L l0 l1 w)
          have hE : Hid ((if L < (m : Int) then (-1 : Int) else L - m) = L - m) := Lib.hid (by rw [if_neg hL])
          have hd : ¬ L - (m : Int) < 0 := by omega
          have hmL : m ≤ 1048576 := by omega
          have hLm : Hid (0 ≤ L - m ∧ L - m ≤ 1048576) := Lib.hid (by omega)
          clear hL
          go_wp2_with fail
          refine (C.out _).mono ?_
          rintro e w' ⟨rfl, rfl⟩
          rw [hE.out]
          go_wp2
          go_roundw
          case rel =>
            exact ⟨k + 1, L - m, by omega, rfl, by go_num, hLm.out.1, hLm.out.2, fun i hi => by
              by_cases e : i = k
              · subst e; rw [← HM.out]; exact hmL
              · exact HALL.out i (by omega), by trivial⟩
          case measure => simp [intOf]; omega
      · have hki : ¬ (k : Int) < n := by omega
        have hkn : k = n := by omega
        have HALL2 : Hid (∀ i, i < n → (cs.getD i []).length ≤ 1048576) := Lib.hid (by rw [← hkn]; exact HALL.out)
        clear hkn
        go_wp2
        go_ret
        exact ⟨⟨L, rfl, by omega, fun _ => ⟨by omega, HALL2.out⟩⟩, rfl⟩
theorem makeCurves (n : Nat) (hn : n ≤ 1048576) (w : World) : ∃ cur : Array Value, cur.size = n ∧ (Instr.makeSlice 26 (.int .i64 n) (.int .i64 n)).run Try.prog w = .ok (.slice (some ⟨w.heap.size, 0, none⟩) n n) (w.alloc (.cells cur 40)) := by
  obtain ⟨i, hi, hz0, hz1, hz2⟩ := info_parts infoCurve
  have h := run_make w 26 40 i _ Try.underlying26 hi hz0 .i64 .i64 n n (by omega) (Int.le_refl _) (by rw [hz2]; omega) (by omega)
  refine ⟨_, ?_, h⟩
  rw [hz1]; simp [madeCells]
/-- A row of curves of which the first k are written; none lies in block g. -/
def partG (w : World) (g : Nat) (cur : Array Value) (cs : List Cv) (k : Nat) : Prop := cur.size = cs.length ∧ ∀ i, i < k → ∃ r m cap, cur[i]? = some (.slice (some ⟨r, 0, none⟩) m cap) ∧ m = (cs.getD i []).length ∧ m ≤ 1048576 ∧ r ≠ g ∧ CvS w (some ⟨r, 0, none⟩) (cs.getD i [])
theorem CvS_far {w : World} {g r : Nat} {q : Cv} (h : CvS w (some ⟨r, 0, none⟩) q) (hne : r ≠ g) (i : Nat) (v : Value) : CvS (w.setCell ⟨g, i, none⟩ v) (some ⟨r, 0, none⟩) q := fun hl => by
  obtain ⟨b, o, h1, h2, h3⟩ := h hl
  simp only [Option.some.injEq, Addr.mk.injEq, and_true] at h1
  obtain ⟨rfl, rfl⟩ := h1
  refine ⟨r, 0, rfl, by simpa using h2, fun j hj => ?_⟩
  rw [World.cell?_setCell_other _ _ _ _ (by intro h; injection h; omega), World.cell?_setCell_other _ _ _ _ (by intro h; injection h; omega)]
  exact h3 j hj
theorem partG_below {w w1 : World} {g k : Nat} {cur : Array Value} {cs : List Cv} (hb : Below w.heap.size w w1) (h : partG w g cur cs k) : partG w1 g cur cs k :=
  ⟨h.1, fun i hi => by obtain ⟨r, m, cap, h1, h2, h3, h4, h5⟩ := h.2 i hi; exact ⟨r, m, cap, h1, h2, h3, h4, CvS_below hb h5⟩⟩
theorem partG_set {w : World} {g k r m cap : Nat} {cur : Array Value} {cs : List Cv} (h : partG w g cur cs k) (hk : k < cs.length) (hm : m = (cs.getD k []).length) (hmm : m ≤ 1048576) (hr : r ≠ g) (hc : CvS w (some ⟨r, 0, none⟩) (cs.getD k [])) :
    partG (w.setCell ⟨g, k, none⟩ (.slice (some ⟨r, 0, none⟩) m cap)) g (cur.setIfInBounds k (.slice (some ⟨r, 0, none⟩) m cap)) cs (k + 1) := by
  refine ⟨by simp [h.1], fun i hi => ?_⟩
  by_cases e : i = k
  · subst e
    exact ⟨r, m, cap, by rw [Array.getElem?_setIfInBounds, if_pos rfl, if_pos (by rw [h.1]; exact hk)], hm, hmm, hr, CvS_far hc hr _ _⟩
  · obtain ⟨r', m', cap', h1, h2, h3, h4, h5⟩ := h.2 i (by omega)
    exact ⟨r', m', cap', by rw [Array.getElem?_setIfInBounds, if_neg (by omega)]; exact h1, h2, h3, h4, CvS_far h5 h4 _ _⟩
theorem partG_grs {w : World} {g : Nat} {cur : Array Value} {cs : List Cv} {t : TypeId} {fr : Nat × Nat} (h : w.heap[g]? = some (.cells cur t fr)) (hp : partG w g cur cs cs.length) : GrS w (some ⟨g, 0, none⟩) cs := fun _ =>
  ⟨g, 0, rfl, lt_of_heap h, fun i hi => by
    obtain ⟨r, m, cap, h1, h2, h3, _, h5⟩ := hp.2 i hi
    exact ⟨_, m, cap, by rw [cell_of_row w g _ _ t fr h, Nat.zero_add]; exact h1, h2, h3, h5⟩⟩
set_option maxHeartbeats 400000 in
theorem toCurveS_c (p : Option Addr) (n c : Nat) (cs : List Cv) (hn : n = cs.length) (hm : n ≤ 1048576) (w : World) (hp : GrS w p cs) :
    Calls Try.prog 8 #[.slice p n c] w fun e w' => e = .returned (.slice (some ⟨w.heap.size, 0, none⟩) n n) ∧ GrS w' (some ⟨w.heap.size, 0, none⟩) cs ∧ Below w.heap.size w w' := by
  obtain ⟨cur, hsz, hmk⟩ := makeCurves n hm w
  have HN := Lib.hid hn
  have HA := Lib.hid hp
  have HZ : Hid (partG (w.alloc (.cells cur 40)) w.heap.size cur cs 0) := Lib.hid ⟨by rw [hsz, hn], fun i hi => absurd hi (Nat.not_lt_zero _)⟩
  clear hn hp hsz
  go_enter Try.func8, Try.ntmps8
  go_wp2
  clear hmk
  go_loopw [4] (fun i wr => ∃ k : Nat, k ≤ n ∧ i = .int .i64 k ∧ (∃ cur, partG wr w.heap.size cur cs k ∧ wr.heap[w.heap.size]? = some (.cells cur 40 (0, 0))) ∧ Below w.heap.size w wr) (fun i _ => n - (intOf i).toNat)
  case atStart => exact ⟨0, Nat.zero_le _, rfl, ⟨cur, HZ.out, al1_0 _ _⟩, bl1 _ _⟩
  case round =>
    clear HZ
    obtain ⟨k, hk, rfl, ⟨cur, hpc, hA⟩, hW⟩ := hrel
    have HA1 := Lib.hid hA
    have HW := Lib.hid hW
    have HP := Lib.hid hpc
    clear hA hW hpc
    by_cases hlt : k < n
    · have hki : (k : Int) < n := by omega
      have hkl : k < cs.length := by rw [← HN.out]; exact hlt
      obtain ⟨b, o, rfl, hb, hc⟩ := GrS_below HW.out HA.out (gne_of_lt hkl)
      obtain ⟨r, m, cap2, hcell, hmn, hmm, hcv⟩ := hc k hkl
      have HM := Lib.hid hmn
      have HCV := Lib.hid hcv
      have HKL := Lib.hid hkl
      have hgl := lt_of_heap HA1.out
      clear hc hkl hmn hcv
      go_wp2_with fail
      refine (toCurve_c r m cap2 _ HM.out hmm _ HCV.out).mono ?_
      rintro e w1 ⟨rfl, hcv1, hb1⟩
      have HA2 := Lib.hid (heap_below hb1 hgl HA1.out)
      have HP2 := Lib.hid (partG_set (cap := m) (partG_below hb1 HP.out) HKL.out HM.out hmm (show wr.heap.size ≠ w.heap.size by omega) hcv1)
      obtain ⟨u0, hu0⟩ : ∃ u, cur[k]? = some u := ⟨_, Array.getElem?_eq_getElem (by rw [HP.out.1]; exact HKL.out)⟩
      have d0 : w1.cell? ⟨w.heap.size, k, none⟩ = some u0 := by rw [cell_of_row w1 _ _ _ _ _ HA2.out]; exact hu0
      have e0 : w1.frozen? ⟨w.heap.size, k, none⟩ = false := frozen_of_row _ _ _ _ _ HA2.out
      have HB2 := Lib.hid (bt HW.out hb1)
      clear hb1 HA1 hu0 hcv1
      go_wp2
      go_roundw
      case rel => exact ⟨k + 1, by omega, by go_num, ⟨_, HP2.out, heap_setCell_same _ _ k _ _ _ HA2.out⟩, HB2.out.setCell (p := ⟨w.heap.size, k, none⟩) (Nat.le_refl _) _⟩
      case measure => simp [intOf]; omega
    · have hki : ¬ (k : Int) < n := by omega
      have hkn : k = cs.length := by rw [← HN.out]; omega
      have HC := Lib.hid (partG_grs HA1.out (by rw [← hkn]; exact HP.out))
      clear hkn
      go_wp2
      go_ret
      exact ⟨rfl, HC.out, HW.out⟩
set_option maxHeartbeats 400000 in
theorem eqCurveS_c (p1 p2 : Option Addr) (n c1 c2 : Nat) (cs : List Cv) (hn : n = cs.length) (hm : n ≤ 1048576) (w : World) (hp1 : GrS w p1 cs) (hp2 : GrS w p2 cs) :
    Calls Try.prog 10 #[.slice p1 n c1, .slice p2 n c2] w fun e w' => e = .returned (.bool true) ∧ Below w.heap.size w w' := by
  have HN := Lib.hid hn
  have HA1 := Lib.hid hp1
  have HA2 := Lib.hid hp2
  clear hn hp1 hp2
  go_enter Try.func10, Try.ntmps10
  go_wp2_with fail
  go_loopw [5] (fun i wr => ∃ k : Nat, k ≤ n ∧ i = .int .i64 k ∧ Below w.heap.size w wr) (fun i _ => n - (intOf i).toNat)
  case atStart => exact ⟨0, Nat.zero_le _, rfl, Below.refl _ _⟩
  case round =>
    obtain ⟨k, hk, rfl, hW⟩ := hrel
    have HW := Lib.hid hW
    clear hW
    by_cases hlt : k < n
    · have hki : (k : Int) < n := by omega
      have hkl : k < cs.length := by rw [← HN.out]; exact hlt
      obtain ⟨b, o, rfl, hb, hc⟩ := GrS_below HW.out HA1.out (gne_of_lt hkl)
      obtain ⟨b2, o2, rfl, hb2, hc2⟩ := GrS_below HW.out HA2.out (gne_of_lt hkl)
      obtain ⟨r, m, cap, d0, m1, m2, hcv⟩ := hc k hkl
      obtain ⟨r2, m', cap2, d1, m3, m4, hcv2⟩ := hc2 k hkl
      obtain rfl : m = m' := by rw [m1, m3]
      have k0 := cell_regrown d0
      have k1 := cell_regrown d1
      have cP := fun d os => Calls.regrown_of (eqCurve_c r r2 m cap cap2 _ m1 m2 (grow (redrawn wr d) os) (CvS_below (below_regrown wr d os) hcv) (CvS_below (below_regrown wr d os) hcv2))
      clear hc hc2 hkl d0 d1 m1 m3 hcv hcv2
      go_upto_region 6 with fail
      refine wp_region_quiet_below (by kernel_rfl) (by kernel_rfl) ?_
      repeat (go_big_quiet_step (exact cP _ _))
      refine wpQuiet_nil ?_
      intro _ hw'
      obtain ⟨⟨dq, osq⟩, hw''⟩ := hw'
      subst hw''
      go_wp2
      go_roundw
      case rel => exact ⟨k + 1, by omega, by go_num, bt HW.out (below_regrown wr dq osq)⟩
      case measure => simp [intOf]; omega
    · have hki : ¬ (k : Int) < n := by omega
      go_wp2
      go_ret
      exact ⟨rfl, HW.out⟩
end Go.Proofs.Ytcdndjimfmpifaa
