/- Copies that are drawn. -/
import Derived.Test.YtdmlefccajaniaaDoorRowP
import Derived.Test.YtdmlefccajaniaaDoorCells
import Derived.Test.YtdmlefccajaniaaDoorVSheet
import Derived.Deep.RegionHeld3
import Derived.Deep.AppendLies
import Derived.Lib.SliceRun
namespace Go.Proofs.YtdmlefccajaniaaDoor
open Go.RowKit Go.Lib
/-- A list of prints at the beginning of a block. -/
def PB (w : World) (g : Nat) (l : List (List Int)) : Prop := g < w.heap.size ∧ PrAt w g 0 l
theorem rowP_any {w : World} {base : Nat} {v : Value} {l : List (List Int)} (h : RowP w base v l) : ∃ p cap, v = .slice p l.length cap := by
  obtain ⟨_, h2⟩ := h
  rcases h2 with ⟨h2, h0⟩ | ⟨g, cap, cur, hv, _⟩
  · exact ⟨none, 0, by rw [h2, h0]⟩
  · exact ⟨_, cap, hv⟩
theorem rowP_far {w : World} {base : Nat} {v : Value} {l : List (List Int)} (h : RowP w base v l) {p : Addr} (hp : p.block < base) (u : Value) : RowP (w.setCell p u) base v l := ownsRow_setCell_below h hp u
theorem rowP_mono {w : World} {b b' : Nat} {v : Value} {l : List (List Int)} (h : RowP w b v l) (hb : b' ≤ b) : RowP w b' v l := by
  obtain ⟨h1, h2⟩ := h
  refine ⟨h1, ?_⟩
  rcases h2 with h2 | ⟨g, cap, cur, hv, hg, r⟩
  · exact Or.inl h2
  · exact Or.inr ⟨g, cap, cur, hv, Nat.le_trans hb hg, r⟩
theorem pb_PS {w : World} {g : Nat} {l : List (List Int)} (h : PB w g l) : PS w (some ⟨g, 0, none⟩) l := fun _ => ⟨g, 0, rfl, h.1, h.2⟩
theorem fold_fill : ∀ (cs : List Value) (k : Nat) (A : Array Value), A.size = k + cs.length → List.foldl (fun (A : Array Value) (x : Value × Nat) => A.setIfInBounds x.snd x.fst) A (cs.zipIdx k) = (A.toList.take k ++ cs).toArray
  | [], k, A, h => by
    have : A.toList.take k = A.toList := List.take_of_length_le (by simp at h ⊢; omega)
    simp [this]
  | c :: cs, k, A, h => by
    rw [List.zipIdx_cons, List.foldl_cons, fold_fill cs (k + 1) _ (by simp at h ⊢; omega)]
    have hk : k < A.toList.length := by simp at h ⊢; omega
    have e : (A.setIfInBounds k c).toList.take (k + 1) = A.toList.take k ++ [c] := by
      have hl : (A.toList.take k).length = k := by rw [List.length_take]; omega
      rw [Array.toList_setIfInBounds, List.take_set, List.take_succ_eq_append_getElem hk, List.set_append_right _ _ (by rw [hl]; exact Nat.le_refl _)]
      have : k - (A.toList.take k).length = 0 := by rw [hl]; omega
      rw [this]; rfl
    rw [e]; simp
theorem flat_one (q : List Int) : flatP [q] = cellsP q := by simp [flatP]
theorem fold_print (q : List Int) (hq : q.length = 64) : List.foldl (fun (A : Array Value) (x : Value × Nat) => A.setIfInBounds x.snd x.fst) (arr .i16 Z64) (cellsP q).zipIdx = (cellsP q).toArray := by
  rw [fold_fill (cellsP q) 0 _ (by rw [arr_size, Z64_length, cellsP_length, hq])]
  simp
theorem cellsDrawnP_c (g k : Nat) (w : World) (h : Src w g k) (hk : k ≤ 1000000) :
    Calls Tryd.prog 52 #[.pointer (some ⟨g, 0, none⟩)] w fun e w' => ∃ p, e = .returned (.agg (cellsP p).toArray) ∧ Pr p ∧ okP p = true ∧ Src w' g (k + 40) ∧ But g w w' := by
  refine (cellsDrawn_c g k w h hk).mono ?_
  rintro e w' ⟨p, rfl, hl, ho, hS, hB⟩
  exact ⟨p, rfl, okP_pr hl ho, ho, hS, hB⟩
theorem src_drew1 {w : World} {g k : Nat} (h : Src w g k) : Src w.drew g k := h
theorem but_drew1 {g : Nat} {w w1 : World} (h : But g w w1) : But g w w1.drew := ⟨bl_drew h.below, h.apart⟩
theorem src_keepB {w w1 : World} {B g k : Nat} (h : Src w g k) (hb : Below B w w1) (hB : g < B) : Src w1 g k := by
  obtain ⟨p, n, c, a, s, hg, ha, h0, h1, hn, hx⟩ := h
  refine ⟨p, n, c, a, s, heap_below hb hB hg, ha, h0, h1, hn, fun h => ?_⟩
  obtain ⟨b, o, hp, hz, hx⟩ := hx h
  exact ⟨b, o, hp, hz, fun i hi => by rw [hb.cell (p := ⟨b, o + i, none⟩) (Nat.lt_trans hz hB)]; exact hx i hi⟩
theorem but_keepB {g B : Nat} {w w1 w2 : World} (h : But g w w1) (hb : Below B w1 w2) (h1 : w.heap.size ≤ B) (hg : g < w.heap.size) : But g w w2 :=
  ⟨h.below.trans (hb.mono (Nat.le_trans (Nat.le_of_lt hg) h1)), fun b hlt hne => (hb.block b (Nat.lt_of_lt_of_le hlt h1)).trans (h.apart b hlt hne)⟩
theorem rowP_but {w w1 : World} {base g : Nat} {v : Value} {l : List (List Int)} (h : RowP w base v l) (hb : But g w w1) (hg : g < base) : RowP w1 base v l := by
  obtain ⟨h1, h2⟩ := h
  refine ⟨h1, ?_⟩
  rcases h2 with h2 | ⟨b, cap, cur, hv, hbb, hh, r⟩
  · exact Or.inl h2
  · exact Or.inr ⟨b, cap, cur, hv, hbb, (hb.apart b (lt_of_heap hh) (by omega)).trans hh, r⟩
theorem okL_app {l : List (List Int)} {q : List Int} (h : okL l = true) (hq : okP q = true) : okL (l ++ [q]) = true := by
  unfold okL at h ⊢
  rw [List.all_append, h]; simp [hq]
theorem Prs_app {l : List (List Int)} {q : List Int} (h : Prs l) (hq : Pr q) : Prs (l ++ [q]) := fun i hi => by
  by_cases e : i < l.length
  · have := h i e
    rwa [List.getD_eq_getElem?_getD, List.getElem?_append_left e, ← List.getD_eq_getElem?_getD]
  · have : i = l.length := by simp at hi; omega
    subst this
    rw [List.getD_eq_getElem?_getD, List.getElem?_append_right (Nat.le_refl _)]; simpa using hq
theorem rowP_PB {w : World} {base : Nat} {v : Value} {l : List (List Int)} (h : RowP w base v l) (hl : Prs l) (h0 : 0 < l.length) : ∃ g c, v = .slice (some ⟨g, 0, none⟩) l.length c ∧ PB w g l ∧ l.length ≤ c := by
  obtain ⟨q, c, hv, hps⟩ := rowP_PS h hl
  obtain ⟨_, h2⟩ := h
  rcases h2 with ⟨_, h0'⟩ | ⟨g, cap, cur, hv2, hg, hh, hc, _⟩
  · omega
  · have hv3 := hv
    rw [hv2] at hv3
    simp only [Value.slice.injEq] at hv3
    obtain ⟨e1, _, e3⟩ := hv3
    obtain ⟨b, o, hb, hlt, hat⟩ := hps (by rintro rfl; simp at h0)
    rw [← e1] at hb
    simp only [Option.some.injEq, Addr.mk.injEq, and_true] at hb
    obtain ⟨rfl, rfl⟩ := hb
    exact ⟨g, cap, hv2, ⟨hlt, hat⟩, hc⟩
end Go.Proofs.YtdmlefccajaniaaDoor
namespace Go.Proofs.YtdmlefccajaniaaDoor
open Go.RowKit Go.Lib
set_option maxHeartbeats 4000000 in
set_option maxRecDepth 100000 in
theorem p6Copies_c (v : Value) (n : Nat) (w : World) (h : Bytes w v n) :
    Calls Tryd.prog 18 #[v] w fun e w' => ∃ p c l, e = .returned (.slice p l.length c) ∧ 1 ≤ l.length ∧ l.length ≤ 5 ∧ Prs l ∧ okL l = true ∧ RowP w' w.heap.size (.slice p l.length c) l ∧ Below w.heap.size w w' := by
  have HS := Lib.hid h
  clear h
  go_enter Tryd.func18, Tryd.ntmps18
  refine wp_var fun Q0 HQ0 => ?_
  go_wp2_with fail
  refine (srcFrom_c _ _ _ HS.out).mono ?_
  rintro e w1 ⟨g, rfl, hg, hS, hb⟩
  have HS1 := Lib.hid hS
  have HB1 := Lib.hid hb
  clear hS hb HS
  go_wp2_with fail
  refine (cellsDrawn_c g 0 _ HS1.out (by omega)).mono ?_
  rintro e w2 ⟨P0, rfl, hl0, ho0, hS2, hB2⟩
  have HL0 := Lib.hid hl0
  have HO0 := Lib.hid ho0
  have hg1 := src_lt HS1.out
  have hgw2 : g < w2.heap.size := Nat.lt_of_lt_of_le hg1 hB2.below.size
  have hsz0 : Hid ((arr .i16 P0).size = 64) := Lib.hid (by rw [arr_size, hl0])
  have HG := Lib.hid (setRow_heap (w2.alloc (.cells (arr .i16 Z64) 37)) w2.heap.size _ (arr .i16 P0) 37 (0, 0) (al1_0 _ _))
  have HB3 := Lib.hid (below_setRow (bal (but_new HB1.out hB2 hg) (.cells (arr .i16 Z64) 37)) (but_new HB1.out hB2 hg).size (arr .i16 P0))
  have HS3 := Lib.hid (src_setRow (b := w2.heap.size) (vs := arr .i16 P0) (src_keep hS2 (bl1 w2 (.cells (arr .i16 Z64) 37))) hgw2)
  have hgp : w.heap.size ≤ w2.heap.size := (but_new HB1.out hB2 hg).size
  have hz3 : ((w2.alloc (.cells (arr .i16 Z64) 37)).setRow w2.heap.size (arr .i16 P0)).heap.size = w2.heap.size + 1 := by simp
  clear hl0 ho0 hS2 hB2 HS1 hg1
  go_wp2_with (rw [z64_Z]; refine wpList_store_row rfl 37 (.tmp 4) (.tmp 13) rfl w2.heap.size (arr .i16 P0) rfl rfl 37 (arr .i16 Z64) (al1_0 _ _) (by rw [szPrint, hsz0.out]) (by rw [hsz0.out, arr_size, Z64_length]) (arr_one _ _) ?_; generalize (w2.alloc (.cells (arr .i16 Z64) 37)).setRow w2.heap.size (arr .i16 P0) = w3 at *; generalize w2.heap.size = gp at *)
  refine (srcPick_c g (0 + 40) 5 _ (src_keep HS3.out (bl1 w3 (.cells #[] 37))) (by omega) (by omega) (by omega)).mono ?_
  rintro e w4 ⟨q, rfl, q0, q1, hS4, hO4⟩
  have HS4 := Lib.hid hS4
  have HB4 := Lib.hid (only_above (bal HB3.out (.cells #[] 37)) hO4 hg)
  have HG4 := Lib.hid ((hO4.apart gp (by omega)).trans (heap_old (.cells #[] 37) _ (lt_of_heap HG.out) HG.out))
  have HR4 := Lib.hid (rowP_but (rowP_new w3 (gp + 1) (by omega)) (but_only (but_refl g _) hO4) (by omega))
  have z4 : gp + 1 ≤ w4.heap.size := by rw [hO4.size]; simp; omega
  obtain ⟨m0, hm0⟩ : ∃ m0 : Nat, 1 + q = m0 := ⟨(1 + q).toNat, by omega⟩
  have hwq : IntKind.i64.wrap (1 + q) = (m0 : Int) := by rw [Go.IntWalk.i64_in _ (by omega)]; exact hm0
  have hm1 : 1 ≤ m0 := by omega
  have hm5 : m0 ≤ 5 := by omega
  rw [hz3] at HR4
  clear hS4 hO4 HG HS3 HB3 hz3 hm0
  go_wp2_with fail
  go_loopw [5, 6] (fun ov kv wr => ∃ (m : Nat) (p : Option Addr) (nv cv : Nat) (l : List (List Int)), m ≤ m0 ∧ kv = .int .i64 m ∧ ov = .slice p nv cv ∧ nv = l.length ∧ l.length = m0 - m ∧ Prs l ∧ okL l = true ∧ wr.heap[gp]? = some (.cells (arr .i16 P0) 37 (0, 0)) ∧ RowP wr (gp + 1) (.slice p nv cv) l ∧ gp + 1 ≤ wr.heap.size ∧ Src wr g (100 + 50 * (m0 - m)) ∧ Below w.heap.size w wr) (fun _ kv _ => (intOf kv).toNat)
  case atStart => exact ⟨m0, _, 0, 0, [], Nat.le_refl _, rfl, rfl, rfl, by simp, fun i hi => absurd hi (by simp), rfl, HG4.out, HR4.out, z4, src_mono HS4.out (by omega), HB4.out⟩
  case round =>
    clear HG4 HR4 HS4 HB4 z4
    obtain ⟨V, rfl⟩ : ∃ V, V = wr := ⟨_, rfl⟩
    obtain ⟨m, p, nv, cv, l, hm, rfl, rfl, hnv, hll, hl, hol, hG, hR, zr, hS, hB⟩ := hrel
    have HS := Lib.hid hS
    have HB := Lib.hid hB
    have HG := Lib.hid hG
    have HR := Lib.hid hR
    have HN := Lib.hid hnv
    have HLL := Lib.hid hll
    have HL := Lib.hid hl
    have HO := Lib.hid hol
    clear hS hB hG hR hl hol hnv hll
    by_cases hlt : 0 < m
    · have hm0 : (0 : Int) < m := by omega
      have hmw : IntKind.i64.wrap ((m : Int) - 1) = ((m - 1 : Nat) : Int) := by rw [Go.IntWalk.i64_in _ (by omega)]; omega
      have hgr := src_lt HS.out
      have HQ := Lib.hid (setRow_heap (V.alloc (.cells (arr .i16 Z64) 37)) V.heap.size _ (arr .i16 P0) 37 (0, 0) (al1_0 _ _))
      have hbq : Below V.heap.size V ((V.alloc (.cells (arr .i16 Z64) 37)).setRow V.heap.size (arr .i16 P0)) := below_setRow (bl1 V (.cells (arr .i16 Z64) 37)) (Nat.le_refl _) (arr .i16 P0)
      have HSq := Lib.hid (src_keep HS.out hbq)
      have HBq := Lib.hid (but_below (but_refl g V) (Nat.le_of_lt hgr) hbq)
      clear hbq
      go_wp2_with (first
        | (refine wpList_load_row rfl 37 (.tmp 4) rfl gp rfl _ _ _ _ HG.out Tryd.underlying37 rfl (by rw [szPrint, hsz0.out]) ?_)
        | (rw [z64_Z]; refine wpList_store_row rfl 37 (.tmp 7) (.tmp 22) rfl V.heap.size (arr .i16 P0) rfl rfl 37 (arr .i16 Z64) (al1_0 _ _) (by rw [szPrint, hsz0.out]) (by rw [hsz0.out, arr_size, Z64_length]) (arr_one _ _) ?_; generalize (V.alloc (.cells (arr .i16 Z64) 37)).setRow V.heap.size (arr .i16 P0) = w5 at *))
      refine (srcPick_c g (100 + 50 * (m0 - m)) 6 _ HSq.out (by omega) (by omega) (by omega)).mono ?_
      rintro e w6 ⟨x, rfl, x0, x1, hS6, hO6⟩
      have HS6 := Lib.hid hS6
      have HB6 := Lib.hid (but_only HBq.out hO6)
      have HQ6 := Lib.hid ((hO6.apart V.heap.size (by omega)).trans HQ.out)
      obtain ⟨xn, rfl⟩ : ∃ xn : Nat, x = xn := ⟨x.toNat, by omega⟩
      clear hS6 hO6 HSq HBq HQ
      go_wp2_with fail
      as_aux_lemma =>
        go_loopw [8, 9] (fun iv jv w2 => True ∧ ∃ (j : Nat) (P : List Int), j ≤ xn ∧ iv = .int .i64 j ∧ P.length = 64 ∧ okP P = true ∧ w2.heap[V.heap.size]? = some (.cells (arr .i16 P) 37 (0, 0)) ∧ Src w2 g (100 + 50 * (m0 - m) + 2 + 4 * (xn - j)) ∧ But g V w2) (fun iv _ _ => (intOf iv).toNat)
        case atStart => exact ⟨trivial, xn, P0, Nat.le_refl _, rfl, HL0.out, HO0.out, HQ6.out, src_mono HS6.out (by omega), HB6.out⟩
        case round =>
          clear HQ6 HS6 HB6
          obtain ⟨_, j, P, hj, rfl, hlP, hoP, hQ, hS, hB⟩ := hrel
          have HS2 := Lib.hid hS
          have HB2 := Lib.hid hB
          have HQ := Lib.hid hQ
          have HLP := Lib.hid hlP
          have HOP := Lib.hid hoP
          clear hS hB hQ hlP hoP
          by_cases hlj : 0 < j
          · have hj0 : (0 : Int) < j := by omega
            have hjw : IntKind.i64.wrap ((j : Int) - 1) = ((j - 1 : Nat) : Int) := by rw [Go.IntWalk.i64_in _ (by omega)]; omega
            go_wp2_with fail
            refine (srcPick_c g (100 + 50 * (m0 - m) + 2 + 4 * (xn - j)) 64 _ HS2.out (by omega) (by omega) (by omega)).mono ?_
            rintro e w8 ⟨a, rfl, a0, a1, hS8, hO8⟩
            have HS8 := Lib.hid hS8
            have HB8 := Lib.hid (but_only HB2.out hO8)
            have HQ8 := Lib.hid ((hO8.apart V.heap.size (by omega)).trans HQ.out)
            obtain ⟨an, rfl⟩ : ∃ an : Nat, a = an := ⟨a.toNat, by omega⟩
            clear hS8 hO8 HS2 HB2 HQ
            go_wp2_with fail
            refine (srcPick_c g (100 + 50 * (m0 - m) + 2 + 4 * (xn - j) + 2) 401 _ HS8.out (by omega) (by omega) (by omega)).mono ?_
            rintro e w9 ⟨y, rfl, y0, y1, hS9, hO9⟩
            have HS9 := Lib.hid hS9
            have HB9 := Lib.hid (but_only HB8.out hO9)
            have HQ9 := Lib.hid ((hO9.apart V.heap.size (by omega)).trans HQ8.out)
            have hw2 : IntKind.i16.wrap y = y := Go.IntWalk.i16_in _ (by omega)
            have hcell := arr_cell HQ9.out an (by rw [HLP.out]; omega)
            have hfr : w9.frozen? ⟨V.heap.size, an, none⟩ = false := frozen_of_row _ _ _ _ _ HQ9.out
            clear hS9 hO9 HS8 HB8 HQ8
            go_wp2
            go_roundw
            case rel =>
              exact ⟨trivial, j - 1, P.set an y, by omega, rfl, by rw [List.length_set, HLP.out], okP_set HOP.out an y0 (by omega), arr_store HQ9.out an _, src_mono (src_far HS9.out (by show g ≠ V.heap.size; omega) (by show g ≤ V.heap.size; omega)) (by omega), but_set HB9.out hgr (Nat.le_refl _) _ _⟩
            case measure => simp [intOf]; omega
          · have hj0 : ¬ (0 : Int) < j := by omega
            have hPq := okP_pr HLP.out HOP.out
            have HPq := Lib.hid hPq
            have HQ' : Hid (wr.heap[V.heap.size]? = some (.cells (cellsP P).toArray 37 (0, 0))) := Lib.hid HQ.out
            have hszP : Hid ((cellsP P).toArray.size = 64) := Lib.hid (by rw [List.size_toArray, cellsP_length, HLP.out])
            have hfold := fold_print P HLP.out
            have hlq : (cellsP P).length = 64 := (cellsP_length P).trans HLP.out
            rw [← z64_Z] at hfold
            have HRa := Lib.hid (rowP_alloc (rowP_but HR.out HB2.out (by omega)) (.cells (cellsP P).toArray 37))
            have HHa : Hid ((wr.alloc (.cells (cellsP P).toArray 37)).heap[wr.heap.size]? = some (.cells (flatP [P]).toArray 37 (0, 0))) := Lib.hid (by rw [flat_one]; exact (al1_0 wr (.cells (cellsP P).toArray 37)))
            have HGa := Lib.hid (heap_old (.cells (cellsP P).toArray 37) gp (Nat.lt_of_lt_of_le (show gp < V.heap.size by omega) HB2.out.below.size) ((HB2.out.apart gp (by omega) (by omega)).trans HG.out))
            have HSa := Lib.hid (src_keep HS2.out (bl1 wr (.cells (cellsP P).toArray 37)))
            have HBa := Lib.hid (bal (but_new HB.out HB2.out hg) (.cells (cellsP P).toArray 37))
            have hza : gp + 1 ≤ (wr.alloc (.cells (cellsP P).toArray 37)).heap.size := Nat.le_trans zr (Nat.le_trans HB2.out.below.size (by simp))
            clear hPq HS2 HB2
            go_wp2_with (first
              | (refine wpList_load_row rfl 37 (.tmp 7) rfl V.heap.size rfl _ _ _ _ HQ'.out Tryd.underlying37 rfl (by rw [szPrint, hszP.out]) ?_)
              | (at_builtin; refine wpList_appPs rfl (.tmp 36) (.tmp 38) 38 rfl (gp + 1) Tryd.underlying38 infoPrint _ l rfl HRa.out wr.heap.size 0 1 1 [P] rfl (Prs_one HPq.out) rfl (PrAt_block HHa.out (Prs_one HPq.out)) (by have := HLL.out; omega) hza ?_; intro v6 w6 hrow hgr6 hbk hnil hat; obtain ⟨p9, c9, rfl⟩ := rowP_any hrow; have hB6 := (Below.refl (gp + 1) _).grown hgr6 hza hbk; have HG6 := Lib.hid ((hB6.block gp (Nat.lt_succ_self _)).trans HGa.out); have HS6 := Lib.hid (src_keepB HSa.out hB6 (by omega)); have HB6 := Lib.hid (HBa.out.grown hgr6 HBa.out.size (fun k hk' => Nat.le_trans (show w.heap.size ≤ gp + 1 by omega) (hbk k hk'))); have z6 : gp + 1 ≤ w6.heap.size := Nat.le_trans hza hB6.size; have hlen : (l ++ [P]).length = nv + 1 := by {rw [List.length_append, ← HN.out]; rfl}; rw [hlen] at hrow ⊢; have HR6 := Lib.hid hrow; have HLn := Lib.hid hlen; clear hrow hgr6 hbk hnil hat hB6 hlen HRa HHa HGa HSa HBa hza))
            go_roundw
            case rel =>
              exact ⟨m - 1, p9, nv + 1, c9, l ++ [P], by omega, rfl, rfl, HLn.out.symm, by have := HLL.out; rw [HLn.out, HN.out, this]; omega, Prs_app HL.out HPq.out, okL_app HO.out HOP.out, HG6.out, HR6.out, z6, src_mono HS6.out (by omega), HB6.out⟩
            case measure => simp [intOf]; omega
    · have hm0 : ¬ (0 : Int) < m := by omega
      have HN1 : Hid (nv = m0) := Lib.hid (by rw [HN.out, HLL.out]; omega)
      go_wp2

      go_ret
      exact ⟨p, cv, l, by rw [← HN.out] <;> rfl, by rw [← HN.out, HN1.out]; exact hm1, by rw [← HN.out, HN1.out]; exact hm5, HL.out, HO.out, by rw [← HN.out]; exact rowP_mono HR.out (by omega), HB.out⟩
end Go.Proofs.YtdmlefccajaniaaDoor
