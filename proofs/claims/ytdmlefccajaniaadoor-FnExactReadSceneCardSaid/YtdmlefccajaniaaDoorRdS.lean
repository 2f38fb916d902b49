/- ReadScene: the reference. -/
import Derived.Test.YtdmlefccajaniaaDoorRdP
namespace Go.Proofs.YtdmlefccajaniaaDoor
open Go.RowKit
def Z24 : List Int := List.replicate 24 0
def zA : Array Value := arr .i8 Z24
theorem zA_eq : (#[.int .i8 0, .int .i8 0, .int .i8 0, .int .i8 0, .int .i8 0, .int .i8 0, .int .i8 0, .int .i8 0, .int .i8 0, .int .i8 0, .int .i8 0, .int .i8 0, .int .i8 0, .int .i8 0, .int .i8 0, .int .i8 0, .int .i8 0, .int .i8 0, .int .i8 0, .int .i8 0, .int .i8 0, .int .i8 0, .int .i8 0, .int .i8 0] : Array Value) = zA := rfl
theorem setRow_idR (w : World) (g : Nat) (cs : Array Value) (t : TypeId) (fr : Nat × Nat) (hg : w.heap[g]? = some (.cells cs t fr)) : w.setRow g cs = w := by
  have hlt : g < w.heap.size := (Array.getElem?_eq_some_iff.1 hg).1
  have hv : w.heap[g] = .cells cs t fr := (Array.getElem?_eq_some_iff.1 hg).2
  have e : (w.setRow g cs).heap = w.heap := by
    unfold World.setRow
    apply Array.ext
    · simp
    · intro k h1 h2
      simp only [Array.getElem_modify]
      split
      · rename_i hk; subst hk; simp [hv]
      · rfl
  have : w.setRow g cs = { w with heap := (w.setRow g cs).heap } := rfl
  rw [this, e]
theorem rep_ct {P : Program} {fn : Func} {p t : Tmp} {ty : TypeId} (h : fn.results = #[.cell p ty, .tmp t]) (tmps : Array Value) (w : World) (g : Nat) (tt : TypeId) (cs : Array Value) (fr : Nat × Nat) (d : TypeDesc)
    (hp : tmps.getD p undef = .pointer (some ⟨g, 0, none⟩)) (hg : w.heap[g]? = some (.cells cs tt fr))
    (hu : P.underlying ty = some d) (hd : (match d with | .struct _ | .array _ _ => true | _ => false) = true) (hi : (P.info? ty).map (·.size) = some cs.size) :
    (results fn tmps).run P w = .ok (.tuple #[.agg cs, tmps.getD t undef]) w := by
  have hp' : tmps[p]?.getD undef = .pointer (some ⟨g, 0, none⟩) := by simpa using hp
  simp [results, h, hp', asAddr, run_loadVar_row w g tt ty cs fr d hg hu hd hi]
theorem spL_ne (s : ByteArray) (c : Nat) : spL s c ≠ [] := by simp [spL]
theorem spL_le (s : ByteArray) (c : Nat) : (spL s c).length ≤ s.size + 1 := by
  have := (spO_le s c s.size).2
  simp [spL]; omega
/-- Strings that lie in a block. -/
structure StrAt (w : World) (g : Nat) (l : List ByteArray) : Prop where
  lt : g < w.heap.size
  at_ : ∀ (j : Nat) x, l[j]? = some x → w.cell? ⟨g, 0 + j, none⟩ = some (.string x)
theorem strAt_below {w w1 : World} {g : Nat} {l : List ByteArray} (hb : Below w.heap.size w w1) (h : StrAt w g l) : StrAt w1 g l :=
  ⟨Nat.lt_of_lt_of_le h.lt hb.size, fun j x hx => by rw [hb.cell (p := ⟨g, 0 + j, none⟩) h.lt]; exact h.at_ j x hx⟩
theorem strAt_set {w : World} {g g5 i : Nat} {l : List ByteArray} (hne : g ≠ g5) (u : Value) (h : StrAt w g l) : StrAt (w.setCell ⟨g5, i, none⟩ u) g l :=
  ⟨by simpa using h.lt, fun j x hx => by rw [World.cell?_setCell_other _ _ _ _ (by intro e; injection e with e1; exact hne e1.symm)]; exact h.at_ j x hx⟩
theorem rowS_ge {w : World} {base : Nat} {v : Value} {l : List ByteArray} (h : RowS w base v l) (hne : l ≠ []) : ∃ g cap, v = .slice (some ⟨g, 0, none⟩) l.length cap ∧ base ≤ g := by
  obtain ⟨h1, h2⟩ := h
  rcases h2 with ⟨_, h2⟩ | ⟨g, cap, cur, hv, hg, _⟩
  · exact absurd (List.length_eq_zero_iff.1 h2) hne
  · exact ⟨g, cap, hv, hg⟩
def OKy (t : ByteArray) (y : Nat) : Prop := ∀ z, z < y → (spL (rowW t z) 32).length = 6 ∧ ∀ x, x < 6 → (numV (wordW t z x)).2 = true ∧ (numV (wordW t z x)).1 ≤ 60
def OKx (t : ByteArray) (y x : Nat) : Prop := ∀ z, z < x → (numV (wordW t y z)).2 = true ∧ (numV (wordW t y z)).1 ≤ 60
def prT (t : ByteArray) (k : Nat) : List Int := (rdL t).take k ++ List.replicate (24 - k) 0
theorem prT_len (t : ByteArray) (k : Nat) (h : k ≤ 24) : (prT t k).length = 24 := by simp [prT, rdL_length]; omega
theorem prT_full (t : ByteArray) : prT t 24 = rdL t := by unfold prT; rw [List.take_of_length_le (Nat.le_of_eq (rdL_length t))]; simp
theorem prT_zero (t : ByteArray) : prT t 0 = Z24 := by simp [prT, Z24]
theorem prT_set (t : ByteArray) (k : Nat) (h : k < 24) (x : Int) (hx : x = (rdL t).getD k 0) : (prT t k).set k x = prT t (k + 1) := by
  subst hx
  exact set_step (rdL t) k 24 (rdL_length t) h 0
set_option maxHeartbeats 4000000 in
set_option maxRecDepth 100000 in
theorem specRS_c (t : ByteArray) (hm : t.size ≤ 1048576) (hms : ∀ y, (rowW t y).size ≤ 1048576) (w : World) :
    Calls Tryd.prog 40 #[.string t] w fun e w' => e = .returned (.tuple #[.agg (arr .i8 (rsV t).1), .int .i64 (rsV t).2]) ∧ Below w.heap.size w w' := by
  have K0 := Lib.hid (al1_0 w (.cells zA 64))
  have B0 := Lib.hid (bl1 w (.cells zA 64))
  have HMS := Lib.hid hms
  clear hms
  go_enter Tryd.func40, Tryd.ntmps40
  go_wp2_with (rw [zA_eq]; generalize w.alloc (.cells zA 64) = wa at *)
  refine (l01Split_c t 47 (by omega) hm wa).mono ?_
  rintro e w1 ⟨v1, rfl, hR, hb1⟩
  obtain ⟨gr, cr, hv1, hg1, hc1, hat1⟩ := rowS_shape hR (spL_ne t 47)
  subst hv1
  obtain ⟨nr, hnr⟩ : ∃ nr, nr = (spL t 47).length := ⟨_, rfl⟩
  have HNR := Lib.hid hnr
  rw [← hnr]
  have hnle : nr ≤ 1048577 := by rw [hnr]; exact Nat.le_trans (spL_le t 47) (by omega)
  have S1 : StrAt w1 gr (spL t 47) := ⟨hg1, hat1⟩
  have HS := Lib.hid (strAt_below (bl1 w1 (.cells zA 64)) S1)
  have H2 := Lib.hid (heap_old (.cells zA 64) _ (lt_of_heap (heap_below hb1 (lt_of_heap K0.out) K0.out)) (heap_below hb1 (lt_of_heap K0.out) K0.out))
  have H5 := Lib.hid (al1_0 w1 (.cells zA 64))
  have HB := Lib.hid (bal (bt B0.out hb1) (.cells zA 64))
  have hgne : gr ≠ w1.heap.size := Nat.ne_of_lt hg1
  have h25 : w.heap.size ≠ w1.heap.size := Nat.ne_of_lt (Nat.lt_of_lt_of_le (lt_of_heap K0.out) hb1.size)
  have hw5 : w.heap.size ≤ w1.heap.size := Nat.le_of_lt (Nat.lt_of_lt_of_le (lt_of_heap K0.out) hb1.size)
  clear hR hb1 hat1 hc1 hg1 S1 K0 B0 hnr
  by_cases h4 : nr = 4
  · subst h4
    go_wp2_with (rw [zA_eq]; refine wpList_store_row rfl 64 (.tmp 5) (.tmp 13) rfl w1.heap.size zA rfl rfl _ zA H5.out (by rw [szScene]; rfl) rfl (arr_one .i8 Z24) ?_; rw [setRow_idR _ _ _ _ _ H5.out]; generalize (w1.alloc (.cells zA 64)) = w2 at *; generalize w1.heap.size = g5 at *)
    as_aux_lemma =>
      go_loopw [6] (fun iv wr => True ∧ ∃ y : Nat, y ≤ 4 ∧ iv = .int .i64 y ∧ wr.heap[w.heap.size]? = some (.cells zA 64 (0, 0)) ∧ wr.heap[g5]? = some (.cells (arr .i8 (prT t (6 * y))) 64 (0, 0)) ∧ StrAt wr gr (spL t 47) ∧ OKy t y ∧ Below w.heap.size w wr) (fun iv _ => 4 - (intOf iv).toNat)
      case atStart => exact ⟨trivial, 0, by omega, rfl, H2.out, by rw [Nat.mul_zero, prT_zero]; exact H5.out, HS.out, fun z hz => absurd hz (Nat.not_lt_zero _), HB.out⟩
      case round =>
        clear H2 H5 HS HB
        obtain ⟨V, rfl⟩ : ∃ V, V = wr := ⟨_, rfl⟩
        obtain ⟨_, y, hy, rfl, h2, h5, hs, hok, hB⟩ := hrel
        have H2 := Lib.hid h2
        have H5 := Lib.hid h5
        have HS := Lib.hid hs
        have HO := Lib.hid hok
        have HB := Lib.hid hB
        clear h2 h5 hs hok hB
        by_cases hlt : y < 4
        · have hy4 : (y : Int) < 4 := by omega
          have hrow : (spL t 47)[y]? = some (rowW t y) := by
            unfold rowW; rw [List.getD_eq_getElem?_getD, List.getElem?_eq_getElem (by rw [← HNR.out]; exact hlt)]; rfl
          have c1 := HS.out.at_ y _ hrow
          rw [Nat.zero_add] at c1
          have hms := HMS.out y
          obtain ⟨row, hrw⟩ : ∃ row, row = rowW t y := ⟨_, rfl⟩
          have HRW := Lib.hid hrw
          rw [← hrw] at c1 hms
          have hg5V := lt_of_heap H5.out
          clear hrow hrw
          go_wp2_with fail
          refine (l01Split_c row 32 (by omega) hms V).mono ?_
          rintro e w3 ⟨v3, rfl, hR, hb3⟩
          obtain ⟨gw, cw, hv3, hg3, hc3, hat3⟩ := rowS_shape hR (spL_ne row 32)
          obtain ⟨gw', cw', hv3', hge⟩ := rowS_ge hR (spL_ne row 32)
          rw [hv3] at hv3'
          simp only [Value.slice.injEq, Option.some.injEq, Addr.mk.injEq, and_true, true_and] at hv3'
          obtain ⟨rfl, -⟩ := hv3'
          subst hv3
          obtain ⟨nw, hnw⟩ : ∃ nw, nw = (spL row 32).length := ⟨_, rfl⟩
          have HNW := Lib.hid hnw
          rw [← hnw]
          have hnle2 : nw ≤ 1048577 := by rw [hnw]; exact Nat.le_trans (spL_le row 32) (by omega)
          have HW := Lib.hid (StrAt.mk hg3 hat3)
          have hgw5 : gw ≠ g5 := by omega
          have hs3 := strAt_below hb3 HS.out
          have h23 := heap_below hb3 (lt_of_heap H2.out) H2.out
          have h53 := heap_below hb3 (lt_of_heap H5.out) H5.out
          have hB3 := bt HB.out hb3
          clear hR hb3 hat3 hc3 hg3 hge hnw c1 hms H2 H5 HS HB
          have H2 := Lib.hid h23
          have H5 := Lib.hid h53
          have HS := Lib.hid hs3
          have HB := Lib.hid hB3
          clear h23 h53 hs3 hB3
          by_cases h6 : nw = 6
          · subst h6
            go_wp2_with fail
            as_aux_lemma =>
              go_loopw [8] (fun jv wr => True ∧ ∃ x : Nat, x ≤ 6 ∧ jv = .int .i64 x ∧ wr.heap[w.heap.size]? = some (.cells zA 64 (0, 0)) ∧ wr.heap[g5]? = some (.cells (arr .i8 (prT t (x + 6 * y))) 64 (0, 0)) ∧ StrAt wr gr (spL t 47) ∧ StrAt wr gw (spL row 32) ∧ OKx t y x ∧ Below w.heap.size w wr) (fun jv _ => 6 - (intOf jv).toNat)
              case atStart => exact ⟨trivial, 0, by omega, rfl, H2.out, by rw [Nat.zero_add]; exact H5.out, HS.out, HW.out, fun z hz => absurd hz (Nat.not_lt_zero _), HB.out⟩
              case round =>
                clear H2 H5 HS HB HW
                obtain ⟨_, x, hx, rfl, h2, h5, hs, hw, hok, hB⟩ := hrel
                have H2 := Lib.hid h2
                have H5 := Lib.hid h5
                have HS := Lib.hid hs
                have HW := Lib.hid hw
                have HX := Lib.hid hok
                have HB := Lib.hid hB
                clear h2 h5 hs hw hok hB
                by_cases hlx : x < 6
                · have hx6 : (x : Int) < 6 := by omega
                  have hword : (spL row 32)[x]? = some (wordW t y x) := by
                    unfold wordW; rw [← HRW.out, List.getD_eq_getElem?_getD, List.getElem?_eq_getElem (by rw [← HNW.out]; exact hlx)]; rfl
                  have c1 := HW.out.at_ x _ hword
                  rw [Nat.zero_add] at c1
                  have hget := rdL_get t y x hlt hlx
                  rw [Nat.add_comm] at hget
                  have hset := prT_set t (x + 6 * y) (by omega) _ hget.symm
                  have hok2 : ∀ h : (numV (wordW t y x)).2 = true ∧ (numV (wordW t y x)).1 ≤ 60, OKx t y (x + 1) := fun h z hz => by
                    by_cases e : z = x
                    · subst e; exact h
                    · exact HX.out z (by omega)
                  have hno : ∀ h : ¬ ((numV (wordW t y x)).2 = true ∧ (numV (wordW t y x)).1 ≤ 60), ¬ RdOk t := fun h hr => h (hr.num y x hlt hlx)
                  generalize wordW t y x = wd at *
                  clear hword hget
                  cases hnv : numV wd with
                  | mk n b =>
                    rw [hnv] at hset hok2 hno
                    have HNV := Lib.hid hnv
                    clear hnv
                    cases b
                    · have HV := Lib.hid (rsV_no (hno (fun h => by cases h.1)))
                      have HRd : Hid (True) := Lib.hid trivial
                      clear hok2 hno hset
                      go_wp2_with fail
                      refine (l01Number_c wd _).mono ?_
                      rw [HNV.out]
                      rintro e4 w4 ⟨rfl, rfl⟩
                      go_wp2_with (first
                        | (go_at_call 77; refine (l06Reading_c _ _).mono ?_; rintro e5 w5 ⟨rfl, rfl⟩; rw [HRd.out])
                        | (rw [zA_eq]; refine wpList_store_row rfl 64 (.tmp 2) (.tmp 54) rfl w.heap.size zA rfl rfl _ zA H2.out (by rw [szScene]; rfl) rfl (arr_one .i8 Z24) ?_; rw [setRow_idR _ _ _ _ _ H2.out]))
                      exact bodyPost_ret (rep_ct rfl _ _ _ 64 _ _ _ rfl H2.out Tryd.underlying64 rfl (by rw [szScene]; rfl)) rfl ⟨by rw [HV.out] <;> rfl, HB.out⟩
                    · by_cases h60 : n ≤ 60
                      · have hrd : rdB (n : Int) = true := (rdB_iff _).2 ⟨by omega, by omega⟩
                        have HRd := Lib.hid hrd
                        have HOK := Lib.hid (hok2 ⟨rfl, h60⟩)
                        have HSet := Lib.hid hset
                        have hw8 : IntKind.i8.wrap (n : Int) = n := Go.IntWalk.i8_in _ (by omega)
                        have hi1 : IntKind.i64.wrap (6 * (y : Int)) = ((6 * y : Nat) : Int) := by rw [Go.IntWalk.i64_in _ (by omega)]; omega
                        have hi2 : IntKind.i64.wrap ((x : Int) + ((6 * y : Nat) : Int)) = ((x + 6 * y : Nat) : Int) := by rw [Go.IntWalk.i64_in _ (by omega)]; omega
                        have hcell := arr_cell H5.out (x + 6 * y) (by rw [prT_len t _ (by omega)]; omega)
                        have hfr : wr.frozen? ⟨g5, x + 6 * y, none⟩ = false := frozen_of_row _ _ _ _ _ H5.out
                        clear hok2 hno hset hrd
                        go_wp2_with fail
                        refine (l01Number_c wd _).mono ?_
                        rw [HNV.out]
                        rintro e4 w4 ⟨rfl, rfl⟩
                        go_wp2_with (go_at_call 77; refine (l06Reading_c _ _).mono ?_; rintro e5 w5 ⟨rfl, rfl⟩; rw [HRd.out])
                        go_roundw
                        case rel => exact ⟨trivial, x + 1, by omega, by go_num, heap_far _ (by show w.heap.size ≠ g5; omega) H2.out, by rw [show x + 1 + 6 * y = x + 6 * y + 1 by omega, ← HSet.out]; exact arr_store H5.out _ _, strAt_set hgne _ HS.out, strAt_set hgw5 _ HW.out, HOK.out, HB.out.setCell (by show w.heap.size ≤ g5; omega) _⟩
                        case measure => simp [intOf]; omega
                      · have hrd : rdB (n : Int) = false := by
                          cases e : rdB (n : Int)
                          · rfl
                          · have := ((rdB_iff _).1 e).2; omega
                        have HRd := Lib.hid hrd
                        have HV := Lib.hid (rsV_no (hno (fun h => h60 h.2)))
                        clear hok2 hno hset hrd
                        go_wp2_with fail
                        refine (l01Number_c wd _).mono ?_
                        rw [HNV.out]
                        rintro e4 w4 ⟨rfl, rfl⟩
                        go_wp2_with (first
                          | (go_at_call 77; refine (l06Reading_c _ _).mono ?_; rintro e5 w5 ⟨rfl, rfl⟩; rw [HRd.out])
                          | (rw [zA_eq]; refine wpList_store_row rfl 64 (.tmp 2) (.tmp 54) rfl w.heap.size zA rfl rfl _ zA H2.out (by rw [szScene]; rfl) rfl (arr_one .i8 Z24) ?_; rw [setRow_idR _ _ _ _ _ H2.out]))
                        exact bodyPost_ret (rep_ct rfl _ _ _ 64 _ _ _ rfl H2.out Tryd.underlying64 rfl (by rw [szScene]; rfl)) rfl ⟨by rw [HV.out] <;> rfl, HB.out⟩
                · have hx6 : ¬ (x : Int) < 6 := by omega
                  have hxe : x = 6 := by omega
                  subst hxe
                  have HOK : Hid (OKy t (y + 1)) := Lib.hid fun z hz => by
                    by_cases e : z = y
                    · subst e; exact ⟨by rw [← HRW.out, ← HNW.out], HX.out⟩
                    · exact HO.out z (by omega)
                  go_wp2
                  go_roundw
                  case rel => exact ⟨trivial, y + 1, by omega, by go_num, H2.out, by rw [show 6 * (y + 1) = 6 + 6 * y by omega]; exact H5.out, HS.out, HOK.out, HB.out⟩
                  case measure => simp [intOf]; omega
          · have h6i : ((nw : Int) != 6) = true := by simp; omega
            have HV := Lib.hid (rsV_no (t := t) (fun h => h6 (by rw [HNW.out, HRW.out]; exact h.words y hlt)))
            go_wp2_with (rw [zA_eq]; refine wpList_store_row rfl 64 (.tmp 2) (.tmp 32) rfl w.heap.size zA rfl rfl _ zA H2.out (by rw [szScene]; rfl) rfl (arr_one .i8 Z24) ?_; rw [setRow_idR _ _ _ _ _ H2.out])
            exact bodyPost_ret (rep_ct rfl _ _ _ 64 _ _ _ rfl H2.out Tryd.underlying64 rfl (by rw [szScene]; rfl)) rfl ⟨by rw [HV.out] <;> rfl, HB.out⟩
        · have hy4 : ¬ (y : Int) < 4 := by omega
          have hye : y = 4 := by omega
          subst hye
          have H5f : Hid (V.heap[g5]? = some (.cells (arr .i8 (rdL t)) 64 (0, 0))) := Lib.hid (by have := H5.out; rwa [show 6 * 4 = 24 from rfl, prT_full] at this)
          have HV := Lib.hid (rsV_yes (t := t) ⟨HNR.out.symm, fun z hz => (HO.out z hz).1, fun z x hz hx => (HO.out z hz).2 x hx⟩)
          have hszr : Hid ((arr .i8 (rdL t)).size = 24) := Lib.hid (by rw [arr_size, rdL_length])
          go_wp2_with (first
            | (refine wpList_load_row rfl 64 (.tmp 5) rfl _ rfl _ _ _ _ H5f.out Tryd.underlying64 rfl (by rw [szScene, hszr.out]) ?_)
            | (refine wpList_store_row rfl 64 (.tmp 2) (.tmp 62) rfl w.heap.size (arr .i8 (rdL t)) rfl rfl _ zA H2.out (by rw [szScene, hszr.out]) (by rw [hszr.out]; rfl) (arr_one _ _) ?_))
          exact bodyPost_ret (rep_ct rfl _ _ _ 64 _ _ _ rfl (setRow_heap _ _ _ _ _ _ H2.out) Tryd.underlying64 rfl (by rw [szScene, hszr.out])) rfl ⟨by rw [HV.out] <;> rfl, below_setRow HB.out (Nat.le_refl _) _⟩
  · have h4i : ((nr : Int) != 4) = true := by simp; omega
    have HV := Lib.hid (rsV_no (t := t) (fun h => h4 (by rw [HNR.out]; exact h.rows)))
    go_wp2_with (first
      | (rw [zA_eq]; refine wpList_store_row rfl 64 (.tmp 5) (.tmp 13) rfl w1.heap.size zA rfl rfl _ zA H5.out (by rw [szScene]; rfl) rfl (arr_one .i8 Z24) ?_; rw [setRow_idR _ _ _ _ _ H5.out]; generalize (w1.alloc (.cells zA 64)) = w2 at *; generalize w1.heap.size = g5 at *)
      | (refine wpList_load_row rfl 64 (.tmp 5) rfl _ rfl _ _ _ _ H5.out Tryd.underlying64 rfl (by rw [szScene]; rfl) ?_)
      | (refine wpList_store_row rfl 64 (.tmp 2) (.tmp 17) rfl w.heap.size zA rfl rfl _ zA H2.out (by rw [szScene]; rfl) rfl (arr_one .i8 Z24) ?_; rw [setRow_idR _ _ _ _ _ H2.out]))
    exact bodyPost_ret (rep_ct rfl _ _ _ 64 _ _ _ rfl H2.out Tryd.underlying64 rfl (by rw [szScene]; rfl)) rfl ⟨by rw [HV.out] <;> rfl, HB.out⟩
end Go.Proofs.YtdmlefccajaniaaDoor
