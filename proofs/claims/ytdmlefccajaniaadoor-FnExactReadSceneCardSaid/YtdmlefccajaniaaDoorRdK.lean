/- ReadScene: the program. -/
import Derived.Test.YtdmlefccajaniaaDoorRdJ
import Derived.Lib.SmallJoins
import Derived.Test.YtdmlefccajaniaaDoorEqArr
namespace Go.Proofs.YtdmlefccajaniaaDoor
open Go.RowKit
/-- What the library's variables hold. -/
structure EV (w : World) : Prop where
  len : 4 ≤ w.heap.size
  max : ∃ m : Int, w.cell? ⟨3, 0, none⟩ = some (.int .i64 m)
  syn : ∃ te pe, w.cell? ⟨1, 0, none⟩ = some (.iface te pe)
  rng : ∃ te pe, w.cell? ⟨2, 0, none⟩ = some (.iface te pe)
theorem ev_below {w w1 : World} (hb : Below w.heap.size w w1) (h : EV w) : EV w1 := by
  have hl := h.len
  obtain ⟨m, hm⟩ := h.max
  obtain ⟨a, b, h1⟩ := h.syn
  obtain ⟨c, d, h2⟩ := h.rng
  exact ⟨Nat.le_trans hl hb.size, ⟨m, by rw [hb.cell (p := ⟨3, 0, none⟩) (by show 3 < _; omega)]; exact hm⟩, ⟨a, b, by rw [hb.cell (p := ⟨1, 0, none⟩) (by show 1 < _; omega)]; exact h1⟩, ⟨c, d, by rw [hb.cell (p := ⟨2, 0, none⟩) (by show 2 < _; omega)]; exact h2⟩⟩
theorem ev_set {w : World} {g i : Nat} (hg : 4 ≤ g) (u : Value) (h : EV w) : EV (w.setCell ⟨g, i, none⟩ u) := by
  obtain ⟨m, hm⟩ := h.max
  obtain ⟨a, b, h1⟩ := h.syn
  obtain ⟨c, d, h2⟩ := h.rng
  have hne : ∀ k, k < 4 → (w.setCell ⟨g, i, none⟩ u).cell? ⟨k, 0, none⟩ = w.cell? ⟨k, 0, none⟩ := fun k hk => World.cell?_setCell_other _ _ _ _ (by intro e; injection e with e1; omega)
  exact ⟨by simpa using h.len, ⟨m, by rw [hne 3 (by omega)]; exact hm⟩, ⟨a, b, by rw [hne 1 (by omega)]; exact h1⟩, ⟨c, d, by rw [hne 2 (by omega)]; exact h2⟩⟩
/-- ParseInt at 8 bits: a number and no error, or some number and an error. -/
theorem parseInt8_c (s : ByteArray) (hz : s.size ≤ 1048576) (w : World) (hE : EV w) :
    Calls Tryd.prog 80 #[.string s, .int .i64 10, .int .i64 8] w fun e w' => ((∃ v, pI s = some v ∧ e = .returned (.tuple #[.int .i64 v, .nilIface])) ∨ (pI s = none ∧ ∃ x te pe, e = .returned (.tuple #[.int .i64 x, .iface te pe]))) ∧ Below w.heap.size w w' := by
  obtain ⟨a, b, h1⟩ := hE.syn
  obtain ⟨c, d, h2⟩ := hE.rng
  cases hp : Lib.parseIntB 8 s.data.toList with
  | ok v =>
    refine (Go.Proofs.Tryd.strconv_ParseInt_10_at8_ok s (by omega) v hp w).mono fun e w' ⟨he, hw⟩ => ⟨Or.inl ⟨v, by unfold pI; rw [hp], he⟩, ?_⟩
    rcases hw with rfl | ⟨t, rfl⟩
    · exact Below.refl _ _
    · exact Go.Joins.below_bytesWorld _ _ _ _ (Nat.le_refl _)
  | «syntax» =>
    refine (Go.Proofs.Tryd.strconv_ParseInt_10_at8_syntax s (by omega) hp _ w h1 (Or.inr ⟨a, b, rfl⟩)).mono ?_
    rintro e w' ⟨N, he, _, _, hb⟩
    exact ⟨Or.inr ⟨by unfold pI; rw [hp], _, _, _, he⟩, hb⟩
  | range =>
    refine (Go.Proofs.Tryd.strconv_ParseInt_10_at8_range s (by omega) hp _ w h2 (Or.inr ⟨c, d, rfl⟩)).mono ?_
    rintro e w' ⟨N, he, _, _, hb⟩
    exact ⟨Or.inr ⟨by unfold pI; rw [hp], _, _, _, he⟩, hb⟩
def okI (L : List ByteArray) (i : Nat) : Prop := ∀ j, j < i → (pI (L.getD j ⟨#[]⟩)).isSome = true ∧ j ≠ 24
theorem okI_succ {L : List ByteArray} {i : Nat} (h : okI L i) (h1 : (pI (L.getD i ⟨#[]⟩)).isSome = true) (h2 : i ≠ 24) : okI L (i + 1) := fun j hj => by
  by_cases e : j = i
  · subst e; exact ⟨h1, h2⟩
  · exact h j (by omega)
/-- If the reference reads the text, each word is a number, and there are 24. -/
theorem rd_all {t : ByteArray} (h : RdOk t) : (wrdL t).length = 24 ∧ (∀ i, i < 24 → (pI ((wrdL t).getD i ⟨#[]⟩)).isSome = true) ∧ iX (wrdL t) 24 = rdL t := by
  have hA := okS_all (rd_ok h)
  rw [rd_words h]
  refine ⟨allW_len _, fun i hi => ?_, iX_full (rdL_length t) hA⟩
  rw [allW_get _ i hi, pI_dg (hA i)]; rfl
theorem wrd_size (t : ByteArray) : (wrdL t).length ≤ 25 := by
  have := Lib.splitB_length_le ⟨#[32]⟩ 0 (min 25 ((repT t).size + 1) - 1) (repT t)
  unfold wrdL
  omega
theorem strAt_cells (w : World) (L : List ByteArray) (N : Nat) : StrAt (w.alloc (.cells (Lib.cellsOf L N) 9)) w.heap.size L :=
  ⟨by simp, fun j x hx => by
    rw [Nat.zero_add, cell_of_row _ _ _ _ _ _ (al1_0 _ _)]
    unfold Lib.cellsOf
    have hj : j < L.length := (List.getElem?_eq_some_iff.1 hx).1
    rw [List.getElem?_toArray, List.getElem?_append_left (by simpa using hj), List.getElem?_map, hx]; rfl⟩
set_option maxHeartbeats 4000000 in
set_option maxRecDepth 100000 in
theorem implRS_c (t : ByteArray) (hm : t.size ≤ 1048576) (hws : ∀ i, ((wrdL t).getD i ⟨#[]⟩).size ≤ 1048576) (w : World) (hE : EV w) :
    Calls Tryd.prog 41 #[.string t] w fun e w' => e = .returned (.tuple #[.agg (arr .i8 (rsV t).1), .int .i64 (rsV t).2]) ∧ Below w.heap.size w w' := by
  have h4 := hE.len
  have K2 := Lib.hid (heap_old (.cells zA 64) _ (lt_of_heap (al1_0 w (.cells zA 64))) (al1_0 w (.cells zA 64)))
  have K4 := Lib.hid (al2_1 w (.cells zA 64) (.cells zA 64))
  have B0 := Lib.hid (bl2 w (.cells zA 64) (.cells zA 64))
  have E0 := Lib.hid (ev_below (bl2 w (.cells zA 64) (.cells zA 64)) hE)
  have hrs := repT_size t
  have HWS := Lib.hid hws
  clear hE hws
  go_enter Tryd.func41, Tryd.ntmps41
  go_wp2_with (rw [zA_eq]; refine wpList_store_row rfl 64 (.tmp 4) (.tmp 9) rfl _ zA rfl rfl _ zA K4.out (by rw [szScene]; rfl) rfl (arr_one .i8 Z24) ?_; rw [setRow_idR _ _ _ _ _ K4.out]; generalize ((w.alloc (.cells zA 64)).alloc (.cells zA 64)) = wa at *)
  obtain ⟨m, hmx⟩ := E0.out.max
  refine (Go.Proofs.Tryd.strings_ReplaceAll t ⟨#[47]⟩ ⟨#[32]⟩ m wa (by omega) hmx (by decide) (by
    have := Lib.count_le t.data.toList [47]
    have e1 : t.data.toList.length = t.size := Array.length_toList
    have e2 : (⟨#[32]⟩ : ByteArray).size = 1 := rfl
    have e3 : Lib.countB t ⟨#[47]⟩ = Lib.count t.data.toList [47] := rfl
    rw [e2, e3]; omega)).mono ?_
  rintro e w1 ⟨rfl, hb1⟩
  have hwl : Hid (wrdL t = Lib.splitB ⟨#[32]⟩ 0 (min 25 ((repT t).size + 1) - 1) (repT t)) := Lib.hid rfl
  have hre : (⟨(Lib.replaceAll t.data.toList (⟨#[47]⟩ : ByteArray).data.toList (⟨#[32]⟩ : ByteArray).data.toList).toArray⟩ : ByteArray) = repT t := rfl
  rw [hre]
  have E1 := Lib.hid (ev_below hb1 E0.out)
  have K21 := Lib.hid (heap_below hb1 (lt_of_heap K2.out) K2.out)
  have K41 := Lib.hid (heap_below hb1 (lt_of_heap K4.out) K4.out)
  have B1 := Lib.hid (bt B0.out hb1)
  clear hb1 E0 K2 K4 B0 hre hmx
  generalize repT t = R at *
  obtain ⟨m1, hmx1⟩ := E1.out.max
  go_wp2_with fail
  refine (Go.Proofs.Tryd.strings_SplitN R ⟨#[32]⟩ 25 m1 w1 (by omega) hmx1 (by decide) (by omega) (by omega)).mono ?_
  rintro e w2 ⟨rfl, rfl⟩
  rw [← hwl.out]
  have HS := Lib.hid (strAt_cells w1 (wrdL t) (min 25 (R.size + 1)))
  have hb2 := bl1 w1 (.cells (Lib.cellsOf (wrdL t) (min 25 (R.size + 1))) 9)
  have E2 := Lib.hid (ev_below hb2 E1.out)
  have K2 := Lib.hid (heap_below hb2 (lt_of_heap K21.out) K21.out)
  have K4 := Lib.hid (heap_below hb2 (lt_of_heap K41.out) K41.out)
  have HB := Lib.hid (bt B1.out hb2)
  have hgw : w.heap.size + 1 < w1.heap.size := lt_of_heap K41.out
  have hn25 := wrd_size t
  obtain ⟨n, hn⟩ : ∃ n, n = (wrdL t).length := ⟨_, rfl⟩
  have HN := Lib.hid hn
  rw [← hn] at hn25 ⊢
  generalize (w1.alloc (.cells (Lib.cellsOf (wrdL t) (min 25 (R.size + 1))) 9)) = w2 at *
  generalize w1.heap.size = gw at *
  generalize min 25 (R.size + 1) = cw at *
  have hne2 : w.heap.size + 1 ≠ gw := by omega
  clear hb2 E1 K21 K41 B1 hn hmx1 hwl hrs
  go_wp2_with fail
  as_aux_lemma =>
    go_loopw [14] (fun iv wr => True ∧ ∃ i : Nat, i ≤ n ∧ iv = .int .i64 i ∧ wr.heap[w.heap.size]? = some (.cells zA 64 (0, 0)) ∧ wr.heap[w.heap.size + 1]? = some (.cells (arr .i8 (iX (wrdL t) i)) 64 (0, 0)) ∧ StrAt wr gw (wrdL t) ∧ okI (wrdL t) i ∧ EV wr ∧ Below w.heap.size w wr) (fun iv _ => n - (intOf iv).toNat)
    case atStart => exact ⟨trivial, 0, Nat.zero_le _, rfl, K2.out, K4.out, HS.out, fun j hj => absurd hj (Nat.not_lt_zero _), E2.out, HB.out⟩
    case round =>
      clear K2 K4 HS E2 HB
      obtain ⟨_, i, hi, rfl, k2, k4, hs, hok, hev, hB⟩ := hrel
      have K2 := Lib.hid k2
      have K4 := Lib.hid k4
      have HS := Lib.hid hs
      have HO := Lib.hid hok
      have HE := Lib.hid hev
      have HB := Lib.hid hB
      clear k2 k4 hs hok hev hB
      by_cases hlt : i < n
      · have hin : (i : Int) < n := by omega
        have hget : (wrdL t)[i]? = some ((wrdL t).getD i ⟨#[]⟩) := by
          rw [List.getD_eq_getElem?_getD, List.getElem?_eq_getElem (by rw [← HN.out]; exact hlt)]; rfl
        have c1 := HS.out.at_ i _ hget
        rw [Nat.zero_add] at c1
        have hsz := HWS.out i
        have hnx := Lib.hid (show iX (wrdL t) (i + 1) = (iX (wrdL t) i).set i (i8w ((pI ((wrdL t).getD i ⟨#[]⟩)).getD 0)) from rfl)
        have hsome := fun h1 h2 => okI_succ HO.out (i := i) h1 h2
        have hrd := fun (h : RdOk t) => rd_all h
        have hrd1 : ∀ h : RdOk t, (pI ((wrdL t).getD i ⟨#[]⟩)).isSome = true ∧ n = 24 := fun h => ⟨(rd_all h).2.1 i (by have := (rd_all h).1; have := HN.out; omega), by rw [HN.out]; exact (rd_all h).1⟩
        generalize (wrdL t).getD i ⟨#[]⟩ = wd at *
        clear hget hrd
        go_wp2_with fail
        refine (parseInt8_c wd hsz _ HE.out).mono ?_
        rintro e w5 ⟨hres, hb5⟩
        have K25 := Lib.hid (heap_below hb5 (lt_of_heap K2.out) K2.out)
        have K45 := Lib.hid (heap_below hb5 (lt_of_heap K4.out) K4.out)
        have HS5 := Lib.hid (strAt_below hb5 HS.out)
        have HE5 := Lib.hid (ev_below hb5 HE.out)
        have HB5 := Lib.hid (bt HB.out hb5)
        clear hb5 K2 K4 HS HE HB hsz c1
        rcases hres with ⟨v, hpv, rfl⟩ | ⟨hpn, x, te, pe, rfl⟩
        · by_cases h24 : i = 24
          · have HV := Lib.hid (rsV_no (t := t) (fun h => by have := (hrd1 h).2; omega))
            have h24i : ((i : Int) == 24) = true := by simp; omega
            clear hrd1 hsome hnx hpv
            go_wp2_with (rw [zA_eq]; refine wpList_store_row rfl 64 (.tmp 2) (.tmp 30) rfl w.heap.size zA rfl rfl _ zA K25.out (by rw [szScene]; rfl) rfl (arr_one .i8 Z24) ?_; rw [setRow_idR _ _ _ _ _ K25.out])
            exact bodyPost_ret (rep_ct rfl _ _ _ 64 _ _ _ rfl K25.out Tryd.underlying64 rfl (by rw [szScene]; rfl)) rfl ⟨by rw [HV.out] <;> rfl, HB5.out⟩
          · have HOK := Lib.hid (hsome (by rw [hpv]; rfl) h24)
            have h24i : ((i : Int) == 24) = false := by simp; omega
            have hi24 : i < 24 := by omega
            have HSet : Hid (iX (wrdL t) (i + 1) = (iX (wrdL t) i).set i (i8w v)) := Lib.hid (by rw [hnx.out, hpv]; rfl)
            have hcell := arr_cell K45.out i (by rw [iX_len]; exact hi24)
            have hfr : w5.frozen? ⟨w.heap.size + 1, i, none⟩ = false := frozen_of_row _ _ _ _ _ K45.out
            have hwv : IntKind.i8.wrap v = i8w v := rfl
            generalize i8w v = u at *
            clear hrd1 hsome hnx hpv
            go_wp2
            go_roundw
            case rel => exact ⟨trivial, i + 1, by omega, by go_num, heap_far _ (by simp) K25.out, by rw [HSet.out]; exact arr_store K45.out _ _, strAt_set (Ne.symm hne2) _ HS5.out, HOK.out, ev_set (by omega) _ HE5.out, HB5.out.setCell (by show w.heap.size ≤ w.heap.size + 1; omega) _⟩
            case measure => simp [intOf]; omega
        · have HV := Lib.hid (rsV_no (t := t) (fun h => by have := (hrd1 h).1; rw [hpn] at this; cases this))
          clear hrd1 hsome hnx hpn
          go_wp2_with (rw [zA_eq]; refine wpList_store_row rfl 64 (.tmp 2) (.tmp 30) rfl w.heap.size zA rfl rfl _ zA K25.out (by rw [szScene]; rfl) rfl (arr_one .i8 Z24) ?_; rw [setRow_idR _ _ _ _ _ K25.out])
          exact bodyPost_ret (rep_ct rfl _ _ _ 64 _ _ _ rfl K25.out Tryd.underlying64 rfl (by rw [szScene]; rfl)) rfl ⟨by rw [HV.out] <;> rfl, HB5.out⟩
      · have hin : ¬ (i : Int) < n := by omega
        have hie : i = n := by omega
        have hn24 : n ≤ 24 := by
          rcases Nat.lt_or_ge n 25 with h | h
          · omega
          · exact absurd rfl (HO.out 24 (by omega)).2
        have HX := Lib.hid (iX_sc (wrdL t) i)
        have hrd : ∀ h : RdOk t, iX (wrdL t) i = rdL t := fun h => by
          have h1 := (rd_all h).1
          have h2 := HN.out
          have e : i = 24 := by omega
          rw [e]; exact (rd_all h).2.2
        have HSz : Hid ((arr .i8 (iX (wrdL t) i)).size = 24) := Lib.hid (by rw [arr_size, iX_len])
        have HL := Lib.hid (iX_len (wrdL t) i)
        generalize iX (wrdL t) i = X at *
        cases hokX : okS X
        · have HV := Lib.hid (rsV_no (t := t) (fun h => by have e := hrd h; have := rd_ok h; rw [← e, hokX] at this; cases this))
          have HOX := Lib.hid hokX
          clear hrd hokX
          go_wp2_with (refine wpList_load_row rfl 64 (.tmp 4) rfl _ rfl _ _ _ _ K4.out Tryd.underlying64 rfl (by rw [szScene, HSz.out]) ?_)
          refine (implValidScene_c X HX.out _).mono ?_
          rw [HOX.out]
          rintro e w6 ⟨rfl, hb6⟩
          have K26 := Lib.hid (heap_below hb6 (lt_of_heap K2.out) K2.out)
          have HB6 := Lib.hid (bt HB.out hb6)
          clear hb6
          go_wp2_with (rw [zA_eq]; refine wpList_store_row rfl 64 (.tmp 2) (.tmp 45) rfl w.heap.size zA rfl rfl _ zA K26.out (by rw [szScene]; rfl) rfl (arr_one .i8 Z24) ?_; rw [setRow_idR _ _ _ _ _ K26.out])
          exact bodyPost_ret (rep_ct rfl _ _ _ 64 _ _ _ rfl K26.out Tryd.underlying64 rfl (by rw [szScene]; rfl)) rfl ⟨by rw [HV.out] <;> rfl, HB6.out⟩
        · have HOX := Lib.hid hokX
          have hnt : ∀ h : RdOk t, scT X 24 = t := fun h => by rw [hrd h]; exact rd_text h
          have hyes : scT X 24 = t → rsV t = (X, 0) := fun h => by rw [← h]; exact rsV_text HL.out hokX
          have HIS := fun w0 => implSceneText_c X HX.out hokX w0
          clear hrd hokX
          generalize scT X 24 = s at *
          go_wp2_with (refine wpList_load_row rfl 64 (.tmp 4) rfl _ rfl _ _ _ _ K4.out Tryd.underlying64 rfl (by rw [szScene, HSz.out]) ?_)
          refine (implValidScene_c X HX.out _).mono ?_
          rw [HOX.out]
          rintro e w6 ⟨rfl, hb6⟩
          have K26 := Lib.hid (heap_below hb6 (lt_of_heap K2.out) K2.out)
          have K46 := Lib.hid (heap_below hb6 (lt_of_heap K4.out) K4.out)
          have HB6 := Lib.hid (bt HB.out hb6)
          have HI := Lib.hid HIS
          clear hb6 HIS
          by_cases hst : s = t
          · have HV := Lib.hid (hyes hst)
            subst hst
            have hself : (s.toList != s.toList) = false := by simp
            clear hyes hnt
            go_wp2_with (refine wpList_load_rowE (by rfl) 64 (.tmp 4) (by rfl) _ (by rfl) _ _ _ _ K46.out Tryd.underlying64 rfl (by rw [szScene, HSz.out]) ?_)
            refine (HI.out _).mono ?_
            rintro e w7 ⟨rfl, hb7⟩
            have K27 := Lib.hid (heap_below hb7 (lt_of_heap K26.out) K26.out)
            have K47 := Lib.hid (heap_below hb7 (lt_of_heap K46.out) K46.out)
            have HB7 := Lib.hid (bt HB6.out hb7)
            clear hb7
            go_wp2_with (first
              | (refine wpList_load_row rfl 64 (.tmp 4) rfl _ rfl _ _ _ _ K47.out Tryd.underlying64 rfl (by rw [szScene, HSz.out]) ?_)
              | (refine wpList_store_row rfl 64 (.tmp 2) (.tmp 46) rfl w.heap.size (arr .i8 X) rfl rfl _ zA K27.out (by rw [szScene, HSz.out]) (by rw [HSz.out]; rfl) (arr_one _ _) ?_))
            exact bodyPost_ret (rep_ct rfl _ _ _ 64 _ _ _ rfl (setRow_heap _ _ _ _ _ _ K27.out) Tryd.underlying64 rfl (by rw [szScene, HSz.out])) rfl ⟨by rw [HV.out] <;> rfl, below_setRow HB7.out (Nat.le_refl _) _⟩
          · have HV := Lib.hid (rsV_no (t := t) (fun h => hst (hnt h)))
            have hself : ¬ s.toList = t.toList := by
              rw [ByteArray.toList_eq, ByteArray.toList_eq]
              exact fun h => hst (ByteArray.ext (Array.toList_inj.1 h))
            have hself2 : (s.toList == t.toList) = false := beq_eq_false_iff_ne.2 hself
            have hself3 : (s.toList != t.toList) = true := bne_iff_ne.2 hself
            clear hyes hnt hst
            go_wp2_with (refine wpList_load_rowE (by rfl) 64 (.tmp 4) (by rfl) _ (by rfl) _ _ _ _ K46.out Tryd.underlying64 rfl (by rw [szScene, HSz.out]) ?_)
            refine (HI.out _).mono ?_
            rintro e w7 ⟨rfl, hb7⟩
            have K27 := Lib.hid (heap_below hb7 (lt_of_heap K26.out) K26.out)
            have HB7 := Lib.hid (bt HB6.out hb7)
            clear hb7
            go_wp2_with (rw [zA_eq]; refine wpList_store_row rfl 64 (.tmp 2) (.tmp 45) rfl w.heap.size zA rfl rfl _ zA K27.out (by rw [szScene]; rfl) rfl (arr_one .i8 Z24) ?_; rw [setRow_idR _ _ _ _ _ K27.out])
            exact bodyPost_ret (rep_ct rfl _ _ _ 64 _ _ _ rfl K27.out Tryd.underlying64 rfl (by rw [szScene]; rfl)) rfl ⟨by rw [HV.out] <;> rfl, HB7.out⟩
end Go.Proofs.YtdmlefccajaniaaDoor
