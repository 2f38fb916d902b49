/- ReadScene: the program's loop, plain. -/
import Derived.Test.YtbafbfamjjmngaaGreatDoorRdJ0
import Derived.Test.YtbafbfamjjmngaaGreatDoorRdS
import Derived.Test.YtbafbfamjjmngaaGreatDoorShelfR
import Derived.Laws.Closers25b
import Derived.Test.YtbafbfamjjmngaaGreatDoorRdE
import Derived.Lib.SmallJoins
import Derived.Test.YtbafbfamjjmngaaGreatDoorEqArr
namespace Go.Proofs.YtbafbfamjjmngaaGreatDoor
open Go.RowKit
def repT (t : ByteArray) : ByteArray := ⟨(Lib.replaceAll t.data.toList [47] [32]).toArray⟩
theorem replaceK_len (c d : UInt8) : ∀ (k : Nat) (s : List UInt8), (Lib.replaceK [c] [d] k s).length = s.length
  | 0, s => rfl
  | k + 1, s => by
    unfold Lib.replaceK
    split
    · rfl
    · rename_i h
      have hg := Lib.index_ge s [c]
      have hne : Lib.index s [c] ≠ -1 := fun e => h (by rw [e]; rfl)
      obtain ⟨i, hi⟩ : ∃ i : Nat, Lib.index s [c] = i := ⟨(Lib.index s [c]).toNat, by omega⟩
      have hi2 : Lib.indexByte s c = i := by rw [← Lib.index_one]; exact hi
      have hlt : i < s.length := (List.getElem?_eq_some_iff.1 (Lib.indexByte_some hi2).1).1
      rw [hi]
      have e : ((i : Int).toNat) = i := by omega
      rw [e, List.length_append, List.length_append, replaceK_len c d k, List.length_drop, List.length_take, List.length_singleton, List.length_singleton]
      omega
theorem repT_size (t : ByteArray) : (repT t).size = t.size := by
  show (Lib.replaceAll t.data.toList [47] [32]).toArray.size = _
  rw [List.size_toArray]
  unfold Lib.replaceAll Lib.replace
  rw [if_neg (by decide), replaceK_len]
  exact Array.length_toList
def wrdL (t : ByteArray) : List ByteArray := Lib.splitB ⟨#[32]⟩ 0 (min 25 ((repT t).size + 1) - 1) (repT t)
def iX (L : List ByteArray) : Nat → List Int
  | 0 => Z24
  | i + 1 => (iX L i).set i (i8w ((pI (L.getD i ⟨#[]⟩)).getD 0))
theorem iX_len (L : List ByteArray) : ∀ i, (iX L i).length = 24
  | 0 => by simp [iX, Z24]
  | i + 1 => by rw [iX, List.length_set]; exact iX_len L i
theorem iX_sc (L : List ByteArray) : ∀ i, Sc (iX L i)
  | 0 => ⟨iX_len L 0, fun j => by
    have e : (iX L 0).getD j 0 = 0 := by
      show (List.replicate 24 (0 : Int)).getD j 0 = 0
      rw [List.getD_eq_getElem?_getD, List.getElem?_replicate]; split <;> rfl
    rw [e]; omega⟩
  | i + 1 => ⟨iX_len L (i + 1), fun j => by
    have ih := (iX_sc L i).2 j
    have hb := i8w_bd ((pI (L.getD i ⟨#[]⟩)).getD 0)
    unfold iX
    rw [List.getD_eq_getElem?_getD, List.getElem?_set]
    split
    · split
      · simpa using hb
      · simp
    · rwa [List.getD_eq_getElem?_getD] at ih⟩
theorem scT_low (xs : List Int) (h : ∀ k, 0 ≤ xs.getD k 0 ∧ xs.getD k 0 ≤ 60) : ∀ k, k ≤ (scT xs k).size
  | 0 => Nat.zero_le _
  | k + 1 => by
    have ih := scT_low xs h k
    show k + 1 ≤ ((scT xs k ++ sepB k) ++ dgS (xs.getD k 0).toNat).size
    rw [ByteArray.size_append, ByteArray.size_append]
    have hd : 1 ≤ (dgS (xs.getD k 0).toNat).size := by
      by_cases h1 : (xs.getD k 0).toNat < 10
      · rw [dgS_one h1]; show (1 : Nat) ≤ 1; omega
      · rw [dgS_two h1 (by have := h k; omega)]; show (1 : Nat) ≤ 2; omega
    omega
/-- A text that the reference reads: its words are the numerals, and they are read. -/
theorem rd_words {t : ByteArray} (h : RdOk t) : wrdL t = allW (rdL t) := by
  have hA := okS_all (rd_ok h)
  have ht := rd_text h
  apply toList_inj
  unfold wrdL
  rw [Lib.splitB_data]
  have e : (repT t).data.toList = Lib.replaceAll (scT (rdL t) 24).data.toList [47] [32] := by rw [ht]; rfl
  rw [e]
  have hs : 23 ≤ min 25 ((repT t).size + 1) - 1 := by
    rw [repT_size, ← ht]
    have := scT_low (rdL t) hA 24
    omega
  exact impl_words hA _ hs
theorem allW_get (xs : List Int) (i : Nat) (h : i < 24) : (allW xs).getD i ⟨#[]⟩ = dgI (xs.getD i 0) := by
  simp [allW, List.getD_eq_getElem?_getD, h]
theorem iX_all {xs : List Int} (hl : xs.length = 24) (h : ∀ k, 0 ≤ xs.getD k 0 ∧ xs.getD k 0 ≤ 60) : ∀ i, i ≤ 24 → iX (allW xs) i = xs.take i ++ List.replicate (24 - i) 0
  | 0, _ => by simp [iX, Z24]
  | i + 1, hi => by
    have ih := iX_all hl h i (by omega)
    have hx := h i
    unfold iX
    rw [ih, allW_get xs i (by omega), pI_dg hx]
    have e : i8w ((some (xs.getD i 0) : Option Int).getD 0) = xs.getD i 0 := by
      show i8w (xs.getD i 0) = _
      unfold i8w; exact Go.IntWalk.i8_in _ (by omega)
    rw [e]
    exact set_step xs i 24 hl (by omega) 0
theorem iX_full {xs : List Int} (hl : xs.length = 24) (h : ∀ k, 0 ≤ xs.getD k 0 ∧ xs.getD k 0 ≤ 60) : iX (allW xs) 24 = xs := by
  rw [iX_all hl h 24 (Nat.le_refl _), List.take_of_length_le (by omega)]; simp
end Go.Proofs.YtbafbfamjjmngaaGreatDoor
namespace Go.Proofs.YtbafbfamjjmngaaGreatDoor
open Go.RowKit
def okI (L : List ByteArray) (i : Nat) : Prop := ∀ j, j < i → (pI (L.getD j ⟨#[]⟩)).isSome = true ∧ j ≠ 24
theorem okI_succ {L : List ByteArray} {i : Nat} (h : okI L i) (h1 : (pI (L.getD i ⟨#[]⟩)).isSome = true) (h2 : i ≠ 24) : okI L (i + 1) := fun j hj => by
  by_cases e : j = i
  · subst e; exact ⟨h1, h2⟩
  · exact h j (by omega)
/-- If the reference reads the text, each word is a number, and there are 24. -/
theorem rd_all {t : ByteArray} (h : RdOk t) : (wrdL t).length = 24 ∧ (∀ i, i < 24 → (pI ((wrdL t).getD i ⟨#[]⟩)).isSome = true) ∧ iX (wrdL t) 24 = rdL t := by
  have hA := okS_all (rd_ok h)
  rw [rd_words h]
  refine ⟨allW_len _, fun i hi => ?_, iX_full (rdL_length t) hA⟩
  rw [allW_get _ i hi, pI_dg (hA i)]; rfl
theorem wrd_size (t : ByteArray) : (wrdL t).length ≤ 25 := by
  have := Lib.splitB_length_le ⟨#[32]⟩ 0 (min 25 ((repT t).size + 1) - 1) (repT t)
  unfold wrdL
  omega
theorem strAt_cells (w : World) (L : List ByteArray) (N : Nat) : StrAt (w.alloc (.cells (Lib.cellsOf L N) 9)) w.heap.size L :=
  ⟨by simp, fun j x hx => by
    rw [Nat.zero_add, cell_of_row _ _ _ _ _ _ (al1_0 _ _)]
    unfold Lib.cellsOf
    have hj : j < L.length := (List.getElem?_eq_some_iff.1 hx).1
    rw [List.getElem?_toArray, List.getElem?_append_left (by simpa using hj), List.getElem?_map, hx]; rfl⟩
set_option maxHeartbeats 4000000 in
set_option maxRecDepth 100000 in
theorem implRS_c (t : ByteArray) (hm : t.size ≤ 1048576) (hws : ∀ i, ((wrdL t).getD i ⟨#[]⟩).size ≤ 1048576) (w : World) (hE : EV w) :
    Calls Tryz.prog 6 #[.string t] w fun e w' => e = .returned (.tuple #[.agg (arr .i8 (rsV t).1), .int .i64 (rsV t).2]) ∧ Below w.heap.size w w' := by
  have h4 := hE.len
  have K2 := Lib.hid (heap_old (.cells zA 26) _ (lt_of_heap (al1_0 w (.cells zA 26))) (al1_0 w (.cells zA 26)))
  have K4 := Lib.hid (al2_1 w (.cells zA 26) (.cells zA 26))
  have B0 := Lib.hid (bl2 w (.cells zA 26) (.cells zA 26))
  have E0 := Lib.hid (ev_below (bl2 w (.cells zA 26) (.cells zA 26)) hE)
  have hrs := repT_size t
  have HWS := Lib.hid hws
  clear hE hws
  go_enter Tryz.func6, Tryz.ntmps6
  go_wp2_with (rw [zA_eq]; refine wpList_store_row rfl 26 (.tmp 4) (.tmp 9) rfl _ zA rfl rfl _ zA K4.out (by rw [szScene]; rfl) rfl (arr_one .i8 Z24) ?_; rw [setRow_idR _ _ _ _ _ K4.out]; generalize ((w.alloc (.cells zA 26)).alloc (.cells zA 26)) = wa at *)
  obtain ⟨m, hmx⟩ := E0.out.max
  refine (Go.Proofs.Tryz.strings_ReplaceAll t ⟨#[47]⟩ ⟨#[32]⟩ m wa (by omega) hmx (by decide) (by
    have := Lib.count_le t.data.toList [47]
    have e1 : t.data.toList.length = t.size := Array.length_toList
    have e2 : (⟨#[32]⟩ : ByteArray).size = 1 := rfl
    have e3 : Lib.countB t ⟨#[47]⟩ = Lib.count t.data.toList [47] := rfl
    rw [e2, e3]; omega)).mono ?_
  rintro e w1 ⟨rfl, hb1⟩
  have hwl : Hid (wrdL t = Lib.splitB ⟨#[32]⟩ 0 (min 25 ((repT t).size + 1) - 1) (repT t)) := Lib.hid rfl
  have hre : (⟨(Lib.replaceAll t.data.toList (⟨#[47]⟩ : ByteArray).data.toList (⟨#[32]⟩ : ByteArray).data.toList).toArray⟩ : ByteArray) = repT t := rfl
  rw [hre]
  have E1 := Lib.hid (ev_below hb1 E0.out)
  have K21 := Lib.hid (heap_below hb1 (lt_of_heap K2.out) K2.out)
  have K41 := Lib.hid (heap_below hb1 (lt_of_heap K4.out) K4.out)
  have B1 := Lib.hid (bt B0.out hb1)
  clear hb1 E0 K2 K4 B0 hre hmx
  generalize repT t = R at *
  obtain ⟨m1, hmx1⟩ := E1.out.max
  go_wp2_with fail
  refine (Go.Proofs.Tryz.strings_SplitN R ⟨#[32]⟩ 25 m1 w1 (by omega) hmx1 (by decide) (by omega) (by omega)).mono ?_
  rintro e w2 ⟨rfl, rfl⟩
  rw [← hwl.out]
  have HS := Lib.hid (strAt_cells w1 (wrdL t) (min 25 (R.size + 1)))
  have hb2 := bl1 w1 (.cells (Lib.cellsOf (wrdL t) (min 25 (R.size + 1))) 9)
  have E2 := Lib.hid (ev_below hb2 E1.out)
  have K2 := Lib.hid (heap_below hb2 (lt_of_heap K21.out) K21.out)
  have K4 := Lib.hid (heap_below hb2 (lt_of_heap K41.out) K41.out)
  have HB := Lib.hid (bt B1.out hb2)
  have hgw : w.heap.size + 1 < w1.heap.size := lt_of_heap K41.out
  have hn25 := wrd_size t
  obtain ⟨n, hn⟩ : ∃ n, n = (wrdL t).length := ⟨_, rfl⟩
  have HN := Lib.hid hn
  rw [← hn] at hn25 ⊢
  generalize (w1.alloc (.cells (Lib.cellsOf (wrdL t) (min 25 (R.size + 1))) 9)) = w2 at *
  generalize w1.heap.size = gw at *
  generalize min 25 (R.size + 1) = cw at *
  have hne2 : w.heap.size + 1 ≠ gw := by omega
  clear hb2 E1 K21 K41 B1 hn hmx1 hwl hrs
  go_wp2_with fail
  as_aux_lemma =>
    go_loopw [14] (fun iv wr => True ∧ ∃ i : Nat, i ≤ n ∧ iv = .int .i64 i ∧ wr.heap[w.heap.size]? = some (.cells zA 26 (0, 0)) ∧ wr.heap[w.heap.size + 1]? = some (.cells (arr .i8 (iX (wrdL t) i)) 26 (0, 0)) ∧ StrAt wr gw (wrdL t) ∧ okI (wrdL t) i ∧ EV wr ∧ Below w.heap.size w wr) (fun iv _ => n - (intOf iv).toNat)
    case atStart => exact ⟨trivial, 0, Nat.zero_le _, rfl, K2.out, K4.out, HS.out, fun j hj => absurd hj (Nat.not_lt_zero _), E2.out, HB.out⟩
    case round =>
      clear K2 K4 HS E2 HB
      obtain ⟨_, i, hi, rfl, k2, k4, hs, hok, hev, hB⟩ := hrel
      have K2 := Lib.hid k2
      have K4 := Lib.hid k4
      have HS := Lib.hid hs
      have HO := Lib.hid hok
      have HE := Lib.hid hev
      have HB := Lib.hid hB
      clear k2 k4 hs hok hev hB
      by_cases hlt : i < n
      · have hin : (i : Int) < n := by omega
        have hget : (wrdL t)[i]? = some ((wrdL t).getD i ⟨#[]⟩) := by
          rw [List.getD_eq_getElem?_getD, List.getElem?_eq_getElem (by rw [← HN.out]; exact hlt)]; rfl
        have c1 := HS.out.at_ i _ hget
        rw [Nat.zero_add] at c1
        have hsz := HWS.out i
        have hnx := Lib.hid (show iX (wrdL t) (i + 1) = (iX (wrdL t) i).set i (i8w ((pI ((wrdL t).getD i ⟨#[]⟩)).getD 0)) from rfl)
        have hsome := fun h1 h2 => okI_succ HO.out (i := i) h1 h2
        have hrd := fun (h : RdOk t) => rd_all h
        have hrd1 : ∀ h : RdOk t, (pI ((wrdL t).getD i ⟨#[]⟩)).isSome = true ∧ n = 24 := fun h => ⟨(rd_all h).2.1 i (by have := (rd_all h).1; have := HN.out; omega), by rw [HN.out]; exact (rd_all h).1⟩
        generalize (wrdL t).getD i ⟨#[]⟩ = wd at *
        clear hget hrd
        go_wp2_with fail
        refine (parseInt8_c wd hsz _ HE.out).mono ?_
        rintro e w5 ⟨hres, hb5⟩
        have K25 := Lib.hid (heap_below hb5 (lt_of_heap K2.out) K2.out)
        have K45 := Lib.hid (heap_below hb5 (lt_of_heap K4.out) K4.out)
        have HS5 := Lib.hid (strAt_below hb5 HS.out)
        have HE5 := Lib.hid (ev_below hb5 HE.out)
        have HB5 := Lib.hid (bt HB.out hb5)
        clear hb5 K2 K4 HS HE HB hsz c1
        rcases hres with ⟨v, hpv, rfl⟩ | ⟨hpn, x, te, pe, rfl⟩
        · by_cases h24 : i = 24
          · have HV := Lib.hid (rsV_no (t := t) (fun h => by have := (hrd1 h).2; omega))
            have h24i : ((i : Int) == 24) = true := by simp; omega
            clear hrd1 hsome hnx hpv
            go_wp2_with (rw [zA_eq]; refine wpList_store_row rfl 26 (.tmp 2) (.tmp 30) rfl w.heap.size zA rfl rfl _ zA K25.out (by rw [szScene]; rfl) rfl (arr_one .i8 Z24) ?_; rw [setRow_idR _ _ _ _ _ K25.out])
            exact bodyPost_ret (rep_ct rfl _ _ _ 26 _ _ _ rfl K25.out Tryz.underlying26 rfl (by rw [szScene]; rfl)) rfl ⟨by rw [HV.out] <;> rfl, HB5.out⟩
          · have HOK := Lib.hid (hsome (by rw [hpv]; rfl) h24)
            have h24i : ((i : Int) == 24) = false := by simp; omega
            have hi24 : i < 24 := by omega
            have HSet : Hid (iX (wrdL t) (i + 1) = (iX (wrdL t) i).set i (i8w v)) := Lib.hid (by rw [hnx.out, hpv]; rfl)
            have hcell := arr_cell K45.out i (by rw [iX_len]; exact hi24)
            have hfr : w5.frozen? ⟨w.heap.size + 1, i, none⟩ = false := frozen_of_row _ _ _ _ _ K45.out
            have hwv : IntKind.i8.wrap v = i8w v := rfl
            generalize i8w v = u at *
            clear hrd1 hsome hnx hpv
            go_wp2
            go_roundw
            case rel => exact ⟨trivial, i + 1, by omega, by go_num, heap_far _ (by simp) K25.out, by rw [HSet.out]; exact arr_store K45.out _ _, strAt_set (Ne.symm hne2) _ HS5.out, HOK.out, ev_set (by omega) _ HE5.out, HB5.out.setCell (by show w.heap.size ≤ w.heap.size + 1; omega) _⟩
            case measure => simp [intOf]; omega
        · have HV := Lib.hid (rsV_no (t := t) (fun h => by have := (hrd1 h).1; rw [hpn] at this; cases this))
          clear hrd1 hsome hnx hpn
          go_wp2_with (rw [zA_eq]; refine wpList_store_row rfl 26 (.tmp 2) (.tmp 30) rfl w.heap.size zA rfl rfl _ zA K25.out (by rw [szScene]; rfl) rfl (arr_one .i8 Z24) ?_; rw [setRow_idR _ _ _ _ _ K25.out])
          exact bodyPost_ret (rep_ct rfl _ _ _ 26 _ _ _ rfl K25.out Tryz.underlying26 rfl (by rw [szScene]; rfl)) rfl ⟨by rw [HV.out] <;> rfl, HB5.out⟩
      · have hin : ¬ (i : Int) < n := by omega
        have hie : i = n := by omega
        have hn24 : n ≤ 24 := by
          rcases Nat.lt_or_ge n 25 with h | h
          · omega
          · exact absurd rfl (HO.out 24 (by omega)).2
        have HX := Lib.hid (iX_sc (wrdL t) i)
        have hrd : ∀ h : RdOk t, iX (wrdL t) i = rdL t := fun h => by
          have h1 := (rd_all h).1
          have h2 := HN.out
          have e : i = 24 := by omega
          rw [e]; exact (rd_all h).2.2
        have HSz : Hid ((arr .i8 (iX (wrdL t) i)).size = 24) := Lib.hid (by rw [arr_size, iX_len])
        have HL := Lib.hid (iX_len (wrdL t) i)
        generalize iX (wrdL t) i = X at *
        cases hokX : okS X
        · have HV := Lib.hid (rsV_no (t := t) (fun h => by have e := hrd h; have := rd_ok h; rw [← e, hokX] at this; cases this))
          have HOX := Lib.hid hokX
          clear hrd hokX
          go_wp2_with (refine wpList_load_row rfl 26 (.tmp 4) rfl _ rfl _ _ _ _ K4.out Tryz.underlying26 rfl (by rw [szScene, HSz.out]) ?_)
          refine (implValidScene_c X HX.out _).mono ?_
          rw [HOX.out]
          rintro e w6 ⟨rfl, hb6⟩
          have K26 := Lib.hid (heap_below hb6 (lt_of_heap K2.out) K2.out)
          have HB6 := Lib.hid (bt HB.out hb6)
          clear hb6
          go_wp2_with (rw [zA_eq]; refine wpList_store_row rfl 26 (.tmp 2) (.tmp 45) rfl w.heap.size zA rfl rfl _ zA K26.out (by rw [szScene]; rfl) rfl (arr_one .i8 Z24) ?_; rw [setRow_idR _ _ _ _ _ K26.out])
          exact bodyPost_ret (rep_ct rfl _ _ _ 26 _ _ _ rfl K26.out Tryz.underlying26 rfl (by rw [szScene]; rfl)) rfl ⟨by rw [HV.out] <;> rfl, HB6.out⟩
        · have HOX := Lib.hid hokX
          have hnt : ∀ h : RdOk t, scT X 24 = t := fun h => by rw [hrd h]; exact rd_text h
          have hyes : scT X 24 = t → rsV t = (X, 0) := fun h => by rw [← h]; exact rsV_text HL.out hokX
          have HIS := fun w0 => implSceneText_c X HX.out hokX w0
          clear hrd hokX
          generalize scT X 24 = s at *
          go_wp2_with (refine wpList_load_row rfl 26 (.tmp 4) rfl _ rfl _ _ _ _ K4.out Tryz.underlying26 rfl (by rw [szScene, HSz.out]) ?_)
          refine (implValidScene_c X HX.out _).mono ?_
          rw [HOX.out]
          rintro e w6 ⟨rfl, hb6⟩
          have K26 := Lib.hid (heap_below hb6 (lt_of_heap K2.out) K2.out)
          have K46 := Lib.hid (heap_below hb6 (lt_of_heap K4.out) K4.out)
          have HB6 := Lib.hid (bt HB.out hb6)
          have HI := Lib.hid HIS
          clear hb6 HIS
          by_cases hst : s = t
          · have HV := Lib.hid (hyes hst)
            subst hst
            have hself : (s.toList != s.toList) = false := by simp
            clear hyes hnt
            go_wp2_with (refine wpList_load_rowE (by rfl) 26 (.tmp 4) (by rfl) _ (by rfl) _ _ _ _ K46.out Tryz.underlying26 rfl (by rw [szScene, HSz.out]) ?_)
            refine (HI.out _).mono ?_
            rintro e w7 ⟨rfl, hb7⟩
            have K27 := Lib.hid (heap_below hb7 (lt_of_heap K26.out) K26.out)
            have K47 := Lib.hid (heap_below hb7 (lt_of_heap K46.out) K46.out)
            have HB7 := Lib.hid (bt HB6.out hb7)
            clear hb7
            go_wp2_with (first
              | (refine wpList_load_row rfl 26 (.tmp 4) rfl _ rfl _ _ _ _ K47.out Tryz.underlying26 rfl (by rw [szScene, HSz.out]) ?_)
              | (refine wpList_store_row rfl 26 (.tmp 2) (.tmp 46) rfl w.heap.size (arr .i8 X) rfl rfl _ zA K27.out (by rw [szScene, HSz.out]) (by rw [HSz.out]; rfl) (arr_one _ _) ?_))
            exact bodyPost_ret (rep_ct rfl _ _ _ 26 _ _ _ rfl (setRow_heap _ _ _ _ _ _ K27.out) Tryz.underlying26 rfl (by rw [szScene, HSz.out])) rfl ⟨by rw [HV.out] <;> rfl, below_setRow HB7.out (Nat.le_refl _) _⟩
          · have HV := Lib.hid (rsV_no (t := t) (fun h => hst (hnt h)))
            have hself : ¬ s.toList = t.toList := by
              rw [ByteArray.toList_eq, ByteArray.toList_eq]
              exact fun h => hst (ByteArray.ext (Array.toList_inj.1 h))
            have hself2 : (s.toList == t.toList) = false := beq_eq_false_iff_ne.2 hself
            have hself3 : (s.toList != t.toList) = true := bne_iff_ne.2 hself
            clear hyes hnt hst
            go_wp2_with (refine wpList_load_rowE (by rfl) 26 (.tmp 4) (by rfl) _ (by rfl) _ _ _ _ K46.out Tryz.underlying26 rfl (by rw [szScene, HSz.out]) ?_)
            refine (HI.out _).mono ?_
            rintro e w7 ⟨rfl, hb7⟩
            have K27 := Lib.hid (heap_below hb7 (lt_of_heap K26.out) K26.out)
            have HB7 := Lib.hid (bt HB6.out hb7)
            clear hb7
            go_wp2_with (rw [zA_eq]; refine wpList_store_row rfl 26 (.tmp 2) (.tmp 45) rfl w.heap.size zA rfl rfl _ zA K27.out (by rw [szScene]; rfl) rfl (arr_one .i8 Z24) ?_; rw [setRow_idR _ _ _ _ _ K27.out])
            exact bodyPost_ret (rep_ct rfl _ _ _ 26 _ _ _ rfl K27.out Tryz.underlying26 rfl (by rw [szScene]; rfl)) rfl ⟨by rw [HV.out] <;> rfl, HB7.out⟩
end Go.Proofs.YtbafbfamjjmngaaGreatDoor
