/- The text of a scene: the program's. -/
import Derived.Test.YtbafbfamjjmngaaGreatDoorSceneT
import Derived.Lib.Join
namespace Go.Proofs.YtbafbfamjjmngaaGreatDoor
open Go.RowKit
def RowS (w : World) (base : Nat) (v : Value) (l : List ByteArray) : Prop := w.ownsRow base 9 1 v l.length (l.map Value.string)
theorem rowS_new (w : World) (base : Nat) (hb : base ≤ w.heap.size) : RowS (w.alloc (.cells #[] 9)) base (.slice (some ⟨w.heap.size, 0, none⟩) 0 0) [] :=
  ⟨rfl, .inr ⟨w.heap.size, 0, #[], rfl, hb, heap_alloc_new w _, Nat.le_refl _, by unfold maxLen; omega, rfl, rfl⟩⟩
theorem rowS_below {w w1 : World} {base B : Nat} {v : Value} {l : List ByteArray} (h : RowS w base v l) (hB : w.heap.size ≤ B) (hb : Below B w w1) : RowS w1 base v l := by
  obtain ⟨h1, h2⟩ := h
  refine ⟨h1, ?_⟩
  rcases h2 with h2 | ⟨g, cap, cur, hv, hg, hh, r⟩
  · exact Or.inl h2
  · exact Or.inr ⟨g, cap, cur, hv, hg, heap_below hb (Nat.lt_of_lt_of_le (lt_of_heap hh) hB) hh, r⟩
theorem rowS_shape {w : World} {base : Nat} {v : Value} {l : List ByteArray} (h : RowS w base v l) (hne : l ≠ []) :
    ∃ g cap, v = .slice (some ⟨g, 0, none⟩) l.length cap ∧ g < w.heap.size ∧ l.length ≤ cap ∧ ∀ (j : Nat) x, l[j]? = some x → w.cell? ⟨g, 0 + j, none⟩ = some (.string x) := by
  obtain ⟨h1, h2⟩ := h
  rcases h2 with ⟨_, h2⟩ | ⟨g, cap, cur, hv, hg, hh, hc, hm, hs, ht⟩
  · exact absurd (List.length_eq_zero_iff.1 h2) hne
  · refine ⟨g, cap, hv, lt_of_heap hh, hc, fun i x hx => ?_⟩
    have hi : i < l.length := (List.getElem?_eq_some_iff.1 hx).1
    rw [Nat.zero_add, cell_of_row w g i cur 9 _ hh]
    have h3 : (cur.toList.take (l.length * 1))[i]? = some (.string x) := by
      rw [ht, List.getElem?_map, hx]; rfl
    rw [List.getElem?_take, if_pos (by omega)] at h3
    simpa using h3
theorem infoStr : (Tryz.prog.info? 9).map (fun i => (i.zero, i.size, i.bytes)) = some (some (.string ⟨#[]⟩), 1, 16) := by kernel_rfl
/-- One string appended. -/
theorem wpList_appS {w : World} {ops : Array Oper} {rest : List Oper} {o : Oper} {a : Act} {Q : Exit → Act → World → Prop} (hgd : o.guard = none) (s x : Operand) (t : TypeId)
    (ho : o.op = .call { callee := .builtin .append, args := #[s, x], argTypes := #[t, t] })
    (base : Nat) (ht : Tryz.prog.underlying t = some (.slice 9))
    (v : Value) (l : List ByteArray) (hs : a.eval s = v) (hown : RowS w base v l) (g : Nat) (c : Nat) (z : ByteArray) (hx : a.eval x = .slice (some ⟨g, 0, none⟩) 1 c) (hg : w.cell? ⟨g, 0, none⟩ = some (.string z))
    (hlen : l.length ≤ 8000000000000) (hbase : base ≤ w.heap.size)
    (h : ∀ v' w', RowS w' base v' (l ++ [z]) → w.grownBy w' v.ownBlock → (∀ j, v.ownBlock = some j → base ≤ j) → wpList Tryz.prog ops Q rest (a.put o.dst v') w') : wpList Tryz.prog ops Q (o :: rest) a w := by
  obtain ⟨i, hi, hz0, hz1, hz2⟩ := info_parts infoStr
  have hbk : ∀ j, v.ownBlock = some j → base ≤ j := by
    intro j hj
    obtain ⟨_, h2⟩ := hown
    rcases h2 with ⟨h2, _⟩ | ⟨g', cap, cur, hv, hg', _⟩
    · rw [h2] at hj; cases hj
    · rw [hv] at hj; simp [Value.ownBlock] at hj; omega
  refine wpList_append_own w hgd s x t ho base 9 i (.string ⟨#[]⟩) 1 16 ht hi hz0 hz1 hz2 rfl (by decide) v l.length (l.map Value.string) hs hown ⟨g, 0, none⟩ 1 c [.string z] hx rfl (fun j u hj => ?_) (fun u hu => ?_) (by unfold maxLen; omega) (by omega) hbase
    (fun v' w' h2 h3 _ => h v' w' ?_ h3 hbk)
  · match j, hj with
    | 0, hj => simp at hj; subst hj; simpa [Addr.add] using hg
  · simp at hu; subst hu; rfl
  · unfold RowS
    simpa using h2
def joinB (l : List ByteArray) (sep : List UInt8) : ByteArray := ⟨(Lib.join (l.map (·.data.toList)) sep).toArray⟩
def wordsL (xs : List Int) (y j : Nat) : List ByteArray := (List.range j).map fun i => dgI (xs.getD (6 * y + i) 0)
def rowsL (xs : List Int) (y : Nat) : List ByteArray := (List.range y).map fun i => joinB (wordsL xs i 6) [32]
theorem wordsL_succ (xs : List Int) (y j : Nat) : wordsL xs y (j + 1) = wordsL xs y j ++ [dgI (xs.getD (6 * y + j) 0)] := by simp [wordsL, List.range_succ]
theorem rowsL_succ (xs : List Int) (y : Nat) : rowsL xs (y + 1) = rowsL xs y ++ [joinB (wordsL xs y 6) [32]] := by simp [rowsL, List.range_succ]
theorem wordsL_len (xs : List Int) (y j : Nat) : (wordsL xs y j).length = j := by simp [wordsL]
theorem rowsL_len (xs : List Int) (y : Nat) : (rowsL xs y).length = y := by simp [rowsL]
theorem joinTail_len (sep : List UInt8) (m : Nat) : ∀ r : List (List UInt8), (∀ x, x ∈ r → x.length ≤ m) → (Lib.joinTail sep r).length ≤ r.length * (m + sep.length)
  | [], _ => by simp [Lib.joinTail]
  | x :: r, h => by
    have ih := joinTail_len sep m r (fun y hy => h y (List.mem_cons_of_mem _ hy))
    have hx := h x List.mem_cons_self
    have e : Lib.joinTail sep (x :: r) = (sep ++ x) ++ Lib.joinTail sep r := rfl
    rw [e, List.length_append, List.length_append, List.length_cons, Nat.succ_mul]
    omega
theorem join_len (sep : List UInt8) (m : Nat) (ls : List (List UInt8)) (h : ∀ x, x ∈ ls → x.length ≤ m) : (Lib.join ls sep).length ≤ ls.length * (m + sep.length) := by
  cases ls with
  | nil => simp [Lib.join_nil]
  | cons x r =>
    have hx := h x List.mem_cons_self
    have ht := joinTail_len sep m r (fun y hy => h y (List.mem_cons_of_mem _ hy))
    rw [Lib.join_cons, List.length_append, List.length_cons, Nat.succ_mul]
    omega
theorem words_bd (xs : List Int) (h : ∀ k, 0 ≤ xs.getD k 0 ∧ xs.getD k 0 ≤ 60) (y j : Nat) : ∀ x, x ∈ (wordsL xs y j).map (·.data.toList) → x.length ≤ 2 := fun x hx => by
  simp only [wordsL, List.map_map, List.mem_map] at hx
  obtain ⟨i, _, rfl⟩ := hx
  have := dgS_size (n := (xs.getD (6 * y + i) 0).toNat) (by have := h (6 * y + i); omega)
  exact this
theorem rows_bd (xs : List Int) (h : ∀ k, 0 ≤ xs.getD k 0 ∧ xs.getD k 0 ≤ 60) (y : Nat) : ∀ x, x ∈ (rowsL xs y).map (·.data.toList) → x.length ≤ 18 := fun x hx => by
  simp only [rowsL, List.map_map, List.mem_map] at hx
  obtain ⟨i, _, rfl⟩ := hx
  have := join_len [32] 2 ((wordsL xs i 6).map (·.data.toList)) (words_bd xs h i 6)
  rw [List.length_map, wordsL_len] at this
  exact this
/-- Both texts are one. -/
theorem text_eq (xs : List Int) : joinB (rowsL xs 4) [47] = scT xs 24 := by
  apply ByteArray.ext
  apply Array.toList_inj.1
  simp [joinB, rowsL, wordsL, List.range_succ, Lib.join_cons, Lib.joinTail, scT, sepB, ByteArray.data_append, List.append_assoc]
theorem lenScene : Tryz.prog.arrayLen 26 = 24 := by kernel_rfl
theorem elemScene : Tryz.prog.elem 26 = 24 := by kernel_rfl
theorem slice6 (g y : Nat) (hy : y < 4) (w : World) : (Instr.sliceAt 26 (.pointer (some ⟨g, 0, none⟩)) (some (.int .i64 (6 * (y : Int)))) (some (.int .i64 (6 * ((y : Int) + 1)))) none).run Tryz.prog w = .ok (.slice (some ⟨g, 6 * y, none⟩) 6 (24 - 6 * y)) w := by
  have ht : Tryz.prog.underlying 26 = some (.array (Tryz.prog.arrayLen 26) (Tryz.prog.elem 26)) := by kernel_rfl
  have hl : (6 * (y : Int)).toNat = 6 * y := by omega
  have hh : (6 * ((y : Int) + 1)).toNat = 6 * y + 6 := by omega
  rw [run_sliceAt_array_lh w 26 ⟨g, 0, none⟩ ht .i64 .i64 _ _ (by omega) (by omega) (by rw [lenScene]; omega), elemScene, Tryz.sizeOf24, Result.andThen_ok, lenScene, hl, hh]
  unfold slicedAt
  rw [if_neg (by omega), show 6 * y + 6 - 6 * y = 6 by omega]
  simp [Addr.add]; omega
set_option maxHeartbeats 4000000 in
set_option maxRecDepth 100000 in
theorem implSceneText_c (xs : List Int) (hs : Sc xs) (hok : okS xs = true) (w : World) :
    Calls Tryz.prog 28 #[.agg (arr .i8 xs)] w fun e w' => e = .returned (.string (scT xs 24)) ∧ Below w.heap.size w w' := by
  have HL := Lib.hid hs.1
  have HA := Lib.hid (okS_all hok)
  have K0 := Lib.hid (heap_old (.cells #[] 9) _ (lt_of_heap (al1_0 w (.cells (arr .i8 xs) 26))) (al1_0 w (.cells (arr .i8 xs) 26)))
  have HR0 := Lib.hid (rowS_new (w.alloc (.cells (arr .i8 xs) 26)) (w.heap.size + 1) (by simp))
  have HB0 := Lib.hid (bl2 w (.cells (arr .i8 xs) 26) (.cells #[] 9))
  have hz : ((w.alloc (.cells (arr .i8 xs) 26)).alloc (.cells #[] 9)).heap.size = w.heap.size + 1 + 1 := by simp
  have hs1 : (w.alloc (.cells (arr .i8 xs) 26)).heap.size = w.heap.size + 1 := by simp
  rw [hs1] at HR0
  clear hok hs1
  go_enter Tryz.func28, Tryz.ntmps28
  go_wp2_with fail
  go_loopw [3, 9] (fun rv iv wr => ∃ y : Nat, y ≤ 4 ∧ iv = .int .i64 y ∧ RowS wr (w.heap.size + 1) rv (rowsL xs y) ∧ wr.heap[w.heap.size]? = some (.cells (arr .i8 xs) 26 (0, 0)) ∧ w.heap.size + 1 ≤ wr.heap.size ∧ Below w.heap.size w wr) (fun _ iv _ => 4 - (intOf iv).toNat)
  case atStart => exact ⟨0, Nat.zero_le _, rfl, HR0.out, K0.out, by omega, HB0.out⟩
  case round =>
    clear HR0 K0 HB0 hz
    obtain ⟨V, rfl⟩ : ∃ V, V = wr := ⟨_, rfl⟩
    obtain ⟨y, hy, rfl, hR, hK, hz, hB⟩ := hrel
    have HR := Lib.hid hR
    have HK := Lib.hid hK
    have HB := Lib.hid hB
    clear hR hK hB
    by_cases hlt : y < 4
    · have hy4 : (y : Int) < 4 := by omega
      have hw1 : IntKind.i64.wrap (6 * (y : Int)) = ((6 * y : Nat) : Int) := by rw [Go.IntWalk.i64_in _ (by omega)]; omega
      have hw2 : IntKind.i64.wrap ((y : Int) + 1) = ((y + 1 : Nat) : Int) := by rw [Go.IntWalk.i64_in _ (by omega)]; omega
      have hw3 : IntKind.i64.wrap (6 * ((y + 1 : Nat) : Int)) = ((6 * (y + 1) : Nat) : Int) := by rw [Go.IntWalk.i64_in _ (by omega)]; omega
      have hsl := slice6 w.heap.size y hlt (V.alloc (.cells #[] 9))
      have HRw := Lib.hid (rowS_new V V.heap.size (Nat.le_refl _))
      have HBw := Lib.hid (bl1 V (.cells #[] 9))
      go_wp2_with fail
      as_aux_lemma =>
        go_loopw [5, 20] (fun wv jv wr => True ∧ ∃ j : Nat, j ≤ 6 ∧ jv = .int .i64 j ∧ RowS wr V.heap.size wv (wordsL xs y j) ∧ Below V.heap.size V wr) (fun _ jv _ => 6 - (intOf jv).toNat)
        case atStart => exact ⟨trivial, 0, Nat.zero_le _, rfl, HRw.out, HBw.out⟩
        case round =>
          clear HRw HBw
          obtain ⟨_, j, hj, rfl, hRw, hBw⟩ := hrel
          have HRw := Lib.hid hRw
          have HBw := Lib.hid hBw
          clear hRw hBw
          by_cases hlj : j < 6
          · have hj6 : (j : Int) < 6 := by omega
            have hcell := arr_cell (heap_below HBw.out (lt_of_heap HK.out) HK.out) (6 * y + j) (by rw [HL.out]; omega)
            have hx := HA.out (6 * y + j)
            have hst := Lib.hid (wordsL_succ xs y j)
            generalize xs.getD (6 * y + j) 0 = x at *
            obtain ⟨n, rfl⟩ : ∃ n : Nat, x = n := ⟨x.toNat, by omega⟩
            have hn : n < 100 := by omega
            have hst2 : Hid (wordsL xs y (j + 1) = wordsL xs y j ++ [dgS n]) := Lib.hid hst.out
            have hvs : V.heap.size ≤ (wr.alloc (.cells #[.string (dgS n)] 9)).heap.size := Nat.le_trans HBw.out.size (by simp)
            have HRa := Lib.hid (rowS_below HRw.out (Nat.le_refl _) (bl1 wr (.cells #[.string (dgS n)] 9)))
            have HBa := Lib.hid (HBw.out.alloc HBw.out.size (.cells #[.string (dgS n)] 9))
            clear hst
            go_wp2_with (first
              | (go_at_call 53; refine (implDec_c n hn _).mono ?_; rintro e1 w1 ⟨rfl, rfl⟩)
              | (at_builtin; refine wpList_appS rfl (.tmp 24) (.tmp 28) 50 rfl V.heap.size Tryz.underlying50 _ (wordsL xs y j) rfl HRa.out wr.heap.size 1 (dgS n) rfl (by rw [cell_of_row _ _ _ _ _ _ (al1_0 _ _)]; rfl) (by rw [wordsL_len]; omega) hvs ?_; intro v6 w6 hrow hgr hbk; have HR6 := Lib.hid hrow; have HB6 := Lib.hid (HBa.out.grown hgr HBa.out.size hbk); clear hrow hgr hbk))
            go_roundw
            case rel => exact ⟨trivial, j + 1, by omega, by go_num, by rw [hst2.out]; exact HR6.out, HB6.out⟩
            case measure => simp [intOf]; omega
          · have hj6 : ¬ (j : Int) < 6 := by omega
            have hje : j = 6 := by omega
            subst hje
            obtain ⟨g, cap, hv, hg, hc, hcells⟩ := rowS_shape HRw.out (by intro h; have := wordsL_len xs y 6; rw [h] at this; cases this)
            subst hv
            have HJ := Lib.hid (Go.Proofs.Tryz.strings_Join g 0 cap (wordsL xs y 6) ⟨#[32]⟩ wr hcells hg (by rw [wordsL_len]; omega) hc (by have := join_len [32] 2 ((wordsL xs y 6).map (·.data.toList)) (words_bd xs HA.out y 6); rw [List.length_map, wordsL_len] at this; simpa using Nat.le_trans this (by decide)))
            have HTE : Hid ((⟨(Lib.join ((wordsL xs y 6).map (·.data.toList)) (⟨#[32]⟩ : ByteArray).data.toList).toArray⟩ : ByteArray) = joinB (wordsL xs y 6) [32]) := Lib.hid rfl
            have hst := Lib.hid (rowsL_succ xs y)
            generalize joinB (wordsL xs y 6) [32] = row at *
            clear hcells
            have HRb := Lib.hid (rowS_below HR.out (Nat.le_refl _) HBw.out)
            have HKb := Lib.hid (heap_below HBw.out (lt_of_heap HK.out) HK.out)
            have HBb := Lib.hid (bt HB.out HBw.out)
            have hzb : w.heap.size + 1 ≤ wr.heap.size := Nat.le_trans hz HBw.out.size
            go_wp2_with fail
            refine (HJ.out).mono ?_
            rw [HTE.out]
            rintro e1 w1 ⟨rfl, hb1⟩
            have HRc := Lib.hid (rowS_below (rowS_below HRb.out (Nat.le_refl _) hb1) (Nat.le_refl _) (bl1 w1 (.cells #[.string row] 9)))
            have HKc := Lib.hid (heap_old (.cells #[.string row] 9) _ (lt_of_heap (heap_below hb1 (lt_of_heap HKb.out) HKb.out)) (heap_below hb1 (lt_of_heap HKb.out) HKb.out))
            have HBc := Lib.hid (bal (bt HBb.out hb1) (.cells #[.string row] 9))
            have hzc : w.heap.size + 1 ≤ (w1.alloc (.cells #[.string row] 9)).heap.size := Nat.le_trans hzb (Nat.le_trans hb1.size (by simp))
            clear hb1 HRb HKb HBb HRw HBw hzb HJ HTE
            go_wp2_with (at_builtin; refine wpList_appS rfl (.tmp 31) (.tmp 34) 50 rfl (w.heap.size + 1) Tryz.underlying50 _ (rowsL xs y) rfl HRc.out w1.heap.size 1 row rfl (by rw [cell_of_row _ _ _ _ _ _ (al1_0 _ _)]; rfl) (by rw [rowsL_len]; omega) hzc ?_; intro v6 w6 hrow hgr hbk; have HR6 := Lib.hid hrow; have HB6 := Lib.hid (HBc.out.grown hgr HBc.out.size (fun k hk' => Nat.le_trans (Nat.le_succ _) (hbk k hk'))); have hb7 := (Below.refl (w.heap.size + 1) _).grown hgr hzc hbk; have HK6 := Lib.hid ((hb7.block w.heap.size (Nat.lt_succ_self _)).trans HKc.out); have hz6 : w.heap.size + 1 ≤ w6.heap.size := Nat.le_trans hzc hb7.size; clear hrow hgr hbk hb7)
            go_roundw
            case rel => exact ⟨y + 1, by omega, by go_num, by rw [hst.out]; exact HR6.out, HK6.out, hz6, HB6.out⟩
            case measure => simp [intOf]; omega
    · have hy4 : ¬ (y : Int) < 4 := by omega
      have hye : y = 4 := by omega
      subst hye
      obtain ⟨g, cap, hv, hg, hc, hcells⟩ := rowS_shape HR.out (by intro h; have := rowsL_len xs 4; rw [h] at this; cases this)
      subst hv
      have HJ := Lib.hid (Go.Proofs.Tryz.strings_Join g 0 cap (rowsL xs 4) ⟨#[47]⟩ V hcells hg (by rw [rowsL_len]; omega) hc (by have := join_len [47] 18 ((rowsL xs 4).map (·.data.toList)) (rows_bd xs HA.out 4); rw [List.length_map, rowsL_len] at this; simpa using Nat.le_trans this (by decide)))
      have hte := text_eq xs
      have HTE : Hid ((⟨(Lib.join ((rowsL xs 4).map (·.data.toList)) (⟨#[47]⟩ : ByteArray).data.toList).toArray⟩ : ByteArray) = scT xs 24) := Lib.hid hte
      clear hcells hte
      go_wp2_with fail
      refine (HJ.out).mono ?_
      rw [HTE.out]
      rintro e w1 ⟨rfl, hb1⟩
      have HB1 := Lib.hid (bt HB.out hb1)
      go_wp2
      go_ret
      exact ⟨rfl, HB1.out⟩
end Go.Proofs.YtbafbfamjjmngaaGreatDoor
