/- slices.Delete of one print out of a row of one's own. -/
import Derived.Test.YtnbbbmnjbfehmaaSwapC
import Derived.Deep.RegionLaw
namespace Go.Proofs.Ytnbbbmnjbfehmaa
open Go.RowKit Go.Lib
abbrev zeroP : List Value := List.replicate 64 (Value.int .i16 0)
theorem zero_print : ∃ z : Array Value, (∀ w, (zeroValue 45).run Try.prog w = .ok (.agg z) w) ∧ (Builtin.zeroCells z 1).toList = zeroP := by
  refine ⟨arr .i16 (List.replicate 64 0), fun w => ?_, ?_⟩
  · obtain ⟨i, hi, hz0, _, _⟩ := info_parts infoPrint
    simp only [zeroValue, typeInfo, Sem.run_bind]
    simp [hi, hz0]
  · unfold Builtin.zeroCells
    rw [arr_size]
    apply List.ext_getElem
    · simp
    · intro k h1 h2
      have hk : k < 64 := by simpa using h1
      have h64 : k < (arr .i16 (List.replicate 64 0)).size := by rw [arr_size]; simpa using hk
      simp only [Array.getElem_toList, Array.getElem_map, Array.getElem_range, List.length_replicate, Nat.mod_eq_of_lt hk, List.getElem_replicate]
      rw [getElem!_pos _ k h64]
      have := arr_get .i16 (List.replicate 64 0) k (by simpa using hk)
      rw [Array.getElem?_eq_getElem h64] at this
      rw [List.getD_eq_getElem?_getD, List.getElem?_replicate, if_pos hk] at this
      exact Option.some.inj this
/-- 'clear(s)' of one print. -/
theorem run_clear_print (w : World) (ty : TypeId) (b o c : Nat) (hc : ∀ j, j < 64 → (w.cell? ⟨b, o + j, none⟩).isSome = true) (hf : ∀ j, j < 64 → w.frozen? ⟨b, o + j, none⟩ = false) :
    (Builtin.clear_ #[28] ty #[.slice (some ⟨b, o, none⟩) 1 c]).run Try.prog w = .ok (.tuple #[]) (w.setCells b o zeroP) := by
  obtain ⟨z, hz, hzc⟩ := zero_print
  have hst := run_storeCells_cells (P := Try.prog) b o zeroP 0 w (by simpa using hc) (by simpa using hf) (by intro v hv; rw [List.eq_of_mem_replicate hv]; rfl)
  simp only [Nat.add_zero] at hst
  simp [Builtin.clear_, run_underlying Try.underlying28, hz, Value.cells, hzc, hst]
theorem Prs_del {l : List (List Int)} (h : Prs l) (i : Nat) : Prs (l.take i ++ l.drop (i + 1)) := by
  intro k hk
  by_cases hki : k < (l.take i).length
  · have := Prs_take h i k hki
    rwa [List.getD_eq_getElem?_getD, List.getElem?_append_left hki, ← List.getD_eq_getElem?_getD]
  · rw [List.length_append] at hk
    have := Prs_drop h (i + 1) (k - (l.take i).length) (by omega)
    rwa [List.getD_eq_getElem?_getD, List.getElem?_append_right (by omega), ← List.getD_eq_getElem?_getD]
theorem below_setCells {B g : Nat} {w0 : World} (hg : B ≤ g) : ∀ (vs : List Value) {w : World} (_ : Below B w0 w) (i : Nat), Below B w0 (w.setCells g i vs)
  | [], _, h, _ => h
  | v :: r, _, h, i => below_setCells hg r (h.setCell (p := ⟨g, i, none⟩) hg v) (i + 1)
set_option maxHeartbeats 1000000 in
set_option maxRecDepth 100000 in
theorem delete_c (base g cap i n : Nat) (l : List (List Int)) (hl : Prs l) (hn : n = l.length) (hi : i < n) (hm : n ≤ 1048576) (w : World) (hrow : RowP w base (.slice (some ⟨g, 0, none⟩) n cap) l) :
    Calls Try.prog 68 #[.slice (some ⟨g, 0, none⟩) n cap, .int .i64 i, .int .i64 ((i : Int) + 1)] w fun e w' => e = .returned (.slice (some ⟨g, 0, none⟩) (n - 1) cap) ∧ RowP w' base (.slice (some ⟨g, 0, none⟩) (n - 1) cap) (l.take i ++ l.drop (i + 1)) ∧ Below base w w' := by
  have HN := Lib.hid hn
  have HR := Lib.hid hrow
  have HP := Lib.hid hl
  have h1 : (i : Int) + 1 ≤ n := by omega
  have hiI : (i : Int) < n := by omega
  obtain ⟨_, h2⟩ := hrow
  rcases h2 with ⟨h2, _⟩ | ⟨g', cap', cur, hv, hg, hh, hc, hmx, hsz, htk⟩
  · cases h2
  · simp only [Value.slice.injEq, Option.some.injEq, Addr.mk.injEq, and_true] at hv
    obtain ⟨rfl, -, rfl⟩ := hv
    rw [← hn] at hc htk
    have hnc : (n : Int) ≤ cap := by omega
    have hic : (i : Int) ≤ cap := by omega
    obtain ⟨news, hnews⟩ : ∃ news, news = flatP (l.drop (i + 1)) := ⟨_, rfl⟩
    have hPd : Prs (l.drop (i + 1)) := Prs_drop hl (i + 1)
    have hlen : news.length = (n - (i + 1)) * 64 := by rw [hnews, flatP_length _ hPd, List.length_drop, hn]
    have hget : ∀ t, t < news.length → news[t]? = cur.toList[(i + 1) * 64 + t]? := by
      intro t ht
      have e1 : flatP l = flatP (l.take (i + 1)) ++ news := by rw [hnews, ← flatP_append, List.take_append_drop]
      have e2 : (flatP (l.take (i + 1))).length = (i + 1) * 64 := by rw [flatP_length _ (Prs_take hl (i + 1)), List.length_take, Nat.min_eq_left (by omega)]
      have e3 : (flatP l)[(i + 1) * 64 + t]? = news[t]? := by rw [e1, List.getElem?_append_right (by omega), e2, Nat.add_sub_cancel_left]
      rw [← e3, ← htk, List.getElem?_take, if_pos (by omega)]
    obtain ⟨A, hA, hsrc⟩ : ∃ A : Addr, (if cap = i + 1 then some (⟨g, 0, none⟩ : Addr) else some ⟨g, (i + 1) * 64, none⟩) = some A ∧ Hid (∀ t u, news[t]? = some u → w.drew.cell? (A.add t) = some u) := by
      by_cases h : cap = i + 1
      · refine ⟨⟨g, 0, none⟩, by simp [h], fun t u hu => ?_⟩
        have h0 : news.length = 0 := by rw [hlen]; omega
        rw [List.length_eq_zero_iff.1 h0] at hu
        simp at hu
      · refine ⟨⟨g, (i + 1) * 64, none⟩, by simp [h], fun t u hu => ?_⟩
        have ht : t < news.length := (List.getElem?_eq_some_iff.1 hu).1
        rw [hget t ht] at hu
        rw [Addr.add_mid]
        show w.cell? _ = _
        rw [cell_of_row w g _ cur _ _ hh]
        simpa using hu
    have s1 : Hid (news.length = (n - (i + 1)) * 64) := hlen
    have s2 : Hid (∀ u ∈ news, u.oneCell' = true) := by rw [hnews]; exact flatP_one _
    have s3 : Hid (∀ t, t < news.length → (w.drew.cell? ⟨g, 0 + i * 64 + t, none⟩).isSome = true ∧ w.drew.frozen? ⟨g, 0 + i * 64 + t, none⟩ = false) := by
      intro t ht
      rw [hlen] at ht
      refine ⟨?_, frozen_of_row _ _ _ _ _ hh⟩
      show (w.cell? _).isSome = true
      rw [cell_of_row w g _ cur _ _ hh, Array.getElem?_eq_getElem (by omega)]
      rfl
    obtain ⟨i0, hi0, _, hz1, _⟩ := info_parts infoPrint
    obtain ⟨W1, hW1⟩ : ∃ W1, W1 = w.drew.setCells g (0 + i * 64) news := ⟨_, rfl⟩
    have hlast : i + (n - (i + 1)) = n - 1 := by omega
    have hH1 : W1.heap[g]? = some (.cells (cur.toList.take (i * 64) ++ news ++ cur.toList.drop (i * 64 + news.length)).toArray 45 (0, 0)) := by
      rw [hW1, Nat.zero_add]
      exact setCells_mid _ w.drew g (i * 64) cur _ hh (by rw [hlen, Array.length_toList.symm.trans Array.length_toList, hsz]; omega)
    have hcl : ∀ ty, (Builtin.clear_ #[28] ty #[.slice (some ⟨g, (n - 1) * 64, none⟩) 1 (cap - (n - 1))]).run Try.prog W1 = .ok (.tuple #[]) (W1.setCells g ((n - 1) * 64) zeroP) :=
      fun ty => run_clear_print W1 ty g ((n - 1) * 64) _ (fun t ht => by
        rw [cell_of_row W1 g _ _ _ _ hH1, Array.getElem?_eq_getElem (by simp [hlen, hsz]; omega)]; rfl) (fun t ht => frozen_of_row _ _ _ _ _ hH1)
    have HH := Lib.hid hh
    have HS := Lib.hid hsz
    have HT := Lib.hid htk
    have hW : Hid (W1 = w.drew.setCells g (0 + i * 64) news) := hW1
    have HH1 := Lib.hid hH1
    have HNw := Lib.hid hnews
    have hjc : i + 1 ≤ cap := by omega
    have h11 : n - (n - 1) = 1 := by omega
    have h0i : (0 : Int) ≤ (i : Int) + 1 := by omega
    clear hn htk hsz hh hl hW1 hH1 hget hnews hlen hPd
    go_enter Try.func68, Try.ntmps68
    go_wp2_with fail
    go_region_law (refine step_append_room rfl (.tmp 22) (.tmp 25) 28 rfl 45 i0 64 Try.underlying28 hi0 hz1 g 0 i cap (by simp [Act.eval, Act.put]) A (n - (i + 1)) (cap - (i + 1)) news (by simp [Act.eval, Act.put]) s1.out hsrc.out s2.out (by omega) s3.out ?_; rw [← hW.out])
    go_wp2
    go_ret
    have hB : Below base w W1 := by
      rw [hW.out, Nat.zero_add]
      exact below_setCells hg _ (bl_drew (Below.refl _ _)) _
    have hlt : l.length = n := HN.out.symm
    refine ⟨rfl, ?_, below_setCells hg _ hB _⟩
    have e1 : (l.take i ++ l.drop (i + 1)).length = n - 1 := by rw [List.length_append, List.length_take, List.length_drop, hlt]; omega
    have e3 : Prs (l.take i ++ l.drop (i + 1)) := Prs_del HP.out i
    unfold RowP
    rw [e1]
    refine ⟨by rw [flatP_length _ e3, e1], .inr ⟨g, cap, _, rfl, hg, setCells_mid _ _ g ((n - 1) * 64) _ _ HH1.out ?_, by omega, hmx, ?_, ?_⟩⟩
    · simp [s1.out, HS.out]; omega
    · simp [s1.out, HS.out]; omega
    · have hs := HS.out
      have hn1 := s1.out
      have ht := HT.out
      have e4 : (cur.toList.take (i * 64)) = flatP (l.take i) := by
        have : flatP l = flatP (l.take i) ++ flatP (l.drop i) := by rw [← flatP_append, List.take_append_drop]
        have h6 : (flatP (l.take i)).length = i * 64 := by rw [flatP_length _ (Prs_take HP.out i), List.length_take, Nat.min_eq_left (by omega)]
        have h8 : cur.toList.take (i * 64) = (cur.toList.take (n * 64)).take (i * 64) := by rw [List.take_take, Nat.min_eq_left (by omega)]
        rw [h8, ht, this, List.take_left' h6]
      have h7 : (flatP (l.take i)).length = i * 64 := by rw [flatP_length _ (Prs_take HP.out i), List.length_take, Nat.min_eq_left (by omega)]
      rw [e4, flatP_append, ← HNw.out]
      have hX : (flatP (l.take i) ++ news).length = (n - 1) * 64 := by rw [List.length_append, h7, hn1]; omega
      generalize flatP (l.take i) ++ news = X at *
      simp only [List.append_assoc]
      rw [List.take_left' hX, List.take_left' hX]
end Go.Proofs.Ytnbbbmnjbfehmaa
