/- The library's sort, at a list of at most twelve numbers of sixteen bits: by insertion. -/
import Derived.Test.YtdmlefccajaniaaDoorMedP
import Derived.Test.YtdmlefccajaniaaDoorRow
import Derived.BigQuiet
import Derived.BigGuard
namespace Go.Proofs.YtdmlefccajaniaaDoor
open Go.RowKit Go.Lib
theorem isNaN16_c (x : Int) (w : World) : Calls Tryd.prog 156 #[.int .i16 x] w fun e w' => e = .returned (.bool false) ∧ w = w' := by
  have hself : (x != x) = false := by simp
  go_enter Tryd.func156, Tryd.ntmps156
  go_wp2
  go_ret
  exact ⟨rfl, rfl⟩
theorem cmpLess16_c (x y : Int) (w : World) : Calls Tryd.prog 134 #[.int .i16 x, .int .i16 y] w fun e w' => e = .returned (.bool (decide (x < y))) ∧ w = w' := by
  go_enter Tryd.func134, Tryd.ntmps134
  go_wp2_with (go_at_call 156; refine (isNaN16_c _ _).mono ?_; rintro e w' ⟨rfl, rfl⟩)
  go_ret
  exact ⟨rfl, rfl⟩
theorem row_n {w : World} {base g cap n : Nat} {e : TypeId} {k : IntKind} {xs : List Int} (h : Row w base e k (.slice (some ⟨g, 0, none⟩) n cap) xs) : n = xs.length := by
  obtain ⟨_, h2⟩ := h
  rcases h2 with ⟨hv, _⟩ | ⟨g', cap', cur, hv, _⟩
  · cases hv
  · simp only [Value.slice.injEq, Option.some.injEq, Addr.mk.injEq, and_true] at hv
    exact hv.2.1
theorem row_set {w : World} {base g cap n : Nat} {e : TypeId} {k : IntKind} {xs : List Int} (h : Row w base e k (.slice (some ⟨g, 0, none⟩) n cap) xs) (j : Nat) (z : Int) :
    Row (w.setCell ⟨g, j, none⟩ (.int k z)) base e k (.slice (some ⟨g, 0, none⟩) n cap) (xs.set j z) := by
  have hn := row_n h
  subst hn
  have h2 := (World.ownsRow.stored h j (.int k z)).1
  unfold Row
  rw [List.map_set, List.length_set]; exact h2
theorem row_frz {w : World} {base g cap n : Nat} {e : TypeId} {k : IntKind} {xs : List Int} (h : Row w base e k (.slice (some ⟨g, 0, none⟩) n cap) xs) (j : Nat) : w.frozen? ⟨g, j, none⟩ = false := by
  have hn := row_n h
  subst hn
  exact World.ownsRow.frozenAt h j
theorem row_cell {w : World} {base g cap n : Nat} {e : TypeId} {k : IntKind} {xs : List Int} (h : Row w base e k (.slice (some ⟨g, 0, none⟩) n cap) xs) (j : Nat) (hj : j < xs.length) : w.cell? ⟨g, j, none⟩ = some (.int k (xs.getD j 0)) := by
  obtain ⟨g', cap', hv, _, _, _, _, hc⟩ := row_shape h (by rintro rfl; simp at hj)
  simp only [Value.slice.injEq, Option.some.injEq, Addr.mk.injEq, and_true] at hv
  obtain ⟨rfl, _⟩ := hv
  exact hc j hj
theorem row_drewN {w : World} {base : Nat} {e : TypeId} {k : IntKind} {v : Value} {xs : List Int} (h : Row w base e k v xs) (n : Nat) : Row (w.drewN n) base e k v xs := row_below h (bl_drewN (Below.refl _ _) n)
set_option maxHeartbeats 4000000 in
theorem insertion16_c (xs : List Int) (g cap n base : Nat) (hn : n = xs.length) (hm : n ≤ 12) (w : World) (hR : Row w base 35 .i16 (.slice (some ⟨g, 0, none⟩) n cap) xs) (hg : base ≤ g) :
    Calls Tryd.prog 128 #[.slice (some ⟨g, 0, none⟩) n cap, .int .i64 0, .int .i64 n] w fun e w' =>
      e = .returned (.tuple #[]) ∧ Row w' base 35 .i16 (.slice (some ⟨g, 0, none⟩) n cap) (isort xs) ∧ Below base w w' := by
  have HN := Lib.hid hn
  have HG := Lib.hid hg
  have HR0 := Lib.hid hR
  clear hn hg hR
  go_enter Tryd.func128, Tryd.ntmps128
  go_wp2
  go_loopw [6] (fun vi wr => ∃ i : Nat, 1 ≤ i ∧ (i ≤ n ∨ i = 1) ∧ vi = .int .i64 i ∧ Row wr base 35 .i16 (.slice (some ⟨g, 0, none⟩) n cap) (isort (xs.take i) ++ xs.drop i) ∧ Below base w wr) (fun vi _ => n + 1 - (intOf vi).toNat)
  case atStart =>
    refine ⟨1, by omega, Or.inr rfl, rfl, ?_, Below.refl _ _⟩
    have e : isort (xs.take 1) ++ xs.drop 1 = xs := by
      cases xs with
      | nil => rfl
      | cons x l => simp [isort, insO]
    rw [e]; exact HR0.out
  case round =>
    obtain ⟨i, hi1, hi2, rfl, hR, hW⟩ := hrel
    have HR := Lib.hid hR
    have HW := Lib.hid hW
    clear hR hW
    by_cases hlt : i < n
    · obtain ⟨S, hS⟩ : ∃ S, S = isort (xs.take i) := ⟨_, rfl⟩
      obtain ⟨x, hx⟩ : ∃ x, x = xs.getD i 0 := ⟨_, rfl⟩
      obtain ⟨R, hRd⟩ : ∃ R, R = xs.drop (i + 1) := ⟨_, rfl⟩
      have hSl : S.length = i := by rw [hS]; exact isort_length_take xs i (by have := HN.out; omega)
      have HSa : Hid (Asc S) := Lib.hid (by rw [hS]; exact isort_asc_take xs i (by have := HN.out; omega))
      have HSt : Hid (isort (xs.take i) ++ xs.drop i = stL S i x R) := Lib.hid (by rw [← hS, hx, hRd]; exact stL_start xs i (by have := HN.out; omega) S hSl)
      have HEnd : Hid (isort (xs.take (i + 1)) ++ xs.drop (i + 1) = insO x S ++ R) := Lib.hid (by rw [isort_take xs i (by have := HN.out; omega), ← hS, ← hx, ← hRd])
      have HSl := Lib.hid hSl
      have HRl : Hid (R.length = n - (i + 1)) := Lib.hid (by rw [hRd, List.length_drop, HN.out])
      clear hS hx hRd hSl
      have hid : decide ((i : Int) < n) = true := by simp; omega
      go_wp2
      go_loopw [7] (fun vj w2 => ∃ j : Nat, j ≤ i ∧ vj = .int .i64 j ∧ (∀ y ∈ S.drop j, x < y) ∧ Row w2 base 35 .i16 (.slice (some ⟨g, 0, none⟩) n cap) (stL S j x R) ∧ Below base w w2) (fun vj _ => (intOf vj).toNat)
      case atStart => exact ⟨i, Nat.le_refl _, rfl, by rw [List.drop_of_length_le (by rw [HSl.out]; exact Nat.le_refl _)]; exact fun y hy => absurd hy (by simp), by rw [← HSt.out]; exact HR.out, HW.out⟩
      case round =>
        clear HR HW
        obtain ⟨j, hj, rfl, hb, hR, hW⟩ := hrel
        have HB := Lib.hid hb
        have HR := Lib.hid hR
        have HW := Lib.hid hW
        clear hb hR hW
        have hlen : (stL S j x R).length = n := by rw [stL_length _ _ _ _ (by rw [HSl.out]; exact hj), HSl.out, HRl.out]; omega
        have HLen := Lib.hid hlen
        have hcj : wr.cell? ⟨g, j, none⟩ = some (.int .i16 x) := by
          have := row_cell HR.out j (by rw [hlen]; omega)
          rwa [stL_at _ _ _ _ (by rw [HSl.out]; exact hj)] at this
        clear hlen
        by_cases hj0 : j = 0
        · subst hj0
          have HOut : Hid (stL S 0 x R = insO x S ++ R) := Lib.hid (stL_end x S 0 R HSa.out (Nat.zero_le _) HB.out (Or.inl rfl))
          go_wp2_with fail
          go_quiet ((go_at_call 134; exact quiet_c (cmpLess16_c _ _ _)))
          go_wp2
          go_roundw
          case rel => exact ⟨i + 1, by omega, by omega, by go_num, by rw [HEnd.out, ← HOut.out]; exact row_drewN HR.out _, bl_drewN HW.out _⟩
          case measure => simp [intOf]; omega
        · obtain ⟨m, hjm⟩ : ∃ m, j = m + 1 := ⟨j - 1, by omega⟩
          obtain ⟨y, hy⟩ : ∃ y, y = S.getD m 0 := ⟨_, rfl⟩
          have hcp : wr.cell? ⟨g, m, none⟩ = some (.int .i16 y) := by
            have := row_cell HR.out m (by rw [HLen.out]; omega)
            rwa [hjm, stL_pred _ _ _ _ (by rw [HSl.out]; omega), ← hy] at this
          have hf1 := row_frz HR.out m
          have hf2 := row_frz HR.out j
          have HY := Lib.hid hy
          have HJM := Lib.hid hjm
          have hji : (j : Int) < n := by omega
          have hji2 : (m : Int) < n := by omega
          have hj0' : decide (0 < j) = true := by simp; omega
          have e1 : (j : Int) - 1 = (m : Int) := by omega
          have hwm : IntKind.i64.wrap (m : Int) = m := Go.IntWalk.i64_in _ (by omega)
          clear hy hjm hj0
          by_cases hxy : x < y
          · have HNx : Hid (∀ z ∈ S.drop m, x < z) := Lib.hid (drop_lt (by rw [HSl.out]; have := HJM.out; omega) (by have := HB.out; rwa [HJM.out] at this) (by rw [← HY.out]; exact hxy))
            have HSw : Hid (((stL S j x R).set j y).set m x = stL S m x R) := Lib.hid (by rw [HJM.out, HY.out]; exact stL_swap S m x R (by rw [HSl.out]; have := HJM.out; omega))
            go_wp2_with fail
            go_quiet ((go_at_call 134; exact quiet_c (cmpLess16_c _ _ _)))
            go_wp2
            go_region
            all_goals go_wp2
            go_roundw
            case rel => exact ⟨m, by omega, by go_num, HNx.out, by rw [← HSw.out]; exact row_set (row_set (row_drewN HR.out _) _ _) _ _, (bl_drewN HW.out _).setCell (p := ⟨g, _, none⟩) HG.out _ |>.setCell (p := ⟨g, _, none⟩) HG.out _⟩
            case measure => simp [intOf]; omega
          · have HOut : Hid (stL S j x R = insO x S ++ R) := Lib.hid (stL_end x S j R HSa.out (by rw [HSl.out]; exact hj) HB.out (Or.inr (by rw [HJM.out, Nat.add_sub_cancel, ← HY.out]; omega)))
            go_wp2_with fail
            go_quiet ((go_at_call 134; exact quiet_c (cmpLess16_c _ _ _)))
            go_wp2
            go_roundw
            case rel => exact ⟨i + 1, by omega, by omega, by go_num, by rw [HEnd.out, ← HOut.out]; exact row_drewN HR.out _, bl_drewN HW.out _⟩
            case measure => simp [intOf]; omega
    · have hi' : xs.take i = xs ∧ xs.drop i = [] := by
        have := HN.out
        exact ⟨List.take_of_length_le (by omega), List.drop_of_length_le (by omega)⟩
      have HF : Hid (Row wr base 35 .i16 (.slice (some ⟨g, 0, none⟩) n cap) (isort xs)) := Lib.hid (by have := HR.out; rwa [hi'.1, hi'.2, List.append_nil] at this)
      go_wp2
      go_end0
      exact ⟨rfl, HF.out, HW.out⟩
set_option maxHeartbeats 4000000 in
set_option maxRecDepth 100000 in
theorem pdq16_c (xs : List Int) (g cap n base : Nat) (lim : Int) (hn : n = xs.length) (hm : n ≤ 12) (w : World) (hR : Row w base 35 .i16 (.slice (some ⟨g, 0, none⟩) n cap) xs) (hg : base ≤ g) :
    Calls Tryd.prog 107 #[.slice (some ⟨g, 0, none⟩) n cap, .int .i64 0, .int .i64 n, .int .i64 lim] w fun e w' =>
      e = .returned (.tuple #[]) ∧ Row w' base 35 .i16 (.slice (some ⟨g, 0, none⟩) n cap) (isort xs) ∧ Below base w w' := by
  have HN := Lib.hid hn
  have HR := Lib.hid hR
  clear hn hR
  go_enter Tryd.func107, Tryd.ntmps107
  go_wp2
  go_loopw [1, 2, 3] (fun a b l wr => a = .int .i64 0 ∧ b = .int .i64 n ∧ l = .int .i64 lim ∧ wr = w) (fun _ _ _ _ => 0)
  case atStart => exact ⟨rfl, rfl, rfl, rfl⟩
  case round =>
    obtain ⟨rfl, rfl, rfl, rfl⟩ := hrel
    go_wp2_with fail
    refine (insertion16_c xs g cap n base HN.out hm _ HR.out hg).mono ?_
    rintro e w1 ⟨rfl, hR1, hb1⟩
    have HR1 := Lib.hid hR1
    have HB1 := Lib.hid hb1
    clear hR1 hb1
    go_wp2
    exact bodyPost_ret (results_none rfl _ _ _) rfl ⟨rfl, HR1.out, HB1.out⟩
theorem wpList_index_str {P : Program} {ops : Array Oper} {rest : List Oper} {o : Oper} {a : Act} {w : World} {Q : Exit → Act → World → Prop} (hgd : o.guard = none) (ty : TypeId) (x y : Operand) (ho : o.op = .index ty x y)
    (b : ByteArray) (hx : a.eval x = .string b) {kk : IntKind} (i : Nat) (hy : a.eval y = .int kk i) (hi : i < b.size) (hu : P.underlying ty = some .string)
    (h : ∀ z : Int, 0 ≤ z → z ≤ 255 → wpList P ops Q rest (a.put o.dst (.int .u8 z)) w) : wpList P ops Q (o :: rest) a w :=
  wpList_plain hgd fun _ hK => by
    unfold Oper.wp execOp
    simp only [ho, hx, hy, Instr.index, asIntOf, Sem.run_bind, Sem.run_pure, Result.andThen_ok, run_underlying hu]
    rw [if_pos (by omega), Int.toNat_natCast, getElem?_pos b i hi]
    exact hK _ _ (h _ (by omega) (by have := (b[i]).toNat_lt; omega))
set_option maxRecDepth 1000000 in
set_option maxHeartbeats 4000000 in
theorem bitsLen64_c (n : Nat) (hm : n ≤ 12) (w : World) : Calls Tryd.prog 138 #[.int .u64 n] w fun e w' => (∃ r : Int, e = .returned (.int .i64 r)) ∧ w = w' := by
  go_enter Tryd.func138, Tryd.ntmps138
  generalize htb : ByteArray.mk _ = tb
  have hsz : 12 < tb.size := by rw [← htb]; exact of_decide_eq_true (by kernel_rfl)
  clear htb
  have g1 : ¬ (4294967296 ≤ (n : Int)) := by omega
  have g2 : ¬ (65536 ≤ (n : Int)) := by omega
  have g3 : ¬ (256 ≤ (n : Int)) := by omega
  go_upto_region 10 with fail
  go_wp2_with (refine wpList_index_str rfl 9 (.const _) (.tmp 21) rfl tb rfl n rfl (Nat.lt_of_le_of_lt hm hsz) Tryd.underlying9 ?_; intro z hz1 hz2)
  go_ret
  exact ⟨⟨_, rfl⟩, rfl⟩
theorem bitsLen_c (n : Nat) (hm : n ≤ 12) (w : World) : Calls Tryd.prog 108 #[.int .u64 n] w fun e w' => (∃ r : Int, e = .returned (.int .i64 r)) ∧ w = w' := by
  go_enter Tryd.func108, Tryd.ntmps108
  go_wp2_with fail
  refine (bitsLen64_c n hm _).mono ?_
  rintro e w1 ⟨⟨r, rfl⟩, rfl⟩
  go_wp2
  go_ret
  exact ⟨⟨_, rfl⟩, rfl⟩
theorem sort16_c (xs : List Int) (v : Value) (base : Nat) (hm : xs.length ≤ 12) (hne : xs ≠ []) (w : World) (hR : Row w base 35 .i16 v xs) :
    Calls Tryd.prog 89 #[v] w fun e w' => e = .returned (.tuple #[]) ∧ Row w' base 35 .i16 v (isort xs) ∧ Below base w w' := by
  obtain ⟨g, cap, rfl, hg1, hg2, hcap, hcm, _⟩ := row_shape hR hne
  have HR := Lib.hid hR
  have HG := Lib.hid hg1
  clear hR hne
  generalize hn : xs.length = n at *
  have HN := Lib.hid hn
  clear hn
  go_enter Tryd.func89, Tryd.ntmps89
  go_wp2_with fail
  refine (bitsLen_c n hm _).mono ?_
  rintro e w1 ⟨⟨r, rfl⟩, rfl⟩
  go_wp2_with fail
  refine (pdq16_c xs g cap n base r HN.out.symm hm _ HR.out HG.out).mono ?_
  rintro e w1 ⟨rfl, hR1, hb1⟩
  have HR1 := Lib.hid hR1
  have HB1 := Lib.hid hb1
  clear hR1 hb1
  go_wp2
  go_end0
  exact ⟨rfl, HR1.out, HB1.out⟩
end Go.Proofs.YtdmlefccajaniaaDoor
