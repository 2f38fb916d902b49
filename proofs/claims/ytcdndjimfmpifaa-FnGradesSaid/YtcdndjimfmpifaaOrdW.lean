/- Lists of whole numbers that a call has made: stores, a key's order, appends in a region that draws. -/
import Derived.Test.YtcdndjimfmpifaaOrdP
import Derived.Test.YtcdndjimfmpifaaRowAt
import Derived.Test.YtcdndjimfmpifaaScale
import Derived.Test.YtcdndjimfmpifaaGrdB
import Derived.BigQuiet
import Derived.BigGuard
import Derived.Deep.RegionHeld3
import Derived.Deep.AppendLies
import Derived.Lib.SliceRun
namespace Go.Proofs.Ytcdndjimfmpifaa
open Go.RowKit Go.Lib
/-- A number appended at a step of a region that draws its order. -/
theorem stepI_app {P : Program} {w : World} {ops : Array Oper} {o : Oper} {a : Act} {K : Act → World → Prop} {Q : Exit → Act → World → Prop} {E : Prop} (hgd : o.guard = none) (s x : Operand) (t : TypeId)
    (ho : o.op = .call { callee := .builtin .append, args := #[s, x], argTypes := #[t, t] })
    (base : Nat) (e : TypeId) (k : IntKind) (bytes : Nat) (ht : P.underlying t = some (.slice e)) (hinfo : (P.info? e).map (fun i => (i.zero, i.size, i.bytes)) = some (some (.int k 0), 1, bytes)) (hb8 : bytes ≤ 8)
    (v : Value) (xs : List Int) (hs : a.eval s = v) (hown : Row w base e k v xs) (g : Nat) (c : Nat) (z : Int) (hx : a.eval x = .slice (some ⟨g, 0, none⟩) 1 c) (hg : w.cell? ⟨g, 0, none⟩ = some (.int k z))
    (hlen : xs.length ≤ 17592186000000) (hbase : base ≤ w.heap.size)
    (h : ∀ v' w', Row w' base e k v' (xs ++ [z]) → w.grownBy w' v.ownBlock → (∀ j, v.ownBlock = some j → base ≤ j) → (v'.ownBlock = v.ownBlock ∨ v'.ownBlock = some w.heap.size) → K (a.put o.dst v') w') :
    if Region.wanted o (yielded ops a.tmps) = true then Oper.wp P o a w K Q else E := by
  have hw : Region.wanted o (yielded ops a.tmps) = true := by simp [Region.wanted, hgd]
  rw [if_pos hw]
  obtain ⟨i, hi, hz0, hz1, hz2⟩ := info_parts hinfo
  have hbk : ∀ j, v.ownBlock = some j → base ≤ j := by
    intro j hj
    obtain ⟨_, h2⟩ := hown
    rcases h2 with ⟨h2, _⟩ | ⟨g', cap, cur, hv, hg', _⟩
    · rw [h2] at hj; cases hj
    · rw [hv] at hj; simp [Value.ownBlock] at hj; omega
  have hb' : (xs.length + 1) * bytes ≤ (xs.length + 1) * 8 := Nat.mul_le_mul_left _ hb8
  obtain ⟨v', w', hr, h2, h3, h4, h5⟩ := run_append_own_at (P := P) w base t o.type e i (.int k 0) 1 bytes ht hi hz0 hz1 hz2 rfl (by decide) v xs.length (xs.map (Value.int k)) hown ⟨g, 0, none⟩ 1 c [.int k z] rfl
    (fun j u hj => by
      match j, hj with
      | 0, hj => simp at hj; subst hj; simpa [Addr.add] using hg)
    (fun u hu => by simp at hu; subst hu; rfl) (by unfold maxLen; omega) (by omega) hbase
  unfold Oper.wp execOp
  simp only [ho, resolve, invoke, builtin, Sem.run_bind, Sem.run_pure, Result.andThen_ok, List.map_toArray, List.map_cons, List.map_nil, hs, hx, hr]
  refine h v' w' ?_ h3 hbk h5
  unfold Row
  simpa using h2
theorem rk_n {w : World} {base g cap n : Nat} {e : TypeId} {k : IntKind} {xs : List Int} (h : Row w base e k (.slice (some ⟨g, 0, none⟩) n cap) xs) : n = xs.length := by
  obtain ⟨_, h2⟩ := h
  rcases h2 with ⟨hv, _⟩ | ⟨g', cap', cur, hv, _⟩
  · cases hv
  · simp only [Value.slice.injEq, Option.some.injEq, Addr.mk.injEq, and_true] at hv
    exact hv.2.1
theorem rk_set {w : World} {base g cap n : Nat} {e : TypeId} {k : IntKind} {xs : List Int} (h : Row w base e k (.slice (some ⟨g, 0, none⟩) n cap) xs) (j : Nat) (z : Int) :
    Row (w.setCell ⟨g, j, none⟩ (.int k z)) base e k (.slice (some ⟨g, 0, none⟩) n cap) (xs.set j z) := by
  have hn := rk_n h
  subst hn
  have h2 := (World.ownsRow.stored h j (.int k z)).1
  unfold Row
  rw [List.map_set, List.length_set]; exact h2
theorem rk_frz {w : World} {base g cap n : Nat} {e : TypeId} {k : IntKind} {xs : List Int} (h : Row w base e k (.slice (some ⟨g, 0, none⟩) n cap) xs) (j : Nat) : w.frozen? ⟨g, j, none⟩ = false := by
  have hn := rk_n h
  subst hn
  exact World.ownsRow.frozenAt h j
theorem rk_cell {w : World} {base g cap n : Nat} {e : TypeId} {k : IntKind} {xs : List Int} (h : Row w base e k (.slice (some ⟨g, 0, none⟩) n cap) xs) (j : Nat) (hj : j < xs.length) : w.cell? ⟨g, j, none⟩ = some (.int k (xs.getD j 0)) := by
  obtain ⟨g', cap', hv, _, _, _, _, hc⟩ := row_shape h (by rintro rfl; simp at hj)
  simp only [Value.slice.injEq, Option.some.injEq, Addr.mk.injEq, and_true] at hv
  obtain ⟨rfl, _⟩ := hv
  exact hc j hj
theorem rk_drewN {w : World} {base : Nat} {e : TypeId} {k : IntKind} {v : Value} {xs : List Int} (h : Row w base e k v xs) (n : Nat) : Row (w.drewN n) base e k v xs := row_below h (bl_drewN (Below.refl _ _) n)
theorem rk_any {w : World} {base : Nat} {e : TypeId} {k : IntKind} {v : Value} {xs : List Int} (h : Row w base e k v xs) : ∃ p cap, v = .slice p xs.length cap := by
  obtain ⟨_, h2⟩ := h
  rcases h2 with ⟨h2, h0⟩ | ⟨g, cap, cur, hv, _⟩
  · exact ⟨none, 0, by rw [h2, h0]⟩
  · exact ⟨_, cap, hv⟩
theorem rk_mono {w : World} {b b' : Nat} {e : TypeId} {k : IntKind} {v : Value} {xs : List Int} (h : Row w b e k v xs) (hb : b' ≤ b) : Row w b' e k v xs := by
  obtain ⟨h1, h2⟩ := h
  refine ⟨h1, ?_⟩
  rcases h2 with h2 | ⟨g, cap, cur, hv, hg, r⟩
  · exact Or.inl h2
  · exact Or.inr ⟨g, cap, cur, hv, Nat.le_trans hb hg, r⟩
/-- Another list has grown. -/
theorem rk_grown {w w1 : World} {base : Nat} {e : TypeId} {k : IntKind} {v u : Value} {xs : List Int} (h : Row w base e k v xs) (hg : w.grownBy w1 u.ownBlock) (hne : ∀ j, v.ownBlock = some j → u.ownBlock ≠ some j) : Row w1 base e k v xs := by
  obtain ⟨h1, h2⟩ := h
  refine ⟨h1, ?_⟩
  rcases h2 with h2 | ⟨g, cap, cur, hv, hgb, hh, r⟩
  · exact Or.inl h2
  · exact Or.inr ⟨g, cap, cur, hv, hgb, (hg.block g (lt_of_heap hh) (fun e => hne g (by rw [hv]; rfl) e.symm)).trans hh, r⟩
/-- Another block has changed in one cell. -/
theorem rk_other {w : World} {base : Nat} {e : TypeId} {k : IntKind} {v : Value} {xs : List Int} (h : Row w base e k v xs) {p : Addr} (hne : v.ownBlock ≠ some p.block) (u : Value) : Row (w.setCell p u) base e k v xs := by
  obtain ⟨h1, h2⟩ := h
  refine ⟨h1, ?_⟩
  rcases h2 with h2 | ⟨g, cap, cur, hv, hgb, hh, r⟩
  · exact Or.inl h2
  · exact Or.inr ⟨g, cap, cur, hv, hgb, heap_far u (fun e => hne (by rw [hv, ← e]; rfl)) hh, r⟩
theorem info_i64o : (Try.prog.info? 2).map (fun i => (i.zero, i.size, i.bytes)) = some (some (.int .i64 0), 1, 8) := by kernel_rfl
theorem cEnds_c (a b : Int) (w : World) :
    Calls Try.prog 41 #[.int .i64 a, .int .i64 b] w fun e w' => e = .returned (.bool (endB a b)) ∧ w = w' := by
  cases h1 : ydB a <;> cases h2 : ydB b
  all_goals
    have hf : endB a b = ((ydB a && ydB b) && decide (a < b)) := rfl
    rw [h1, h2] at hf
    have HF := Lib.hid hf
    have D1 := Lib.hid (fun w => by have := cDensity_c a w; rwa [h1] at this : ∀ w, Calls Try.prog 65 #[.int .i64 a] w fun e w' => e = .returned (.bool _) ∧ w = w')
    have D2 := Lib.hid (fun w => by have := cDensity_c b w; rwa [h2] at this : ∀ w, Calls Try.prog 65 #[.int .i64 b] w fun e w' => e = .returned (.bool _) ∧ w = w')
    clear h1 h2 hf
    go_enter Try.func41, Try.ntmps41
    go_wp2_with (first | (go_at_call_of 65 (Value.int .i64 a); refine (D1.out _).mono ?_; rintro e w' ⟨rfl, rfl⟩) | (go_at_call_of 65 (Value.int .i64 b); refine (D2.out _).mono ?_; rintro e w' ⟨rfl, rfl⟩))
    go_ret
    exact ⟨ret_bool (by rw [HF.out]; simp), rfl⟩
theorem cAreScaled_c (a b : Int) (w : World) :
    Calls Try.prog 43 #[.int .i64 a, .int .i64 b] w fun e w' => e = .returned (.bool (endB a b)) ∧ w = w' := by
  cases h1 : ydB a <;> cases h2 : ydB b
  all_goals
    have hf : endB a b = ((ydB a && ydB b) && decide (a < b)) := rfl
    rw [h1, h2] at hf
    have HF := Lib.hid hf
    have C1 := fun w => cIsDensity_c a w
    have C2 := fun w => cIsDensity_c b w
    rw [h1] at C1
    rw [h2] at C2
    have D1 := Lib.hid C1
    have D2 := Lib.hid C2
    clear h1 h2 hf C1 C2
    go_enter Try.func43, Try.ntmps43
    go_wp2_with (first | (go_at_call_of 64 (Value.int .i64 a); refine (D1.out _).mono ?_; rintro e w' ⟨rfl, rfl⟩) | (go_at_call_of 64 (Value.int .i64 b); refine (D2.out _).mono ?_; rintro e w' ⟨rfl, rfl⟩))
    go_ret
    exact ⟨ret_bool (by rw [HF.out]; simp), rfl⟩
/-- The scales of all papers, and their order. -/
def scF (cs : List Cv) (l d : Int) (z : Int) : Int := sclN (cs.getD z.toNat []) l d
def okF (cs : List Cv) (l d : Int) (i : Nat) : Bool := sclB (cs.getD i []) l d
def keyF (cs : List Cv) (l d : Int) (z : Int) : Int := -scF cs l d z
def natR (n : Nat) : List Int := (List.range n).map fun i : Nat => (i : Int)
theorem natR_len (n : Nat) : (natR n).length = n := by simp [natR]
theorem natR_get (n i : Nat) (h : i < n) : (natR n).getD i 0 = i := by simp [natR, List.getD_eq_getElem?_getD, h]
theorem natR_succ (n : Nat) : natR (n + 1) = natR n ++ [(n : Int)] := by simp [natR, List.range_succ]
theorem natR_take (n k : Nat) (h : k ≤ n) : (natR n).take k = natR k := by
  simp [natR, ← List.map_take, List.take_range, Nat.min_eq_left h]
theorem natR_mem {n : Nat} {z : Int} (h : z ∈ natR n) : 0 ≤ z ∧ z < n := by
  simp only [natR, List.mem_map, List.mem_range] at h
  obtain ⟨i, hi, rfl⟩ := h
  exact ⟨Int.natCast_nonneg i, Int.ofNat_lt.2 hi⟩
def scL (cs : List Cv) (l d : Int) (n : Nat) : List Int := (List.range n).map fun i : Nat => scF cs l d i
theorem scL_len (cs : List Cv) (l d : Int) (n : Nat) : (scL cs l d n).length = n := by simp [scL]
theorem scL_get (cs : List Cv) (l d : Int) (n i : Nat) (h : i < n) : (scL cs l d n).getD i 0 = scF cs l d i := by simp [scL, List.getD_eq_getElem?_getD, h]
theorem scL_succ (cs : List Cv) (l d : Int) (n : Nat) : scL cs l d (n + 1) = scL cs l d n ++ [scF cs l d n] := by simp [scL, List.range_succ]
def ordL (cs : List Cv) (l d : Int) (n : Nat) : List Int := isortK (keyF cs l d) (natR n)
theorem ordL_len (cs : List Cv) (l d : Int) (n : Nat) : (ordL cs l d n).length = n := by
  have := isortK_length (keyF cs l d) (natR n)
  rwa [natR_len] at this
theorem ordL_succ (cs : List Cv) (l d : Int) (n : Nat) : ordL cs l d (n + 1) = insK (keyF cs l d) n (ordL cs l d n) := by
  unfold ordL; rw [natR_succ, isortK_snoc]
theorem ordL_mem {cs : List Cv} {l d : Int} {n : Nat} {z : Int} (h : z ∈ ordL cs l d n) : 0 ≤ z ∧ z < n := by
  have h1 := isortK_mem_take (keyF cs l d) (natR n) z (natR n).length (Nat.le_refl _)
  rw [List.take_length] at h1
  exact natR_mem (h1.1 h)
theorem ordL_asc (cs : List Cv) (l d : Int) (n : Nat) : AscK (keyF cs l d) (ordL cs l d n) := by
  have h1 := isortK_asc_take (keyF cs l d) (natR n) (natR n).length (Nat.le_refl _)
  rwa [List.take_length] at h1
def okN (cs : List Cv) (l d : Int) (n : Nat) : Bool := (List.range n).all (okF cs l d)
theorem okN_succ (cs : List Cv) (l d : Int) (n : Nat) : okN cs l d (n + 1) = (okN cs l d n && okF cs l d n) := by simp [okN, List.range_succ]
theorem okN_bad {cs : List Cv} {l d : Int} {n k : Nat} (h : okF cs l d k = false) (hk : k < n) : okN cs l d n = false := by
  unfold okN
  rw [List.all_eq_false]
  exact ⟨k, by simpa using hk, by simp [h]⟩
theorem scl_bd (q : Cv) (l d : Int) : -401 ≤ sclN q l d ∧ sclN q l d ≤ 402 := by
  have h1 := plN_le q d
  have h2 := plN_le q (l + 1)
  unfold sclN sclI
  split <;> omega
def ogV (cs : List Cv) (l d : Int) : List Int × Int := if gcV cs (endB l d) = 0 then (if okN cs l d cs.length then (ordL cs l d cs.length, 0) else ([], 6)) else ([], gcV cs (endB l d))
end Go.Proofs.Ytcdndjimfmpifaa
