/- Lists of prints copied whole; sheets with other frames. -/
import Derived.Test.YtnbbbmnjbfehmaaRowP
import Derived.Test.YtnbbbmnjbfehmaaPlaceOf
import Derived.Deep.RegionHeld3
import Derived.Deep.AppendLies
import Derived.Lib.SliceRun
namespace Go.Proofs.Ytnbbbmnjbfehmaa
open Go.RowKit Go.Lib
/-- A list of prints at the beginning of a block. -/
def PB (w : World) (g : Nat) (l : List (List Int)) : Prop := g < w.heap.size ∧ PrAt w g 0 l
theorem pb_block {w : World} {g : Nat} {l : List (List Int)} {t : TypeId} {fr : Nat × Nat} (h : w.heap[g]? = some (.cells (flatP l).toArray t fr)) (hl : Prs l) : PB w g l := ⟨lt_of_heap h, PrAt_block h hl⟩
theorem pb_below {w w1 : World} {g : Nat} {l : List (List Int)} (hb : Below w.heap.size w w1) (h : PB w g l) : PB w1 g l := ⟨Nat.lt_of_lt_of_le h.1 hb.size, PrAt_below hb h.1 h.2⟩
theorem pb_apart {w w1 : World} {g : Nat} {l : List (List Int)} (he : w1.heap[g]? = w.heap[g]?) (h : PB w g l) : PB w1 g l := by
  have hs : g < w1.heap.size := by
    have h0 := h.1
    have : w.heap[g]? ≠ none := by simp; omega
    rw [← he] at this
    simp at this; omega
  refine ⟨hs, fun i hi j v hv => ?_⟩
  exact (World.cell?_of_block (w := w) (a := ⟨g, 0 + i * 64 + j, none⟩) he).trans (h.2 i hi j v hv)
theorem pb_PS {w : World} {g : Nat} {l : List (List Int)} (h : PB w g l) : PS w (some ⟨g, 0, none⟩) l := fun _ => ⟨g, 0, rfl, h.1, h.2⟩
theorem clone_c (b n c : Nat) (l : List (List Int)) (hl : Prs l) (hn : n = l.length) (hm : n ≤ 1048576) (w : World) (hg : PB w b l) :
    Calls Try.prog 65 #[.slice (some ⟨b, 0, none⟩) n c] w fun e w' => ∃ v, e = .returned v ∧ RowP w' w.heap.size v l ∧ Below w.heap.size w w' := by
  have HP := Lib.hid hl
  have HN := Lib.hid hn
  have q22 : ∀ (w : World) (a : Option Addr) (n c n' c' : Nat), (binOp .eql 28 (.slice a n c) (.slice none n' c')).run Try.prog w = .ok (.bool a.isNone) w := fun w a n c n' c' => Lib.run_eql_slice_nil w _ _ a n c n' c' Try.underlying28
  have HAT : Hid (PrAt (w.alloc (.cells #[] 45)) b 0 l) := Lib.hid (PrAt_below (bl1 _ _) hg.1 hg.2)
  clear hl hn hg
  go_enter Try.func65, Try.ntmps65
  go_wp2_with (at_builtin; refine wpList_appPs rfl (.tmp 5) (.tmp 6) 28 rfl w.heap.size Try.underlying28 infoPrint _ [] rfl (rowP_new w _ (Nat.le_refl _)) b 0 c n l HN.out HP.out rfl HAT.out (by simp; omega) (by simp) ?_; intro v1 w6 hrow hgr hbk hnil hat; have HRn := Lib.hid hrow; have HWn := Lib.hid (below_app (bl1 w (.cells #[] 45)) hgr (Nat.le_refl _) hbk); clear hrow hgr hbk hnil hat)
  go_ret
  exact ⟨_, rfl, by simpa using HRn.out, HWn.out⟩
/-- Prints appended at a step of a region that draws its order. -/
theorem step_appPs {P : Program} {w : World} {ops : Array Oper} {o : Oper} {a : Act} {K : Act → World → Prop} {Q : Exit → Act → World → Prop} {E : Prop} (hgd : o.guard = none) (s x : Operand) (t : TypeId)
    (ho : o.op = .call { callee := .builtin .append, args := #[s, x], argTypes := #[t, t] })
    (base : Nat) (ht : P.underlying t = some (.slice 45)) (hinfo : (P.info? 45).map (fun i => (i.zero, i.size, i.bytes)) = some (some (.agg (arr .i16 (List.replicate 64 0))), 64, 128))
    (v : Value) (l : List (List Int)) (hs : a.eval s = v) (hown : RowP w base v l) (b of c : Nat) (n : Nat) (m : List (List Int)) (hmn : n = m.length) (hm : Prs m) (hx : a.eval x = .slice (some ⟨b, of, none⟩) n c) (hg : PrAt w b of m)
    (hlen : l.length + n ≤ 1099511627776) (hbase : base ≤ w.heap.size)
    (h : ∀ v' w', RowP w' base v' (l ++ m) → w.grownBy w' v.ownBlock → (∀ j, v.ownBlock = some j → base ≤ j) → (v'.ownBlock = v.ownBlock ∨ v'.ownBlock = some w.heap.size) → K (a.put o.dst v') w') :
    if Region.wanted o (yielded ops a.tmps) = true then Oper.wp P o a w K Q else E := by
  have hw : Region.wanted o (yielded ops a.tmps) = true := by simp [Region.wanted, hgd]
  rw [if_pos hw]
  obtain ⟨i, hi, hz0, hz1, hz2⟩ := info_parts hinfo
  have hbk : ∀ j, v.ownBlock = some j → base ≤ j := fun j hj => (World.ownsRow.lt hown j hj).1
  obtain ⟨v', w', hr, h2, h3, h4, h5⟩ := run_append_own_at (P := P) w base t o.type 45 i _ 64 128 ht hi hz0 hz1 hz2 (by simp [Value.cells, arr]) (by decide) v l.length (flatP l) hown ⟨b, of, none⟩ n c (flatP m) (by rw [flatP_length m hm, hmn]) (PS_cells hg hm) (flatP_one m) (by unfold maxLen; omega) (by omega) hbase
  unfold Oper.wp execOp
  simp only [ho, resolve, invoke, builtin, Sem.run_bind, Sem.run_pure, Result.andThen_ok, List.map_toArray, List.map_cons, List.map_nil, hs, hx, hr]
  refine h v' w' ?_ h3 hbk h5
  unfold RowP
  rw [flatP_append, List.length_append, ← hmn]
  exact h2
theorem rowP_any {w : World} {base : Nat} {v : Value} {l : List (List Int)} (h : RowP w base v l) : ∃ p cap, v = .slice p l.length cap := by
  obtain ⟨_, h2⟩ := h
  rcases h2 with ⟨h2, h0⟩ | ⟨g, cap, cur, hv, _⟩
  · exact ⟨none, 0, by rw [h2, h0]⟩
  · exact ⟨_, cap, hv⟩
def W2 (w0 : World) (gs gr : Nat) (a : Int) (w : World) : Prop := Below w0.heap.size w0 w ∧ w.cell? ⟨gs, 0, none⟩ = some (.int .i8 a) ∧ ∃ x1 x2, w.heap[gr]? = some (.cells #[x1, x2] 30 (0, 0))
theorem w2_drew {w0 w : World} {gs gr : Nat} {a : Int} (h : W2 w0 gs gr a w) : W2 w0 gs gr a w.drew := ⟨bl_drew h.1, h.2⟩
theorem w2_next {w0 w w1 : World} {gs gr : Nat} {a : Int} (hb : Below w.heap.size w w1) (h : W2 w0 gs gr a w) : W2 w0 gs gr a w1 := by
  obtain ⟨h0, h1, x1, x2, h2⟩ := h
  have l0 : gs < w.heap.size := World.block_lt_of_cell? w _ h1
  exact ⟨bt h0 hb, (hb.cell (p := ⟨gs, 0, none⟩) l0).trans h1, x1, x2, heap_below hb (lt_of_heap h2) h2⟩
theorem w2_alloc {w0 w : World} {gs gr : Nat} {a : Int} (h : W2 w0 gs gr a w) (o : Obj) : W2 w0 gs gr a (w.alloc o) := w2_next (bl1 w o) h
theorem w2_store {w0 w : World} {gs gr : Nat} {a : Int} (h : W2 w0 gs gr a w) (hn : gr ≠ gs) (hb : w0.heap.size ≤ gr) (x y : Value) : W2 w0 gs gr a ((w.setCell ⟨gr, 0, none⟩ x).setCell ⟨gr, 1, none⟩ y) := by
  obtain ⟨h0, h1, x1, x2, h2⟩ := h
  refine ⟨below2 h0 hb x y, ?_, x, y, bk2 h2⟩
  rw [World.cell?_setCell_other _ _ _ _ (by simp), World.cell?_setCell_other _ _ _ _ (by simp)]
  exact h1
theorem w2_grown {w0 w w1 : World} {gs gr : Nat} {a : Int} {v : Value} (hg : w.grownBy w1 v.ownBlock) (hk : ∀ j, v.ownBlock = some j → w0.heap.size ≤ j) (n1 : v.ownBlock ≠ some gs) (n2 : v.ownBlock ≠ some gr) (h : W2 w0 gs gr a w) : W2 w0 gs gr a w1 := by
  obtain ⟨h0, h1, x1, x2, h2⟩ := h
  have l0 : gs < w.heap.size := World.block_lt_of_cell? w _ h1
  exact ⟨h0.grown hg h0.size hk, (hg.cell_far ⟨gs, 0, none⟩ l0 (Ne.symm n1)).trans h1, x1, x2, (hg.block gr (lt_of_heap h2) (Ne.symm n2)).trans h2⟩
theorem rowP_far {w : World} {base : Nat} {v : Value} {l : List (List Int)} (h : RowP w base v l) {p : Addr} (hp : p.block < base) (u : Value) : RowP (w.setCell p u) base v l := ownsRow_setCell_below h hp u
theorem rowP_mono {w : World} {b b' : Nat} {v : Value} {l : List (List Int)} (h : RowP w b v l) (hb : b' ≤ b) : RowP w b' v l := by
  obtain ⟨h1, h2⟩ := h
  refine ⟨h1, ?_⟩
  rcases h2 with h2 | ⟨g, cap, cur, hv, hg, r⟩
  · exact Or.inl h2
  · exact Or.inr ⟨g, cap, cur, hv, Nat.le_trans hb hg, r⟩
/-- A sheet with other frames. -/
theorem l07With_c (a : Int) (gs : Nat) (v0 : Value) (ts : TypeId) (n c : Nat) (l : List (List Int)) (hl : Prs l) (hn : n = l.length) (hm : n ≤ 1048576) (w : World) (hgs : w.heap[gs]? = some (.cells #[.int .i8 a, v0] ts (0, 0)))
    (b o : Nat) (hat : PrAt w b o l) (hb : b < w.heap.size) :
    Calls Try.prog 64 #[.pointer (some ⟨gs, 0, none⟩), .slice (some ⟨b, o, none⟩) n c] w fun e w' => ∃ v, e = .returned (.agg #[.int .i8 a, v]) ∧ RowP w' w.heap.size v l ∧ Below w.heap.size w w' := by
  have HP := Lib.hid hl
  have HN := Lib.hid hn
  have HAT := Lib.hid hat
  have HB := Lib.hid hb
  have hlt := lt_of_heap hgs
  have s0 : W2 w gs w.heap.size a (w.alloc (.cells #[.int .i8 0, .slice none 0 0] 30)) := ⟨bl1 _ _, bk2_0 (heap_old _ _ hlt hgs), _, _, al1_0 _ _⟩
  have hsz : (w.alloc (.cells #[.int .i8 0, .slice none 0 0] 30)).heap.size = w.heap.size + 1 := by simp
  clear hl hn hat hb hgs
  go_enter Try.func64, Try.ntmps64
  go_upto_region 1 with fail
  generalize w.alloc (.cells #[.int .i8 0, .slice none 0 0] 30) = w1 at *
  have HS1 := Lib.hid hsz
  clear hsz
  unfold W2 at s0
  go_region_held3 (fun w' => Below w.heap.size w w' ∧ w'.cell? ⟨gs, 0, none⟩ = some (.int .i8 a) ∧ ∃ x1 x2, w'.heap[w.heap.size]? = some (.cells #[x1, x2] 30 (0, 0)))
    (first | (with_reducible assumption) | exact w2_drew s0 | exact w2_alloc (by assumption) _ | exact w2_alloc (w2_drew s0) _ | exact w2_store (by assumption) (by omega) (Nat.le_refl _) _ _)
    ((refine step_appPs (by rfl) (.tmp 9) (.tmp 10) 28 (by rfl) (w.heap.size + 1) Try.underlying28 infoPrint _ [] (by rfl) (rowP_new w1.drew _ (by rw [show w1.drew.heap.size = w1.heap.size from rfl, HS1.out]; exact Nat.le_refl _)) b o c n l HN.out HP.out (by rfl) (PrAt_below ((bl_drew s0.1).alloc (by rw [show w1.drew.heap.size = w1.heap.size from rfl, HS1.out]; omega) _) HB.out HAT.out) (by simp; omega) (by have := HS1.out; simp; omega) ?_; intro v1 w6 hrow hgr hbk hat; obtain ⟨p9, c9, rfl⟩ := rowP_any hrow; have s7 : W2 w gs w.heap.size a w6 := w2_grown hgr (fun j hj => Nat.le_of_succ_le (hbk j hj)) (by have := HS1.out; simp [Value.ownBlock]; omega) (by have := HS1.out; simp [Value.ownBlock]; omega) (w2_drew (w2_alloc s0 _)); unfold W2 at s7; obtain ⟨_, _, x1, x2, hR⟩ := id s7; have r0 := bk2_0 hR; have r1 := bk2_1 hR; have rf0 := blk_f hR 0; have rf1 := blk_f hR 1))
  have HRw := Lib.hid hrow
  have HS7 := Lib.hid s7
  have HR7 := Lib.hid hR
  clear hgr hbk hat hrow s7 hR r0 r1 rf0 rf1
  go_wp2
  exact bodyPost_ret (results_cell_row rfl _ _ _ _ _ _ _ rfl (bk2 HR7.out) Try.underlying30 rfl szSheetI) rfl ⟨_, rfl, rowP_mono (rowP_far (rowP_far HRw.out (Nat.lt_succ_self _) _) (Nat.lt_succ_self _) _) (Nat.le_succ _), below2 HS7.out.1 (Nat.le_refl _) _ _⟩
end Go.Proofs.Ytnbbbmnjbfehmaa
