/- FewestCopies: the program. -/
import Derived.Test.YtdmlefccajaniaaDoorFewS
import Derived.Deep.RegionHeld3
import Derived.Deep.AppendLies
import Derived.Lib.SliceRun
namespace Go.Proofs.YtdmlefccajaniaaDoor
open Go.RowKit Go.Lib
/-- A number appended at a step of a region that draws its order. -/
theorem step_app {P : Program} {w : World} {ops : Array Oper} {o : Oper} {a : Act} {K : Act → World → Prop} {Q : Exit → Act → World → Prop} {E : Prop} (hgd : o.guard = none) (s x : Operand) (t : TypeId)
    (ho : o.op = .call { callee := .builtin .append, args := #[s, x], argTypes := #[t, t] })
    (base : Nat) (e : TypeId) (k : IntKind) (bytes : Nat) (ht : P.underlying t = some (.slice e)) (hinfo : (P.info? e).map (fun i => (i.zero, i.size, i.bytes)) = some (some (.int k 0), 1, bytes)) (hb8 : bytes ≤ 8)
    (v : Value) (xs : List Int) (hs : a.eval s = v) (hown : Row w base e k v xs) (g : Nat) (c : Nat) (z : Int) (hx : a.eval x = .slice (some ⟨g, 0, none⟩) 1 c) (hg : w.cell? ⟨g, 0, none⟩ = some (.int k z))
    (hlen : xs.length ≤ 17592186000000) (hbase : base ≤ w.heap.size)
    (h : ∀ v' w', Row w' base e k v' (xs ++ [z]) → w.grownBy w' v.ownBlock → (∀ j, v.ownBlock = some j → base ≤ j) → (v'.ownBlock = v.ownBlock ∨ v'.ownBlock = some w.heap.size) → K (a.put o.dst v') w') :
    if Region.wanted o (yielded ops a.tmps) = true then Oper.wp P o a w K Q else E := by
  have hw : Region.wanted o (yielded ops a.tmps) = true := by simp [Region.wanted, hgd]
  rw [if_pos hw]
  obtain ⟨i, hi, hz0, hz1, hz2⟩ := info_parts hinfo
  have hbk : ∀ j, v.ownBlock = some j → base ≤ j := by
    intro j hj
    obtain ⟨_, h2⟩ := hown
    rcases h2 with ⟨h2, _⟩ | ⟨g', cap, cur, hv, hg', _⟩
    · rw [h2] at hj; cases hj
    · rw [hv] at hj; simp [Value.ownBlock] at hj; omega
  have hb' : (xs.length + 1) * bytes ≤ (xs.length + 1) * 8 := Nat.mul_le_mul_left _ hb8
  obtain ⟨v', w', hr, h2, h3, h4, h5⟩ := run_append_own_at (P := P) w base t o.type e i (.int k 0) 1 bytes ht hi hz0 hz1 hz2 rfl (by decide) v xs.length (xs.map (Value.int k)) hown ⟨g, 0, none⟩ 1 c [.int k z] rfl
    (fun j u hj => by
      match j, hj with
      | 0, hj => simp at hj; subst hj; simpa [Addr.add] using hg)
    (fun u hu => by simp at hu; subst hu; rfl) (by unfold maxLen; omega) (by omega) hbase
  unfold Oper.wp execOp
  simp only [ho, resolve, invoke, builtin, Sem.run_bind, Sem.run_pure, Result.andThen_ok, List.map_toArray, List.map_cons, List.map_nil, hs, hx, hr]
  refine h v' w' ?_ h3 hbk h5
  unfold Row
  simpa using h2
def SF (W0 : World) (g i : Nat) (D : Int) (w : World) : Prop := Below W0.heap.size W0 w ∧ w.cell? ⟨g, i, none⟩ = some (.int .u64 D)
theorem sf_drew {W0 w : World} {g i : Nat} {D : Int} (h : SF W0 g i D w) : SF W0 g i D w.drew := ⟨bl_drew h.1, h.2⟩
theorem sf_next {W0 w w1 : World} {g i : Nat} {D : Int} (hb : Below w.heap.size w w1) (h : SF W0 g i D w) : SF W0 g i D w1 := by
  obtain ⟨h0, h1⟩ := h
  have l0 : g < w.heap.size := World.block_lt_of_cell? w _ h1
  exact ⟨bt h0 hb, (hb.cell (p := ⟨g, i, none⟩) l0).trans h1⟩
theorem sf_alloc {W0 w : World} {g i : Nat} {D : Int} (h : SF W0 g i D w) (o : Obj) : SF W0 g i D (w.alloc o) := sf_next (bl1 w o) h
theorem sf_grown {W0 w w1 : World} {g i : Nat} {D : Int} {v : Value} (hg : w.grownBy w1 v.ownBlock) (hk : ∀ j, v.ownBlock = some j → W0.heap.size ≤ j) (hl : g < W0.heap.size) (h : SF W0 g i D w) : SF W0 g i D w1 := by
  obtain ⟨h0, h1⟩ := h
  have l0 : g < w.heap.size := World.block_lt_of_cell? w _ h1
  refine ⟨h0.grown hg h0.size hk, (hg.cell_far ⟨g, i, none⟩ l0 ?_).trans h1⟩
  intro e
  have := hk g e.symm
  omega
theorem pb_grown {w w1 : World} {p : Option Addr} {xs : List Int} {v : Value} (hg : w.grownBy w1 v.ownBlock) (hne : ∀ b o, p = some ⟨b, o, none⟩ → v.ownBlock ≠ some b) (h : PB_i64 w w.heap.size p xs) : PB_i64 w1 w1.heap.size p xs := fun hn => by
  obtain ⟨b, o, hp, hb, hc⟩ := h hn
  refine ⟨b, o, hp, Nat.lt_of_lt_of_le hb hg.size, fun i hi => ?_⟩
  exact (hg.cell_far ⟨b, o + i, none⟩ hb (Ne.symm (hne b o hp))).trans (hc i hi)
theorem pb_next {w w1 : World} {p : Option Addr} {xs : List Int} (hb : Below w.heap.size w w1) (h : PB_i64 w w.heap.size p xs) : PB_i64 w1 w1.heap.size p xs := fun hn => by
  obtain ⟨b, o, hp, h1, hc⟩ := h hn
  exact ⟨b, o, hp, Nat.lt_of_lt_of_le h1 hb.size, fun i hi => (hb.cell (p := ⟨b, o + i, none⟩) h1).trans (hc i hi)⟩
def notIn (p : Option Addr) (v : Value) : Prop := ∀ b o, p = some ⟨b, o, none⟩ → v.ownBlock ≠ some b
theorem take_getD (L : List Nat) (j : Nat) (h : j < L.length) : L.take (j + 1) = L.take j ++ [L.getD j 0] := by
  rw [List.take_succ_eq_append_getElem h]
  simp [List.getD_eq_getElem?_getD, h]
theorem bitsI_natL (s n : Nat) (hs : s < 2 ^ n) (hn : n ≤ 64) : bitsI s = natL (lstS s n) := by
  unfold bitsI natL
  rw [bitsL_lst s n hs hn]
theorem PB_any {w : World} {base : Nat} {e : TypeId} {v : Value} {xs : List Int} (h : Row w base e .i64 v xs) : ∃ p cap, v = .slice p xs.length cap ∧ PB_i64 w w.heap.size p xs := by
  by_cases hne : xs = []
  · subst hne
    obtain ⟨_, h2⟩ := h
    rcases h2 with ⟨h2, _⟩ | ⟨g, cap, cur, hv, _⟩
    · exact ⟨none, 0, h2, fun h => absurd rfl h⟩
    · exact ⟨_, cap, hv, fun h => absurd rfl h⟩
  · obtain ⟨g, cap, hv, _, hg, _, _, hc⟩ := row_shape h hne
    exact ⟨_, cap, hv, fun _ => ⟨g, 0, rfl, hg, fun i hi => by rw [Nat.zero_add]; exact hc i hi⟩⟩
theorem natL_nn {L : List Nat} (h : L ≠ []) : natL L ≠ [] := fun e => h (by simpa [natL] using e)
def bestR (B : Nat) (wr : World) (v : Value) : Option (List Nat) → Prop
  | none => v = .slice none 0 0
  | some b => b ≠ [] ∧ Row wr B 2 .i64 v (natL b)
theorem bestR_row {B b' : Nat} {wr : World} {v : Value} (hb : b' ≤ B) : ∀ {o : Option (List Nat)}, bestR B wr v o → Row wr b' 2 .i64 v (natL (o.getD []))
  | none, h => by rw [show v = .slice none 0 0 from h]; exact row_nil _ _ _ _
  | some _, h => rowM h.2 hb
theorem bestR_below {B : Nat} {wr w1 : World} {v : Value} (hb : Below wr.heap.size wr w1) : ∀ {o : Option (List Nat)}, bestR B wr v o → bestR B w1 v o
  | none, h => h
  | some _, h => ⟨h.1, row_below h.2 hb⟩
theorem ok_ne (l : List (List Int)) (wi : Int) (hwi : 0 ≤ wi) (h0 : 0 < l.length) (s : Nat) (h : inL l wi (lstS s l.length) = boL l wi l.length) : lstS s l.length ≠ [] := by
  intro e
  rw [e] at h
  exact boL_zero l wi hwi h0 h.symm
set_option maxHeartbeats 4000000 in
set_option maxRecDepth 100000 in
theorem implFew_c (p : Option Addr) (n c : Nat) (l : List (List Int)) (hl : Prs l) (hn : n = l.length) (hm : n ≤ 1048576) (wi : Int) (w : World) (hp : PS w p l) (hT : TabAt w) :
    Calls Tryd.prog 29 #[.slice p n c, .int .i64 wi] w fun e w' => ∃ v, e = .returned (.tuple #[v, .int .i64 (fwV l wi).2]) ∧ Row w' w.heap.size 2 .i64 v (fwV l wi).1 ∧ Below w.heap.size w w' := by
  have HN := Lib.hid hn
  have HA := Lib.hid hp
  have HP := Lib.hid hl
  have HT := Lib.hid hT
  have H00 := Lib.hid (TabAt_pos hT)
  clear hn hp hl hT
  have HZ : Hid (∀ w, PS w p l → Calls Tryd.prog 58 #[.slice p n c, .bool (dnB wi)] w fun e w' => e = .returned (.int .i64 (cpV l (dnB wi))) ∧ Below w.heap.size w w') := Lib.hid fun w hp => copiesCode_c p n c l HP.out HN.out hm _ w hp
  by_cases hc : cpV l (dnB wi) = 0
  · obtain ⟨hok, h1, h2, h4⟩ := cpV_zero hc
    have n1 : 1 ≤ n := by rw [HN.out]; exact h1
    have n8 : n ≤ 8 := by rw [HN.out]; exact h2
    have HOK := Lib.hid hok
    have HD := Lib.hid h4
    have HV : Hid (fwV l wi = (natL ((fwB l wi n (2 ^ n)).getD []), 0)) := Lib.hid (by simp [fwV, hc, HN.out])
    have HNE : Hid (∀ s, inL l wi (lstS s n) = boL l wi n → lstS s n ≠ []) := Lib.hid (by rw [HN.out]; exact ok_ne l wi ((dnB_iff wi).1 h4).1 h1)
    rw [hc] at HZ
    clear hc hok h1 h2 h4
    go_enter Tryd.func29, Tryd.ntmps29
    go_wp2_with (go_at_call 62; refine (isDensity_c _ _).mono ?_; rintro e w' ⟨rfl, rfl⟩)
    refine (HZ.out _ HA.out).mono ?_
    rintro e w1 ⟨rfl, hb1⟩
    have HB := Lib.hid hb1
    clear hb1
    go_wp2_with fail
    refine (implDusts_c p n c l HP.out HN.out n8 (by omega) HOK.out wi HD.out _ (PS_below HB.out HA.out)).mono ?_
    rintro e w4 ⟨v, rfl, hR, hb4⟩
    obtain ⟨g, cap, rfl, hg1, hg2, hcap, hcm, hcl⟩ := row_shape hR (by intro e; have := dustsL_len l wi n; rw [e] at this; simp at this; omega)
    rw [dustsL_len]
    have HCl : Hid (∀ i, i < n → w4.cell? ⟨g, i, none⟩ = some (Value.int .u64 ((dmI l wi i : Nat) : Int))) := Lib.hid (fun i hi => by rw [hcl i (by rw [dustsL_len]; exact hi), dustsL_get l wi n i hi]; rfl)
    have HGl : Hid (g < w4.heap.size) := Lib.hid hg2
    have HB4 := Lib.hid (bt HB.out hb4)
    clear hb4 hR hcl hg1 hg2 hcap hcm HB
    go_upto_region 6 with fail
    go_loop [8, 29] (fun lf i => ∃ k : Nat, k ≤ n ∧ i = .int .i64 k ∧ lf = .int .u64 (boL l wi k : Nat)) (fun _ i => n - (intOf i).toNat)
    case atStart => exact ⟨0, Nat.zero_le _, rfl, rfl⟩
    case round =>
      obtain ⟨k, hk, rfl, hlf⟩ := hrel
      subst hlf
      by_cases hlt : k < n
      · have hcd := HCl.out k hlt
        have hki : (k : Int) < n := by omega
        have had : bits .and .u64 (boL l wi k : Int) (dmI l wi k : Int) = (boL l wi (k + 1) : Int) := and64 (boL l wi k) (dmI l wi k) (boL_lt l wi k) (dmI_lt l wi k)
        go_wp2
        go_round
        case rel => exact ⟨k + 1, by omega, by go_num, rfl⟩
        case measure => simp [intOf]; omega
      · have hkn : k = n := by omega
        subst hkn
        obtain ⟨AL, HAL⟩ : ∃ AL, Hid (AL = boL l wi k) := ⟨_, Lib.hid rfl⟩
        rw [← HAL.out]
        have hpw : 2 ^ k ≤ 256 := Nat.pow_le_pow_right (n := 2) (by omega) n8
        obtain ⟨P2, hP2⟩ : ∃ P2 : Int, P2 = ((2 ^ k : Nat) : Int) := ⟨_, rfl⟩
        have hsh : IntKind.u64.wrap ((2 : Int) ^ k) = P2 := by
          rw [hP2, show (2 : Int) ^ k = ((2 ^ k : Nat) : Int) by simp]
          obtain ⟨m, hm⟩ : ∃ m, m = 2 ^ k := ⟨_, rfl⟩
          rw [← hm] at hpw ⊢
          exact wr_u64 _ (by omega) (by omega)
        have HP2 := Lib.hid hP2
        clear hP2
        have q35 : ∀ (w : World) (a : Option Addr) (n c n' c' : Nat), (binOp .eql 53 (.slice a n c) (.slice none n' c')).run Tryd.prog w = .ok (.bool a.isNone) w := fun w a n c n' c' => Lib.run_eql_slice_nil w _ _ a n c n' c' Tryd.underlying53
        go_upto_region 12 with fail
        clear hsh
        obtain ⟨W, rfl⟩ : ∃ W : World, W = w4 := ⟨_, rfl⟩
        go_loopw [11, 40] (fun best st wr => ∃ s : Nat, s ≤ 2 ^ k ∧ st = .int .u64 s ∧ bestR W.heap.size wr best (fwB l wi k s) ∧ Below W.heap.size W wr) (fun _ st _ => 2 ^ k - (intOf st).toNat)
        case atStart => exact ⟨0, Nat.zero_le _, rfl, rfl, Below.refl _ _⟩
        case round =>
          obtain ⟨s, hs2, rfl, hbest, hW⟩ := hrel
          have HBR := Lib.hid hbest
          have HW := Lib.hid hW
          clear hbest hW
          by_cases hst : s < 2 ^ k
          · have hsd : decide ((s : Int) < P2) = true := decide_eq_true (by rw [HP2.out]; exact Int.ofNat_lt.2 hst)
            have hs64 : s < 256 := by omega
            obtain ⟨V, rfl⟩ : ∃ V : World, V = wr := ⟨_, rfl⟩
            have HCI := Lib.hid (cellsIn_c s (by omega) (V.alloc (.cells #[] 2)) (TabAt_below ((bt HB4.out HW.out).alloc (bt HB4.out HW.out).size _) H00.out HT.out))
            rw [bitsI_natL s k hst (by omega)] at HCI
            obtain ⟨L, hL⟩ : ∃ L, L = lstS s k := ⟨_, rfl⟩
            rw [← hL] at HCI
            have HLm : Hid (∀ j, j < L.length → L.getD j 0 < k) := Lib.hid (fun j hj => by
              have : L.getD j 0 ∈ L := by simp [List.getD_eq_getElem?_getD, hj]
              rw [hL, lstS_mem] at this; exact (hL ▸ this.1))
            have hln : L.length ≤ 8 := by rw [hL]; exact Nat.le_trans (lstS_len s k) n8
            have HL := Lib.hid hL
            clear hL
            go_wp2_with fail
            refine (HCI.out).mono ?_
            rintro e w5 ⟨v, rfl, hR5, hb5⟩
            obtain ⟨p5, c5, rfl, hP5⟩ := PB_any hR5
            rw [natL_len]
            rw [natL_len] at hR5
            have hN5 : notIn p5 (.slice (some ⟨V.heap.size, 0, none⟩) 0 0) := fun b o e1 e2 => by
              simp [Value.ownBlock] at e2
              obtain ⟨_, h2⟩ := hR5
              rcases h2 with ⟨h2, _⟩ | ⟨g5, cap5, cur5, hv5, hg5, _⟩
              · simp only [Value.slice.injEq] at h2
                rw [h2.1] at e1; cases e1
              · simp only [Value.slice.injEq] at hv5
                rw [hv5.1] at e1
                simp at e1 hg5
                omega
            have HN5 := Lib.hid hN5
            have HP5 := Lib.hid hP5
            have HW5 := Lib.hid (bt (bl1 V (.cells #[] 2)) hb5)
            have HR50 := Lib.hid (row_below (row_new V 2 .i64 V.heap.size (Nat.le_refl _)) hb5)
            clear hb5 hR5 hP5 HCI hN5
            obtain ⟨nb, hnb⟩ : ∃ nb, nb = L.length := ⟨_, rfl⟩
            rw [← hnb] at hln ⊢
            have HNB := Lib.hid hnb
            clear hnb
            have HGV : Hid (g < V.heap.size) := Lib.hid (Nat.lt_of_lt_of_le HGl.out HW.out.size)
            go_upto_region 16 with fail
            go_loopw [13, 14, 47] (fun lst lf i wr => ∃ j : Nat, j ≤ nb ∧ i = .int .i64 j ∧ lf = .int .u64 (inL l wi (L.take j) : Nat) ∧ Row wr V.heap.size 2 .i64 lst (natL (L.take j)) ∧ PB_i64 wr wr.heap.size p5 (natL L) ∧ notIn p5 lst ∧ Below V.heap.size V wr) (fun _ _ i _ => nb - (intOf i).toNat)
            case atStart => exact ⟨0, Nat.zero_le _, rfl, by simp [inL], by simpa [natL] using HR50.out, HP5.out, HN5.out, HW5.out⟩
            case round =>
              obtain ⟨j, hj, rfl, hlf, hR, hP, hN, hW3⟩ := hrel
              have HR := Lib.hid hR
              have HPB := Lib.hid hP
              have HNI := Lib.hid hN
              have HW3 := Lib.hid hW3
              subst hlf
              clear hR hW3 hP hN HR50 HP5 HN5 HW5
              by_cases hjb : j < nb
              · have hjL : j < L.length := by rw [← HNB.out]; exact hjb
                have hjn : (j : Int) < nb := by omega
                obtain ⟨b5, o5, rfl, hb5, hc5⟩ := HPB.out (natL_ne hjL)
                have hcj := hc5 j (by rw [natL_len]; exact hjL)
                rw [natL_get _ _ hjL] at hcj
                have hck := HLm.out j hjL
                have HTk := Lib.hid (take_getD L j hjL)
                generalize L.getD j 0 = cc at *
                have hcm : wr.cell? ⟨g, cc, none⟩ = some (.int .u64 ((dmI l wi cc : Nat) : Int)) := by rw [HW3.out.cell (p := ⟨g, cc, none⟩) HGV.out, HW.out.cell (p := ⟨g, cc, none⟩) HGl.out]; exact HCl.out cc hck
                have HAd : Hid (bits .and .u64 (inL l wi (L.take j) : Int) (dmI l wi cc : Int) = (inL l wi (L.take j ++ [cc]) : Int)) := Lib.hid (by rw [inL_snoc]; exact and64 _ _ (inL_lt l wi _) (dmI_lt l wi cc))
                have hcn : (cc : Int) < k := by omega
                have HL8 : Hid ((natL (L.take j)).length ≤ 17592186000000) := Lib.hid (by rw [natL_len, List.length_take]; omega)
                have s0 : SF V g cc ((dmI l wi cc : Nat) : Int) wr := ⟨HW3.out, hcm⟩
                obtain ⟨DD, hDD⟩ : ∃ DD, DD = dmI l wi cc := ⟨_, rfl⟩
                rw [← hDD] at s0 HAd
                obtain ⟨AN, hAN⟩ : ∃ AN, AN = inL l wi (L.take j ++ [cc]) := ⟨_, rfl⟩
                obtain ⟨AJ, hAJ⟩ : ∃ AJ, AJ = inL l wi (L.take j) := ⟨_, rfl⟩
                rw [← hAN, ← hAJ] at HAd
                rw [← hAJ]
                have HAN := Lib.hid hAN
                have had := HAd.out
                have HB5 := Lib.hid hb5
                clear hc5 hb5 hDD hAN hAJ hcm
                go_upto_region 18 with fail
                clear hcj
                unfold SF at s0
                go_region_held3 (fun w' => Below V.heap.size V w' ∧ w'.cell? ⟨g, cc, none⟩ = some (.int .u64 (DD : Int)))
                  (first | (with_reducible assumption) | exact sf_drew s0 | exact sf_alloc (by assumption) _ | exact sf_alloc (sf_drew s0) _)
                  ((refine step_app (by rfl) (.tmp 51) (.tmp 53) 53 (by rfl) V.heap.size 2 .i64 8 Tryd.underlying53 info_i64 (by decide) _ _ (by rfl) (row_alloc HR.out _) _ 1 (cc : Int) (by rfl) (by simp) HL8.out (by have := HW3.out.size; simp at this ⊢; omega) ?_; intro v1 w6 hrow hgr hbk hat; obtain ⟨p9, c9, rfl, _⟩ := row_any hrow; have s6 : SF V g cc (DD : Int) w6 := sf_grown hgr hbk HGV.out (sf_alloc (sf_drew s0) _); unfold SF at s6))
                have HR6 := Lib.hid hrow
                have HS6 := Lib.hid s6
                have HP6 := Lib.hid (pb_grown hgr HNI.out (pb_next ((bl_drew (Below.refl wr.heap.size wr)).alloc (Nat.le_refl _) _) HPB.out))
                have HN6 : Hid (notIn (some ⟨b5, o5, none⟩) (.slice p9 ((natL (L.take j)) ++ [(cc : Int)]).length c9)) := Lib.hid (fun b o e1 e2 => by
                  rcases hat with h | h
                  · exact HNI.out b o e1 (h ▸ e2)
                  · have h6 := h.symm.trans e2
                    have h7 := HB5.out
                    simp at h6 e1
                    omega)
                clear hrow hgr hbk hat s6
                go_wp2
                go_roundw
                case rel => exact ⟨j + 1, by omega, by go_num, by rw [HTk.out, ← HAN.out], by rw [HTk.out, ← natL_app]; simpa using HR6.out, HP6.out, by simpa using HN6.out, HS6.out.1⟩
                case measure => simp [intOf]; omega
              · have hjn : j = nb := by omega
                subst hjn
                have htk : L.take j = L := by rw [HNB.out]; exact List.take_length
                rw [htk] at HR ⊢
                clear htk
                have HBR6 := Lib.hid (bestR_below HW3.out HBR.out)
                have HWn := Lib.hid (HW.out.trans (HW3.out.mono HW.out.size))
                clear HPB HNI HBR
                obtain ⟨AJ, hAJ⟩ : ∃ AJ, AJ = inL l wi L := ⟨_, rfl⟩
                rw [← hAJ]
                by_cases heq : AJ = AL
                · have HNL : Hid (L ≠ []) := Lib.hid (by rw [HL.out]; exact HNE.out s (by rw [← HL.out, ← hAJ, ← HAL.out]; exact heq))
                  have HN3 : Hid (fwB l wi k (s + 1) = if bettr L (fwB l wi k s) then some L else fwB l wi k s) := Lib.hid (by
                    have : inL l wi (lstS s k) = boL l wi k := by rw [← HL.out, ← hAJ, ← HAL.out]; exact heq
                    rw [← HL.out] at this
                    simp [fwB, okSet, ← HL.out, this])
                  obtain ⟨gl, cl, rfl, _, hgl, _, _, hcl⟩ := row_shape HR.out (natL_nn HNL.out)
                  have HPL : Hid (PB_i64 wr wr.heap.size (some ⟨gl, 0, none⟩) (natL L)) := Lib.hid (fun _ => ⟨gl, 0, rfl, hgl, fun i hi => by rw [Nat.zero_add]; exact hcl i hi⟩)
                  rw [natL_len] at HR ⊢
                  have HRm := Lib.hid (rowM HR.out HW.out.size)
                  clear hgl hcl HR
                  have hself : ((AJ : Int) == (AL : Int)) = true := by rw [heq]; simp
                  clear heq hAJ
                  cases hfw : fwB l wi k s with
                  | none =>
                    rw [hfw] at HN3 HBR6
                    have HN4 : Hid (fwB l wi k (s + 1) = some L) := Lib.hid (by rw [HN3.out]; simp [bettr])
                    obtain rfl := HBR6.out
                    go_wp2
                    go_roundw
                    case rel => exact ⟨s + 1, by omega, by go_num, by rw [HN4.out]; exact ⟨HNL.out, HRm.out⟩, HWn.out⟩
                    case measure => simp [intOf]; omega
                  | some b =>
                    rw [hfw] at HN3 HBR6
                    obtain ⟨hbn, hbr⟩ := HBR6.out
                    obtain ⟨gb, cb, rfl, _, hgb, _, _, hcb⟩ := row_shape hbr (natL_nn hbn)
                    rw [natL_len] at hbr ⊢
                    have HPB : Hid (PB_i64 wr wr.heap.size (some ⟨gb, 0, none⟩) (natL b)) := Lib.hid (fun _ => ⟨gb, 0, rfl, hgb, fun i hi => by rw [Nat.zero_add]; exact hcb i hi⟩)
                    obtain ⟨lb, hlb⟩ : ∃ lb, lb = b.length := ⟨_, rfl⟩
                    rw [← hlb] at hbr ⊢
                    have HLB := Lib.hid hlb
                    have HBN := Lib.hid hbn
                    have HRb := Lib.hid hbr
                    have hlb8 : lb ≤ 8 := by rw [hlb]; exact Nat.le_trans (fwB_len l wi k s b hfw) n8
                    clear HBR6 hgb hcb hbr hbn hlb
                    rw [← HNB.out]
                    rw [← HNB.out] at HRm
                    by_cases h1 : j < lb
                    · have HN4 : Hid (fwB l wi k (s + 1) = some L) := Lib.hid (by rw [HN3.out, if_pos]; simp only [bettr, btr]; rw [← HLB.out, ← HNB.out, decide_eq_true h1]; rfl)
                      have hll : decide ((j : Int) < (lb : Int)) = true := decide_eq_true (by omega)
                      go_wp2
                      go_roundw
                      case rel => exact ⟨s + 1, by omega, by go_num, by rw [HN4.out]; exact ⟨HNL.out, by rw [← HNB.out] at *; exact HRm.out⟩, HWn.out⟩
                      case measure => simp [intOf]; omega
                    · have hll : decide ((j : Int) < (lb : Int)) = false := decide_eq_false (by omega)
                      by_cases h2 : lb = j
                      · subst h2
                        have hee : ((lb : Int) == (lb : Int)) = true := by simp
                        have HCM := Lib.hid (compare_c L b (some ⟨gl, 0, none⟩) (some ⟨gb, 0, none⟩) lb cl cb HNB.out HLB.out (by omega) wr _ _ HPL.out HPB.out)
                        cases hlx : lxL L b with
                        | true =>
                          rw [hlx] at HCM
                          have HN4 : Hid (fwB l wi k (s + 1) = some L) := Lib.hid (by rw [HN3.out, if_pos]; simp [bettr, btr, ← HLB.out, ← HNB.out, hlx])
                          clear hlx
                          go_wp2_with (go_at_call 65; refine (HCM.out).mono ?_; rintro e w7 ⟨⟨r, rfl, hr⟩, rfl⟩)
                          go_roundw
                          case rel => exact ⟨s + 1, by omega, by go_num, by rw [HN4.out]; exact ⟨HNL.out, HRm.out⟩, HWn.out⟩
                          case measure => simp [intOf]; omega
                        | false =>
                          rw [hlx] at HCM
                          have HN4 : Hid (fwB l wi k (s + 1) = some b) := Lib.hid (by rw [HN3.out, if_neg]; simp [bettr, btr, ← HLB.out, ← HNB.out, hlx])
                          clear hlx
                          go_wp2_with (go_at_call 65; refine (HCM.out).mono ?_; rintro e w7 ⟨⟨r, rfl, hr⟩, rfl⟩)
                          go_roundw
                          case rel => exact ⟨s + 1, by omega, by go_num, by rw [HN4.out]; exact ⟨HBN.out, HRb.out⟩, HWn.out⟩
                          case measure => simp [intOf]; omega
                      · have hee : ((j : Int) == (lb : Int)) = false := by rw [beq_eq_false_iff_ne]; omega
                        have HN4 : Hid (fwB l wi k (s + 1) = some b) := Lib.hid (by rw [HN3.out, if_neg]; simp only [bettr, btr]; rw [← HLB.out, ← HNB.out, decide_eq_false h1, decide_eq_false (fun e => h2 e.symm)]; simp)
                        go_wp2
                        go_roundw
                        case rel => exact ⟨s + 1, by omega, by go_num, by rw [HN4.out]; exact ⟨HBN.out, HRb.out⟩, HWn.out⟩
                        case measure => simp [intOf]; omega
                · have HN3 : Hid (fwB l wi k (s + 1) = fwB l wi k s) := Lib.hid (by
                    have : ¬ inL l wi (lstS s k) = boL l wi k := by rw [← HL.out, ← hAJ, ← HAL.out]; exact heq
                    simp [fwB, okSet, this])
                  have hself : ((AJ : Int) == (AL : Int)) = false := by rw [beq_eq_false_iff_ne]; omega
                  clear heq hAJ
                  go_wp2
                  go_roundw
                  case rel => exact ⟨s + 1, by omega, by go_num, by rw [HN3.out]; exact HBR6.out, HWn.out⟩
                  case measure => simp [intOf]; omega
          · have hst2 : s = 2 ^ k := by omega
            have hsd : decide ((s : Int) < P2) = false := decide_eq_false (by rw [HP2.out, hst2]; exact Int.lt_irrefl _)
            have HRF := Lib.hid (bestR_row HB4.out.size HBR.out)
            have HBF : Hid (Below w.heap.size w wr) := Lib.hid (HB4.out.trans (HW.out.mono HB4.out.size))
            have HV2 : Hid ((fwV l wi).2 = 0) := Lib.hid (by rw [HV.out])
            have HST := Lib.hid hst2
            clear hst2
            go_wp2
            go_ret2
            exact ⟨u11, by rw [HV2.out]; rfl, by rw [HV.out, ← HST.out]; exact HRF.out, HBF.out⟩
  · obtain ⟨CC, hCC⟩ : ∃ CC, CC = cpV l (dnB wi) := ⟨_, rfl⟩
    have HV : Hid (fwV l wi = ([], CC)) := Lib.hid (by simp [fwV, hc, hCC])
    have HV2 : Hid ((fwV l wi).2 = CC) := Lib.hid (by rw [HV.out])
    have HV1 : Hid ((fwV l wi).1 = []) := Lib.hid (by rw [HV.out])
    rw [← hCC] at HZ hc
    have hcd : (CC != 0) = true := by rw [bne_iff_ne]; exact hc
    clear hCC
    go_enter Tryd.func29, Tryd.ntmps29
    go_wp2_with (go_at_call 62; refine (isDensity_c _ _).mono ?_; rintro e w' ⟨rfl, rfl⟩)
    refine (HZ.out _ HA.out).mono ?_
    rintro e w1 ⟨rfl, hb1⟩
    have HB := Lib.hid hb1
    clear hb1
    go_wp2
    go_ret2
    exact ⟨.slice none 0 0, by rw [HV2.out]; rfl, by rw [HV1.out]; exact row_nil _ _ _ _, HB.out⟩
end Go.Proofs.YtdmlefccajaniaaDoor
