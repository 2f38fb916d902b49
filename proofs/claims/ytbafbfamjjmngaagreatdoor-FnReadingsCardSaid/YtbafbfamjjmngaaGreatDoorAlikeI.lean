/- Alike fields: the program's field of one cell. -/
import Derived.Test.YtbafbfamjjmngaaGreatDoorAlikeS
import Derived.BigQuiet
namespace Go.Proofs.YtbafbfamjjmngaaGreatDoor
open Go.RowKit Go.Lib
theorem implSize_c (n : Int) (h : -1000 ≤ n ∧ n ≤ 1000) (w : World) :
    Calls Tryz.prog 60 #[.int .i64 n] w fun e w' => e = .returned (.int .i64 (if n < 0 then -n else n)) ∧ w = w' := by
  by_cases h0 : n < 0
  · go_enter Tryz.func60, Tryz.ntmps60
    go_wp2
    go_ret
    exact ⟨ret_int (by first | rfl | (split <;> omega) | omega), rfl⟩
  · go_enter Tryz.func60, Tryz.ntmps60
    go_wp2
    go_ret
    exact ⟨ret_int (by first | rfl | (split <;> omega) | omega), rfl⟩
theorem wpList_index_pair {P : Program} {ops : Array Oper} {rest : List Oper} {o : Oper} {a : Act} {w : World} {Q : Exit → Act → World → Prop} (hgd : o.guard = none) (ty : TypeId) (x y : Operand) (ho : o.op = .index ty x y)
    (vs : Array Value) (hx : a.eval x = .agg vs) {kk : IntKind} (i : Nat) (hy : a.eval y = .int kk i) (n : Nat) (e f : TypeId) (hu : P.underlying ty = some (.array n e))
    (hs : (P.info? e).map (·.size) = some 2) {m : Nat} (he : P.underlying e = some (.array m f)) (hi : i < n) (r : Value) (hr : Value.agg (vs.extract (i * 2) (i * 2 + 2)) = r)
    (h : wpList P ops Q rest (a.put o.dst r) w) : wpList P ops Q (o :: rest) a w :=
  wpList_plain hgd fun _ hK => by
    have hagg : (isAgg e).run P w = .ok true w := by
      unfold isAgg
      rw [Sem.run_bind, run_underlying he w]; rfl
    have hsz : (sizeOf e).run P w = .ok 2 w := by
      cases hq : P.info? e with
      | none => simp [hq] at hs
      | some j => simp [hq] at hs; simp [sizeOf, typeInfo, hq, hs]
    unfold Oper.wp execOp
    simp only [ho, hx, hy, Instr.index, asIntOf, Sem.run_bind, Sem.run_pure, Result.andThen_ok, run_underlying hu]
    rw [if_pos (by omega)]
    simp only [Sem.run_bind, hsz, Result.andThen_ok, part, hagg, Int.toNat_natCast, if_true, Sem.run_pure]
    rw [← hr] at h
    exact hK _ _ h
theorem and1_32 (F c : Nat) (hF : F < 2 ^ 24) : bits .and .u32 ((F : Int) / (2 : Int) ^ c) 1 = if F.testBit c then 1 else 0 := by
  have e : (F : Int) / (2 : Int) ^ c = ((F / 2 ^ c : Nat) : Int) := by simp
  rw [e, show (1 : Int) = ((1 : Nat) : Int) from rfl, and32 _ 1 (Nat.lt_of_le_of_lt (Nat.div_le_self _ _) (by omega)) (by decide), Nat.and_one_is_mod, Nat.testBit_eq_decide_div_mod_eq]
  rcases Nat.mod_two_eq_zero_or_one (F / 2 ^ c) with h | h <;> simp [h]
theorem szPair : (Tryz.prog.info? 88).map (·.size) = some 2 := by kernel_rfl
/-- The four places beside a cell, as the program lists them. -/
def nbX (x : Nat) (j : Nat) : Int := if j = 0 then (x % 6 : Nat) - 1 else if j = 1 then (x % 6 : Nat) + 1 else (x % 6 : Nat)
def nbY (x : Nat) (j : Nat) : Int := if j = 2 then (x / 6 : Nat) - 1 else if j = 3 then (x / 6 : Nat) + 1 else (x / 6 : Nat)
def nbIn (x j : Nat) : Bool := decide (0 ≤ nbX x j) && decide (nbX x j < 6) && decide (0 ≤ nbY x j) && decide (nbY x j < 4)
theorem nb_tab : ∀ x : Fin 24, ∀ j : Fin 4, nbIn x.val j.val = true → 0 ≤ nbX x.val j.val + 6 * nbY x.val j.val ∧ nbX x.val j.val + 6 * nbY x.val j.val < 24 ∧ bes x.val (nbX x.val j.val + 6 * nbY x.val j.val).toNat = true := by decide +kernel
theorem nb_all : ∀ x : Fin 24, ∀ c : Fin 24, bes x.val c.val = true → ∃ j : Fin 4, nbIn x.val j.val = true ∧ nbX x.val j.val + 6 * nbY x.val j.val = (c.val : Int) := by decide +kernel
set_option maxHeartbeats 40000000 in
set_option maxRecDepth 100000 in
theorem implAlike_c (xs : List Int) (hs : Sc xs) (hok : okS xs = true) (wi : Int) (hwi : rdB wi = true) (k : Nat) (hk : k < 24) (w : World) :
    Calls Tryz.prog 45 #[.agg (arr .i8 xs), .int .i64 k, .int .i64 wi] w fun e w' => e = .returned (.int .u32 (fieldOf xs wi k : Nat)) ∧ Below w.heap.size w w' := by
  have HS := Lib.hid hs
  have HOK := Lib.hid hok
  have HWI := Lib.hid hwi
  have HB0 := Lib.hid (al1_0 w (.cells (arr .i8 xs) 26))
  have HW0 := Lib.hid (bl1 w (.cells (arr .i8 xs) 26))
  have HQ0 := Lib.hid (QI.start xs wi k hk)
  clear hs hok hwi
  go_enter Tryz.func45, Tryz.ntmps45
  go_upto_region 1 with fail
  generalize w.alloc (.cells (arr .i8 xs) 26) = w1 at *
  go_upto_region 3 with fail
  go_loopw [7, 8, 9] (fun s7 s8 s9 wr => ∃ (F : Nat) (Q : List Nat) (q : Nat), q ≤ Q.length ∧ s9 = .int .i64 q ∧ s7 = .int .u32 F ∧ QI xs wi k F Q q ∧ Row wr w1.heap.size 3 .i64 s8 (natI Q) ∧ Below w1.heap.size w1 wr) (fun _ _ i _ => 24 - (intOf i).toNat)
  case atStart => exact ⟨2 ^ k, [k], 0, by simp, rfl, by rw [pow32 k hk], HQ0.out, row_new1 w1 _ _ _ (Nat.le_refl _) _, bl1 _ _⟩
  case round =>
    obtain ⟨F, Q, q, hq, rfl, rfl, hQI, hR2, hW2⟩ := hrel
    have HQI := Lib.hid hQI
    have HR2 := Lib.hid hR2
    have HW2 := Lib.hid hW2
    obtain ⟨pq, cq, rfl, hP⟩ := row_PI hR2
    have HP := Lib.hid hP
    have hQl := hQI.len
    rw [natI_len]
    obtain ⟨lq, hlq⟩ : ∃ lq, lq = Q.length := ⟨_, rfl⟩
    rw [← hlq] at hQl hq ⊢
    have HNQ := Lib.hid hlq
    clear hQI hR2 hW2 hP hlq
    by_cases hlq : q < lq
    · have hqn : q < Q.length := by have := HNQ.out; omega
      have hqd : decide ((q : Int) < lq) = true := by simp; omega
      obtain ⟨b, o, rfl, hbz, hat⟩ := HP.out (neI_of_lt (k := q) (by rw [natI_len]; exact hqn))
      have hx1 := hat q (by rw [natI_len]; exact hqn)
      rw [natI_get Q q hqn] at hx1
      obtain ⟨hx24, hxr⟩ := HQI.out.get hqn
      obtain ⟨x, hxe⟩ : ∃ x, Q.getD q 0 = x := ⟨_, rfl⟩
      rw [hxe] at hx1 hx24 hxr
      have HXE := Lib.hid hxe
      have HXR := Lib.hid hxr
      have hxt : Int.tmod (x : Int) 6 = ((x % 6 : Nat) : Int) := by rw [Int.tmod_eq_emod_of_nonneg (by omega)]; omega
      have hxd : Int.tdiv (x : Int) 6 = ((x / 6 : Nat) : Int) := by rw [Int.tdiv_eq_ediv_of_nonneg (by omega)]; omega
      clear hat hxe hxr
      obtain ⟨w2, rfl⟩ : ∃ w2 : World, w2 = wr := ⟨_, rfl⟩
      go_upto_region 5 with fail
      go_quiet (fail)
      go_upto_region 7 with fail
      have HR3 : Hid (Row (w2.drewN nq) w1.heap.size 3 .i64 (.slice (some ⟨b, o, none⟩) lq cq) (natI Q)) := Lib.hid (by have h := row_below HR2.out (bl_drewN (Below.refl _ w2) nq); rw [natI_len, ← HNQ.out] at h; exact h)
      have HW3 := Lib.hid (bl_drewN HW2.out nq)
      have HQN : Hid (q < Q.length) := Lib.hid hqn
      clear hx1
      generalize w2.drewN nq = w5 at *
      go_loopw [7, 8, 52] (fun s7 s8 s52 wr => ∃ (F : Nat) (Q : List Nat) (j : Nat), j ≤ 4 ∧ s52 = .int .i64 j ∧ s7 = .int .u32 F ∧ QI xs wi k F Q q ∧ q < Q.length ∧ Q.getD q 0 = x ∧ (∀ j', j' < j → nbIn x j' = true → ∀ c : Nat, nbX x j' + 6 * nbY x j' = (c : Int) → alk xs wi x c = true → c ∈ Q) ∧ Row wr w1.heap.size 3 .i64 s8 (natI Q) ∧ Below w1.heap.size w1 wr) (fun _ _ i _ => 24 - (intOf i).toNat)
      case atStart => exact ⟨F, Q, 0, by omega, rfl, rfl, HQI.out, HQN.out, HXE.out, fun j' hj => absurd hj (by omega), HR3.out, HW3.out⟩
      case round =>
        clear HQI HR2 HW2 HP HNQ hlq hqn hqd HXE hq HR3 HW3 HQN
        obtain ⟨F, Q, j, hj, rfl, rfl, hQI, hqn, hxe, hdn, hR4, hW4⟩ := hrel
        have HQI := Lib.hid hQI
        have HR4 := Lib.hid hR4
        have HW4 := Lib.hid hW4
        have HDN := Lib.hid hdn
        have HXE := Lib.hid hxe
        have HQN := Lib.hid hqn
        obtain ⟨pq, cq, rfl, hP⟩ := row_PI hR4
        obtain ⟨bq, oq, rfl, hbq, hatq⟩ := hP (neI_of_lt (k := q) (by rw [natI_len]; exact hqn))
        have hxq := hatq q (by rw [natI_len]; exact hqn)
        rw [natI_get Q q hqn, hxe] at hxq
        have hQl := hQI.len
        rw [natI_len]
        obtain ⟨lq, hnq⟩ : ∃ lq, lq = Q.length := ⟨_, rfl⟩
        rw [← hnq] at hQl hqn ⊢
        have HNQ := Lib.hid hnq
        clear hQI hR4 hW4 hdn hxe hP hatq hnq
        obtain ⟨w4, rfl⟩ : ∃ w4 : World, w4 = wr := ⟨_, rfl⟩
        by_cases hlj : j < 4
        · have h4 : j = 0 ∨ j = 1 ∨ j = 2 ∨ j = 3 := by omega
          have HR4e : Hid (Row w4 w1.heap.size 3 .i64 (.slice (some ⟨bq, oq, none⟩) lq cq) (natI Q)) := Lib.hid (by have h := HR4.out; rw [natI_len, ← HNQ.out] at h; exact h)
          rcases h4 with rfl | rfl | rfl | rfl
          · by_cases hin : 0 < x % 6
            · have HCV : Hid ((x : Int) % 6 - 1 + 6 * ((x : Int) / 6) = ((x - 1 : Nat) : Int)) := Lib.hid (by omega)
              have HNX : Hid (nbIn x 0 = true ∧ nbX x 0 + 6 * nbY x 0 = ((x - 1 : Nat) : Int)) := Lib.hid (by simp [nbIn, nbX, nbY]; omega)
              have hc24 : x - 1 < 24 := by omega
              go_upto_region 10 with (refine wpList_index_pair rfl 89 (.tmp 51) (.tmp 52) rfl _ rfl 0 rfl 4 88 3 Tryz.underlying89 szPair Tryz.underlying88 (by decide) _ rfl ?_)
              go_upto_region 11 with fail
              rw [HCV.out]
              have hbs : bes x (x - 1) = true := by
                have h := (nb_tab ⟨x, hx24⟩ ⟨0, by decide⟩ HNX.out.1).2.2
                simp only at h
                rwa [HNX.out.2, Int.toNat_natCast] at h
              generalize x - 1 = c at *
              have HR5 := Lib.hid (row_alloc HR4e.out (.cells #[.int .i64 ((x : Int) % 6 - 1), .int .i64 ((x : Int) / 6)] 88))
              have HW5 := Lib.hid (HW4.out.alloc HW4.out.size (.cells #[.int .i64 ((x : Int) % 6 - 1), .int .i64 ((x : Int) / 6)] 88))
              have hxq5 := (bl1 w4 (.cells #[.int .i64 ((x : Int) % 6 - 1), .int .i64 ((x : Int) / 6)] 88)).cell (p := ⟨bq, oq + q, none⟩) hbq
              rw [hxq] at hxq5
              generalize w4.alloc (.cells #[.int .i64 ((x : Int) % 6 - 1), .int .i64 ((x : Int) / 6)] 88) = w5 at *
              have hsc : w5.heap[w.heap.size]? = some (.cells (arr .i8 xs) 26 (0, 0)) := heap_below HW5.out (lt_of_heap HB0.out) HB0.out
              have hcc := arr_cell hsc c (by rw [HS.out.1]; exact hc24)
              have hcx := arr_cell hsc x (by rw [HS.out.1]; exact hx24)
              have hvc := okS_get HOK.out c
              have hvx := okS_get HOK.out x
              have HALK : Hid (alk xs wi x c = (decide (xs.getD c 0 - xs.getD x 0 ≤ wi) && decide (xs.getD x 0 - xs.getD c 0 ≤ wi))) := Lib.hid (by rw [alk, hbs]; rfl)
              clear hbs hsc hin hxq
              generalize xs.getD c 0 = yc at *
              generalize xs.getD x 0 = yx at *
              have hF := HQI.out.hF
              have HBA : Hid (bits .and .u32 ((F : Int) / (2 : Int) ^ c) 1 = if F.testBit c then 1 else 0) := Lib.hid (and1_32 F c hF)
              have HS4 := Lib.hid (set32 F c hF hc24)
              have HSZ1 := Lib.hid (implSize_c (yc - yx) (by omega))
              generalize hsv : (if yc - yx < 0 then -(yc - yx) else yc - yx) = sv at *
              have hsvb : 0 ≤ sv ∧ sv ≤ 100 := by rw [← hsv]; split <;> omega
              have HSV : Hid (decide (sv ≤ wi) = alk xs wi x c) := Lib.hid (by
                rw [HALK.out, Bool.eq_iff_iff]
                simp only [decide_eq_true_eq, Bool.and_eq_true]
                rw [← hsv]; split <;> omega)
              have hw1 : IntKind.i64.wrap yc = yc := Go.IntWalk.i64_in _ (by omega)
              have hw2 : IntKind.i64.wrap yx = yx := Go.IntWalk.i64_in _ (by omega)
              have hw3 : IntKind.i64.wrap (yc - yx) = yc - yx := Go.IntWalk.i64_in _ (by omega)
              have hx24i : (x : Int) < 24 := by omega
              have hc24i : (c : Int) < 24 := by omega
              have HR6 : Hid (Row w5.drew w1.heap.size 3 .i64 (.slice (some ⟨bq, oq, none⟩) lq cq) (natI Q)) := Lib.hid (row_below HR5.out (bl_drew (Below.refl _ w5)))
              have HW6 := Lib.hid (bl_drew HW5.out)
              clear hsv
              cases hfb : F.testBit c
              · rw [hfb] at HBA
                have hba : bits .and .u32 ((F : Int) / (2 : Int) ^ c) 1 = 0 := HBA.out
                refine wp_region_still_lit (by kernel_rfl) (by kernel_rfl) ?_
                iterate 18 still_step
                still_call ((HSZ1.out w5.drew).mono (by rintro e w' ⟨rfl, rfl⟩; exact ⟨rfl, rfl⟩))
                iterate 3 still_step
                refine wpStill_nil ?_
                change Exit.then _ _ _ _ w5.drew
                cases hal : alk xs wi x c
                · have hle : ¬ sv ≤ wi := by
                    have h1 : decide (sv ≤ wi) = false := by rw [HSV.out, hal]
                    simpa using h1
                  have HDN2 : Hid (∀ j', j' < 0 + 1 → nbIn x j' = true → ∀ c : Nat, nbX x j' + 6 * nbY x j' = (c : Int) → alk xs wi x c = true → c ∈ Q) := Lib.hid (fun j' hj' hn c' hc' ha' => by
                    by_cases e : j' = 0
                    · subst e
                      have : c' = c := by rw [HNX.out.2] at hc'; omega
                      rw [this, hal] at ha'; cases ha'
                    · exact HDN.out j' (by omega) hn c' hc' ha')
                  clear hal hfb
                  go_wp2
                  go_roundw
                  case rel => exact ⟨F, Q, 0 + 1, by omega, by go_num, rfl, HQI.out, HQN.out, HXE.out, HDN2.out, HR6.out, HW6.out⟩
                  case measure => simp [intOf]
                · have hle : sv ≤ wi := by
                    have h1 : decide (sv ≤ wi) = true := by rw [HSV.out, hal]
                    simpa using h1
                  have HQ2 := Lib.hid (HQI.out.add HQN.out hc24 (by rw [HXE.out]; exact hal) hfb)
                  have HDN2 : Hid (∀ j', j' < 0 + 1 → nbIn x j' = true → ∀ d : Nat, nbX x j' + 6 * nbY x j' = (d : Int) → alk xs wi x d = true → d ∈ Q ++ [c]) := Lib.hid (fun j' hj' hn c' hc' ha' => by
                    by_cases e : j' = 0
                    · subst e
                      have : c' = c := by rw [HNX.out.2] at hc'; omega
                      rw [this]; simp
                    · exact List.mem_append_left _ (HDN.out j' (by omega) hn c' hc' ha'))
                  have HX2 : Hid ((Q ++ [c]).getD q 0 = x) := Lib.hid (by rw [← HXE.out, List.getD_eq_getElem?_getD, List.getD_eq_getElem?_getD, List.getElem?_append_left HQN.out])
                  have HQL : Hid ((natI Q).length ≤ 24) := Lib.hid (by rw [natI_len]; exact HQI.out.len)
                  clear hal hfb
                  go_wp2_with (at_builtin; refine wpList_appAt rfl (.tmp 105) (.tmp 107) 73 rfl w1.heap.size 3 .i64 8 Tryz.underlying73 info_int (by decide) _ _ rfl (row_alloc HR6.out _) _ 1 (c : Int) rfl (by simp) (Nat.le_trans HQL.out (by omega)) (by have := HW6.out.size; simp at this ⊢; omega) ?_; intro v1 w7 hrow hgr hbk hat; have HRn := Lib.hid hrow; have HGr := Lib.hid hgr; have HBk := Lib.hid hbk; clear hrow hgr hbk hat)
                  go_roundw
                  case rel => exact ⟨F ||| 2 ^ c, Q ++ [c], 0 + 1, by omega, by go_num, by rw [HS4.out], HQ2.out, by have := HQN.out; simp; omega, HX2.out, HDN2.out, by rw [← natI_app]; exact HRn.out,
                    below_app (HW6.out.alloc HW6.out.size _) HGr.out (Nat.le_refl _) HBk.out⟩
                  case measure => simp [intOf]
              · rw [hfb] at HBA
                obtain ⟨bv, hbv, hbn⟩ : ∃ bv : Int, bits .and .u32 ((F : Int) / (2 : Int) ^ c) 1 = bv ∧ (bv == 0) = false := ⟨1, HBA.out, rfl⟩
                have hbn2 : bv ≠ 0 := by simpa using hbn
                have HDN2 : Hid (∀ j', j' < 0 + 1 → nbIn x j' = true → ∀ c : Nat, nbX x j' + 6 * nbY x j' = (c : Int) → alk xs wi x c = true → c ∈ Q) := Lib.hid (fun j' hj' hn c' hc' ha' => by
                  by_cases e : j' = 0
                  · subst e
                    have : c' = c := by rw [HNX.out.2] at hc'; omega
                    rw [this]; exact (HQI.out.mem c).1 hfb
                  · exact HDN.out j' (by omega) hn c' hc' ha')
                clear hfb
                go_quiet (fail)
                go_wp2
                go_roundw
                case rel => exact ⟨F, Q, 0 + 1, by omega, by go_num, rfl, HQI.out, HQN.out, HXE.out, HDN2.out, row_below HR5.out (bl_drewN (Below.refl _ _) _), bl_drewN HW5.out _⟩
                case measure => simp [intOf]
            · have HDN2 : Hid (∀ j', j' < 0 + 1 → nbIn x j' = true → ∀ c : Nat, nbX x j' + 6 * nbY x j' = (c : Int) → alk xs wi x c = true → c ∈ Q) := Lib.hid (fun j' hj' hn => by
                by_cases e : j' = 0
                · exfalso; subst e; simp [nbIn, nbX, nbY] at hn; omega
                · exact HDN.out j' (by omega) hn)
              go_wp2_with (refine wpList_index_pair rfl 89 (.tmp 51) (.tmp 52) rfl _ rfl 0 rfl 4 88 3 Tryz.underlying89 szPair Tryz.underlying88 (by decide) _ rfl ?_)
              go_roundw
              case rel => exact ⟨F, Q, 0 + 1, by omega, by go_num, rfl, HQI.out, HQN.out, HXE.out, HDN2.out, row_alloc HR4e.out _, HW4.out.alloc HW4.out.size _⟩
              case measure => simp [intOf]
          · by_cases hin : x % 6 < 5
            · have HCV : Hid ((x : Int) % 6 + 1 + 6 * ((x : Int) / 6) = ((x + 1 : Nat) : Int)) := Lib.hid (by omega)
              have HNX : Hid (nbIn x 1 = true ∧ nbX x 1 + 6 * nbY x 1 = ((x + 1 : Nat) : Int)) := Lib.hid (by simp [nbIn, nbX, nbY]; omega)
              have hc24 : x + 1 < 24 := by omega
              go_upto_region 10 with (refine wpList_index_pair rfl 89 (.tmp 51) (.tmp 52) rfl _ rfl 1 rfl 4 88 3 Tryz.underlying89 szPair Tryz.underlying88 (by decide) _ rfl ?_)
              go_upto_region 11 with fail
              rw [HCV.out]
              have hbs : bes x (x + 1) = true := by
                have h := (nb_tab ⟨x, hx24⟩ ⟨1, by decide⟩ HNX.out.1).2.2
                simp only at h
                rwa [HNX.out.2, Int.toNat_natCast] at h
              generalize x + 1 = c at *
              have HR5 := Lib.hid (row_alloc HR4e.out (.cells #[.int .i64 ((x : Int) % 6 + 1), .int .i64 ((x : Int) / 6)] 88))
              have HW5 := Lib.hid (HW4.out.alloc HW4.out.size (.cells #[.int .i64 ((x : Int) % 6 + 1), .int .i64 ((x : Int) / 6)] 88))
              have hxq5 := (bl1 w4 (.cells #[.int .i64 ((x : Int) % 6 + 1), .int .i64 ((x : Int) / 6)] 88)).cell (p := ⟨bq, oq + q, none⟩) hbq
              rw [hxq] at hxq5
              generalize w4.alloc (.cells #[.int .i64 ((x : Int) % 6 + 1), .int .i64 ((x : Int) / 6)] 88) = w5 at *
              have hsc : w5.heap[w.heap.size]? = some (.cells (arr .i8 xs) 26 (0, 0)) := heap_below HW5.out (lt_of_heap HB0.out) HB0.out
              have hcc := arr_cell hsc c (by rw [HS.out.1]; exact hc24)
              have hcx := arr_cell hsc x (by rw [HS.out.1]; exact hx24)
              have hvc := okS_get HOK.out c
              have hvx := okS_get HOK.out x
              have HALK : Hid (alk xs wi x c = (decide (xs.getD c 0 - xs.getD x 0 ≤ wi) && decide (xs.getD x 0 - xs.getD c 0 ≤ wi))) := Lib.hid (by rw [alk, hbs]; rfl)
              clear hbs hsc hin hxq
              generalize xs.getD c 0 = yc at *
              generalize xs.getD x 0 = yx at *
              have hF := HQI.out.hF
              have HBA : Hid (bits .and .u32 ((F : Int) / (2 : Int) ^ c) 1 = if F.testBit c then 1 else 0) := Lib.hid (and1_32 F c hF)
              have HS4 := Lib.hid (set32 F c hF hc24)
              have HSZ1 := Lib.hid (implSize_c (yc - yx) (by omega))
              generalize hsv : (if yc - yx < 0 then -(yc - yx) else yc - yx) = sv at *
              have hsvb : 0 ≤ sv ∧ sv ≤ 100 := by rw [← hsv]; split <;> omega
              have HSV : Hid (decide (sv ≤ wi) = alk xs wi x c) := Lib.hid (by
                rw [HALK.out, Bool.eq_iff_iff]
                simp only [decide_eq_true_eq, Bool.and_eq_true]
                rw [← hsv]; split <;> omega)
              have hw1 : IntKind.i64.wrap yc = yc := Go.IntWalk.i64_in _ (by omega)
              have hw2 : IntKind.i64.wrap yx = yx := Go.IntWalk.i64_in _ (by omega)
              have hw3 : IntKind.i64.wrap (yc - yx) = yc - yx := Go.IntWalk.i64_in _ (by omega)
              have hx24i : (x : Int) < 24 := by omega
              have hc24i : (c : Int) < 24 := by omega
              have HR6 : Hid (Row w5.drew w1.heap.size 3 .i64 (.slice (some ⟨bq, oq, none⟩) lq cq) (natI Q)) := Lib.hid (row_below HR5.out (bl_drew (Below.refl _ w5)))
              have HW6 := Lib.hid (bl_drew HW5.out)
              clear hsv
              cases hfb : F.testBit c
              · rw [hfb] at HBA
                have hba : bits .and .u32 ((F : Int) / (2 : Int) ^ c) 1 = 0 := HBA.out
                refine wp_region_still_lit (by kernel_rfl) (by kernel_rfl) ?_
                iterate 18 still_step
                still_call ((HSZ1.out w5.drew).mono (by rintro e w' ⟨rfl, rfl⟩; exact ⟨rfl, rfl⟩))
                iterate 3 still_step
                refine wpStill_nil ?_
                change Exit.then _ _ _ _ w5.drew
                cases hal : alk xs wi x c
                · have hle : ¬ sv ≤ wi := by
                    have h1 : decide (sv ≤ wi) = false := by rw [HSV.out, hal]
                    simpa using h1
                  have HDN2 : Hid (∀ j', j' < 1 + 1 → nbIn x j' = true → ∀ c : Nat, nbX x j' + 6 * nbY x j' = (c : Int) → alk xs wi x c = true → c ∈ Q) := Lib.hid (fun j' hj' hn c' hc' ha' => by
                    by_cases e : j' = 1
                    · subst e
                      have : c' = c := by rw [HNX.out.2] at hc'; omega
                      rw [this, hal] at ha'; cases ha'
                    · exact HDN.out j' (by omega) hn c' hc' ha')
                  clear hal hfb
                  go_wp2
                  go_roundw
                  case rel => exact ⟨F, Q, 1 + 1, by omega, by go_num, rfl, HQI.out, HQN.out, HXE.out, HDN2.out, HR6.out, HW6.out⟩
                  case measure => simp [intOf]
                · have hle : sv ≤ wi := by
                    have h1 : decide (sv ≤ wi) = true := by rw [HSV.out, hal]
                    simpa using h1
                  have HQ2 := Lib.hid (HQI.out.add HQN.out hc24 (by rw [HXE.out]; exact hal) hfb)
                  have HDN2 : Hid (∀ j', j' < 1 + 1 → nbIn x j' = true → ∀ d : Nat, nbX x j' + 6 * nbY x j' = (d : Int) → alk xs wi x d = true → d ∈ Q ++ [c]) := Lib.hid (fun j' hj' hn c' hc' ha' => by
                    by_cases e : j' = 1
                    · subst e
                      have : c' = c := by rw [HNX.out.2] at hc'; omega
                      rw [this]; simp
                    · exact List.mem_append_left _ (HDN.out j' (by omega) hn c' hc' ha'))
                  have HX2 : Hid ((Q ++ [c]).getD q 0 = x) := Lib.hid (by rw [← HXE.out, List.getD_eq_getElem?_getD, List.getD_eq_getElem?_getD, List.getElem?_append_left HQN.out])
                  have HQL : Hid ((natI Q).length ≤ 24) := Lib.hid (by rw [natI_len]; exact HQI.out.len)
                  clear hal hfb
                  go_wp2_with (at_builtin; refine wpList_appAt rfl (.tmp 105) (.tmp 107) 73 rfl w1.heap.size 3 .i64 8 Tryz.underlying73 info_int (by decide) _ _ rfl (row_alloc HR6.out _) _ 1 (c : Int) rfl (by simp) (Nat.le_trans HQL.out (by omega)) (by have := HW6.out.size; simp at this ⊢; omega) ?_; intro v1 w7 hrow hgr hbk hat; have HRn := Lib.hid hrow; have HGr := Lib.hid hgr; have HBk := Lib.hid hbk; clear hrow hgr hbk hat)
                  go_roundw
                  case rel => exact ⟨F ||| 2 ^ c, Q ++ [c], 1 + 1, by omega, by go_num, by rw [HS4.out], HQ2.out, by have := HQN.out; simp; omega, HX2.out, HDN2.out, by rw [← natI_app]; exact HRn.out,
                    below_app (HW6.out.alloc HW6.out.size _) HGr.out (Nat.le_refl _) HBk.out⟩
                  case measure => simp [intOf]
              · rw [hfb] at HBA
                obtain ⟨bv, hbv, hbn⟩ : ∃ bv : Int, bits .and .u32 ((F : Int) / (2 : Int) ^ c) 1 = bv ∧ (bv == 0) = false := ⟨1, HBA.out, rfl⟩
                have hbn2 : bv ≠ 0 := by simpa using hbn
                have HDN2 : Hid (∀ j', j' < 1 + 1 → nbIn x j' = true → ∀ c : Nat, nbX x j' + 6 * nbY x j' = (c : Int) → alk xs wi x c = true → c ∈ Q) := Lib.hid (fun j' hj' hn c' hc' ha' => by
                  by_cases e : j' = 1
                  · subst e
                    have : c' = c := by rw [HNX.out.2] at hc'; omega
                    rw [this]; exact (HQI.out.mem c).1 hfb
                  · exact HDN.out j' (by omega) hn c' hc' ha')
                clear hfb
                go_quiet (fail)
                go_wp2
                go_roundw
                case rel => exact ⟨F, Q, 1 + 1, by omega, by go_num, rfl, HQI.out, HQN.out, HXE.out, HDN2.out, row_below HR5.out (bl_drewN (Below.refl _ _) _), bl_drewN HW5.out _⟩
                case measure => simp [intOf]
            · have HDN2 : Hid (∀ j', j' < 1 + 1 → nbIn x j' = true → ∀ c : Nat, nbX x j' + 6 * nbY x j' = (c : Int) → alk xs wi x c = true → c ∈ Q) := Lib.hid (fun j' hj' hn => by
                by_cases e : j' = 1
                · exfalso; subst e; simp [nbIn, nbX, nbY] at hn; omega
                · exact HDN.out j' (by omega) hn)
              go_wp2_with (refine wpList_index_pair rfl 89 (.tmp 51) (.tmp 52) rfl _ rfl 1 rfl 4 88 3 Tryz.underlying89 szPair Tryz.underlying88 (by decide) _ rfl ?_)
              go_roundw
              case rel => exact ⟨F, Q, 1 + 1, by omega, by go_num, rfl, HQI.out, HQN.out, HXE.out, HDN2.out, row_alloc HR4e.out _, HW4.out.alloc HW4.out.size _⟩
              case measure => simp [intOf]
          · by_cases hin : 6 ≤ x
            · have HCV : Hid ((x : Int) % 6 + 6 * ((x : Int) / 6 - 1) = ((x - 6 : Nat) : Int)) := Lib.hid (by omega)
              have HNX : Hid (nbIn x 2 = true ∧ nbX x 2 + 6 * nbY x 2 = ((x - 6 : Nat) : Int)) := Lib.hid (by simp [nbIn, nbX, nbY]; omega)
              have hc24 : x - 6 < 24 := by omega
              go_upto_region 10 with (refine wpList_index_pair rfl 89 (.tmp 51) (.tmp 52) rfl _ rfl 2 rfl 4 88 3 Tryz.underlying89 szPair Tryz.underlying88 (by decide) _ rfl ?_)
              go_upto_region 11 with fail
              rw [HCV.out]
              have hbs : bes x (x - 6) = true := by
                have h := (nb_tab ⟨x, hx24⟩ ⟨2, by decide⟩ HNX.out.1).2.2
                simp only at h
                rwa [HNX.out.2, Int.toNat_natCast] at h
              generalize x - 6 = c at *
              have HR5 := Lib.hid (row_alloc HR4e.out (.cells #[.int .i64 ((x : Int) % 6), .int .i64 ((x : Int) / 6 - 1)] 88))
              have HW5 := Lib.hid (HW4.out.alloc HW4.out.size (.cells #[.int .i64 ((x : Int) % 6), .int .i64 ((x : Int) / 6 - 1)] 88))
              have hxq5 := (bl1 w4 (.cells #[.int .i64 ((x : Int) % 6), .int .i64 ((x : Int) / 6 - 1)] 88)).cell (p := ⟨bq, oq + q, none⟩) hbq
              rw [hxq] at hxq5
              generalize w4.alloc (.cells #[.int .i64 ((x : Int) % 6), .int .i64 ((x : Int) / 6 - 1)] 88) = w5 at *
              have hsc : w5.heap[w.heap.size]? = some (.cells (arr .i8 xs) 26 (0, 0)) := heap_below HW5.out (lt_of_heap HB0.out) HB0.out
              have hcc := arr_cell hsc c (by rw [HS.out.1]; exact hc24)
              have hcx := arr_cell hsc x (by rw [HS.out.1]; exact hx24)
              have hvc := okS_get HOK.out c
              have hvx := okS_get HOK.out x
              have HALK : Hid (alk xs wi x c = (decide (xs.getD c 0 - xs.getD x 0 ≤ wi) && decide (xs.getD x 0 - xs.getD c 0 ≤ wi))) := Lib.hid (by rw [alk, hbs]; rfl)
              clear hbs hsc hin hxq
              generalize xs.getD c 0 = yc at *
              generalize xs.getD x 0 = yx at *
              have hF := HQI.out.hF
              have HBA : Hid (bits .and .u32 ((F : Int) / (2 : Int) ^ c) 1 = if F.testBit c then 1 else 0) := Lib.hid (and1_32 F c hF)
              have HS4 := Lib.hid (set32 F c hF hc24)
              have HSZ1 := Lib.hid (implSize_c (yc - yx) (by omega))
              generalize hsv : (if yc - yx < 0 then -(yc - yx) else yc - yx) = sv at *
              have hsvb : 0 ≤ sv ∧ sv ≤ 100 := by rw [← hsv]; split <;> omega
              have HSV : Hid (decide (sv ≤ wi) = alk xs wi x c) := Lib.hid (by
                rw [HALK.out, Bool.eq_iff_iff]
                simp only [decide_eq_true_eq, Bool.and_eq_true]
                rw [← hsv]; split <;> omega)
              have hw1 : IntKind.i64.wrap yc = yc := Go.IntWalk.i64_in _ (by omega)
              have hw2 : IntKind.i64.wrap yx = yx := Go.IntWalk.i64_in _ (by omega)
              have hw3 : IntKind.i64.wrap (yc - yx) = yc - yx := Go.IntWalk.i64_in _ (by omega)
              have hx24i : (x : Int) < 24 := by omega
              have hc24i : (c : Int) < 24 := by omega
              have HR6 : Hid (Row w5.drew w1.heap.size 3 .i64 (.slice (some ⟨bq, oq, none⟩) lq cq) (natI Q)) := Lib.hid (row_below HR5.out (bl_drew (Below.refl _ w5)))
              have HW6 := Lib.hid (bl_drew HW5.out)
              clear hsv
              cases hfb : F.testBit c
              · rw [hfb] at HBA
                have hba : bits .and .u32 ((F : Int) / (2 : Int) ^ c) 1 = 0 := HBA.out
                refine wp_region_still_lit (by kernel_rfl) (by kernel_rfl) ?_
                iterate 18 still_step
                still_call ((HSZ1.out w5.drew).mono (by rintro e w' ⟨rfl, rfl⟩; exact ⟨rfl, rfl⟩))
                iterate 3 still_step
                refine wpStill_nil ?_
                change Exit.then _ _ _ _ w5.drew
                cases hal : alk xs wi x c
                · have hle : ¬ sv ≤ wi := by
                    have h1 : decide (sv ≤ wi) = false := by rw [HSV.out, hal]
                    simpa using h1
                  have HDN2 : Hid (∀ j', j' < 2 + 1 → nbIn x j' = true → ∀ c : Nat, nbX x j' + 6 * nbY x j' = (c : Int) → alk xs wi x c = true → c ∈ Q) := Lib.hid (fun j' hj' hn c' hc' ha' => by
                    by_cases e : j' = 2
                    · subst e
                      have : c' = c := by rw [HNX.out.2] at hc'; omega
                      rw [this, hal] at ha'; cases ha'
                    · exact HDN.out j' (by omega) hn c' hc' ha')
                  clear hal hfb
                  go_wp2
                  go_roundw
                  case rel => exact ⟨F, Q, 2 + 1, by omega, by go_num, rfl, HQI.out, HQN.out, HXE.out, HDN2.out, HR6.out, HW6.out⟩
                  case measure => simp [intOf]
                · have hle : sv ≤ wi := by
                    have h1 : decide (sv ≤ wi) = true := by rw [HSV.out, hal]
                    simpa using h1
                  have HQ2 := Lib.hid (HQI.out.add HQN.out hc24 (by rw [HXE.out]; exact hal) hfb)
                  have HDN2 : Hid (∀ j', j' < 2 + 1 → nbIn x j' = true → ∀ d : Nat, nbX x j' + 6 * nbY x j' = (d : Int) → alk xs wi x d = true → d ∈ Q ++ [c]) := Lib.hid (fun j' hj' hn c' hc' ha' => by
                    by_cases e : j' = 2
                    · subst e
                      have : c' = c := by rw [HNX.out.2] at hc'; omega
                      rw [this]; simp
                    · exact List.mem_append_left _ (HDN.out j' (by omega) hn c' hc' ha'))
                  have HX2 : Hid ((Q ++ [c]).getD q 0 = x) := Lib.hid (by rw [← HXE.out, List.getD_eq_getElem?_getD, List.getD_eq_getElem?_getD, List.getElem?_append_left HQN.out])
                  have HQL : Hid ((natI Q).length ≤ 24) := Lib.hid (by rw [natI_len]; exact HQI.out.len)
                  clear hal hfb
                  go_wp2_with (at_builtin; refine wpList_appAt rfl (.tmp 105) (.tmp 107) 73 rfl w1.heap.size 3 .i64 8 Tryz.underlying73 info_int (by decide) _ _ rfl (row_alloc HR6.out _) _ 1 (c : Int) rfl (by simp) (Nat.le_trans HQL.out (by omega)) (by have := HW6.out.size; simp at this ⊢; omega) ?_; intro v1 w7 hrow hgr hbk hat; have HRn := Lib.hid hrow; have HGr := Lib.hid hgr; have HBk := Lib.hid hbk; clear hrow hgr hbk hat)
                  go_roundw
                  case rel => exact ⟨F ||| 2 ^ c, Q ++ [c], 2 + 1, by omega, by go_num, by rw [HS4.out], HQ2.out, by have := HQN.out; simp; omega, HX2.out, HDN2.out, by rw [← natI_app]; exact HRn.out,
                    below_app (HW6.out.alloc HW6.out.size _) HGr.out (Nat.le_refl _) HBk.out⟩
                  case measure => simp [intOf]
              · rw [hfb] at HBA
                obtain ⟨bv, hbv, hbn⟩ : ∃ bv : Int, bits .and .u32 ((F : Int) / (2 : Int) ^ c) 1 = bv ∧ (bv == 0) = false := ⟨1, HBA.out, rfl⟩
                have hbn2 : bv ≠ 0 := by simpa using hbn
                have HDN2 : Hid (∀ j', j' < 2 + 1 → nbIn x j' = true → ∀ c : Nat, nbX x j' + 6 * nbY x j' = (c : Int) → alk xs wi x c = true → c ∈ Q) := Lib.hid (fun j' hj' hn c' hc' ha' => by
                  by_cases e : j' = 2
                  · subst e
                    have : c' = c := by rw [HNX.out.2] at hc'; omega
                    rw [this]; exact (HQI.out.mem c).1 hfb
                  · exact HDN.out j' (by omega) hn c' hc' ha')
                clear hfb
                go_quiet (fail)
                go_wp2
                go_roundw
                case rel => exact ⟨F, Q, 2 + 1, by omega, by go_num, rfl, HQI.out, HQN.out, HXE.out, HDN2.out, row_below HR5.out (bl_drewN (Below.refl _ _) _), bl_drewN HW5.out _⟩
                case measure => simp [intOf]
            · have HDN2 : Hid (∀ j', j' < 2 + 1 → nbIn x j' = true → ∀ c : Nat, nbX x j' + 6 * nbY x j' = (c : Int) → alk xs wi x c = true → c ∈ Q) := Lib.hid (fun j' hj' hn => by
                by_cases e : j' = 2
                · exfalso; subst e; simp [nbIn, nbX, nbY] at hn; omega
                · exact HDN.out j' (by omega) hn)
              go_wp2_with (refine wpList_index_pair rfl 89 (.tmp 51) (.tmp 52) rfl _ rfl 2 rfl 4 88 3 Tryz.underlying89 szPair Tryz.underlying88 (by decide) _ rfl ?_)
              go_roundw
              case rel => exact ⟨F, Q, 2 + 1, by omega, by go_num, rfl, HQI.out, HQN.out, HXE.out, HDN2.out, row_alloc HR4e.out _, HW4.out.alloc HW4.out.size _⟩
              case measure => simp [intOf]
          · by_cases hin : x < 18
            · have HCV : Hid ((x : Int) % 6 + 6 * ((x : Int) / 6 + 1) = ((x + 6 : Nat) : Int)) := Lib.hid (by omega)
              have HNX : Hid (nbIn x 3 = true ∧ nbX x 3 + 6 * nbY x 3 = ((x + 6 : Nat) : Int)) := Lib.hid (by simp [nbIn, nbX, nbY]; omega)
              have hc24 : x + 6 < 24 := by omega
              go_upto_region 10 with (refine wpList_index_pair rfl 89 (.tmp 51) (.tmp 52) rfl _ rfl 3 rfl 4 88 3 Tryz.underlying89 szPair Tryz.underlying88 (by decide) _ rfl ?_)
              go_upto_region 11 with fail
              rw [HCV.out]
              have hbs : bes x (x + 6) = true := by
                have h := (nb_tab ⟨x, hx24⟩ ⟨3, by decide⟩ HNX.out.1).2.2
                simp only at h
                rwa [HNX.out.2, Int.toNat_natCast] at h
              generalize x + 6 = c at *
              have HR5 := Lib.hid (row_alloc HR4e.out (.cells #[.int .i64 ((x : Int) % 6), .int .i64 ((x : Int) / 6 + 1)] 88))
              have HW5 := Lib.hid (HW4.out.alloc HW4.out.size (.cells #[.int .i64 ((x : Int) % 6), .int .i64 ((x : Int) / 6 + 1)] 88))
              have hxq5 := (bl1 w4 (.cells #[.int .i64 ((x : Int) % 6), .int .i64 ((x : Int) / 6 + 1)] 88)).cell (p := ⟨bq, oq + q, none⟩) hbq
              rw [hxq] at hxq5
              generalize w4.alloc (.cells #[.int .i64 ((x : Int) % 6), .int .i64 ((x : Int) / 6 + 1)] 88) = w5 at *
              have hsc : w5.heap[w.heap.size]? = some (.cells (arr .i8 xs) 26 (0, 0)) := heap_below HW5.out (lt_of_heap HB0.out) HB0.out
              have hcc := arr_cell hsc c (by rw [HS.out.1]; exact hc24)
              have hcx := arr_cell hsc x (by rw [HS.out.1]; exact hx24)
              have hvc := okS_get HOK.out c
              have hvx := okS_get HOK.out x
              have HALK : Hid (alk xs wi x c = (decide (xs.getD c 0 - xs.getD x 0 ≤ wi) && decide (xs.getD x 0 - xs.getD c 0 ≤ wi))) := Lib.hid (by rw [alk, hbs]; rfl)
              clear hbs hsc hin hxq
              generalize xs.getD c 0 = yc at *
              generalize xs.getD x 0 = yx at *
              have hF := HQI.out.hF
              have HBA : Hid (bits .and .u32 ((F : Int) / (2 : Int) ^ c) 1 = if F.testBit c then 1 else 0) := Lib.hid (and1_32 F c hF)
              have HS4 := Lib.hid (set32 F c hF hc24)
              have HSZ1 := Lib.hid (implSize_c (yc - yx) (by omega))
              generalize hsv : (if yc - yx < 0 then -(yc - yx) else yc - yx) = sv at *
              have hsvb : 0 ≤ sv ∧ sv ≤ 100 := by rw [← hsv]; split <;> omega
              have HSV : Hid (decide (sv ≤ wi) = alk xs wi x c) := Lib.hid (by
                rw [HALK.out, Bool.eq_iff_iff]
                simp only [decide_eq_true_eq, Bool.and_eq_true]
                rw [← hsv]; split <;> omega)
              have hw1 : IntKind.i64.wrap yc = yc := Go.IntWalk.i64_in _ (by omega)
              have hw2 : IntKind.i64.wrap yx = yx := Go.IntWalk.i64_in _ (by omega)
              have hw3 : IntKind.i64.wrap (yc - yx) = yc - yx := Go.IntWalk.i64_in _ (by omega)
              have hx24i : (x : Int) < 24 := by omega
              have hc24i : (c : Int) < 24 := by omega
              have HR6 : Hid (Row w5.drew w1.heap.size 3 .i64 (.slice (some ⟨bq, oq, none⟩) lq cq) (natI Q)) := Lib.hid (row_below HR5.out (bl_drew (Below.refl _ w5)))
              have HW6 := Lib.hid (bl_drew HW5.out)
              clear hsv
              cases hfb : F.testBit c
              · rw [hfb] at HBA
                have hba : bits .and .u32 ((F : Int) / (2 : Int) ^ c) 1 = 0 := HBA.out
                refine wp_region_still_lit (by kernel_rfl) (by kernel_rfl) ?_
                iterate 18 still_step
                still_call ((HSZ1.out w5.drew).mono (by rintro e w' ⟨rfl, rfl⟩; exact ⟨rfl, rfl⟩))
                iterate 3 still_step
                refine wpStill_nil ?_
                change Exit.then _ _ _ _ w5.drew
                cases hal : alk xs wi x c
                · have hle : ¬ sv ≤ wi := by
                    have h1 : decide (sv ≤ wi) = false := by rw [HSV.out, hal]
                    simpa using h1
                  have HDN2 : Hid (∀ j', j' < 3 + 1 → nbIn x j' = true → ∀ c : Nat, nbX x j' + 6 * nbY x j' = (c : Int) → alk xs wi x c = true → c ∈ Q) := Lib.hid (fun j' hj' hn c' hc' ha' => by
                    by_cases e : j' = 3
                    · subst e
                      have : c' = c := by rw [HNX.out.2] at hc'; omega
                      rw [this, hal] at ha'; cases ha'
                    · exact HDN.out j' (by omega) hn c' hc' ha')
                  clear hal hfb
                  go_wp2
                  go_roundw
                  case rel => exact ⟨F, Q, 3 + 1, by omega, by go_num, rfl, HQI.out, HQN.out, HXE.out, HDN2.out, HR6.out, HW6.out⟩
                  case measure => simp [intOf]
                · have hle : sv ≤ wi := by
                    have h1 : decide (sv ≤ wi) = true := by rw [HSV.out, hal]
                    simpa using h1
                  have HQ2 := Lib.hid (HQI.out.add HQN.out hc24 (by rw [HXE.out]; exact hal) hfb)
                  have HDN2 : Hid (∀ j', j' < 3 + 1 → nbIn x j' = true → ∀ d : Nat, nbX x j' + 6 * nbY x j' = (d : Int) → alk xs wi x d = true → d ∈ Q ++ [c]) := Lib.hid (fun j' hj' hn c' hc' ha' => by
                    by_cases e : j' = 3
                    · subst e
                      have : c' = c := by rw [HNX.out.2] at hc'; omega
                      rw [this]; simp
                    · exact List.mem_append_left _ (HDN.out j' (by omega) hn c' hc' ha'))
                  have HX2 : Hid ((Q ++ [c]).getD q 0 = x) := Lib.hid (by rw [← HXE.out, List.getD_eq_getElem?_getD, List.getD_eq_getElem?_getD, List.getElem?_append_left HQN.out])
                  have HQL : Hid ((natI Q).length ≤ 24) := Lib.hid (by rw [natI_len]; exact HQI.out.len)
                  clear hal hfb
                  go_wp2_with (at_builtin; refine wpList_appAt rfl (.tmp 105) (.tmp 107) 73 rfl w1.heap.size 3 .i64 8 Tryz.underlying73 info_int (by decide) _ _ rfl (row_alloc HR6.out _) _ 1 (c : Int) rfl (by simp) (Nat.le_trans HQL.out (by omega)) (by have := HW6.out.size; simp at this ⊢; omega) ?_; intro v1 w7 hrow hgr hbk hat; have HRn := Lib.hid hrow; have HGr := Lib.hid hgr; have HBk := Lib.hid hbk; clear hrow hgr hbk hat)
                  go_roundw
                  case rel => exact ⟨F ||| 2 ^ c, Q ++ [c], 3 + 1, by omega, by go_num, by rw [HS4.out], HQ2.out, by have := HQN.out; simp; omega, HX2.out, HDN2.out, by rw [← natI_app]; exact HRn.out,
                    below_app (HW6.out.alloc HW6.out.size _) HGr.out (Nat.le_refl _) HBk.out⟩
                  case measure => simp [intOf]
              · rw [hfb] at HBA
                obtain ⟨bv, hbv, hbn⟩ : ∃ bv : Int, bits .and .u32 ((F : Int) / (2 : Int) ^ c) 1 = bv ∧ (bv == 0) = false := ⟨1, HBA.out, rfl⟩
                have hbn2 : bv ≠ 0 := by simpa using hbn
                have HDN2 : Hid (∀ j', j' < 3 + 1 → nbIn x j' = true → ∀ c : Nat, nbX x j' + 6 * nbY x j' = (c : Int) → alk xs wi x c = true → c ∈ Q) := Lib.hid (fun j' hj' hn c' hc' ha' => by
                  by_cases e : j' = 3
                  · subst e
                    have : c' = c := by rw [HNX.out.2] at hc'; omega
                    rw [this]; exact (HQI.out.mem c).1 hfb
                  · exact HDN.out j' (by omega) hn c' hc' ha')
                clear hfb
                go_quiet (fail)
                go_wp2
                go_roundw
                case rel => exact ⟨F, Q, 3 + 1, by omega, by go_num, rfl, HQI.out, HQN.out, HXE.out, HDN2.out, row_below HR5.out (bl_drewN (Below.refl _ _) _), bl_drewN HW5.out _⟩
                case measure => simp [intOf]
            · have HDN2 : Hid (∀ j', j' < 3 + 1 → nbIn x j' = true → ∀ c : Nat, nbX x j' + 6 * nbY x j' = (c : Int) → alk xs wi x c = true → c ∈ Q) := Lib.hid (fun j' hj' hn => by
                by_cases e : j' = 3
                · exfalso; subst e; simp [nbIn, nbX, nbY] at hn; omega
                · exact HDN.out j' (by omega) hn)
              go_wp2_with (refine wpList_index_pair rfl 89 (.tmp 51) (.tmp 52) rfl _ rfl 3 rfl 4 88 3 Tryz.underlying89 szPair Tryz.underlying88 (by decide) _ rfl ?_)
              go_roundw
              case rel => exact ⟨F, Q, 3 + 1, by omega, by go_num, rfl, HQI.out, HQN.out, HXE.out, HDN2.out, row_alloc HR4e.out _, HW4.out.alloc HW4.out.size _⟩
              case measure => simp [intOf]
        · have hj4 : j = 4 := by omega
          have HNX : Hid (QI xs wi k F Q (q + 1)) := Lib.hid (HQI.out.next (fun c hc ha => by
            rw [HXE.out] at ha
            have h1 : bes x c = true := by
              simp only [alk, Bool.and_eq_true] at ha; exact ha.1
            obtain ⟨j', h2, h3⟩ := nb_all ⟨x, hx24⟩ ⟨c, hc⟩ h1
            exact HDN.out j'.val (by have := j'.isLt; omega) h2 c h3 ha))
          have HR4e : Hid (Row w4 w1.heap.size 3 .i64 (.slice (some ⟨bq, oq, none⟩) lq cq) (natI Q)) := Lib.hid (by have h := HR4.out; rw [natI_len, ← HNQ.out] at h; exact h)
          subst hj4
          go_wp2
          go_roundw
          case rel => exact ⟨F, Q, q + 1, HQN.out, by go_num, rfl, HNX.out, HR4e.out, HW4.out⟩
          case measure => simp [intOf]; omega
    · have hqn : q = lq := by omega
      have HF : Hid (F = fieldOf xs wi k) := Lib.hid (HQI.out.field (by have := HNQ.out; omega))
      subst hqn
      go_wp2
      go_ret
      exact ⟨ret_int (by rw [HF.out]), bt HW0.out HW2.out⟩
end Go.Proofs.YtbafbfamjjmngaaGreatDoor
