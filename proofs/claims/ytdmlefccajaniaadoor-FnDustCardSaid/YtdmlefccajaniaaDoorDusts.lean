/- The dust of all copies: the program. -/
import Derived.Test.YtdmlefccajaniaaDoorDust
namespace Go.Proofs.YtdmlefccajaniaaDoor
open Go.RowKit Go.Lib
def dustsL (l : List (List Int)) (wi : Int) (n : Nat) : List Int := (List.range n).map fun i => ((difM (medP l) (l.getD i []) wi : Nat) : Int)
theorem dustsL_len (l : List (List Int)) (wi : Int) (n : Nat) : (dustsL l wi n).length = n := by simp [dustsL]
theorem dustsL_get (l : List (List Int)) (wi : Int) (n i : Nat) (h : i < n) : (dustsL l wi n).getD i 0 = ((difM (medP l) (l.getD i []) wi : Nat) : Int) := by
  simp [dustsL, List.getD_eq_getElem?_getD, h]
theorem dustsL_succ (l : List (List Int)) (wi : Int) (n : Nat) : dustsL l wi (n + 1) = dustsL l wi n ++ [((difM (medP l) (l.getD n []) wi : Nat) : Int)] := by
  simp [dustsL, List.range_succ]
theorem info_u64 : (Tryd.prog.info? 24).map (fun i => (i.zero, i.size, i.bytes)) = some (some (.int .u64 0), 1, 8) := by kernel_rfl
set_option maxHeartbeats 4000000 in
set_option maxRecDepth 100000 in
theorem implDusts_c (p : Option Addr) (n c : Nat) (l : List (List Int)) (hl : Prs l) (hn : n = l.length) (hm : n ≤ 8) (h0 : 0 < n) (hok : okL l = true) (wi : Int) (hwi : dnB wi = true) (w : World) (hp : PS w p l) :
    Calls Tryd.prog 63 #[.slice p n c, .int .i64 wi] w fun e w' => ∃ v, e = .returned v ∧ Row w' w.heap.size 24 .u64 v (dustsL l wi n) ∧ Below w.heap.size w w' := by
  have HN := Lib.hid hn
  have HA := Lib.hid hp
  have HP := Lib.hid hl
  have HOK := Lib.hid hok
  have HWI := Lib.hid hwi
  have hM4 : D400 (medP l) := medP_D400 hok (by omega)
  have HR0 := Lib.hid (row_new w 24 .u64 w.heap.size (Nat.le_refl _))
  have HB0 := Lib.hid (bl1 w (.cells #[] 24))
  have HS0 : Hid (w.heap.size < (w.alloc (.cells #[] 24)).heap.size) := Lib.hid (by simp)
  clear hn hp hl hok hwi
  go_enter Tryd.func63, Tryd.ntmps63
  go_wp2_with fail
  refine (implMedian_c p n c l HP.out HN.out hm h0 _ (PS_below HB0.out HA.out)).mono ?_
  rintro e w1 ⟨rfl, hb1⟩
  generalize hMe : medP l = M at *
  have HME := Lib.hid hMe
  have HM := Lib.hid hM4
  have HR1 := Lib.hid (row_below HR0.out hb1)
  have HB1 := Lib.hid (bt HB0.out hb1)
  have HS1 := Lib.hid (Nat.lt_of_lt_of_le HS0.out hb1.size)
  have hszM : (arr .i16 M).size = 64 := by rw [arr_size]; exact hM4.1
  clear hMe hM4 hb1 HR0 HB0 HS0
  generalize w.alloc (.cells #[] 24) = w0 at *
  go_upto_region 3 with (rw [z64_Z]; refine wpList_store_row rfl 37 (.tmp 6) (.tmp 13) rfl w1.heap.size (arr .i16 M) rfl rfl 37 (arr .i16 Z64) (al1_0 _ _) (by rw [szPrint, hszM]) (by rw [hszM, arr_size, Z64_length]) (arr_one _ _) ?_)
  have HG := Lib.hid (setRow_heap (w1.alloc (.cells (arr .i16 Z64) 37)) w1.heap.size _ (arr .i16 M) 37 (0, 0) (al1_0 _ _))
  have hb2 := below_setRow (bl1 w1 (.cells (arr .i16 Z64) 37)) (Nat.le_refl _) (arr .i16 M)
  have HR2 := Lib.hid (row_below HR1.out hb2)
  have HB2 := Lib.hid (bt HB1.out hb2)
  have HOw : Hid ((Value.slice (some ⟨w.heap.size, 0, none⟩) 0 0).ownBlock ≠ some w1.heap.size) := Lib.hid (by have := HS1.out; simp [Value.ownBlock]; omega)
  clear hb2 HR1 HB1
  generalize (w1.alloc (.cells (arr .i16 Z64) 37)).setRow w1.heap.size (arr .i16 M) = w2 at *
  generalize w1.heap.size = g6 at *
  go_loopw [5, 16] (fun s5 s16 wr => ∃ i : Nat, i ≤ n ∧ s16 = .int .i64 i ∧ Row wr w.heap.size 24 .u64 s5 (dustsL l wi i) ∧ s5.ownBlock ≠ some g6 ∧ wr.heap[g6]? = some (.cells (arr .i16 M) 37 (0, 0)) ∧ Below w.heap.size w wr) (fun _ i _ => n - (intOf i).toNat)
  case atStart => exact ⟨0, Nat.zero_le _, rfl, HR2.out, HOw.out, HG.out, HB2.out⟩
  case round =>
    clear HR2 HOw HG HB2
    obtain ⟨i, hi, rfl, hR, hO, hG, hV⟩ := hrel
    have HR := Lib.hid hR
    have HV := Lib.hid hV
    have HO := Lib.hid hO
    have HG := Lib.hid hG
    clear hR hV hO hG
    by_cases hin : i < n
    · obtain ⟨b, o, rfl, hb, hat⟩ := HA.out (ne_of_lt (k := i) (by have := HN.out; omega))
      obtain ⟨q, hpe⟩ : ∃ q, q = l.getD i [] := ⟨_, rfl⟩
      have hq4 : D400 q := by rw [hpe]; exact okP_D400 (HP.out i (by have := HN.out; omega)) (okL_get HOK.out i (by have := HN.out; omega))
      have HRg : Hid (wr.rangeAt b (o + i * 64) (cellsP q)) := Lib.hid (by rw [hpe]; exact rangeAt_below HV.out hb (hat i (by have := HN.out; omega)))
      have H64 : Hid ((cellsP q).length = 64) := Lib.hid (by rw [cellsP_length]; exact hq4.1)
      have hszQ : (arr .i16 q).size = 64 := by rw [arr_size]; exact hq4.1
      have HTk : Hid (dustsL l wi (i + 1) = dustsL l wi i ++ [((difM M q wi : Nat) : Int)]) := Lib.hid (by rw [dustsL_succ, HME.out, ← hpe])
      have hin0 : decide ((i : Int) < n) = true := by simp; omega
      have HQ4 := Lib.hid hq4
      have HD := Lib.hid (differIn_c M q HM.out hq4 wi HWI.out)
      have HL8 : Hid ((dustsL l wi i).length ≤ 17592186000000) := Lib.hid (by rw [dustsL_len]; omega)
      clear hpe hat hq4
      generalize difM M q wi = dm at *
      obtain ⟨w3, rfl⟩ : ∃ w3 : World, w3 = wr := ⟨_, rfl⟩
      go_upto_region 5 with (first
        | (refine wpList_load_mid rfl 37 (.tmp 18) rfl b (o + i * 64) rfl (cellsP q) _ HRg.out Tryd.underlying37 rfl (by rw [szPrint, H64.out]) ?_)
        | (rw [z64_Z]; refine wpList_store_row rfl 37 (.tmp 8) (.tmp 19) rfl w3.heap.size (arr .i16 q) rfl rfl 37 (arr .i16 Z64) (al1_0 _ _) (by rw [szPrint, hszQ]) (by rw [hszQ, arr_size, Z64_length]) (arr_one _ _) ?_))
      have HRow := Lib.hid (setRow_heap (w3.alloc (.cells (arr .i16 Z64) 37)) w3.heap.size _ (arr .i16 q) 37 (0, 0) (al1_0 _ _))
      have hb4 := below_setRow (bl1 w3 (.cells (arr .i16 Z64) 37)) (Nat.le_refl _) (arr .i16 q)
      have HR4 := Lib.hid (row_below HR.out hb4)
      have HG4 := Lib.hid (heap_below hb4 (lt_of_heap HG.out) HG.out)
      have HB4 := Lib.hid (bt HV.out hb4)
      clear hb4 HR HG HRg HV
      generalize (w3.alloc (.cells (arr .i16 Z64) 37)).setRow w3.heap.size (arr .i16 q) = w4 at *
      generalize w3.heap.size = g8 at *
      go_wp2_with (first
        | (refine wpList_load_row rfl 37 (.tmp 6) rfl _ rfl _ _ _ _ HG4.out Tryd.underlying37 rfl (by rw [szPrint, hszM]) ?_)
        | (refine wpList_load_row rfl 37 (.tmp 8) rfl _ rfl _ _ _ _ HRow.out Tryd.underlying37 rfl (by rw [szPrint, hszQ]) ?_))
      refine (HD.out _).mono ?_
      rintro e w5 ⟨rfl, hb5⟩
      have HR5 := Lib.hid (row_below HR4.out hb5)
      have HG5 := Lib.hid (heap_below hb5 (lt_of_heap HG4.out) HG4.out)
      have HG5l := Lib.hid (lt_of_heap HG5.out)
      have HB5 := Lib.hid (bt HB4.out hb5)
      clear hb5 HR4 HG4 HB4 HRow
      go_wp2_with (at_builtin; refine wpList_appAt rfl (.tmp 27) (.tmp 29) 29 rfl w.heap.size 24 .u64 8 Tryd.underlying29 info_u64 (by decide) _ _ rfl (row_alloc HR5.out _) _ 1 (dm : Int) rfl (by simp) HL8.out (by have := HB5.out.size; simp at this ⊢; omega) ?_; intro v1 w6 hrow hgr hbk hat; have HRn := Lib.hid hrow; have HGr := Lib.hid hgr; have HBk := Lib.hid hbk; have HAtt := Lib.hid hat; clear hrow hgr hbk hat)
      go_roundw
      case rel => exact ⟨i + 1, by omega, by go_num, by rw [HTk.out]; exact HRn.out,
        by
          rcases HAtt.out with h | h
          · rw [h]; exact HO.out
          · rw [h]; intro e; have h1 := HG5l.out; simp at e h1; omega,
        (HGr.out.block g6 (by have h1 := HG5l.out; simp at h1 ⊢; omega) (by intro e; exact HO.out e.symm)).trans (heap_below (bl1 w5 _) HG5l.out HG5.out),
        below_app (HB5.out.alloc HB5.out.size _) HGr.out (Nat.le_refl _) HBk.out⟩
      case measure => simp [intOf]; omega
    · have hin' : i = n := by omega
      subst hin'
      go_wp2
      go_ret
      exact ⟨_, rfl, HR.out, HV.out⟩
end Go.Proofs.YtdmlefccajaniaaDoor
namespace Go.Proofs.YtdmlefccajaniaaDoor
open Go.RowKit Go.Lib
theorem cpV_and (l : List (List Int)) (a b : Bool) : cpV l (a && b) = if cpV l a = 0 then (if b then 0 else 2) else cpV l a := by
  unfold cpV
  cases okL l <;> cases inC l.length <;> cases a <;> cases b <;> rfl
theorem cpV_false_ne (l : List (List Int)) : (cpV l false != 0) = true := by
  unfold cpV
  cases okL l <;> cases inC l.length <;> rfl
def inX (l : List (List Int)) (x : Int) : Bool := decide (0 ≤ x) && decide (x < l.length)
def diV (l : List (List Int)) (x wi : Int) : Nat × Int := if cpV l (dnB wi) = 0 then (if inX l x then (difM (medP l) (l.getD x.toNat []) wi, 0) else (0, 2)) else (0, cpV l (dnB wi))
set_option maxHeartbeats 1000000 in
set_option maxRecDepth 100000 in
theorem implDustIn_c (p : Option Addr) (n c : Nat) (l : List (List Int)) (hl : Prs l) (hn : n = l.length) (hm : n ≤ 1048576) (x wi : Int) (w : World) (hp : PS w p l) :
    Calls Tryd.prog 32 #[.slice p n c, .int .i64 x, .int .i64 wi] w fun e w' => e = .returned (.tuple #[.int .u64 ((diV l x wi).1 : Nat), .int .i64 (diV l x wi).2]) ∧ Below w.heap.size w w' := by
  have HN := Lib.hid hn
  have HA := Lib.hid hp
  have HP := Lib.hid hl
  clear hn hp hl
  by_cases hf : (dnB wi && inX l x) = true
  · obtain ⟨hd, hx⟩ : dnB wi = true ∧ inX l x = true := by simpa using hf
    obtain ⟨x0, x1⟩ : 0 ≤ x ∧ x < l.length := by simpa [inX] using hx
    obtain ⟨i, rfl⟩ := Int.eq_ofNat_of_zero_le x0
    have hin : i < n := by rw [HN.out]; omega
    have hii : (i : Int) < n := by omega
    have HD := Lib.hid hd
    have HX := Lib.hid hx
    clear hf x0 x1
    by_cases hc : cpV l true = 0
    · obtain ⟨hok, h1, h2, _⟩ := cpV_zero hc
      have HV : Hid (diV l i wi = (difM (medP l) (l.getD i []) wi, 0)) := Lib.hid (by simp [diV, hd, hc, hx])
      have HC := Lib.hid hc
      have HOK := Lib.hid hok
      have n1 : 1 ≤ n := by rw [HN.out]; exact h1
      have n8 : n ≤ 8 := by rw [HN.out]; exact h2
      have HG : Hid ((dustsL l wi n).getD i 0 = ((difM (medP l) (l.getD i []) wi : Nat) : Int)) := Lib.hid (dustsL_get l wi n i hin)
      generalize difM (medP l) (l.getD i []) wi = dm at *
      clear hd hx hc hok
      go_enter Tryd.func32, Tryd.ntmps32
      go_wp2_with (first
        | (go_at_call 62; refine (isDensity_c _ _).mono ?_; rintro e w' ⟨rfl, rfl⟩; rw [HD.out])
        | (go_at_call 68; refine (length_c _ _ _ _ hm).mono ?_; rintro e w' ⟨rfl, rfl⟩))
      refine (copiesCode_c p n c l HP.out HN.out hm true _ HA.out).mono ?_
      rintro e w1 ⟨rfl, hb1⟩
      rw [HC.out]
      have HB := Lib.hid hb1
      clear hb1
      go_wp2_with fail
      refine (implDusts_c p n c l HP.out HN.out n8 (by omega) HOK.out wi HD.out _ (PS_below HB.out HA.out)).mono ?_
      rintro e w2 ⟨v, rfl, hR, hb2⟩
      obtain ⟨g, cap, rfl, hg1, hg2, hcap, hcm, hcl⟩ := row_shape hR (by intro e; have := dustsL_len l wi n; rw [e] at this; simp at this; omega)
      have hci : w2.cell? ⟨g, i, none⟩ = some (.int .u64 (dm : Int)) := by rw [hcl i (by rw [dustsL_len]; exact hin), HG.out]
      rw [dustsL_len]
      have HB2 := Lib.hid (bt HB.out hb2)
      clear hb2 hR hcl hg1 hg2 hcap hcm
      go_wp2
      go_ret2
      exact ⟨by rw [HV.out] <;> rfl, HB2.out⟩
    · have HV : Hid (diV l i wi = (0, cpV l true)) := Lib.hid (by simp [diV, hd, hc])
      have hne : (cpV l true != 0) = true := by simpa using hc
      have HZ : Hid (∀ w, PS w p l → Calls Tryd.prog 58 #[.slice p n c, .bool true] w fun e w' => e = .returned (.int .i64 (cpV l true)) ∧ Below w.heap.size w w') := Lib.hid fun w hp => copiesCode_c p n c l HP.out HN.out hm true w hp
      generalize cpV l true = cc at *
      clear hd hx
      go_enter Tryd.func32, Tryd.ntmps32
      go_wp2_with (first
        | (go_at_call 62; refine (isDensity_c _ _).mono ?_; rintro e w' ⟨rfl, rfl⟩; rw [HD.out])
        | (go_at_call 68; refine (length_c _ _ _ _ hm).mono ?_; rintro e w' ⟨rfl, rfl⟩))
      refine (HZ.out _ HA.out).mono ?_
      rintro e w1 ⟨rfl, hb1⟩
      have HB := Lib.hid hb1
      clear hb1 HZ
      go_wp2
      go_ret2
      exact ⟨by rw [HV.out] <;> rfl, HB.out⟩
  · have hff : (dnB wi && inX l x) = false := by simpa using hf
    have HV : Hid (diV l x wi = (0, cpV l false)) := Lib.hid (by
      have h1 := cpV_and l (dnB wi) (inX l x)
      rw [hff] at h1
      rw [h1, diV]
      cases hd : dnB wi
      · have := cpV_false_ne l
        rw [if_neg (by simpa using this)]
        rw [if_neg (by simpa using this)]
      · have hx : inX l x = false := by rw [hd] at hff; simpa using hff
        rw [hx]; split <;> simp)
    have hne := cpV_false_ne l
    have HZ : Hid (∀ w, PS w p l → Calls Tryd.prog 58 #[.slice p n c, .bool false] w fun e w' => e = .returned (.int .i64 (cpV l false)) ∧ Below w.heap.size w w') := Lib.hid fun w hp => copiesCode_c p n c l HP.out HN.out hm false w hp
    generalize cpV l false = cc at *
    have h3 : dnB wi = false ∨ (dnB wi = true ∧ ¬ 0 ≤ x) ∨ (dnB wi = true ∧ 0 ≤ x ∧ ¬ x < (n : Int)) := by
      cases hd : dnB wi
      · exact Or.inl rfl
      · rw [hd] at hff
        simp only [Bool.true_and, inX, Bool.and_eq_false_iff, decide_eq_false_iff_not, ← HN.out] at hff
        by_cases h0 : 0 ≤ x
        · exact Or.inr (Or.inr ⟨rfl, h0, by rcases hff with h | h; exact absurd h0 h; exact h⟩)
        · exact Or.inr (Or.inl ⟨rfl, h0⟩)
    clear hf hff
    rcases h3 with hd | ⟨hd, hx⟩ | ⟨hd, hx, hx2⟩
    · have HD := Lib.hid hd
      clear hd
      go_enter Tryd.func32, Tryd.ntmps32
      go_wp2_with (first
        | (go_at_call 62; refine (isDensity_c _ _).mono ?_; rintro e w' ⟨rfl, rfl⟩; rw [HD.out])
        | (go_at_call 68; refine (length_c _ _ _ _ hm).mono ?_; rintro e w' ⟨rfl, rfl⟩))
      refine (HZ.out _ HA.out).mono ?_
      rintro e w1 ⟨rfl, hb1⟩
      have HB := Lib.hid hb1
      clear hb1 HZ
      go_wp2
      go_ret2
      exact ⟨by rw [HV.out] <;> rfl, HB.out⟩
    · have HD := Lib.hid hd
      clear hd
      have hxd : decide (0 ≤ x) = false := by simpa using hx
      go_enter Tryd.func32, Tryd.ntmps32
      go_wp2_with (first
        | (go_at_call 62; refine (isDensity_c _ _).mono ?_; rintro e w' ⟨rfl, rfl⟩; rw [HD.out])
        | (go_at_call 68; refine (length_c _ _ _ _ hm).mono ?_; rintro e w' ⟨rfl, rfl⟩))
      refine (HZ.out _ HA.out).mono ?_
      rintro e w1 ⟨rfl, hb1⟩
      have HB := Lib.hid hb1
      clear hb1 HZ
      go_wp2
      go_ret2
      exact ⟨by rw [HV.out] <;> rfl, HB.out⟩
    · have HD := Lib.hid hd
      clear hd
      have hxd : decide (0 ≤ x) = true := by simpa using hx
      have hxe : decide (x < (n : Int)) = false := by simpa using hx2
      go_enter Tryd.func32, Tryd.ntmps32
      go_wp2_with (first
        | (go_at_call 62; refine (isDensity_c _ _).mono ?_; rintro e w' ⟨rfl, rfl⟩; rw [HD.out])
        | (go_at_call 68; refine (length_c _ _ _ _ hm).mono ?_; rintro e w' ⟨rfl, rfl⟩))
      refine (HZ.out _ HA.out).mono ?_
      rintro e w1 ⟨rfl, hb1⟩
      have HB := Lib.hid hb1
      clear hb1 HZ
      go_wp2
      go_ret2
      exact ⟨by rw [HV.out] <;> rfl, HB.out⟩
end Go.Proofs.YtdmlefccajaniaaDoor
