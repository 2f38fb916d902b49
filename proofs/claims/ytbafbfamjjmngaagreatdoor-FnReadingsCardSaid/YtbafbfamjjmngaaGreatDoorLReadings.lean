/- FnReadings: the walk of the law. -/
import Derived.Test.YtbafbfamjjmngaaGreatDoorReadQ
import Derived.Test.YtbafbfamjjmngaaGreatDoorDrawn
import Derived.Test.YtbafbfamjjmngaaGreatDoorSet
import Derived.Test.YtbafbfamjjmngaaGreatDoorEqArr
import Derived.Test.YtbafbfamjjmngaaGreatDoorArgB
import Derived.Deep.DeepCutAuto
namespace Go.Proofs.YtbafbfamjjmngaaGreatDoor
open Go.RowKit Go.Lib
theorem bst2R {w0 w w2 : World} (h : Below w0.heap.size w0 w) (k : Below w0.heap.size w0 w2) (a b : Value) : Below w0.heap.size w0 ((w.setCell ⟨w2.heap.size, 0, none⟩ a).setCell ⟨w2.heap.size, 1, none⟩ b) := below2 h k.size a b
theorem absR (a b wi : Int) : (if a - b < 0 then -(a - b) else a - b) ≤ wi ↔ a - b ≤ wi ∧ b - a ≤ wi := by split <;> omega
set_option maxHeartbeats 8000000 in
set_option maxRecDepth 100000 in
theorem lawReadings_c (v1 : Value) (n1 : Nat) (v2 : Value) (n2 : Nat) (w : World) (h1 : Bytes w v1 n1) (h2 : Bytes w v2 n2) (hE : EV w) :
    Calls Tryz.prog 3 #[v1, v2] w fun e w' => e = .returned (.bool true) ∧ Below w.heap.size w w' := by
  obtain ⟨p1, c1, e1, -, -⟩ := bytes_shape h1
  obtain ⟨p2, c2, e2, -, -⟩ := bytes_shape h2
  have H1 := Lib.hid h1
  have H2 := Lib.hid h2
  have HE := Lib.hid hE
  have CL : Hid (∀ w0 : World, Calls Tryz.prog 4 #[v1, v2] w0 fun e w' => e = .returned (.bool (decide (3000 < (n1 : Int)) || decide (3000 < (n2 : Int)))) ∧ w0 = w') := Lib.hid fun w0 => a2Long_c v1 v2 n1 n2 p1 p2 c1 c2 e1 e2 w0
  clear h1 h2 e1 e2 p1 c1 p2 c2 hE
  by_cases hl : (decide (3000 < (n1 : Int)) || decide (3000 < (n2 : Int))) = true
  · have HLong := Lib.hid hl
    clear hl
    go_enter Tryz.func3, Tryz.ntmps3
    go_wp2_with fail
    refine (CL.out _).mono ?_
    rintro e w' ⟨rfl, rfl⟩
    rw [HLong.out]
    go_wp2
    go_ret
    exact ⟨rfl, Below.refl _ _⟩
  have hl' : (decide (3000 < (n1 : Int)) || decide (3000 < (n2 : Int))) = false := by simpa using hl
  have HLong := Lib.hid hl'
  clear hl hl'
  go_enter Tryz.func3, Tryz.ntmps3
  refine wp_var fun Q0 HQ0 => ?_
  go_wp2_with fail
  refine (CL.out _).mono ?_
  rintro e w' ⟨rfl, rfl⟩
  rw [HLong.out]
  clear HLong CL
  go_wp2_with fail
  refine (a2Scene_c v1 n1 _ H1.out).mono ?_
  rintro e w1 ⟨xs, rfl, hl, hok, hB⟩
  have hs : Sc xs := sc_ok hl hok
  have HS := Lib.hid hs
  have HL := Lib.hid hl
  have HO := Lib.hid hok
  obtain ⟨lo, hi, me, wt, md, s, hF⟩ := rdf_of hs hok
  have HF := Lib.hid hF
  clear hl hok hs hF
  have K0 := Lib.hid (al1_0 w1 (.cells z24a 26))
  have K1 := Lib.hid (below_setRow (bl1 w1 (.cells z24a 26)) (Nat.le_refl _) (arr .i8 xs))
  go_wp2_with (first | (refine wpList_load_row rfl 26 (.tmp 5) rfl _ rfl _ _ _ _ FS.out Tryz.underlying26 rfl (by rw [szScene, arr_size, HL.out]) ?_) | (rw [z24a_eq]; refine wpList_store_row rfl 26 (.tmp 5) (.tmp 49) rfl _ _ rfl rfl _ _ K0.out (by rw [szScene, arr_size, HL.out]) (by rw [arr_size, HL.out]; rfl) (arr_one _ _) ?_; have FS : Hid (((w1.alloc (.cells z24a 26)).setRow w1.heap.size (arr .i8 xs)).heap[w1.heap.size]? = some (.cells (arr .i8 xs) 26 (0, 0))) := Lib.hid (setRow_heap _ _ _ _ _ _ K0.out); replace hB := bt hB K1.out; clear K0 K1; generalize (w1.alloc (.cells z24a 26)).setRow w1.heap.size (arr .i8 xs) = w2 at *; generalize w1.heap.size = gs at *))
  refine (HF.out.text _).mono ?_
  rintro e w3 ⟨rfl, hb⟩
  replace FS := Lib.hid (heap_below hb (lt_of_heap FS.out) FS.out)
  replace hB := bt hB hb
  clear hb
  go_wp2_with fail
  refine (HF.out.read _ (ev_keep HE.out hB)).mono ?_
  rintro e w4 ⟨rfl, hb⟩
  replace FS := Lib.hid (heap_below hb (lt_of_heap FS.out) FS.out)
  replace hB := bt hB hb
  clear hb
  have K0 := Lib.hid (al1_0 w4 (.cells z24a 26))
  have K1 := Lib.hid (below_setRow (bl1 w4 (.cells z24a 26)) (Nat.le_refl _) (arr .i8 xs))
  go_wp2_with (first | (refine wpList_load_row rfl 26 (.tmp 5) rfl _ rfl _ _ _ _ FS.out Tryz.underlying26 rfl (by rw [szScene, arr_size, HL.out]) ?_) | (rw [z24a_eq]; refine wpList_store_row rfl 26 (.tmp 6) (.tmp 54) rfl _ _ rfl rfl _ _ K0.out (by rw [szScene, arr_size, HL.out]) (by rw [arr_size, HL.out]; rfl) (arr_one _ _) ?_; replace FS := Lib.hid (heap_below K1.out (lt_of_heap FS.out) FS.out); have FR : Hid (((w4.alloc (.cells z24a 26)).setRow w4.heap.size (arr .i8 xs)).heap[w4.heap.size]? = some (.cells (arr .i8 xs) 26 (0, 0))) := Lib.hid (setRow_heap _ _ _ _ _ _ K0.out); replace hB := bt hB K1.out; clear K0 K1; generalize (w4.alloc (.cells z24a 26)).setRow w4.heap.size (arr .i8 xs) = w5 at *; generalize w4.heap.size = gr at *))
  refine (HF.out.rng _).mono ?_
  rintro e w6 ⟨rfl, hb⟩
  replace FS := Lib.hid (heap_below hb (lt_of_heap FS.out) FS.out)
  replace FR := Lib.hid (heap_below hb (lt_of_heap FR.out) FR.out)
  replace hB := bt hB hb
  clear hb
  go_wp2_with (first | (refine wpList_load_row rfl 26 (.tmp 5) rfl _ rfl _ _ _ _ FS.out Tryz.underlying26 rfl (by rw [szScene, arr_size, HL.out]) ?_))
  refine (HF.out.mean _).mono ?_
  rintro e w7 ⟨rfl, hb⟩
  replace FS := Lib.hid (heap_below hb (lt_of_heap FS.out) FS.out)
  replace FR := Lib.hid (heap_below hb (lt_of_heap FR.out) FR.out)
  replace hB := bt hB hb
  clear hb
  go_wp2_with (first | (refine wpList_load_row rfl 26 (.tmp 5) rfl _ rfl _ _ _ _ FS.out Tryz.underlying26 rfl (by rw [szScene, arr_size, HL.out]) ?_))
  refine (HF.out.wtI _).mono ?_
  rintro e w8 ⟨rfl, hb⟩
  replace FS := Lib.hid (heap_below hb (lt_of_heap FS.out) FS.out)
  replace FR := Lib.hid (heap_below hb (lt_of_heap FR.out) FR.out)
  replace hB := bt hB hb
  clear hb
  go_wp2_with (first | (refine wpList_load_row rfl 26 (.tmp 5) rfl _ rfl _ _ _ _ FS.out Tryz.underlying26 rfl (by rw [szScene, arr_size, HL.out]) ?_))
  refine (HF.out.med _).mono ?_
  rintro e w9 ⟨rfl, hb⟩
  replace FS := Lib.hid (heap_below hb (lt_of_heap FS.out) FS.out)
  replace FR := Lib.hid (heap_below hb (lt_of_heap FR.out) FR.out)
  replace hB := bt hB hb
  clear hb
  go_wp2_with (first | (refine wpList_load_row rfl 26 (.tmp 5) rfl _ rfl _ _ _ _ FS.out Tryz.underlying26 rfl (by rw [szScene, arr_size, HL.out]) ?_))
  refine (HF.out.wtS _).mono ?_
  rintro e w10 ⟨rfl, hb⟩
  replace FS := Lib.hid (heap_below hb (lt_of_heap FS.out) FS.out)
  replace FR := Lib.hid (heap_below hb (lt_of_heap FR.out) FR.out)
  replace hB := bt hB hb
  clear hb
  have d1 : ¬ me < lo := by have := HF.out.m1; omega
  have d2 : ¬ hi < me := by have := HF.out.m2; omega
  have d3 : ¬ wt < lo := by have := HF.out.w1; omega
  have d4 : ¬ hi < wt := by have := HF.out.w2; omega
  have d5 : (wt != wt) = false := by simp
  generalize hAS : arr .i8 xs = AS at *
  have HAS := Lib.hid hAS
  clear hAS
  have hsz : AS.size = 24 := by rw [← HAS.out, arr_size, HL.out]
  go_wp2_with (first
    | (show wpList _ _ _ (⟨some 85, _, _, _, _, _⟩ :: _) _ _; refine wpList_load_rowE (by rfl) 26 (.tmp 6) (by rfl) gr (by rfl) _ _ _ _ FR.out Tryz.underlying26 rfl (by rw [szScene, hsz]) ?_)
    | (show wpList _ _ _ (⟨some 86, _, _, _, _, _⟩ :: _) _ _; refine wpList_load_rowE (by rfl) 26 (.tmp 5) (by rfl) gs (by rfl) _ _ _ _ FS.out Tryz.underlying26 rfl (by rw [szScene, hsz]) ?_)
    | (show wpList _ _ _ (⟨some 90, _, _, _, _, _⟩ :: _) _ _; refine wpList_load_rowE (by rfl) 26 (.tmp 5) (by rfl) gs (by rfl) _ _ _ _ FS.out Tryz.underlying26 rfl (by rw [szScene, hsz]) ?_)
    | (show wpList _ _ _ (⟨some 87, _, _, _, _, _⟩ :: _) _ _; refine wpList_neq_scene (by rfl) (.tmp 85) (.tmp 86) _ (by rfl) xs AS HAS.out HL.out (by rfl) (by rfl) ?_))
  have HVal := Lib.hid HF.out.valid
  rw [HAS.out] at HVal
  refine (HVal.out _).mono ?_
  rintro e w11 ⟨rfl, hb⟩
  replace FS := Lib.hid (heap_below hb (lt_of_heap FS.out) FS.out)
  replace FR := Lib.hid (heap_below hb (lt_of_heap FR.out) FR.out)
  replace hB := bt hB hb
  clear hb HVal FR
  go_wp2_with fail
  clear d1 d2 d3 d4 d5
  rw [← HAS.out] at FS
  clear hsz HAS
  as_aux_lemma =>
    go_loop [19, 20, 21, 22] (fun a b c i => ∃ k : Nat, k ≤ 24 ∧ i = .int .i64 k ∧ a = .int .i64 (lessK xs md k : Nat) ∧ b = .int .i64 (sameK xs md k : Nat) ∧ c = .int .i64 (sumC one xs k)) (fun _ _ _ i => 24 - (intOf i).toNat)
    case atStart => exact ⟨0, by omega, rfl, rfl, rfl, rfl⟩
    case round =>
      obtain ⟨k, hk, rfl, rfl, rfl, rfl⟩ := hrel
      by_cases hlt : k < 24
      · have hk24 : (k : Int) < 24 := by omega
        have hc := arr_cell FS.out k (by rw [HL.out]; exact hlt)
        obtain ⟨b1, b2⟩ := HF.out.each k hlt
        have b3 := HF.out.b0
        have b4 := HF.out.b1
        have E1 : Hid (lessK xs md (k + 1) = if xs.getD k 0 < md then lessK xs md k + 1 else lessK xs md k) := Lib.hid rfl
        have E2 : Hid (sameK xs md (k + 1) = if xs.getD k 0 ≤ md then sameK xs md k + 1 else sameK xs md k) := Lib.hid rfl
        have E3 : Hid (sumC one xs (k + 1) = sumC one xs k + xs.getD k 0) := Lib.hid (sumOne_succ xs k)
        have l1 := lessK_le xs md k
        have l2 := sameK_le xs md k
        obtain ⟨l3, l4⟩ := sumOne_bd HO.out k
        generalize xs.getD k 0 = x at *
        generalize lessK xs md k = a at *
        generalize sameK xs md k = b at *
        generalize sumC one xs k = c at *
        have x1 : ¬ x < lo := by omega
        have x2 : ¬ hi < x := by omega
        have hcw : IntKind.i64.wrap (c + x) = c + x := Go.IntWalk.i64_in _ (by omega)
        by_cases c1 : x < md
        · have c2 : x ≤ md := by omega
          go_wp2
          go_round
          case rel => exact ⟨k + 1, by omega, by go_num, by rw [E1.out, if_pos c1]; go_num, by rw [E2.out, if_pos c2]; go_num, by rw [E3.out]⟩
          case measure => simp [intOf]; omega
        · by_cases c2 : x ≤ md
          · go_wp2
            go_round
            case rel => exact ⟨k + 1, by omega, by go_num, by rw [E1.out, if_neg c1], by rw [E2.out, if_pos c2]; go_num, by rw [E3.out]⟩
            case measure => simp [intOf]; omega
          · go_wp2
            go_round
            case rel => exact ⟨k + 1, by omega, by go_num, by rw [E1.out, if_neg c1], by rw [E2.out, if_neg c2], by rw [E3.out]⟩
            case measure => simp [intOf]; omega
      · have hke : k = 24 := by omega
        subst hke
        have t1 : ¬ (11 : Int) < (lessK xs md 24 : Nat) := by have := HF.out.less; omega
        have t2 : ¬ ((sameK xs md 24 : Nat) : Int) < 12 := by have := HF.out.same; omega
        have t3 := HF.out.sum
        have t4 : (me != me) = false := by simp
        have t5 : 0 ≤ me ∧ me ≤ 60 := by have := HF.out.m1; have := HF.out.m2; have := HF.out.b0; have := HF.out.b1; omega
        obtain ⟨t5, t6⟩ := t5
        have t7 := Go.IntWalk.i64_in me (by omega)
        generalize lessK xs md 24 = a at *
        generalize sameK xs md 24 = b at *
        generalize sumC one xs 24 = c at *
        clear hlt hk
        go_wp2_with fail
        clear t1 t2 t3 t4 t5 t6 t7
        as_aux_lemma =>
          refine (a2Field_c v2 n2 _ (bytes_keep H2.out hB)).mono ?_
          rintro e w12 ⟨f, rfl, f0, f1, hb⟩
          replace FS := Lib.hid (heap_below hb (lt_of_heap FS.out) FS.out)
          replace hB := bt hB hb
          clear hb
          obtain ⟨fm, fc, hFD⟩ := fdf_of HS.out HO.out f0 f1
          rw [← HF.out.elo, ← HF.out.ehi] at hFD
          have FD := Lib.hid hFD
          clear hFD f0 f1
          go_wp2_with (first | (refine wpList_load_row rfl 26 (.tmp 5) rfl _ rfl _ _ _ _ FS.out Tryz.underlying26 rfl (by rw [szScene, arr_size, HL.out]) ?_))
          refine (FD.out.I _).mono ?_
          rintro e w13 ⟨rfl, hb⟩
          replace FS := Lib.hid (heap_below hb (lt_of_heap FS.out) FS.out)
          replace hB := bt hB hb
          clear hb
          go_wp2_with (first | (refine wpList_load_row rfl 26 (.tmp 5) rfl _ rfl _ _ _ _ FS.out Tryz.underlying26 rfl (by rw [szScene, arr_size, HL.out]) ?_))
          refine (FD.out.S _).mono ?_
          rintro e w14 ⟨rfl, hb⟩
          replace FS := Lib.hid (heap_below hb (lt_of_heap FS.out) FS.out)
          replace hB := bt hB hb
          clear hb
          go_upto_region 31 with fail
          go_cut [223] from 195 to 222 (fun s wx => s = .bool false ∧ wx = w14)
          case first =>
            have s1 : (fc != fc) = false := by simp
            have s2 : (fm != fm) = false := by simp
            rcases FD.out.code with ⟨rfl, rfl⟩ | ⟨h0, rfl, h1, h2⟩
            · go_wp2_with fail
              go_meet
              exact ⟨rfl, rfl⟩
            · have h3 : (f != 0) = true := by simpa using h0
              have h4 : ¬ fm < lo := by omega
              have h5 : ¬ hi < fm := by omega
              clear h0 h1 h2
              go_wp2_with fail
              go_meet
              exact ⟨rfl, rfl⟩
          case rest =>
            obtain ⟨rfl, rfl⟩ := hcut
            clear FD
            as_aux_lemma =>
              obtain ⟨qa, qa0, qa1, hat⟩ := a2At_c v2 n2 w H2.out 0 (by omega) 12 (by omega) (by omega)
              have AT0 := Lib.hid hat
              clear hat
              go_wp2_with fail
              refine (AT0.out _ hB).mono ?_
              rintro e w9 ⟨rfl, rfl⟩
              clear AT0
              obtain ⟨qb, qb0, qb1, hat⟩ := a2At_c v2 n2 w H2.out 1 (by omega) 12 (by omega) (by omega)
              have AT1 := Lib.hid hat
              clear hat
              go_wp2_with fail
              refine (AT1.out _ hB).mono ?_
              rintro e w9 ⟨rfl, rfl⟩
              clear AT1
              obtain ⟨x, y, hCN⟩ := cnf_of HS.out HO.out qa0 qa1 qb0 qb1
              rw [← HF.out.elo, ← HF.out.ehi] at hCN
              have CN := Lib.hid hCN
              have hqw : IntKind.i64.wrap (qa + 1) = qa + 1 := Go.IntWalk.i64_in _ (by omega)
              clear hCN qb0 qb1
              go_wp2_with (first | (refine wpList_load_row rfl 26 (.tmp 5) rfl _ rfl _ _ _ _ FS.out Tryz.underlying26 rfl (by rw [szScene, arr_size, HL.out]) ?_))
              refine (CN.out.c1 _).mono ?_
              rintro e w15 ⟨rfl, hb⟩
              replace FS := Lib.hid (heap_below hb (lt_of_heap FS.out) FS.out)
              replace hB := bt hB hb
              clear hb
              go_wp2_with (first | (refine wpList_load_row rfl 26 (.tmp 5) rfl _ rfl _ _ _ _ FS.out Tryz.underlying26 rfl (by rw [szScene, arr_size, HL.out]) ?_))
              refine (CN.out.c2 _).mono ?_
              rintro e w16 ⟨rfl, hb⟩
              replace FS := Lib.hid (heap_below hb (lt_of_heap FS.out) FS.out)
              replace hB := bt hB hb
              clear hb
              go_wp2_with (first | (refine wpList_load_row rfl 26 (.tmp 5) rfl _ rfl _ _ _ _ FS.out Tryz.underlying26 rfl (by rw [szScene, arr_size, HL.out]) ?_))
              refine (CN.out.c3 _).mono ?_
              rintro e w17 ⟨rfl, hb⟩
              replace FS := Lib.hid (heap_below hb (lt_of_heap FS.out) FS.out)
              replace hB := bt hB hb
              clear hb
              have k1 := CN.out.l1
              have k2 := CN.out.l2
              have k3 := CN.out.l3
              have k4 := HF.out.b0
              have k5 := HF.out.b1
              have k6 : lo ≤ hi := by have := HF.out.m1; have := HF.out.m2; omega
              clear CN hqw qa0 qa1
              have hdw : IntKind.i64.wrap (hi - lo) = hi - lo := Go.IntWalk.i64_in _ (by omega)
              have u1 : ((hi - lo) != (hi - lo)) = false := by simp
              have u2 : ¬ (hi - lo) < x := by omega
              have u3 : ¬ x < y := by omega
              have u4 : ¬ y < 0 := by omega
              go_wp2_with fail
              clear u1 u2 u3 u4 hdw k1 k2 k3 k4 k5 k6
              as_aux_lemma =>
                obtain ⟨wi, wi0, wi1, hat⟩ := a2At_c v2 n2 w H2.out 2 (by omega) 20 (by omega) (by omega)
                have AT := Lib.hid hat
                clear hat
                go_wp2_with fail
                refine (AT.out _ hB).mono ?_
                rintro e w9 ⟨rfl, rfl⟩
                clear AT
                have HAF := Lib.hid (afV_eq HO.out wi0 wi1)
                have HOKL := Lib.hid (al_ok xs wi 24 (Nat.le_refl 24))
                have HFull := Lib.hid (al_full xs wi)
                have hlen := alN_len xs wi
                obtain ⟨Ln, hLn⟩ : ∃ Ln, Ln = alN xs wi 24 := ⟨_, rfl⟩
                rw [← hLn] at HAF HOKL HFull hlen
                clear hLn
                obtain ⟨n, hn⟩ : ∃ n, n = Ln.length := ⟨_, rfl⟩
                rw [← hn] at hlen
                have HN := Lib.hid hn
                clear hn
                go_wp2_with (first | (refine wpList_load_row rfl 26 (.tmp 5) rfl _ rfl _ _ _ _ FS.out Tryz.underlying26 rfl (by rw [szScene, arr_size, HL.out]) ?_))
                refine (implAF_c xs HS.out wi _).mono ?_
                rw [HAF.out]
                rintro e w18 ⟨v, rfl, hR, hb⟩
                obtain ⟨pI, cI, hv, hP⟩ := PB_u32_row hR
                rw [natI_len, ← HN.out] at hv
                subst hv
                replace FS := Lib.hid (heap_below hb (lt_of_heap FS.out) FS.out)
                have PI := Lib.hid hP
                replace hB := bt hB hb
                clear hb hP hR
                go_wp2_with (first | (refine wpList_load_row rfl 26 (.tmp 5) rfl _ rfl _ _ _ _ FS.out Tryz.underlying26 rfl (by rw [szScene, arr_size, HL.out]) ?_))
                refine (specAF_c xs HS.out wi _).mono ?_
                rw [HAF.out]
                rintro e w19 ⟨v, rfl, hR, hb⟩
                obtain ⟨pS, cS, hv, hP⟩ := PB_u32_row hR
                rw [natI_len, ← HN.out] at hv
                subst hv
                replace FS := Lib.hid (heap_below hb (lt_of_heap FS.out) FS.out)
                replace PI := Lib.hid (PB_u32_keepR hb PI.out)
                have PS := Lib.hid hP
                replace hB := bt hB hb
                clear hb hP hR
                go_upto_region 43 with fail
                go_wp2_with fail
                refine (sameFields_c (natI Ln) pI pS n cI cS (by rw [natI_len, HN.out]) (by omega) _ _ _ PI.out PS.out).mono ?_
                rintro e w20 ⟨rfl, hb⟩
                replace FS := Lib.hid (heap_below hb (lt_of_heap FS.out) FS.out)
                replace PI := Lib.hid (PB_u32_keepR hb PI.out)
                replace PS := Lib.hid (PB_u32_keepR hb PS.out)
                replace hB := bt hB hb
                clear hb PI HAF
                go_wp2_with fail
                as_aux_lemma =>
                  go_loopw [42, 43, 44] (fun sn i _ wr => ∃ k : Nat, k ≤ n ∧ i = .int .i64 k ∧ sn = .int .u32 (orN (Ln.take k) : Nat) ∧ wr.heap[gs]? = some (.cells (arr .i8 xs) 26 (0, 0)) ∧ PB_u32 wr wr.heap.size pS (natI Ln) ∧ Below w.heap.size w wr) (fun _ i _ _ => n - (intOf i).toNat)
                  case atStart => exact ⟨0, Nat.zero_le _, rfl, rfl, FS.out, PS.out, hB⟩
                  case round =>
                    clear FS PS hB
                    obtain ⟨i, hi0, rfl, rfl, hS1, hP1, hB⟩ := hrel
                    have FS := Lib.hid hS1
                    have PS := Lib.hid hP1
                    clear hS1 hP1
                    generalize wr = w40 at *
                    have hor : orN (Ln.take i) < 2 ^ 24 := orN_lt HOKL.out i (by rw [← HN.out]; exact hi0)
                    by_cases hlt : i < n
                    · have hiL : i < Ln.length := by rw [← HN.out]; exact hlt
                      have hin : (i : Int) < n := by omega
                      obtain ⟨b, o, rfl, hbb, hcl⟩ := PS.out (neL_of_lt_u32 (k := i) (by rw [natI_len]; exact hiL))
                      have hci := hcl i (by rw [natI_len]; exact hiL)
                      rw [natI_get Ln i hiL] at hci
                      have a1 := HOKL.out.ne i hiL
                      have a2 := HOKL.out.lt i hiL
                      have a3 := HOKL.out.apart i hiL
                      have HSUC := Lib.hid (orN_succ hiL)
                      have HB : Hid (∀ j c, (Ln.getD i 0).testBit j = true → c < 24 → alk xs wi j c = true → (Ln.getD i 0).testBit c = true) := Lib.hid (HOKL.out.closed i hiL)
                      have HRt := Lib.hid (fun (k : Nat) (hb : (Ln.getD i 0).testBit k = true) (h5 : k % 6 < 5) (hk : k < 24) h1 h2 => al_right HOKL.out hiL hb h5 hk h1 h2)
                      have HDn := Lib.hid (fun (k : Nat) (hb : (Ln.getD i 0).testBit k = true) (h5 : k < 18) h1 h2 => al_down HOKL.out hiL hb h5 h1 h2)
                      generalize Ln.getD i 0 = M at *
                      generalize orN (Ln.take i) = T at *
                      have hM0 : ((M : Int) == 0) = false := by simp; omega
                      have hand : bits .and .u32 (T : Int) (M : Int) = 0 := by rw [and32 T M (by omega) (by omega), a3]; rfl
                      have hor2 : bits .or .u32 (T : Int) (M : Int) = ((T ||| M : Nat) : Int) := or32 T M (by omega) (by omega)
                      clear a1 a3 hcl
                      go_wp2_with fail
                      clear hM0 hand hor2 hbb
                      as_aux_lemma =>
                        have HCI := Lib.hid hci
                        clear hci
                        go_loopw [44] (fun kv wr => ∃ k q : Nat, k ≤ 24 ∧ kv = .int .i64 k ∧ wr = w40.drewN q) (fun kv _ => 24 - (intOf kv).toNat)
                        case atStart => exact ⟨0, 0, by omega, rfl, rfl⟩
                        case round =>
                          obtain ⟨k, q, hk, rfl, hW⟩ := hrel
                          have HW := Lib.hid hW
                          have hci : wr.cell? ⟨b, o + i, none⟩ = some (.int .u32 (M : Nat)) := by rw [hW, World.cell?_drewN]; exact HCI.out
                          clear hW
                          by_cases hlt3 : k < 24
                          · have hk24 : (k : Int) < 24 := by omega
                            have hkw : IntKind.u64.wrap (k : Int) = (k : Int) := by rw [IntKind.wrap_u64]; omega
                            have hbit := bit32 M k a2
                            by_cases hb : M.testBit k = true
                            · rw [hb] at hbit
                              simp only [if_true] at hbit
                              have hS : wr.heap[gs]? = some (.cells (arr .i8 xs) 26 (0, 0)) := by rw [HW.out]; exact heap_below (bl_drewN (Below.refl _ w40) q) (lt_of_heap FS.out) FS.out
                              have hck := arr_cell hS k (by rw [HL.out]; exact hlt3)
                              have hxb := okS_get HO.out k
                              have hxt : Int.tmod (k : Int) 6 = (k : Int) % 6 := Int.tmod_eq_emod_of_nonneg (by omega)
                              have HR1 := Lib.hid (fun h5 h1 h2 => HRt.out k hb h5 hlt3 h1 h2)
                              have HD1 := Lib.hid (fun h5 h1 h2 => HDn.out k hb h5 h1 h2)
                              have hk1w : IntKind.i64.wrap ((k : Int) + 1) = (k : Int) + 1 := Go.IntWalk.i64_in _ (by omega)
                              have hk6w : IntKind.i64.wrap ((k : Int) + 6) = (k : Int) + 6 := Go.IntWalk.i64_in _ (by omega)
                              have hk1u : IntKind.u64.wrap ((k : Int) + 1) = (k : Int) + 1 := by rw [IntKind.wrap_u64]; omega
                              have hk6u : IntKind.u64.wrap ((k : Int) + 6) = (k : Int) + 6 := by rw [IntKind.wrap_u64]; omega
                              go_upto_region 56 with fail
                              clear hbit hb HRt HDn
                              obtain ⟨x, hx⟩ : ∃ x, x = xs.getD k 0 := ⟨_, rfl⟩
                              rw [← hx] at hck hxb HR1 HD1
                              clear hx
                              as_aux_lemma =>
                                have RST : ∀ nq : Nat, ∃ k' q' : Nat, k' ≤ 24 ∧ Value.int .i64 ((k : Int) + 1) = .int .i64 k' ∧ wr.drewN nq = w40.drewN q' := fun nq => ⟨k + 1, q + nq, by omega, by go_num, by rw [HW.out, World.drewN_drewN]⟩
                                have HRST := Lib.hid RST
                                clear RST
                                by_cases h5 : k % 6 < 5
                                · skip
                                  have hcA := arr_cell hS (k + 1) (by rw [HL.out]; omega)
                                  obtain ⟨yA, hyA⟩ : ∃ y, y = xs.getD (k + 1) 0 := ⟨_, rfl⟩
                                  have hybA := okS_get HO.out (k + 1)
                                  rw [← hyA] at hcA hybA HR1
                                  have hdAw : IntKind.i64.wrap (x - yA) = x - yA := Go.IntWalk.i64_in _ (by omega)
                                  obtain ⟨mA, hmA⟩ : ∃ m, m = (if x - yA < 0 then -(x - yA) else x - yA) := ⟨_, rfl⟩
                                  have CA := Lib.hid (fun w => a2Size_c (x - yA) (by omega) w)
                                  rw [← hmA] at CA
                                  have hleA : mA ≤ wi ↔ x - yA ≤ wi ∧ yA - x ≤ wi := by rw [hmA]; exact absR _ _ _
                                  clear hyA hmA
                                  have hbtA := bit32 M (k + 1) a2
                                  by_cases hA : mA ≤ wi
                                  · have g1 : decide ((k : Int) % 6 < 5) = true := decide_eq_true (by omega)
                                    have i1 : (k : Int) + 1 < 24 := by omega
                                    have g2 : decide (mA ≤ wi) = true := decide_eq_true hA
                                    rw [HR1.out (by omega) (hleA.1 hA).1 (hleA.1 hA).2] at hbtA
                                    simp only [if_true] at hbtA
                                    by_cases h18 : k < 18
                                    · skip
                                      have hcB := arr_cell hS (k + 6) (by rw [HL.out]; omega)
                                      obtain ⟨yB, hyB⟩ : ∃ y, y = xs.getD (k + 6) 0 := ⟨_, rfl⟩
                                      have hybB := okS_get HO.out (k + 6)
                                      rw [← hyB] at hcB hybB HD1
                                      have hdBw : IntKind.i64.wrap (x - yB) = x - yB := Go.IntWalk.i64_in _ (by omega)
                                      obtain ⟨mB, hmB⟩ : ∃ m, m = (if x - yB < 0 then -(x - yB) else x - yB) := ⟨_, rfl⟩
                                      have CB := Lib.hid (fun w => a2Size_c (x - yB) (by omega) w)
                                      rw [← hmB] at CB
                                      have hleB : mB ≤ wi ↔ x - yB ≤ wi ∧ yB - x ≤ wi := by rw [hmB]; exact absR _ _ _
                                      clear hyB hmB
                                      have hbtB := bit32 M (k + 6) a2
                                      by_cases hBb : mB ≤ wi
                                      · have g3 : decide ((k : Int) < 18) = true := decide_eq_true (by omega)
                                        have i2 : (k : Int) + 6 < 24 := by omega
                                        have g4 : decide (mB ≤ wi) = true := decide_eq_true hBb
                                        rw [HD1.out (by omega) (hleB.1 hBb).1 (hleB.1 hBb).2] at hbtB
                                        simp only [if_true] at hbtB
                                        clear hS HR1 HD1 HB HSUC hleA hleB
                                        go_quiet (first | (go_at_call 22; exact quiet_c (CA.out _)) | (go_at_call 22; exact quiet_c (CB.out _)))
                                        go_wp2
                                        go_roundw
                                        case rel => exact HRST.out _
                                        case measure => simp [intOf]; omega
                                      · have g3 : decide ((k : Int) < 18) = true := decide_eq_true (by omega)
                                        have i2 : (k : Int) + 6 < 24 := by omega
                                        have g4 : decide (mB ≤ wi) = false := decide_eq_false hBb
                                        clear hbtB
                                        clear hS HR1 HD1 HB HSUC hleA hleB
                                        go_quiet (first | (go_at_call 22; exact quiet_c (CA.out _)) | (go_at_call 22; exact quiet_c (CB.out _)))
                                        go_wp2
                                        go_roundw
                                        case rel => exact HRST.out _
                                        case measure => simp [intOf]; omega
                                    · have g3 : decide ((k : Int) < 18) = false := decide_eq_false (by omega)
                                      clear hS HR1 HD1 HB HSUC hleA
                                      go_quiet ((go_at_call 22; exact quiet_c (CA.out _)))
                                      go_wp2
                                      go_roundw
                                      case rel => exact HRST.out _
                                      case measure => simp [intOf]; omega
                                  · have g1 : decide ((k : Int) % 6 < 5) = true := decide_eq_true (by omega)
                                    have i1 : (k : Int) + 1 < 24 := by omega
                                    have g2 : decide (mA ≤ wi) = false := decide_eq_false hA
                                    clear hbtA
                                    by_cases h18 : k < 18
                                    · skip
                                      have hcB := arr_cell hS (k + 6) (by rw [HL.out]; omega)
                                      obtain ⟨yB, hyB⟩ : ∃ y, y = xs.getD (k + 6) 0 := ⟨_, rfl⟩
                                      have hybB := okS_get HO.out (k + 6)
                                      rw [← hyB] at hcB hybB HD1
                                      have hdBw : IntKind.i64.wrap (x - yB) = x - yB := Go.IntWalk.i64_in _ (by omega)
                                      obtain ⟨mB, hmB⟩ : ∃ m, m = (if x - yB < 0 then -(x - yB) else x - yB) := ⟨_, rfl⟩
                                      have CB := Lib.hid (fun w => a2Size_c (x - yB) (by omega) w)
                                      rw [← hmB] at CB
                                      have hleB : mB ≤ wi ↔ x - yB ≤ wi ∧ yB - x ≤ wi := by rw [hmB]; exact absR _ _ _
                                      clear hyB hmB
                                      have hbtB := bit32 M (k + 6) a2
                                      by_cases hBb : mB ≤ wi
                                      · have g3 : decide ((k : Int) < 18) = true := decide_eq_true (by omega)
                                        have i2 : (k : Int) + 6 < 24 := by omega
                                        have g4 : decide (mB ≤ wi) = true := decide_eq_true hBb
                                        rw [HD1.out (by omega) (hleB.1 hBb).1 (hleB.1 hBb).2] at hbtB
                                        simp only [if_true] at hbtB
                                        clear hS HR1 HD1 HB HSUC hleA hleB
                                        go_quiet (first | (go_at_call 22; exact quiet_c (CA.out _)) | (go_at_call 22; exact quiet_c (CB.out _)))
                                        go_wp2
                                        go_roundw
                                        case rel => exact HRST.out _
                                        case measure => simp [intOf]; omega
                                      · have g3 : decide ((k : Int) < 18) = true := decide_eq_true (by omega)
                                        have i2 : (k : Int) + 6 < 24 := by omega
                                        have g4 : decide (mB ≤ wi) = false := decide_eq_false hBb
                                        clear hbtB
                                        clear hS HR1 HD1 HB HSUC hleA hleB
                                        go_quiet (first | (go_at_call 22; exact quiet_c (CA.out _)) | (go_at_call 22; exact quiet_c (CB.out _)))
                                        go_wp2
                                        go_roundw
                                        case rel => exact HRST.out _
                                        case measure => simp [intOf]; omega
                                    · have g3 : decide ((k : Int) < 18) = false := decide_eq_false (by omega)
                                      clear hS HR1 HD1 HB HSUC hleA
                                      go_quiet ((go_at_call 22; exact quiet_c (CA.out _)))
                                      go_wp2
                                      go_roundw
                                      case rel => exact HRST.out _
                                      case measure => simp [intOf]; omega
                                · have g1 : decide ((k : Int) % 6 < 5) = false := decide_eq_false (by omega)
                                  by_cases h18 : k < 18
                                  · skip
                                    have hcB := arr_cell hS (k + 6) (by rw [HL.out]; omega)
                                    obtain ⟨yB, hyB⟩ : ∃ y, y = xs.getD (k + 6) 0 := ⟨_, rfl⟩
                                    have hybB := okS_get HO.out (k + 6)
                                    rw [← hyB] at hcB hybB HD1
                                    have hdBw : IntKind.i64.wrap (x - yB) = x - yB := Go.IntWalk.i64_in _ (by omega)
                                    obtain ⟨mB, hmB⟩ : ∃ m, m = (if x - yB < 0 then -(x - yB) else x - yB) := ⟨_, rfl⟩
                                    have CB := Lib.hid (fun w => a2Size_c (x - yB) (by omega) w)
                                    rw [← hmB] at CB
                                    have hleB : mB ≤ wi ↔ x - yB ≤ wi ∧ yB - x ≤ wi := by rw [hmB]; exact absR _ _ _
                                    clear hyB hmB
                                    have hbtB := bit32 M (k + 6) a2
                                    by_cases hBb : mB ≤ wi
                                    · have g3 : decide ((k : Int) < 18) = true := decide_eq_true (by omega)
                                      have i2 : (k : Int) + 6 < 24 := by omega
                                      have g4 : decide (mB ≤ wi) = true := decide_eq_true hBb
                                      rw [HD1.out (by omega) (hleB.1 hBb).1 (hleB.1 hBb).2] at hbtB
                                      simp only [if_true] at hbtB
                                      clear hS HR1 HD1 HB HSUC hleB
                                      go_quiet ((go_at_call 22; exact quiet_c (CB.out _)))
                                      go_wp2
                                      go_roundw
                                      case rel => exact HRST.out _
                                      case measure => simp [intOf]; omega
                                    · have g3 : decide ((k : Int) < 18) = true := decide_eq_true (by omega)
                                      have i2 : (k : Int) + 6 < 24 := by omega
                                      have g4 : decide (mB ≤ wi) = false := decide_eq_false hBb
                                      clear hbtB
                                      clear hS HR1 HD1 HB HSUC hleB
                                      go_quiet ((go_at_call 22; exact quiet_c (CB.out _)))
                                      go_wp2
                                      go_roundw
                                      case rel => exact HRST.out _
                                      case measure => simp [intOf]; omega
                                  · have g3 : decide ((k : Int) < 18) = false := decide_eq_false (by omega)
                                    clear hS HR1 HD1 HB HSUC
                                    go_quiet (fail)
                                    go_wp2
                                    go_roundw
                                    case rel => exact HRST.out _
                                    case measure => simp [intOf]; omega
                            · have hb' : M.testBit k = false := by simpa using hb
                              rw [hb'] at hbit
                              simp only [Bool.false_eq_true, if_false] at hbit
                              clear hb hb'
                              go_wp2
                              go_roundw
                              case rel => exact ⟨k + 1, q, by omega, by go_num, HW.out⟩
                              case measure => simp [intOf]; omega
                          · have hke : k = 24 := by omega
                            subst hke
                            clear hlt3 hk
                            go_wp2
                            go_roundw
                            case rel => exact ⟨i + 1, by omega, by go_num, by rw [HSUC.out], by rw [HW.out]; exact heap_below (bl_drewN (Below.refl _ w40) q) (lt_of_heap FS.out) FS.out, by rw [HW.out]; exact PB_u32_keepR (bl_drewN (Below.refl _ w40) q) PS.out, by rw [HW.out]; exact bl_drewN hB q⟩
                            case measure => simp [intOf]; omega
                    · have hie : i = n := by omega
                      subst hie
                      have ho : orN (Ln.take i) = 16777215 := by rw [HN.out, List.take_length]; exact HFull.out
                      rw [ho]
                      clear hlt ho hor
                      go_wp2
                      first | (refine HQ0 _ _ _ ?_; go_ret) | go_ret
                      exact ⟨rfl, hB⟩
end Go.Proofs.YtbafbfamjjmngaaGreatDoor
