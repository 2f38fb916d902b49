/- SameSheet. -/
import Derived.Test.YtnbbbmnjbfehmaaVSheet
namespace Go.Proofs.Ytnbbbmnjbfehmaa
open Go.RowKit
def ssB (a : Int) (la : List (List Int)) (b : Int) (lb : List (List Int)) : Bool := decide (a = b) && decide (la = lb)
theorem take_eq_step {la lb : List (List Int)} {k : Nat} (h : la.take k = lb.take k) (ha : k < la.length) (hb : k < lb.length) (he : la.getD k [] = lb.getD k []) : la.take (k + 1) = lb.take (k + 1) := by
  rw [takeP_snoc la k ha, takeP_snoc lb k hb, h, he]
theorem take_eq_end {la lb : List (List Int)} {k : Nat} (h : la.take k = lb.take k) (ha : ¬ k < la.length) (hb : ¬ k < lb.length) : la = lb := by
  rwa [List.take_of_length_le (by omega), List.take_of_length_le (by omega)] at h
theorem ne_of_getD {la lb : List (List Int)} {k : Nat} (he : la.getD k [] ≠ lb.getD k []) : la ≠ lb := by rintro rfl; exact he rfl
theorem neqPrint (xs ys : List Int) (hx : Pr xs) (hy : Pr ys) (w : World) : Sem.run Try.prog (binOp .neq 45 (.agg (arr .i16 xs)) (.agg (arr .i16 ys))) w = .ok (.bool (!decide (xs = ys))) w :=
  run_neq_arr 45 39 64 .i16 xs ys Try.underlying45 Try.underlying39 szI16 hx.1 hy.1 w
theorem guardPrint (op : BinOp) (x y : Operand) (xs ys : Array Value) (w : World) : Sem.run Try.prog (eqGuard op 45 x y (.agg xs) (.agg ys)) w = .ok () w :=
  run_eqGuard_agg w op 45 x y xs ys (by kernel_rfl)
theorem szCells {p : List Int} (h : Pr p) : (Try.prog.info? 45).map (·.size) = some (cellsP p).length := by rw [szPrint, cellsP_length, h.1]
set_option maxHeartbeats 1000000 in
set_option maxRecDepth 100000 in
theorem equalP_c (p1 : Option Addr) (n1 c1 : Nat) (la : List (List Int)) (hla : Prs la) (hn1 : n1 = la.length) (p2 : Option Addr) (n2 c2 : Nat) (lb : List (List Int)) (hlb : Prs lb) (hn2 : n2 = lb.length) (hm1 : n1 ≤ 1048576) (hm2 : n2 ≤ 1048576) (w : World) (hp1 : PS w p1 la) (hp2 : PS w p2 lb) :
    Calls Try.prog 49 #[.slice p1 n1 c1, .slice p2 n2 c2] w fun e w' => e = .returned (.bool (decide (la = lb))) ∧ Below w.heap.size w w' := by
  have HN1 := Lib.hid hn1
  have HN2 := Lib.hid hn2
  have HA := Lib.hid hla
  have HB := Lib.hid hlb
  have HP1 := Lib.hid hp1
  have HP2 := Lib.hid hp2
  clear hn1 hn2 hla hlb hp1 hp2
  by_cases hnn : n1 = n2
  · obtain rfl : n2 = n1 := hnn.symm
    go_enter Try.func49, Try.ntmps49
    go_wp2
    go_loopw [13] (fun i wr => ∃ k : Nat, k ≤ n2 ∧ i = .int .i64 k ∧ la.take k = lb.take k ∧ Below w.heap.size w wr) (fun i _ => n2 - (intOf i).toNat)
    case atStart => exact ⟨0, Nat.zero_le _, rfl, rfl, Below.refl _ _⟩
    case round =>
      obtain ⟨k, hk, rfl, hok, hW⟩ := hrel
      have HW := Lib.hid hW
      have HK := Lib.hid hok
      clear hW hok
      by_cases hlt : k < n2
      · obtain ⟨b1, o1, rfl, hb1, hat1⟩ := HP1.out (ne_of_lt (k := k) (by have := HN1.out; omega))
        obtain ⟨b2, o2, rfl, hb2, hat2⟩ := HP2.out (ne_of_lt (k := k) (by have := HN2.out; omega))
        obtain ⟨qa, hea⟩ : ∃ q, q = la.getD k [] := ⟨_, rfl⟩
        obtain ⟨qb, heb⟩ : ∃ q, q = lb.getD k [] := ⟨_, rfl⟩
        have PA : Hid (Pr qa) := Lib.hid (by rw [hea]; exact HA.out k (by have := HN1.out; omega))
        have PB : Hid (Pr qb) := Lib.hid (by rw [heb]; exact HB.out k (by have := HN2.out; omega))
        have r1 : wr.drew.rangeAt b1 (o1 + k * 64) (cellsP qa) := by rw [hea]; exact rangeAt_below (bl_drew HW.out) hb1 (hat1 k (by have := HN1.out; omega))
        have r2 : wr.drew.rangeAt b2 (o2 + k * 64) (cellsP qb) := by rw [heb]; exact rangeAt_below (bl_drew HW.out) hb2 (hat2 k (by have := HN2.out; omega))
        have L1 : Sem.run Try.prog (Instr.loadAt 45 (.pointer (some ⟨b1, o1 + k * 64, none⟩))) wr.drew = .ok (.agg (arr .i16 qa)) wr.drew :=
          run_loadAt_mid _ _ _ _ _ _ r1 Try.underlying45 rfl (szCells PA.out)
        have L2 : Sem.run Try.prog (Instr.loadAt 45 (.pointer (some ⟨b2, o2 + k * 64, none⟩))) wr.drew = .ok (.agg (arr .i16 qb)) wr.drew :=
          run_loadAt_mid _ _ _ _ _ _ r2 Try.underlying45 rfl (szCells PB.out)
        have hgd := fun op x y w => guardPrint op x y (arr .i16 qa) (arr .i16 qb) w
        have hne := fun w => neqPrint qa qb PA.out PB.out w
        have HEA := Lib.hid hea
        have HEB := Lib.hid heb
        clear hea heb hat1 hat2 r1 r2
        have HL1 := Lib.hid L1
        have HL2 := Lib.hid L2
        clear L1 L2
        cases hd : decide (qa = qb)
        all_goals
          have HD := Lib.hid hd
          rw [hd] at hne
          clear hd
          go_upto_region 6 with fail
          refine wp_region_still_lit (by kernel_rfl) (by kernel_rfl) ?_
          still_step
          still_step
          still_step
          refine wpStill_load rfl _ _ rfl _ _ rfl HL1.out ?_
          still_step
          still_step
          still_step
          refine wpStill_load rfl _ _ rfl _ _ rfl HL2.out ?_
          still_step
          refine wpStill_nil ?_
          clear hgd hne
        · go_wp2
          go_ret
          exact ⟨ret_bool (decide_eq_false (ne_of_getD (k := k) (by rw [← HEA.out, ← HEB.out]; exact of_decide_eq_false HD.out))).symm, bl_drew HW.out⟩
        · go_wp2
          go_roundw
          case rel => exact ⟨k + 1, by omega, by go_num, take_eq_step HK.out (by have := HN1.out; omega) (by have := HN2.out; omega) (by rw [← HEA.out, ← HEB.out]; exact of_decide_eq_true HD.out), bl_drew HW.out⟩
          case measure => simp [intOf]; omega
      · have HE : Hid (la = lb) := Lib.hid (take_eq_end HK.out (by have := HN1.out; omega) (by have := HN2.out; omega))
        go_wp2
        go_ret
        exact ⟨ret_bool (decide_eq_true HE.out).symm, HW.out⟩
  · have HE : Hid (la ≠ lb) := Lib.hid (by rintro rfl; exact hnn (by rw [HN1.out, HN2.out]))
    have hd : ((n1 : Int) != n2) = true := by simp; omega
    go_enter Try.func49, Try.ntmps49
    go_wp2
    go_ret
    exact ⟨ret_bool (decide_eq_false HE.out).symm, Below.refl _ _⟩
set_option maxHeartbeats 400000 in
theorem implSameSheet_c (a : Int) (p1 : Option Addr) (n1 c1 : Nat) (la : List (List Int)) (hla : Prs la) (hn1 : n1 = la.length) (b : Int) (p2 : Option Addr) (n2 c2 : Nat) (lb : List (List Int)) (hlb : Prs lb) (hn2 : n2 = lb.length) (hm1 : n1 ≤ 1048576) (hm2 : n2 ≤ 1048576) (w : World) (hp1 : PS w p1 la) (hp2 : PS w p2 lb) :
    Calls Try.prog 17 #[.agg #[.int .i8 a, .slice p1 n1 c1], .agg #[.int .i8 b, .slice p2 n2 c2]] w fun e w' => e = .returned (.bool (ssB a la b lb)) ∧ Below w.heap.size w w' := by
  have HN1 := Lib.hid hn1
  have HN2 := Lib.hid hn2
  have HP1 := Lib.hid hp1
  have HP2 := Lib.hid hp2
  clear hn1 hn2 hp1 hp2
  by_cases hab : a = b
  · subst hab
    have HV : Hid (ssB a la a lb = decide (la = lb)) := Lib.hid (by simp [ssB])
    have hd : (a == a) = true := by simp
    go_enter Try.func17, Try.ntmps17
    go_wp2_with fail
    refine (equalP_c p1 n1 c1 la hla HN1.out p2 n2 c2 lb hlb HN2.out hm1 hm2 _ (PS_below (bl2 _ _ _) HP1.out) (PS_below (bl2 _ _ _) HP2.out)).mono ?_
    rintro e w1 ⟨rfl, hb1⟩
    rw [← HV.out]
    have hB := Lib.hid (bt (bl2 _ _ _) hb1)
    clear hb1
    go_wp2
    go_ret
    exact ⟨rfl, hB.out⟩
  · have HV : Hid (ssB a la b lb = false) := Lib.hid (by simp [ssB, hab])
    have hd : (a == b) = false := by simpa using hab
    clear hab
    go_enter Try.func17, Try.ntmps17
    go_wp2
    go_ret
    exact ⟨ret_bool HV.out.symm, bl2 _ _ _⟩
set_option maxHeartbeats 1000000 in
set_option maxRecDepth 100000 in
theorem specSameSheet_c (a : Int) (p1 : Option Addr) (n1 c1 : Nat) (la : List (List Int)) (hla : Prs la) (hn1 : n1 = la.length) (b : Int) (p2 : Option Addr) (n2 c2 : Nat) (lb : List (List Int)) (hlb : Prs lb) (hn2 : n2 = lb.length) (hm1 : n1 ≤ 1048576) (hm2 : n2 ≤ 1048576) (w : World) (hp1 : PS w p1 la) (hp2 : PS w p2 lb) :
    Calls Try.prog 15 #[.agg #[.int .i8 a, .slice p1 n1 c1], .agg #[.int .i8 b, .slice p2 n2 c2]] w fun e w' => e = .returned (.bool (ssB a la b lb)) ∧ Below w.heap.size w w' := by
  have HN1 := Lib.hid hn1
  have HN2 := Lib.hid hn2
  have HA := Lib.hid hla
  have HB := Lib.hid hlb
  have HP1 := Lib.hid hp1
  have HP2 := Lib.hid hp2
  clear hn1 hn2 hla hlb hp1 hp2
  by_cases hab : a = b
  · subst hab
    have HV : Hid (ssB a la a lb = decide (la = lb)) := Lib.hid (by simp [ssB])
    have hd : (a != a) = false := by simp
    by_cases hnn : n1 = n2
    · obtain rfl : n2 = n1 := hnn.symm
      have hd2 : ((n2 : Int) != n2) = false := by simp
      go_enter Try.func15, Try.ntmps15
      go_wp2
      have X1 := Lib.hid (al2_0 w (.cells #[.int .i8 a, .slice p1 n2 c1] 30) (.cells #[.int .i8 a, .slice p2 n2 c2] 30))
      have X2 := Lib.hid (al2_1 w (.cells #[.int .i8 a, .slice p1 n2 c1] 30) (.cells #[.int .i8 a, .slice p2 n2 c2] 30))
      have B0 := Lib.hid (bl2 w (.cells #[.int .i8 a, .slice p1 n2 c1] 30) (.cells #[.int .i8 a, .slice p2 n2 c2] 30))
      have Q1 := Lib.hid (PS_below B0.out HP1.out)
      have Q2 := Lib.hid (PS_below B0.out HP2.out)
      clear HP1 HP2
      generalize ((w.alloc (.cells #[.int .i8 a, .slice p1 n2 c1] 30)).alloc (.cells #[.int .i8 a, .slice p2 n2 c2] 30)) = w2 at *
      go_loopw [5] (fun i wr => ∃ k : Nat, k ≤ n2 ∧ i = .int .i64 k ∧ la.take k = lb.take k ∧ Below w2.heap.size w2 wr) (fun i _ => n2 - (intOf i).toNat)
      case atStart => exact ⟨0, Nat.zero_le _, rfl, rfl, Below.refl _ _⟩
      case round =>
        obtain ⟨k, hk, rfl, hok, hW⟩ := hrel
        have HW := Lib.hid hW
        have HK := Lib.hid hok
        have Y1 := Lib.hid (heap_below hW (lt_of_heap X1.out) X1.out)
        have Y2 := Lib.hid (heap_below hW (lt_of_heap X2.out) X2.out)
        have c1f := bk2_1 Y1.out
        have c2f := bk2_1 Y2.out
        clear hW hok
        by_cases hlt : k < n2
        · obtain ⟨b1, o1, rfl, hb1, hat1⟩ := Q1.out (ne_of_lt (k := k) (by have := HN1.out; omega))
          obtain ⟨b2, o2, rfl, hb2, hat2⟩ := Q2.out (ne_of_lt (k := k) (by have := HN2.out; omega))
          obtain ⟨qa, hea⟩ : ∃ q, q = la.getD k [] := ⟨_, rfl⟩
          obtain ⟨qb, heb⟩ : ∃ q, q = lb.getD k [] := ⟨_, rfl⟩
          have PA : Hid (Pr qa) := Lib.hid (by rw [hea]; exact HA.out k (by have := HN1.out; omega))
          have PB : Hid (Pr qb) := Lib.hid (by rw [heb]; exact HB.out k (by have := HN2.out; omega))
          have r1 : wr.drew.rangeAt b1 (o1 + k * 64) (cellsP qa) := by rw [hea]; exact rangeAt_below (bl_drew HW.out) hb1 (hat1 k (by have := HN1.out; omega))
          have r2 : wr.drew.rangeAt b2 (o2 + k * 64) (cellsP qb) := by rw [heb]; exact rangeAt_below (bl_drew HW.out) hb2 (hat2 k (by have := HN2.out; omega))
          have HL1 : Hid (Sem.run Try.prog (Instr.loadAt 45 (.pointer (some ⟨b1, o1 + k * 64, none⟩))) wr.drew = .ok (.agg (arr .i16 qa)) wr.drew) :=
            Lib.hid (run_loadAt_mid _ _ _ _ _ _ r1 Try.underlying45 rfl (szCells PA.out))
          have HL2 : Hid (Sem.run Try.prog (Instr.loadAt 45 (.pointer (some ⟨b2, o2 + k * 64, none⟩))) wr.drew = .ok (.agg (arr .i16 qb)) wr.drew) :=
            Lib.hid (run_loadAt_mid _ _ _ _ _ _ r2 Try.underlying45 rfl (szCells PB.out))
          have hgd := fun op x y w => guardPrint op x y (arr .i16 qa) (arr .i16 qb) w
          have hne := fun w => neqPrint qa qb PA.out PB.out w
          have HEA := Lib.hid hea
          have HEB := Lib.hid heb
          clear hea heb hat1 hat2 r1 r2
          cases hd : decide (qa = qb)
          all_goals
            have HD := Lib.hid hd
            rw [hd] at hne
            clear hd
            go_upto_region 6 with fail
            refine wp_region_still_lit (by kernel_rfl) (by kernel_rfl) ?_
            still_step
            still_step
            still_step
            still_step
            refine wpStill_load rfl _ _ rfl _ _ rfl HL1.out ?_
            still_step
            still_step
            still_step
            still_step
            refine wpStill_load rfl _ _ rfl _ _ rfl HL2.out ?_
            still_step
            refine wpStill_nil ?_
            clear hgd hne
          · go_wp2
            go_ret
            exact ⟨ret_bool (by rw [HV.out]; exact (decide_eq_false (ne_of_getD (k := k) (by rw [← HEA.out, ← HEB.out]; exact of_decide_eq_false HD.out))).symm), bt B0.out (bl_drew HW.out)⟩
          · go_wp2
            go_roundw
            case rel => exact ⟨k + 1, by omega, by go_num, take_eq_step HK.out (by have := HN1.out; omega) (by have := HN2.out; omega) (by rw [← HEA.out, ← HEB.out]; exact of_decide_eq_true HD.out), bl_drew HW.out⟩
            case measure => simp [intOf]; omega
        · have HE : Hid (la = lb) := Lib.hid (take_eq_end HK.out (by have := HN1.out; omega) (by have := HN2.out; omega))
          go_wp2
          go_ret
          exact ⟨ret_bool (by rw [HV.out]; exact (decide_eq_true HE.out).symm), bt B0.out HW.out⟩
    · have HE : Hid (ssB a la a lb = false) := Lib.hid (by rw [HV.out]; exact decide_eq_false (by rintro rfl; exact hnn (by rw [HN1.out, HN2.out])))
      have hd2 : ((n1 : Int) != n2) = true := by simp; omega
      go_enter Try.func15, Try.ntmps15
      go_wp2
      go_ret
      exact ⟨ret_bool HE.out.symm, bl2 _ _ _⟩
  · have HV : Hid (ssB a la b lb = false) := Lib.hid (by simp [ssB, hab])
    have hd : (a != b) = true := by simpa using hab
    clear hab
    go_enter Try.func15, Try.ntmps15
    go_wp2
    go_ret
    exact ⟨ret_bool HV.out.symm, bl2 _ _ _⟩
end Go.Proofs.Ytnbbbmnjbfehmaa
