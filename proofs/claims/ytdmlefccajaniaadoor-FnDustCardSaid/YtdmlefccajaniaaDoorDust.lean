/- The cells in which a print differs from another one by more than told. -/
import Derived.Test.YtdmlefccajaniaaDoorMedC
import Derived.Test.YtdmlefccajaniaaDoorMaskB
import Derived.BigFrame
namespace Go.Proofs.YtdmlefccajaniaaDoor
open Go.RowKit Go.Lib
/-- The load of a whole row, in an operation that a guard lets be carried out. -/
theorem wpList_load_rowG {P : Program} {ops : Array Oper} {rest : List Oper} {o : Oper} {a : Act} {w : World} {Q : Exit → Act → World → Prop} (hgd : Region.wanted o (yielded ops a.tmps) = true) (ty : TypeId) (x : Operand) (ho : o.op = .load ty x)
    (g : Nat) (hx : a.eval x = .pointer (some ⟨g, 0, none⟩)) (t : TypeId) (cs : Array Value) (fr : Nat × Nat) (d : TypeDesc) (hg : w.heap[g]? = some (.cells cs t fr))
    (hu : P.underlying ty = some d) (hd : (match d with | .struct _ | .array _ _ => true | _ => false) = true) (hi : (P.info? ty).map (·.size) = some cs.size)
    (h : wpList P ops Q rest (a.put o.dst (.agg cs)) w) : wpList P ops Q (o :: rest) a w :=
  BigFrame.wpList_want hgd fun _ hK => wp_load_row ty x ho g hx t cs fr d hg hu hd hi (hK _ _ h)
def absI (n : Int) : Int := if n < 0 then -n else n
def difM (M q : List Int) (wi : Int) : Nat := maskOf (fun k => decide (wi < absI (q.getD k 0 - M.getD k 0))) 64
theorem difM_lt (M q : List Int) (wi : Int) : difM M q wi < 2 ^ 64 := maskOf_lt _ 64
theorem l01SizeA_c (n : Int) (h : -1000 ≤ n ∧ n ≤ 1000) (w : World) :
    Calls Tryd.prog 109 #[.int .i64 n] w fun e w' => e = .returned (.int .i64 (absI n)) ∧ w = w' := by
  unfold absI
  by_cases h0 : n < 0
  · go_enter Tryd.func109, Tryd.ntmps109
    go_wp2
    go_ret
    exact ⟨ret_int (by first | rfl | (split <;> omega)), rfl⟩
  · go_enter Tryd.func109, Tryd.ntmps109
    go_wp2
    go_ret
    exact ⟨ret_int (by first | rfl | (split <;> omega)), rfl⟩
theorem implSizeA_c (n : Int) (h : -1000 ≤ n ∧ n ≤ 1000) (w : World) :
    Calls Tryd.prog 69 #[.int .i64 n] w fun e w' => e = .returned (.int .i64 (absI n)) ∧ w = w' := by
  unfold absI
  by_cases h0 : n < 0
  · go_enter Tryd.func69, Tryd.ntmps69
    go_wp2
    go_ret
    exact ⟨ret_int (by first | rfl | (split <;> omega) | omega), rfl⟩
  · go_enter Tryd.func69, Tryd.ntmps69
    go_wp2
    go_ret
    exact ⟨ret_int (by first | rfl | (split <;> omega) | omega), rfl⟩
theorem l03Off_c (a b : Int) (ha : 0 ≤ a ∧ a ≤ 400) (hb : 0 ≤ b ∧ b ≤ 400) (w : World) :
    Calls Tryd.prog 92 #[.int .i16 a, .int .i16 b] w fun e w' => e = .returned (.int .i64 (absI (b - a))) ∧ w = w' := by
  have hw : IntKind.i64.wrap (b - a) = b - a := Go.IntWalk.i64_in _ (by omega)
  go_enter Tryd.func92, Tryd.ntmps92
  go_wp2_with (go_at_call 109; refine (l01SizeA_c (b - a) (by omega) _).mono ?_; rintro e w' ⟨rfl, rfl⟩)
  go_ret
  exact ⟨rfl, rfl⟩
def D400 (M : List Int) : Prop := M.length = 64 ∧ ∀ k, 0 ≤ M.getD k 0 ∧ M.getD k 0 ≤ 400
theorem absI_bd {x y : Int} (hx : 0 ≤ x ∧ x ≤ 400) (hy : 0 ≤ y ∧ y ≤ 400) : 0 ≤ absI (x - y) ∧ absI (x - y) ≤ 400 := by unfold absI; split <;> omega
theorem maskOf_step (p : Nat → Bool) (k : Nat) : maskOf p (k + 1) = maskOf p k ||| (if p k then 2 ^ k else 0) := rfl
set_option maxHeartbeats 2000000 in
set_option maxRecDepth 100000 in
theorem l07Dust_c (M q : List Int) (hM : D400 M) (hq : D400 q) (b o g : Nat) (wi : Int) (t : TypeId) (w : World) (hr : w.rangeAt b o (cellsP q)) (hg : w.heap[g]? = some (.cells (arr .i16 M) t (0, 0))) :
    Calls Tryd.prog 64 #[.pointer (some ⟨b, o, none⟩), .pointer (some ⟨g, 0, none⟩), .int .i64 wi] w fun e w' => e = .returned (.int .u64 (difM M q wi : Nat)) ∧ Below w.heap.size w w' := by
  have HM := Lib.hid hM
  have HQ := Lib.hid hq
  have HR := Lib.hid hr
  have HG := Lib.hid hg
  clear hM hq hr hg
  go_enter Tryd.func64, Tryd.ntmps64
  go_upto_region 3 with fail
  go_loopw [7, 8] (fun s i wr => ∃ k : Nat, k ≤ 64 ∧ i = .int .i64 k ∧ s = .int .u64 (maskOf (fun k => decide (wi < absI (q.getD k 0 - M.getD k 0))) k : Nat) ∧ ∃ m, wr = w.drewN m) (fun _ i _ => 64 - (intOf i).toNat)
  case atStart => exact ⟨0, Nat.zero_le _, rfl, rfl, 0, rfl⟩
  case round =>
    obtain ⟨k, hk, rfl, hs, m, hw⟩ := hrel
    have hbd : maskOf (fun k => decide (wi < absI (q.getD k 0 - M.getD k 0))) k < 2 ^ 64 := Nat.lt_of_lt_of_le (maskOf_lt _ k) (Nat.pow_le_pow_right (by omega) hk)
    obtain ⟨D, hDe⟩ : ∃ D, D = maskOf (fun k => decide (wi < absI (q.getD k 0 - M.getD k 0))) k := ⟨_, rfl⟩
    rw [← hDe] at hs hbd
    subst hs
    have HW := Lib.hid hw
    clear hw
    by_cases hlt : k < 64
    · obtain ⟨x, hxe⟩ : ∃ x, x = q.getD k 0 := ⟨_, rfl⟩
      obtain ⟨y, hye⟩ : ∃ y, y = M.getD k 0 := ⟨_, rfl⟩
      have hx := HQ.out.2 k
      have hy := HM.out.2 k
      rw [← hxe] at hx
      rw [← hye] at hy
      have hcx : wr.cell? ⟨b, o + k, none⟩ = some (.int .i16 x) := by rw [HW.out, World.cell?_drewN, hxe]; exact HR.out k _ (cellsP_get _ _ (by rw [HQ.out.1]; exact hlt))
      have hcy : wr.cell? ⟨g, k, none⟩ = some (.int .i16 y) := by rw [HW.out, World.cell?_drewN, hye]; exact arr_cell HG.out k (by rw [HM.out.1]; exact hlt)
      have HN : Hid (maskOf (fun k => decide (wi < absI (q.getD k 0 - M.getD k 0))) (k + 1) = (D ||| (if decide (wi < absI (x - y)) then 2 ^ k else 0))) := Lib.hid (by rw [maskOf_step, ← hDe, ← hxe, ← hye])
      have HO := Lib.hid (l03Off_c y x hy hx)
      have ha := absI_bd hx hy
      have HS := Lib.hid (set_int D k hbd hlt)
      have hki : (k : Int) < 64 := by omega
      generalize absI (x - y) = d at *
      clear hxe hye hDe
      by_cases hd : wi < d
      · have hdd : decide (wi < d) = true := by simpa using hd
        rw [hdd] at HN
        go_wp2_with fail
        go_quiet ((go_at_call 92; exact quiet_c (HO.out _)))
        go_wp2
        go_roundw
        case rel => exact ⟨k + 1, by omega, by go_num, by rw [HN.out]; exact congrArg _ HS.out, m + nq, by rw [HW.out, World.drewN_drewN]⟩
        case measure => simp [intOf]; omega
      · have hdd : decide (wi < d) = false := by simpa using hd
        rw [hdd] at HN
        go_wp2_with fail
        go_quiet ((go_at_call 92; exact quiet_c (HO.out _)))
        go_wp2
        go_roundw
        case rel => exact ⟨k + 1, by omega, by go_num, by rw [HN.out]; simp, m + nq, by rw [HW.out, World.drewN_drewN]⟩
        case measure => simp [intOf]; omega
    · have hk64 : k = 64 := by omega
      subst hk64
      have HD : Hid (D = difM M q wi) := Lib.hid hDe
      go_wp2
      go_ret
      exact ⟨ret_int (by rw [HD.out]), by rw [HW.out]; exact bl_drewN (Below.refl _ _) _⟩
theorem okP_D400 {q : List Int} (h : Pr q) (ho : okP q = true) : D400 q := ⟨h.1, fun k => okP_get ho k⟩
theorem medP_D400 {l : List (List Int)} (ho : okL l = true) (h0 : 0 < l.length) : D400 (medP l) := ⟨medP_length l, fun k => by
  by_cases hk : k < 64
  · rw [medP_get l k hk]
    obtain ⟨i, hi, he⟩ := medI_mem l k h0
    rw [he]; exact okP_get (okL_get ho i hi) k
  · rw [List.getD_eq_getElem?_getD, List.getElem?_eq_none (by rw [medP_length]; omega)]; simp⟩
theorem D400_ok {M : List Int} (h : D400 M) : okP M = true := by
  unfold okP
  rw [List.all_eq_true]
  intro x hx
  obtain ⟨i, hi, rfl⟩ := List.getElem_of_mem hx
  have := h.2 i
  rw [List.getD_eq_getElem?_getD, List.getElem?_eq_getElem hi] at this
  exact (dnB_iff _).2 (by simpa using this)
theorem D400_Pr {M : List Int} (h : D400 M) : Pr M := ⟨h.1, fun i => by have := h.2 i; omega⟩
set_option maxHeartbeats 2000000 in
set_option maxRecDepth 100000 in
theorem differIn_c (M q : List Int) (hM : D400 M) (hq : D400 q) (wi : Int) (hwi : dnB wi = true) (w : World) :
    Calls Tryd.prog 33 #[.agg (arr .i16 M), .agg (arr .i16 q), .int .i64 wi] w fun e w' => e = .returned (.tuple #[.int .u64 (difM M q wi : Nat), .int .i64 0]) ∧ Below w.heap.size w w' := by
  have HM := Lib.hid hM
  have HQ := Lib.hid hq
  have HWI := Lib.hid hwi
  have hszM : (arr .i16 M).size = 64 := by rw [arr_size]; exact hM.1
  have hszQ : (arr .i16 q).size = 64 := by rw [arr_size]; exact hq.1
  have KA := Lib.hid (al2_0 w (.cells (arr .i16 M) 37) (.cells (arr .i16 q) 37))
  have KB := Lib.hid (al2_1 w (.cells (arr .i16 M) 37) (.cells (arr .i16 q) 37))
  have KW := Lib.hid (bl2 w (.cells (arr .i16 M) 37) (.cells (arr .i16 q) 37))
  clear hM hq hwi
  go_enter Tryd.func33, Tryd.ntmps33
  go_upto_region 1 with fail
  generalize (w.alloc (.cells (arr .i16 M) 37)).alloc (.cells (arr .i16 q) 37) = w0 at *
  go_wp2_with (refine wpList_load_row rfl 37 (.tmp 3) rfl _ rfl _ _ _ _ KA.out Tryd.underlying37 rfl (by rw [szPrint, hszM]) ?_)
  refine (implValidPrint_c M (D400_Pr HM.out) _).mono ?_
  rintro e w1 ⟨rfl, hb1⟩
  rw [D400_ok HM.out]
  have K1A := Lib.hid (heap_below hb1 (lt_of_heap KA.out) KA.out)
  have K1B := Lib.hid (heap_below hb1 (lt_of_heap KB.out) KB.out)
  have B1 := Lib.hid (bt KW.out hb1)
  clear hb1 KA KB KW
  go_wp2_with (refine wpList_load_rowG rfl 37 (.tmp 4) rfl _ rfl _ _ _ _ K1B.out Tryd.underlying37 rfl (by rw [szPrint, hszQ]) ?_)
  refine (implValidPrint_c q (D400_Pr HQ.out) _).mono ?_
  rintro e w2 ⟨rfl, hb2⟩
  rw [D400_ok HQ.out]
  have K2A := Lib.hid (heap_below hb2 (lt_of_heap K1A.out) K1A.out)
  have K2B := Lib.hid (heap_below hb2 (lt_of_heap K1B.out) K1B.out)
  have B2 := Lib.hid (bt B1.out hb2)
  clear hb2 K1A K1B B1
  go_upto_region 7 with (go_at_call 62; refine (isDensity_c _ _).mono ?_; rintro e w' ⟨rfl, rfl⟩; rw [HWI.out])
  go_loopw [8, 23] (fun s i wr => ∃ k : Nat, k ≤ 64 ∧ i = .int .i64 k ∧ s = .int .u64 (maskOf (fun k => decide (wi < absI (q.getD k 0 - M.getD k 0))) k : Nat) ∧ ∃ m, wr = w2.drewN m) (fun _ i _ => 64 - (intOf i).toNat)
  case atStart => exact ⟨0, Nat.zero_le _, rfl, rfl, 0, rfl⟩
  case round =>
    obtain ⟨k, hk, rfl, hs, m, hw⟩ := hrel
    have hbd : maskOf (fun k => decide (wi < absI (q.getD k 0 - M.getD k 0))) k < 2 ^ 64 := Nat.lt_of_lt_of_le (maskOf_lt _ k) (Nat.pow_le_pow_right (by omega) hk)
    obtain ⟨D, hDe⟩ : ∃ D, D = maskOf (fun k => decide (wi < absI (q.getD k 0 - M.getD k 0))) k := ⟨_, rfl⟩
    rw [← hDe] at hs hbd
    subst hs
    have HW := Lib.hid hw
    clear hw
    by_cases hlt : k < 64
    · obtain ⟨x, hxe⟩ : ∃ x, x = q.getD k 0 := ⟨_, rfl⟩
      obtain ⟨y, hye⟩ : ∃ y, y = M.getD k 0 := ⟨_, rfl⟩
      have hx := HQ.out.2 k
      have hy := HM.out.2 k
      rw [← hxe] at hx
      rw [← hye] at hy
      have hcx : wr.cell? ⟨w.heap.size + 1, k, none⟩ = some (.int .i16 x) := by rw [HW.out, World.cell?_drewN, hxe]; exact arr_cell K2B.out k (by rw [HQ.out.1]; exact hlt)
      have hcy : wr.cell? ⟨w.heap.size, k, none⟩ = some (.int .i16 y) := by rw [HW.out, World.cell?_drewN, hye]; exact arr_cell K2A.out k (by rw [HM.out.1]; exact hlt)
      have HN : Hid (maskOf (fun k => decide (wi < absI (q.getD k 0 - M.getD k 0))) (k + 1) = (D ||| (if decide (wi < absI (x - y)) then 2 ^ k else 0))) := Lib.hid (by rw [maskOf_step, ← hDe, ← hxe, ← hye])
      have HO := Lib.hid (implSizeA_c (x - y) (by omega))
      have ha := absI_bd hx hy
      have HS := Lib.hid (set_int D k hbd hlt)
      have hki : (k : Int) < 64 := by omega
      have hw1 : IntKind.i64.wrap x = x := Go.IntWalk.i64_in _ (by omega)
      have hw2 : IntKind.i64.wrap y = y := Go.IntWalk.i64_in _ (by omega)
      have hw3 : IntKind.i64.wrap (x - y) = x - y := Go.IntWalk.i64_in _ (by omega)
      generalize absI (x - y) = d at *
      clear hxe hye hDe
      by_cases hd : wi < d
      · have hdd : decide (wi < d) = true := by simpa using hd
        rw [hdd] at HN
        go_wp2_with fail
        go_quiet ((go_at_call 69; exact quiet_c (HO.out _)))
        go_wp2
        go_roundw
        case rel => exact ⟨k + 1, by omega, by go_num, by rw [HN.out]; exact congrArg _ HS.out, m + nq, by rw [HW.out, World.drewN_drewN]⟩
        case measure => simp [intOf]; omega
      · have hdd : decide (wi < d) = false := by simpa using hd
        rw [hdd] at HN
        go_wp2_with fail
        go_quiet ((go_at_call 69; exact quiet_c (HO.out _)))
        go_wp2
        go_roundw
        case rel => exact ⟨k + 1, by omega, by go_num, by rw [HN.out]; simp, m + nq, by rw [HW.out, World.drewN_drewN]⟩
        case measure => simp [intOf]; omega
    · have hk64 : k = 64 := by omega
      subst hk64
      have HD : Hid (D = difM M q wi) := Lib.hid hDe
      go_wp2
      go_ret2
      exact ⟨by rw [HD.out] <;> rfl, by rw [HW.out]; exact bl_drewN B2.out _⟩
end Go.Proofs.YtdmlefccajaniaaDoor
