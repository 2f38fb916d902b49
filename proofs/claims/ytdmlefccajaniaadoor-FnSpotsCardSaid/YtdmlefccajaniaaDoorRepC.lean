/- The repair of cells: both functions. -/
import Derived.Test.YtdmlefccajaniaaDoorRepT
namespace Go.Proofs.YtdmlefccajaniaaDoor
open Go.RowKit Go.Lib
theorem rep_ctt {P : Program} {fn : Func} {p t t2 : Tmp} {ty : TypeId} (h : fn.results = #[.cell p ty, .tmp t, .tmp t2]) (tmps : Array Value) (w : World) (g : Nat) (tt : TypeId) (cs : Array Value) (fr : Nat × Nat) (d : TypeDesc)
    (hp : tmps.getD p undef = .pointer (some ⟨g, 0, none⟩)) (hg : w.heap[g]? = some (.cells cs tt fr))
    (hu : P.underlying ty = some d) (hd : (match d with | .struct _ | .array _ _ => true | _ => false) = true) (hi : (P.info? ty).map (·.size) = some cs.size) :
    (results fn tmps).run P w = .ok (.tuple #[.agg cs, tmps.getD t undef, tmps.getD t2 undef]) w := by
  have hp' : tmps[p]?.getD undef = .pointer (some ⟨g, 0, none⟩) := by simpa using hp
  simp [results, h, hp', asAddr, run_loadVar_row w g tt ty cs fr d hg hu hd hi]
def rcV (p : List Int) (M : Nat) : List Int × Nat × Int := if okP p = false then (Z64, 0, 1) else if M = 18446744073709551615 then (Z64, 0, 6) else ((ra 65 p M 0).1, (ra 65 p M 0).2, 0)
theorem rcV_bad {p : List Int} {M : Nat} (h : okP p = false) : rcV p M = (Z64, 0, 1) := by simp [rcV, h]
theorem rcV_full {p : List Int} (h : okP p = true) : rcV p 18446744073709551615 = (Z64, 0, 6) := by simp [rcV, h]
theorem rcV_ok {p : List Int} {M : Nat} (h : okP p = true) (hf : M ≠ 18446744073709551615) : rcV p M = ((ra 65 p M 0).1, (ra 65 p M 0).2, 0) := by simp [rcV, h, hf]
theorem ra_Pr : ∀ (f : Nat) (p : List Int) (M r : Nat), Pr p → (∀ j, 0 ≤ p.getD j 0 ∧ p.getD j 0 ≤ 400) → Pr (ra f p M r).1
  | 0, p, M, r, h, _ => h
  | f + 1, p, M, r, h, hv => by
    unfold ra
    split
    · exact h
    · exact ra_Pr f _ _ _ (rp_Pr hv M) (rp_bd p hv M)
theorem Z64_Pr : Pr Z64 := ⟨Z64_length, fun i => by
  rw [Z64, List.getD_eq_getElem?_getD, List.getElem?_replicate]
  split <;> simp⟩
theorem rcV_Pr {p : List Int} {M : Nat} (hp : Pr p) : Pr (rcV p M).1 := by
  unfold rcV
  split
  · exact Z64_Pr
  · rename_i h
    split
    · exact Z64_Pr
    · exact ra_Pr _ _ _ _ hp (okP_get (by simpa using h))
theorem z64z (w : World) : (w.alloc (.cells (arr .i16 Z64) 37)) = (w.alloc (.cells (arr .i16 Z64) 37)) := rfl
set_option maxHeartbeats 2000000 in
set_option maxRecDepth 100000 in
theorem implRC_c (p : List Int) (hp : Pr p) (M : Nat) (hM : M < 2 ^ 64) (w : World) (hT : TabAt w) :
    Calls Tryd.prog 19 #[.agg (arr .i16 p), .int .u64 M] w fun e w' => e = .returned (.tuple #[.agg (arr .i16 (rcV p M).1), .int .i64 (rcV p M).2.1, .int .i64 (rcV p M).2.2]) ∧ Below w.heap.size w w' := by
  have HP := Lib.hid hp
  have HM := Lib.hid hM
  have HT := Lib.hid hT
  have H00 := Lib.hid (TabAt_pos hT)
  have K0 := Lib.hid (al2_0 w (.cells (arr .i16 p) 37) (.cells (arr .i16 Z64) 37))
  have K1 := Lib.hid (al2_1 w (.cells (arr .i16 p) 37) (.cells (arr .i16 Z64) 37))
  have HW0 := Lib.hid (bl2 w (.cells (arr .i16 p) 37) (.cells (arr .i16 Z64) 37))
  clear hp hM hT
  go_enter Tryd.func19, Tryd.ntmps19
  go_wp2_with (rw [z64_Z]; refine wpList_load_row rfl 37 (.tmp 2) rfl w.heap.size rfl _ _ _ _ K0.out Tryd.underlying37 rfl (by rw [szPrint, arr_size, HP.out.1]) ?_; generalize ((w.alloc (.cells (arr .i16 p) 37)).alloc (.cells (arr .i16 Z64) 37)) = w0 at *)
  refine (implValidPrint_c p HP.out _).mono ?_
  rintro e w1 ⟨rfl, hb1⟩
  have HW1 := Lib.hid (bt HW0.out hb1)
  have H0 := Lib.hid (heap_below hb1 (lt_of_heap K0.out) K0.out)
  have H1 := Lib.hid (heap_below hb1 (lt_of_heap K1.out) K1.out)
  clear hb1 HW0 K0 K1
  cases hok : okP p
  · have HV := Lib.hid (rcV_bad (M := M) hok)
    clear hok
    go_wp2_with (rw [z64_Z]; refine wpList_store_row rfl 37 (.tmp 4) (.tmp 12) rfl (w.heap.size + 1) (arr .i16 Z64) rfl rfl 37 (arr .i16 Z64) H1.out (by rw [szPrint, arr_size, Z64_length]) rfl (arr_one _ _) ?_)
    exact bodyPost_ret (rep_ctt rfl _ _ _ 37 _ _ _ rfl (setRow_heap _ _ _ _ _ _ H1.out) Tryd.underlying37 rfl (by rw [szPrint, arr_size, Z64_length])) rfl ⟨by rw [HV.out] <;> rfl, below_setRow HW1.out (by omega) _⟩
  · by_cases hf : M = 18446744073709551615
    · have HV : Hid (rcV p M = (Z64, 0, 6)) := Lib.hid (by rw [hf]; exact rcV_full hok)
      have hMi : (M : Int) = 18446744073709551615 := by omega
      clear hok
      rw [hMi]
      go_wp2_with fail
      refine (implAllFull_c w.heap.size _).mono ?_
      rintro e w' ⟨rfl, rfl⟩
      go_wp2_with (rw [z64_Z]; refine wpList_store_row rfl 37 (.tmp 4) (.tmp 20) rfl (w.heap.size + 1) (arr .i16 Z64) rfl rfl 37 (arr .i16 Z64) H1.out (by rw [szPrint, arr_size, Z64_length]) rfl (arr_one _ _) ?_)
      exact bodyPost_ret (rep_ctt rfl _ _ _ 37 _ _ _ rfl (setRow_heap _ _ _ _ _ _ H1.out) Tryd.underlying37 rfl (by rw [szPrint, arr_size, Z64_length])) rfl ⟨by rw [HV.out] <;> rfl, below_setRow HW1.out (by omega) _⟩
    · have HV := Lib.hid (rcV_ok hok hf)
      have hv := okP_get hok
      have HC := Lib.hid (implAll_c p HP.out hv M HM.out hf w.heap.size w.heap.size w1 (TabAt_of_base HW1.out H00.out HT.out) (Nat.le_refl _) H0.out H00.out)
      have HPr := Lib.hid (ra_Pr 65 p M 0 HP.out hv)
      clear hok hf hv
      go_wp2_with fail
      refine (HC.out).mono ?_
      generalize ra 65 p M 0 = R at *
      obtain ⟨P, r⟩ := R
      rintro e w2 ⟨rfl, hG2, hb2⟩
      have HG2 := Lib.hid hG2
      have HW2 := Lib.hid (HW1.out.trans hb2.1)
      have H12 : Hid (w2.heap[w.heap.size + 1]? = _) := Lib.hid ((hb2.2 _ (lt_of_heap H1.out) (by omega)).trans H1.out)
      have hsz : (arr .i16 P).size = 64 := by rw [arr_size, HPr.out.1]
      clear hG2 hb2 HC
      go_wp2_with (first
        | (refine wpList_load_row rfl 37 (.tmp 2) rfl w.heap.size rfl _ _ _ _ HG2.out Tryd.underlying37 rfl (by rw [szPrint, hsz]) ?_)
        | (refine wpList_store_row rfl 37 (.tmp 4) (.tmp 22) rfl (w.heap.size + 1) (arr .i16 P) rfl rfl 37 (arr .i16 Z64) H12.out (by rw [szPrint, hsz]) (by rw [hsz, arr_size, Z64_length]) (arr_one _ _) ?_))
      exact bodyPost_ret (rep_ctt rfl _ _ _ 37 _ _ _ rfl (setRow_heap _ _ _ _ _ _ H12.out) Tryd.underlying37 rfl (by rw [szPrint, hsz])) rfl ⟨by rw [HV.out] <;> rfl, below_setRow HW2.out (by omega) _⟩
end Go.Proofs.YtdmlefccajaniaaDoor
