/- Prints that are drawn: 64 densities. -/
import Derived.Test.YtdmlefccajaniaaDoorDens
import Derived.Test.YtdmlefccajaniaaDoorSrc
namespace Go.Proofs.YtdmlefccajaniaaDoor
open Go.RowKit Go.Lib
theorem okP_zero : okP Z64 = true := by simp [okP, Z64, dnB]
theorem okP_set {xs : List Int} (h : okP xs = true) (i : Nat) {x : Int} (h0 : 0 ≤ x) (h1 : x ≤ 400) : okP (xs.set i x) = true := by
  unfold okP at h ⊢
  rw [List.all_eq_true] at h ⊢
  intro y hy
  rcases List.mem_or_eq_of_mem_set hy with hy | hy
  · exact h y hy
  · subst hy; simp [dnB]; omega
theorem okP_pr {p : List Int} (hl : p.length = 64) (h : okP p = true) : Pr p := ⟨hl, fun i => by have := okP_get h i; omega⟩
def z64c : Array Value := arr .i16 Z64
theorem z64c_eq : (#[.int .i16 0, .int .i16 0, .int .i16 0, .int .i16 0, .int .i16 0, .int .i16 0, .int .i16 0, .int .i16 0, .int .i16 0, .int .i16 0, .int .i16 0, .int .i16 0, .int .i16 0, .int .i16 0, .int .i16 0, .int .i16 0, .int .i16 0, .int .i16 0, .int .i16 0, .int .i16 0, .int .i16 0, .int .i16 0, .int .i16 0, .int .i16 0, .int .i16 0, .int .i16 0, .int .i16 0, .int .i16 0, .int .i16 0, .int .i16 0, .int .i16 0, .int .i16 0, .int .i16 0, .int .i16 0, .int .i16 0, .int .i16 0, .int .i16 0, .int .i16 0, .int .i16 0, .int .i16 0, .int .i16 0, .int .i16 0, .int .i16 0, .int .i16 0, .int .i16 0, .int .i16 0, .int .i16 0, .int .i16 0, .int .i16 0, .int .i16 0, .int .i16 0, .int .i16 0, .int .i16 0, .int .i16 0, .int .i16 0, .int .i16 0, .int .i16 0, .int .i16 0, .int .i16 0, .int .i16 0, .int .i16 0, .int .i16 0, .int .i16 0, .int .i16 0] : Array Value) = z64c := z64_Z
theorem setRowC_id (w : World) (g : Nat) (cs : Array Value) (t : TypeId) (fr : Nat × Nat) (hg : w.heap[g]? = some (.cells cs t fr)) : w.setRow g cs = w := by
  have hlt : g < w.heap.size := (Array.getElem?_eq_some_iff.1 hg).1
  have hv : w.heap[g] = .cells cs t fr := (Array.getElem?_eq_some_iff.1 hg).2
  have e : (w.setRow g cs).heap = w.heap := by
    unfold World.setRow
    apply Array.ext
    · simp
    · intro k h1 h2
      simp only [Array.getElem_modify]
      split
      · rename_i hk; subst hk; simp [hv]
      · rfl
  have : w.setRow g cs = { w with heap := (w.setRow g cs).heap } := rfl
  rw [this, e]
def z4a : Array Value := arr .i16 [0, 0, 0, 0]
theorem z4a_eq : (#[.int .i16 0, .int .i16 0, .int .i16 0, .int .i16 0] : Array Value) = z4a := rfl
theorem szC64 : (Tryd.prog.info? 36).map (·.size) = some 64 := by kernel_rfl
theorem szC4 : (Tryd.prog.info? 109).map (·.size) = some 4 := by kernel_rfl
set_option maxHeartbeats 4000000 in
set_option maxRecDepth 100000 in
theorem cellsDrawn_c (g k : Nat) (w : World) (h : Src w g k) (hk : k ≤ 1000000) :
    Calls Tryd.prog 52 #[.pointer (some ⟨g, 0, none⟩)] w fun e w' => ∃ p, e = .returned (.agg (arr .i16 p)) ∧ p.length = 64 ∧ okP p = true ∧ Src w' g (k + 40) ∧ But g w w' := by
  have hgl := src_lt h
  have HSa := Lib.hid (src_keep h (bl3 w (.cells z64c 36) (.cells z64c 36) (.cells z4a 109)))
  have K0 := Lib.hid (al3_0 w (.cells z64c 36) (.cells z64c 36) (.cells z4a 109))
  have K1 := Lib.hid (al3_1 w (.cells z64c 36) (.cells z64c 36) (.cells z4a 109))
  have K2 := Lib.hid (al3_2 w (.cells z64c 36) (.cells z64c 36) (.cells z4a 109))
  have J1 := Lib.hid (al2_1 w (.cells z64c 36) (.cells z64c 36))
  have HB := Lib.hid (but_below (but_refl g w) (Nat.le_of_lt hgl) (bl3 w (.cells z64c 36) (.cells z64c 36) (.cells z4a 109)))
  have hz : (((w.alloc (.cells z64c 36)).alloc (.cells z64c 36)).alloc (.cells z4a 109)).heap.size = w.heap.size + 1 + 1 + 1 := by simp
  clear h
  go_enter Tryd.func52, Tryd.ntmps52
  refine wp_var fun Q0 HQ0 => ?_
  go_wp2_with (first
    | (rw [z64c_eq]; refine wpList_store_row rfl 36 (.tmp 3) (.tmp 9) rfl _ z64c rfl rfl _ z64c J1.out (by rw [szC64]; rfl) rfl (arr_one .i16 Z64) ?_; rw [setRowC_id _ _ _ _ _ J1.out])
    | (rw [z4a_eq]; refine wpList_store_row rfl 109 (.tmp 4) (.tmp 10) rfl _ z4a rfl rfl _ z4a K2.out (by rw [szC4]; rfl) rfl (arr_one .i16 [0, 0, 0, 0]) ?_; rw [setRowC_id _ _ _ _ _ K2.out]; generalize (((w.alloc (.cells z64c 36)).alloc (.cells z64c 36)).alloc (.cells z4a 109)) = w4 at *))
  as_aux_lemma =>
    go_loopw [5] (fun i wr => ∃ j : Nat, j ≤ 4 ∧ i = .int .i64 j ∧ wr.heap.size = w.heap.size + 1 + 1 + 1 ∧ wr.heap[w.heap.size]? = some (.cells z64c 36 (0, 0)) ∧ wr.heap[w.heap.size + 1]? = some (.cells z64c 36 (0, 0)) ∧ (∃ xs : List Int, xs.length = 4 ∧ (∀ i, 0 ≤ xs.getD i 0 ∧ xs.getD i 0 ≤ 255) ∧ wr.heap[w.heap.size + 1 + 1]? = some (.cells (arr .i16 xs) 109 (0, 0))) ∧ Src wr g (k + 2 * j) ∧ But g w wr) (fun i _ => 4 - (intOf i).toNat)
    case atStart => exact ⟨0, Nat.zero_le _, rfl, hz, K0.out, K1.out, ⟨[0, 0, 0, 0], rfl, fun i => by match i with | 0 => decide | 1 => decide | 2 => decide | 3 => decide | i + 4 => simp, K2.out⟩, HSa.out, HB.out⟩
    case round =>
      clear K0 K1 K2 J1 HSa HB hz
      obtain ⟨j, hj, rfl, zr, h0, h1, ⟨xs, hl, hx, h2⟩, hS, hB⟩ := hrel
      have HS := Lib.hid hS
      have HB := Lib.hid hB
      have H0 := Lib.hid h0
      have H1 := Lib.hid h1
      have H2 := Lib.hid h2
      have HL := Lib.hid hl
      have HX := Lib.hid hx
      clear hS hB h0 h1 h2 hl hx
      by_cases hlt : j < 4
      · have hj4 : (j : Int) < 4 := by omega
        go_wp2_with fail
        refine (srcPick_c g (k + 2 * j) 256 _ HS.out (by omega) (by omega) (by omega)).mono ?_
        rintro e w7 ⟨x, rfl, x0, x1, hS7, hO7⟩
        have HS7 := Lib.hid hS7
        have HB7 := Lib.hid (but_only HB.out hO7)
        have G0 := Lib.hid ((hO7.apart _ (by omega)).trans H0.out)
        have G1 := Lib.hid ((hO7.apart _ (by omega)).trans H1.out)
        have G2 := Lib.hid ((hO7.apart _ (by omega)).trans H2.out)
        have z7 : w7.heap.size = w.heap.size + 1 + 1 + 1 := hO7.size.trans zr
        have hw2 : IntKind.i16.wrap x = x := Go.IntWalk.i16_in _ (by omega)
        have hcell := arr_cell G2.out j (by rw [HL.out]; exact hlt)
        have hfr : w7.frozen? ⟨w.heap.size + 1 + 1, j, none⟩ = false := frozen_of_row _ _ _ _ _ G2.out
        clear hS7 hO7 H0 H1 H2 HB HS zr
        go_wp2
        go_roundw
        case rel =>
          exact ⟨j + 1, by omega, by go_num, by simpa using z7, heap_far _ (by show w.heap.size ≠ w.heap.size + 1 + 1; omega) G0.out, heap_far _ (by show w.heap.size + 1 ≠ w.heap.size + 1 + 1; omega) G1.out, ⟨xs.set j x, by rw [List.length_set, HL.out], fun i => by
            rw [List.getD_eq_getElem?_getD, List.getElem?_set]
            split
            · split
              · simp; omega
              · simp
            · have := HX.out i
              rwa [List.getD_eq_getElem?_getD] at this, arr_store G2.out j _⟩, src_mono (src_far HS7.out (by show g ≠ w.heap.size + 1 + 1; omega) (by show g ≤ w.heap.size + 1 + 1; omega)) (by omega), but_set HB7.out hgl (by omega) _ _⟩
        case measure => simp [intOf]; omega
      · have hj4 : ¬ (j : Int) < 4 := by omega
        go_wp2_with fail
        as_aux_lemma =>
          go_loopw [6] (fun i wr2 => ∃ m : Nat, m ≤ 64 ∧ i = .int .i64 m ∧ wr2.heap.size = w.heap.size + 1 + 1 + 1 ∧ wr2.heap[w.heap.size]? = some (.cells z64c 36 (0, 0)) ∧ (∃ ys : List Int, ys.length = 64 ∧ okP ys = true ∧ wr2.heap[w.heap.size + 1]? = some (.cells (arr .i16 ys) 36 (0, 0))) ∧ wr2.heap[w.heap.size + 1 + 1]? = some (.cells (arr .i16 xs) 109 (0, 0)) ∧ Src wr2 g (k + 8) ∧ But g w wr2) (fun i _ => 64 - (intOf i).toNat)
          case atStart => exact ⟨0, Nat.zero_le _, rfl, zr, H0.out, ⟨Z64, Z64_length, okP_zero, H1.out⟩, H2.out, src_mono HS.out (by omega), HB.out⟩
          case round =>
            clear H0 H1 H2 HS HB
            obtain ⟨m, hm, rfl, zr, h0, ⟨ys, hl, hy, h1⟩, h2, hS, hB⟩ := hrel
            have HS := Lib.hid hS
            have HB := Lib.hid hB
            have H0 := Lib.hid h0
            have H1 := Lib.hid h1
            have H2 := Lib.hid h2
            have HLy := Lib.hid hl
            have HY := Lib.hid hy
            clear hS hB h0 h1 h2 hl hy
            by_cases hlt : m < 64
            · have hm64 : (m : Int) < 64 := by omega
              have hq4 : m % 8 / 4 + m / 32 * 2 < 4 := by omega
              have t1 : (m : Int).tmod 8 = (m : Int) % 8 := Int.tmod_eq_emod_of_nonneg (by omega)
              have hq4i : (m : Int) % 8 / 4 + (m : Int) / 32 * 2 < 4 := by omega
              have hcp := arr_cell H2.out (m % 8 / 4 + m / 32 * 2) (by rw [HL.out]; exact hq4)
              have hco := arr_cell H1.out m (by rw [HLy.out]; exact hlt)
              have hfr : wr.frozen? ⟨w.heap.size + 1, m, none⟩ = false := frozen_of_row _ _ _ _ _ H1.out
              have hxq := HX.out (m % 8 / 4 + m / 32 * 2)
              generalize xs.getD (m % 8 / 4 + m / 32 * 2) 0 = xq at *
              go_wp2
              go_roundw
              case rel =>
                exact ⟨m + 1, by omega, by go_num, by simpa using zr, heap_far _ (by simp) H0.out, ⟨ys.set m xq, by rw [List.length_set, HLy.out], okP_set HY.out m hxq.1 (by omega), arr_store H1.out m _⟩, heap_far _ (by simp) H2.out, src_far HS.out (by show g ≠ w.heap.size + 1; omega) (by show g ≤ w.heap.size + 1; omega), but_set HB.out hgl (by omega) _ _⟩
              case measure => simp [intOf]; omega
            · have hm64 : ¬ (m : Int) < 64 := by omega
              go_wp2_with fail
              refine (srcPick_c g (k + 8) 4 _ HS.out (by omega) (by omega) (by omega)).mono ?_
              rintro e w7 ⟨q, rfl, q0, q1, hS7, hO7⟩
              have HS7 := Lib.hid hS7
              have HB7 := Lib.hid (but_only HB.out hO7)
              have G0 := Lib.hid ((hO7.apart _ (by omega)).trans H0.out)
              have G1 := Lib.hid ((hO7.apart _ (by omega)).trans H1.out)
              have z7 : w7.heap.size = w.heap.size + 1 + 1 + 1 := hO7.size.trans zr
              obtain ⟨qn, rfl⟩ : ∃ qn : Nat, q = qn := ⟨q.toNat, by omega⟩
              have q1' : qn < 4 := by omega
              clear hS7 hO7 H0 H1 H2 HB HS zr
              go_wp2_with fail
              as_aux_lemma =>
                go_loopw [7] (fun i wr => ∃ m : Nat, m ≤ qn ∧ i = .int .i64 m ∧ wr.heap.size = w.heap.size + 1 + 1 + 1 ∧ wr.heap[w.heap.size]? = some (.cells z64c 36 (0, 0)) ∧ (∃ ys : List Int, ys.length = 64 ∧ okP ys = true ∧ wr.heap[w.heap.size + 1]? = some (.cells (arr .i16 ys) 36 (0, 0))) ∧ Src wr g (k + 10 + 4 * (qn - m)) ∧ But g w wr) (fun i _ => (intOf i).toNat)
                case atStart => exact ⟨qn, Nat.le_refl _, rfl, z7, G0.out, ⟨ys, HLy.out, HY.out, G1.out⟩, src_mono HS7.out (by omega), HB7.out⟩
                case round =>
                  clear G0 G1 HS7 HB7 HLy HY HL HX
                  obtain ⟨m, hm, rfl, zr, h0, ⟨ys, hl, hok, h1⟩, hS, hB⟩ := hrel
                  have HS := Lib.hid hS
                  have HB := Lib.hid hB
                  have H0 := Lib.hid h0
                  have H1 := Lib.hid h1
                  have HL := Lib.hid hl
                  have HO := Lib.hid hok
                  clear hS hB h0 h1 hl hok
                  by_cases hlt : 0 < m
                  · have hm0 : (0 : Int) < m := by omega
                    have hmw : IntKind.i64.wrap ((m : Int) - 1) = ((m - 1 : Nat) : Int) := by rw [Go.IntWalk.i64_in _ (by omega)]; omega
                    go_wp2_with fail
                    refine (srcPick_c g (k + 10 + 4 * (qn - m)) 64 _ HS.out (by omega) (by omega) (by omega)).mono ?_
                    rintro e w8 ⟨a, rfl, a0, a1, hS8, hO8⟩
                    have HS8 := Lib.hid hS8
                    have HB8 := Lib.hid (but_only HB.out hO8)
                    have I0 := Lib.hid ((hO8.apart _ (by omega)).trans H0.out)
                    have I1 := Lib.hid ((hO8.apart _ (by omega)).trans H1.out)
                    have z8 : w8.heap.size = w.heap.size + 1 + 1 + 1 := hO8.size.trans zr
                    obtain ⟨an, rfl⟩ : ∃ an : Nat, a = an := ⟨a.toNat, by omega⟩
                    clear hS8 hO8 H0 H1 HB HS zr
                    go_wp2_with fail
                    refine (srcPick_c g (k + 10 + 4 * (qn - m) + 2) 401 _ HS8.out (by omega) (by omega) (by omega)).mono ?_
                    rintro e w9 ⟨x, rfl, x0, x1, hS9, hO9⟩
                    have HS9 := Lib.hid hS9
                    have HB9 := Lib.hid (but_only HB8.out hO9)
                    have M0 := Lib.hid ((hO9.apart _ (by omega)).trans I0.out)
                    have M1 := Lib.hid ((hO9.apart _ (by omega)).trans I1.out)
                    have z9 : w9.heap.size = w.heap.size + 1 + 1 + 1 := hO9.size.trans z8
                    have hw2 : IntKind.i16.wrap x = x := Go.IntWalk.i16_in _ (by omega)
                    have hcell := arr_cell M1.out an (by rw [HL.out]; omega)
                    have hfr : w9.frozen? ⟨w.heap.size + 1, an, none⟩ = false := frozen_of_row _ _ _ _ _ M1.out
                    clear hS9 hO9 I0 I1 HB8 HS8 z8
                    go_wp2
                    go_roundw
                    case rel =>
                      exact ⟨m - 1, by omega, rfl, by simpa using z9, heap_far _ (by simp) M0.out, ⟨ys.set an x, by rw [List.length_set, HL.out], okP_set HO.out an x0 (by omega), arr_store M1.out an _⟩, src_mono (src_far HS9.out (by show g ≠ w.heap.size + 1; omega) (by show g ≤ w.heap.size + 1; omega)) (by omega), but_set HB9.out hgl (by omega) _ _⟩
                    case measure => simp [intOf]; omega
                  · have hm0 : ¬ (0 : Int) < m := by omega
                    go_wp2_with (first
                      | (refine wpList_load_row rfl 36 (.tmp 3) rfl _ rfl _ _ _ _ H1.out Tryd.underlying36 rfl (by rw [szC64, arr_size, HL.out]) ?_)
                      | (refine wpList_store_row rfl 36 (.tmp 2) (.tmp 48) rfl _ _ rfl rfl _ _ H0.out (by rw [szC64, arr_size, HL.out]) (by rw [arr_size, HL.out]; rfl) (arr_one _ _) ?_))
                    exact bodyPost_ret (results_cell_row rfl _ _ _ _ _ _ _ rfl (setRow_heap _ _ _ _ _ _ H0.out) Tryd.underlying36 rfl (by rw [szC64, arr_size, HL.out])) rfl ⟨ys, rfl, HL.out, HO.out, src_mono (src_setRow HS.out (by omega)) (by omega), but_setRow HB.out hgl (Nat.le_refl _) _⟩
end Go.Proofs.YtdmlefccajaniaaDoor
