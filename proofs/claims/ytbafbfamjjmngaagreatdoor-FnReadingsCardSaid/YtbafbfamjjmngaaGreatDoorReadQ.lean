/- FnReadings: what the functions that the law calls return. -/
import Derived.Test.YtbafbfamjjmngaaGreatDoorReadP
import Derived.Test.YtbafbfamjjmngaaGreatDoorMeanL
import Derived.Test.YtbafbfamjjmngaaGreatDoorLSceneText
import Derived.Test.YtbafbfamjjmngaaGreatDoorRdJ
import Derived.Test.YtbafbfamjjmngaaGreatDoorLstUint32S
import Derived.Test.YtbafbfamjjmngaaGreatDoorEqArr
import Derived.Test.YtbafbfamjjmngaaGreatDoorBits
namespace Go.Proofs.YtbafbfamjjmngaaGreatDoor
open Go.RowKit Go.Lib
theorem guardScene : Tryz.prog.eqGuardType Tryz.prog.depth 26 = false := by kernel_rfl
theorem szI8R : (Tryz.prog.info? 24).map (·.size) = some 1 := by kernel_rfl
theorem run_neq_scene (xs : List Int) (h : xs.length = 24) (w : World) : (binOp .neq 26 (.agg (arr .i8 xs)) (.agg (arr .i8 xs))).run Tryz.prog w = .ok (.bool false) w := by
  have := run_neq_arr 26 24 24 .i8 xs xs Tryz.underlying26 Tryz.underlying24 szI8R h h w
  simpa using this
theorem wpList_neq_scene {ops : Array Oper} {rest : List Oper} {o : Oper} {a : Act} {w : World} {Q : Exit → Act → World → Prop} (hgd : Region.wanted o (yielded ops a.tmps) = true) (x y : Operand) (t2 : TypeId) (ho : o.op = .binOp .neq 26 x y t2)
    (xs : List Int) (A : Array Value) (hA : arr .i8 xs = A) (hl : xs.length = 24) (hx : a.eval x = .agg A) (hy : a.eval y = .agg A)
    (h : wpList Tryz.prog ops Q rest (a.put o.dst (.bool false)) w) : wpList Tryz.prog ops Q (o :: rest) a w := by
  subst hA
  exact BigFrame.wpList_want hgd fun _ hK => by
    unfold Oper.wp execOp
    simp only [ho, hx, hy, Sem.run_bind, run_eqGuard_agg w .neq 26 x y _ _ guardScene, run_neq_scene xs hl w, Result.andThen_ok, Sem.run_pure]
    exact hK _ _ h
theorem ev_keep {w w1 : World} (h : EV w) (hb : Below w.heap.size w w1) : EV w1 := ev_below hb h
theorem a2Size_c (n : Int) (h : -1000 ≤ n ∧ n ≤ 1000) (w : World) :
    Calls Tryz.prog 22 #[.int .i64 n] w fun e w' => e = .returned (.int .i64 (if n < 0 then -n else n)) ∧ w = w' := by
  have C := Lib.hid (l01Size_c n h)
  generalize (if n < 0 then -n else n) = m at *
  go_enter Tryz.func22, Tryz.ntmps22
  go_wp2_with fail
  refine (C.out _).mono ?_
  rintro e w1 ⟨rfl, rfl⟩
  go_wp2
  go_ret
  exact ⟨rfl, rfl⟩
theorem ext_sizeR (s : ByteArray) (a b : Nat) : (s.extract a b).size ≤ s.size := by rw [ByteArray.size_extract]; omega
theorem getDR_size {l : List ByteArray} {n : Nat} (h : ∀ p, p ∈ l → p.size ≤ n) (i : Nat) : (l.getD i ⟨#[]⟩).size ≤ n := by
  by_cases hi : i < l.length
  · rw [List.getD_eq_getElem?_getD, List.getElem?_eq_getElem hi]
    exact h _ (List.getElem_mem hi)
  · rw [List.getD_eq_getElem?_getD, List.getElem?_eq_none (by omega)]
    exact Nat.zero_le _
theorem splitBR_size (sep : ByteArray) : ∀ (k : Nat) (s p : ByteArray), p ∈ Lib.splitB sep 0 k s → p.size ≤ s.size
  | 0, s, p, h => by
    rw [Lib.splitB_zero, List.mem_singleton] at h
    rw [h]; exact Nat.le_refl _
  | k + 1, s, p, h => by
    unfold Lib.splitB at h
    split at h
    · rw [List.mem_singleton] at h
      rw [h]; exact Nat.le_refl _
    · rw [List.mem_cons] at h
      rcases h with rfl | h
      · exact ext_sizeR _ _ _
      · exact Nat.le_trans (splitBR_size sep k _ p h) (ext_sizeR _ _ _)
set_option maxHeartbeats 400000 in
theorem sameFields_c (xs : List Int) (p1 p2 : Option Addr) (n c1 c2 : Nat) (hn : n = xs.length) (hm : n ≤ 1048576) (w : World) (B1 B2 : Nat) (h1 : PB_u32 w B1 p1 xs) (h2 : PB_u32 w B2 p2 xs) :
    Calls Tryz.prog 21 #[.slice p1 n c1, .slice p2 n c2] w fun e w' => e = .returned (.bool true) ∧ Below w.heap.size w w' := by
  have HN := Lib.hid hn
  have H1 := Lib.hid h1
  have H2 := Lib.hid h2
  clear hn h1 h2
  go_enter Tryz.func21, Tryz.ntmps21
  go_wp2
  go_loopw [5] (fun i wr => ∃ k q : Nat, k ≤ n ∧ i = .int .i64 k ∧ wr = w.drewN q) (fun i _ => n - (intOf i).toNat)
  case atStart => exact ⟨0, 0, Nat.zero_le _, rfl, rfl⟩
  case round =>
    obtain ⟨k, q, hk, rfl, hW⟩ := hrel
    have HW := Lib.hid hW
    clear hW
    by_cases hlt : k < n
    · obtain ⟨b1, o1, rfl, _, hc1⟩ := H1.out (neL_of_lt_u32 (k := k) (by have := HN.out; omega))
      obtain ⟨b2, o2, rfl, _, hc2⟩ := H2.out (neL_of_lt_u32 (k := k) (by have := HN.out; omega))
      have d1 := hc1 k (by have := HN.out; omega)
      have d2 := hc2 k (by have := HN.out; omega)
      have e1 : wr.cell? ⟨b1, o1 + k, none⟩ = some (.int .u32 (xs.getD k 0)) := by rw [HW.out, World.cell?_drewN]; exact d1
      have e2 : wr.cell? ⟨b2, o2 + k, none⟩ = some (.int .u32 (xs.getD k 0)) := by rw [HW.out, World.cell?_drewN]; exact d2
      generalize xs.getD k 0 = x at *
      have hself : (x != x) = false := by simp
      clear hc1 hc2 d1 d2
      go_wp2_with fail
      go_quiet (fail)
      go_wp2
      go_roundw
      case rel => exact ⟨k + 1, q + nq, by omega, by go_num, by rw [HW.out, World.drewN_drewN]⟩
      case measure => simp [intOf]; omega
    · go_wp2
      go_ret
      exact ⟨rfl, by rw [HW.out]; exact bl_drewN (Below.refl _ _) _⟩
theorem PB_u32_keepR {w w1 : World} {p : Option Addr} {xs : List Int} (hb : Below w.heap.size w w1) (h : PB_u32 w w.heap.size p xs) : PB_u32 w1 w1.heap.size p xs := fun hne => by
  obtain ⟨b, o, h1, h2, h3⟩ := h hne
  exact ⟨b, o, h1, Nat.lt_of_lt_of_le h2 hb.size, fun i hi => by rw [hb.cell (p := ⟨b, o + i, none⟩) h2]; exact h3 i hi⟩
theorem tdiv_ediv {S M : Int} (h : 0 ≤ S) (e : S.ediv 24 = M) : S.tdiv 24 = M := by rw [Int.tdiv_eq_ediv_of_nonneg h]; exact e
/-- What is known of a scene that was drawn. -/
structure RdF (xs : List Int) (lo hi me wt md : Int) (s : ByteArray) : Prop where
  text : ∀ w, Calls Tryz.prog 7 #[.agg (arr .i8 xs)] w fun e w' => e = .returned (.string s) ∧ Below w.heap.size w w'
  read : ∀ w, EV w → Calls Tryz.prog 6 #[.string s] w fun e w' => e = .returned (.tuple #[.agg (arr .i8 xs), .int .i64 0]) ∧ Below w.heap.size w w'
  rng : ∀ w, Calls Tryz.prog 8 #[.agg (arr .i8 xs)] w fun e w' => e = .returned (.tuple #[.int .i64 lo, .int .i64 hi, .int .i64 0]) ∧ Below w.heap.size w w'
  mean : ∀ w, Calls Tryz.prog 9 #[.agg (arr .i8 xs)] w fun e w' => e = .returned (.tuple #[.int .i64 me, .int .i64 0]) ∧ Below w.heap.size w w'
  wtI : ∀ w, Calls Tryz.prog 10 #[.agg (arr .i8 xs)] w fun e w' => e = .returned (.tuple #[.int .i64 wt, .int .i64 0]) ∧ Below w.heap.size w w'
  wtS : ∀ w, Calls Tryz.prog 12 #[.agg (arr .i8 xs)] w fun e w' => e = .returned (.tuple #[.int .i64 wt, .int .i64 0]) ∧ Below w.heap.size w w'
  med : ∀ w, Calls Tryz.prog 11 #[.agg (arr .i8 xs)] w fun e w' => e = .returned (.tuple #[.int .i64 md, .int .i64 0]) ∧ Below w.heap.size w w'
  valid : ∀ w, Calls Tryz.prog 13 #[.agg (arr .i8 xs)] w fun e w' => e = .returned (.bool true) ∧ Below w.heap.size w w'
  m1 : lo ≤ me
  m2 : me ≤ hi
  w1 : lo ≤ wt
  w2 : wt ≤ hi
  b0 : 0 ≤ lo
  b1 : hi ≤ 60
  each : ∀ k, k < 24 → lo ≤ xs.getD k 0 ∧ xs.getD k 0 ≤ hi
  less : lessK xs md 24 ≤ 11
  same : 12 ≤ sameK xs md 24
  sum : (sumC one xs 24).tdiv 24 = me
  elo : lo = minK xs 24
  ehi : hi = maxK xs 24
theorem scT_small {xs : List Int} (ok : okS xs = true) : (scT xs 24).size ≤ 1048576 := by
  have := scT_size xs (okS_get ok) 24
  omega
theorem rdf_of {xs : List Int} (hs : Sc xs) (ok : okS xs = true) : ∃ lo hi me wt md s, RdF xs lo hi me wt md s := by
  have hp1 : 0 < cnt one 24 := by decide
  have mb := mean_between one one_wt hp1 xs
  have wb := mean_between heavy heavy_wt cnt_heavy24 xs
  have hz := scT_small ok
  have hle := less_med hs.1 ok
  have hsa := same_med hs.1 ok
  have eM : medRV xs = ((sortN xs 61).getD 11 0, 0) := by unfold medRV; rw [if_pos ok]
  generalize (sortN xs 61).getD 11 0 = md at hle hsa eM
  refine ⟨minK xs 24, maxK xs 24, meanOf one xs, meanOf heavy xs, md, scT xs 24, ?_⟩
  refine { text := fun w => ?_, read := fun w hE => ?_, rng := fun w => ?_, mean := fun w => ?_, wtI := fun w => ?_, wtS := fun w => ?_, med := fun w => ?_, valid := fun w => ?_, m1 := mb.1, m2 := mb.2, w1 := wb.1, w2 := wb.2, b0 := (minK_bd ok 24).1, b1 := (maxK_bd ok 24).2, each := fun k hk => ⟨minK_le xs 24 k hk, le_maxK xs 24 k hk⟩, less := hle, same := hsa, sum := tdiv_ediv (sumOne_bd ok 24).1 (sum_mean xs), elo := rfl, ehi := rfl }
  · have := implSceneTextP_c xs hs w
    unfold sctV at this
    rwa [ok] at this
  · have := implRS_c (scT xs 24) hz (fun i => Nat.le_trans (getDR_size (fun p hp => splitBR_size ⟨#[32]⟩ _ _ p hp) i) (by rw [repT_size]; exact hz)) w hE
    rwa [rsV_text hs.1 ok] at this
  · have := implSceneRange_c xs hs w
    have e : rangeV xs = (minK xs 24, maxK xs 24, 0) := by unfold rangeV; rw [if_pos ok]
    rwa [e] at this
  · have := implMeanReading_c xs hs w
    have e : meanV xs = (meanOf one xs, 0) := by unfold meanV; rw [if_pos ok]
    rwa [e] at this
  · have := implWeightedReading_c xs hs w
    have e : heavyV xs = (meanOf heavy xs, 0) := by unfold heavyV; rw [if_pos ok]
    rwa [e] at this
  · have := specWeightedReading_c xs hs w
    have e : heavyV xs = (meanOf heavy xs, 0) := by unfold heavyV; rw [if_pos ok]
    rwa [e] at this
  · have := implMedR_c xs hs w
    rwa [eM] at this
  · have := implValidScene_c xs hs w
    rwa [ok] at this
/-- What is known of a field. -/
structure FdF (xs : List Int) (f lo hi fm fc : Int) : Prop where
  I : ∀ w, Calls Tryz.prog 15 #[.agg (arr .i8 xs), .int .u32 f] w fun e w' => e = .returned (.tuple #[.int .i64 fm, .int .i64 fc]) ∧ Below w.heap.size w w'
  S : ∀ w, Calls Tryz.prog 16 #[.agg (arr .i8 xs), .int .u32 f] w fun e w' => e = .returned (.tuple #[.int .i64 fm, .int .i64 fc]) ∧ Below w.heap.size w w'
  code : (f = 0 ∧ fc = 4) ∨ (f ≠ 0 ∧ fc = 0 ∧ lo ≤ fm ∧ fm ≤ hi)
theorem fdf_of {xs : List Int} (hs : Sc xs) (ok : okS xs = true) {f : Int} (f0 : 0 ≤ f) (f1 : f < 16777216) : ∃ fm fc, FdF xs f (minK xs 24) (maxK xs 24) fm fc := by
  refine ⟨(fieldV xs f).1, (fieldV xs f).2, fun w => implFieldMean_c xs hs f ⟨f0, by omega⟩ w, fun w => specFieldMean_c xs hs f ⟨f0, by omega⟩ w, ?_⟩
  by_cases h : f = 0
  · left
    refine ⟨h, ?_⟩
    subst h
    simp [fieldV, ok]
  · right
    have hd : f / 16777216 = 0 := by omega
    have e : fieldV xs f = (meanOf (bitOf f) xs, 0) := by simp [fieldV, ok, hd, h]
    have mb := mean_between (bitOf f) (bit_wt f) (cnt_pos f (by omega) f1) xs
    rw [e]
    exact ⟨h, rfl, mb.1, mb.2⟩
/-- What is known of the contrast. -/
structure CnF (xs : List Int) (a b x y d : Int) : Prop where
  c1 : ∀ w, Calls Tryz.prog 18 #[.agg (arr .i8 xs), .int .i64 a, .int .i64 b] w fun e w' => e = .returned (.tuple #[.int .i64 x, .int .i64 0]) ∧ Below w.heap.size w w'
  c2 : ∀ w, Calls Tryz.prog 18 #[.agg (arr .i8 xs), .int .i64 (a + 1), .int .i64 b] w fun e w' => e = .returned (.tuple #[.int .i64 y, .int .i64 0]) ∧ Below w.heap.size w w'
  c3 : ∀ w, Calls Tryz.prog 18 #[.agg (arr .i8 xs), .int .i64 0, .int .i64 0] w fun e w' => e = .returned (.tuple #[.int .i64 d, .int .i64 0]) ∧ Below w.heap.size w w'
  l1 : x ≤ d
  l2 : y ≤ x
  l3 : 0 ≤ y
theorem cnf_of {xs : List Int} (hs : Sc xs) (ok : okS xs = true) {a b : Int} (a0 : 0 ≤ a) (a1 : a < 12) (b0 : 0 ≤ b) (b1 : b < 12) : ∃ x y, CnF xs a b x y (maxK xs 24 - minK xs 24) := by
  obtain ⟨x, y, e1, e2, e3, h1, h2, h3⟩ := con_facts hs.1 ok a b a0 a1 b0 b1
  refine ⟨x, y, fun w => ?_, fun w => ?_, fun w => ?_, h1, h2, h3⟩
  · have := implConR_c xs hs a b w; rwa [e1] at this
  · have := implConR_c xs hs (a + 1) b w; rwa [e2] at this
  · have := implConR_c xs hs 0 0 w; rwa [e3] at this
theorem afV_eq {xs : List Int} (ok : okS xs = true) {wi : Int} (h0 : 0 ≤ wi) (h1 : wi < 20) : afV xs wi = (natI (alN xs wi 24), 0) := by
  unfold afV
  rw [if_pos ok, if_pos ((rdB_iff wi).2 ⟨h0, by omega⟩), alN_eq]; rfl
theorem orN_lt {xs : List Int} {wi : Int} {L : List Nat} (h : AlOk xs wi L) : ∀ k, k ≤ L.length → orN (L.take k) < 2 ^ 24
  | 0, _ => by simp [orN]
  | k + 1, hk => by
    have ih := orN_lt h k (by omega)
    rw [List.take_succ_eq_append_getElem (by omega), orN_append]
    have e : L[k]'(by omega) = L.getD k 0 := by simp [List.getD_eq_getElem?_getD, show k < L.length by omega]
    rw [e]
    have := h.lt k (by omega)
    refine Nat.or_lt_two_pow ih ?_
    simpa [orN] using this
theorem orN_succ {L : List Nat} {k : Nat} (hk : k < L.length) : orN (L.take (k + 1)) = orN (L.take k) ||| L.getD k 0 := by
  rw [List.take_succ_eq_append_getElem hk, orN_append]
  have e : L[k] = L.getD k 0 := by simp [List.getD_eq_getElem?_getD, hk]
  rw [e]; simp [orN]
end Go.Proofs.YtbafbfamjjmngaaGreatDoor
