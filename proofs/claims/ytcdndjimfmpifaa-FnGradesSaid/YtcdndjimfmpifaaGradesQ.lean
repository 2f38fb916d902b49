/- FnGrades: where the papers lie; equal lists. -/
import Derived.Test.YtcdndjimfmpifaaGradesP
import Derived.Test.YtcdndjimfmpifaaLstInt64S
import Derived.Test.YtcdndjimfmpifaaOrdM
import Derived.Test.YtcdndjimfmpifaaOrdS
import Derived.Test.YtcdndjimfmpifaaBytesApp
import Derived.Lib.QuietBelow
namespace Go.Proofs.Ytcdndjimfmpifaa
open Go.RowKit Go.Lib
theorem infoU8G : (Try.prog.info? 5).map (fun i => (i.zero, i.size, i.bytes)) = some (some (.int .u8 0), 1, 1) := by kernel_rfl
theorem PB_i64_keep {w w1 : World} {p : Option Addr} {xs : List Int} (hb : Below w.heap.size w w1) (h : PB_i64 w w.heap.size p xs) : PB_i64 w1 w1.heap.size p xs := fun hne => by
  obtain ⟨b, o, h1, h2, h3⟩ := h hne
  exact ⟨b, o, h1, Nat.lt_of_lt_of_le h2 hb.size, fun i hi => by rw [hb.cell (p := ⟨b, o + i, none⟩) h2]; exact h3 i hi⟩
/-- Three papers in the block gg. -/
structure In3 (w : World) (gg : Nat) (r0 : Option Addr) (m0 c0 : Nat) (q0 : Cv) (r1 : Option Addr) (m1 c1 : Nat) (q1 : Cv) (r2 : Option Addr) (m2 c2 : Nat) (q2 : Cv) : Prop where
  at_ : w.heap[gg]? = some (.cells #[.slice r0 m0 c0, .slice r1 m1 c1, .slice r2 m2 c2] 40 (0, 0))
  v0 : CvS w r0 q0
  v1 : CvS w r1 q1
  v2 : CvS w r2 q2
theorem in3_below {w w1 : World} {gg : Nat} {r0 : Option Addr} {m0 c0 : Nat} {q0 : Cv} {r1 : Option Addr} {m1 c1 : Nat} {q1 : Cv} {r2 : Option Addr} {m2 c2 : Nat} {q2 : Cv} (hb : Below w.heap.size w w1) (h : In3 w gg r0 m0 c0 q0 r1 m1 c1 q1 r2 m2 c2 q2) : In3 w1 gg r0 m0 c0 q0 r1 m1 c1 q1 r2 m2 c2 q2 :=
  ⟨heap_below hb (lt_of_heap h.at_) h.at_, CvS_below hb h.v0, CvS_below hb h.v1, CvS_below hb h.v2⟩
/-- Lengths and what the papers are. -/
structure Len3 (cs : List Cv) (m0 : Nat) (q0 : Cv) (m1 : Nat) (q1 : Cv) (m2 : Nat) (q2 : Cv) : Prop where
  t : Three cs q0 q1 q2
  l0 : m0 = q0.length
  l1 : m1 = q1.length
  l2 : m2 = q2.length
theorem Len3.b0 {cs : List Cv} {m0 : Nat} {q0 : Cv} {m1 : Nat} {q1 : Cv} {m2 : Nat} {q2 : Cv} (h : Len3 cs m0 q0 m1 q1 m2 q2) : m0 ≤ 1048576 := by have := h.t.p0.le; have := h.l0; omega
theorem Len3.b1 {cs : List Cv} {m0 : Nat} {q0 : Cv} {m1 : Nat} {q1 : Cv} {m2 : Nat} {q2 : Cv} (h : Len3 cs m0 q0 m1 q1 m2 q2) : m1 ≤ 1048576 := by have := h.t.p1.le; have := h.l1; omega
theorem Len3.b2 {cs : List Cv} {m0 : Nat} {q0 : Cv} {m1 : Nat} {q1 : Cv} {m2 : Nat} {q2 : Cv} (h : Len3 cs m0 q0 m1 q1 m2 q2) : m2 ≤ 1048576 := by have := h.t.p2.le; have := h.l2; omega
theorem in3_at {w : World} {gg : Nat} {cs : List Cv} {r0 : Option Addr} {m0 c0 : Nat} {q0 : Cv} {r1 : Option Addr} {m1 c1 : Nat} {q1 : Cv} {r2 : Option Addr} {m2 c2 : Nat} {q2 : Cv} (l : Len3 cs m0 q0 m1 q1 m2 q2) (h : In3 w gg r0 m0 c0 q0 r1 m1 c1 q1 r2 m2 c2 q2) (k : Nat) (hk : k < 3) :
    ∃ r m cap, w.cell? ⟨gg, k, none⟩ = some (.slice r m cap) ∧ m = (cs.getD k []).length ∧ m ≤ 1048576 ∧ CvS w r (cs.getD k []) := by
  rw [l.t.eq]
  match k, hk with
  | 0, _ => exact ⟨_, _, _, blk3_0 h.at_, l.l0, l.b0, h.v0⟩
  | 1, _ => exact ⟨_, _, _, blk3_1 h.at_, l.l1, l.b1, h.v1⟩
  | 2, _ => exact ⟨_, _, _, blk3_2 h.at_, l.l2, l.b2, h.v2⟩
theorem in3_grs {w : World} {gg : Nat} {cs : List Cv} {r0 : Option Addr} {m0 c0 : Nat} {q0 : Cv} {r1 : Option Addr} {m1 c1 : Nat} {q1 : Cv} {r2 : Option Addr} {m2 c2 : Nat} {q2 : Cv} (l : Len3 cs m0 q0 m1 q1 m2 q2) (h : In3 w gg r0 m0 c0 q0 r1 m1 c1 q1 r2 m2 c2 q2) : GrS w (some ⟨gg, 0, none⟩) cs := fun _ =>
  ⟨gg, 0, rfl, lt_of_heap h.at_, fun i hi => by rw [Nat.zero_add]; exact in3_at l h i (by rw [← l.t.len]; exact hi)⟩
theorem tabP {w' : World} {base : Nat} {v : Value} {q q2 : Cv} {T : List Int} (hT : T = tabL q q2 37) (hR : Row w' base 2 .i64 v (tabL q q2 37)) : ∃ p c, v = .slice p 37 c ∧ PB_i64 w' w'.heap.size p T := by
  obtain ⟨p, c, hv, hp⟩ := PB_i64_row hR
  rw [tabL_len] at hv
  exact ⟨p, c, hv, by rw [hT]; exact hp⟩
theorem cTableP_c (p : Option Addr) (n cap : Nat) (q : Cv) (hq : Pap q) (hn : n = q.length) (hm : n ≤ 1048576) (p2 : Option Addr) (n2 cap2 : Nat) (q2 : Cv) (hq2 : Pap q2) (hn2 : n2 = q2.length) (hm2 : n2 ≤ 1048576) (T : List Int) (hT : T = tabL q q2 37) (w : World) (hp : CvS w p q) (hp2 : CvS w p2 q2) :
    Calls Try.prog 27 #[.slice p n cap, .slice p2 n2 cap2] w fun e w' => ∃ s c, e = .returned (.tuple #[.slice s 37 c, .int .i64 0]) ∧ PB_i64 w' w'.heap.size s T ∧ Below w.heap.size w w' := by
  refine (cTable_c p n cap q hq hn hm p2 n2 cap2 q2 hq2 hn2 hm2 w hp hp2).mono ?_
  rintro e w' ⟨v, rfl, hR, hb⟩
  obtain ⟨s, c, rfl, hP⟩ := tabP hT hR
  exact ⟨s, c, rfl, hP, hb⟩
theorem cSpecTableP_c (p : Option Addr) (n cap : Nat) (q : Cv) (hq : Pap q) (hn : n = q.length) (hm : n ≤ 1048576) (p2 : Option Addr) (n2 cap2 : Nat) (q2 : Cv) (hq2 : Pap q2) (hn2 : n2 = q2.length) (hm2 : n2 ≤ 1048576) (T : List Int) (hT : T = tabL q q2 37) (w : World) (hp : CvS w p q) (hp2 : CvS w p2 q2) :
    Calls Try.prog 28 #[.slice p n cap, .slice p2 n2 cap2] w fun e w' => ∃ s c, e = .returned (.tuple #[.slice s 37 c, .int .i64 0]) ∧ PB_i64 w' w'.heap.size s T ∧ Below w.heap.size w w' := by
  refine (cSpecTable_c p n cap q hq hn hm p2 n2 cap2 q2 hq2 hn2 hm2 w hp hp2).mono ?_
  rintro e w' ⟨v, rfl, hR, hb⟩
  obtain ⟨s, c, rfl, hP⟩ := tabP hT hR
  exact ⟨s, c, rfl, hP, hb⟩
set_option maxHeartbeats 400000 in
theorem l00Same_c (xs : List Int) (p1 p2 : Option Addr) (n c1 c2 : Nat) (hn : n = xs.length) (hm : n ≤ 1048576) (w : World) (B1 B2 : Nat) (h1 : PB_i64 w B1 p1 xs) (h2 : PB_i64 w B2 p2 xs) :
    Calls Try.prog 58 #[.slice p1 n c1, .slice p2 n c2] w fun e w' => e = .returned (.bool true) ∧ Below w.heap.size w w' := by
  have HN := Lib.hid hn
  have H1 := Lib.hid h1
  have H2 := Lib.hid h2
  clear hn h1 h2
  go_enter Try.func58, Try.ntmps58
  go_wp2
  go_loopw [5] (fun i wr => ∃ k q : Nat, k ≤ n ∧ i = .int .i64 k ∧ wr = w.drewN q) (fun i _ => n - (intOf i).toNat)
  case atStart => exact ⟨0, 0, Nat.zero_le _, rfl, rfl⟩
  case round =>
    obtain ⟨k, q, hk, rfl, hW⟩ := hrel
    have HW := Lib.hid hW
    clear hW
    by_cases hlt : k < n
    · obtain ⟨b1, o1, rfl, _, hc1⟩ := H1.out (neL_of_lt_i64 (k := k) (by have := HN.out; omega))
      obtain ⟨b2, o2, rfl, _, hc2⟩ := H2.out (neL_of_lt_i64 (k := k) (by have := HN.out; omega))
      have d1 := hc1 k (by have := HN.out; omega)
      have d2 := hc2 k (by have := HN.out; omega)
      have e1 : wr.cell? ⟨b1, o1 + k, none⟩ = some (.int .i64 (xs.getD k 0)) := by rw [HW.out, World.cell?_drewN]; exact d1
      have e2 : wr.cell? ⟨b2, o2 + k, none⟩ = some (.int .i64 (xs.getD k 0)) := by rw [HW.out, World.cell?_drewN]; exact d2
      generalize xs.getD k 0 = x at *
      have hself : (x != x) = false := by simp
      clear hc1 hc2 d1 d2
      go_wp2_with fail
      go_quiet (fail)
      go_wp2
      go_roundw
      case rel => exact ⟨k + 1, q + nq, by omega, by go_num, by rw [HW.out, World.drewN_drewN]⟩
      case measure => simp [intOf]; omega
    · go_wp2
      go_ret
      exact ⟨rfl, by rw [HW.out]; exact bl_drewN (Below.refl _ _) _⟩
theorem sameNumbers_c (xs : List Int) (p1 p2 : Option Addr) (n c1 c2 : Nat) (hn : n = xs.length) (hm : n ≤ 1048576) (w : World) (B1 B2 : Nat) (h1 : PB_i64 w B1 p1 xs) (h2 : PB_i64 w B2 p2 xs) :
    Calls Try.prog 23 #[.slice p1 n c1, .slice p2 n c2] w fun e w' => e = .returned (.bool true) ∧ Below w.heap.size w w' := by
  have HN := Lib.hid hn
  have H1 := Lib.hid h1
  have H2 := Lib.hid h2
  clear hn h1 h2
  go_enter Try.func23, Try.ntmps23
  go_wp2_with fail
  refine (l00Same_c xs p1 p2 n c1 c2 HN.out hm _ B1 B2 H1.out H2.out).mono ?_
  rintro e w1 ⟨rfl, hb⟩
  go_wp2
  go_ret
  exact ⟨rfl, hb⟩
end Go.Proofs.Ytcdndjimfmpifaa
