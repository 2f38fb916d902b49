/- ReadStrip: the law's walk. -/
import Derived.Test.YtbafbfamjjmngaaDoorStI
import Derived.BigQuiet
namespace Go.Proofs.YtbafbfamjjmngaaDoor
open Go.RowKit
theorem ext_size (s : ByteArray) (a b : Nat) : (s.extract a b).size ≤ s.size := by rw [ByteArray.size_extract]; omega
theorem spO_size (s : ByteArray) (c : Nat) : ∀ i p, p ∈ (spO s c i).1 → p.size ≤ s.size
  | 0, p, h => by simp [spO] at h
  | i + 1, p, h => by
    unfold spO at h
    split at h
    · rw [List.mem_append, List.mem_singleton] at h
      rcases h with h | rfl
      · exact spO_size s c i p h
      · exact ext_size _ _ _
    · exact spO_size s c i p h
theorem spL_size (s : ByteArray) (c : Nat) (p : ByteArray) (h : p ∈ spL s c) : p.size ≤ s.size := by
  unfold spL at h
  rw [List.mem_append, List.mem_singleton] at h
  rcases h with h | rfl
  · exact spO_size s c _ p h
  · exact ext_size _ _ _
theorem getD_size {l : List ByteArray} {n : Nat} (h : ∀ p, p ∈ l → p.size ≤ n) (i : Nat) : (l.getD i ⟨#[]⟩).size ≤ n := by
  by_cases hi : i < l.length
  · rw [List.getD_eq_getElem?_getD, List.getElem?_eq_getElem hi]
    exact h _ (List.getElem_mem hi)
  · rw [List.getD_eq_getElem?_getD, List.getElem?_eq_none (by omega)]
    exact Nat.zero_le _
theorem splitB_size (sep : ByteArray) : ∀ (k : Nat) (s p : ByteArray), p ∈ Lib.splitB sep 0 k s → p.size ≤ s.size
  | 0, s, p, h => by
    rw [Lib.splitB_zero, List.mem_singleton] at h
    rw [h]; exact Nat.le_refl _
  | k + 1, s, p, h => by
    unfold Lib.splitB at h
    split at h
    · rw [List.mem_singleton] at h
      rw [h]; exact Nat.le_refl _
    · rw [List.mem_cons] at h
      rcases h with rfl | h
      · exact ext_size _ _ _
      · exact Nat.le_trans (splitB_size sep k _ p h) (ext_size _ _ _)
theorem eqStrip_same (a e b : Int) (w : World) :
    Calls Tryd.prog 6 #[.agg #[.int .i8 a, .int .i8 e, .int .i8 b], .agg #[.int .i8 a, .int .i8 e, .int .i8 b]] w fun x w' => x = .returned (.bool true) ∧ Below w.heap.size w w' := by
  have s1 : (a != a) = false := by simp
  have s2 : (e != e) = false := by simp
  have s3 : (b != b) = false := by simp
  go_enter Tryd.func6, Tryd.ntmps6
  go_wp2
  go_ret
  exact ⟨rfl, bl2 _ _ _⟩
set_option maxHeartbeats 1000000 in
set_option maxRecDepth 100000 in
theorem lawReadStrip_c (t : ByteArray) (w : World) (hE : EV w) :
    Calls Tryd.prog 3 #[.string t] w fun e w' => e = .returned (.bool true) ∧ Below w.heap.size w w' := by
  by_cases hz : (t.size : Int) > 1048576
  · go_enter Tryd.func3, Tryd.ntmps3
    go_wp2
    go_ret
    exact ⟨rfl, Below.refl _ _⟩
  have hm : t.size ≤ 1048576 := by omega
  have HE := Lib.hid hE
  have HCS := Lib.hid (fun w0 => specSr_c t hm w0)
  have HCI := Lib.hid (fun w0 h0 => implSr_c t hm (fun i => Nat.le_trans (getD_size (fun p hp => splitB_size ⟨#[32]⟩ _ _ p hp) i) hm) w0 h0)
  clear hE
  generalize hR : srV t = R at *
  obtain ⟨⟨x, y, z⟩, c⟩ := R
  clear hR
  go_enter Tryd.func3, Tryd.ntmps3
  go_wp2_with fail
  refine (HCS.out _).mono ?_
  rintro e w1 ⟨rfl, hb1⟩
  have hbA := bl1 w1 (.cells #[.int .i8 x, .int .i8 y, .int .i8 z] 24)
  have K2 := Lib.hid (al1_0 w1 (.cells #[.int .i8 x, .int .i8 y, .int .i8 z] 24))
  have E2 := Lib.hid (ev_below hbA (ev_below hb1 HE.out))
  have HB2 := Lib.hid (bt hb1 hbA)
  clear hb1 hbA
  go_wp2_with fail
  generalize w1.alloc (.cells #[.int .i8 x, .int .i8 y, .int .i8 z] 24) = w2 at *
  generalize w1.heap.size = ga at *
  refine (HCI.out _ E2.out).mono ?_
  rintro e w3 ⟨rfl, hb3⟩
  have hbA := bl1 w3 (.cells #[.int .i8 x, .int .i8 y, .int .i8 z] 24)
  have J4 := Lib.hid (al1_0 w3 (.cells #[.int .i8 x, .int .i8 y, .int .i8 z] 24))
  have K4 := Lib.hid (heap_below hbA (lt_of_heap (heap_below hb3 (lt_of_heap K2.out) K2.out)) (heap_below hb3 (lt_of_heap K2.out) K2.out))
  have HB4 := Lib.hid (bt (bt HB2.out hb3) hbA)
  clear hb3 hbA HB2 K2 E2
  have e2 : (c != c) = false := by simp
  have k0 := blk3_0 K4.out
  have k1 := blk3_1 K4.out
  have k2 := blk3_2 K4.out
  have j0 := blk3_0 J4.out
  have j1 := blk3_1 J4.out
  have j2 := blk3_2 J4.out
  go_wp2_with (go_at_call 6; refine (eqStrip_same x y z _).mono ?_; rintro e9 w9 ⟨rfl, hb9⟩)
  go_ret
  exact ⟨rfl, bt HB4.out hb9⟩
end Go.Proofs.YtbafbfamjjmngaaDoor
