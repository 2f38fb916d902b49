/- DevelopBy and BrighterField: the program's and the reference's. -/
import Derived.Test.YtmnidldpkkpeoaaMeanL
namespace Go.Proofs.Ytmnidldpkkpeoaa
open Go.RowKit
theorem sumC_between {c : Nat → Int} (hc : Wt c) {xs : List Int} (lo hi : Int) (n : Nat) (h : ∀ i, i < n → lo ≤ xs.getD i 0 ∧ xs.getD i 0 ≤ hi) : lo * cnt c n ≤ sumC c xs n ∧ sumC c xs n ≤ hi * cnt c n := by
  induction n with
  | zero => simp [sumC, cnt]
  | succ n ih =>
    have ih := ih (fun i hi => h i (by omega))
    have b := h n (by omega)
    have e1 := Int.mul_le_mul_of_nonneg_left b.1 (hc n).1
    have e2 := Int.mul_le_mul_of_nonneg_left b.2 (hc n).1
    simp only [sumC, cnt, Int.mul_add]
    rw [Int.mul_comm lo (c n), Int.mul_comm hi (c n)]
    omega
theorem meanOf_between {c : Nat → Int} (hc : Wt c) (hp : 0 < cnt c 24) {xs : List Int} (lo hi : Int) (h : ∀ i, i < 24 → lo ≤ xs.getD i 0 ∧ xs.getD i 0 ≤ hi) : lo ≤ meanOf c xs ∧ meanOf c xs ≤ hi := by
  have b := sumC_between hc lo hi 24 h
  unfold meanOf
  exact ⟨(Int.le_ediv_iff_mul_le hp).2 b.1, Int.lt_add_one_iff.1 (Int.ediv_lt_of_lt_mul hp (by rw [Int.add_mul]; omega))⟩
theorem fieldV_bd (xs : List Int) (f : Int) (hf : 0 ≤ f ∧ f ≤ 4294967295) : 0 ≤ (fieldV xs f).1 ∧ (fieldV xs f).1 ≤ 60 := by
  unfold fieldV
  split
  · rename_i hok
    split
    · split
      · simp
      · exact meanOf_between (bit_wt f) (cnt_pos f (by omega) (by omega)) 0 60 (fun i _ => okS_get hok i)
    · simp
  · simp
def twoV (p q : Int × Int) : Int × Int × Int := if p.2 = 0 then (if q.2 = 0 then (p.1, q.1, 0) else (0, 0, q.2)) else (0, 0, p.2)
def twoI (p q : Int × Int) : Int × Int × Int := if p.2 = 0 then (p.1, q.1, q.2) else (0, 0, p.2)
def devV (t : Int × Int × Int) : Int × Int := if t.2.2 = 0 then (if t.2.1 < t.1 then (0, 4) else (5 - (t.2.1 - t.1 + 1) / 3, 0)) else (0, t.2.2)
def briV (t : Int × Int × Int) : Int × Int := if t.2.2 = 0 then (if t.1 > t.2.1 then (1, 0) else if t.1 < t.2.1 then (-1, 0) else (0, 0)) else (0, t.2.2)
theorem two_same (f : Int × Int × Int → Int × Int) (h : ∀ a b c, c ≠ 0 → f (a, b, c) = f (0, 0, c)) (p q : Int × Int) : f (twoI p q) = f (twoV p q) := by
  unfold twoI twoV
  split
  · split
    · rename_i h2; rw [h2]
    · rename_i h2; exact h _ _ _ h2
  · rfl
theorem dev_same (p q : Int × Int) : devV (twoI p q) = devV (twoV p q) := two_same devV (fun a b c h => by simp [devV, h]) p q
theorem bri_same (p q : Int × Int) : briV (twoI p q) = briV (twoV p q) := two_same briV (fun a b c h => by simp [briV, h]) p q
set_option maxHeartbeats 400000 in
theorem l06Fields_c (xs : List Int) (hs : Sc xs) (a b : Int) (ha : 0 ≤ a ∧ a ≤ 4294967295) (hb : 0 ≤ b ∧ b ≤ 4294967295) (g : Nat) (t : TypeId) (w : World) (hg : w.heap[g]? = some (.cells (arr .i8 xs) t (0, 0))) :
    Calls Try.prog 53 #[.pointer (some ⟨g, 0, none⟩), .int .u32 a, .int .u32 b] w fun e w' => e = .returned (.tuple #[.int .i64 (twoV (fieldV xs a) (fieldV xs b)).1, .int .i64 (twoV (fieldV xs a) (fieldV xs b)).2.1, .int .i64 (twoV (fieldV xs a) (fieldV xs b)).2.2]) ∧ Below w.heap.size w w' := by
  obtain ⟨⟨v1, c1⟩, e1⟩ : ∃ p, fieldV xs a = p := ⟨_, rfl⟩
  obtain ⟨⟨v2, c2⟩, e2⟩ : ∃ p, fieldV xs b = p := ⟨_, rfl⟩
  have E1 := Lib.hid e1
  have E2 := Lib.hid e2
  have HG := Lib.hid hg
  clear hg e1 e2
  by_cases h1 : c1 = 0
  · subst h1
    by_cases h2 : c2 = 0
    · subst h2
      have HV : Hid (twoV (fieldV xs a) (fieldV xs b) = (v1, v2, 0)) := Lib.hid (by rw [E1.out, E2.out]; rfl)
      go_enter Try.func53, Try.ntmps53
      go_wp2_with fail
      refine (l06Field_c xs hs a ha _ _ _ HG.out).mono ?_
      rintro e w1 ⟨rfl, hb1⟩
      rw [E1.out]
      go_wp2_with fail
      refine (l06Field_c xs hs b hb _ _ _ (heap_below hb1 (lt_of_heap HG.out) HG.out)).mono ?_
      rintro e w2 ⟨rfl, hb2⟩
      rw [E2.out]
      go_wp2
      go_ret3
      exact ⟨by rw [HV.out] <;> rfl, bt hb1 hb2⟩
    · have HV : Hid (twoV (fieldV xs a) (fieldV xs b) = (0, 0, c2)) := Lib.hid (by rw [E1.out, E2.out]; simp [twoV, h2])
      have d2 : (c2 != 0) = true := by simpa using h2
      clear h2
      go_enter Try.func53, Try.ntmps53
      go_wp2_with fail
      refine (l06Field_c xs hs a ha _ _ _ HG.out).mono ?_
      rintro e w1 ⟨rfl, hb1⟩
      rw [E1.out]
      go_wp2_with fail
      refine (l06Field_c xs hs b hb _ _ _ (heap_below hb1 (lt_of_heap HG.out) HG.out)).mono ?_
      rintro e w2 ⟨rfl, hb2⟩
      rw [E2.out]
      go_wp2
      go_ret3
      exact ⟨by rw [HV.out] <;> rfl, bt hb1 hb2⟩
  · have HV : Hid (twoV (fieldV xs a) (fieldV xs b) = (0, 0, c1)) := Lib.hid (by rw [E1.out]; simp [twoV, h1])
    have d1 : (c1 != 0) = true := by simpa using h1
    clear h1
    go_enter Try.func53, Try.ntmps53
    go_wp2_with fail
    refine (l06Field_c xs hs a ha _ _ _ HG.out).mono ?_
    rintro e w1 ⟨rfl, hb1⟩
    rw [E1.out]
    go_wp2
    go_ret3
    exact ⟨by rw [HV.out] <;> rfl, hb1⟩
set_option maxHeartbeats 400000 in
theorem twoMeans_c (xs : List Int) (hs : Sc xs) (a b : Int) (ha : 0 ≤ a ∧ a ≤ 4294967295) (hb : 0 ≤ b ∧ b ≤ 4294967295) (w : World) :
    Calls Try.prog 52 #[.agg (arr .i8 xs), .int .u32 a, .int .u32 b] w fun e w' => e = .returned (.tuple #[.int .i64 (twoI (fieldV xs a) (fieldV xs b)).1, .int .i64 (twoI (fieldV xs a) (fieldV xs b)).2.1, .int .i64 (twoI (fieldV xs a) (fieldV xs b)).2.2]) ∧ Below w.heap.size w w' := by
  have HL := Lib.hid hs.1
  have H0 := Lib.hid (al1_0 w (.cells (arr .i8 xs) 27))
  obtain ⟨⟨v1, c1⟩, e1⟩ : ∃ p, fieldV xs a = p := ⟨_, rfl⟩
  obtain ⟨⟨v2, c2⟩, e2⟩ : ∃ p, fieldV xs b = p := ⟨_, rfl⟩
  have E1 := Lib.hid e1
  have E2 := Lib.hid e2
  clear e1 e2
  by_cases h1 : c1 = 0
  · subst h1
    have HV : Hid (twoI (fieldV xs a) (fieldV xs b) = (v1, v2, c2)) := Lib.hid (by rw [E1.out, E2.out]; rfl)
    go_enter Try.func52, Try.ntmps52
    go_wp2_with (refine wpList_load_row rfl 27 (.tmp 3) rfl _ rfl _ _ _ _ H0.out Try.underlying27 rfl (by rw [szScene, arr_size, HL.out]) ?_)
    refine (implFieldMean_c xs hs a ha _).mono ?_
    rintro e w1 ⟨rfl, hb1⟩
    rw [E1.out]
    have H1 := Lib.hid (heap_below hb1 (by simp) H0.out)
    go_wp2_with (refine wpList_load_row rfl 27 (.tmp 3) rfl _ rfl _ _ _ _ H1.out Try.underlying27 rfl (by rw [szScene, arr_size, HL.out]) ?_)
    refine (implFieldMean_c xs hs b hb _).mono ?_
    rintro e w2 ⟨rfl, hb2⟩
    rw [E2.out]
    go_wp2
    go_ret3
    exact ⟨by rw [HV.out] <;> rfl, bt (bt (bl1 _ _) hb1) hb2⟩
  · have HV : Hid (twoI (fieldV xs a) (fieldV xs b) = (0, 0, c1)) := Lib.hid (by rw [E1.out]; simp [twoI, h1])
    have d1 : (c1 != 0) = true := by simpa using h1
    clear h1
    go_enter Try.func52, Try.ntmps52
    go_wp2_with (refine wpList_load_row rfl 27 (.tmp 3) rfl _ rfl _ _ _ _ H0.out Try.underlying27 rfl (by rw [szScene, arr_size, HL.out]) ?_)
    refine (implFieldMean_c xs hs a ha _).mono ?_
    rintro e w1 ⟨rfl, hb1⟩
    rw [E1.out]
    go_wp2
    go_ret3
    exact ⟨by rw [HV.out] <;> rfl, bt (bl1 _ _) hb1⟩
/-- What both sides' pairs of means are good for. -/
def Two (t : Int × Int × Int) : Prop := (0 ≤ t.1 ∧ t.1 ≤ 60) ∧ 0 ≤ t.2.1 ∧ t.2.1 ≤ 60
theorem two_v (p q : Int × Int) (hp : 0 ≤ p.1 ∧ p.1 ≤ 60) (hq : 0 ≤ q.1 ∧ q.1 ≤ 60) : Two (twoV p q) := by
  unfold Two twoV; split
  · split
    · exact ⟨hp, hq⟩
    · simp
  · simp
theorem two_i (p q : Int × Int) (hp : 0 ≤ p.1 ∧ p.1 ≤ 60) (hq : 0 ≤ q.1 ∧ q.1 ≤ 60) : Two (twoI p q) := by
  unfold Two twoI; split
  · exact ⟨hp, hq⟩
  · simp
set_option maxHeartbeats 400000 in
theorem specDevelopBy_c (xs : List Int) (hs : Sc xs) (a b : Int) (ha : 0 ≤ a ∧ a ≤ 4294967295) (hb : 0 ≤ b ∧ b ≤ 4294967295) (w : World) :
    Calls Try.prog 20 #[.agg (arr .i8 xs), .int .u32 a, .int .u32 b] w fun e w' => e = .returned (.tuple #[.int .i64 (devV (twoV (fieldV xs a) (fieldV xs b))).1, .int .i64 (devV (twoV (fieldV xs a) (fieldV xs b))).2]) ∧ Below w.heap.size w w' := by
  have HL := Lib.hid hs.1
  have H0 := Lib.hid (al1_0 w (.cells (arr .i8 xs) 27))
  have ht := two_v (fieldV xs a) (fieldV xs b) (fieldV_bd xs a ha) (fieldV_bd xs b hb)
  obtain ⟨⟨v1, v2, c⟩, e1⟩ : ∃ p, twoV (fieldV xs a) (fieldV xs b) = p := ⟨_, rfl⟩
  rw [e1] at ht
  obtain ⟨⟨t1, t2⟩, t3, t4⟩ := ht
  simp only at t1 t2 t3 t4
  have E1 := Lib.hid e1
  have ES : Hid (devV (twoV (fieldV xs a) (fieldV xs b)) = devV (v1, v2, c)) := Lib.hid (by rw [e1])
  clear e1
  by_cases hc : c = 0
  · subst hc
    by_cases h2 : v2 < v1
    · have HV : Hid (devV (twoV (fieldV xs a) (fieldV xs b)) = (0, 4)) := Lib.hid (by rw [ES.out]; simp [devV, h2])
      go_enter Try.func20, Try.ntmps20
      go_wp2_with fail
      refine (l06Fields_c xs hs a b ha hb _ _ _ H0.out).mono ?_
      rintro e w1 ⟨rfl, hb1⟩
      rw [E1.out]
      go_wp2
      go_ret2
      exact ⟨by rw [HV.out] <;> rfl, bt (bl1 _ _) hb1⟩
    · have HV : Hid (devV (twoV (fieldV xs a) (fieldV xs b)) = (5 - (v2 - v1 + 1) / 3, 0)) := Lib.hid (by rw [ES.out]; simp [devV, h2])
      go_enter Try.func20, Try.ntmps20
      go_wp2_with fail
      refine (l06Fields_c xs hs a b ha hb _ _ _ H0.out).mono ?_
      rintro e w1 ⟨rfl, hb1⟩
      rw [E1.out]
      go_wp2
      go_ret2
      exact ⟨by rw [HV.out] <;> rfl, bt (bl1 _ _) hb1⟩
  · have HV : Hid (devV (twoV (fieldV xs a) (fieldV xs b)) = (0, c)) := Lib.hid (by rw [ES.out]; simp [devV, hc])
    have d1 : (c != 0) = true := by simpa using hc
    have d2 : (c == 0) = false := by simpa using hc
    clear hc
    go_enter Try.func20, Try.ntmps20
    go_wp2_with fail
    refine (l06Fields_c xs hs a b ha hb _ _ _ H0.out).mono ?_
    rintro e w1 ⟨rfl, hb1⟩
    rw [E1.out]
    go_wp2
    go_ret2
    exact ⟨by rw [HV.out] <;> rfl, bt (bl1 _ _) hb1⟩
set_option maxHeartbeats 400000 in
theorem implDevelopBy_c (xs : List Int) (hs : Sc xs) (a b : Int) (ha : 0 ≤ a ∧ a ≤ 4294967295) (hb : 0 ≤ b ∧ b ≤ 4294967295) (w : World) :
    Calls Try.prog 19 #[.agg (arr .i8 xs), .int .u32 a, .int .u32 b] w fun e w' => e = .returned (.tuple #[.int .i64 (devV (twoV (fieldV xs a) (fieldV xs b))).1, .int .i64 (devV (twoV (fieldV xs a) (fieldV xs b))).2]) ∧ Below w.heap.size w w' := by
  have HL := Lib.hid hs.1
  have H0 := Lib.hid (al1_0 w (.cells (arr .i8 xs) 27))
  have ht := two_i (fieldV xs a) (fieldV xs b) (fieldV_bd xs a ha) (fieldV_bd xs b hb)
  obtain ⟨⟨v1, v2, c⟩, e1⟩ : ∃ p, twoI (fieldV xs a) (fieldV xs b) = p := ⟨_, rfl⟩
  rw [e1] at ht
  obtain ⟨⟨t1, t2⟩, t3, t4⟩ := ht
  simp only at t1 t2 t3 t4
  have E1 := Lib.hid e1
  have ES : Hid (devV (twoV (fieldV xs a) (fieldV xs b)) = devV (v1, v2, c)) := Lib.hid (by rw [← dev_same, e1])
  clear e1
  by_cases hc : c = 0
  · subst hc
    by_cases h2 : v2 < v1
    · have HV : Hid (devV (twoV (fieldV xs a) (fieldV xs b)) = (0, 4)) := Lib.hid (by rw [ES.out]; simp [devV, h2])
      go_enter Try.func19, Try.ntmps19
      go_wp2_with (refine wpList_load_row rfl 27 (.tmp 3) rfl _ rfl _ _ _ _ H0.out Try.underlying27 rfl (by rw [szScene, arr_size, HL.out]) ?_)
      refine (twoMeans_c xs hs a b ha hb _).mono ?_
      rintro e w1 ⟨rfl, hb1⟩
      rw [E1.out]
      go_wp2
      go_ret2
      exact ⟨by rw [HV.out] <;> rfl, bt (bl1 _ _) hb1⟩
    · have HV : Hid (devV (twoV (fieldV xs a) (fieldV xs b)) = (5 - (v2 - v1 + 1) / 3, 0)) := Lib.hid (by rw [ES.out]; simp [devV, h2])
      go_enter Try.func19, Try.ntmps19
      go_wp2_with (refine wpList_load_row rfl 27 (.tmp 3) rfl _ rfl _ _ _ _ H0.out Try.underlying27 rfl (by rw [szScene, arr_size, HL.out]) ?_)
      refine (twoMeans_c xs hs a b ha hb _).mono ?_
      rintro e w1 ⟨rfl, hb1⟩
      rw [E1.out]
      go_wp2
      go_ret2
      exact ⟨by rw [HV.out] <;> rfl, bt (bl1 _ _) hb1⟩
  · have HV : Hid (devV (twoV (fieldV xs a) (fieldV xs b)) = (0, c)) := Lib.hid (by rw [ES.out]; simp [devV, hc])
    have d1 : (c != 0) = true := by simpa using hc
    have d2 : (c == 0) = false := by simpa using hc
    clear hc
    go_enter Try.func19, Try.ntmps19
    go_wp2_with (refine wpList_load_row rfl 27 (.tmp 3) rfl _ rfl _ _ _ _ H0.out Try.underlying27 rfl (by rw [szScene, arr_size, HL.out]) ?_)
    refine (twoMeans_c xs hs a b ha hb _).mono ?_
    rintro e w1 ⟨rfl, hb1⟩
    rw [E1.out]
    go_wp2
    go_ret2
    exact ⟨by rw [HV.out] <;> rfl, bt (bl1 _ _) hb1⟩
set_option maxHeartbeats 400000 in
theorem specBrighterField_c (xs : List Int) (hs : Sc xs) (a b : Int) (ha : 0 ≤ a ∧ a ≤ 4294967295) (hb : 0 ≤ b ∧ b ≤ 4294967295) (w : World) :
    Calls Try.prog 18 #[.agg (arr .i8 xs), .int .u32 a, .int .u32 b] w fun e w' => e = .returned (.tuple #[.int .i64 (briV (twoV (fieldV xs a) (fieldV xs b))).1, .int .i64 (briV (twoV (fieldV xs a) (fieldV xs b))).2]) ∧ Below w.heap.size w w' := by
  have HL := Lib.hid hs.1
  have H0 := Lib.hid (al1_0 w (.cells (arr .i8 xs) 27))
  have ht := two_v (fieldV xs a) (fieldV xs b) (fieldV_bd xs a ha) (fieldV_bd xs b hb)
  obtain ⟨⟨v1, v2, c⟩, e1⟩ : ∃ p, twoV (fieldV xs a) (fieldV xs b) = p := ⟨_, rfl⟩
  rw [e1] at ht
  obtain ⟨⟨t1, t2⟩, t3, t4⟩ := ht
  simp only at t1 t2 t3 t4
  have E1 := Lib.hid e1
  have ES : Hid (briV (twoV (fieldV xs a) (fieldV xs b)) = briV (v1, v2, c)) := Lib.hid (by rw [e1])
  clear e1
  by_cases hc : c = 0
  · subst hc
    by_cases h2 : v2 < v1
    · have HV : Hid (briV (twoV (fieldV xs a) (fieldV xs b)) = (1, 0)) := Lib.hid (by rw [ES.out]; simp [briV, h2])
      go_enter Try.func18, Try.ntmps18
      go_wp2_with fail
      refine (l06Fields_c xs hs a b ha hb _ _ _ H0.out).mono ?_
      rintro e w1 ⟨rfl, hb1⟩
      rw [E1.out]
      go_wp2
      go_ret2
      exact ⟨by rw [HV.out] <;> rfl, bt (bl1 _ _) hb1⟩
    · by_cases h3 : v1 < v2
      · have HV : Hid (briV (twoV (fieldV xs a) (fieldV xs b)) = (-1, 0)) := Lib.hid (by rw [ES.out]; simp [briV, h2, h3])
        go_enter Try.func18, Try.ntmps18
        go_wp2_with fail
        refine (l06Fields_c xs hs a b ha hb _ _ _ H0.out).mono ?_
        rintro e w1 ⟨rfl, hb1⟩
        rw [E1.out]
        go_wp2
        go_ret2
        exact ⟨by rw [HV.out] <;> rfl, bt (bl1 _ _) hb1⟩
      · have HV : Hid (briV (twoV (fieldV xs a) (fieldV xs b)) = (0, 0)) := Lib.hid (by rw [ES.out]; simp [briV, h2, h3])
        go_enter Try.func18, Try.ntmps18
        go_wp2_with fail
        refine (l06Fields_c xs hs a b ha hb _ _ _ H0.out).mono ?_
        rintro e w1 ⟨rfl, hb1⟩
        rw [E1.out]
        go_wp2
        go_ret2
        exact ⟨by rw [HV.out] <;> rfl, bt (bl1 _ _) hb1⟩
  · have HV : Hid (briV (twoV (fieldV xs a) (fieldV xs b)) = (0, c)) := Lib.hid (by rw [ES.out]; simp [briV, hc])
    have d1 : (c != 0) = true := by simpa using hc
    have d2 : (c == 0) = false := by simpa using hc
    clear hc
    go_enter Try.func18, Try.ntmps18
    go_wp2_with fail
    refine (l06Fields_c xs hs a b ha hb _ _ _ H0.out).mono ?_
    rintro e w1 ⟨rfl, hb1⟩
    rw [E1.out]
    go_wp2
    go_ret2
    exact ⟨by rw [HV.out] <;> rfl, bt (bl1 _ _) hb1⟩
set_option maxHeartbeats 400000 in
theorem implBrighterField_c (xs : List Int) (hs : Sc xs) (a b : Int) (ha : 0 ≤ a ∧ a ≤ 4294967295) (hb : 0 ≤ b ∧ b ≤ 4294967295) (w : World) :
    Calls Try.prog 17 #[.agg (arr .i8 xs), .int .u32 a, .int .u32 b] w fun e w' => e = .returned (.tuple #[.int .i64 (briV (twoV (fieldV xs a) (fieldV xs b))).1, .int .i64 (briV (twoV (fieldV xs a) (fieldV xs b))).2]) ∧ Below w.heap.size w w' := by
  have HL := Lib.hid hs.1
  have H0 := Lib.hid (al1_0 w (.cells (arr .i8 xs) 27))
  have ht := two_i (fieldV xs a) (fieldV xs b) (fieldV_bd xs a ha) (fieldV_bd xs b hb)
  obtain ⟨⟨v1, v2, c⟩, e1⟩ : ∃ p, twoI (fieldV xs a) (fieldV xs b) = p := ⟨_, rfl⟩
  rw [e1] at ht
  obtain ⟨⟨t1, t2⟩, t3, t4⟩ := ht
  simp only at t1 t2 t3 t4
  have E1 := Lib.hid e1
  have ES : Hid (briV (twoV (fieldV xs a) (fieldV xs b)) = briV (v1, v2, c)) := Lib.hid (by rw [← bri_same, e1])
  clear e1
  by_cases hc : c = 0
  · subst hc
    by_cases h2 : v2 < v1
    · have HV : Hid (briV (twoV (fieldV xs a) (fieldV xs b)) = (1, 0)) := Lib.hid (by rw [ES.out]; simp [briV, h2])
      go_enter Try.func17, Try.ntmps17
      go_wp2_with (refine wpList_load_row rfl 27 (.tmp 3) rfl _ rfl _ _ _ _ H0.out Try.underlying27 rfl (by rw [szScene, arr_size, HL.out]) ?_)
      refine (twoMeans_c xs hs a b ha hb _).mono ?_
      rintro e w1 ⟨rfl, hb1⟩
      rw [E1.out]
      go_wp2
      go_ret2
      exact ⟨by rw [HV.out] <;> rfl, bt (bl1 _ _) hb1⟩
    · by_cases h3 : v1 < v2
      · have HV : Hid (briV (twoV (fieldV xs a) (fieldV xs b)) = (-1, 0)) := Lib.hid (by rw [ES.out]; simp [briV, h2, h3])
        go_enter Try.func17, Try.ntmps17
        go_wp2_with (refine wpList_load_row rfl 27 (.tmp 3) rfl _ rfl _ _ _ _ H0.out Try.underlying27 rfl (by rw [szScene, arr_size, HL.out]) ?_)
        refine (twoMeans_c xs hs a b ha hb _).mono ?_
        rintro e w1 ⟨rfl, hb1⟩
        rw [E1.out]
        go_wp2
        go_ret2
        exact ⟨by rw [HV.out] <;> rfl, bt (bl1 _ _) hb1⟩
      · have HV : Hid (briV (twoV (fieldV xs a) (fieldV xs b)) = (0, 0)) := Lib.hid (by rw [ES.out]; simp [briV, h2, h3])
        go_enter Try.func17, Try.ntmps17
        go_wp2_with (refine wpList_load_row rfl 27 (.tmp 3) rfl _ rfl _ _ _ _ H0.out Try.underlying27 rfl (by rw [szScene, arr_size, HL.out]) ?_)
        refine (twoMeans_c xs hs a b ha hb _).mono ?_
        rintro e w1 ⟨rfl, hb1⟩
        rw [E1.out]
        go_wp2
        go_ret2
        exact ⟨by rw [HV.out] <;> rfl, bt (bl1 _ _) hb1⟩
  · have HV : Hid (briV (twoV (fieldV xs a) (fieldV xs b)) = (0, c)) := Lib.hid (by rw [ES.out]; simp [briV, hc])
    have d1 : (c != 0) = true := by simpa using hc
    have d2 : (c == 0) = false := by simpa using hc
    clear hc
    go_enter Try.func17, Try.ntmps17
    go_wp2_with (refine wpList_load_row rfl 27 (.tmp 3) rfl _ rfl _ _ _ _ H0.out Try.underlying27 rfl (by rw [szScene, arr_size, HL.out]) ?_)
    refine (twoMeans_c xs hs a b ha hb _).mono ?_
    rintro e w1 ⟨rfl, hb1⟩
    rw [E1.out]
    go_wp2
    go_ret2
    exact ⟨by rw [HV.out] <;> rfl, bt (bl1 _ _) hb1⟩
end Go.Proofs.Ytmnidldpkkpeoaa
