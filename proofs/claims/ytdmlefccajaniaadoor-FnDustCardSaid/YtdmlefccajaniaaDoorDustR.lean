/- FnDust: what the walk asks, of numbers and of worlds. -/
import Derived.Test.YtdmlefccajaniaaDoorMedC
import Derived.Test.YtdmlefccajaniaaDoorSpD
import Derived.Test.YtdmlefccajaniaaDoorLstInt64S
import Derived.Test.YtdmlefccajaniaaDoorFewP
import Derived.Test.YtdmlefccajaniaaDoorBocP
import Derived.Test.YtdmlefccajaniaaDoorScratch
import Derived.Test.YtdmlefccajaniaaDoorMedP
import Derived.Test.YtdmlefccajaniaaDoorDusts
namespace Go.Proofs.YtdmlefccajaniaaDoor
/-- Copies as they are drawn. -/
structure Cps (l : List (List Int)) (wi : Int) : Prop where
  len1 : 1 ≤ l.length
  len8 : l.length ≤ 8
  ok : okL l = true
  wi0 : 0 ≤ wi
  wi1 : wi ≤ 39
theorem Cps.dn {l : List (List Int)} {wi : Int} (h : Cps l wi) : dnB wi = true := by
  rw [dnB_iff]; exact ⟨h.wi0, by have := h.wi1; omega⟩
theorem Cps.cp {l : List (List Int)} {wi : Int} (h : Cps l wi) (f : Bool) (hf : f = true) : cpV l f = 0 := by
  subst hf
  have h1 := h.len1; have h8 := h.len8
  simp [cpV, h.ok, inC]; omega
theorem Cps.mp {l : List (List Int)} {wi : Int} (h : Cps l wi) : mpV l = (medP l, 0) := by unfold mpV; rw [if_pos (h.cp true rfl)]
theorem Cps.bo {l : List (List Int)} {wi : Int} (h : Cps l wi) : boV l wi = (boO l wi l.length, boL l wi l.length, 0) := by unfold boV; rw [if_pos (h.cp _ h.dn)]
theorem Cps.cl {l : List (List Int)} {wi : Int} (h : Cps l wi) : clV l wi = ((((clS l wi l.length).1 : Nat) : Int), (((clS l wi l.length).2 : Nat) : Int), 0) := by unfold clV; rw [if_pos (h.cp _ h.dn)]
theorem Cps.di {l : List (List Int)} {wi : Int} (h : Cps l wi) (i : Nat) (hi : i < l.length) : diV l i wi = (dmI l wi i, 0) := by
  unfold diV
  rw [if_pos (h.cp _ h.dn), if_pos (by simp [inX]; omega)]
  rfl
theorem medI_bd {l : List (List Int)} {wi : Int} (h : Cps l wi) (k : Nat) : 0 ≤ medI l k ∧ medI l k ≤ 400 := by
  obtain ⟨i, hi, e⟩ := medI_mem l k h.len1
  rw [e]
  exact okP_get (okL_get h.ok i hi) k
theorem medP_D {l : List (List Int)} {wi : Int} (h : Cps l wi) : D400 (medP l) := ⟨medP_length l, fun k => by
  by_cases hk : k < 64
  · rw [medP_get l k hk]; exact medI_bd h k
  · rw [List.getD_eq_getElem?_getD, List.getElem?_eq_none (by rw [medP_length]; omega)]; simp⟩
theorem Cps.si {l : List (List Int)} {wi : Int} (h : Cps l wi) : siV (medP l) l wi = (0, 0) := by
  have hok : okP (medP l) = true := by
    unfold okP
    rw [List.all_eq_true]
    intro x hx
    obtain ⟨k, hk, rfl⟩ := List.mem_iff_getElem.1 hx
    have := (medP_D h).2 k
    rw [List.getD_eq_getElem?_getD, List.getElem?_eq_getElem hk] at this
    exact (dnB_iff _).2 this
  have h0 := h.wi0
  have hs : siM (medP l) l wi = 0 := by
    apply Nat.eq_of_testBit_eq
    intro j
    unfold siM
    rw [maskOf_bit, Nat.zero_testBit]
    by_cases hj : j < 64
    · obtain ⟨i, hi, e⟩ := medI_mem l j h.len1
      have hd : dif (medP l) l i j = 0 := by unfold dif; rw [medP_get l j hj, e]; omega
      have h1 : ∀ c, i < c → drk (medP l) l wi j c = false ∧ lgt (medP l) l wi j c = false := by
        intro c
        induction c with
        | zero => intro h; omega
        | succ c ih =>
          intro hc
          unfold drk lgt
          by_cases e2 : i = c
          · subst e2
            rw [hd]
            constructor
            · simp; omega
            · simp; omega
          · obtain ⟨a, b⟩ := ih (by omega)
            rw [a, b]; simp
      obtain ⟨a, b⟩ := h1 _ hi
      rw [a, b]; simp
    · simp [hj]
  unfold siV
  rw [if_pos hok, if_pos (h.cp _ h.dn), hs]
theorem clS_lt (l : List (List Int)) (wi : Int) : ∀ k, 0 < k → (clS l wi k).1 < k
  | 0, h => absurd h (Nat.lt_irrefl _)
  | k + 1, _ => by
    unfold clS
    split
    · exact Nat.lt_succ_self k
    · rename_i hge
      rcases Nat.eq_zero_or_pos k with h0 | h0
      · subst h0; exact Nat.zero_lt_one
      · have := clS_lt l wi k h0; omega
/-- The cleanest copy has the least dust, and is the first such one. -/
theorem clS_law (l : List (List Int)) (wi : Int) : ∀ k, ∀ i, i < k → (clS l wi k).2 ≤ cnt (dmI l wi i) ∧ (i < (clS l wi k).1 → (clS l wi k).2 ≠ cnt (dmI l wi i)) ∧ (i = (clS l wi k).1 → (clS l wi k).2 = cnt (dmI l wi i))
  | 0, i, hi => absurd hi (Nat.not_lt_zero _)
  | k + 1, i, hi => by
    have hf := clS_first l wi k
    have hc := cnt_le (dmI l wi k)
    unfold clS
    split
    · rename_i hlt
      by_cases e : i = k
      · subst e; exact ⟨Nat.le_refl _, fun h => absurd h (Nat.lt_irrefl _), fun _ => rfl⟩
      · have ih := clS_law l wi k i (by omega)
        refine ⟨?_, fun _ => ?_, fun h => absurd h e⟩ <;> simp only <;> omega
    · rename_i hge
      by_cases e : i = k
      · subst e
        refine ⟨by omega, fun h => by omega, fun h => ?_⟩
        rcases Nat.eq_zero_or_pos i with h0 | h0
        · subst h0
          exact absurd (show cnt (dmI l wi 0) < (clS l wi 0).2 from by show _ < 65; omega) hge
        · have hk : (clS l wi i).1 < i := clS_lt l wi i h0
          omega
      · exact clS_law l wi k i (by omega)
/-- What is covered by the first i copies of a set. -/
def cov (l : List (List Int)) (wi : Int) (s : Nat) (i : Nat) : Nat := cpl (inL l wi (lstS s i))
theorem cov_zero (l : List (List Int)) (wi : Int) (s : Nat) : cov l wi s 0 = 0 := Nat.sub_self _
theorem cov_succ (l : List (List Int)) (wi : Int) (s i : Nat) : cov l wi s (i + 1) = if s.testBit i then cov l wi s i ||| cpl (dmI l wi i) else cov l wi s i := by
  unfold cov
  rw [lstS_succ]
  cases s.testBit i
  · simp
  · rw [if_pos rfl, if_pos rfl, inL_snoc, cpl_and (inL_lt l wi _) (dmI_lt l wi i)]
theorem lst_all (n k : Nat) (hk : k ≤ n) : lstS (2 ^ n - 1) k = List.range k := by
  unfold lstS
  rw [List.filter_eq_self]
  intro a ha
  rw [List.mem_range] at ha
  rw [Nat.testBit_two_pow_sub_one]
  simp; omega
theorem in_all (l : List (List Int)) (wi : Int) : ∀ k, inL l wi (List.range k) = boL l wi k
  | 0 => rfl
  | k + 1 => by rw [List.range_succ, inL_snoc, in_all l wi k]; rfl
theorem boL_clean (l : List (List Int)) (wi : Int) (i : Nat) (h : dmI l wi i = 0) : ∀ k, i < k → boL l wi k = 0
  | 0, hk => absurd hk (Nat.not_lt_zero _)
  | k + 1, hk => by
    unfold boL
    by_cases e : i = k
    · subst e; rw [h, Nat.and_zero]
    · rw [boL_clean l wi i h k (by omega), Nat.zero_and]
theorem lst_one (n i : Nat) (hi : i < n) : lstS (2 ^ i) n = [i] := by
  unfold lstS
  have : ∀ k, (List.range k).filter (fun j => (2 ^ i).testBit j) = if i < k then [i] else [] := by
    intro k
    induction k with
    | zero => simp
    | succ k ih =>
      rw [List.range_succ, List.filter_append, ih]
      by_cases e : i = k
      · subst e; simp
      · by_cases h : i < k
        · have : k ≠ i := fun h => e h.symm
          simp [h, show i < k + 1 by omega, Nat.testBit_two_pow, e]
        · simp [h, show ¬ i < k + 1 by omega, Nat.testBit_two_pow, e]
  rw [this, if_pos hi]
/-- The fewest copies: they are some, they are enough, and one clean copy is enough. -/
theorem few_law {l : List (List Int)} {wi : Int} (h : Cps l wi) : ∃ s b, fwV l wi = (natL b, 0) ∧ b = lstS s l.length ∧ inL l wi b = boL l wi l.length ∧ b.length ≠ 0 ∧ b.length ≤ 8 ∧ ∀ i, i < l.length → dmI l wi i = 0 → b.length = 1 := by
  have h1 := h.len1
  obtain ⟨m1, m2⟩ := fwB_min l wi l.length (2 ^ l.length)
  have hp : 0 < 2 ^ l.length := Nat.two_pow_pos _
  have hall : okSet l wi l.length (2 ^ l.length - 1) = true := by
    unfold okSet
    rw [lst_all _ _ (Nat.le_refl _), in_all, decide_eq_true_iff]
  obtain ⟨b, hb, _⟩ := m1 _ (by omega) hall
  obtain ⟨s, hs, hok, rfl⟩ := m2 b hb
  have hin : inL l wi (lstS s l.length) = boL l wi l.length := of_decide_eq_true hok
  have hne : (lstS s l.length).length ≠ 0 := by
    intro e
    have e2 := List.eq_nil_of_length_eq_zero e
    rw [e2] at hin
    exact boL_zero l wi h.wi0 h1 hin.symm
  refine ⟨s, _, ?_, rfl, hin, hne, Nat.le_trans (lstS_len _ _) h.len8, fun i hi hd => ?_⟩
  · unfold fwV
    rw [if_pos (h.cp _ h.dn), hb]
    rfl
  · have hok1 : okSet l wi l.length (2 ^ i) = true := by
      unfold okSet
      rw [lst_one _ _ hi, decide_eq_true_iff, boL_clean l wi i hd _ hi]
      show 18446744073709551615 &&& dmI l wi i = 0
      rw [hd, Nat.and_zero]
    obtain ⟨b, hb2, hl⟩ := m1 (2 ^ i) (Nat.pow_lt_pow_right (by omega) hi) hok1
    rw [hb] at hb2
    cases hb2
    rw [lst_one _ _ hi] at hl
    simp at hl
    omega
/-- The best of copies has no dust. -/
theorem boO_clean {l : List (List Int)} {wi : Int} (h : Cps l wi) (k : Nat) (hk : k < 64) : ∀ c, c ≤ l.length → (0 ≤ (boO l wi c).getD k 0 ∧ (boO l wi c).getD k 0 ≤ 400) ∧ absI ((boO l wi c).getD k 0 - (medP l).getD k 0) ≤ wi
  | 0, _ => by
    have h0 := h.wi0
    refine ⟨(medP_D h).2 k, ?_⟩
    show absI ((medP l).getD k 0 - (medP l).getD k 0) ≤ wi
    rw [Int.sub_self]; exact h0
  | c + 1, hc => by
    rw [boO_get l wi c k hk]
    cases hb : (boC l wi c).testBit k
    · rw [if_neg (by simp)]; exact boO_clean h k hk c (by omega)
    · rw [if_pos rfl]
      refine ⟨okP_get (okL_get h.ok c (by omega)) k, ?_⟩
      have h2 := (isM_andNot (isM_self _ (boL_lt l wi c)) (isM_self _ (dmI_lt l wi c))).2 k hk
      have h3 : (boC l wi c).testBit k = ((boL l wi c).testBit k && !(dmI l wi c).testBit k) := h2
      rw [hb] at h3
      have h4 : (dmI l wi c).testBit k = false := by
        cases h5 : (dmI l wi c).testBit k
        · rfl
        · rw [h5] at h3; simp at h3
      unfold dmI difM at h4
      rw [maskOf_bit] at h4
      simp [hk] at h4
      exact h4
theorem boO_D {l : List (List Int)} {wi : Int} (h : Cps l wi) : D400 (boO l wi l.length) := ⟨boO_length l wi _, fun k => by
  by_cases hk : k < 64
  · exact (boO_clean h k hk _ (Nat.le_refl _)).1
  · rw [List.getD_eq_getElem?_getD, List.getElem?_eq_none (by rw [boO_length]; omega)]; simp⟩
theorem boO_dif {l : List (List Int)} {wi : Int} (h : Cps l wi) : difM (medP l) (boO l wi l.length) wi = 0 := by
  apply Nat.eq_of_testBit_eq
  intro j
  unfold difM
  rw [maskOf_bit, Nat.zero_testBit]
  by_cases hj : j < 64
  · have := (boO_clean h j hj _ (Nat.le_refl _)).2
    rw [decide_eq_false (show ¬ wi < _ by omega), Bool.and_false]
  · simp [hj]
end Go.Proofs.YtdmlefccajaniaaDoor
namespace Go.Proofs.YtdmlefccajaniaaDoor
open Go.RowKit Go.Lib
theorem xor64D (a b : Nat) (ha : a < 2 ^ 64) (hb : b < 2 ^ 64) : bits .xor .u64 a b = ((a ^^^ b : Nat) : Int) := by
  have ha' : a % 2 ^ IntKind.u64.bits = a := Nat.mod_eq_of_lt ha
  have hb' : b % 2 ^ IntKind.u64.bits = b := Nat.mod_eq_of_lt hb
  simp only [bits, BitVec.ofInt_natCast, BitVec.toNat_xor, BitVec.toNat_ofNat, ha', hb']
  have h := Nat.xor_lt_two_pow ha hb
  exact wr_u64 _ (Int.natCast_nonneg _) (by exact_mod_cast h)
theorem sgnD_u64 : (if IntKind.u64.signed = true then (-1 : Int) else IntKind.u64.max) = IntKind.u64.max := by rw [if_neg (by decide)]
theorem xorD_not {m : Nat} (hm : m < 2 ^ 64) : 18446744073709551615 ^^^ m = 18446744073709551615 - m := by
  apply Nat.eq_of_testBit_eq
  intro j
  have h := Nat.testBit_two_pow_sub_succ (x := m) (n := 64) hm j
  rw [show 2 ^ 64 - (m + 1) = 18446744073709551615 - m by omega] at h
  rw [Nat.testBit_xor, h, show (18446744073709551615 : Nat) = 2 ^ 64 - 1 by decide, Nat.testBit_two_pow_sub_one]
  by_cases hj : j < 64
  · simp [hj]
  · rw [Nat.testBit_lt_two_pow (Nat.lt_of_lt_of_le hm (Nat.pow_le_pow_right (by omega) (by omega)))]; simp [hj]
theorem xorD_int {m : Nat} (hm : m < 2 ^ 64) : bits .xor .u64 IntKind.u64.max (m : Int) = ((18446744073709551615 - m : Nat) : Int) := by
  rw [← xorD_not hm]
  exact xor64D 18446744073709551615 m (by decide) hm
theorem hasI_nat (L : List Nat) (i : Nat) : hasI (natL L) (i : Int) = decide (i ∈ L) := by
  unfold hasI natL
  rw [List.any_map, Bool.eq_iff_iff, List.any_eq_true, decide_eq_true_iff]
  constructor
  · rintro ⟨x, hx, h⟩
    simp at h
    have : x = i := by omega
    exact this ▸ hx
  · exact fun h => ⟨i, h, by simp⟩
/-- How many of the first i copies are darker, or lighter, at a cell. -/
def lowK (l : List (List Int)) (k : Nat) (t : Int) (i : Nat) : Nat := ((colP l k).take i).countP fun y => decide (y < t)
def highK (l : List (List Int)) (k : Nat) (t : Int) (i : Nat) : Nat := ((colP l k).take i).countP fun y => decide (t < y)
theorem lowK_succ (l : List (List Int)) (k : Nat) (t : Int) (i : Nat) (h : i < l.length) : lowK l k t (i + 1) = lowK l k t i + if (l.getD i []).getD k 0 < t then 1 else 0 := by
  have hi : i < (colP l k).length := by rw [colP_length]; exact h
  have e : (colP l k)[i] = (l.getD i []).getD k 0 := by
    have := colP_get l k i h
    rwa [List.getD_eq_getElem?_getD, List.getElem?_eq_getElem hi] at this
  unfold lowK
  rw [List.take_succ_eq_append_getElem hi, List.countP_append, e]
  simp [List.countP_cons]
theorem highK_succ (l : List (List Int)) (k : Nat) (t : Int) (i : Nat) (h : i < l.length) : highK l k t (i + 1) = highK l k t i + if t < (l.getD i []).getD k 0 then 1 else 0 := by
  have hi : i < (colP l k).length := by rw [colP_length]; exact h
  have e : (colP l k)[i] = (l.getD i []).getD k 0 := by
    have := colP_get l k i h
    rwa [List.getD_eq_getElem?_getD, List.getElem?_eq_getElem hi] at this
  unfold highK
  rw [List.take_succ_eq_append_getElem hi, List.countP_append, e]
  simp [List.countP_cons]
theorem lowK_le (l : List (List Int)) (k : Nat) (t : Int) (i : Nat) : lowK l k t i ≤ i := by
  unfold lowK
  refine Nat.le_trans List.countP_le_length ?_
  rw [List.length_take]; omega
theorem highK_le (l : List (List Int)) (k : Nat) (t : Int) (i : Nat) : highK l k t i ≤ i := by
  unfold highK
  refine Nat.le_trans List.countP_le_length ?_
  rw [List.length_take]; omega
structure DF (l : List (List Int)) (wi : Int) (n : Nat) (D O : List Int) (V a e s : Nat) (b : List Int) (bn : Nat) : Prop where
  c : Cps l wi
  len : n = l.length
  mp : mpV l = (D, 0)
  bo : boV l wi = (O, V, 0)
  cl : clV l wi = ((a : Int), (e : Int), 0)
  fw : fwV l wi = (b, 0)
  bl : bn = b.length
  b8 : bn ≤ 8
  b0 : bn ≠ 0
  di : ∀ i, i < n → diV l i wi = (dmI l wi i, 0)
  df : ∀ i, difM D (l.getD i []) wi = dmI l wi i
  least : ∀ i, i < n → e ≤ cnt (dmI l wi i)
  first : ∀ i, i < n → i < a → e ≠ cnt (dmI l wi i)
  atl : ∀ i, i < n → i = a → e = cnt (dmI l wi i)
  has : ∀ i, i < n → hasI b (i : Int) = s.testBit i
  one : ∀ i, i < n → dmI l wi i = 0 → bn = 1
  lv : boL l wi n = V
  cv : cov l wi s n = cpl V
  v64 : V < 2 ^ 64
  far : difM D O wi = 0
  dD : D400 D
  dO : D400 O
  half : ∀ k, k < 64 → 2 * lowK l k (D.getD k 0) n ≤ n ∧ 2 * highK l k (D.getD k 0) n ≤ n
  si : siV D l wi = (0, 0)
  pD : Pr D
  pO : Pr O
theorem d400_pr {M : List Int} (h : D400 M) : Pr M := ⟨h.1, fun i => by have := h.2 i; omega⟩
theorem df_of {l : List (List Int)} {wi : Int} (h : Cps l wi) : ∃ D O V a e s b bn, DF l wi l.length D O V a e s b bn := by
  obtain ⟨s, b, f1, f2, f3, f4, f5, f6⟩ := few_law h
  refine ⟨medP l, boO l wi l.length, boL l wi l.length, (clS l wi l.length).1, (clS l wi l.length).2, s, natL b, b.length, h, rfl, h.mp, h.bo, h.cl, f1, (natL_len b).symm, f5, f4, h.di, fun _ => rfl, fun i hi => (clS_law l wi _ i hi).1, fun i hi => (clS_law l wi _ i hi).2.1, fun i hi => (clS_law l wi _ i hi).2.2, fun i hi => ?_, f6, rfl, ?_, boL_lt l wi _, boO_dif h, medP_D h, boO_D h, fun k hk => ?_, h.si, d400_pr (medP_D h), d400_pr (boO_D h)⟩
  · rw [hasI_nat, f2, Bool.eq_iff_iff, decide_eq_true_iff, lstS_mem]
    exact ⟨fun h => h.2, fun h => ⟨hi, h⟩⟩
  · unfold cov
    rw [← f2, f3]
  · have := med_half l k h.len1
    rw [medP_get l k hk]
    unfold lowK highK
    rw [List.take_of_length_le (by rw [colP_length]; exact Nat.le_refl _)]
    exact this
/-- What lies in the world. -/
structure DW (w : World) (gd gm : Nat) (p : Option Addr) (l : List (List Int)) (D O : List Int) (s : Option Addr) (b : List Int) : Prop where
  due : w.heap[gd]? = some (.cells (arr .i16 D) 37 (0, 0))
  mod : w.heap[gm]? = some (.cells (arr .i16 O) 37 (0, 0))
  cps : PS w p l
  lst : PB_i64 w w.heap.size s b
theorem dw_below {w w1 : World} {gd gm : Nat} {p : Option Addr} {l : List (List Int)} {D O : List Int} {s : Option Addr} {b : List Int} (hb : Below w.heap.size w w1) (h : DW w gd gm p l D O s b) : DW w1 gd gm p l D O s b :=
  ⟨heap_below hb (lt_of_heap h.due) h.due, heap_below hb (lt_of_heap h.mod) h.mod, PS_below hb h.cps, PB_i64_keep hb h.lst⟩
theorem dw_drewN {w : World} {gd gm : Nat} {p : Option Addr} {l : List (List Int)} {D O : List Int} {s : Option Addr} {b : List Int} (h : DW w gd gm p l D O s b) (n : Nat) : DW (w.drewN n) gd gm p l D O s b :=
  dw_below (bl_drewN (Below.refl _ _) n) h
end Go.Proofs.YtdmlefccajaniaaDoor
