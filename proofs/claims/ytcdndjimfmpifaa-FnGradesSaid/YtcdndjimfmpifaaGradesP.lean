/- FnGrades: the plain laws. -/
import Derived.Test.YtcdndjimfmpifaaCvtB
import Derived.Test.YtcdndjimfmpifaaBestG
namespace Go.Proofs.Ytcdndjimfmpifaa
theorem bgN_law (M : Nat → Int × Int × Int) : ∀ n, ((bgN M n).1 < 0 ∨ (∃ b : Nat, b < n ∧ bgN M n = ((b : Int), (M b).1, (M b).2.1) ∧ (M b).2.2 = 0)) ∧ (∀ i, i < n → (M i).2.2 = 0 → 0 ≤ (bgN M n).1 ∧ absV (bgN M n).2.2 ≤ absV (M i).2.1)
  | 0 => ⟨Or.inl (by simp [bgN]), fun i hi => absurd hi (by omega)⟩
  | n + 1 => by
    obtain ⟨h1, h2⟩ := bgN_law M n
    unfold bgN
    split
    · rename_i hc
      refine ⟨Or.inr ⟨n, by omega, rfl, hc.1⟩, fun i hi hz => ⟨by simp, ?_⟩⟩
      by_cases e : i = n
      · subst e; exact Int.le_refl _
      · have := h2 i (by omega) hz
        show absV (M n).2.1 ≤ _
        rcases hc.2 with h | h <;> omega
    · rename_i hc
      refine ⟨?_, fun i hi hz => ?_⟩
      · rcases h1 with h | ⟨b, hb, r⟩
        · exact Or.inl h
        · exact Or.inr ⟨b, by omega, r⟩
      · by_cases e : i = n
        · subst e
          by_cases h0 : (bgN M i).1 < 0
          · exact absurd ⟨hz, Or.inl h0⟩ hc
          · refine ⟨by omega, ?_⟩
            have : ¬ absV (M i).2.1 < absV (bgN M i).2.2 := fun h => hc ⟨hz, Or.inr h⟩
            omega
        · exact h2 i (by omega) hz
structure Three (cs : List Cv) (q0 q1 q2 : Cv) : Prop where
  eq : cs = [q0, q1, q2]
  p0 : Pap q0
  p1 : Pap q1
  p2 : Pap q2
theorem Three.len {cs : List Cv} {q0 q1 q2 : Cv} (h : Three cs q0 q1 q2) : cs.length = 3 := by rw [h.eq]; rfl
theorem Three.pap {cs : List Cv} {q0 q1 q2 : Cv} (h : Three cs q0 q1 q2) (k : Nat) (hk : k < 3) : Pap (cs.getD k []) := by
  rw [h.eq]
  match k, hk with
  | 0, _ => exact h.p0
  | 1, _ => exact h.p1
  | 2, _ => exact h.p2
theorem Three.ok {cs : List Cv} {q0 q1 q2 : Cv} (h : Three cs q0 q1 q2) : gOk cs = true := by
  rw [h.eq]; simp [gOk, h.p0.ok, h.p1.ok, h.p2.ok]
theorem Three.i16 {cs : List Cv} {q0 q1 q2 : Cv} (h : Three cs q0 q1 q2) : G16 cs := fun i => by
  by_cases hi : i < 3
  · exact (h.pap i hi).i16
  · rw [List.getD_eq_getElem?_getD, List.getElem?_eq_none (by rw [h.len]; omega)]
    intro k; simp [px, py]
theorem Three.gc {cs : List Cv} {q0 q1 q2 : Cv} (h : Three cs q0 q1 q2) : gcV cs true = 0 := by simp [gcV, h.ok, h.len]
/-- What is told of the best grade. -/
structure Best (cs : List Cv) (a b c d B X M O : Int) : Prop where
  eq : bgV cs a b c d = (B, X, M, O)
  code : O = 0 ∨ O = 6
  bd : -400 ≤ M ∧ M ≤ 400
  each : ∀ k : Nat, k < 3 → ∃ A m C, misV (cs.getD k []) a b c d = (A, m, C) ∧ (C = 0 ∨ C = 6) ∧ (C = 0 → O = 0 ∧ absV M ≤ absV m) ∧ ((k : Int) = B → O = 0 → A = X ∧ m = M ∧ C = 0) ∧ -400 ≤ m ∧ m ≤ 400
theorem best_facts {cs : List Cv} {q0 q1 q2 : Cv} (h : Three cs q0 q1 q2) {a b c d : Int} (hf : fourB a b c d = true) : ∃ B X M O, Best cs a b c d B X M O := by
  have hc : ∀ k, k < 3 → (msF cs a b c d k).2.2 = 0 ∨ (msF cs a b c d k).2.2 = 6 := fun k hk => by
    have := (h.pap k hk).ok
    simp only [msF, misV, this, hf, if_true]
    split <;> simp
  have hbd := bgN_bd cs a b c d 3
  obtain ⟨l1, l2⟩ := bgN_law (msF cs a b c d) 3
  have hmb := fun k => mis_bd (cs.getD k []) a b c d
  have e : bgV cs a b c d = if (bgN (msF cs a b c d) 3).1 < 0 then (0, 0, 0, 6) else ((bgN (msF cs a b c d) 3).1, (bgN (msF cs a b c d) 3).2.1, (bgN (msF cs a b c d) 3).2.2, 0) := by
    unfold bgV; rw [hf, h.gc, if_pos rfl, h.len]
  by_cases h0 : (bgN (msF cs a b c d) 3).1 < 0
  · rw [if_pos h0] at e
    refine ⟨0, 0, 0, 6, e, Or.inr rfl, by omega, fun k hk => ⟨_, _, _, rfl, hc k hk, fun hz => ?_, fun _ hz => absurd hz (by decide), hmb k⟩⟩
    have := (l2 k hk hz).1
    omega
  · rw [if_neg h0] at e
    refine ⟨_, _, _, 0, e, Or.inl rfl, by omega, fun k hk => ⟨_, _, _, rfl, hc k hk, fun hz => ⟨rfl, (l2 k hk hz).2⟩, fun hk2 _ => ?_, hmb k⟩⟩
    rcases l1 with l1 | ⟨b', hb', hbe, hbz⟩
    · exact absurd l1 h0
    · rw [hbe] at hk2 ⊢
      have : k = b' := by have : (k : Int) = b' := hk2; omega
      subst this
      exact ⟨rfl, rfl, hbz⟩
/-- What is told of the order. -/
structure Ord (cs : List Cv) (l d : Int) (R : List Int) (n : Nat) (C : Int) (A : Bool) : Prop where
  eq : ogV cs l d = (R, C)
  code : decide (C = 0) = A
  all : okN cs l d 3 = A
  len : n = R.length
  le : n ≤ 3
  each : ∀ k : Nat, 1 ≤ k → k < n → ∃ i j : Nat, i < 3 ∧ j < 3 ∧ R.getD (k - 1) 0 = i ∧ R.getD k 0 = j ∧ sclB (cs.getD i []) l d = true ∧ sclB (cs.getD j []) l d = true ∧ sclN (cs.getD j []) l d ≤ sclN (cs.getD i []) l d
theorem ord_facts {cs : List Cv} {q0 q1 q2 : Cv} (h : Three cs q0 q1 q2) {l d : Int} (he : endB l d = true) : ∃ R n C A, Ord cs l d R n C A := by
  have e : ogV cs l d = if okN cs l d 3 then (ordL cs l d 3, 0) else ([], 6) := by
    unfold ogV; rw [he, h.gc, if_pos rfl, h.len]
  cases hA : okN cs l d 3
  · rw [hA] at e
    exact ⟨[], 0, 6, false, by rw [e, if_neg (by simp)], by decide, hA, rfl, by omega, fun k _ hk => absurd hk (by omega)⟩
  · rw [hA] at e
    have hlen := ordL_len cs l d 3
    have hmem := fun z (hz : z ∈ ordL cs l d 3) => ordL_mem hz
    have ha := ordL_asc cs l d 3
    rw [if_pos rfl] at e
    generalize ordL cs l d 3 = R at *
    refine ⟨R, 3, 0, true, e, by decide, hA, hlen.symm, by omega, fun k h1 hk => ?_⟩
    have hget : ∀ j, j < 3 → ∃ i : Nat, i < 3 ∧ (R).getD j 0 = i ∧ (R)[j]? = some (i : Int) := fun j hj => by
      have hj' : j < (R).length := by rw [hlen]; exact hj
      have hm := hmem _ (List.getElem_mem hj')
      refine ⟨((R)[j]).toNat, by omega, ?_, ?_⟩
      · rw [List.getD_eq_getElem?_getD, List.getElem?_eq_getElem hj']; simp; omega
      · rw [List.getElem?_eq_getElem hj']; exact congrArg some (show R[j] = ((R[j].toNat : Nat) : Int) by omega)
    obtain ⟨i, hi, e1, g1⟩ := hget (k - 1) (by omega)
    obtain ⟨j, hj, e2, g2⟩ := hget k hk
    have hok : ∀ i, i < 3 → sclB (cs.getD i []) l d = true := fun i hi => by
      have := hA
      unfold okN at this
      rw [List.all_eq_true] at this
      exact this i (by simpa using hi)
    refine ⟨i, j, hi, hj, e1, e2, hok i hi, hok j hj, ?_⟩
    unfold AscK at ha
    rw [List.pairwise_iff_getElem] at ha
    have hk1 : k - 1 < (R).length := by omega
    have hk2 : k < (R).length := by omega
    have := ha (k - 1) k hk1 hk2 (by omega)
    rw [List.getElem?_eq_getElem hk1] at g1
    rw [List.getElem?_eq_getElem hk2] at g2
    simp only [Option.some.injEq] at g1 g2
    rw [g1, g2] at this
    simp only [keyF, scF, Int.toNat_natCast] at this
    omega
theorem dark0 (q : Cv) (x : Int) : darkV q x 0 = atV q x := by
  unfold darkV
  rw [show x - (0 + 5) / 10 = x by omega]
theorem firstN_min {p : Nat → Bool} {n k : Nat} (h : p k = true) : firstN p n ≤ k := by
  rcases Nat.lt_or_ge k (firstN p n) with h1 | h1
  · rw [firstN_fail n k h1] at h; cases h
  · exact h1
theorem lst_min {q : Cv} {t : Int} {k : Nat} (h : t ≤ atV q k) : lstV q 0 t ≤ k := firstN_min (by rw [dark0]; simpa using h)
theorem cnv_self {q : Cv} {f : Nat} (hf : f ≤ 36) : cnvC q 0 (atV q f) = 0 ∧ 0 ≤ cnvV q 0 (atV q f) ∧ cnvV q 0 (atV q f) ≤ f := by
  have := lst_min (q := q) (t := atV q f) (k := f) (Int.le_refl _)
  unfold cnvC cnvV
  rw [if_pos (by omega), if_pos (by omega)]
  omega
/-- What is told of a light that is converted. -/
structure Cnv (q0 q1 : Cv) (f : Nat) (V E S : Int) : Prop where
  v : cnvV q1 0 (atV q0 f) = V
  e : cnvC q1 0 (atV q0 f) = E
  s : (tabL q0 q1 37).getD f 0 = S
  code : E = 0 ∨ E = 6
  sign : decide (E = 0) = decide (0 ≤ S)
  eq : E = 0 → S = V ∧ 0 ≤ V ∧ V ≤ 36 ∧ atV q0 f ≤ atV q1 V
theorem cnv_facts (q0 q1 : Cv) (f : Nat) (hf : f ≤ 36) : ∃ V E S, Cnv q0 q1 f V E S := by
  refine ⟨_, _, _, rfl, rfl, rfl, ?_, ?_, ?_⟩
  · unfold cnvC; split <;> simp
  · rw [tabL_get _ _ _ _ (by omega)]
    unfold cnvC lstS
    split <;> simp
  · intro h
    rw [tabL_get _ _ _ _ (by omega)]
    have hle : lstV q1 0 (atV q0 f) ≤ 36 := by
      unfold cnvC at h
      split at h
      · assumption
      · cases h
    unfold cnvV lstS
    rw [if_pos hle, if_pos hle]
    refine ⟨rfl, by omega, by omega, ?_⟩
    have := firstN_hold (p := fun k => decide (atV q0 f ≤ darkV q1 k 0)) 37 (by unfold lstV at hle; omega)
    have h2 := of_decide_eq_true this
    rwa [dark0] at h2
end Go.Proofs.Ytcdndjimfmpifaa
