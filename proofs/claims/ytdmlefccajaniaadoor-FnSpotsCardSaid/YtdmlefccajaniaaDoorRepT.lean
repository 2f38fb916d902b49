/- The repair of cells: all rounds. -/
import Derived.Test.YtdmlefccajaniaaDoorRepS
namespace Go.Proofs.YtdmlefccajaniaaDoor
open Go.RowKit Go.Lib
def ra : Nat → List Int → Nat → Nat → List Int × Nat
  | 0, p, _, r => (p, r)
  | f + 1, p, M, r => if M = 0 then (p, r) else ra f (rp p M) (rm M) (r + 1)
theorem ra_zero (f : Nat) (p : List Int) (r : Nat) : ra f p 0 r = (p, r) := by cases f <;> simp [ra]
theorem ra_step (f : Nat) (p : List Int) (M r : Nat) (h : M ≠ 0) : ra (f + 1) p M r = ra f (rp p M) (rm M) (r + 1) := by simp [ra, h]
theorem cnt_full : cnt 18446744073709551615 = 64 := by decide
theorem rm_nf {M : Nat} (hM : M < 2 ^ 64) (h0 : M ≠ 0) (h1 : M ≠ 18446744073709551615) : rm M ≠ 18446744073709551615 := fun e => by
  have h2 := rm_less hM h0 h1
  have h3 := cnt_le M
  rw [e, cnt_full] at h2
  omega
theorem rp_Pr {p : List Int} (h : ∀ j, 0 ≤ p.getD j 0 ∧ p.getD j 0 ≤ 400) (M : Nat) : Pr (rp p M) := by
  refine ⟨rp_len p M, fun i => ?_⟩
  have h2 := rp_bd p h M i
  omega
/-- A state of the rounds. -/
def RA (p : List Int) (M : Nat) (p' : List Int) (M' r : Nat) : Prop := ∃ f, ra f p' M' r = ra 65 p M 0 ∧ cnt M' < f ∧ r + f = 65 ∧ Pr p' ∧ (∀ j, 0 ≤ p'.getD j 0 ∧ p'.getD j 0 ≤ 400) ∧ M' < 2 ^ 64 ∧ M' ≠ 18446744073709551615
theorem RA_start {p : List Int} {M : Nat} (hp : Pr p) (hv : ∀ j, 0 ≤ p.getD j 0 ∧ p.getD j 0 ≤ 400) (hM : M < 2 ^ 64) (hf : M ≠ 18446744073709551615) : RA p M p M 0 :=
  ⟨65, rfl, by have := cnt_le M; omega, rfl, hp, hv, hM, hf⟩
theorem RA_step {p : List Int} {M : Nat} {p' : List Int} {M' r : Nat} (h : RA p M p' M' r) (h0 : M' ≠ 0) : RA p M (rp p' M') (rm M') (r + 1) ∧ cnt (rm M') < cnt M' := by
  obtain ⟨f, h1, h2, h3, h4, h5, h6, h7⟩ := h
  obtain ⟨f, rfl⟩ : ∃ k, f = k + 1 := ⟨f - 1, by omega⟩
  have h8 := rm_less h6 h0 h7
  exact ⟨⟨f, by rw [← h1, ra_step _ _ _ _ h0], by omega, by omega, rp_Pr h5 M', rp_bd _ h5 M', rm_lt M', rm_nf h6 h0 h7⟩, h8⟩
theorem RA_end {p : List Int} {M : Nat} {p' : List Int} {r : Nat} (h : RA p M p' 0 r) : ra 65 p M 0 = (p', r) := by
  obtain ⟨f, h1, _⟩ := h
  rw [← h1, ra_zero]
theorem RA_bd {p : List Int} {M : Nat} {p' : List Int} {M' r : Nat} (h : RA p M p' M' r) : r ≤ 65 ∧ Pr p' ∧ (∀ j, 0 ≤ p'.getD j 0 ∧ p'.getD j 0 ≤ 400) ∧ M' < 2 ^ 64 := by
  obtain ⟨f, h1, h2, h3, h4, h5, h6, h7⟩ := h
  exact ⟨by omega, h4, h5, h6⟩
set_option maxHeartbeats 1000000 in
theorem implAllFull_c (g : Nat) (w : World) :
    Calls Tryd.prog 55 #[.pointer (some ⟨g, 0, none⟩), .int .u64 18446744073709551615] w fun e w' => e = .returned (.tuple #[.int .i64 0, .int .i64 6]) ∧ w = w' := by
  go_enter Tryd.func55, Tryd.ntmps55
  go_wp2
  go_ret2
  exact ⟨rfl, rfl⟩
set_option maxHeartbeats 1000000 in
theorem implAll_c (p : List Int) (hp : Pr p) (hv : ∀ j, 0 ≤ p.getD j 0 ∧ p.getD j 0 ≤ 400) (M : Nat) (hM : M < 2 ^ 64) (hf : M ≠ 18446744073709551615) (g : Nat) (base : Nat) (w : World) (hT : TabAt w) (hb : base ≤ g) (hg : w.heap[g]? = some (.cells (arr .i16 p) 37 (0, 0))) (h0 : 0 < base) :
    Calls Tryd.prog 55 #[.pointer (some ⟨g, 0, none⟩), .int .u64 M] w fun e w' => e = .returned (.tuple #[.int .i64 (ra 65 p M 0).2, .int .i64 0]) ∧ w'.heap[g]? = some (.cells (arr .i16 (ra 65 p M 0).1) 37 (0, 0)) ∧ BF base g w w' := by
  have HT := Lib.hid hT
  have HG := Lib.hid hg
  have HBg := Lib.hid hb
  have H00 := Lib.hid h0
  have hgz := lt_of_heap hg
  have HS := Lib.hid (RA_start hp hv hM hf)
  have hne : ((M : Int) == 18446744073709551615) = false := by simp; omega
  clear hp hv hM hT hg hb h0 hf
  go_enter Tryd.func55, Tryd.ntmps55
  go_wp2
  go_loopw [1, 6] (fun m r wr => ∃ (M' r' : Nat) (p' : List Int), m = .int .u64 M' ∧ r = .int .i64 r' ∧ RA p M p' M' r' ∧ wr.heap[g]? = some (.cells (arr .i16 p') 37 (0, 0)) ∧ BF base g w wr) (fun m _ _ => cnt (intOf m).toNat)
  case atStart => exact ⟨M, 0, p, rfl, rfl, HS.out, HG.out, BF_refl _ _ _⟩
  case round =>
    obtain ⟨M', r, p', rfl, rfl, hRA, hG, hW⟩ := hrel
    have HR := Lib.hid hRA
    have HG1 := Lib.hid hG
    have HW := Lib.hid hW
    have hbd := RA_bd hRA
    have HBD := Lib.hid hbd
    have hr65 := hbd.1
    clear hRA hG hW hbd hne
    by_cases h0 : M' = 0
    · subst h0
      have HE := Lib.hid (RA_end HR.out)
      go_wp2
      go_ret2
      exact ⟨by rw [HE.out] <;> rfl, by rw [HE.out]; exact HG1.out, HW.out⟩
    · have hne : ((M' : Int) != 0) = true := by simp; omega
      have HST := Lib.hid (RA_step HR.out h0)
      have HC := Lib.hid (implRepair_c p' HBD.out.2.1 HBD.out.2.2.1 M' HBD.out.2.2.2 g base wr (TabAt_of_base HW.out.1 H00.out HT.out) HBg.out HG1.out H00.out)
      clear h0
      generalize rm M' = M2 at *
      generalize rp p' M' = p2 at *
      go_wp2_with (go_at_call 85; refine (HC.out).mono ?_; rintro e w2 ⟨rfl, hG2, hb2⟩; have HG2 := Lib.hid hG2; have HW2 := Lib.hid (BF_trans HW.out hb2); clear hG2 hb2)
      go_roundw
      case rel => exact ⟨M2, r + 1, p2, rfl, by go_num, HST.out.1, HG2.out, HW2.out⟩
      case measure => simp only [intOf, Int.toNat_natCast]; exact HST.out.2
end Go.Proofs.YtdmlefccajaniaaDoor
