/- What the library's variables hold; ParseInt at 8 bits. -/
import Derived.Test.YtbcahfiknelkcaaGreatDoorRdJ0
import Derived.Test.YtbcahfiknelkcaaGreatDoorShelfR
import Derived.Lib.SmallJoins
namespace Go.Proofs.YtbcahfiknelkcaaGreatDoor
open Go.RowKit
def gN : Nat := max 2 (max 0 1) + 1
theorem gM_lt : 2 < gN := by decide
theorem gS_lt : 0 < gN := by decide
theorem gR_lt : 1 < gN := by decide
/-- What the library's variables hold. -/
structure EV (w : World) : Prop where
  len : gN ≤ w.heap.size
  max : ∃ m : Int, w.cell? ⟨2, 0, none⟩ = some (.int .i64 m)
  syn : ∃ te pe, w.cell? ⟨0, 0, none⟩ = some (.iface te pe)
  rng : ∃ te pe, w.cell? ⟨1, 0, none⟩ = some (.iface te pe)
theorem ev_below {w w1 : World} (hb : Below w.heap.size w w1) (h : EV w) : EV w1 := by
  have hl := h.len
  obtain ⟨m, hm⟩ := h.max
  obtain ⟨a, b, h1⟩ := h.syn
  obtain ⟨c, d, h2⟩ := h.rng
  exact ⟨Nat.le_trans hl hb.size, ⟨m, by rw [hb.cell (p := ⟨2, 0, none⟩) (Nat.lt_of_lt_of_le gM_lt hl)]; exact hm⟩, ⟨a, b, by rw [hb.cell (p := ⟨0, 0, none⟩) (Nat.lt_of_lt_of_le gS_lt hl)]; exact h1⟩, ⟨c, d, by rw [hb.cell (p := ⟨1, 0, none⟩) (Nat.lt_of_lt_of_le gR_lt hl)]; exact h2⟩⟩
theorem ev_set {w : World} {g i : Nat} (hg : gN ≤ g) (u : Value) (h : EV w) : EV (w.setCell ⟨g, i, none⟩ u) := by
  obtain ⟨m, hm⟩ := h.max
  obtain ⟨a, b, h1⟩ := h.syn
  obtain ⟨c, d, h2⟩ := h.rng
  have hne : ∀ k, k < gN → (w.setCell ⟨g, i, none⟩ u).cell? ⟨k, 0, none⟩ = w.cell? ⟨k, 0, none⟩ := fun k hk => World.cell?_setCell_other _ _ _ _ (by intro e; injection e with e1; omega)
  exact ⟨by simpa using h.len, ⟨m, by rw [hne _ gM_lt]; exact hm⟩, ⟨a, b, by rw [hne _ gS_lt]; exact h1⟩, ⟨c, d, by rw [hne _ gR_lt]; exact h2⟩⟩
/-- ParseInt at 8 bits: a number and no error, or some number and an error. -/
theorem parseInt8_c (s : ByteArray) (hz : s.size ≤ 1048576) (w : World) (hE : EV w) :
    Calls Tryz.prog 56 #[.string s, .int .i64 10, .int .i64 8] w fun e w' => ((∃ v, pI s = some v ∧ e = .returned (.tuple #[.int .i64 v, .nilIface])) ∨ (pI s = none ∧ ∃ x te pe, e = .returned (.tuple #[.int .i64 x, .iface te pe]))) ∧ Below w.heap.size w w' := by
  obtain ⟨a, b, h1⟩ := hE.syn
  obtain ⟨c, d, h2⟩ := hE.rng
  cases hp : Lib.parseIntB 8 s.data.toList with
  | ok v =>
    refine (Go.Proofs.Tryz.strconv_ParseInt_10_at8_ok s (by omega) v hp w).mono fun e w' ⟨he, hw⟩ => ⟨Or.inl ⟨v, by unfold pI; rw [hp], he⟩, ?_⟩
    rcases hw with rfl | ⟨t, rfl⟩
    · exact Below.refl _ _
    · exact Go.Joins.below_bytesWorld _ _ _ _ (Nat.le_refl _)
  | «syntax» =>
    refine (Go.Proofs.Tryz.strconv_ParseInt_10_at8_syntax s (by omega) hp _ w h1 (Or.inr ⟨a, b, rfl⟩)).mono ?_
    rintro e w' ⟨N, he, _, _, hb⟩
    exact ⟨Or.inr ⟨by unfold pI; rw [hp], _, _, _, he⟩, hb⟩
  | range =>
    refine (Go.Proofs.Tryz.strconv_ParseInt_10_at8_range s (by omega) hp _ w h2 (Or.inr ⟨c, d, rfl⟩)).mono ?_
    rintro e w' ⟨N, he, _, _, hb⟩
    exact ⟨Or.inr ⟨by unfold pI; rw [hp], _, _, _, he⟩, hb⟩
end Go.Proofs.YtbcahfiknelkcaaGreatDoor
