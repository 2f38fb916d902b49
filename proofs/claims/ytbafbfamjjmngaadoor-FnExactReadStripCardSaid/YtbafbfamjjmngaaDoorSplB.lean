/- A text split at a byte (the reference). -/
import Derived.Test.YtbafbfamjjmngaaDoorNumB
import Derived.Test.YtbafbfamjjmngaaDoorSceneI
namespace Go.Proofs.YtbafbfamjjmngaaDoor
open Go.RowKit
/-- The pieces that are complete within the first i bytes, and where the next one begins. -/
def spO (s : ByteArray) (c : Nat) : Nat → List ByteArray × Nat
  | 0 => ([], 0)
  | i + 1 => if bU s i = c then ((spO s c i).1 ++ [s.extract (spO s c i).2 i], i + 1) else spO s c i
theorem spO_le (s : ByteArray) (c : Nat) : ∀ i, (spO s c i).2 ≤ i ∧ (spO s c i).1.length ≤ i
  | 0 => ⟨Nat.le_refl _, Nat.le_refl _⟩
  | i + 1 => by
    have ih := spO_le s c i
    unfold spO
    split
    · exact ⟨Nat.le_refl _, by simp; omega⟩
    · omega
def spL (s : ByteArray) (c : Nat) : List ByteArray := (spO s c s.size).1 ++ [s.extract (spO s c s.size).2 s.size]
set_option maxHeartbeats 2000000 in
set_option maxRecDepth 100000 in
theorem l01Split_c (s : ByteArray) (c : Nat) (hc : c < 256) (hm : s.size ≤ 1048576) (w : World) :
    Calls Tryd.prog 7 #[.string s, .int .u8 c] w fun e w' => ∃ v, e = .returned v ∧ RowS w' w.heap.size v (spL s c) ∧ Below w.heap.size w w' := by
  have HR0 := Lib.hid (rowS_new w w.heap.size (Nat.le_refl _))
  have HB0 := Lib.hid (bl1 w (.cells #[] 9))
  go_enter Tryd.func7, Tryd.ntmps7
  go_wp2_with fail
  go_loopw [5, 6, 7] (fun ov bv iv wr => ∃ k : Nat, k ≤ s.size ∧ iv = .int .i64 k ∧ bv = .int .i64 ((spO s c k).2 : Nat) ∧ RowS wr w.heap.size ov (spO s c k).1 ∧ Below w.heap.size w wr) (fun _ _ iv _ => s.size - (intOf iv).toNat)
  case atStart => exact ⟨0, Nat.zero_le _, rfl, rfl, HR0.out, HB0.out⟩
  case round =>
    clear HR0 HB0
    obtain ⟨k, hk, rfl, rfl, hR, hB⟩ := hrel
    have HR := Lib.hid hR
    have HB := Lib.hid hB
    clear hR hB
    have hle := spO_le s c k
    by_cases hlt : k < s.size
    · have hki : (k : Int) < s.size := by omega
      have hby := bU_get s k hlt
      have hnx := Lib.hid (show spO s c (k + 1) = if bU s k = c then ((spO s c k).1 ++ [s.extract (spO s c k).2 k], k + 1) else spO s c k from rfl)
      by_cases hcc : bU s k = c
      · have HNX : Hid (spO s c (k + 1) = ((spO s c k).1 ++ [s.extract (spO s c k).2 k], k + 1)) := Lib.hid (by rw [hnx.out, if_pos hcc])
        rw [hcc] at hby
        clear hnx hcc
        obtain ⟨b, hb⟩ : ∃ b, b = (spO s c k).2 := ⟨_, rfl⟩
        rw [← hb] at HNX hle ⊢
        have hbk := hle.1
        have HPl := Lib.hid hle.2
        generalize (spO s c k).1 = l at *
        have hvs : w.heap.size ≤ (wr.alloc (.cells #[.string (s.extract b k)] 9)).heap.size := Nat.le_trans HB.out.size (by simp)
        have HRa := Lib.hid (rowS_below HR.out (Nat.le_refl _) (bl1 wr (.cells #[.string (s.extract b k)] 9)))
        have HBa := Lib.hid (bal HB.out (.cells #[.string (s.extract b k)] 9))
        clear hb hle
        go_wp2_with (at_builtin; refine wpList_appS rfl (.tmp 20) (.tmp 25) 29 rfl w.heap.size Tryd.underlying29 _ l rfl HRa.out wr.heap.size 1 (s.extract b k) rfl (by rw [cell_of_row _ _ _ _ _ _ (al1_0 _ _)]; rfl) (by have := HPl.out; omega) hvs ?_; intro v6 w6 hrow hgr hbk6; have HR6 := Lib.hid hrow; have HB6 := Lib.hid (HBa.out.grown hgr HBa.out.size hbk6); clear hrow hgr hbk6)
        go_roundw
        case rel => exact ⟨k + 1, by omega, by go_num, by rw [HNX.out]; go_num, by rw [HNX.out]; exact HR6.out, HB6.out⟩
        case measure => simp [intOf]; omega
      · have HNX : Hid (spO s c (k + 1) = spO s c k) := Lib.hid (by rw [hnx.out, if_neg hcc])
        have hcf : ((bU s k : Int) == (c : Int)) = false := by simp; omega
        clear hnx hcc
        go_wp2
        go_roundw
        case rel => exact ⟨k + 1, by omega, by go_num, by rw [HNX.out], by rw [HNX.out]; exact HR.out, HB.out⟩
        case measure => simp [intOf]; omega
    · have hki : ¬ (k : Int) < s.size := by omega
      have hke : k = s.size := by omega
      have HE : Hid (spL s c = (spO s c k).1 ++ [s.extract (spO s c k).2 s.size]) := Lib.hid (by unfold spL; rw [hke])
      have hbk := hle.1
      have HPl := Lib.hid hle.2
      generalize (spO s c k).2 = b at *
      generalize (spO s c k).1 = l at *
      have hbs : (b : Int) ≤ s.size := by omega
      have hvs : w.heap.size ≤ (wr.alloc (.cells #[.string (s.extract b s.size)] 9)).heap.size := Nat.le_trans HB.out.size (by simp)
      have HRa := Lib.hid (rowS_below HR.out (Nat.le_refl _) (bl1 wr (.cells #[.string (s.extract b s.size)] 9)))
      have HBa := Lib.hid (bal HB.out (.cells #[.string (s.extract b s.size)] 9))
      clear hle
      go_wp2_with (at_builtin; refine wpList_appS rfl (.tmp 29) (.tmp 33) 29 rfl w.heap.size Tryd.underlying29 _ l rfl HRa.out wr.heap.size 1 (s.extract b s.size) rfl (by rw [cell_of_row _ _ _ _ _ _ (al1_0 _ _)]; rfl) (by have := HPl.out; omega) hvs ?_; intro v6 w6 hrow hgr hbk6; have HR6 := Lib.hid hrow; have HB6 := Lib.hid (HBa.out.grown hgr HBa.out.size hbk6); clear hrow hgr hbk6)
      go_ret
      exact ⟨_, rfl, by rw [HE.out]; exact HR6.out, HB6.out⟩
end Go.Proofs.YtbafbfamjjmngaaDoor
