/- What a law over a scene and a placement keeps in mind inside a statement whose order is open. -/
import Derived.Test.YtejkdiinohndiaaOffF
namespace Go.Proofs.Ytejkdiinohndiaa
open Go.RowKit
theorem keepS {w0 w w1 : World} {b0 b1 : Nat} {cs : List Value} {r z : Int} (hb : Below w.heap.size w w1) (hl : 0 < cs.length)
    (h : Below w0.heap.size w0 w ∧ w.rangeAt b0 0 cs ∧ w.cell? ⟨b1, 0, none⟩ = some (.int .i8 r) ∧ w.cell? ⟨b1, 1, none⟩ = some (.int .i8 z)) :
    Below w0.heap.size w0 w1 ∧ w1.rangeAt b0 0 cs ∧ w1.cell? ⟨b1, 0, none⟩ = some (.int .i8 r) ∧ w1.cell? ⟨b1, 1, none⟩ = some (.int .i8 z) := by
  obtain ⟨h0, h1, h2, h3⟩ := h
  have l1 : b1 < w.heap.size := World.block_lt_of_cell? w _ h2
  have l0 : b0 < w.heap.size := World.block_lt_of_cell? w _ (h1 0 cs[0] (by simp [hl]))
  exact ⟨bt h0 hb, fun j v hv => (hb.cell (p := ⟨b0, 0 + j, none⟩) l0).trans (h1 j v hv), (hb.cell (p := ⟨b1, 0, none⟩) l1).trans h2, (hb.cell (p := ⟨b1, 1, none⟩) l1).trans h3⟩
theorem startS {w0 w : World} {b0 b1 : Nat} {xs : List Int} {r z : Int} {t0 t1 : TypeId} (hB : Below w0.heap.size w0 w) (h0 : w.heap[b0]? = some (.cells (arr .i8 xs) t0 (0, 0))) (h1 : w.heap[b1]? = some (.cells #[.int .i8 r, .int .i8 z] t1 (0, 0))) :
    Below w0.heap.size w0 w ∧ w.rangeAt b0 0 (xs.map (Value.int .i8)) ∧ w.cell? ⟨b1, 0, none⟩ = some (.int .i8 r) ∧ w.cell? ⟨b1, 1, none⟩ = some (.int .i8 z) :=
  ⟨hB, fun j v hv => by rw [cell_of_row _ _ _ _ _ _ h0, Nat.zero_add]; simpa [arr] using hv, by rw [cell_of_row _ _ 0 _ _ _ h1]; rfl, by rw [cell_of_row _ _ 1 _ _ _ h1]; rfl⟩
theorem drewS {w0 w : World} {b0 b1 : Nat} {cs : List Value} {r z : Int}
    (h : Below w0.heap.size w0 w ∧ w.rangeAt b0 0 cs ∧ w.cell? ⟨b1, 0, none⟩ = some (.int .i8 r) ∧ w.cell? ⟨b1, 1, none⟩ = some (.int .i8 z)) :
    Below w0.heap.size w0 w.drew ∧ w.drew.rangeAt b0 0 cs ∧ w.drew.cell? ⟨b1, 0, none⟩ = some (.int .i8 r) ∧ w.drew.cell? ⟨b1, 1, none⟩ = some (.int .i8 z) :=
  ⟨bl_drew h.1, h.2.1, h.2.2.1, h.2.2.2⟩
set_option maxHeartbeats 1000000 in
set_option maxRecDepth 100000 in
theorem lawOffScale_c (xs : List Int) (hl : xs.length = 24) (hx : I8 xs) (r z : Int) (hr : -128 ≤ r ∧ r ≤ 127) (hz : -128 ≤ z ∧ z ≤ 127) (w : World) :
    Calls Try.prog 17 #[.agg (arr .i8 xs), .agg #[.int .i8 r, .int .i8 z]] w fun e w' => e = .returned (.bool true) ∧ Below w.heap.size w w' := by
  have hs : Sc xs := ⟨hl, hx⟩
  have hu := Try.underlying34
  have hi : (Try.prog.info? 34).map (·.size) = some (xs.map (Value.int .i8)).length := by rw [szA24, List.length_map, hl]
  have hn : (xs.map (Value.int .i8)).length = 24 := by rw [List.length_map, hl]
  have hp0 : 0 < (xs.map (Value.int .i8)).length := by omega
  have h1c : ∀ v ∈ xs.map (Value.int .i8), v.oneCell' = true := by intro v hv; obtain ⟨z, _, rfl⟩ := List.mem_map.1 hv; rfl
  have s0 := startS (bl2 _ _ _) (al2_0 w (.cells (arr .i8 xs) 34) (.cells #[.int .i8 r, .int .i8 z] 29)) (al2_1 w (.cells (arr .i8 xs) 34) (.cells #[.int .i8 r, .int .i8 z] 29))
  clear hl hx
  go_enter Try.func17, Try.ntmps17
  go_wp2
  go_region_held3 (fun w' => Below w.heap.size w w' ∧ w'.rangeAt w.heap.size 0 (xs.map (Value.int .i8)) ∧ w'.cell? ⟨w.heap.size + 1, 0, none⟩ = some (.int .i8 r) ∧ w'.cell? ⟨w.heap.size + 1, 1, none⟩ = some (.int .i8 z)) (first | assumption | exact drewS s0)
    (first
      | (go_at_call 33; refine (toScene_c xs hs _).mono ?_; rintro e w1 ⟨rfl, hb1⟩; have s1 := keepS hb1 hp0 (by assumption))
      | (go_at_call 30; refine (toPlacement_c r z _).mono ?_; rintro e w1 ⟨rfl, hb1⟩; have s1 := keepS hb1 hp0 (by assumption))
      | (go_at_call 59; refine (specOffScale_c xs hs r z hr hz _).mono ?_; rintro e w1 ⟨rfl, hb1⟩; have s1 := keepS hb1 hp0 (by assumption)))
  have T1 := Lib.hid s1
  go_wp2
  have s2 := T1.out
  go_region_held3 (fun w' => Below w.heap.size w w' ∧ w'.rangeAt w.heap.size 0 (xs.map (Value.int .i8)) ∧ w'.cell? ⟨w.heap.size + 1, 0, none⟩ = some (.int .i8 r) ∧ w'.cell? ⟨w.heap.size + 1, 1, none⟩ = some (.int .i8 z)) (first | assumption | exact drewS s2)
    (first
      | (go_at_call 33; refine (toScene_c xs hs _).mono ?_; rintro e w3 ⟨rfl, hb3⟩; have s3 := keepS hb3 hp0 (by assumption))
      | (go_at_call 30; refine (toPlacement_c r z _).mono ?_; rintro e w3 ⟨rfl, hb3⟩; have s3 := keepS hb3 hp0 (by assumption))
      | (go_at_call 60; refine (implOffScale_c xs hs r z hr hz _).mono ?_; rintro e w3 ⟨rfl, hb3⟩; have s3 := keepS hb3 hp0 (by assumption)))
  have T2 := Lib.hid s3
  go_wp2
  go_ret
  exact ⟨rfl, T2.out.1⟩
end Go.Proofs.Ytejkdiinohndiaa
