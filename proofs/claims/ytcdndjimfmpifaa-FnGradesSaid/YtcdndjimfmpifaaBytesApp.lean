/- One byte ahead of a slice of bytes: append([]byte{k}, more...). -/
import Derived.Test.YtcdndjimfmpifaaSrc
import Derived.Test.YtcdndjimfmpifaaRowAt
import Derived.Laws.AppendOwnNone
import Derived.Deep.MidRow
namespace Go.Proofs.Ytcdndjimfmpifaa
open Go.RowKit Go.Lib
theorem bytes_row {w : World} {base : Nat} {e : TypeId} {v : Value} {xs : List Int} (h : Row w base e .u8 v xs) (hne : xs ≠ []) (hx : ∀ i, 0 ≤ xs.getD i 0 ∧ xs.getD i 0 ≤ 255) (hl : xs.length ≤ 9223372036854775807) : Bytes w v xs.length := by
  obtain ⟨g, cap, hv, hg, hz, hc, hm, hcell⟩ := row_shape h hne
  exact Or.inr ⟨g, 0, cap, xs, hv, hl, rfl, fun _ => hz, hx, fun i hi => by rw [Nat.zero_add]; exact hcell i hi⟩
theorem wpList_app_bytes {P : Program} {w : World} {ops : Array Oper} {rest : List Oper} {o : Oper} {a : Act} {Q : Exit → Act → World → Prop} (hgd : o.guard = none) (s x : Operand) (t : TypeId)
    (ho : o.op = .call { callee := .builtin .append, args := #[s, x], argTypes := #[t, t] })
    (base : Nat) (e : TypeId) (ht : P.underlying t = some (.slice e)) (hinfo : (P.info? e).map (fun i => (i.zero, i.size, i.bytes)) = some (some (.int .u8 0), 1, 1))
    (v : Value) (z : Int) (z0 : 0 ≤ z) (z1 : z ≤ 255) (hs : a.eval s = v) (hown : Row w base e .u8 v [z]) (y : Value) (n : Nat) (hx : a.eval x = y) (hy : Bytes w y n) (hn : n ≤ 100000) (hbase : base ≤ w.heap.size)
    (h : ∀ v' w', Bytes w' v' (n + 1) → w.grownBy w' v.ownBlock → (∀ j, v.ownBlock = some j → base ≤ j) → wpList P ops Q rest (a.put o.dst v') w') : wpList P ops Q (o :: rest) a w := by
  obtain ⟨i, hi, hz0, hz1, hz2⟩ := info_parts hinfo
  have hbk : ∀ j, v.ownBlock = some j → base ≤ j := fun j hj => (row_own hown hj).1
  rcases hy with ⟨rfl, rfl⟩ | ⟨b, of, c, xs, rfl, hl, hlen, hz, hr, hc⟩
  · refine wpList_append_own_none hgd s x t ho base e i 1 ht hi v 1 [.int .u8 z] hs hown hx (h v w (bytes_row hown (by simp) (fun i => ?_) (by simp)) (World.grownBy.refl _ _) hbk)
    match i with
    | 0 => exact ⟨z0, z1⟩
    | i + 1 => simp
  · refine wpList_append_own_at (P := P) w hgd s x t ho base e i (.int .u8 0) 1 1 ht hi hz0 hz1 hz2 rfl (by decide) v 1 [.int .u8 z] hs hown ⟨b, of, none⟩ n c (xs.map (Value.int .u8)) hx (by simp [hlen]) (fun j u hj => ?_) (fun u hu => ?_) (by unfold maxLen; omega) (by omega) hbase
      (fun v' w' h2 h3 _ h5 => h v' w' ?_ h3 hbk)
    · simp only [List.getElem?_map, Option.map_eq_some_iff] at hj
      obtain ⟨q, hq, rfl⟩ := hj
      have hjn : j < xs.length := (List.getElem?_eq_some_iff.1 hq).1
      have := hc j (by omega)
      rw [List.getD_eq_getElem?_getD, hq] at this
      rw [Go.Addr.add_mid]; simpa using this
    · obtain ⟨q, _, rfl⟩ := List.mem_map.1 hu; rfl
    · have hr2 : Row w' base e .u8 v' (z :: xs) := by
        unfold Row
        simpa [hlen, Nat.add_comm] using h2
      have := bytes_row hr2 (by simp) (fun i => by match i with
        | 0 => exact ⟨z0, z1⟩
        | i + 1 => simpa using hr i) (by simp [hlen]; omega)
      rwa [List.length_cons, hlen] at this
end Go.Proofs.Ytcdndjimfmpifaa
