/- BestGrade: the law. -/
import Derived.Test.YtcdndjimfmpifaaBestG
import Derived.Test.YtcdndjimfmpifaaCrvC
namespace Go.Proofs.Ytcdndjimfmpifaa
open Go.RowKit
set_option maxHeartbeats 1000000 in
theorem lawBestG_c (p : Option Addr) (n cap : Nat) (cs : List Cv) (h16 : G16 cs) (hn : n = cs.length) (hm : n ≤ 9223372036854775807) (a : Int) (_ : -9223372036854775808 ≤ a ∧ a ≤ 9223372036854775807) (b : Int) (_ : -9223372036854775808 ≤ b ∧ b ≤ 9223372036854775807) (c : Int) (_ : -9223372036854775808 ≤ c ∧ c ≤ 9223372036854775807) (d : Int) (_ : -9223372036854775808 ≤ d ∧ d ≤ 9223372036854775807) (W : World) (hp : GrA W p cs) :
    Calls Try.prog 3 #[.slice p n cap, .int .i64 a, .int .i64 b, .int .i64 c, .int .i64 d] W fun e w' => e = .returned (.bool true) ∧ Below W.heap.size W w' := by
  have HN := Lib.hid hn
  have H16 := Lib.hid h16
  have HA := Lib.hid hp
  clear hn h16 hp
  go_enter Try.func3, Try.ntmps3
  go_wp2_with fail
  refine (szCurveS_c p n cap cs HN.out hm _ HA.out).mono ?_
  rintro e w' ⟨⟨v, rfl, v1, hv⟩, rfl⟩
  by_cases hneg : v < 0
  · go_wp2
    go_ret
    exact ⟨rfl, Below.refl _ _⟩
  obtain ⟨nm, hall⟩ := hv (by omega)
  have HS := Lib.hid (GrA_S HA.out (by rw [← HN.out]; exact hall))
  have HV := Lib.hid hv
  clear hall hv HA
  have hnd : decide (v < 0) = false := by simp; omega
  go_wp2_with fail
  refine (toCurveS_c p n cap cs HN.out nm _ HS.out).mono ?_
  rintro e w1 ⟨rfl, hg1, hb1⟩
  obtain ⟨V, hV⟩ : ∃ V, V = bgV cs a b c d := ⟨_, rfl⟩
  have HVV := Lib.hid hV.symm
  have HG1 := Lib.hid hg1
  have HB1 := Lib.hid hb1
  clear hg1 hb1 hV
  go_wp2_with fail
  refine (gBest_c (some ⟨W.heap.size, 0, none⟩) n n cs H16.out HN.out nm a b c d _ HG1.out).mono ?_
  rintro e w2 ⟨rfl, hb2⟩
  rw [HVV.out]
  obtain ⟨V1, V2, V3, V4⟩ := V
  have HB2 := Lib.hid (bt HB1.out hb2)
  clear hb2
  go_wp2_with fail
  refine (toCurveS_c p n cap cs HN.out nm _ (GrS_below HB2.out HS.out)).mono ?_
  rintro e w3 ⟨rfl, hg3, hb3⟩
  have HG3 := Lib.hid hg3
  have HB3 := Lib.hid (bt HB2.out hb3)
  clear hg3 hb3
  go_wp2_with fail
  refine (gImplBest_c (some ⟨w2.heap.size, 0, none⟩) n n cs H16.out HN.out nm a b c d _ HG3.out).mono ?_
  rintro e w4 ⟨rfl, hb4⟩
  rw [HVV.out]
  have HG4 := Lib.hid (GrS_below hb4 HG3.out)
  have HB4 := Lib.hid (bt HB3.out hb4)
  clear hb4
  go_wp2_with fail
  refine (toCurveS_c p n cap cs HN.out nm _ (GrS_below HB4.out HS.out)).mono ?_
  rintro e w5 ⟨rfl, hg5, hb5⟩
  have HG5 := Lib.hid hg5
  have HG6 := Lib.hid (GrS_below hb5 HG4.out)
  have HB5 := Lib.hid (bt HB4.out hb5)
  clear hg5 hb5
  go_wp2_with fail
  refine (eqCurveS_c _ _ n n n cs HN.out nm _ HG6.out HG5.out).mono ?_
  rintro e w6 ⟨rfl, hb6⟩
  go_wp2
  go_ret
  exact ⟨rfl, bt HB5.out hb6⟩
end Go.Proofs.Ytcdndjimfmpifaa
