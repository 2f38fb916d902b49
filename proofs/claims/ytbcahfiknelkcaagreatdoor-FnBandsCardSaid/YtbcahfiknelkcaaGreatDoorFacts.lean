/- The closed facts of a row, brought together out of single ones (over any program). -/
import Derived.JoinedOf
namespace Go.Proofs.YtbcahfiknelkcaaGreatDoor
theorem mayEnter_of (P : Program) (L C : List Char) (R : List (List Char)) (h1 : P.initOrder.toList = L) (h2 : behindMainWord (wordsSigns L) = C :: R) (h3 : stripLifts liftWords (C :: R) = ([], C :: R))
    (h4 : P.laysLater = false) (h5 : P.bearsReflect = false) (h6 : P.doorFits [] = true) (q4 : (C == "cut".toList) = true) : P.mayEnter = true := by
  unfold Program.mayEnter
  rw [h1, h2]
  simp only [h3, h4, h5, h6, List.head?_cons]
  have : C = "cut".toList := by simpa using q4
  rw [this]
  simp
theorem make_of (P : Program) (L C : List Char) (R : List (List Char)) (h1 : P.initOrder.toList = L) (h2 : behindMainWord (wordsSigns L) = C :: R)
    (q1 : (C == "gc".toList) = false) (q2 : (C == "spec".toList) = false) (q4 : (C == "cut".toList) = true) : P.make = some .cut := by
  unfold Program.make
  rw [h1, h2]
  simp only [q1, q2, q4]
  rfl
theorem final_of (P : Program) (L C : List Char) (R : List (List Char)) (h1 : P.initOrder.toList = L) (h2 : behindMainWord (wordsSigns L) = C :: R) (h3 : stripLifts liftWords (C :: R) = ([], C :: R))
    (q3 : (C == "carried".toList) = false) : P.liftsFinal = false := by
  unfold Program.liftsFinal Program.headLifts
  rw [h1, h2]
  simp only [h3, List.head?_cons]
  have : (some C == some "carried".toList) = false := by simpa using q3
  rw [this]
  split <;> rfl
theorem joined_of {P : Program} {f : FuncId} {fn : Func} {s : ChangeSpec} {c : OpenClaim}
    (k1 : c.wf (OpenSpec.ofChange s) = true) (k2 : laidOutB P = true) (k3 : mapsRowed P = true)
    (k4 : fn.params.all (P.readableRec ·) = true) (k5 : namedTie P c.named s.vars = true)
    (k6 : (c.stops == []) = true) (k7 : (P.stops == []) = true) (k8 : (c.knobs == []) = true) (k9 : (P.stopKnobs == []) = true)
    (k10 : (c.inPlace == P.inPlace f) = true) (k11 : (c.unfollowed == P.unfollowed f) = true) (k12 : (c.recurses == P.recurses f) = true) (k13 : (c.named == P.varsNamed f) = true)
    (k14 : (c.maps == (fn.params.toList ++ s.plain.varTypes P).any (P.mapsRec ·)) = true) (k15 : (c.ifaces == (fn.params.toList ++ s.plain.varTypes P).any (P.ifacesRec ·)) = true) (k16 : (c.mapsOut == P.mapsAmong fn.resultTypes.toList) = true)
    (k17 : (c.loops == (fn.params.toList ++ s.plain.varTypes P).any (P.loopsFrom ·)) = true) (k17b : (c.wideKeys == (fn.params.toList ++ s.plain.varTypes P ++ fn.resultTypes.toList).any (P.wideKeysFrom ·)) = true)
    (k18 : s.vars.all (P.varReadable ·) = true) (k19 : fn.resultTypes.all (fun t => P.readableRec t && decide (t < P.types.size)) = true) (k20 : (c.ifacesOut == fn.resultTypes.toList.any (P.ifacesRec ·)) = true)
    (k21 : (c.loopsOut == fn.resultTypes.toList.any (P.loopsFrom ·)) = true) (k22 : P.plainKeys = true) (k22' : c.plainKeys = true) (k23 : c.shortTexts.isNone = true) (k23b : P.stopsHeard = true) (k24 : P.mayEnter = true)
    (k24b : P.liftsFinal = false) (k24b' : c.lifted = false) (k24c : P.make = some .cut) (k24c' : c.make = .cut)
    (k25 : (c.kinds == (if c.domain.isEmpty then [] else fn.params.toList.map fun t => match P.underlying t with | some (.int k) => some k | _ => none)) = true) (k26 : (c.pinned == c.pinnedBy) = true)
    (k27 : (c.veiled == (fn.params.toList ++ s.plain.varTypes P ++ fn.resultTypes.toList).any (P.veiledRec ·)) = true) (k28 : c.veiledFits P fn.params.toList (fn.params.toList ++ s.plain.varTypes P ++ fn.resultTypes.toList) = true) :
    joinedFacts P f fn s c = true := by
  unfold joinedFacts
  have a1 : (c.plainKeys == P.plainKeys) = true := by rw [k22, k22']; rfl
  have a2 : (c.lifted == P.liftsFinal) = true := by rw [k24b, k24b']; rfl
  have a3 : (P.make == some c.make) = true := by rw [k24c, k24c']; rfl
  simp only [k1, k2, k3, k4, k5, k6, k7, k8, k9, k10, k11, k12, k13, k14, k15, k16, k17, k17b, k18, k19, k20, k21, a1, k23, k23b, k24, a2, a3, k26, k27, k28, Bool.and_self, Bool.true_and, Bool.and_true]
  exact k25
end Go.Proofs.YtbcahfiknelkcaaGreatDoor
