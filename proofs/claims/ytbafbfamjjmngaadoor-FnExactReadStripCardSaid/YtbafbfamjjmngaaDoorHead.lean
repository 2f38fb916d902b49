/- The head of this seat's translation, and the closed facts that each of its rows asks of the whole program. -/
import Derived.Test.YtbafbfamjjmngaaDoorChecked
import Derived.Test.YtbafbfamjjmngaaDoorFacts
import Derived.KernelRfl
namespace Go.Proofs.YtbafbfamjjmngaaDoor
set_option maxRecDepth 100000
def headL : List Char := [104, 97, 114, 110, 101, 115, 115, 32, 98, 51, 102, 97, 97, 56, 53, 102, 51, 100, 50, 97, 50, 50, 57, 55, 56, 101, 56, 101, 54, 102, 48, 54, 97, 48, 102, 97, 51, 97, 48, 101, 50, 55, 98, 99, 48, 55, 97, 49, 99, 99, 50, 51, 55, 51, 100, 98, 100, 55, 97, 50, 101, 99, 51, 101, 56, 56, 50, 48, 54, 101, 49, 57, 32, 99, 117, 116, 32, 97, 116, 32, 108, 111, 111, 112, 46, 101, 120, 97, 109, 112, 108, 101, 47, 103, 48, 49, 51, 48, 49, 47, 108, 97, 119, 115, 46, 70, 110, 69, 120, 97, 99, 116, 82, 101, 97, 100, 83, 116, 114, 105, 112].map Char.ofNat
def headC : List Char := [99, 117, 116].map Char.ofNat
def headR : List (List Char) := [[97, 116].map Char.ofNat, [108, 111, 111, 112, 46, 101, 120, 97, 109, 112, 108, 101, 47, 103, 48, 49, 51, 48, 49, 47, 108, 97, 119, 115, 46, 70, 110, 69, 120, 97, 99, 116, 82, 101, 97, 100, 83, 116, 114, 105, 112].map Char.ofNat]
theorem headT : Tryd.prog.initOrder.toList = headL := by
  have h : Tryd.prog.initOrder = String.ofList headL := by kernel_rfl
  rw [h, String.toList_ofList]
theorem headV : behindMainWord (wordsSigns headL) = headC :: headR := by kernel_rfl
theorem headS : stripLifts liftWords (headC :: headR) = ([], headC :: headR) := by kernel_rfl
theorem headLays : Tryd.prog.laysLater = false := by kernel_rfl
theorem headRefl : Tryd.prog.bearsReflect = false := by kernel_rfl
theorem headDoor : Tryd.prog.doorFits [] = true := by kernel_rfl
theorem headQ1 : (headC == "gc".toList) = false := by kernel_rfl
theorem headQ2 : (headC == "spec".toList) = false := by kernel_rfl
theorem headQ3 : (headC == "carried".toList) = false := by kernel_rfl
theorem headQ4 : (headC == "cut".toList) = true := by kernel_rfl
theorem hfEnter : Tryd.prog.mayEnter = true := mayEnter_of _ _ _ _ headT headV headS headLays headRefl headDoor headQ4
theorem hfMake : Tryd.prog.make = some .cut := make_of _ _ _ _ headT headV headQ1 headQ2 headQ4
theorem hfFinal : Tryd.prog.liftsFinal = false := final_of _ _ _ _ headT headV headS headQ3
theorem hfLaid : laidOutB Tryd.prog = true := by kernel_rfl
theorem hfMaps : mapsRowed Tryd.prog = true := by kernel_rfl
theorem hfStops : (Tryd.prog.stops == []) = true := by kernel_rfl
theorem hfKnobs : (Tryd.prog.stopKnobs == []) = true := by kernel_rfl
theorem hfKeys : Tryd.prog.plainKeys = true := by kernel_rfl
theorem hfHeard : Tryd.prog.stopsHeard = true := by kernel_rfl
theorem hfOwn : ownKnob Tryd.prog.godebug = none := by kernel_rfl
end Go.Proofs.YtbafbfamjjmngaaDoor
