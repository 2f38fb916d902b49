/- The head of this seat's translation, and the closed facts that each of its rows asks of the whole program. -/
import Derived.Test.YtpapmplmldfhpaaDoorChecked
import Derived.Test.YtpapmplmldfhpaaDoorFacts
import Derived.KernelRfl
namespace Go.Proofs.YtpapmplmldfhpaaDoor
set_option maxRecDepth 100000
def headL : List Char := [104, 97, 114, 110, 101, 115, 115, 32, 102, 57, 49, 99, 55, 56, 55, 52, 56, 97, 50, 56, 100, 48, 99, 56, 100, 51, 50, 48, 50, 97, 100, 98, 50, 56, 48, 57, 51, 102, 49, 53, 50, 52, 49, 49, 48, 57, 101, 97, 53, 52, 53, 98, 50, 56, 98, 99, 55, 102, 48, 51, 100, 55, 57, 55, 98, 102, 100, 98, 50, 99, 100, 56, 32, 99, 117, 116, 32, 97, 116, 32, 108, 111, 111, 112, 46, 101, 120, 97, 109, 112, 108, 101, 47, 103, 48, 49, 51, 48, 49, 47, 108, 97, 119, 115, 46, 70, 110, 69, 120, 97, 99, 116, 66, 101, 115, 116, 79, 102, 67, 111, 112, 105, 101, 115, 32, 108, 111, 111, 112, 46, 101, 120, 97, 109, 112, 108, 101, 47, 103, 48, 49, 51, 48, 49, 47, 108, 97, 119, 115, 46, 70, 110, 69, 120, 97, 99, 116, 70, 101, 119, 101, 115, 116, 67, 111, 112, 105, 101, 115].map Char.ofNat
def headC : List Char := [99, 117, 116].map Char.ofNat
def headR : List (List Char) := [[97, 116].map Char.ofNat, [108, 111, 111, 112, 46, 101, 120, 97, 109, 112, 108, 101, 47, 103, 48, 49, 51, 48, 49, 47, 108, 97, 119, 115, 46, 70, 110, 69, 120, 97, 99, 116, 66, 101, 115, 116, 79, 102, 67, 111, 112, 105, 101, 115].map Char.ofNat, [108, 111, 111, 112, 46, 101, 120, 97, 109, 112, 108, 101, 47, 103, 48, 49, 51, 48, 49, 47, 108, 97, 119, 115, 46, 70, 110, 69, 120, 97, 99, 116, 70, 101, 119, 101, 115, 116, 67, 111, 112, 105, 101, 115].map Char.ofNat]
theorem headT : Tryd.prog.initOrder.toList = headL := by
  have h : Tryd.prog.initOrder = String.ofList headL := by kernel_rfl
  rw [h, String.toList_ofList]
theorem headV : behindMainWord (wordsSigns headL) = headC :: headR := by kernel_rfl
theorem headS : stripLifts liftWords (headC :: headR) = ([], headC :: headR) := by kernel_rfl
theorem headLays : Tryd.prog.laysLater = false := by kernel_rfl
theorem headRefl : Tryd.prog.bearsReflect = false := by kernel_rfl
theorem headDoor : Tryd.prog.doorFits [] = true := by kernel_rfl
theorem headQ1 : (headC == "gc".toList) = false := by kernel_rfl
theorem headQ2 : (headC == "spec".toList) = false := by kernel_rfl
theorem headQ3 : (headC == "carried".toList) = false := by kernel_rfl
theorem headQ4 : (headC == "cut".toList) = true := by kernel_rfl
theorem hfEnter : Tryd.prog.mayEnter = true := mayEnter_of _ _ _ _ headT headV headS headLays headRefl headDoor headQ4
theorem hfMake : Tryd.prog.make = some .cut := make_of _ _ _ _ headT headV headQ1 headQ2 headQ4
theorem hfFinal : Tryd.prog.liftsFinal = false := final_of _ _ _ _ headT headV headS headQ3
theorem hfLaid : laidOutB Tryd.prog = true := by kernel_rfl
theorem hfMaps : mapsRowed Tryd.prog = true := by kernel_rfl
theorem hfStops : (Tryd.prog.stops == []) = true := by kernel_rfl
theorem hfKnobs : (Tryd.prog.stopKnobs == []) = true := by kernel_rfl
theorem hfKeys : Tryd.prog.plainKeys = true := by kernel_rfl
theorem hfHeard : Tryd.prog.stopsHeard = true := by kernel_rfl
theorem hfOwn : ownKnob Tryd.prog.godebug = none := by kernel_rfl
end Go.Proofs.YtpapmplmldfhpaaDoor
