/- The head of this seat's translation, and the closed facts that each of its rows asks of the whole program. -/
import Derived.Test.YtbcahfiknelkcaaGreatDoorChecked
import Derived.Test.YtbcahfiknelkcaaGreatDoorFacts
import Derived.KernelRfl
namespace Go.Proofs.YtbcahfiknelkcaaGreatDoor
set_option maxRecDepth 100000
def headL : List Char := [104, 97, 114, 110, 101, 115, 115, 32, 100, 57, 56, 101, 54, 55, 100, 100, 98, 48, 48, 54, 51, 56, 50, 102, 56, 97, 52, 56, 100, 55, 50, 101, 51, 98, 98, 52, 98, 56, 48, 54, 55, 48, 50, 99, 98, 57, 52, 99, 55, 101, 51, 51, 57, 55, 56, 55, 48, 48, 99, 102, 99, 97, 51, 98, 57, 100, 48, 98, 51, 56, 97, 99, 32, 99, 117, 116, 32, 97, 116, 32, 108, 111, 111, 112, 46, 101, 120, 97, 109, 112, 108, 101, 47, 103, 48, 49, 51, 48, 49, 47, 108, 97, 119, 115, 46, 70, 110, 66, 97, 110, 100, 115, 32, 108, 111, 111, 112, 46, 101, 120, 97, 109, 112, 108, 101, 47, 103, 48, 49, 51, 48, 49, 47, 108, 97, 119, 115, 46, 70, 110, 84, 111, 112].map Char.ofNat
def headC : List Char := [99, 117, 116].map Char.ofNat
def headR : List (List Char) := [[97, 116].map Char.ofNat, [108, 111, 111, 112, 46, 101, 120, 97, 109, 112, 108, 101, 47, 103, 48, 49, 51, 48, 49, 47, 108, 97, 119, 115, 46, 70, 110, 66, 97, 110, 100, 115].map Char.ofNat, [108, 111, 111, 112, 46, 101, 120, 97, 109, 112, 108, 101, 47, 103, 48, 49, 51, 48, 49, 47, 108, 97, 119, 115, 46, 70, 110, 84, 111, 112].map Char.ofNat]
theorem headT : Tryz.prog.initOrder.toList = headL := by
  have h : Tryz.prog.initOrder = String.ofList headL := by kernel_rfl
  rw [h, String.toList_ofList]
theorem headV : behindMainWord (wordsSigns headL) = headC :: headR := by kernel_rfl
theorem headS : stripLifts liftWords (headC :: headR) = ([], headC :: headR) := by kernel_rfl
theorem headLays : Tryz.prog.laysLater = false := by kernel_rfl
theorem headRefl : Tryz.prog.bearsReflect = false := by kernel_rfl
theorem headDoor : Tryz.prog.doorFits [] = true := by kernel_rfl
theorem headQ1 : (headC == "gc".toList) = false := by kernel_rfl
theorem headQ2 : (headC == "spec".toList) = false := by kernel_rfl
theorem headQ3 : (headC == "carried".toList) = false := by kernel_rfl
theorem headQ4 : (headC == "cut".toList) = true := by kernel_rfl
theorem hfEnter : Tryz.prog.mayEnter = true := mayEnter_of _ _ _ _ headT headV headS headLays headRefl headDoor headQ4
theorem hfMake : Tryz.prog.make = some .cut := make_of _ _ _ _ headT headV headQ1 headQ2 headQ4
theorem hfFinal : Tryz.prog.liftsFinal = false := final_of _ _ _ _ headT headV headS headQ3
theorem hfLaid : laidOutB Tryz.prog = true := by kernel_rfl
theorem hfMaps : mapsRowed Tryz.prog = true := by kernel_rfl
theorem hfStops : (Tryz.prog.stops == []) = true := by kernel_rfl
theorem hfKnobs : (Tryz.prog.stopKnobs == []) = true := by kernel_rfl
theorem hfKeys : Tryz.prog.plainKeys = true := by kernel_rfl
theorem hfHeard : Tryz.prog.stopsHeard = true := by kernel_rfl
theorem hfOwn : ownKnob Tryz.prog.godebug = none := by kernel_rfl
end Go.Proofs.YtbcahfiknelkcaaGreatDoor
