/- The head of this seat's translation, and the closed facts that each of its rows asks of the whole program. -/
import Derived.Test.YtmnidldpkkpeoaaDoorChecked
import Derived.Test.YtmnidldpkkpeoaaDoorFacts
import Derived.KernelRfl
namespace Go.Proofs.YtmnidldpkkpeoaaDoor
set_option maxRecDepth 100000
def headL : List Char := [104, 97, 114, 110, 101, 115, 115, 32, 48, 51, 50, 57, 57, 99, 48, 54, 98, 48, 51, 102, 56, 102, 101, 53, 52, 102, 53, 57, 48, 52, 57, 53, 51, 52, 50, 49, 52, 99, 101, 57, 52, 49, 97, 100, 98, 51, 52, 52, 54, 52, 101, 50, 100, 53, 102, 55, 52, 49, 97, 97, 56, 101, 54, 54, 49, 101, 57, 101, 100, 51, 98, 49, 32, 99, 117, 116, 32, 97, 116, 32, 108, 111, 111, 112, 46, 101, 120, 97, 109, 112, 108, 101, 47, 103, 48, 49, 51, 48, 49, 47, 108, 97, 119, 115, 46, 70, 110, 69, 120, 97, 99, 116, 71, 114, 111, 119, 77, 97, 115, 107, 32, 108, 111, 111, 112, 46, 101, 120, 97, 109, 112, 108, 101, 47, 103, 48, 49, 51, 48, 49, 47, 108, 97, 119, 115, 46, 70, 110, 69, 120, 97, 99, 116, 83, 112, 111, 116, 115, 79, 102, 32, 108, 111, 111, 112, 46, 101, 120, 97, 109, 112, 108, 101, 47, 103, 48, 49, 51, 48, 49, 47, 108, 97, 119, 115, 46, 70, 110, 69, 120, 97, 99, 116, 82, 111, 117, 110, 100, 115, 70, 111, 114, 32, 108, 111, 111, 112, 46, 101, 120, 97, 109, 112, 108, 101, 47, 103, 48, 49, 51, 48, 49, 47, 108, 97, 119, 115, 46, 70, 110, 69, 120, 97, 99, 116, 71, 114, 101, 97, 116, 101, 115, 116, 83, 112, 111, 116, 32, 108, 111, 111, 112, 46, 101, 120, 97, 109, 112, 108, 101, 47, 103, 48, 49, 51, 48, 49, 47, 108, 97, 119, 115, 46, 70, 110, 69, 120, 97, 99, 116, 82, 101, 112, 97, 105, 114, 67, 101, 108, 108, 115, 32, 108, 111, 111, 112, 46, 101, 120, 97, 109, 112, 108, 101, 47, 103, 48, 49, 51, 48, 49, 47, 108, 97, 119, 115, 46, 70, 110, 83, 112, 111, 116, 115, 32, 108, 111, 111, 112, 46, 101, 120, 97, 109, 112, 108, 101, 47, 103, 48, 49, 51, 48, 49, 47, 108, 97, 119, 115, 46, 70, 110, 69, 120, 97, 99, 116, 83, 99, 101, 110, 101, 84, 101, 120, 116].map Char.ofNat
def headC : List Char := [99, 117, 116].map Char.ofNat
def headR : List (List Char) := [[97, 116].map Char.ofNat, [108, 111, 111, 112, 46, 101, 120, 97, 109, 112, 108, 101, 47, 103, 48, 49, 51, 48, 49, 47, 108, 97, 119, 115, 46, 70, 110, 69, 120, 97, 99, 116, 71, 114, 111, 119, 77, 97, 115, 107].map Char.ofNat, [108, 111, 111, 112, 46, 101, 120, 97, 109, 112, 108, 101, 47, 103, 48, 49, 51, 48, 49, 47, 108, 97, 119, 115, 46, 70, 110, 69, 120, 97, 99, 116, 83, 112, 111, 116, 115, 79, 102].map Char.ofNat, [108, 111, 111, 112, 46, 101, 120, 97, 109, 112, 108, 101, 47, 103, 48, 49, 51, 48, 49, 47, 108, 97, 119, 115, 46, 70, 110, 69, 120, 97, 99, 116, 82, 111, 117, 110, 100, 115, 70, 111, 114].map Char.ofNat, [108, 111, 111, 112, 46, 101, 120, 97, 109, 112, 108, 101, 47, 103, 48, 49, 51, 48, 49, 47, 108, 97, 119, 115, 46, 70, 110, 69, 120, 97, 99, 116, 71, 114, 101, 97, 116, 101, 115, 116, 83, 112, 111, 116].map Char.ofNat, [108, 111, 111, 112, 46, 101, 120, 97, 109, 112, 108, 101, 47, 103, 48, 49, 51, 48, 49, 47, 108, 97, 119, 115, 46, 70, 110, 69, 120, 97, 99, 116, 82, 101, 112, 97, 105, 114, 67, 101, 108, 108, 115].map Char.ofNat, [108, 111, 111, 112, 46, 101, 120, 97, 109, 112, 108, 101, 47, 103, 48, 49, 51, 48, 49, 47, 108, 97, 119, 115, 46, 70, 110, 83, 112, 111, 116, 115].map Char.ofNat, [108, 111, 111, 112, 46, 101, 120, 97, 109, 112, 108, 101, 47, 103, 48, 49, 51, 48, 49, 47, 108, 97, 119, 115, 46, 70, 110, 69, 120, 97, 99, 116, 83, 99, 101, 110, 101, 84, 101, 120, 116].map Char.ofNat]
theorem headT : Tryd.prog.initOrder.toList = headL := by
  have h : Tryd.prog.initOrder = String.ofList headL := by kernel_rfl
  rw [h, String.toList_ofList]
theorem headV : behindMainWord (wordsSigns headL) = headC :: headR := by kernel_rfl
theorem headS : stripLifts liftWords (headC :: headR) = ([], headC :: headR) := by kernel_rfl
theorem headLays : Tryd.prog.laysLater = false := by kernel_rfl
theorem headRefl : Tryd.prog.bearsReflect = false := by kernel_rfl
theorem headDoor : Tryd.prog.doorFits [] = true := by kernel_rfl
theorem headQ1 : (headC == "gc".toList) = false := by kernel_rfl
theorem headQ2 : (headC == "spec".toList) = false := by kernel_rfl
theorem headQ3 : (headC == "carried".toList) = false := by kernel_rfl
theorem headQ4 : (headC == "cut".toList) = true := by kernel_rfl
theorem hfEnter : Tryd.prog.mayEnter = true := mayEnter_of _ _ _ _ headT headV headS headLays headRefl headDoor headQ4
theorem hfMake : Tryd.prog.make = some .cut := make_of _ _ _ _ headT headV headQ1 headQ2 headQ4
theorem hfFinal : Tryd.prog.liftsFinal = false := final_of _ _ _ _ headT headV headS headQ3
theorem hfLaid : laidOutB Tryd.prog = true := by kernel_rfl
theorem hfMaps : mapsRowed Tryd.prog = true := by kernel_rfl
theorem hfStops : (Tryd.prog.stops == []) = true := by kernel_rfl
theorem hfKnobs : (Tryd.prog.stopKnobs == []) = true := by kernel_rfl
theorem hfKeys : Tryd.prog.plainKeys = true := by kernel_rfl
theorem hfHeard : Tryd.prog.stopsHeard = true := by kernel_rfl
theorem hfOwn : ownKnob Tryd.prog.godebug = none := by kernel_rfl
end Go.Proofs.YtmnidldpkkpeoaaDoor
