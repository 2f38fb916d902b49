/- The head of this seat's translation, and the closed facts that each of its rows asks of the whole program. -/
import Derived.Test.YtcdndjimfmpifaaChecked
import Derived.Test.YtcdndjimfmpifaaFacts
import Derived.KernelRfl
namespace Go.Proofs.Ytcdndjimfmpifaa
set_option maxRecDepth 100000
def headL : List Char := [104, 97, 114, 110, 101, 115, 115, 32, 55, 54, 97, 48, 51, 53, 49, 56, 55, 51, 98, 57, 53, 50, 99, 50, 56, 98, 99, 54, 48, 97, 101, 52, 52, 51, 51, 53, 54, 56, 98, 102, 51, 51, 50, 49, 52, 98, 53, 55, 53, 54, 55, 52, 49, 55, 52, 48, 52, 51, 99, 55, 54, 55, 57, 98, 49, 48, 55, 50, 101, 52, 57, 57, 32, 99, 117, 116, 32, 97, 116, 32, 108, 111, 111, 112, 46, 101, 120, 97, 109, 112, 108, 101, 47, 103, 48, 49, 51, 48, 49, 47, 108, 97, 119, 115, 46, 70, 110, 69, 120, 97, 99, 116, 66, 101, 115, 116, 71, 114, 97, 100, 101, 32, 108, 111, 111, 112, 46, 101, 120, 97, 109, 112, 108, 101, 47, 103, 48, 49, 51, 48, 49, 47, 108, 97, 119, 115, 46, 70, 110, 69, 120, 97, 99, 116, 79, 114, 100, 101, 114, 71, 114, 97, 100, 101, 115, 32, 108, 111, 111, 112, 46, 101, 120, 97, 109, 112, 108, 101, 47, 103, 48, 49, 51, 48, 49, 47, 108, 97, 119, 115, 46, 70, 110, 71, 114, 97, 100, 101, 115].map Char.ofNat
def headC : List Char := [99, 117, 116].map Char.ofNat
def headR : List (List Char) := [[97, 116].map Char.ofNat, [108, 111, 111, 112, 46, 101, 120, 97, 109, 112, 108, 101, 47, 103, 48, 49, 51, 48, 49, 47, 108, 97, 119, 115, 46, 70, 110, 69, 120, 97, 99, 116, 66, 101, 115, 116, 71, 114, 97, 100, 101].map Char.ofNat, [108, 111, 111, 112, 46, 101, 120, 97, 109, 112, 108, 101, 47, 103, 48, 49, 51, 48, 49, 47, 108, 97, 119, 115, 46, 70, 110, 69, 120, 97, 99, 116, 79, 114, 100, 101, 114, 71, 114, 97, 100, 101, 115].map Char.ofNat, [108, 111, 111, 112, 46, 101, 120, 97, 109, 112, 108, 101, 47, 103, 48, 49, 51, 48, 49, 47, 108, 97, 119, 115, 46, 70, 110, 71, 114, 97, 100, 101, 115].map Char.ofNat]
theorem headT : Try.prog.initOrder.toList = headL := by
  have h : Try.prog.initOrder = String.ofList headL := by kernel_rfl
  rw [h, String.toList_ofList]
theorem headV : behindMainWord (wordsSigns headL) = headC :: headR := by kernel_rfl
theorem headS : stripLifts liftWords (headC :: headR) = ([], headC :: headR) := by kernel_rfl
theorem headLays : Try.prog.laysLater = false := by kernel_rfl
theorem headRefl : Try.prog.bearsReflect = false := by kernel_rfl
theorem headDoor : Try.prog.doorFits [] = true := by kernel_rfl
theorem headQ1 : (headC == "gc".toList) = false := by kernel_rfl
theorem headQ2 : (headC == "spec".toList) = false := by kernel_rfl
theorem headQ3 : (headC == "carried".toList) = false := by kernel_rfl
theorem headQ4 : (headC == "cut".toList) = true := by kernel_rfl
theorem hfEnter : Try.prog.mayEnter = true := mayEnter_of _ _ _ _ headT headV headS headLays headRefl headDoor headQ4
theorem hfMake : Try.prog.make = some .cut := make_of _ _ _ _ headT headV headQ1 headQ2 headQ4
theorem hfFinal : Try.prog.liftsFinal = false := final_of _ _ _ _ headT headV headS headQ3
theorem hfLaid : laidOutB Try.prog = true := by kernel_rfl
theorem hfMaps : mapsRowed Try.prog = true := by kernel_rfl
theorem hfStops : (Try.prog.stops == []) = true := by kernel_rfl
theorem hfKnobs : (Try.prog.stopKnobs == []) = true := by kernel_rfl
theorem hfKeys : Try.prog.plainKeys = true := by kernel_rfl
theorem hfHeard : Try.prog.stopsHeard = true := by kernel_rfl
theorem hfOwn : ownKnob Try.prog.godebug = none := by kernel_rfl
end Go.Proofs.Ytcdndjimfmpifaa
