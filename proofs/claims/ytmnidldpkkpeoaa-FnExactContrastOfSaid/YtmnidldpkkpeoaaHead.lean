/- The head of this seat's translation, and the closed facts that each of its rows asks of the whole program. -/
import Derived.Test.YtmnidldpkkpeoaaChecked
import Derived.Test.YtmnidldpkkpeoaaFacts
import Derived.KernelRfl
namespace Go.Proofs.Ytmnidldpkkpeoaa
set_option maxRecDepth 100000
def headL : List Char := [104, 97, 114, 110, 101, 115, 115, 32, 56, 55, 48, 48, 52, 48, 57, 100, 57, 53, 50, 100, 52, 55, 100, 52, 97, 57, 102, 54, 98, 101, 53, 54, 102, 100, 56, 101, 56, 99, 98, 53, 50, 99, 97, 50, 98, 56, 98, 97, 99, 97, 52, 54, 51, 50, 97, 57, 57, 54, 97, 51, 99, 100, 56, 49, 101, 49, 97, 50, 57, 56, 54, 48, 32, 99, 117, 116, 32, 97, 116, 32, 108, 111, 111, 112, 46, 101, 120, 97, 109, 112, 108, 101, 47, 103, 48, 49, 51, 48, 49, 47, 108, 97, 119, 115, 46, 70, 110, 69, 120, 97, 99, 116, 65, 108, 105, 107, 101, 70, 105, 101, 108, 100, 115, 32, 108, 111, 111, 112, 46, 101, 120, 97, 109, 112, 108, 101, 47, 103, 48, 49, 51, 48, 49, 47, 108, 97, 119, 115, 46, 70, 110, 67, 111, 110, 116, 114, 97, 115, 116, 32, 108, 111, 111, 112, 46, 101, 120, 97, 109, 112, 108, 101, 47, 103, 48, 49, 51, 48, 49, 47, 108, 97, 119, 115, 46, 70, 110, 90, 111, 110, 101, 115, 32, 108, 111, 111, 112, 46, 101, 120, 97, 109, 112, 108, 101, 47, 103, 48, 49, 51, 48, 49, 47, 108, 97, 119, 115, 46, 70, 110, 69, 120, 97, 99, 116, 77, 101, 100, 105, 97, 110, 82, 101, 97, 100, 105, 110, 103, 32, 108, 111, 111, 112, 46, 101, 120, 97, 109, 112, 108, 101, 47, 103, 48, 49, 51, 48, 49, 47, 108, 97, 119, 115, 46, 70, 110, 69, 120, 97, 99, 116, 67, 111, 110, 116, 114, 97, 115, 116, 79, 102].map Char.ofNat
def headC : List Char := [99, 117, 116].map Char.ofNat
def headR : List (List Char) := [[97, 116].map Char.ofNat, [108, 111, 111, 112, 46, 101, 120, 97, 109, 112, 108, 101, 47, 103, 48, 49, 51, 48, 49, 47, 108, 97, 119, 115, 46, 70, 110, 69, 120, 97, 99, 116, 65, 108, 105, 107, 101, 70, 105, 101, 108, 100, 115].map Char.ofNat, [108, 111, 111, 112, 46, 101, 120, 97, 109, 112, 108, 101, 47, 103, 48, 49, 51, 48, 49, 47, 108, 97, 119, 115, 46, 70, 110, 67, 111, 110, 116, 114, 97, 115, 116].map Char.ofNat, [108, 111, 111, 112, 46, 101, 120, 97, 109, 112, 108, 101, 47, 103, 48, 49, 51, 48, 49, 47, 108, 97, 119, 115, 46, 70, 110, 90, 111, 110, 101, 115].map Char.ofNat, [108, 111, 111, 112, 46, 101, 120, 97, 109, 112, 108, 101, 47, 103, 48, 49, 51, 48, 49, 47, 108, 97, 119, 115, 46, 70, 110, 69, 120, 97, 99, 116, 77, 101, 100, 105, 97, 110, 82, 101, 97, 100, 105, 110, 103].map Char.ofNat, [108, 111, 111, 112, 46, 101, 120, 97, 109, 112, 108, 101, 47, 103, 48, 49, 51, 48, 49, 47, 108, 97, 119, 115, 46, 70, 110, 69, 120, 97, 99, 116, 67, 111, 110, 116, 114, 97, 115, 116, 79, 102].map Char.ofNat]
theorem headT : Try.prog.initOrder.toList = headL := by
  have h : Try.prog.initOrder = String.ofList headL := by kernel_rfl
  rw [h, String.toList_ofList]
theorem headV : behindMainWord (wordsSigns headL) = headC :: headR := by kernel_rfl
theorem headS : stripLifts liftWords (headC :: headR) = ([], headC :: headR) := by kernel_rfl
theorem headLays : Try.prog.laysLater = false := by kernel_rfl
theorem headRefl : Try.prog.bearsReflect = false := by kernel_rfl
theorem headDoor : Try.prog.doorFits [] = true := by kernel_rfl
theorem headQ1 : (headC == "gc".toList) = false := by kernel_rfl
theorem headQ2 : (headC == "spec".toList) = false := by kernel_rfl
theorem headQ3 : (headC == "carried".toList) = false := by kernel_rfl
theorem headQ4 : (headC == "cut".toList) = true := by kernel_rfl
theorem hfEnter : Try.prog.mayEnter = true := mayEnter_of _ _ _ _ headT headV headS headLays headRefl headDoor headQ4
theorem hfMake : Try.prog.make = some .cut := make_of _ _ _ _ headT headV headQ1 headQ2 headQ4
theorem hfFinal : Try.prog.liftsFinal = false := final_of _ _ _ _ headT headV headS headQ3
theorem hfLaid : laidOutB Try.prog = true := by kernel_rfl
theorem hfMaps : mapsRowed Try.prog = true := by kernel_rfl
theorem hfStops : (Try.prog.stops == []) = true := by kernel_rfl
theorem hfKnobs : (Try.prog.stopKnobs == []) = true := by kernel_rfl
theorem hfKeys : Try.prog.plainKeys = true := by kernel_rfl
theorem hfHeard : Try.prog.stopsHeard = true := by kernel_rfl
theorem hfOwn : ownKnob Try.prog.godebug = none := by kernel_rfl
end Go.Proofs.Ytmnidldpkkpeoaa
