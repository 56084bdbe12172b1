/-
  The closed facts of the seat's program that hang on no law.
-/
import Derived.Test.YtaoahoooeliliaaAmH0
import Derived.Test.YtaoahoooeliliaaRows
import Derived.WalkKit
import Derived.KernelRfl
namespace Go.Proofs.Ytaoahoooeliliaa
open Go.AM

def headSigns : List Char := [104, 97, 114, 110, 101, 115, 115, 32, 55, 55, 54, 49, 53, 53, 98, 57, 56, 48, 49, 49, 98, 102, 101, 55, 98, 100, 49, 57, 56, 99, 57, 57, 97, 98, 48, 50, 101, 54, 54, 50, 55, 52, 55, 49, 48, 100, 102, 98, 102, 99, 57, 52, 49, 101, 51, 56, 51, 52, 52, 49, 53, 102, 50, 57, 55, 100, 97, 51, 48, 51, 99, 56, 32, 99, 117, 116, 32, 97, 116, 32, 108, 111, 111, 112, 46, 101, 120, 97, 109, 112, 108, 101, 47, 103, 48, 48, 56, 54, 50, 47, 108, 97, 119, 115, 46, 70, 110, 69, 120, 97, 99, 116, 78, 101, 120, 116, 71, 97, 116, 101, 86, 97, 108, 117, 101, 32, 108, 111, 111, 112, 46, 101, 120, 97, 109, 112, 108, 101, 47, 103, 48, 48, 56, 54, 50, 47, 108, 97, 119, 115, 46, 70, 110, 69, 120, 97, 99, 116, 69, 120, 99, 105, 116, 101, 100, 71, 97, 116, 101, 115, 32, 108, 111, 111, 112, 46, 101, 120, 97, 109, 112, 108, 101, 47, 103, 48, 48, 56, 54, 50, 47, 108, 97, 119, 115, 46, 70, 110, 69, 120, 97, 99, 116, 83, 105, 103, 110, 97, 108, 80, 97, 114, 116, 105, 116, 105, 111, 110, 32, 108, 111, 111, 112, 46, 101, 120, 97, 109, 112, 108, 101, 47, 103, 48, 48, 56, 54, 50, 47, 108, 97, 119, 115, 46, 70, 110, 69, 120, 97, 99, 116, 73, 115, 86, 97, 108, 105, 100, 80, 97, 114, 116, 105, 116, 105, 111, 110, 32, 108, 111, 111, 112, 46, 101, 120, 97, 109, 112, 108, 101, 47, 103, 48, 48, 56, 54, 50, 47, 108, 97, 119, 115, 46, 70, 110, 69, 120, 97, 99, 116, 72, 97, 115, 67, 83, 67, 32, 108, 111, 111, 112, 46, 101, 120, 97, 109, 112, 108, 101, 47, 103, 48, 48, 56, 54, 50, 47, 108, 97, 119, 115, 46, 70, 110, 69, 120, 97, 99, 116, 67, 111, 117, 110, 116, 68, 105, 115, 97, 98, 108, 105, 110, 103, 115, 32, 108, 111, 111, 112, 46, 101, 120, 97, 109, 112, 108, 101, 47, 103, 48, 48, 56, 54, 50, 47, 108, 97, 119, 115, 46, 70, 110, 69, 120, 97, 99, 116, 73, 110, 112, 117, 116, 115, 85, 110, 100, 101, 108, 97, 121, 101, 100, 32, 108, 111, 111, 112, 46, 101, 120, 97, 109, 112, 108, 101, 47, 103, 48, 48, 56, 54, 50, 47, 108, 97, 119, 115, 46, 70, 110, 69, 120, 97, 99, 116, 85, 110, 114, 101, 97, 99, 104, 97, 98, 108, 101, 67, 111, 100, 101, 115, 32, 108, 111, 111, 112, 46, 101, 120, 97, 109, 112, 108, 101, 47, 103, 48, 48, 56, 54, 50, 47, 108, 97, 119, 115, 46, 70, 110, 69, 120, 97, 99, 116, 68, 101, 108, 97, 121, 101, 100, 65, 114, 99, 115, 32, 108, 111, 111, 112, 46, 101, 120, 97, 109, 112, 108, 101, 47, 103, 48, 48, 56, 54, 50, 47, 108, 97, 119, 115, 46, 70, 110, 69, 120, 97, 99, 116, 73, 109, 112, 108, 101, 109, 101, 110, 116, 115].map Char.ofNat
def words : List (List Char) := behindMainWord (wordsSigns headSigns)
theorem own : ownKnob Try.prog.godebug = none := by kernel_rfl
theorem laidOut : laidOutB Try.prog = true := by kernel_rfl
theorem mapsRows : mapsRowed Try.prog = true := by kernel_rfl
theorem noStops : Try.prog.stops = [] := by kernel_rfl
theorem noKnobs : Try.prog.stopKnobs = [] := by kernel_rfl
theorem keysPlain : Try.prog.plainKeys = true := by kernel_rfl
theorem heard : Try.prog.stopsHeard = true := by kernel_rfl
theorem head_eq : Try.prog.initOrder = String.ofList headSigns := by kernel_rfl
theorem head_list : Try.prog.initOrder.toList = headSigns := by rw [head_eq, String.toList_ofList]
theorem words_cut : words = cutW :: words.tail := by kernel_rfl
theorem words_at : behindMainWord (wordsSigns Try.prog.initOrder.toList) = cutW :: words.tail := by rw [head_list]; exact words_cut
theorem lays : Try.prog.laysLater = false := by kernel_rfl
theorem bears : Try.prog.bearsReflect = false := by kernel_rfl
theorem door : Try.prog.doorFits [] = true := by kernel_rfl
theorem enters : Try.prog.mayEnter = true := mayEnter_cut _ _ words_at lays bears door
theorem lifts : Try.prog.liftsFinal = false := lifts_cut _ _ words_at
theorem made : Try.prog.make = some .cut := make_cut _ _ words_at

end Go.Proofs.Ytaoahoooeliliaa
