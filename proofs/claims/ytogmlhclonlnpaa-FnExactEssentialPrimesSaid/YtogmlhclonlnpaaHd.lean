/-
  The closed facts of the seat's program that hang on no law.
-/
import Derived.Test.YtogmlhclonlnpaaAmH0
import Derived.Test.YtogmlhclonlnpaaRows
import Derived.WalkKit
import Derived.KernelRfl
namespace Go.Proofs.Ytogmlhclonlnpaa
open Go.AM

def headSigns : List Char := [104, 97, 114, 110, 101, 115, 115, 32, 100, 102, 53, 102, 52, 54, 48, 50, 57, 99, 54, 99, 52, 50, 49, 56, 102, 48, 52, 55, 49, 50, 97, 51, 102, 54, 100, 48, 100, 52, 97, 49, 53, 57, 56, 50, 49, 56, 100, 102, 97, 98, 48, 97, 52, 98, 48, 98, 53, 97, 50, 50, 99, 51, 55, 55, 48, 101, 49, 55, 53, 54, 48, 49, 32, 99, 117, 116, 32, 97, 116, 32, 108, 111, 111, 112, 46, 101, 120, 97, 109, 112, 108, 101, 47, 103, 48, 48, 56, 54, 50, 47, 108, 97, 119, 115, 46, 70, 110, 69, 120, 97, 99, 116, 67, 111, 100, 105, 110, 103, 67, 111, 110, 102, 108, 105, 99, 116, 115, 32, 108, 111, 111, 112, 46, 101, 120, 97, 109, 112, 108, 101, 47, 103, 48, 48, 56, 54, 50, 47, 108, 97, 119, 115, 46, 70, 110, 69, 120, 97, 99, 116, 83, 101, 116, 66, 108, 111, 99, 107, 32, 108, 111, 111, 112, 46, 101, 120, 97, 109, 112, 108, 101, 47, 103, 48, 48, 56, 54, 50, 47, 108, 97, 119, 115, 46, 70, 110, 69, 120, 97, 99, 116, 73, 110, 115, 101, 114, 116, 105, 111, 110, 80, 97, 114, 116, 105, 116, 105, 111, 110, 32, 108, 111, 111, 112, 46, 101, 120, 97, 109, 112, 108, 101, 47, 103, 48, 48, 56, 54, 50, 47, 108, 97, 119, 115, 46, 70, 110, 69, 120, 97, 99, 116, 69, 115, 115, 101, 110, 116, 105, 97, 108, 80, 114, 105, 109, 101, 115, 32, 108, 111, 111, 112, 46, 101, 120, 97, 109, 112, 108, 101, 47, 103, 48, 48, 56, 54, 50, 47, 108, 97, 119, 115, 46, 70, 110, 69, 120, 97, 99, 116, 77, 105, 110, 105, 109, 117, 109, 67, 111, 118, 101, 114].map Char.ofNat
def words : List (List Char) := behindMainWord (wordsSigns headSigns)
theorem own : ownKnob Try.prog.godebug = none := by kernel_rfl
theorem laidOut : laidOutB Try.prog = true := by kernel_rfl
theorem mapsRows : mapsRowed Try.prog = true := by kernel_rfl
theorem noStops : Try.prog.stops = [] := by kernel_rfl
theorem noKnobs : Try.prog.stopKnobs = [] := by kernel_rfl
theorem keysPlain : Try.prog.plainKeys = true := by kernel_rfl
theorem heard : Try.prog.stopsHeard = true := by kernel_rfl
theorem head_eq : Try.prog.initOrder = String.ofList headSigns := by kernel_rfl
theorem head_list : Try.prog.initOrder.toList = headSigns := by rw [head_eq, String.toList_ofList]
theorem words_cut : words = cutW :: words.tail := by kernel_rfl
theorem words_at : behindMainWord (wordsSigns Try.prog.initOrder.toList) = cutW :: words.tail := by rw [head_list]; exact words_cut
theorem lays : Try.prog.laysLater = false := by kernel_rfl
theorem bears : Try.prog.bearsReflect = false := by kernel_rfl
theorem door : Try.prog.doorFits [] = true := by kernel_rfl
theorem enters : Try.prog.mayEnter = true := mayEnter_cut _ _ words_at lays bears door
theorem lifts : Try.prog.liftsFinal = false := lifts_cut _ _ words_at
theorem made : Try.prog.make = some .cut := make_cut _ _ words_at

end Go.Proofs.Ytogmlhclonlnpaa
