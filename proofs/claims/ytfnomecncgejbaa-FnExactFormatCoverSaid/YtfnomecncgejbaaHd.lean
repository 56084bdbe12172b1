/-
  The closed facts of the seat's program that hang on no law.
-/
import Derived.Test.YtfnomecncgejbaaAmH0
import Derived.Test.YtfnomecncgejbaaRows
import Derived.WalkKit
import Derived.KernelRfl
namespace Go.Proofs.Ytfnomecncgejbaa
open Go.AM

def headSigns : List Char := [104, 97, 114, 110, 101, 115, 115, 32, 53, 98, 57, 100, 49, 52, 49, 54, 49, 101, 99, 52, 55, 98, 56, 97, 55, 50, 53, 56, 57, 49, 57, 48, 57, 50, 55, 55, 56, 52, 51, 102, 49, 98, 101, 51, 99, 48, 99, 54, 57, 48, 49, 48, 55, 56, 54, 52, 99, 97, 98, 57, 48, 48, 55, 56, 99, 51, 49, 57, 100, 56, 102, 101, 32, 99, 117, 116, 32, 97, 116, 32, 108, 111, 111, 112, 46, 101, 120, 97, 109, 112, 108, 101, 47, 103, 48, 48, 56, 54, 50, 47, 108, 97, 119, 115, 46, 70, 110, 69, 120, 97, 99, 116, 73, 115, 84, 97, 117, 116, 111, 108, 111, 103, 121, 32, 108, 111, 111, 112, 46, 101, 120, 97, 109, 112, 108, 101, 47, 103, 48, 48, 56, 54, 50, 47, 108, 97, 119, 115, 46, 70, 110, 69, 120, 97, 99, 116, 65, 114, 101, 69, 113, 117, 105, 118, 97, 108, 101, 110, 116, 32, 108, 111, 111, 112, 46, 101, 120, 97, 109, 112, 108, 101, 47, 103, 48, 48, 56, 54, 50, 47, 108, 97, 119, 115, 46, 70, 110, 69, 120, 97, 99, 116, 77, 105, 110, 116, 101, 114, 109, 115, 32, 108, 111, 111, 112, 46, 101, 120, 97, 109, 112, 108, 101, 47, 103, 48, 48, 56, 54, 50, 47, 108, 97, 119, 115, 46, 70, 110, 69, 120, 97, 99, 116, 73, 115, 67, 111, 118, 101, 114, 79, 102, 32, 108, 111, 111, 112, 46, 101, 120, 97, 109, 112, 108, 101, 47, 103, 48, 48, 56, 54, 50, 47, 108, 97, 119, 115, 46, 70, 110, 69, 120, 97, 99, 116, 69, 113, 117, 97, 108, 78, 101, 116, 108, 105, 115, 116, 32, 108, 111, 111, 112, 46, 101, 120, 97, 109, 112, 108, 101, 47, 103, 48, 48, 56, 54, 50, 47, 108, 97, 119, 115, 46, 70, 110, 69, 120, 97, 99, 116, 70, 111, 114, 109, 97, 116, 67, 111, 118, 101, 114, 32, 108, 111, 111, 112, 46, 101, 120, 97, 109, 112, 108, 101, 47, 103, 48, 48, 56, 54, 50, 47, 108, 97, 119, 115, 46, 70, 110, 69, 120, 97, 99, 116, 73, 115, 86, 97, 108, 105, 100, 67, 105, 114, 99, 117, 105, 116, 32, 108, 111, 111, 112, 46, 101, 120, 97, 109, 112, 108, 101, 47, 103, 48, 48, 56, 54, 50, 47, 108, 97, 119, 115, 46, 70, 110, 69, 120, 97, 99, 116, 73, 114, 114, 101, 100, 117, 110, 100, 97, 110, 116, 32, 108, 111, 111, 112, 46, 101, 120, 97, 109, 112, 108, 101, 47, 103, 48, 48, 56, 54, 50, 47, 108, 97, 119, 115, 46, 70, 110, 69, 120, 97, 99, 116, 80, 114, 105, 109, 101, 115, 32, 108, 111, 111, 112, 46, 101, 120, 97, 109, 112, 108, 101, 47, 103, 48, 48, 56, 54, 50, 47, 108, 97, 119, 115, 46, 70, 110, 69, 120, 97, 99, 116, 67, 105, 114, 99, 117, 105, 116, 76, 105, 116, 101, 114, 97, 108, 115, 32, 108, 111, 111, 112, 46, 101, 120, 97, 109, 112, 108, 101, 47, 103, 48, 48, 56, 54, 50, 47, 108, 97, 119, 115, 46, 70, 110, 69, 120, 97, 99, 116, 73, 115, 86, 97, 108, 105, 100, 78, 101, 116, 108, 105, 115, 116, 32, 108, 111, 111, 112, 46, 101, 120, 97, 109, 112, 108, 101, 47, 103, 48, 48, 56, 54, 50, 47, 108, 97, 119, 115, 46, 70, 110, 69, 120, 97, 99, 116, 67, 111, 117, 110, 116, 80, 105, 110, 115, 32, 108, 111, 111, 112, 46, 101, 120, 97, 109, 112, 108, 101, 47, 103, 48, 48, 56, 54, 50, 47, 108, 97, 119, 115, 46, 70, 110, 69, 120, 97, 99, 116, 71, 114, 101, 101, 100, 121, 67, 111, 118, 101, 114, 32, 108, 111, 111, 112, 46, 101, 120, 97, 109, 112, 108, 101, 47, 103, 48, 48, 56, 54, 50, 47, 108, 97, 119, 115, 46, 70, 110, 69, 120, 97, 99, 116, 70, 111, 114, 109, 97, 116, 67, 105, 114, 99, 117, 105, 116].map Char.ofNat
def words : List (List Char) := behindMainWord (wordsSigns headSigns)
theorem own : ownKnob Try.prog.godebug = none := by kernel_rfl
theorem laidOut : laidOutB Try.prog = true := by kernel_rfl
theorem mapsRows : mapsRowed Try.prog = true := by kernel_rfl
theorem noStops : Try.prog.stops = [] := by kernel_rfl
theorem noKnobs : Try.prog.stopKnobs = [] := by kernel_rfl
theorem keysPlain : Try.prog.plainKeys = true := by kernel_rfl
theorem heard : Try.prog.stopsHeard = true := by kernel_rfl
theorem head_eq : Try.prog.initOrder = String.ofList headSigns := by kernel_rfl
theorem head_list : Try.prog.initOrder.toList = headSigns := by rw [head_eq, String.toList_ofList]
theorem words_cut : words = cutW :: words.tail := by kernel_rfl
theorem words_at : behindMainWord (wordsSigns Try.prog.initOrder.toList) = cutW :: words.tail := by rw [head_list]; exact words_cut
theorem lays : Try.prog.laysLater = false := by kernel_rfl
theorem bears : Try.prog.bearsReflect = false := by kernel_rfl
theorem door : Try.prog.doorFits [] = true := by kernel_rfl
theorem enters : Try.prog.mayEnter = true := mayEnter_cut _ _ words_at lays bears door
theorem lifts : Try.prog.liftsFinal = false := lifts_cut _ _ words_at
theorem made : Try.prog.make = some .cut := make_cut _ _ words_at

end Go.Proofs.Ytfnomecncgejbaa
