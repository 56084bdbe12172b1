/-
  The closed facts of the seat's program that hang on no law.
-/
import Derived.Test.YtnmlcebejnlikaaGreatAmH0
import Derived.Test.YtnmlcebejnlikaaGreatRows
import Derived.WalkKit
import Derived.KernelRfl
namespace Go.Proofs.YtnmlcebejnlikaaGreat
open Go.AM

def headSigns : List Char := [104, 97, 114, 110, 101, 115, 115, 32, 51, 56, 99, 98, 57, 52, 98, 99, 53, 50, 102, 56, 57, 51, 55, 98, 50, 52, 97, 56, 48, 97, 51, 50, 102, 54, 52, 100, 97, 97, 55, 100, 53, 55, 100, 102, 50, 48, 54, 48, 102, 98, 100, 49, 97, 51, 51, 100, 50, 54, 102, 97, 101, 57, 49, 101, 101, 99, 102, 101, 97, 54, 50, 97, 32, 99, 117, 116, 32, 97, 116, 32, 108, 111, 111, 112, 46, 101, 120, 97, 109, 112, 108, 101, 47, 103, 48, 48, 56, 54, 50, 47, 108, 97, 119, 115, 46, 70, 110, 69, 120, 97, 99, 116, 82, 101, 115, 101, 116, 70, 117, 110, 99, 116, 105, 111, 110, 83, 101, 116, 115, 32, 108, 111, 111, 112, 46, 101, 120, 97, 109, 112, 108, 101, 47, 103, 48, 48, 56, 54, 50, 47, 108, 97, 119, 115, 46, 70, 110, 69, 120, 97, 99, 116, 78, 101, 120, 116, 86, 97, 108, 117, 101, 32, 108, 111, 111, 112, 46, 101, 120, 97, 109, 112, 108, 101, 47, 103, 48, 48, 56, 54, 50, 47, 108, 97, 119, 115, 46, 70, 110, 69, 120, 97, 99, 116, 78, 101, 120, 116, 83, 116, 97, 116, 101, 70, 117, 110, 99, 116, 105, 111, 110, 32, 108, 111, 111, 112, 46, 101, 120, 97, 109, 112, 108, 101, 47, 103, 48, 48, 56, 54, 50, 47, 108, 97, 119, 115, 46, 70, 110, 69, 120, 97, 99, 116, 69, 120, 99, 105, 116, 97, 116, 105, 111, 110, 82, 101, 103, 105, 111, 110, 115, 32, 108, 111, 111, 112, 46, 101, 120, 97, 109, 112, 108, 101, 47, 103, 48, 48, 56, 54, 50, 47, 108, 97, 119, 115, 46, 70, 110, 69, 120, 97, 99, 116, 81, 117, 105, 101, 115, 99, 101, 110, 116, 82, 101, 103, 105, 111, 110, 32, 108, 111, 111, 112, 46, 101, 120, 97, 109, 112, 108, 101, 47, 103, 48, 48, 56, 54, 50, 47, 108, 97, 119, 115, 46, 70, 110, 69, 120, 97, 99, 116, 67, 111, 109, 112, 108, 101, 120, 71, 97, 116, 101, 67, 105, 114, 99, 117, 105, 116, 32, 108, 111, 111, 112, 46, 101, 120, 97, 109, 112, 108, 101, 47, 103, 48, 48, 56, 54, 50, 47, 108, 97, 119, 115, 46, 70, 110, 69, 120, 97, 99, 116, 71, 101, 110, 101, 114, 97, 108, 105, 122, 101, 100, 67, 67, 105, 114, 99, 117, 105, 116, 32, 108, 111, 111, 112, 46, 101, 120, 97, 109, 112, 108, 101, 47, 103, 48, 48, 56, 54, 50, 47, 108, 97, 119, 115, 46, 70, 110, 69, 120, 97, 99, 116, 70, 111, 114, 109, 97, 116, 82, 101, 103, 105, 111, 110, 67, 111, 118, 101, 114, 115, 32, 108, 111, 111, 112, 46, 101, 120, 97, 109, 112, 108, 101, 47, 103, 48, 48, 56, 54, 50, 47, 108, 97, 119, 115, 46, 70, 110, 69, 120, 97, 99, 116, 84, 114, 97, 99, 101, 115, 32, 108, 111, 111, 112, 46, 101, 120, 97, 109, 112, 108, 101, 47, 103, 48, 48, 56, 54, 50, 47, 108, 97, 119, 115, 46, 70, 110, 69, 120, 97, 99, 116, 67, 104, 101, 99, 107, 77, 111, 110, 111, 116, 111, 110, 111, 117, 115, 32, 108, 111, 111, 112, 46, 101, 120, 97, 109, 112, 108, 101, 47, 103, 48, 48, 56, 54, 50, 47, 108, 97, 119, 115, 46, 70, 110, 69, 120, 97, 99, 116, 70, 105, 110, 100, 77, 111, 110, 111, 116, 111, 110, 111, 117, 115, 67, 117, 98, 101, 32, 108, 111, 111, 112, 46, 101, 120, 97, 109, 112, 108, 101, 47, 103, 48, 48, 56, 54, 50, 47, 108, 97, 119, 115, 46, 70, 110, 69, 120, 97, 99, 116, 65, 114, 101, 77, 111, 110, 111, 116, 111, 110, 111, 117, 115, 32, 108, 111, 111, 112, 46, 101, 120, 97, 109, 112, 108, 101, 47, 103, 48, 48, 56, 54, 50, 47, 108, 97, 119, 115, 46, 70, 110, 69, 120, 97, 99, 116, 77, 111, 110, 111, 116, 111, 110, 111, 117, 115, 67, 111, 118, 101, 114, 115].map Char.ofNat
def words : List (List Char) := behindMainWord (wordsSigns headSigns)
theorem own : ownKnob Tryz.prog.godebug = none := by kernel_rfl
theorem laidOut : laidOutB Tryz.prog = true := by kernel_rfl
theorem mapsRows : mapsRowed Tryz.prog = true := by kernel_rfl
theorem noStops : Tryz.prog.stops = [] := by kernel_rfl
theorem noKnobs : Tryz.prog.stopKnobs = [] := by kernel_rfl
theorem keysPlain : Tryz.prog.plainKeys = true := by kernel_rfl
theorem heard : Tryz.prog.stopsHeard = true := by kernel_rfl
theorem head_eq : Tryz.prog.initOrder = String.ofList headSigns := by kernel_rfl
theorem head_list : Tryz.prog.initOrder.toList = headSigns := by rw [head_eq, String.toList_ofList]
theorem words_cut : words = cutW :: words.tail := by kernel_rfl
theorem words_at : behindMainWord (wordsSigns Tryz.prog.initOrder.toList) = cutW :: words.tail := by rw [head_list]; exact words_cut
theorem lays : Tryz.prog.laysLater = false := by kernel_rfl
theorem bears : Tryz.prog.bearsReflect = false := by kernel_rfl
theorem door : Tryz.prog.doorFits [] = true := by kernel_rfl
theorem enters : Tryz.prog.mayEnter = true := mayEnter_cut _ _ words_at lays bears door
theorem lifts : Tryz.prog.liftsFinal = false := lifts_cut _ _ words_at
theorem made : Tryz.prog.make = some .cut := make_cut _ _ words_at

end Go.Proofs.YtnmlcebejnlikaaGreat
