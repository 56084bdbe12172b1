/-
  The closed facts of the seat's program that hang on no law.
-/
import Derived.Test.YtnmlcebejnlikaaAmH0
import Derived.Test.YtnmlcebejnlikaaRows
import Derived.WalkKit
import Derived.KernelRfl
namespace Go.Proofs.Ytnmlcebejnlikaa
open Go.AM

def headSigns : List Char := [104, 97, 114, 110, 101, 115, 115, 32, 101, 48, 53, 52, 54, 49, 53, 56, 100, 55, 97, 48, 102, 57, 57, 101, 52, 97, 51, 53, 55, 101, 98, 54, 57, 51, 48, 56, 55, 56, 101, 56, 101, 54, 53, 53, 98, 54, 49, 49, 102, 53, 100, 57, 52, 55, 56, 98, 99, 53, 102, 99, 97, 51, 97, 52, 97, 97, 52, 54, 50, 49, 52, 54, 32, 99, 117, 116, 32, 97, 116, 32, 108, 111, 111, 112, 46, 101, 120, 97, 109, 112, 108, 101, 47, 103, 48, 48, 56, 54, 50, 47, 108, 97, 119, 115, 46, 70, 110, 69, 120, 97, 99, 116, 77, 105, 110, 105, 109, 117, 109, 67, 111, 118, 101, 114].map Char.ofNat
def words : List (List Char) := behindMainWord (wordsSigns headSigns)
theorem own : ownKnob Try.prog.godebug = none := by kernel_rfl
theorem laidOut : laidOutB Try.prog = true := by kernel_rfl
theorem mapsRows : mapsRowed Try.prog = true := by kernel_rfl
theorem noStops : Try.prog.stops = [] := by kernel_rfl
theorem noKnobs : Try.prog.stopKnobs = [] := by kernel_rfl
theorem keysPlain : Try.prog.plainKeys = true := by kernel_rfl
theorem heard : Try.prog.stopsHeard = true := by kernel_rfl
theorem head_eq : Try.prog.initOrder = String.ofList headSigns := by kernel_rfl
theorem head_list : Try.prog.initOrder.toList = headSigns := by rw [head_eq, String.toList_ofList]
theorem words_cut : words = cutW :: words.tail := by kernel_rfl
theorem words_at : behindMainWord (wordsSigns Try.prog.initOrder.toList) = cutW :: words.tail := by rw [head_list]; exact words_cut
theorem lays : Try.prog.laysLater = false := by kernel_rfl
theorem bears : Try.prog.bearsReflect = false := by kernel_rfl
theorem door : Try.prog.doorFits [] = true := by kernel_rfl
theorem enters : Try.prog.mayEnter = true := mayEnter_cut _ _ words_at lays bears door
theorem lifts : Try.prog.liftsFinal = false := lifts_cut _ _ words_at
theorem made : Try.prog.make = some .cut := make_cut _ _ words_at

end Go.Proofs.Ytnmlcebejnlikaa
