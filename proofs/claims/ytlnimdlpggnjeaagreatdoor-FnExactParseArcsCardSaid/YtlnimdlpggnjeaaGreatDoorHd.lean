/-
  The closed facts of the seat's program that hang on no law.
-/
import Derived.Test.YtlnimdlpggnjeaaGreatDoorAmH0
import Derived.Test.YtlnimdlpggnjeaaGreatDoorRows
import Derived.WalkKit
import Derived.KernelRfl
namespace Go.Proofs.YtlnimdlpggnjeaaGreatDoor
open Go.AM

def headSigns : List Char := [104, 97, 114, 110, 101, 115, 115, 32, 100, 53, 99, 102, 97, 51, 56, 100, 102, 97, 52, 102, 53, 101, 100, 51, 99, 102, 54, 100, 98, 99, 98, 55, 98, 101, 57, 98, 48, 56, 101, 52, 50, 51, 99, 54, 48, 55, 51, 50, 49, 102, 56, 48, 56, 57, 55, 101, 49, 56, 49, 52, 100, 97, 53, 97, 100, 53, 57, 49, 99, 54, 49, 54, 32, 99, 117, 116, 32, 97, 116, 32, 108, 111, 111, 112, 46, 101, 120, 97, 109, 112, 108, 101, 47, 103, 48, 48, 56, 54, 50, 47, 108, 97, 119, 115, 46, 70, 110, 69, 120, 97, 99, 116, 80, 97, 114, 115, 101, 65, 114, 99, 115].map Char.ofNat
def words : List (List Char) := behindMainWord (wordsSigns headSigns)
theorem own : ownKnob Tryz.prog.godebug = none := by kernel_rfl
theorem laidOut : laidOutB Tryz.prog = true := by kernel_rfl
theorem mapsRows : mapsRowed Tryz.prog = true := by kernel_rfl
theorem noStops : Tryz.prog.stops = [] := by kernel_rfl
theorem noKnobs : Tryz.prog.stopKnobs = [] := by kernel_rfl
theorem keysPlain : Tryz.prog.plainKeys = true := by kernel_rfl
theorem heard : Tryz.prog.stopsHeard = true := by kernel_rfl
theorem head_eq : Tryz.prog.initOrder = String.ofList headSigns := by kernel_rfl
theorem head_list : Tryz.prog.initOrder.toList = headSigns := by rw [head_eq, String.toList_ofList]
theorem words_cut : words = cutW :: words.tail := by kernel_rfl
theorem words_at : behindMainWord (wordsSigns Tryz.prog.initOrder.toList) = cutW :: words.tail := by rw [head_list]; exact words_cut
theorem lays : Tryz.prog.laysLater = false := by kernel_rfl
theorem bears : Tryz.prog.bearsReflect = false := by kernel_rfl
theorem door : Tryz.prog.doorFits [] = true := by kernel_rfl
theorem enters : Tryz.prog.mayEnter = true := mayEnter_cut _ _ words_at lays bears door
theorem lifts : Tryz.prog.liftsFinal = false := lifts_cut _ _ words_at
theorem made : Tryz.prog.make = some .cut := make_cut _ _ words_at

end Go.Proofs.YtlnimdlpggnjeaaGreatDoor
