/-
  The closed facts of the seat's program that hang on no law.
-/
import Derived.Test.YtogmlhclonlnpaaGreatAmH0
import Derived.Test.YtogmlhclonlnpaaGreatRows
import Derived.WalkKit
import Derived.KernelRfl
namespace Go.Proofs.YtogmlhclonlnpaaGreat
open Go.AM

def headSigns : List Char := [104, 97, 114, 110, 101, 115, 115, 32, 50, 55, 101, 55, 56, 48, 50, 97, 98, 48, 100, 48, 101, 100, 55, 99, 54, 57, 100, 51, 102, 52, 51, 101, 101, 97, 53, 54, 54, 100, 49, 49, 54, 50, 54, 97, 57, 99, 101, 102, 50, 102, 54, 100, 48, 97, 57, 55, 53, 100, 51, 97, 101, 53, 97, 48, 51, 99, 50, 48, 49, 98, 52, 53, 32, 99, 117, 116, 32, 97, 116, 32, 108, 111, 111, 112, 46, 101, 120, 97, 109, 112, 108, 101, 47, 103, 48, 48, 56, 54, 50, 47, 108, 97, 119, 115, 46, 70, 110, 69, 120, 97, 99, 116, 78, 101, 120, 116, 83, 116, 97, 116, 101, 83, 101, 116, 115, 32, 108, 111, 111, 112, 46, 101, 120, 97, 109, 112, 108, 101, 47, 103, 48, 48, 56, 54, 50, 47, 108, 97, 119, 115, 46, 70, 110, 69, 120, 97, 99, 116, 83, 101, 116, 70, 117, 110, 99, 116, 105, 111, 110, 83, 101, 116, 115, 32, 108, 111, 111, 112, 46, 101, 120, 97, 109, 112, 108, 101, 47, 103, 48, 48, 56, 54, 50, 47, 108, 97, 119, 115, 46, 70, 110, 69, 120, 97, 99, 116, 82, 101, 115, 101, 116, 70, 117, 110, 99, 116, 105, 111, 110, 83, 101, 116, 115, 32, 108, 111, 111, 112, 46, 101, 120, 97, 109, 112, 108, 101, 47, 103, 48, 48, 56, 54, 50, 47, 108, 97, 119, 115, 46, 70, 110, 69, 120, 97, 99, 116, 78, 101, 120, 116, 86, 97, 108, 117, 101, 32, 108, 111, 111, 112, 46, 101, 120, 97, 109, 112, 108, 101, 47, 103, 48, 48, 56, 54, 50, 47, 108, 97, 119, 115, 46, 70, 110, 69, 120, 97, 99, 116, 78, 101, 120, 116, 83, 116, 97, 116, 101, 70, 117, 110, 99, 116, 105, 111, 110, 32, 108, 111, 111, 112, 46, 101, 120, 97, 109, 112, 108, 101, 47, 103, 48, 48, 56, 54, 50, 47, 108, 97, 119, 115, 46, 70, 110, 69, 120, 97, 99, 116, 67, 111, 109, 112, 108, 101, 120, 71, 97, 116, 101, 67, 105, 114, 99, 117, 105, 116, 32, 108, 111, 111, 112, 46, 101, 120, 97, 109, 112, 108, 101, 47, 103, 48, 48, 56, 54, 50, 47, 108, 97, 119, 115, 46, 70, 110, 69, 120, 97, 99, 116, 71, 101, 110, 101, 114, 97, 108, 105, 122, 101, 100, 67, 67, 105, 114, 99, 117, 105, 116].map Char.ofNat
def words : List (List Char) := behindMainWord (wordsSigns headSigns)
theorem own : ownKnob Tryz.prog.godebug = none := by kernel_rfl
theorem laidOut : laidOutB Tryz.prog = true := by kernel_rfl
theorem mapsRows : mapsRowed Tryz.prog = true := by kernel_rfl
theorem noStops : Tryz.prog.stops = [] := by kernel_rfl
theorem noKnobs : Tryz.prog.stopKnobs = [] := by kernel_rfl
theorem keysPlain : Tryz.prog.plainKeys = true := by kernel_rfl
theorem heard : Tryz.prog.stopsHeard = true := by kernel_rfl
theorem head_eq : Tryz.prog.initOrder = String.ofList headSigns := by kernel_rfl
theorem head_list : Tryz.prog.initOrder.toList = headSigns := by rw [head_eq, String.toList_ofList]
theorem words_cut : words = cutW :: words.tail := by kernel_rfl
theorem words_at : behindMainWord (wordsSigns Tryz.prog.initOrder.toList) = cutW :: words.tail := by rw [head_list]; exact words_cut
theorem lays : Tryz.prog.laysLater = false := by kernel_rfl
theorem bears : Tryz.prog.bearsReflect = false := by kernel_rfl
theorem door : Tryz.prog.doorFits [] = true := by kernel_rfl
theorem enters : Tryz.prog.mayEnter = true := mayEnter_cut _ _ words_at lays bears door
theorem lifts : Tryz.prog.liftsFinal = false := lifts_cut _ _ words_at
theorem made : Tryz.prog.make = some .cut := make_cut _ _ words_at

end Go.Proofs.YtogmlhclonlnpaaGreat
