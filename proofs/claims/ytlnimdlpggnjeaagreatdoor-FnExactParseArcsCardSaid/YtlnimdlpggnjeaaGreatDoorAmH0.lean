/-
  The closed facts of a claim, parted: those that hang on the program alone are met once.
-/
import Derived.WalkKit
import Derived.JoinedOf
import Derived.KernelRfl
namespace Go.AM

def cutW : List Char := [99, 117, 116].map Char.ofNat
theorem cutW_1 : (cutW == "gc".toList || cutW == "spec".toList) = false := by kernel_rfl
theorem cutW_2 (rest : List (List Char)) : (cutW == "cut".toList || (cutW == "finals".toList && rest.head? == some "cut".toList)) = true := by kernel_rfl
theorem cutW_3 (rest : List (List Char)) : stripLifts liftWords (cutW :: rest) = ([], cutW :: rest) := by kernel_rfl
theorem cutW_4 (rest : List (List Char)) : ((cutW :: rest).head? == some "carried".toList) = false := by kernel_rfl
theorem cutW_5 : (cutW == "carried".toList) = false := by kernel_rfl
theorem cutW_6 (rest : List (List Char)) : ((cutW :: rest).head? == some "cut".toList) = true := by kernel_rfl

theorem make_cut (P : Program) (rest : List (List Char)) (h : behindMainWord (wordsSigns P.initOrder.toList) = cutW :: rest) : P.make = some .cut := by
  unfold Program.make; rw [h]; show (if (cutW == "gc".toList || cutW == "spec".toList) = true then _ else _) = _; rw [cutW_1, if_neg (by decide), cutW_2, if_pos rfl]
theorem headLifts_cut (P : Program) (rest : List (List Char)) (h : behindMainWord (wordsSigns P.initOrder.toList) = cutW :: rest) : P.headLifts = [] := by
  unfold Program.headLifts; rw [h, cutW_3]; simp
theorem lifts_cut (P : Program) (rest : List (List Char)) (h : behindMainWord (wordsSigns P.initOrder.toList) = cutW :: rest) : P.liftsFinal = false := by
  unfold Program.liftsFinal; rw [headLifts_cut P rest h, h]; simp only [cutW_4]; rfl
theorem mayEnter_cut (P : Program) (rest : List (List Char)) (h : behindMainWord (wordsSigns P.initOrder.toList) = cutW :: rest) (h1 : P.laysLater = false) (h2 : P.bearsReflect = false) (h3 : P.doorFits [] = true) : P.mayEnter = true := by
  unfold Program.mayEnter; rw [h]
  show ((cutW == "gc".toList || cutW == "spec".toList) && _ || (cutW == "carried".toList && _ && _ && _) || _) = true
  rw [cutW_1, cutW_5, cutW_3]
  rw [show (((([] : List String), cutW :: rest).2.head?) == some "cut".toList) = true from cutW_6 rest, h1, h2, h3]; rfl

theorem joined_of {P : Program} {f : FuncId} {fn : Func} {s : ChangeSpec} {c : OpenClaim} (k1 : laidOutB P = true) (k2 : mapsRowed P = true) (k3 : P.stops = []) (k4 : P.stopKnobs = []) (k5 : (c.plainKeys == P.plainKeys) = true) (k6 : P.stopsHeard = true) (k7 : P.mayEnter = true) (k8 : (c.lifted == P.liftsFinal) = true) (k9 : (P.make == some c.make) = true)
    (a1 : (c.inPlace == P.inPlace f) = true) (a2 : (c.unfollowed == P.unfollowed f) = true) (a3 : (c.recurses == P.recurses f) = true) (a4 : (c.named == P.varsNamed f) = true)
    (rest : (c.wf (OpenSpec.ofChange s) && fn.params.all (P.readableRec ·) && namedTie P c.named s.vars && (c.stops == []) && (c.knobs == []) &&
      (c.maps == (fn.params.toList ++ s.plain.varTypes P).any (P.mapsRec ·)) && (c.ifaces == (fn.params.toList ++ s.plain.varTypes P).any (P.ifacesRec ·)) && (c.mapsOut == P.mapsAmong fn.resultTypes.toList) &&
      (c.loops == (fn.params.toList ++ s.plain.varTypes P).any (P.loopsFrom ·)) && (c.wideKeys == (fn.params.toList ++ s.plain.varTypes P ++ fn.resultTypes.toList).any (P.wideKeysFrom ·)) &&
      s.vars.all (P.varReadable ·) && fn.resultTypes.all (fun t => P.readableRec t && decide (t < P.types.size)) && (c.ifacesOut == fn.resultTypes.toList.any (P.ifacesRec ·)) && (c.loopsOut == fn.resultTypes.toList.any (P.loopsFrom ·)) && c.shortTexts.isNone && (c.kinds == (if c.domain.isEmpty then [] else fn.params.toList.map fun t => match P.underlying t with | some (.int k) => some k | _ => none)) && (c.pinned == c.pinnedBy) &&
      (c.veiled == (fn.params.toList ++ s.plain.varTypes P ++ fn.resultTypes.toList).any (P.veiledRec ·)) && c.veiledFits P fn.params.toList (fn.params.toList ++ s.plain.varTypes P ++ fn.resultTypes.toList)) = true) : joinedFacts P f fn s c = true := by
  simp only [Bool.and_eq_true] at rest
  unfold joinedFacts
  simp only [Bool.and_eq_true, k1, k2, k3, k4, k5, k6, k7, k8, k9, a1, a2, a3, a4, rest, beq_self_eq_true, and_self, true_and, and_true]
  exact rest.1.1.1.2

end Go.AM
