/-
  Proved: for every text, laws.FnExactParseArcs returns true and leaves its argument as it was, so the program and the reference read every text alike.
  Conditions: the package variables that the row lists hold what the row lists when the call begins; the card ties that to the text of the program.
-/
import Derived.Test.YtlnimdlpggnjeaaGreatDoorAmR
import Derived.Test.YtlnimdlpggnjeaaGreatDoorAmH0
import Derived.Test.YtlnimdlpggnjeaaGreatDoorHd
import Derived.Test.YtlnimdlpggnjeaaGreatDoorZParseArcs3
import Derived.Test.YtlnimdlpggnjeaaGreatDoorRows
import Derived.Test.YtlnimdlpggnjeaaGreatDoorCards
import Derived.Test.YtlnimdlpggnjeaaGreatDoorTie
import Derived.WalkKit
import Derived.ProofKit
import Derived.OpenShut
import Derived.OpenVars
import Derived.ChangeSame
import Derived.ChangeVars
import Derived.LaidSub
import Derived.Deep.DeepHandedRow
import Derived.Deep.DeepLaidRun
import Derived.Lib.LaidTab
import Derived.SevenTiedAt
import Derived.KernelRfl

namespace Go.Proofs.YtlnimdlpggnjeaaGreatDoor.fnExactParseArcsDone
open Go.ChangeShapes Go.WideShapes Go.ChangeAt Go.RowKit Go.AM
set_option linter.unusedVariables false

theorem a1 : (Rows.fnExactParseArcsRow.inPlace == Tryz.prog.inPlace 3) = true := by kernel_rfl
theorem a2 : (Rows.fnExactParseArcsRow.unfollowed == Tryz.prog.unfollowed 3) = true := by kernel_rfl
theorem a3 : (Rows.fnExactParseArcsRow.recurses == Tryz.prog.recurses 3) = true := by kernel_rfl
theorem a4 : (Rows.fnExactParseArcsRow.named == Tryz.prog.varsNamed 3) = true := by kernel_rfl
theorem closed : joinedFacts Tryz.prog 3 Tryz.f3 (OpenSpec.ofChange Rows.fnExactParseArcsSpec).bare Rows.fnExactParseArcsRow = true :=
  joined_of laidOut mapsRows noStops noKnobs (by rw [keysPlain]; rfl) heard enters (by rw [lifts]; rfl) (by rw [made]; rfl) a1 a2 a3 a4 (by kernel_rfl)
theorem named : Tryz.prog.funcNamed Rows.fnExactParseArcsRow.func = some 3 := by kernel_rfl

/-- The variable's name, off the row. -/
def kwN : String := Rows.fnExactParseArcsSpec.vars.headD Rows.fnExactParseArcsRow.func
def kwV : Value := .pointer (some ⟨0, 0, none⟩)
def kwD : D := .ref (.agg (kwL.map D.str))
theorem gKw : Tryz.prog.globalNamed kwN = some 0 := by kernel_rfl
theorem gKwT : (Tryz.prog.globals[0]?).map (·.type) = some 75 := by kernel_rfl
theorem c9 : Tryz.prog.cellsOf 9 = 1 := by kernel_rfl
theorem c75 : Tryz.prog.cellsOf 75 = 4 := by kernel_rfl
theorem laid_eq : (Rows.fnExactParseArcsRow.laid.filter fun x => x.1 == kwN) = [(kwN, Rows.laid_loop_example_g00862_impl_kindWords)] := by kernel_rfl
theorem cells_of_strs {H : Type} {enc : TypeId × Value → H} {P : Program} {w : World} {base : Nat} {sp : Nat → Bool} {held : Bool} {fuel : Nat} {t e : TypeId} {n : Nat} {cs : List Value} {ss : List (List UInt8)} {p : List MemPlace}
    (ht : P.underlying t = some (.array n e)) (he : P.underlying e = some .string) (hce : P.cellsOf e = 1) (hct : P.cellsOf t = n)
    (h : DataW.trod enc P w base sp held fuel t cs = some (.agg (ss.map fun s => .lit (.string s)), p)) : cs = ss.map fun s => Value.string ⟨s.toArray⟩ := by
  cases fuel with
  | zero => simp [DataW.trod] at h
  | succ fuel =>
    simp only [DataW.trod, ht, hce, hct, Nat.mul_one] at h
    split at h
    · rename_i hl
      obtain ⟨xs, hm, hx⟩ := Option.map_eq_some_iff.1 h
      have hxs : xs.map (·.1) = ss.map fun s => (DataW.lit (.string s) : DataW H) := by
        have := congrArg Prod.fst hx
        simpa using this
      have hxl : xs.length = n := by simpa using Lib.mapM_length hm
      have hzl : ss.length = n := by
        have := congrArg List.length hxs
        simp at this
        omega
      apply List.ext_getElem?
      intro i
      by_cases hi : i < n
      · obtain ⟨b, hb, hf⟩ := Lib.mapM_at hm i i (by simp [hi])
        obtain ⟨s, hc, rfl, _⟩ := DataW.trod_string he hf
        have h1 : cs[i]? = some (.string s) := by
          have := congrArg (·[0]?) hc
          simpa [List.getElem?_take, List.getElem?_drop] using this
        have h2 : (xs.map (·.1))[i]? = some (DataW.lit (.string s.data.toList) : DataW H) := by simp [hb]
        rw [hxs] at h2
        simp only [List.getElem?_map, Option.map_eq_some_iff, DataW.lit.injEq, Lit.string.injEq] at h2
        obtain ⟨z', hz', rfl⟩ := h2
        simp [h1, hz']
      · rw [List.getElem?_eq_none (by omega), List.getElem?_eq_none (by simp; omega)]
    · cases h
theorem kwData {H : Type} : (Rows.laid_loop_example_g00862_impl_kindWords : DataW H) = .agg (kwL.map fun s => .lit (.string s)) := rfl
/-- What the row's list gives: the words lie where they are read. -/
theorem kw_at {W : World} (h : laidMetH Tryz.prog Rows.fnExactParseArcsRow.laid W) : W.var? Tryz.prog kwN = some (kwL.map fun s => Value.string ⟨s.toArray⟩).toArray := by
  have h1 := (laidMetH.filter (fun x => x.1 == kwN) h)
  rw [laid_eq] at h1
  have h2 : laidMet Tryz.prog [(kwN, Rows.laid_loop_example_g00862_impl_kindWords)] W := h1
  obtain ⟨ps, ⟨g', t', cs, fuel, p, q, hg', ht', hvar, hd, _, _⟩, _⟩ := h2
  obtain rfl := Option.some.inj (gKw.symm.trans hg')
  obtain rfl := Option.some.inj (gKwT.symm.trans ht')
  rw [kwData] at hd
  rw [hvar, ← cells_of_strs Tryz.underlying75 Tryz.underlying9 c9 c75 hd]
theorem kw_reads {W : World} (h : laidMetH Tryz.prog Rows.fnExactParseArcsRow.laid W) : DRs (fun _ => False) W [kwD] [kwV] [] := by
  have hv := kw_at h
  have hc : ∀ j v, (kwL.map fun s => Value.string ⟨s.toArray⟩)[j]? = some v → W.cell? ⟨0, j, none⟩ = some v := by
    intro j v hj
    have := World.var?_cell gKw hv j
    rw [this]
    simpa using hj
  refine Rd.cons ?_ Rd.nil
  rw [Rd, kwD, DR]
  refine ⟨rfl, 0, 0, .agg (kwL.map fun s => Value.string ⟨s.toArray⟩).toArray, rfl, fun h => h, ?_, ?_, cell_lt (hc 0 (.string ⟨#[]⟩) rfl)⟩
  · rw [DR]
    refine ⟨by intro c hc; simp [kwL] at hc; rcases hc with rfl | rfl | rfl | rfl <;> rfl, _, rfl, ?_⟩
    have gen : ∀ l : List (List UInt8), DRs (fun _ => False) W (l.map D.str) (l.map fun s => Value.string ⟨s.toArray⟩) [] := by
      intro l
      induction l with
      | nil => exact Rd.nil
      | cons s l ih => exact Rd.cons (by rw [Rd, DR]; exact ⟨rfl, rfl⟩) ih
    exact gen kwL
  · intro j v hj
    rw [Nat.zero_add]
    exact hc j v (by simpa [Value.cells] using hj)

set_option maxRecDepth 100000 in
/-- What the walk gives, for every argument and every world that holds the words. -/
theorem contract (H : Type) (enc : TypeId × Value → H) (W : World) (base : Nat) (args : Array Value) (ds gs : List (DataW H)) (before : List MemPlace)
    (hval0 : ∀ (j : Nat) t v, Tryz.f3.params[j]? = some t → args[j]? = some v → Value.okWide Tryz.prog W .any base t v)
    (hW : DataW.Whole enc Tryz.prog Tryz.f3.params.toList Rows.fnExactParseArcsSpec.vars false W args.toList ds gs before) (hL : laidMetH Tryz.prog Rows.fnExactParseArcsRow.laid W) :
    Calls Tryz.prog 3 args W fun e W' => ∃ v, e = .returned v ∧ Rows.fnExactParseArcsSpec.post enc Tryz.prog Tryz.f3 false true false false W args v W' := by
  have hval : ∀ (j : Nat) t v, Tryz.f3.params[j]? = some t → args[j]? = some v → Value.okWide Tryz.prog W .any base t v := hval0
  have hW' := hW
  obtain ⟨p, q, hA0, hV, rfl, hfz, hnd⟩ := hW
  have hA : DataW.TrodAll enc Tryz.prog W 0 (fun _ => true) true Tryz.f3.params.toList args.toList ds p := hA0
  rw [Tryz.params3] at hA hval
  obtain ⟨v0, vs0, d0, ds0, p0, q0, hargs, rfl, rfl, h0, r0⟩ := trodAll_cons hA
  obtain ⟨rfl, rfl, rfl⟩ := trodAll_nil r0
  obtain rfl : args = #[v0] := by cases args; simp_all
  have hV1 : DataW.TrodVars enc Tryz.prog W (fun _ => true) [kwN] gs q := hV
  obtain ⟨_, _, _, _, d1, _, rfl, _⟩ := trodVars_one hV1
  have lt0 : ∀ x ∈ p0, x.block < W.heap.size := by obtain ⟨m, hm⟩ := h0; exact DataW.trod_lt m _ _ _ hm
  obtain ⟨x0, e0, s0⟩ := rd_str Tryz.underlying9 (hval 0 9 v0 rfl rfl) h0
  clear hA0 hval0
  refine (law_callsQ (sp_laws_FnExactParseArcs x0) (Rd.cons e0 Rd.nil) (kw_reads hL)).mono fun e W' ⟨he, bel⟩ => ?_
  subst he
  have hv2 := Below.trodVars laidOut bel (by kernel_rfl) hV1
  exact ⟨_, rfl, _, _, _, [], _, _, hW', trodAll_mk1 (shut_bool Tryz.underlying4 _), (trodAll_cons_mk (Below.trod laidOut (by kernel_rfl) (of_decide_eq_true (by kernel_rfl)) h0 bel lt0) trodAll_mk0), hv2, bel.frame _, fun h => by cases h⟩

def litV : DataW Unit → Value
  | .lit (.int k n) => .int k n
  | .lit (.string s) => .string ⟨s.toArray⟩
  | _ => .bool false
def rowV : DataW Unit → List Value
  | .agg l => l.map litV
  | d => [litV d]
def tabV : DataW Unit → List Value
  | .agg l => l.flatMap rowV
  | _ => []
def layT (h : Array Obj) (b : Nat) (d : DataW Unit) : Array Obj := h.modify b fun
  | .cells _ t frozen => .cells (tabV d).toArray t frozen
  | o => o
/-- A world for the witness: the settled one, the six tables laid. -/
noncomputable def laidWorld (os : Os) : World :=
  { World.holding Tryz.prog os ⟨#[], #[], []⟩ with heap := layT (layT (layT (layT (layT (layT (World.holding Tryz.prog os ⟨#[], #[], []⟩).heap 0 Rows.laid_loop_example_g00862_impl_kindWords) 2 Rows.laid_unicode_utf8_first) 3 Rows.laid_unicode_utf8_acceptRanges) 4 Rows.laid_internal_strconv_uint64pow10) 5 Rows.laid_math_bits_deBruijn32tab) 6 Rows.laid_math_bits_deBruijn64tab }
theorem laid_met (os : Os) : laidMet Tryz.prog Rows.fnExactParseArcsRow.laid ((laidWorld os).forCall (fun _ _ => 0) ⟨#[], #[.string ⟨#[]⟩], []⟩).memory :=
  laidMet_of_run3 8 (by kernel_rfl) (by kernel_rfl) (by kernel_rfl)
theorem reads (os : Os) {H : Type} (enc : TypeId × Value → H) : DataW.whole enc Tryz.prog ((laidWorld os).forCall (fun _ _ => 0) ⟨#[], #[.string ⟨#[]⟩], []⟩).memory Tryz.f3.params.toList Rows.fnExactParseArcsSpec.vars false #[Value.string ⟨#[]⟩].toList 8 = some ([.lit (.string [])], [Rows.laid_loop_example_g00862_impl_kindWords], [.cell 0 0, .cell 0 1, .cell 0 2, .cell 0 3]) := by kernel_rfl

set_option maxRecDepth 100000 in
theorem lifted (os : Os) (started : os.Started) (H : Type) (enc : TypeId × Value → H) (F : Stop.Interp) :
    ReturnsInHanded {} Tryz.checked os 3 .any ((OpenSpec.ofChange Rows.fnExactParseArcsSpec).preRow enc Tryz.prog Tryz.f3 Rows.fnExactParseArcsRow.domain false Rows.fnExactParseArcsRow.laid) (((OpenSpec.ofChange Rows.fnExactParseArcsSpec).at F).post enc Tryz.prog Tryz.f3 false true false false) := by
  refine returnsInHanded_of_row (C := Tryz.checked) (s := OpenSpec.ofChange Rows.fnExactParseArcsSpec) own started (by kernel_rfl) Tryz.func3
    (witness_row_at (enc := enc) (C := Tryz.checked) false (laidWorld os) #[.string ⟨#[]⟩] rfl (by kernel_rfl) (by kernel_rfl) (by kernel_rfl)
      (OpenSpec.preRow_of_cond 8 (reads os enc) (by kernel_rfl) (fun k hk => by cases hk) (by kernel_rfl) (laid_met os))) ?_
  intro W base args ds gs before hval hW _ _ _ hL _ _
  exact contract H enc W base args ds gs before hval hW hL

theorem said : Rows.FnExactParseArcsSaid :=
  OpenClaim.holds_of_cond 3 Tryz.f3 rfl rfl rfl rfl rfl rfl rfl ⟨rfl, rfl, rfl, rfl, rfl⟩ rfl rfl rfl rfl rfl named Tryz.func3 closed
    (of_decide_eq_true (by kernel_rfl)) (by unfold Func.isWrapper; first | (rw [if_pos (by decide +kernel)]; kernel_rfl) | (rw [if_neg (by decide +kernel)]; exact ⟨rfl, rfl⟩))
    (fun os started H enc _ F => by rw [OpenClaim.pre_eq_preRow]; exact lifted os started H enc F)

/-- No parameter wants a stand-in; the program's own looks are off. -/
theorem plain (f : FuncId) (fn : Func) (hf : Tryz.pinned.checked.prog.funcNamed Rows.fnExactParseArcsRow.func = some f) (hfn : Tryz.pinned.checked.prog.funcs[f]? = some fn) :
    false = Tryz.pinned.checked.prog.looks [] ∧ ∀ (j : Nat) t, fn.params[j]? = some t → Tryz.pinned.checked.prog.wantsStandIn t = false := by
  obtain rfl : f = 3 := Option.some.inj (named.symm.trans hf) |>.symm
  obtain rfl : fn = Tryz.f3 := (Option.some.inj (Tryz.func3.symm.trans hfn)).symm
  refine ⟨by kernel_rfl, fun j t ht => ?_⟩
  rw [Tryz.params3] at ht
  obtain rfl : t = 9 := by simpa using Array.mem_of_getElem? ht
  exact (show Tryz.prog.wantsStandIn 9 = false by kernel_rfl)

end Go.Proofs.YtlnimdlpggnjeaaGreatDoor.fnExactParseArcsDone
namespace Go.Proofs.YtlnimdlpggnjeaaGreatDoor
/-- The card. -/
theorem fnExactParseArcs_holds : Rows.FnExactParseArcsCardSaid :=
  Claim7.holds_tied_plain_at .later [] _ _ _ _ fnExactParseArcsDone.said (fun _ h => by cases h) (by kernel_rfl) (fun _ h => by cases h) fnExactParseArcs_row_tie rfl ⟨rfl, rfl⟩ (by kernel_rfl) rfl fnExactParseArcsDone.plain (by kernel_rfl)

end Go.Proofs.YtlnimdlpggnjeaaGreatDoor
