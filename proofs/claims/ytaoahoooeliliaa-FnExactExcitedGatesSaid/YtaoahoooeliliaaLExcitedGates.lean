/-
  The law FnExactExcitedGates: from its contract to the given statement.
-/
import Derived.Test.YtaoahoooeliliaaAmR
import Derived.Test.YtaoahoooeliliaaAmH0
import Derived.Test.YtaoahoooeliliaaHd
import Derived.Test.YtaoahoooeliliaaZExcitedGates3
import Derived.Test.YtaoahoooeliliaaRows
import Derived.WalkKit
import Derived.KernelRfl

namespace Go.Proofs.Ytaoahoooeliliaa.fnExactExcitedGatesDone
open Go.ChangeShapes Go.WideShapes Go.ChangeAt Go.RowKit Go.AM
set_option linter.unusedVariables false

theorem a1 : (Rows.fnExactExcitedGatesRow.inPlace == Try.prog.inPlace 4) = true := by kernel_rfl
theorem a2 : (Rows.fnExactExcitedGatesRow.unfollowed == Try.prog.unfollowed 4) = true := by kernel_rfl
theorem a3 : (Rows.fnExactExcitedGatesRow.recurses == Try.prog.recurses 4) = true := by kernel_rfl
theorem a4 : (Rows.fnExactExcitedGatesRow.named == Try.prog.varsNamed 4) = true := by kernel_rfl
theorem closed : joinedFacts Try.prog 4 Try.f4 Rows.fnExactExcitedGatesSpec Rows.fnExactExcitedGatesRow = true :=
  joined_of laidOut mapsRows noStops noKnobs (by rw [keysPlain]; rfl) heard enters (by rw [lifts]; rfl) (by rw [made]; rfl) a1 a2 a3 a4 (by kernel_rfl)
theorem named : Try.prog.funcNamed Rows.fnExactExcitedGatesRow.func = some 4 := by kernel_rfl
set_option maxRecDepth 100000 in
theorem lifted (os : Os) (started : os.Started) (H : Type) (enc : TypeId × Value → H) :
    ReturnsInHanded {} Try.checked os 4 .any (Rows.fnExactExcitedGatesSpec.pre6 enc Try.prog Try.f4 Rows.fnExactExcitedGatesRow.domain false) (Rows.fnExactExcitedGatesSpec.post enc Try.prog Try.f4 false true false false) := by
  refine returnsInHanded_of_change (C := Try.checked) own started (by kernel_rfl) Try.func4
    (ChangeSpec.witness6 (enc := enc) (C := Try.checked) false ⟨#[], #[.agg #[.slice none 0 0, .slice none 0 0], .string .empty], []⟩ 8 (by kernel_rfl) (by kernel_rfl) (by kernel_rfl) (by kernel_rfl)) ?_
  intro W base args ds gs before hval0 hW hcnd _
  have hval : ∀ (j : Nat) t v, Try.f4.params[j]? = some t → args[j]? = some v → Value.okWide Try.prog W .any base t v := hval0
  have hW' := hW
  obtain ⟨p, q, hA0, hV, rfl, hfz, hnd⟩ := hW
  have hA : DataW.TrodAll enc Try.prog W 0 (fun _ => true) true Try.f4.params.toList args.toList ds p := hA0
  rw [Try.params4] at hA hval
  obtain ⟨v0, vs0, d0, ds0, p0, q0, hargs, rfl, rfl, h0, r0⟩ := trodAll_cons hA
  obtain ⟨v1, vs1, d1, ds1, p1, q1, rfl, rfl, rfl, h1, r1⟩ := trodAll_cons r0
  obtain ⟨rfl, rfl, rfl⟩ := trodAll_nil r1
  obtain rfl : args = #[v0, v1] := by cases args; simp_all
  obtain ⟨rfl, rfl⟩ := trodVars_none hV
  have lt0 : ∀ x ∈ p0, x.block < W.heap.size := by obtain ⟨m, hm⟩ := h0; exact DataW.trod_lt m _ _ _ hm
  obtain ⟨x0, e0, s0⟩ := rd_agg Try.underlying25 (Shp.via (mk' := fun x : Cir => [(.slice false 2 (x.sigs.map Sgn.d)), (.slice false 4 (x.gates.map Gat.d))]) (ok' := Cir.wide) (Shp.struct Try.underlying25 (ShpF.cons (by kernel_rfl) (Shp.sliceA (sz := 2) Try.underlying22 (Shp.via (mk' := fun x : Sgn => [(.str x.name), (.int .i64 x.kind)]) (ok' := Sgn.wide) (Shp.struct Try.underlying114 (ShpF.cons (by kernel_rfl) (Shp.str Try.underlying9) (ShpF.cons (by kernel_rfl) (Shp.int Try.underlying3) ShpF.nil)) (by kernel_rfl)) (fun y => Sgn.mk y.1 y.2.1) (fun _ => rfl) (fun y h => h.1)) (by kernel_rfl) (by decide) (fun _ => List.all_eq_true.1 rfl)) (ShpF.cons (by kernel_rfl) (Shp.sliceA (sz := 4) Try.underlying23 (Shp.via (mk' := fun x : Gat => [(.int .i64 x.sig), (.int .i64 x.kind), (.slice false 1 (x.ups.map D.str)), (.slice false 1 (x.downs.map D.str))]) (ok' := Gat.wide) (Shp.struct Try.underlying116 (ShpF.cons (by kernel_rfl) (Shp.int Try.underlying3) (ShpF.cons (by kernel_rfl) (Shp.int Try.underlying3) (ShpF.cons (by kernel_rfl) (Shp.slice1 Try.underlying43 (Shp.str Try.underlying9) (by kernel_rfl) (fun _ => rfl)) (ShpF.cons (by kernel_rfl) (Shp.slice1 Try.underlying43 (Shp.str Try.underlying9) (by kernel_rfl) (fun _ => rfl)) ShpF.nil)))) (by kernel_rfl)) (fun y => Gat.mk y.1 y.2.1 y.2.2.1 y.2.2.2.1) (fun _ => rfl) (fun y h => ⟨h.2.2.1, h.2.2.2.1⟩)) (by kernel_rfl) (by decide) (fun _ => List.all_eq_true.1 rfl)) ShpF.nil)) (by kernel_rfl)) (fun y => Cir.mk y.1 y.2.1) (fun _ => rfl) (fun y h => ⟨h.1, h.2.1⟩)) (fun _ => List.all_eq_true.1 rfl) (hval 0 25 v0 rfl rfl) h0
  have lt1 : ∀ x ∈ p1, x.block < W.heap.size := by obtain ⟨m, hm⟩ := h1; exact DataW.trod_lt m _ _ _ hm
  obtain ⟨x1, e1, s1⟩ := rd_str Try.underlying9 (hval 1 9 v1 rfl rfl) h1
  clear hA0 hval0
  refine (law_calls (sp_laws_FnExactExcitedGates x0 x1 s0) (Rd.cons e0 (Rd.cons e1 Rd.nil))).mono fun e W' ⟨he, bel⟩ => ?_
  subst he
  exact ⟨_, rfl, _, _, _, [], _, [], hW', trodAll_mk1 (shut_bool Try.underlying4 _), (trodAll_cons_mk (Below.trod laidOut (by kernel_rfl) (of_decide_eq_true (by kernel_rfl)) h0 bel lt0) (trodAll_cons_mk (Below.trod laidOut (by kernel_rfl) (of_decide_eq_true (by kernel_rfl)) h1 bel lt1) trodAll_mk0)), rfl, bel.frame _, fun h => by cases h⟩

end Go.Proofs.Ytaoahoooeliliaa.fnExactExcitedGatesDone
namespace Go.Proofs.Ytaoahoooeliliaa
/-- The statement. -/
theorem fnExactExcitedGates_holds : Rows.FnExactExcitedGatesSaid :=
  OpenClaim.holds_of_wide 4 Try.f4 rfl rfl rfl rfl rfl rfl rfl ⟨rfl, rfl, rfl, rfl, rfl⟩ rfl rfl rfl rfl rfl fnExactExcitedGatesDone.named Try.func4 fnExactExcitedGatesDone.closed
    (of_decide_eq_true (by kernel_rfl)) (by unfold Func.isWrapper; first | (rw [if_pos (by decide +kernel)]; kernel_rfl) | (rw [if_neg (by decide +kernel)]; exact ⟨rfl, rfl⟩))
    (fun os started H enc _ => fnExactExcitedGatesDone.lifted os started H enc)

end Go.Proofs.Ytaoahoooeliliaa
