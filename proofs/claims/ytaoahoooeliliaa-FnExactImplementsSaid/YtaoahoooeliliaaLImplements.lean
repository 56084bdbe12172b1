/-
  The law FnExactImplements: from its contract to the given statement.
-/
import Derived.Test.YtaoahoooeliliaaAmR
import Derived.Test.YtaoahoooeliliaaAmH0
import Derived.Test.YtaoahoooeliliaaHd
import Derived.Test.YtaoahoooeliliaaZImplements4
import Derived.Test.YtaoahoooeliliaaRows
import Derived.WalkKit
import Derived.KernelRfl

namespace Go.Proofs.Ytaoahoooeliliaa.fnExactImplementsDone
open Go.ChangeShapes Go.WideShapes Go.ChangeAt Go.RowKit Go.AM
set_option linter.unusedVariables false

theorem a1 : (Rows.fnExactImplementsRow.inPlace == Try.prog.inPlace 12) = true := by kernel_rfl
theorem a2 : (Rows.fnExactImplementsRow.unfollowed == Try.prog.unfollowed 12) = true := by kernel_rfl
theorem a3 : (Rows.fnExactImplementsRow.recurses == Try.prog.recurses 12) = true := by kernel_rfl
theorem a4 : (Rows.fnExactImplementsRow.named == Try.prog.varsNamed 12) = true := by kernel_rfl
theorem closed : joinedFacts Try.prog 12 Try.f12 Rows.fnExactImplementsSpec Rows.fnExactImplementsRow = true :=
  joined_of laidOut mapsRows noStops noKnobs (by rw [keysPlain]; rfl) heard enters (by rw [lifts]; rfl) (by rw [made]; rfl) a1 a2 a3 a4 (by kernel_rfl)
theorem named : Try.prog.funcNamed Rows.fnExactImplementsRow.func = some 12 := by kernel_rfl
set_option maxRecDepth 100000 in
theorem lifted (os : Os) (started : os.Started) (H : Type) (enc : TypeId × Value → H) :
    ReturnsInHanded {} Try.checked os 12 .any (Rows.fnExactImplementsSpec.pre6 enc Try.prog Try.f12 Rows.fnExactImplementsRow.domain false) (Rows.fnExactImplementsSpec.post enc Try.prog Try.f12 false true false false) := by
  refine returnsInHanded_of_change (C := Try.checked) own started (by kernel_rfl) Try.func12
    (ChangeSpec.witness6 (enc := enc) (C := Try.checked) false ⟨#[], #[.agg #[.slice none 0 0, .slice none 0 0, .slice none 0 0], .agg #[.slice none 0 0, .slice none 0 0]], []⟩ 8 (by kernel_rfl) (by kernel_rfl) (by kernel_rfl) (by kernel_rfl)) ?_
  intro W base args ds gs before hval0 hW hcnd _
  have hval : ∀ (j : Nat) t v, Try.f12.params[j]? = some t → args[j]? = some v → Value.okWide Try.prog W .any base t v := hval0
  have hW' := hW
  obtain ⟨p, q, hA0, hV, rfl, hfz, hnd⟩ := hW
  have hA : DataW.TrodAll enc Try.prog W 0 (fun _ => true) true Try.f12.params.toList args.toList ds p := hA0
  rw [Try.params12] at hA hval
  obtain ⟨v0, vs0, d0, ds0, p0, q0, hargs, rfl, rfl, h0, r0⟩ := trodAll_cons hA
  obtain ⟨v1, vs1, d1, ds1, p1, q1, rfl, rfl, rfl, h1, r1⟩ := trodAll_cons r0
  obtain ⟨rfl, rfl, rfl⟩ := trodAll_nil r1
  obtain rfl : args = #[v0, v1] := by cases args; simp_all
  obtain ⟨rfl, rfl⟩ := trodVars_none hV
  have lt0 : ∀ x ∈ p0, x.block < W.heap.size := by obtain ⟨m, hm⟩ := h0; exact DataW.trod_lt m _ _ _ hm
  obtain ⟨x0, e0, s0⟩ := rd_agg Try.underlying46 (Shp.via (mk' := fun x : Sgr => [(.slice false 2 (x.sigs.map Sgn.d)), (.slice false 1 (x.codes.map D.str)), (.slice false 4 (x.arcs.map Arc.d))]) (ok' := Sgr.wide) (Shp.struct Try.underlying46 (ShpF.cons (by kernel_rfl) (Shp.sliceA (sz := 2) Try.underlying22 (Shp.via (mk' := fun x : Sgn => [(.str x.name), (.int .i64 x.kind)]) (ok' := Sgn.wide) (Shp.struct Try.underlying114 (ShpF.cons (by kernel_rfl) (Shp.str Try.underlying9) (ShpF.cons (by kernel_rfl) (Shp.int Try.underlying3) ShpF.nil)) (by kernel_rfl)) (fun y => Sgn.mk y.1 y.2.1) (fun _ => rfl) (fun y h => h.1)) (by kernel_rfl) (by decide) (fun _ => List.all_eq_true.1 rfl)) (ShpF.cons (by kernel_rfl) (Shp.slice1 Try.underlying43 (Shp.str Try.underlying9) (by kernel_rfl) (fun _ => rfl)) (ShpF.cons (by kernel_rfl) (Shp.sliceA (sz := 4) Try.underlying44 (Shp.via (mk' := fun x : Arc => [(.int .i64 x.src), (.int .i64 x.sig), (.bool (x.up)), (.int .i64 x.dst)]) (ok' := Arc.wide) (Shp.struct Try.underlying130 (ShpF.cons (by kernel_rfl) (Shp.int Try.underlying3) (ShpF.cons (by kernel_rfl) (Shp.int Try.underlying3) (ShpF.cons (by kernel_rfl) (Shp.bool Try.underlying4) (ShpF.cons (by kernel_rfl) (Shp.int Try.underlying3) ShpF.nil)))) (by kernel_rfl)) (fun y => Arc.mk y.1 y.2.1 y.2.2.1 y.2.2.2.1) (fun _ => rfl) (fun y h => trivial)) (by kernel_rfl) (by decide) (fun _ => List.all_eq_true.1 rfl)) ShpF.nil))) (by kernel_rfl)) (fun y => Sgr.mk y.1 y.2.1 y.2.2.1) (fun _ => rfl) (fun y h => ⟨h.1, h.2.1, h.2.2.1⟩)) (fun _ => List.all_eq_true.1 rfl) (hval 0 46 v0 rfl rfl) h0
  have lt1 : ∀ x ∈ p1, x.block < W.heap.size := by obtain ⟨m, hm⟩ := h1; exact DataW.trod_lt m _ _ _ hm
  obtain ⟨x1, e1, s1⟩ := rd_agg Try.underlying25 (Shp.via (mk' := fun x : Cir => [(.slice false 2 (x.sigs.map Sgn.d)), (.slice false 4 (x.gates.map Gat.d))]) (ok' := Cir.wide) (Shp.struct Try.underlying25 (ShpF.cons (by kernel_rfl) (Shp.sliceA (sz := 2) Try.underlying22 (Shp.via (mk' := fun x : Sgn => [(.str x.name), (.int .i64 x.kind)]) (ok' := Sgn.wide) (Shp.struct Try.underlying114 (ShpF.cons (by kernel_rfl) (Shp.str Try.underlying9) (ShpF.cons (by kernel_rfl) (Shp.int Try.underlying3) ShpF.nil)) (by kernel_rfl)) (fun y => Sgn.mk y.1 y.2.1) (fun _ => rfl) (fun y h => h.1)) (by kernel_rfl) (by decide) (fun _ => List.all_eq_true.1 rfl)) (ShpF.cons (by kernel_rfl) (Shp.sliceA (sz := 4) Try.underlying23 (Shp.via (mk' := fun x : Gat => [(.int .i64 x.sig), (.int .i64 x.kind), (.slice false 1 (x.ups.map D.str)), (.slice false 1 (x.downs.map D.str))]) (ok' := Gat.wide) (Shp.struct Try.underlying116 (ShpF.cons (by kernel_rfl) (Shp.int Try.underlying3) (ShpF.cons (by kernel_rfl) (Shp.int Try.underlying3) (ShpF.cons (by kernel_rfl) (Shp.slice1 Try.underlying43 (Shp.str Try.underlying9) (by kernel_rfl) (fun _ => rfl)) (ShpF.cons (by kernel_rfl) (Shp.slice1 Try.underlying43 (Shp.str Try.underlying9) (by kernel_rfl) (fun _ => rfl)) ShpF.nil)))) (by kernel_rfl)) (fun y => Gat.mk y.1 y.2.1 y.2.2.1 y.2.2.2.1) (fun _ => rfl) (fun y h => ⟨h.2.2.1, h.2.2.2.1⟩)) (by kernel_rfl) (by decide) (fun _ => List.all_eq_true.1 rfl)) ShpF.nil)) (by kernel_rfl)) (fun y => Cir.mk y.1 y.2.1) (fun _ => rfl) (fun y h => ⟨h.1, h.2.1⟩)) (fun _ => List.all_eq_true.1 rfl) (hval 1 25 v1 rfl rfl) h1
  clear hA0 hval0
  refine (law_calls (sp_laws_FnExactImplements x0 x1 s0 s1) (Rd.cons e0 (Rd.cons e1 Rd.nil))).mono fun e W' ⟨he, bel⟩ => ?_
  subst he
  exact ⟨_, rfl, _, _, _, [], _, [], hW', trodAll_mk1 (shut_bool Try.underlying4 _), (trodAll_cons_mk (Below.trod laidOut (by kernel_rfl) (of_decide_eq_true (by kernel_rfl)) h0 bel lt0) (trodAll_cons_mk (Below.trod laidOut (by kernel_rfl) (of_decide_eq_true (by kernel_rfl)) h1 bel lt1) trodAll_mk0)), rfl, bel.frame _, fun h => by cases h⟩

end Go.Proofs.Ytaoahoooeliliaa.fnExactImplementsDone
namespace Go.Proofs.Ytaoahoooeliliaa
/-- The statement. -/
theorem fnExactImplements_holds : Rows.FnExactImplementsSaid :=
  OpenClaim.holds_of_wide 12 Try.f12 rfl rfl rfl rfl rfl rfl rfl ⟨rfl, rfl, rfl, rfl, rfl⟩ rfl rfl rfl rfl rfl fnExactImplementsDone.named Try.func12 fnExactImplementsDone.closed
    (of_decide_eq_true (by kernel_rfl)) (by unfold Func.isWrapper; first | (rw [if_pos (by decide +kernel)]; kernel_rfl) | (rw [if_neg (by decide +kernel)]; exact ⟨rfl, rfl⟩))
    (fun os started H enc _ => fnExactImplementsDone.lifted os started H enc)

end Go.Proofs.Ytaoahoooeliliaa
