/-
  The law FnExactFormatCircuit: from its contract to the given statement.
-/
import Derived.Test.YtfnomecncgejbaaAmR
import Derived.Test.YtfnomecncgejbaaAmH0
import Derived.Test.YtfnomecncgejbaaHd
import Derived.Test.YtfnomecncgejbaaZFormatCircuit3
import Derived.Test.YtfnomecncgejbaaRows
import Derived.WalkKit
import Derived.KernelRfl

namespace Go.Proofs.Ytfnomecncgejbaa.fnExactFormatCircuitDone
open Go.ChangeShapes Go.WideShapes Go.ChangeAt Go.RowKit Go.AM
set_option linter.unusedVariables false

theorem a1 : (Rows.fnExactFormatCircuitRow.inPlace == Try.prog.inPlace 16) = true := by kernel_rfl
theorem a2 : (Rows.fnExactFormatCircuitRow.unfollowed == Try.prog.unfollowed 16) = true := by kernel_rfl
theorem a3 : (Rows.fnExactFormatCircuitRow.recurses == Try.prog.recurses 16) = true := by kernel_rfl
theorem a4 : (Rows.fnExactFormatCircuitRow.named == Try.prog.varsNamed 16) = true := by kernel_rfl
theorem closed : joinedFacts Try.prog 16 Try.f16 Rows.fnExactFormatCircuitSpec Rows.fnExactFormatCircuitRow = true :=
  joined_of laidOut mapsRows noStops noKnobs (by rw [keysPlain]; rfl) heard enters (by rw [lifts]; rfl) (by rw [made]; rfl) a1 a2 a3 a4 (by kernel_rfl)
theorem named : Try.prog.funcNamed Rows.fnExactFormatCircuitRow.func = some 16 := by kernel_rfl
set_option maxRecDepth 100000 in
theorem lifted (os : Os) (started : os.Started) (H : Type) (enc : TypeId × Value → H) :
    ReturnsInHanded {} Try.checked os 16 .any (Rows.fnExactFormatCircuitSpec.pre6 enc Try.prog Try.f16 Rows.fnExactFormatCircuitRow.domain false) (Rows.fnExactFormatCircuitSpec.post enc Try.prog Try.f16 false true false false) := by
  refine returnsInHanded_of_change (C := Try.checked) own started (by kernel_rfl) Try.func16
    (ChangeSpec.witness6 (enc := enc) (C := Try.checked) false ⟨#[], #[.agg #[.slice none 0 0, .slice none 0 0]], []⟩ 8 (by kernel_rfl) (by kernel_rfl) (by kernel_rfl) (by kernel_rfl)) ?_
  intro W base args ds gs before hval0 hW hcnd _
  have hval : ∀ (j : Nat) t v, Try.f16.params[j]? = some t → args[j]? = some v → Value.okWide Try.prog W .any base t v := hval0
  have hW' := hW
  obtain ⟨p, q, hA0, hV, rfl, hfz, hnd⟩ := hW
  have hA : DataW.TrodAll enc Try.prog W 0 (fun _ => true) true Try.f16.params.toList args.toList ds p := hA0
  rw [Try.params16] at hA hval
  obtain ⟨v0, vs0, d0, ds0, p0, q0, hargs, rfl, rfl, h0, r0⟩ := trodAll_cons hA
  obtain ⟨rfl, rfl, rfl⟩ := trodAll_nil r0
  obtain rfl : args = #[v0] := by cases args; simp_all
  obtain ⟨rfl, rfl⟩ := trodVars_none hV
  have lt0 : ∀ x ∈ p0, x.block < W.heap.size := by obtain ⟨m, hm⟩ := h0; exact DataW.trod_lt m _ _ _ hm
  obtain ⟨x0, e0, s0⟩ := rd_agg Try.underlying55 (Shp.via (mk' := fun x : Cir => [(.slice false 2 (x.sigs.map Sgn.d)), (.slice false 4 (x.gates.map Gat.d))]) (ok' := Cir.wide) (Shp.struct Try.underlying55 (ShpF.cons (by kernel_rfl) (Shp.sliceA Try.underlying35 (Shp.via (mk' := fun x : Sgn => [(.str x.name), (.int .i64 x.kind)]) (ok' := Sgn.wide) (Shp.struct Try.underlying92 (ShpF.cons (by kernel_rfl) (Shp.str Try.underlying9) (ShpF.cons (by kernel_rfl) (Shp.int Try.underlying3) ShpF.nil)) (by kernel_rfl)) (fun y => Sgn.mk y.1 y.2.1) (fun _ => rfl) (fun y h => h.1)) (by kernel_rfl) (by decide) (fun _ => List.all_eq_true.1 rfl)) (ShpF.cons (by kernel_rfl) (Shp.sliceA Try.underlying53 (Shp.via (mk' := fun x : Gat => [(.int .i64 x.sig), (.int .i64 x.kind), (.slice false 1 (x.ups.map D.str)), (.slice false 1 (x.downs.map D.str))]) (ok' := Gat.wide) (Shp.struct Try.underlying136 (ShpF.cons (by kernel_rfl) (Shp.int Try.underlying3) (ShpF.cons (by kernel_rfl) (Shp.int Try.underlying3) (ShpF.cons (by kernel_rfl) (Shp.slice1 Try.underlying22 (Shp.str Try.underlying9) (by kernel_rfl) (fun _ => rfl)) (ShpF.cons (by kernel_rfl) (Shp.slice1 Try.underlying22 (Shp.str Try.underlying9) (by kernel_rfl) (fun _ => rfl)) ShpF.nil)))) (by kernel_rfl)) (fun y => Gat.mk y.1 y.2.1 y.2.2.1 y.2.2.2.1) (fun _ => rfl) (fun y h => ⟨h.2.2.1, h.2.2.2.1⟩)) (by kernel_rfl) (by decide) (fun _ => List.all_eq_true.1 rfl)) ShpF.nil)) (by kernel_rfl)) (fun y => Cir.mk y.1 y.2.1) (fun _ => rfl) (fun y h => ⟨h.1, h.2.1⟩)) (fun _ => List.all_eq_true.1 rfl) (hval 0 55 v0 rfl rfl) h0
  clear hA0 hval0
  refine (law_calls (sp_laws_FnExactFormatCircuit x0 s0) (Rd.cons e0 Rd.nil)).mono fun e W' ⟨he, bel⟩ => ?_
  subst he
  exact ⟨_, rfl, _, _, _, [], _, [], hW', trodAll_mk1 (shut_bool Try.underlying4 _), (trodAll_cons_mk (Below.trod laidOut (by kernel_rfl) (of_decide_eq_true (by kernel_rfl)) h0 bel lt0) trodAll_mk0), rfl, bel.frame _, fun h => by cases h⟩

end Go.Proofs.Ytfnomecncgejbaa.fnExactFormatCircuitDone
namespace Go.Proofs.Ytfnomecncgejbaa
/-- The statement. -/
theorem fnExactFormatCircuit_holds : Rows.FnExactFormatCircuitSaid :=
  OpenClaim.holds_of_wide 16 Try.f16 rfl rfl rfl rfl rfl rfl rfl ⟨rfl, rfl, rfl, rfl, rfl⟩ rfl rfl rfl rfl rfl fnExactFormatCircuitDone.named Try.func16 fnExactFormatCircuitDone.closed
    (of_decide_eq_true (by kernel_rfl)) (by unfold Func.isWrapper; first | (rw [if_pos (by decide +kernel)]; kernel_rfl) | (rw [if_neg (by decide +kernel)]; exact ⟨rfl, rfl⟩))
    (fun os started H enc _ => fnExactFormatCircuitDone.lifted os started H enc)

end Go.Proofs.Ytfnomecncgejbaa
