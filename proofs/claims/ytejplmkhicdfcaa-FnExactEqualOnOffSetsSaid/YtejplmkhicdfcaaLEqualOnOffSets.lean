/-
  The law FnExactEqualOnOffSets: from its contract to the given statement.
-/
import Derived.Test.YtejplmkhicdfcaaAmR
import Derived.Test.YtejplmkhicdfcaaCl
import Derived.Test.YtejplmkhicdfcaaRows
import Derived.WalkKit
import Derived.KernelRfl

namespace Go.Proofs.Ytejplmkhicdfcaa.fnExactEqualOnOffSetsDone
open Go.ChangeShapes Go.WideShapes Go.ChangeAt Go.RowKit Go.AM
set_option linter.unusedVariables false

theorem own : ownKnob Try.prog.godebug = none := by kernel_rfl
theorem laidOut : laidOutB Try.prog = true := by kernel_rfl

set_option maxRecDepth 100000 in
theorem lifted (os : Os) (started : os.Started) (H : Type) (enc : TypeId × Value → H) :
    ReturnsInHanded {} Try.checked os 6 .any (Rows.fnExactEqualOnOffSetsSpec.pre6 enc Try.prog Try.f6 Rows.fnExactEqualOnOffSetsRow.domain false) (Rows.fnExactEqualOnOffSetsSpec.post enc Try.prog Try.f6 false true false false) := by
  refine returnsInHanded_of_change (C := Try.checked) own started (by kernel_rfl) Try.func6
    (ChangeSpec.witness6 (enc := enc) (C := Try.checked) false ⟨#[], #[.agg #[.slice none 0 0, .slice none 0 0], .agg #[.slice none 0 0, .slice none 0 0]], []⟩ 8 (by kernel_rfl) (by kernel_rfl) (by kernel_rfl) (by kernel_rfl)) ?_
  intro W base args ds gs before hval0 hW hcnd _
  have hval : ∀ (j : Nat) t v, Try.f6.params[j]? = some t → args[j]? = some v → Value.okWide Try.prog W .any base t v := hval0
  have hW' := hW
  obtain ⟨p, q, hA0, hV, rfl, hfz, hnd⟩ := hW
  have hA : DataW.TrodAll enc Try.prog W 0 (fun _ => true) true Try.f6.params.toList args.toList ds p := hA0
  rw [Try.params6] at hA hval
  obtain ⟨v0, vs0, d0, ds0, p0, q0, hargs, rfl, rfl, h0, r0⟩ := trodAll_cons hA
  obtain ⟨v1, vs1, d1, ds1, p1, q1, rfl, rfl, rfl, h1, r1⟩ := trodAll_cons r0
  obtain ⟨rfl, rfl, rfl⟩ := trodAll_nil r1
  obtain rfl : args = #[v0, v1] := by cases args; simp_all
  obtain ⟨rfl, rfl⟩ := trodVars_none hV
  have lt0 : ∀ x ∈ p0, x.block < W.heap.size := by obtain ⟨m, hm⟩ := h0; exact DataW.trod_lt m _ _ _ hm
  obtain ⟨x0, e0, s0⟩ := rd_agg Try.underlying33 (Shp.struct2 Try.underlying33 (Shp.slice1 Try.underlying27 (Shp.str Try.underlying9) (by kernel_rfl) (fun _ => rfl)) (Shp.slice1 Try.underlying27 (Shp.str Try.underlying9) (by kernel_rfl) (fun _ => rfl)) rfl (by kernel_rfl) (by kernel_rfl)) (by intro y c hc; simp at hc; rcases hc with rfl | rfl <;> rfl) (hval 0 33 v0 rfl rfl) h0
  have lt1 : ∀ x ∈ p1, x.block < W.heap.size := by obtain ⟨m, hm⟩ := h1; exact DataW.trod_lt m _ _ _ hm
  obtain ⟨x1, e1, s1⟩ := rd_agg Try.underlying33 (Shp.struct2 Try.underlying33 (Shp.slice1 Try.underlying27 (Shp.str Try.underlying9) (by kernel_rfl) (fun _ => rfl)) (Shp.slice1 Try.underlying27 (Shp.str Try.underlying9) (by kernel_rfl) (fun _ => rfl)) rfl (by kernel_rfl) (by kernel_rfl)) (by intro y c hc; simp at hc; rcases hc with rfl | rfl <;> rfl) (hval 1 33 v1 rfl rfl) h1
  clear hA0 hval0
  refine (law_calls (sp_laws_FnExactEqualOnOffSets x0.1 x0.2 x1.1 x1.2 s0.1.1 s0.1.2 s0.2.1 s0.2.2 s1.1.1 s1.1.2 s1.2.1 s1.2.2) (Rd.cons e0 (Rd.cons e1 Rd.nil))).mono fun e W' ⟨he, bel⟩ => ?_
  subst he
  exact ⟨_, rfl, _, _, _, [], _, [], hW', trodAll_mk1 (shut_bool Try.underlying4 _), (trodAll_cons_mk (Below.trod laidOut (by kernel_rfl) (of_decide_eq_true (by kernel_rfl)) h0 bel lt0) (trodAll_cons_mk (Below.trod laidOut (by kernel_rfl) (of_decide_eq_true (by kernel_rfl)) h1 bel lt1) trodAll_mk0)), rfl, bel.frame _, fun h => by cases h⟩

end Go.Proofs.Ytejplmkhicdfcaa.fnExactEqualOnOffSetsDone
namespace Go.Proofs.Ytejplmkhicdfcaa
/-- The statement. -/
theorem fnExactEqualOnOffSets_holds : Rows.FnExactEqualOnOffSetsSaid :=
  OpenClaim.holds_of_wide 6 Try.f6 rfl rfl rfl rfl rfl rfl rfl ⟨rfl, rfl, rfl, rfl, rfl⟩ rfl rfl rfl rfl rfl (by kernel_rfl) Try.func6 (by kernel_rfl)
    (of_decide_eq_true (by kernel_rfl)) (by unfold Func.isWrapper; first | (rw [if_pos (by decide +kernel)]; kernel_rfl) | (rw [if_neg (by decide +kernel)]; exact ⟨rfl, rfl⟩))
    (fun os started H enc _ => fnExactEqualOnOffSetsDone.lifted os started H enc)

end Go.Proofs.Ytejplmkhicdfcaa
