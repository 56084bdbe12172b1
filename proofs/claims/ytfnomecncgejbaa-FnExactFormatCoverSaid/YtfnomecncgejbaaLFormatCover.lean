/-
  The law FnExactFormatCover: from its contract to the given statement.
-/
import Derived.Test.YtfnomecncgejbaaAmR
import Derived.Test.YtfnomecncgejbaaAmH0
import Derived.Test.YtfnomecncgejbaaHd
import Derived.Test.YtfnomecncgejbaaZFormatCover2
import Derived.Test.YtfnomecncgejbaaRows
import Derived.WalkKit
import Derived.KernelRfl

namespace Go.Proofs.Ytfnomecncgejbaa.fnExactFormatCoverDone
open Go.ChangeShapes Go.WideShapes Go.ChangeAt Go.RowKit Go.AM
set_option linter.unusedVariables false

theorem a1 : (Rows.fnExactFormatCoverRow.inPlace == Try.prog.inPlace 8) = true := by kernel_rfl
theorem a2 : (Rows.fnExactFormatCoverRow.unfollowed == Try.prog.unfollowed 8) = true := by kernel_rfl
theorem a3 : (Rows.fnExactFormatCoverRow.recurses == Try.prog.recurses 8) = true := by kernel_rfl
theorem a4 : (Rows.fnExactFormatCoverRow.named == Try.prog.varsNamed 8) = true := by kernel_rfl
theorem closed : joinedFacts Try.prog 8 Try.f8 Rows.fnExactFormatCoverSpec Rows.fnExactFormatCoverRow = true :=
  joined_of laidOut mapsRows noStops noKnobs (by rw [keysPlain]; rfl) heard enters (by rw [lifts]; rfl) (by rw [made]; rfl) a1 a2 a3 a4 (by kernel_rfl)
theorem named : Try.prog.funcNamed Rows.fnExactFormatCoverRow.func = some 8 := by kernel_rfl
set_option maxRecDepth 100000 in
theorem lifted (os : Os) (started : os.Started) (H : Type) (enc : TypeId × Value → H) :
    ReturnsInHanded {} Try.checked os 8 .any (Rows.fnExactFormatCoverSpec.pre6 enc Try.prog Try.f8 Rows.fnExactFormatCoverRow.domain false) (Rows.fnExactFormatCoverSpec.post enc Try.prog Try.f8 false true false false) := by
  refine returnsInHanded_of_change (C := Try.checked) own started (by kernel_rfl) Try.func8
    (ChangeSpec.witness6 (enc := enc) (C := Try.checked) false ⟨#[], #[.slice none 0 0, .slice none 0 0], []⟩ 8 (by kernel_rfl) (by kernel_rfl) (by kernel_rfl) (by kernel_rfl)) ?_
  intro W base args ds gs before hval0 hW hcnd _
  have hval : ∀ (j : Nat) t v, Try.f8.params[j]? = some t → args[j]? = some v → Value.okWide Try.prog W .any base t v := hval0
  have hW' := hW
  obtain ⟨p, q, hA0, hV, rfl, hfz, hnd⟩ := hW
  have hA : DataW.TrodAll enc Try.prog W 0 (fun _ => true) true Try.f8.params.toList args.toList ds p := hA0
  rw [Try.params8] at hA hval
  obtain ⟨v0, vs0, d0, ds0, p0, q0, hargs, rfl, rfl, h0, r0⟩ := trodAll_cons hA
  obtain ⟨v1, vs1, d1, ds1, p1, q1, rfl, rfl, rfl, h1, r1⟩ := trodAll_cons r0
  obtain ⟨rfl, rfl, rfl⟩ := trodAll_nil r1
  obtain rfl : args = #[v0, v1] := by cases args; simp_all
  obtain ⟨rfl, rfl⟩ := trodVars_none hV
  have lt0 : ∀ x ∈ p0, x.block < W.heap.size := by obtain ⟨m, hm⟩ := h0; exact DataW.trod_lt m _ _ _ hm
  obtain ⟨x0, e0, s0⟩ := rd_shp1 Try.underlying35 (Shp.sliceA (sz := 2) Try.underlying35 (Shp.via (mk' := fun x : Sgn => [(.str x.name), (.int .i64 x.kind)]) (ok' := Sgn.wide) (Shp.struct Try.underlying92 (ShpF.cons (by kernel_rfl) (Shp.str Try.underlying9) (ShpF.cons (by kernel_rfl) (Shp.int Try.underlying3) ShpF.nil)) (by kernel_rfl)) (fun y => Sgn.mk y.1 y.2.1) (fun _ => rfl) (fun y h => h.1)) (by kernel_rfl) (by decide) (fun _ => List.all_eq_true.1 rfl)) (hval 0 35 v0 rfl rfl) h0
  have lt1 : ∀ x ∈ p1, x.block < W.heap.size := by obtain ⟨m, hm⟩ := h1; exact DataW.trod_lt m _ _ _ hm
  obtain ⟨x1, e1, s1⟩ := rd_strs Try.underlying22 Try.underlying9 (by kernel_rfl) (hval 1 22 v1 rfl rfl) h1
  clear hA0 hval0
  refine (law_calls (sp_laws_FnExactFormatCover x0 x1 s0.1 s0.2 s1.1 s1.2) (Rd.cons e0 (Rd.cons e1 Rd.nil))).mono fun e W' ⟨he, bel⟩ => ?_
  subst he
  exact ⟨_, rfl, _, _, _, [], _, [], hW', trodAll_mk1 (shut_bool Try.underlying4 _), (trodAll_cons_mk (Below.trod laidOut (by kernel_rfl) (of_decide_eq_true (by kernel_rfl)) h0 bel lt0) (trodAll_cons_mk (Below.trod laidOut (by kernel_rfl) (of_decide_eq_true (by kernel_rfl)) h1 bel lt1) trodAll_mk0)), rfl, bel.frame _, fun h => by cases h⟩

end Go.Proofs.Ytfnomecncgejbaa.fnExactFormatCoverDone
namespace Go.Proofs.Ytfnomecncgejbaa
/-- The statement. -/
theorem fnExactFormatCover_holds : Rows.FnExactFormatCoverSaid :=
  OpenClaim.holds_of_wide 8 Try.f8 rfl rfl rfl rfl rfl rfl rfl ⟨rfl, rfl, rfl, rfl, rfl⟩ rfl rfl rfl rfl rfl fnExactFormatCoverDone.named Try.func8 fnExactFormatCoverDone.closed
    (of_decide_eq_true (by kernel_rfl)) (by unfold Func.isWrapper; first | (rw [if_pos (by decide +kernel)]; kernel_rfl) | (rw [if_neg (by decide +kernel)]; exact ⟨rfl, rfl⟩))
    (fun os started H enc _ => fnExactFormatCoverDone.lifted os started H enc)

end Go.Proofs.Ytfnomecncgejbaa
