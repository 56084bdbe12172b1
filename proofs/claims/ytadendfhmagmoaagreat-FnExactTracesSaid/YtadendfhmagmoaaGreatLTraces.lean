/-
  The law FnExactTraces: from its contract to the given statement.
-/
import Derived.Test.YtadendfhmagmoaaGreatAmR
import Derived.Test.YtadendfhmagmoaaGreatAmH0
import Derived.Test.YtadendfhmagmoaaGreatHd
import Derived.Test.YtadendfhmagmoaaGreatZTraces3
import Derived.Test.YtadendfhmagmoaaGreatRows
import Derived.WalkKit
import Derived.KernelRfl

namespace Go.Proofs.YtadendfhmagmoaaGreat.fnExactTracesDone
open Go.ChangeShapes Go.WideShapes Go.ChangeAt Go.RowKit Go.AM
set_option linter.unusedVariables false

theorem a1 : (Rows.fnExactTracesRow.inPlace == Tryz.prog.inPlace 3) = true := by kernel_rfl
theorem a2 : (Rows.fnExactTracesRow.unfollowed == Tryz.prog.unfollowed 3) = true := by kernel_rfl
theorem a3 : (Rows.fnExactTracesRow.recurses == Tryz.prog.recurses 3) = true := by kernel_rfl
theorem a4 : (Rows.fnExactTracesRow.named == Tryz.prog.varsNamed 3) = true := by kernel_rfl
theorem closed : joinedFacts Tryz.prog 3 Tryz.f3 Rows.fnExactTracesSpec Rows.fnExactTracesRow = true :=
  joined_of laidOut mapsRows noStops noKnobs (by rw [keysPlain]; rfl) heard enters (by rw [lifts]; rfl) (by rw [made]; rfl) a1 a2 a3 a4 (by kernel_rfl)
theorem named : Tryz.prog.funcNamed Rows.fnExactTracesRow.func = some 3 := by kernel_rfl
set_option maxRecDepth 100000 in
theorem lifted (os : Os) (started : os.Started) (H : Type) (enc : TypeId × Value → H) :
    ReturnsInHanded {} Tryz.checked os 3 .any (Rows.fnExactTracesSpec.pre6 enc Tryz.prog Tryz.f3 Rows.fnExactTracesRow.domain false) (Rows.fnExactTracesSpec.post enc Tryz.prog Tryz.f3 false true false false) := by
  refine returnsInHanded_of_change (C := Tryz.checked) own started (by kernel_rfl) Tryz.func3
    (ChangeSpec.witness6 (enc := enc) (C := Tryz.checked) false ⟨#[], #[.agg #[.slice none 0 0, .slice none 0 0, .slice none 0 0], .int .i64 0, .int .i64 0], []⟩ 8 (by kernel_rfl) (by kernel_rfl) (by kernel_rfl) (by kernel_rfl)) ?_
  intro W base args ds gs before hval0 hW hcnd _
  have hval : ∀ (j : Nat) t v, Tryz.f3.params[j]? = some t → args[j]? = some v → Value.okWide Tryz.prog W .any base t v := hval0
  have hW' := hW
  obtain ⟨p, q, hA0, hV, rfl, hfz, hnd⟩ := hW
  have hA : DataW.TrodAll enc Tryz.prog W 0 (fun _ => true) true Tryz.f3.params.toList args.toList ds p := hA0
  rw [Tryz.params3] at hA hval
  obtain ⟨v0, vs0, d0, ds0, p0, q0, hargs, rfl, rfl, h0, r0⟩ := trodAll_cons hA
  obtain ⟨v1, vs1, d1, ds1, p1, q1, rfl, rfl, rfl, h1, r1⟩ := trodAll_cons r0
  obtain ⟨v2, vs2, d2, ds2, p2, q2, rfl, rfl, rfl, h2, r2⟩ := trodAll_cons r1
  obtain ⟨rfl, rfl, rfl⟩ := trodAll_nil r2
  obtain rfl : args = #[v0, v1, v2] := by cases args; simp_all
  obtain ⟨rfl, rfl⟩ := trodVars_none hV
  have lt0 : ∀ x ∈ p0, x.block < W.heap.size := by obtain ⟨m, hm⟩ := h0; exact DataW.trod_lt m _ _ _ hm
  obtain ⟨x0, e0, s0⟩ := rd_agg Tryz.underlying26 (Shp.via (mk' := fun x : Sgr => [(.slice false 2 (x.sigs.map Sgn.d)), (.slice false 1 (x.codes.map D.str)), (.slice false 4 (x.arcs.map Arc.d))]) (ok' := Sgr.wide) (Shp.struct Tryz.underlying26 (ShpF.cons (by kernel_rfl) (Shp.sliceA (sz := 2) Tryz.underlying22 (Shp.via (mk' := fun x : Sgn => [(.str x.name), (.int .i64 x.kind)]) (ok' := Sgn.wide) (Shp.struct Tryz.underlying66 (ShpF.cons (by kernel_rfl) (Shp.str Tryz.underlying9) (ShpF.cons (by kernel_rfl) (Shp.int Tryz.underlying3) ShpF.nil)) (by kernel_rfl)) (fun y => Sgn.mk y.1 y.2.1) (fun _ => rfl) (fun y h => h.1)) (by kernel_rfl) (by decide) (fun _ => List.all_eq_true.1 rfl)) (ShpF.cons (by kernel_rfl) (Shp.slice1 Tryz.underlying23 (Shp.str Tryz.underlying9) (by kernel_rfl) (fun _ => rfl)) (ShpF.cons (by kernel_rfl) (Shp.sliceA (sz := 4) Tryz.underlying24 (Shp.via (mk' := fun x : Arc => [(.int .i64 x.src), (.int .i64 x.sig), (.bool (x.up)), (.int .i64 x.dst)]) (ok' := Arc.wide) (Shp.struct Tryz.underlying79 (ShpF.cons (by kernel_rfl) (Shp.int Tryz.underlying3) (ShpF.cons (by kernel_rfl) (Shp.int Tryz.underlying3) (ShpF.cons (by kernel_rfl) (Shp.bool Tryz.underlying4) (ShpF.cons (by kernel_rfl) (Shp.int Tryz.underlying3) ShpF.nil)))) (by kernel_rfl)) (fun y => Arc.mk y.1 y.2.1 y.2.2.1 y.2.2.2.1) (fun _ => rfl) (fun y h => trivial)) (by kernel_rfl) (by decide) (fun _ => List.all_eq_true.1 rfl)) ShpF.nil))) (by kernel_rfl)) (fun y => Sgr.mk y.1 y.2.1 y.2.2.1) (fun _ => rfl) (fun y h => ⟨h.1, h.2.1, h.2.2.1⟩)) (fun _ => List.all_eq_true.1 rfl) (hval 0 26 v0 rfl rfl) h0
  have lt1 : ∀ x ∈ p1, x.block < W.heap.size := by obtain ⟨m, hm⟩ := h1; exact DataW.trod_lt m _ _ _ hm
  obtain ⟨x1, e1, s1⟩ := rd_int Tryz.underlying3 (hval 1 3 v1 rfl rfl) h1
  have lt2 : ∀ x ∈ p2, x.block < W.heap.size := by obtain ⟨m, hm⟩ := h2; exact DataW.trod_lt m _ _ _ hm
  obtain ⟨x2, e2, s2⟩ := rd_int Tryz.underlying3 (hval 2 3 v2 rfl rfl) h2
  clear hA0 hval0
  refine (law_calls (sp_laws_FnExactTraces x0 x1 x2 s0) (Rd.cons e0 (Rd.cons e1 (Rd.cons e2 Rd.nil)))).mono fun e W' ⟨he, bel⟩ => ?_
  subst he
  exact ⟨_, rfl, _, _, _, [], _, [], hW', trodAll_mk1 (shut_bool Tryz.underlying4 _), (trodAll_cons_mk (Below.trod laidOut (by kernel_rfl) (of_decide_eq_true (by kernel_rfl)) h0 bel lt0) (trodAll_cons_mk (Below.trod laidOut (by kernel_rfl) (of_decide_eq_true (by kernel_rfl)) h1 bel lt1) (trodAll_cons_mk (Below.trod laidOut (by kernel_rfl) (of_decide_eq_true (by kernel_rfl)) h2 bel lt2) trodAll_mk0))), rfl, bel.frame _, fun h => by cases h⟩

end Go.Proofs.YtadendfhmagmoaaGreat.fnExactTracesDone
namespace Go.Proofs.YtadendfhmagmoaaGreat
/-- The statement. -/
theorem fnExactTraces_holds : Rows.FnExactTracesSaid :=
  OpenClaim.holds_of_wide 3 Tryz.f3 rfl rfl rfl rfl rfl rfl rfl ⟨rfl, rfl, rfl, rfl, rfl⟩ rfl rfl rfl rfl rfl fnExactTracesDone.named Tryz.func3 fnExactTracesDone.closed
    (of_decide_eq_true (by kernel_rfl)) (by unfold Func.isWrapper; first | (rw [if_pos (by decide +kernel)]; kernel_rfl) | (rw [if_neg (by decide +kernel)]; exact ⟨rfl, rfl⟩))
    (fun os started H enc _ => fnExactTracesDone.lifted os started H enc)

end Go.Proofs.YtadendfhmagmoaaGreat
