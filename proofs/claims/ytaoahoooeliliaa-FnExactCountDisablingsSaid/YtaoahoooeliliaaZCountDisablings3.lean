/-
  The contracts that the law FnExactCountDisablings needs.
-/
import Derived.Test.YtaoahoooeliliaaZCountDisablings2
namespace Go.AM
open Go.Proofs
set_option linter.unusedVariables false
set_option linter.unusedSimpArgs false

set_option maxHeartbeats 2000000 in
theorem sp_spec_l5Good (x : Sgr) (hb : x.bulk ≤ 1048576) : Sp Try.prog 78 [(.agg [(.slice false 2 (x.sigs.map Sgn.d)), (.slice false 1 (x.codes.map D.str)), (.slice false 4 (x.arcs.map Arc.d))])] [.any] (.bool (sgB x)) := by
  refine Sp_intro (lend := true) Try.func78 rfl rfl rfl (fun _ => rfl) (fun c hc hX => ?_)
  obtain ⟨hp0, hp1, hp2⟩ := Sgr.parts hb
  have hn0 := bulkF_len hp0
  have hn1 := bulk_len hp1
  have hx1 := bulk_mem hp1
  have hn2 := bulkF_len hp2
  refine T_seq ?_
  refine T_region hc ?_
  refine Ch.step (v := (.ptr 1000 0)) rfl (.box 1000 _ _ rfl (.aggD _)) rfl rfl ?_
  refine Ch.step (v := (.d (.bool false))) rfl (.pure (.assign _ rfl rfl)) rfl rfl ?_
  refine Ch.nil ?_
  refine T_seq ?_
  refine T_seq ?_
  refine T_region hc ?_
  refine Ch.step (v := (.ptr 1000 0)) rfl (.pure (.fldPtr _ _ _ rfl fld52_0 rfl)) rfl rfl ?_
  refine Ch.step (v := (.d (.slice false 2 (x.sigs.map Sgn.d)))) rfl (.pure (.loadPtr1 _ _ rfl ag29 rfl rfl rfl)) rfl rfl ?_
  refine Ch.step (v := (.d (.bool (sigsB x.sigs)))) rfl (.call 9000 104 _ _ _ en104 rfl (.inl rfl) (.cons (.d _) .nil) rfl rfl (sp_spec_l2Signals x.sigs (by first | assumption | omega | (rw [List.length_take]; omega) | (have := bulkF_mem hb _ (getD_mem (d := default) (by omega)); assumption) | (unfold bulkS at *; omega) | (simp_all; done))) (.skip _ _ .nil) rfl) rfl rfl ?_
  refine Ch.step (v := (.d (.bool (!(sigsB x.sigs))))) rfl (.pure (.not _ _ rfl rfl)) rfl rfl ?_
  refine Ch.step (v := (.d (.bool (!(sigsB x.sigs))))) rfl (.pure (.move _ rfl rfl)) rfl rfl ?_
  cases h1 : (sigsB x.sigs) with
  | true =>
    try have hs8 := within_two (sigsB_len h1)
    refine Ch.step (v := (.ptr 1000 1)) rfl (.pure (.fldPtr _ _ _ rfl fld52_1 rfl)) rfl rfl ?_
    refine Ch.step (v := (.d (.slice false 1 (x.codes.map D.str)))) rfl (.pure (.loadPtr1 _ _ rfl ag43 rfl rfl rfl)) rfl rfl ?_
    refine Ch.step (v := (.d (.int .i64 ((x.codes.length : Nat) : Int)))) rfl (.pure (.len _ _ 9 rfl Try.underlying43 (.sh _ _) (by simp))) rfl rfl ?_
    refine Ch.step (v := (.d (.bool (withinB ((x.codes.length : Nat) : Int) 1 300)))) rfl (.call 15000 51 _ _ _ en51 rfl (.inl rfl) (.cons (.d _) (.cons (.d _) (.cons (.d _) .nil))) rfl rfl (sp_spec_l1In ((x.codes.length : Nat) : Int) 1 300) (.skip _ _ (.skip _ _ (.skip _ _ .nil))) rfl) rfl rfl ?_
    refine Ch.step (v := (.d (.bool (!(withinB ((x.codes.length : Nat) : Int) 1 300))))) rfl (.pure (.not _ _ rfl rfl)) rfl rfl ?_
    refine Ch.step (v := (.d (.bool (!(withinB ((x.codes.length : Nat) : Int) 1 300))))) rfl (.pure (.pickF _ _ _ rfl rfl rfl)) rfl rfl ?_
    refine Ch.step (v := (.d (.bool (!(withinB ((x.codes.length : Nat) : Int) 1 300))))) rfl (.pure (.move _ rfl rfl)) rfl rfl ?_
    cases h2 : (withinB ((x.codes.length : Nat) : Int) 1 300) with
    | true =>
      try have hw2 := within_two h2
      refine Ch.step (v := (.ptr 1000 2)) rfl (.pure (.fldPtr _ _ _ rfl fld52_2 rfl)) rfl rfl ?_
      refine Ch.step (v := (.d (.slice false 4 (x.arcs.map Arc.d)))) rfl (.pure (.loadPtr1 _ _ rfl ag50 rfl rfl rfl)) rfl rfl ?_
      refine Ch.step (v := (.d (.int .i64 ((x.arcs.length : Nat) : Int)))) rfl (.pure (.len _ _ 102 rfl Try.underlying50 (.sh _ _) (by simp))) rfl rfl ?_
      refine Ch.step (v := (.d (.bool (decide (4000 < ((x.arcs.length : Nat) : Int)))))) rfl (.pure (.int _ _ _ _ _ rfl rfl rfl rfl)) rfl rfl ?_
      refine Ch.step (v := (.d (.bool (decide (4000 < ((x.arcs.length : Nat) : Int)))))) rfl (.pure (.pickF _ _ _ rfl rfl rfl)) rfl rfl ?_
      refine Ch.nil ?_
      refine T_cond (b := (decide (4000 < ((x.arcs.length : Nat) : Int)))) rfl (fun h3 => ?_) (fun h3 => ?_)
      · replace h3 := of_decide_eq_true h3
        refine T_seq ?_
        refine T_region hc ?_
        refine Ch.step (v := (.d (.bool false))) rfl (.pure (.assign _ rfl rfl)) rfl rfl ?_
        refine Ch.nil ?_
        refine T_ret ?_
        refine And.intro (.inr rfl) ?_
        exact Exists.intro [(.d (.bool false))] (Exists.intro [] (Exists.intro [] (And.intro (.cons (.tmp 2 rfl) .nil) (And.intro (.cons (.any _) .nil) (And.intro (Exp.of (congrArg D.bool (by first | (rw [sgB, h1]; rfl) | (rw [sgB, h1, h2]; rfl) | (rw [sgB, h1, h2, decide_eq_true (by omega)]; rfl) | (exact (sg_no_code (k := k) (by omega) (by assumption)).symm) | (exact (sg_no_arc (k := m) (by omega) (by first | assumption | (unfold arcB codeAt; simp_all; done))).symm) | (rw [← sg_end h1 h2 (by omega) hcl hal]; done) | (exact sg_end h1 h2 (by omega) hcl hal))) (.d _)) (And.intro rfl rfl))))))
      · replace h3 := of_decide_eq_false h3
        refine T_skip ?_
        refine T_seq ?_
        refine T_seq ?_
        refine T_region hc ?_
        refine Ch.step (v := (.ptr 1000 1)) rfl (.pure (.fldPtr _ _ _ rfl fld52_1 rfl)) rfl rfl ?_
        refine Ch.step (v := (.d (.slice false 1 (x.codes.map D.str)))) rfl (.pure (.loadPtr1 _ _ rfl ag43 rfl rfl rfl)) rfl rfl ?_
        refine Ch.step (v := (.d (.int .i64 ((x.codes.length : Nat) : Int)))) rfl (.pure (.len _ _ 9 rfl Try.underlying43 (.sh _ _) (by simp))) rfl rfl ?_
        refine Ch.step (v := (.d (.int .i64 0))) rfl (.pure (.move _ rfl rfl)) rfl rfl ?_
        refine Ch.nil ?_
        refine T_block ?_
        refine T_loop (ι := Nat) (fun k => { n := 52, sl := [(1, (.ptr 1000 0)), (25, (.d (.slice false 1 (x.codes.map D.str)))), (26, (.d (.int .i64 ((x.codes.length : Nat) : Int)))), (27, (.d (.int .i64 ((k : Nat) : Int))))], hp := [(1000, (some (.box [(.d (.slice false 2 (x.sigs.map Sgn.d))), (.d (.slice false 1 (x.codes.map D.str))), (.d (.slice false 4 (x.arcs.map Arc.d)))])))], pin := [] }) (fun k => k ≤ x.codes.length ∧ ∀ j, j < k → codeN (x.codes.getD j default) (x.sigs.length : Int) = true) (fun k => x.codes.length - k) ⟨0, ⟨by omega, fun j hj => by omega⟩, (Wk.of rfl rfl (And.intro rfl (And.intro rfl (And.intro rfl (And.intro (vI (by first | rfl | omega | (simp; done) | (simp; omega))) trivial)))) (And.intro rfl trivial))⟩ (fun k hp0 => ?_)
        refine T_seq ?_
        refine T_region hc ?_
        refine Ch.step (v := (.d (.bool (decide (((k : Nat) : Int) < ((x.codes.length : Nat) : Int)))))) rfl (.pure (.int _ _ _ _ _ rfl rfl rfl rfl)) rfl rfl ?_
        refine Ch.nil ?_
        refine T_seq ?_
        refine T_cond (b := (decide (((k : Nat) : Int) < ((x.codes.length : Nat) : Int)))) rfl (fun h4 => ?_) (fun h4 => ?_)
        · replace h4 := of_decide_eq_true h4
          try have hcl := sg_codes (x := x) (k := k) (by omega) hp0.2
          try have hca := codes_at hcl
          refine T_skip ?_
          refine T_seq ?_
          refine T_block ?_
          refine T_seq ?_
          refine T_region hc ?_
          refine Ch.step (v := (.d (.ref (.str (x.codes.getD k default))))) rfl (.pure (.idx _ _ _ 9 (k) rfl Try.underlying43 sz9 rfl rfl rfl (get_map _ (by first | omega | (simp only [List.length_map, List.length_append, List.length_take, List.length_drop, List.length_cons, List.length_nil]; omega) | (simp; omega) | (simp; done))))) rfl rfl ?_
          refine Ch.step (v := (.d (.str (x.codes.getD k default)))) rfl (.pure (.loadRef1 _ _ rfl ag9 rfl rfl)) rfl rfl ?_
          refine Ch.step (v := (.d (.str (x.codes.getD k default)))) rfl (.pure (.assign _ rfl rfl)) rfl rfl ?_
          refine Ch.nil ?_
          refine T_seq ?_
          refine T_region hc ?_
          refine Ch.step (v := (.d (.str (x.codes.getD k default)))) rfl (.pure (.move _ rfl rfl)) rfl rfl ?_
          refine Ch.step (v := (.ptr 1000 0)) rfl (.pure (.fldPtr _ _ _ rfl fld52_0 rfl)) rfl rfl ?_
          refine Ch.step (v := (.d (.slice false 2 (x.sigs.map Sgn.d)))) rfl (.pure (.loadPtr1 _ _ rfl ag29 rfl rfl rfl)) rfl rfl ?_
          refine Ch.step (v := (.d (.int .i64 ((x.sigs.length : Nat) : Int)))) rfl (.pure (.len _ _ 97 rfl Try.underlying29 (.sh _ _) (by simp))) rfl rfl ?_
          refine Ch.step (v := (.d (.bool (codeN (x.codes.getD k default) ((x.sigs.length : Nat) : Int))))) rfl (.call 35000 50 _ _ _ en50 rfl (.inl rfl) (.cons (.d _) (.cons (.d _) .nil)) rfl rfl (sp_spec_l5Code (x.codes.getD k default) ((x.sigs.length : Nat) : Int) (by first | omega | assumption | (exact hx _ (getD_mem (by omega))) | (exact hx _ (by assumption)) | (exact Nat.le_trans (hx _ (by assumption)) (by omega)) | (simp only [List.length_append, List.length_take, List.length_drop, List.length_cons, List.length_nil]; omega) | (simp_all; done))) (.skip _ _ (.skip _ _ .nil)) rfl) rfl rfl ?_
          refine Ch.step (v := (.d (.bool (!(codeN (x.codes.getD k default) ((x.sigs.length : Nat) : Int)))))) rfl (.pure (.not _ _ rfl rfl)) rfl rfl ?_
          refine Ch.nil ?_
          refine T_cond (b := (!(codeN (x.codes.getD k default) ((x.sigs.length : Nat) : Int)))) rfl (fun h5 => ?_) (fun h5 => ?_)
          · replace h5 := nott h5
            refine T_seq ?_
            refine T_region hc ?_
            refine Ch.step (v := (.d (.bool false))) rfl (.pure (.assign _ rfl rfl)) rfl rfl ?_
            refine Ch.nil ?_
            refine T_ret ?_
            refine And.intro (.inr rfl) ?_
            exact Exists.intro [(.d (.bool false))] (Exists.intro [] (Exists.intro [] (And.intro (.cons (.tmp 2 rfl) .nil) (And.intro (.cons (.any _) .nil) (And.intro (Exp.of (congrArg D.bool (by first | (rw [sgB, h1]; rfl) | (rw [sgB, h1, h2]; rfl) | (rw [sgB, h1, h2, decide_eq_true (by omega)]; rfl) | (exact (sg_no_code (k := k) (by omega) (by assumption)).symm) | (exact (sg_no_arc (k := m) (by omega) (by first | assumption | (unfold arcB codeAt; simp_all; done))).symm) | (rw [← sg_end h1 h2 (by omega) hcl hal]; done) | (exact sg_end h1 h2 (by omega) hcl hal))) (.d _)) (And.intro rfl rfl))))))
          · replace h5 := notf h5
            refine T_skip ?_
            refine T_region hc ?_
            refine Ch.step (v := (.d (.int .i64 (((k : Nat) : Int) + 1)))) rfl (.pure (.int _ _ _ _ _ rfl rfl rfl (intV_add (by first | omega | (simp only [List.length_map, List.length_append, List.length_take, List.length_drop, List.length_cons, List.length_nil]; omega) | (simp; omega) | (simp; done)) (by first | omega | (simp only [List.length_map, List.length_append, List.length_take, List.length_drop, List.length_cons, List.length_nil]; omega) | (simp; omega) | (simp; done))))) rfl rfl ?_
            refine Ch.step (v := (.d (.int .i64 (((k : Nat) : Int) + 1)))) rfl (.pure (.move _ rfl rfl)) rfl rfl ?_
            refine Ch.nil ?_
            refine Exists.intro (k + 1) (And.intro ⟨by omega, upto_succ hp0.2 (by assumption)⟩ (And.intro (by first | omega | (dsimp only; omega)) (Wk.of rfl rfl (And.intro rfl (And.intro rfl (And.intro rfl (And.intro (vI (by first | rfl | omega | (simp; done) | (simp; omega))) trivial)))) (And.intro rfl trivial))))
        · replace h4 := of_decide_eq_false h4
          try have hcl := sg_codes (x := x) (k := k) (by omega) hp0.2
          try have hca := codes_at hcl
          refine T_exit ?_
          refine T_seq ?_
          refine T_seq ?_
          refine T_region hc ?_
          refine Ch.step (v := (.ptr 1000 2)) rfl (.pure (.fldPtr _ _ _ rfl fld52_2 rfl)) rfl rfl ?_
          refine Ch.step (v := (.d (.slice false 4 (x.arcs.map Arc.d)))) rfl (.pure (.loadPtr1 _ _ rfl ag50 rfl rfl rfl)) rfl rfl ?_
          refine Ch.step (v := (.d (.int .i64 ((x.arcs.length : Nat) : Int)))) rfl (.pure (.len _ _ 102 rfl Try.underlying50 (.sh _ _) (by simp))) rfl rfl ?_
          refine Ch.step (v := (.d (.int .i64 0))) rfl (.pure (.move _ rfl rfl)) rfl rfl ?_
          refine Ch.nil ?_
          refine T_block ?_
          refine T_loop (ι := Nat) (fun m => { n := 52, sl := [(1, (.ptr 1000 0)), (39, (.d (.slice false 4 (x.arcs.map Arc.d)))), (40, (.d (.int .i64 ((x.arcs.length : Nat) : Int)))), (41, (.d (.int .i64 ((m : Nat) : Int))))], hp := [(1000, (some (.box [(.d (.slice false 2 (x.sigs.map Sgn.d))), (.d (.slice false 1 (x.codes.map D.str))), (.d (.slice false 4 (x.arcs.map Arc.d)))])))], pin := [] }) (fun m => m ≤ x.arcs.length ∧ ∀ j, j < m → arcB x (x.arcs.getD j default) = true) (fun m => x.arcs.length - m) ⟨0, ⟨by omega, fun j hj => by omega⟩, (Wk.of rfl rfl (And.intro rfl (And.intro rfl (And.intro rfl (And.intro (vI (by first | rfl | omega | (simp; done) | (simp; omega))) trivial)))) (And.intro rfl trivial))⟩ (fun m hp1 => ?_)
          refine T_seq ?_
          refine T_region hc ?_
          refine Ch.step (v := (.d (.bool (decide (((m : Nat) : Int) < ((x.arcs.length : Nat) : Int)))))) rfl (.pure (.int _ _ _ _ _ rfl rfl rfl rfl)) rfl rfl ?_
          refine Ch.nil ?_
          refine T_seq ?_
          refine T_cond (b := (decide (((m : Nat) : Int) < ((x.arcs.length : Nat) : Int)))) rfl (fun h6 => ?_) (fun h6 => ?_)
          · replace h6 := of_decide_eq_true h6
            try have hal := sg_arcs (x := x) (k := m) (by omega) hp1.2
            try have hen := arc_ends hal
            try have hse := steps_ends hen
            try have hsl := stepsOf_len x.arcs
            try have hdl := distF_len (n := x.codes.length) (s := 0) (by omega) hse
            refine T_skip ?_
            refine T_seq ?_
            refine T_block ?_
            refine T_seq ?_
            refine T_region hc ?_
            refine Ch.step (v := (.d (.ref (.agg [(.int .i64 ((x.arcs.getD m default).src)), (.int .i64 ((x.arcs.getD m default).sig)), (.bool ((x.arcs.getD m default).up)), (.int .i64 ((x.arcs.getD m default).dst))])))) rfl (.pure (.idx _ _ _ 102 (m) rfl Try.underlying50 sz102 rfl rfl rfl (get_map _ (by first | omega | (simp only [List.length_map, List.length_append, List.length_take, List.length_drop, List.length_cons, List.length_nil]; omega) | (simp; omega) | (simp; done))))) rfl rfl ?_
            refine Ch.step (v := (.d (.agg [(.int .i64 ((x.arcs.getD m default).src)), (.int .i64 ((x.arcs.getD m default).sig)), (.bool ((x.arcs.getD m default).up)), (.int .i64 ((x.arcs.getD m default).dst))]))) rfl (.pure (.loadRefA _ _ rfl ag102 sz102 rfl)) rfl rfl ?_
            refine Ch.step (v := (.ptr 6000 0)) rfl (.alloc 6000 _ rfl zer102) rfl rfl ?_
            refine Ch.step (v := .junk) rfl (.storePtr _ _ _ rfl rfl rfl (.aggD _) sz102 (Nat.le_of_ble_eq_true rfl)) rfl rfl ?_
            refine Ch.nil ?_
            refine T_seq ?_
            refine T_region hc ?_
            refine Ch.step (v := (.agg [(.d (.slice false 2 (x.sigs.map Sgn.d))), (.d (.slice false 1 (x.codes.map D.str))), (.d (.slice false 4 (x.arcs.map Arc.d)))])) rfl (.pure (.loadPtrA _ _ rfl ag52 sz52 rfl rfl (Nat.le_of_ble_eq_true rfl) rfl)) rfl rfl ?_
            refine Ch.step (v := (.agg [(.d (.int .i64 ((x.arcs.getD m default).src))), (.d (.int .i64 ((x.arcs.getD m default).sig))), (.d (.bool ((x.arcs.getD m default).up))), (.d (.int .i64 ((x.arcs.getD m default).dst)))])) rfl (.pure (.loadPtrA _ _ rfl ag102 sz102 rfl rfl (Nat.le_of_ble_eq_true rfl) rfl)) rfl rfl ?_
            refine Ch.step (v := (.d (.bool (arcB x (x.arcs.getD m default))))) rfl (.call 47000 128 _ _ _ en128 rfl (.inl rfl) (.cons (.lend (.agg (.cons (.d _) (.cons (.d _) (.cons (.d _) .nil))) rfl)) (.cons (.lend (.agg (.cons (.d _) (.cons (.d _) (.cons (.d _) (.cons (.d _) .nil)))) rfl)) .nil)) rfl rfl (sp_spec_l5Arc x (x.arcs.getD m default) (by first | assumption | omega | (rw [List.length_take]; omega) | (have := bulkF_mem hb _ (getD_mem (d := default) (by omega)); assumption) | (unfold bulkS at *; omega) | (simp_all; done)) (by first | assumption | omega | (rw [List.length_take]; omega) | (have := bulkF_mem hb _ (getD_mem (d := default) (by omega)); assumption) | (unfold bulkS at *; omega) | (simp_all; done)) (by assumption)) (.skip _ _ (.skip _ _ .nil)) rfl) rfl rfl ?_
            refine Ch.step (v := (.d (.bool (!(arcB x (x.arcs.getD m default)))))) rfl (.pure (.not _ _ rfl rfl)) rfl rfl ?_
            refine Ch.nil ?_
            refine T_cond (b := (!(arcB x (x.arcs.getD m default)))) rfl (fun h7 => ?_) (fun h7 => ?_)
            · replace h7 := nott h7
              refine T_seq ?_
              refine T_region hc ?_
              refine Ch.step (v := (.d (.bool false))) rfl (.pure (.assign _ rfl rfl)) rfl rfl ?_
              refine Ch.nil ?_
              refine T_ret ?_
              refine And.intro (.inr rfl) ?_
              exact Exists.intro [(.d (.bool false))] (Exists.intro [] (Exists.intro [] (And.intro (.cons (.tmp 2 rfl) .nil) (And.intro (.cons (.any _) .nil) (And.intro (Exp.of (congrArg D.bool (by first | (rw [sgB, h1]; rfl) | (rw [sgB, h1, h2]; rfl) | (rw [sgB, h1, h2, decide_eq_true (by omega)]; rfl) | (exact (sg_no_code (k := k) (by omega) (by assumption)).symm) | (exact (sg_no_arc (k := m) (by omega) (by first | assumption | (unfold arcB codeAt; simp_all; done))).symm) | (rw [← sg_end h1 h2 (by omega) hcl hal]; done) | (exact sg_end h1 h2 (by omega) hcl hal))) (.d _)) (And.intro rfl rfl))))))
            · replace h7 := notf h7
              refine T_skip ?_
              refine T_region hc ?_
              refine Ch.step (v := (.d (.int .i64 (((m : Nat) : Int) + 1)))) rfl (.pure (.int _ _ _ _ _ rfl rfl rfl (intV_add (by first | omega | (simp only [List.length_map, List.length_append, List.length_take, List.length_drop, List.length_cons, List.length_nil]; omega) | (simp; omega) | (simp; done)) (by first | omega | (simp only [List.length_map, List.length_append, List.length_take, List.length_drop, List.length_cons, List.length_nil]; omega) | (simp; omega) | (simp; done))))) rfl rfl ?_
              refine Ch.step (v := (.d (.int .i64 (((m : Nat) : Int) + 1)))) rfl (.pure (.move _ rfl rfl)) rfl rfl ?_
              refine Ch.nil ?_
              refine Exists.intro (m + 1) (And.intro ⟨by omega, upto_succ hp1.2 (by first | assumption | (unfold arcB codeAt; simp_all; done))⟩ (And.intro (by first | omega | (dsimp only; omega)) (Wk.of rfl rfl (And.intro rfl (And.intro rfl (And.intro rfl (And.intro (vI (by first | rfl | omega | (simp; done) | (simp; omega))) trivial)))) (And.intro rfl trivial))))
          · replace h6 := of_decide_eq_false h6
            try have hal := sg_arcs (x := x) (k := m) (by omega) hp1.2
            try have hen := arc_ends hal
            try have hse := steps_ends hen
            try have hsl := stepsOf_len x.arcs
            try have hdl := distF_len (n := x.codes.length) (s := 0) (by omega) hse
            refine T_exit ?_
            refine T_seq ?_
            refine T_region hc ?_
            refine Ch.step (v := (.agg [(.d (.slice false 2 (x.sigs.map Sgn.d))), (.d (.slice false 1 (x.codes.map D.str))), (.d (.slice false 4 (x.arcs.map Arc.d)))])) rfl (.pure (.loadPtrA _ _ rfl ag52 sz52 rfl rfl (Nat.le_of_ble_eq_true rfl) rfl)) rfl rfl ?_
            refine Ch.step (v := (.d (.bool (!hasI (distF x.codes.length (stepsOf x.arcs) 0) (-1))))) rfl (.call 51000 129 _ _ _ en129 rfl (.inl rfl) (.cons (.lend (.agg (.cons (.d _) (.cons (.d _) (.cons (.d _) .nil))) rfl)) .nil) rfl rfl (sp_spec_l5All x (by first | assumption | omega | (rw [List.length_take]; omega) | (have := bulkF_mem hb _ (getD_mem (d := default) (by omega)); assumption) | (unfold bulkS at *; omega) | (simp_all; done)) (by first | assumption | omega | (rw [List.length_take]; omega) | (have := bulkF_mem hb _ (getD_mem (d := default) (by omega)); assumption) | (unfold bulkS at *; omega) | (simp_all; done)) (by assumption)) (.skip _ _ .nil) rfl) rfl rfl ?_
            refine Ch.step (v := (.d (.bool (!hasI (distF x.codes.length (stepsOf x.arcs) 0) (-1))))) rfl (.pure (.assign _ rfl rfl)) rfl rfl ?_
            refine Ch.nil ?_
            refine T_ret ?_
            refine And.intro (.inr rfl) ?_
            exact Exists.intro [(.d (.bool (!hasI (distF x.codes.length (stepsOf x.arcs) 0) (-1))))] (Exists.intro [] (Exists.intro [] (And.intro (.cons (.tmp 2 rfl) .nil) (And.intro (.cons (.any _) .nil) (And.intro (Exp.of (congrArg D.bool (by first | (rw [sgB, h1]; rfl) | (rw [sgB, h1, h2]; rfl) | (rw [sgB, h1, h2, decide_eq_true (by omega)]; rfl) | (exact (sg_no_code (k := k) (by omega) (by assumption)).symm) | (exact (sg_no_arc (k := m) (by omega) (by first | assumption | (unfold arcB codeAt; simp_all; done))).symm) | (rw [← sg_end h1 h2 (by omega) hcl hal]; done) | (exact sg_end h1 h2 (by omega) hcl hal))) (.d _)) (And.intro rfl rfl))))))
    | false =>
      try have hw2 := within_two h2
      refine Ch.skip rfl rfl ?_
      refine Ch.skip rfl rfl ?_
      refine Ch.skip rfl rfl ?_
      refine Ch.skip rfl rfl ?_
      refine Ch.step (v := (.d (.bool true))) rfl (.pure (.pickT _ _ _ rfl rfl rfl)) rfl rfl ?_
      refine Ch.nil ?_
      refine T_cond (b := true) rfl (fun _ => ?_) (fun h => nomatch h)
      refine T_seq ?_
      refine T_region hc ?_
      refine Ch.step (v := (.d (.bool false))) rfl (.pure (.assign _ rfl rfl)) rfl rfl ?_
      refine Ch.nil ?_
      refine T_ret ?_
      refine And.intro (.inr rfl) ?_
      exact Exists.intro [(.d (.bool false))] (Exists.intro [] (Exists.intro [] (And.intro (.cons (.tmp 2 rfl) .nil) (And.intro (.cons (.any _) .nil) (And.intro (Exp.of (congrArg D.bool (by first | (rw [sgB, h1]; rfl) | (rw [sgB, h1, h2]; rfl) | (rw [sgB, h1, h2, decide_eq_true (by omega)]; rfl) | (exact (sg_no_code (k := k) (by omega) (by assumption)).symm) | (exact (sg_no_arc (k := m) (by omega) (by first | assumption | (unfold arcB codeAt; simp_all; done))).symm) | (rw [← sg_end h1 h2 (by omega) hcl hal]; done) | (exact sg_end h1 h2 (by omega) hcl hal))) (.d _)) (And.intro rfl rfl))))))
  | false =>
    try have hs8 := within_two (sigsB_len h1)
    refine Ch.skip rfl rfl ?_
    refine Ch.skip rfl rfl ?_
    refine Ch.skip rfl rfl ?_
    refine Ch.skip rfl rfl ?_
    refine Ch.skip rfl rfl ?_
    refine Ch.step (v := (.d (.bool true))) rfl (.pure (.pickT _ _ _ rfl rfl rfl)) rfl rfl ?_
    refine Ch.step (v := (.d (.bool true))) rfl (.pure (.move _ rfl rfl)) rfl rfl ?_
    refine Ch.skip rfl rfl ?_
    refine Ch.skip rfl rfl ?_
    refine Ch.skip rfl rfl ?_
    refine Ch.skip rfl rfl ?_
    refine Ch.step (v := (.d (.bool true))) rfl (.pure (.pickT _ _ _ rfl rfl rfl)) rfl rfl ?_
    refine Ch.nil ?_
    refine T_cond (b := true) rfl (fun _ => ?_) (fun h => nomatch h)
    refine T_seq ?_
    refine T_region hc ?_
    refine Ch.step (v := (.d (.bool false))) rfl (.pure (.assign _ rfl rfl)) rfl rfl ?_
    refine Ch.nil ?_
    refine T_ret ?_
    refine And.intro (.inr rfl) ?_
    exact Exists.intro [(.d (.bool false))] (Exists.intro [] (Exists.intro [] (And.intro (.cons (.tmp 2 rfl) .nil) (And.intro (.cons (.any _) .nil) (And.intro (Exp.of (congrArg D.bool (by first | (rw [sgB, h1]; rfl) | (rw [sgB, h1, h2]; rfl) | (rw [sgB, h1, h2, decide_eq_true (by omega)]; rfl) | (exact (sg_no_code (k := k) (by omega) (by assumption)).symm) | (exact (sg_no_arc (k := m) (by omega) (by first | assumption | (unfold arcB codeAt; simp_all; done))).symm) | (rw [← sg_end h1 h2 (by omega) hcl hal]; done) | (exact sg_end h1 h2 (by omega) hcl hal))) (.d _)) (And.intro rfl rfl))))))

theorem en80 : Enters Try.prog 80 := ⟨_, Try.func80, by kernel_rfl, rfl⟩

theorem en78 : Enters Try.prog 78 := ⟨_, Try.func78, by kernel_rfl, rfl⟩

theorem en67 : Enters Try.prog 67 := ⟨_, Try.func67, by kernel_rfl, rfl⟩

theorem ag46 : AggIs Try.prog 46 true := by unfold AggIs; kernel_rfl

theorem sz46 : SizeIs Try.prog 46 3 := by unfold SizeIs; kernel_rfl

theorem en24 : Enters Try.prog 24 := ⟨_, Try.func24, by kernel_rfl, rfl⟩

theorem en26 : Enters Try.prog 26 := ⟨_, Try.func26, by kernel_rfl, rfl⟩

theorem en28 : Enters Try.prog 28 := ⟨_, Try.func28, by kernel_rfl, rfl⟩

structure SgOk (x : Sgr) : Prop where
  sigs : sigsB x.sigs = true
  eight : 1 ≤ x.sigs.length ∧ x.sigs.length ≤ 8
  len : 1 ≤ x.codes.length ∧ x.codes.length ≤ 300
  few : x.arcs.length ≤ 4000
  codes : allOf x.codes (fun u => codeN u (x.sigs.length : Int)) = true
  arcs : allOf x.arcs (arcB x) = true
  ends : ends x.codes.length x.arcs

theorem sg_has {x : Sgr} (h : sgB x = true) : SgOk x := by
  unfold sgB at h
  simp only [Bool.and_eq_true] at h
  obtain ⟨h1, h2, h3, h4, h5, _⟩ := h
  have h6 := within_iff h2
  have h7 := within_iff (sigsB_len h1)
  have h8 : ¬ (4000 : Int) < (x.arcs.length : Int) := by simpa using h3
  exact ⟨h1, by omega, by omega, by omega, h4, h5, arc_ends h5⟩

theorem SgOk.sig {x : Sgr} (h : SgOk x) : ∀ a ∈ x.arcs, a.sig < (x.sigs.length : Int) ∧ (0 ≤ a.sig ∨ a.sig = -1) := by
  intro a ha
  obtain ⟨j, hj, rfl⟩ := List.mem_iff_getElem.1 ha
  have := allB_true.1 h.arcs j hj
  rw [show x.arcs.getD j default = x.arcs[j] by simp [hj]] at this
  unfold arcB at this
  simp only [Bool.and_eq_true] at this
  have h2 := this.2.2.1
  unfold edgeB at h2
  simp only [Bool.or_eq_true, Bool.and_eq_true, decide_eq_true_iff] at h2
  have h8 := h.eight
  rcases h2 with h2 | h2
  · have := within_iff h2
    omega
  · have := h2.1
    omega

def hasSigB (x : Sgr) (sig : Int) : Bool := sgB x && withinB sig 0 ((x.sigs.length : Int) - 1)

theorem has_sig {x : Sgr} {sig : Int} (h : hasSigB x sig = true) : sgB x = true ∧ (0 ≤ sig ∧ sig.toNat < x.sigs.length) := by
  unfold hasSigB at h
  rw [Bool.and_eq_true] at h
  have := within_iff h.2
  exact ⟨h.1, by omega, by omega⟩

theorem sp_spec_l10Asked (x : Sgr) (sig : Int) (hb : x.bulk ≤ 1048576) : Sp Try.prog 67 [(.agg [(.slice false 2 (x.sigs.map Sgn.d)), (.slice false 1 (x.codes.map D.str)), (.slice false 4 (x.arcs.map Arc.d))]), (.int .i64 sig)] [.any, .any] (.bool (hasSigB x sig)) := by
  refine Sp_intro (lend := true) Try.func67 rfl rfl rfl (fun _ => rfl) (fun c hc hX => ?_)
  obtain ⟨hp0, hp1, hp2⟩ := Sgr.parts hb
  have hn0 := bulkF_len hp0
  have hn1 := bulk_len hp1
  have hx1 := bulk_mem hp1
  have hn2 := bulkF_len hp2
  refine T_seq ?_
  refine T_region hc ?_
  refine Ch.step (v := (.ptr 2000 0)) rfl (.box 2000 _ _ rfl (.aggD _)) rfl rfl ?_
  refine Ch.step (v := (.d (.bool false))) rfl (.pure (.assign _ rfl rfl)) rfl rfl ?_
  refine Ch.nil ?_
  refine T_seq ?_
  refine T_region hc ?_
  refine Ch.step (v := (.agg [(.d (.slice false 2 (x.sigs.map Sgn.d))), (.d (.slice false 1 (x.codes.map D.str))), (.d (.slice false 4 (x.arcs.map Arc.d)))])) rfl (.pure (.loadPtrA _ _ rfl ag52 sz52 rfl rfl (Nat.le_of_ble_eq_true rfl) rfl)) rfl rfl ?_
  refine Ch.step (v := (.d (.bool (sgB x)))) rfl (.call 6000 78 _ _ _ en78 rfl (.inl rfl) (.cons (.lend (.agg (.cons (.d _) (.cons (.d _) (.cons (.d _) .nil))) rfl)) .nil) rfl rfl (sp_spec_l5Good x (by first | assumption | omega | (rw [List.length_take]; omega) | (have := bulkF_mem hb _ (getD_mem (d := default) (by omega)); assumption) | (unfold bulkS at *; omega) | (simp_all; done))) (.skip _ _ .nil) rfl) rfl rfl ?_
  refine Ch.step (v := (.d (.bool (sgB x)))) rfl (.pure (.move _ rfl rfl)) rfl rfl ?_
  cases h1 : (sgB x) with
  | true =>
    refine Ch.step (v := (.d (.int .i64 sig))) rfl (.pure (.move _ rfl rfl)) rfl rfl ?_
    refine Ch.step (v := (.ptr 2000 0)) rfl (.pure (.fldPtr _ _ _ rfl fld52_0 rfl)) rfl rfl ?_
    refine Ch.step (v := (.d (.slice false 2 (x.sigs.map Sgn.d)))) rfl (.pure (.loadPtr1 _ _ rfl ag29 rfl rfl rfl)) rfl rfl ?_
    refine Ch.step (v := (.d (.int .i64 ((x.sigs.length : Nat) : Int)))) rfl (.pure (.len _ _ 97 rfl Try.underlying29 (.sh _ _) (by simp))) rfl rfl ?_
    refine Ch.step (v := (.d (.int .i64 (((x.sigs.length : Nat) : Int) - 1)))) rfl (.pure (.int _ _ _ _ _ rfl rfl rfl (intV_sub (by first | omega | (simp only [List.length_map, List.length_append, List.length_take, List.length_drop, List.length_cons, List.length_nil]; omega) | (simp; omega) | (simp; done)) (by first | omega | (simp only [List.length_map, List.length_append, List.length_take, List.length_drop, List.length_cons, List.length_nil]; omega) | (simp; omega) | (simp; done))))) rfl rfl ?_
    refine Ch.step (v := (.d (.bool (withinB sig 0 (((x.sigs.length : Nat) : Int) - 1))))) rfl (.call 13000 51 _ _ _ en51 rfl (.inl rfl) (.cons (.d _) (.cons (.d _) (.cons (.d _) .nil))) rfl rfl (sp_spec_l1In sig 0 (((x.sigs.length : Nat) : Int) - 1)) (.skip _ _ (.skip _ _ (.skip _ _ .nil))) rfl) rfl rfl ?_
    refine Ch.step (v := (.d (.bool (withinB sig 0 (((x.sigs.length : Nat) : Int) - 1))))) rfl (.pure (.pickT _ _ _ rfl rfl rfl)) rfl rfl ?_
    refine Ch.step (v := (.d (.bool (withinB sig 0 (((x.sigs.length : Nat) : Int) - 1))))) rfl (.pure (.assign _ rfl rfl)) rfl rfl ?_
    refine Ch.nil ?_
    refine T_ret ?_
    refine And.intro (.inr rfl) ?_
    exact Exists.intro [(.d (.bool (withinB sig 0 (((x.sigs.length : Nat) : Int) - 1))))] (Exists.intro [] (Exists.intro [] (And.intro (.cons (.tmp 4 rfl) .nil) (And.intro (.cons (.any _) (.cons (.any _) .nil)) (And.intro (Exp.of (congrArg D.bool (by first | (rw [hasSigB, h1]; rfl) | (simp_all [hasSigB]; done))) (.d _)) (And.intro rfl rfl))))))
  | false =>
    refine Ch.skip rfl rfl ?_
    refine Ch.skip rfl rfl ?_
    refine Ch.skip rfl rfl ?_
    refine Ch.skip rfl rfl ?_
    refine Ch.skip rfl rfl ?_
    refine Ch.skip rfl rfl ?_
    refine Ch.step (v := (.d (.bool false))) rfl (.pure (.pickF _ _ _ rfl rfl rfl)) rfl rfl ?_
    refine Ch.step (v := (.d (.bool false))) rfl (.pure (.assign _ rfl rfl)) rfl rfl ?_
    refine Ch.nil ?_
    refine T_ret ?_
    refine And.intro (.inr rfl) ?_
    exact Exists.intro [(.d (.bool false))] (Exists.intro [] (Exists.intro [] (And.intro (.cons (.tmp 4 rfl) .nil) (And.intro (.cons (.any _) (.cons (.any _) .nil)) (And.intro (Exp.of (congrArg D.bool (by first | (rw [hasSigB, h1]; rfl) | (simp_all [hasSigB]; done))) (.d _)) (And.intro rfl rfl))))))

theorem en169 : Enters Try.prog 169 := ⟨_, Try.func169, by kernel_rfl, rfl⟩

theorem en137 : Enters Try.prog 137 := ⟨_, Try.func137, by kernel_rfl, rfl⟩

theorem en145 : Enters Try.prog 145 := ⟨_, Try.func145, by kernel_rfl, rfl⟩

theorem en171 : Enters Try.prog 171 := ⟨_, Try.func171, by kernel_rfl, rfl⟩

theorem en144 : Enters Try.prog 144 := ⟨_, Try.func144, by kernel_rfl, rfl⟩

theorem en142 : Enters Try.prog 142 := ⟨_, Try.func142, by kernel_rfl, rfl⟩

theorem en143 : Enters Try.prog 143 := ⟨_, Try.func143, by kernel_rfl, rfl⟩

theorem en82 : Enters Try.prog 82 := ⟨_, Try.func82, by kernel_rfl, rfl⟩

theorem en83 : Enters Try.prog 83 := ⟨_, Try.func83, by kernel_rfl, rfl⟩

theorem en33 : Enters Try.prog 33 := ⟨_, Try.func33, by kernel_rfl, rfl⟩

theorem en34 : Enters Try.prog 34 := ⟨_, Try.func34, by kernel_rfl, rfl⟩

theorem ofInt_nat (m : Nat) : (BitVec.ofInt 64 (m : Int)).toNat = m % 18446744073709551616 := by
  rw [BitVec.toNat_ofInt]; omega

theorem i64_or {a b : Nat} (ha : a < 4611686018427387904) (hb : b < 4611686018427387904) : intV .or .i64 (a : Int) (b : Int) = some (.int .i64 ((a ||| b : Nat) : Int)) := by
  have e : (BitVec.ofInt IntKind.i64.bits (a : Int) ||| BitVec.ofInt IntKind.i64.bits (b : Int)).toNat = a ||| b := by
    show (BitVec.ofInt 64 (a : Int) ||| BitVec.ofInt 64 (b : Int)).toNat = a ||| b
    rw [BitVec.toNat_or, ofInt_nat, ofInt_nat, Nat.mod_eq_of_lt (by omega), Nat.mod_eq_of_lt (by omega)]
  have hlt : a ||| b < 2 ^ 62 := Nat.or_lt_two_pow (by omega) (by omega)
  rw [intV, e, IntWalk.i64_in _ (by omega)]

theorem i64_and3 (m : Nat) : intV .and .i64 (m : Int) 3 = some (.int .i64 ((m &&& 3 : Nat) : Int)) := by
  have e : (BitVec.ofInt IntKind.i64.bits (m : Int) &&& BitVec.ofInt IntKind.i64.bits 3).toNat = m &&& 3 := by
    show (BitVec.ofInt 64 (m : Int) &&& BitVec.ofInt 64 ((3 : Nat) : Int)).toNat = m &&& 3
    rw [BitVec.toNat_and, ofInt_nat, ofInt_nat]
    rw [show 3 % 18446744073709551616 = 2 ^ 2 - 1 from rfl, Nat.and_two_pow_sub_one_eq_mod, show (3 : Nat) = 2 ^ 2 - 1 from rfl, Nat.and_two_pow_sub_one_eq_mod]
    omega
  have hle : m &&& 3 ≤ 3 := Nat.and_le_right
  rw [intV, e, IntWalk.i64_in _ (by omega)]

def andn (a b : Nat) : Nat := a ^^^ (a &&& b)

theorem andn_bit (a b i : Nat) : (andn a b).testBit i = (a.testBit i && !b.testBit i) := by
  unfold andn
  rw [Nat.testBit_xor, Nat.testBit_and]
  cases a.testBit i <;> cases b.testBit i <;> rfl

theorem i64_andNot {a b : Nat} (ha : a < 4611686018427387904) (hb : b < 4611686018427387904) : intV .andNot .i64 (a : Int) (b : Int) = some (.int .i64 ((andn a b : Nat) : Int)) := by
  have e : (BitVec.ofInt IntKind.i64.bits (a : Int) &&& ~~~ BitVec.ofInt IntKind.i64.bits (b : Int)).toNat = andn a b := by
    show (BitVec.ofInt 64 (a : Int) &&& ~~~ BitVec.ofInt 64 (b : Int)).toNat = andn a b
    apply Nat.eq_of_testBit_eq
    intro i
    rw [andn_bit, BitVec.toNat_and, Nat.testBit_and, ofInt_nat, Nat.mod_eq_of_lt (by omega)]
    by_cases hi : i < 64
    · congr 1
      rw [← BitVec.getLsbD, BitVec.getLsbD_not, decide_eq_true hi, Bool.true_and, BitVec.getLsbD, ofInt_nat, Nat.mod_eq_of_lt (by omega)]
    · have : a.testBit i = false := Nat.testBit_lt_two_pow (Nat.lt_of_lt_of_le (show a < 2 ^ 62 by omega) (Nat.pow_le_pow_right (by omega) (by omega)))
      rw [this, Bool.false_and, Bool.false_and]
  have hle : andn a b < 2 ^ 62 := Nat.xor_lt_two_pow (by omega) (Nat.lt_of_le_of_lt Nat.and_le_left (by omega))
  rw [intV, e, IntWalk.i64_in _ (by omega)]

theorem i64_shr {m n : Nat} {y : Int} (h : y = (n : Int)) (hn : n ≤ 63) : shiftV .shr .i64 (m : Int) y = some (.int .i64 ((m >>> n : Nat) : Int)) := by
  subst h
  rw [shiftV, if_neg (by omega)]
  have h1 : min (n : Int).toNat IntKind.i64.bits = n := by
    have : IntKind.i64.bits = 64 := rfl
    rw [this, Int.toNat_natCast]; omega
  rw [h1, Nat.shiftRight_eq_div_pow, Int.fdiv_eq_ediv_of_nonneg _ (by exact Int.le_of_lt (Int.pow_pos (by decide)))]
  congr 2

theorem shl2 {b : Int} {n : Nat} (h : b = (n : Int)) (hn : n ≤ 61) : shiftV .shl .i64 2 b = some (.int .i64 ((2 * 2 ^ n : Nat) : Int)) := by
  subst h
  rw [shiftV, if_neg (by omega)]
  have h1 : min (n : Int).toNat IntKind.i64.bits = n := by
    have : IntKind.i64.bits = 64 := rfl
    rw [this, Int.toNat_natCast]; omega
  have h2 : 2 ^ n ≤ 2 ^ 61 := Nat.pow_le_pow_right (by omega) hn
  rw [h1, show (2 : Int) * (2 : Int) ^ n = ((2 * 2 ^ n : Nat) : Int) by simp]
  generalize 2 ^ n = m at h2
  rw [IntWalk.i64_in _ (by omega)]

def two (m s : Nat) : Nat := m >>> s &&& 3

theorem two_zero {m s : Nat} : two m s = 0 ↔ m.testBit s = false ∧ m.testBit (s + 1) = false := by
  have h : two m s = (m >>> s) % 4 := by
    unfold two
    rw [show (3 : Nat) = 2 ^ 2 - 1 from rfl, Nat.and_two_pow_sub_one_eq_mod]
  have h0 : m.testBit s = (m >>> s).testBit 0 := by rw [Nat.testBit_shiftRight, Nat.add_zero]
  have h1 : m.testBit (s + 1) = (m >>> s).testBit 1 := by rw [Nat.testBit_shiftRight]
  rw [h, h0, h1]
  generalize m >>> s = q
  rw [Nat.testBit_zero, Nat.testBit_succ, Nat.testBit_zero]
  simp only [decide_eq_false_iff_not]
  omega

def setL (n : Nat) (Q : Nat → Bool) : List Int := selTo n Q fun j => (j : Int)

theorem setL_le (n : Nat) (Q : Nat → Bool) : (setL n Q).length ≤ n := selTo_le _ _ _

theorem setL_mem {n : Nat} {Q : Nat → Bool} {a : Int} : a ∈ setL n Q ↔ (0 ≤ a ∧ a.toNat < n) ∧ Q a.toNat = true := by
  unfold setL selTo
  rw [List.mem_map]
  constructor
  · rintro ⟨j, hj, rfl⟩
    rw [List.mem_filter, List.mem_range] at hj
    exact ⟨⟨by omega, by simpa using hj.1⟩, by simpa using hj.2⟩
  · rintro ⟨⟨h0, h1⟩, h2⟩
    exact ⟨a.toNat, List.mem_filter.2 ⟨List.mem_range.2 h1, h2⟩, by omega⟩

def Rising (l : List Int) : Prop := l.Pairwise (· < ·)

theorem setL_rising (n : Nat) (Q : Nat → Bool) : Rising (setL n Q) := by
  unfold Rising setL selTo
  rw [List.pairwise_map]
  refine List.Pairwise.filter _ ?_
  exact List.pairwise_lt_range.imp (fun h => by omega)

theorem rising_ext : ∀ {l m : List Int}, Rising l → Rising m → (∀ a, a ∈ l ↔ a ∈ m) → l = m
  | [], [], _, _, _ => rfl
  | [], b :: m, _, _, h => absurd ((h b).2 List.mem_cons_self) List.not_mem_nil
  | a :: l, [], _, _, h => absurd ((h a).1 List.mem_cons_self) List.not_mem_nil
  | a :: l, b :: m, hl, hm, h => by
    unfold Rising at hl hm
    rw [List.pairwise_cons] at hl hm
    have e : a = b := by
      rcases List.mem_cons.1 ((h a).1 List.mem_cons_self) with h1 | h1
      · exact h1
      · rcases List.mem_cons.1 ((h b).2 List.mem_cons_self) with h2 | h2
        · exact h2.symm
        · have := hl.1 b h2
          have := hm.1 a h1
          omega
    subst e
    congr 1
    refine rising_ext hl.2 hm.2 fun x => ⟨fun hx => ?_, fun hx => ?_⟩
    · rcases List.mem_cons.1 ((h x).1 (List.mem_cons_of_mem _ hx)) with h1 | h1
      · have := hl.1 x hx; omega
      · exact h1
    · rcases List.mem_cons.1 ((h x).2 (List.mem_cons_of_mem _ hx)) with h1 | h1
      · have := hm.1 x hx; omega
      · exact h1

theorem setL_ext {n : Nat} {Q R : Nat → Bool} (h : ∀ j, j < n → Q j = R j) : setL n Q = setL n R :=
  rising_ext (setL_rising n Q) (setL_rising n R) fun a => by
    rw [setL_mem, setL_mem]
    constructor
    · rintro ⟨h1, h2⟩; exact ⟨h1, by rw [← h _ h1.2]; exact h2⟩
    · rintro ⟨h1, h2⟩; exact ⟨h1, by rw [h _ h1.2]; exact h2⟩

def putI (l : List Int) (n : Int) : List Int := if l.contains n then l else l.takeWhile (fun a => decide (a < n)) ++ n :: l.dropWhile (fun a => decide (a < n))

theorem putI_mem {l : List Int} {n a : Int} : a ∈ putI l n ↔ a ∈ l ∨ a = n := by
  unfold putI
  split
  · rename_i h
    constructor
    · exact .inl
    · rintro (h1 | rfl)
      · exact h1
      · exact List.contains_iff_mem.1 h
  · rw [List.mem_append, List.mem_cons]
    have e : a ∈ l ↔ a ∈ l.takeWhile (fun a => decide (a < n)) ∨ a ∈ l.dropWhile (fun a => decide (a < n)) := by
      rw [← List.mem_append, List.takeWhile_append_dropWhile]
    rw [e]
    constructor
    · rintro (h1 | h1 | h1)
      · exact .inl (.inl h1)
      · exact .inr h1
      · exact .inl (.inr h1)
    · rintro ((h1 | h1) | h1)
      · exact .inl h1
      · exact .inr (.inr h1)
      · exact .inr (.inl h1)

theorem drop_rising {n : Int} : ∀ {l : List Int}, Rising l → ¬ n ∈ l → ∀ a ∈ l.dropWhile (fun a => decide (a < n)), n < a
  | [], _, _, a, ha => by simp at ha
  | b :: l, hl, hn, a, ha => by
    unfold Rising at hl
    rw [List.pairwise_cons] at hl
    rw [List.dropWhile_cons] at ha
    split at ha
    · exact drop_rising hl.2 (fun h => hn (List.mem_cons_of_mem _ h)) a ha
    · rename_i hb
      have hb' : ¬ b < n := by simpa using hb
      have hne : n ≠ b := fun e => hn (e ▸ List.mem_cons_self)
      rcases List.mem_cons.1 ha with rfl | ha
      · omega
      · have := hl.1 a ha; omega

theorem while_lt {n : Int} : ∀ {l : List Int} {a : Int}, a ∈ l.takeWhile (fun a => decide (a < n)) → a < n
  | [], a, h => by simp at h
  | b :: l, a, h => by
    rw [List.takeWhile_cons] at h
    split at h
    · rename_i hb
      rcases List.mem_cons.1 h with rfl | h
      · simpa using hb
      · exact while_lt h
    · simp at h

theorem putI_rising {l : List Int} {n : Int} (hl : Rising l) : Rising (putI l n) := by
  unfold putI
  split
  · exact hl
  · rename_i h
    have hn : ¬ n ∈ l := fun hm => h (List.contains_iff_mem.2 hm)
    have hd := drop_rising hl hn
    unfold Rising at hl ⊢
    rw [List.pairwise_append, List.pairwise_cons]
    have h1 : (l.takeWhile (fun a => decide (a < n))).Pairwise (· < ·) := hl.sublist (List.takeWhile_sublist _)
    have h2 : (l.dropWhile (fun a => decide (a < n))).Pairwise (· < ·) := hl.sublist (List.dropWhile_sublist _)
    have h3 : ∀ a ∈ l.takeWhile (fun a => decide (a < n)), a < n := fun a ha => while_lt ha
    refine ⟨h1, ⟨hd, h2⟩, fun a ha b hb => ?_⟩
    rcases List.mem_cons.1 hb with rfl | hb
    · exact h3 a ha
    · have := h3 a ha
      have := hd b hb
      omega

theorem putI_set {n : Nat} {Q : Nat → Bool} {a : Int} (ha : 0 ≤ a ∧ a.toNat < n) : putI (setL n Q) a = setL n fun j => Q j || decide ((j : Int) = a) := by
  refine rising_ext (putI_rising (setL_rising n Q)) (setL_rising n _) fun b => ?_
  rw [putI_mem, setL_mem, setL_mem, Bool.or_eq_true, decide_eq_true_iff]
  constructor
  · rintro (⟨h1, h2⟩ | rfl)
    · exact ⟨h1, .inl h2⟩
    · exact ⟨ha, .inr (by omega)⟩
  · rintro ⟨h1, h2 | h2⟩
    · exact .inl ⟨h1, h2⟩
    · exact .inr (by omega)

theorem hasI_set {n : Nat} {Q : Nat → Bool} {a : Int} (ha : 0 ≤ a ∧ a.toNat < n) : hasI (setL n Q) a = Q a.toNat := by
  unfold hasI
  rw [Bool.eq_iff_iff, List.any_eq_true]
  constructor
  · rintro ⟨b, hb, h⟩
    rw [decide_eq_true_iff] at h
    subst h
    exact (setL_mem.1 hb).2
  · intro h
    exact ⟨a, setL_mem.2 ⟨ha, h⟩, by simp⟩

theorem take_while {l : List Int} {n : Int} : ∀ {k : Nat}, k ≤ l.length → (∀ j, j < k → l.getD j default < n) → (k < l.length → ¬ l.getD k default < n) → l.takeWhile (fun a => decide (a < n)) = l.take k ∧ l.dropWhile (fun a => decide (a < n)) = l.drop k := by
  induction l with
  | nil => intro k _ _ _; simp
  | cons b l ih =>
    intro k hk h1 h2
    cases k with
    | zero =>
      have h3 := h2 (by simp)
      have h4 : ¬ b < n := by simpa using h3
      rw [List.takeWhile_cons, List.dropWhile_cons]
      simp [h4]
    | succ k =>
      have h3 : b < n := by simpa using h1 0 (by omega)
      obtain ⟨e1, e2⟩ := ih (k := k) (by simpa using hk) (fun j hj => by simpa using h1 (j + 1) (by omega)) (fun hl => by simpa using h2 (by simpa using hl))
      rw [List.takeWhile_cons, List.dropWhile_cons]
      simp [h3, e1, e2]

theorem putI_same {l : List Int} {n : Int} {k : Nat} (hk : k < l.length) (h : l.getD k default = n) : l = putI l n := by
  unfold putI
  rw [if_pos (List.contains_iff_mem.2 (h ▸ getD_mem hk))]

theorem putI_new {l : List Int} {n : Int} {k : Nat} (hr : Rising l) (hk : k ≤ l.length) (h1 : ∀ j, j < k → l.getD j default < n) (h2 : k < l.length → ¬ l.getD k default < n) (h3 : k < l.length → ¬ l.getD k default = n) : l.take k ++ [n] ++ l.drop k = putI l n := by
  obtain ⟨e1, e2⟩ := take_while hk h1 h2
  unfold putI
  rw [if_neg, e1, e2]
  · simp
  · intro hc
    have hm := List.contains_iff_mem.1 hc
    obtain ⟨j, hj, e⟩ := List.mem_iff_getElem.1 hm
    have eg : l.getD j default = n := by simp [hj, e]
    by_cases hlt : j < k
    · have := h1 j hlt; omega
    · by_cases heq : j = k
      · subst heq; exact h3 hj eg
      · have h4 := h2 (by omega)
        unfold Rising at hr
        have := List.pairwise_iff_getElem.1 hr k j (by omega) hj (by omega)
        rw [e] at this
        have e5 : l.getD k default = l[k] := by simp [show k < l.length by omega]
        rw [e5] at h4; omega

theorem sp_spec_l1Has (xs : List Int) (v : Int) (hn : xs.length ≤ 1048576) : Sp Try.prog 143 [(.slice false 1 (xs.map (fun n : Int => D.int .i64 n))), (.int .i64 v)] [.any, .any] (.bool (hasI xs v)) := by
  refine Sp_intro (lend := true) Try.func143 rfl rfl rfl (fun _ => rfl) (fun c hc hX => ?_)
  refine T_seq ?_
  refine T_region hc ?_
  refine Ch.step (v := (.d (.bool false))) rfl (.pure (.assign _ rfl rfl)) rfl rfl ?_
  refine Ch.nil ?_
  refine T_seq ?_
  refine T_seq ?_
  refine T_region hc ?_
  refine Ch.step (v := (.d (.slice false 1 (xs.map (fun n : Int => D.int .i64 n))))) rfl (.pure (.move _ rfl rfl)) rfl rfl ?_
  refine Ch.step (v := (.d (.int .i64 ((xs.length : Nat) : Int)))) rfl (.pure (.len _ _ 3 rfl Try.underlying36 (.sh _ _) (by simp))) rfl rfl ?_
  refine Ch.step (v := (.d (.int .i64 0))) rfl (.pure (.move _ rfl rfl)) rfl rfl ?_
  refine Ch.nil ?_
  refine T_block ?_
  refine T_loop (ι := Nat) (fun k => { n := 17, sl := [(1, (.d (.int .i64 v))), (7, (.d (.slice false 1 (xs.map (fun n : Int => D.int .i64 n))))), (8, (.d (.int .i64 ((xs.length : Nat) : Int)))), (9, (.d (.int .i64 ((k : Nat) : Int))))], hp := [], pin := [] }) (fun k => k ≤ xs.length ∧ ∀ j, j < k → decide (xs.getD j default = v) = false) (fun k => xs.length - k) ⟨0, ⟨by omega, fun j hj => by omega⟩, (Wk.of rfl rfl (And.intro rfl (And.intro rfl (And.intro rfl (And.intro (vI (by first | rfl | omega | (simp; done) | (simp; omega))) trivial)))) trivial)⟩ (fun k hp0 => ?_)
  refine T_seq ?_
  refine T_region hc ?_
  refine Ch.step (v := (.d (.bool (decide (((k : Nat) : Int) < ((xs.length : Nat) : Int)))))) rfl (.pure (.int _ _ _ _ _ rfl rfl rfl rfl)) rfl rfl ?_
  refine Ch.nil ?_
  refine T_seq ?_
  refine T_cond (b := (decide (((k : Nat) : Int) < ((xs.length : Nat) : Int)))) rfl (fun h1 => ?_) (fun h1 => ?_)
  · replace h1 := of_decide_eq_true h1
    refine T_skip ?_
    refine T_seq ?_
    refine T_block ?_
    refine T_seq ?_
    refine T_region hc ?_
    refine Ch.step (v := (.d (.ref (.int .i64 (xs.getD k default))))) rfl (.pure (.idx _ _ _ 3 (k) rfl Try.underlying36 sz3 rfl rfl rfl (get_map _ (by first | omega | (simp only [List.length_map, List.length_append, List.length_take, List.length_drop, List.length_cons, List.length_nil]; omega) | (simp; omega) | (simp; done))))) rfl rfl ?_
    refine Ch.step (v := (.d (.int .i64 (xs.getD k default)))) rfl (.pure (.loadRef1 _ _ rfl ag3 rfl rfl)) rfl rfl ?_
    refine Ch.step (v := (.d (.int .i64 (xs.getD k default)))) rfl (.pure (.assign _ rfl rfl)) rfl rfl ?_
    refine Ch.nil ?_
    refine T_seq ?_
    refine T_region hc ?_
    refine Ch.step (v := (.d (.int .i64 (xs.getD k default)))) rfl (.pure (.move _ rfl rfl)) rfl rfl ?_
    refine Ch.step (v := (.d (.int .i64 v))) rfl (.pure (.move _ rfl rfl)) rfl rfl ?_
    refine Ch.step (v := (.d (.bool (decide ((xs.getD k default) = v))))) rfl (.pure (.int _ _ _ _ _ rfl rfl rfl rfl)) rfl rfl ?_
    refine Ch.nil ?_
    refine T_cond (b := (decide ((xs.getD k default) = v))) rfl (fun h2 => ?_) (fun h2 => ?_)
    · replace h2 := of_decide_eq_true h2
      refine T_seq ?_
      refine T_region hc ?_
      refine Ch.step (v := (.d (.bool true))) rfl (.pure (.assign _ rfl rfl)) rfl rfl ?_
      refine Ch.nil ?_
      refine T_ret ?_
      refine And.intro (.inr rfl) ?_
      exact Exists.intro [(.d (.bool true))] (Exists.intro [] (Exists.intro [] (And.intro (.cons (.tmp 4 rfl) .nil) (And.intro (.cons (.any _) (.cons (.any _) .nil)) (And.intro (Exp.of (congrArg D.bool (by exact any_yes default k (by omega) (decide_eq_true (by assumption)))) (.d _)) (And.intro rfl rfl))))))
    · replace h2 := of_decide_eq_false h2
      refine T_skip ?_
      refine T_region hc ?_
      refine Ch.step (v := (.d (.int .i64 (((k : Nat) : Int) + 1)))) rfl (.pure (.int _ _ _ _ _ rfl rfl rfl (intV_add (by first | omega | (simp only [List.length_map, List.length_append, List.length_take, List.length_drop, List.length_cons, List.length_nil]; omega) | (simp; omega) | (simp; done)) (by first | omega | (simp only [List.length_map, List.length_append, List.length_take, List.length_drop, List.length_cons, List.length_nil]; omega) | (simp; omega) | (simp; done))))) rfl rfl ?_
      refine Ch.step (v := (.d (.int .i64 (((k : Nat) : Int) + 1)))) rfl (.pure (.move _ rfl rfl)) rfl rfl ?_
      refine Ch.nil ?_
      refine Exists.intro (k + 1) (And.intro ⟨by omega, upto_succ hp0.2 (decide_eq_false (by assumption))⟩ (And.intro (by first | omega | (dsimp only; omega)) (Wk.of rfl rfl (And.intro rfl (And.intro rfl (And.intro rfl (And.intro (vI (by first | rfl | omega | (simp; done) | (simp; omega))) trivial)))) trivial)))
  · replace h1 := of_decide_eq_false h1
    refine T_exit ?_
    refine T_seq ?_
    refine T_region hc ?_
    refine Ch.step (v := (.d (.bool false))) rfl (.pure (.assign _ rfl rfl)) rfl rfl ?_
    refine Ch.nil ?_
    refine T_ret ?_
    refine And.intro (.inr rfl) ?_
    exact Exists.intro [(.d (.bool false))] (Exists.intro [] (Exists.intro [] (And.intro (.cons (.tmp 4 rfl) .nil) (And.intro (.cons (.any _) (.cons (.any _) .nil)) (And.intro (Exp.of (congrArg D.bool (by exact any_no default (fun j hj => hp0.2 j (by omega)))) (.d _)) (And.intro rfl rfl))))))

theorem sp_spec_l1Put (xs : List Int) (n : Int) (hn : xs.length ≤ 1048576) (hr : Rising xs) : Sp Try.prog 144 [(.slice true 1 (xs.map (fun n : Int => D.int .i64 n))), (.int .i64 n)] [.any, .any] (.slice true 1 ((putI xs n).map (fun n : Int => D.int .i64 n))) := by
  refine Sp_intro (lend := false) Try.func144 rfl rfl rfl (fun h => nomatch h) (fun c hc hX => ?_)
  refine T_seq ?_
  refine T_region hc ?_
  refine Ch.step (v := (.c (.slice none 0 0))) rfl (.pure (.assign _ rfl rfl)) rfl rfl ?_
  refine Ch.nil ?_
  refine T_seq ?_
  refine T_region hc ?_
  refine Ch.step (v := (.d (.int .i64 0))) rfl (.pure (.assign _ rfl rfl)) rfl rfl ?_
  refine Ch.nil ?_
  refine T_seq ?_
  refine T_block ?_
  refine T_loop (ι := Nat) (fun k => { n := 48, sl := [(0, (.row 1)), (1, (.d (.int .i64 n))), (5, (.d (.int .i64 ((k : Nat) : Int))))], hp := [(1, (some (.row 1 (xs.map (fun n : Int => D.int .i64 n)))))], pin := [1] }) (fun k => k ≤ xs.length ∧ ∀ j, j < k → xs.getD j default < n) (fun k => xs.length - k) ⟨0, ⟨by omega, fun j hj => by omega⟩, (Wk.of rfl rfl (And.intro rfl (And.intro rfl (And.intro (vI (by first | rfl | omega | (simp; done) | (simp; omega))) trivial))) (And.intro rfl trivial))⟩ (fun k hp0 => ?_)
  refine T_seq ?_
  refine T_seq ?_
  refine T_region hc ?_
  refine Ch.step (v := (.d (.int .i64 ((k : Nat) : Int)))) rfl (.pure (.move _ rfl rfl)) rfl rfl ?_
  refine Ch.step (v := (.row 1)) rfl (.pure (.move _ rfl rfl)) rfl rfl ?_
  refine Ch.step (v := (.d (.int .i64 ((xs.length : Nat) : Int)))) rfl (.pure (.len _ _ 3 rfl Try.underlying36 (.row rfl) (by simp))) rfl rfl ?_
  refine Ch.step (v := (.d (.bool (decide (((k : Nat) : Int) < ((xs.length : Nat) : Int)))))) rfl (.pure (.int _ _ _ _ _ rfl rfl rfl rfl)) rfl rfl ?_
  refine Ch.step (v := (.d (.bool (decide (((k : Nat) : Int) < ((xs.length : Nat) : Int)))))) rfl (.pure (.move _ rfl rfl)) rfl rfl ?_
  cases h1 : (decide (((k : Nat) : Int) < ((xs.length : Nat) : Int))) with
  | true =>
    replace h1 := of_decide_eq_true h1
    refine Ch.step (v := (.row 1)) rfl (.pure (.move _ rfl rfl)) rfl rfl ?_
    refine Ch.step (v := (.d (.int .i64 ((k : Nat) : Int)))) rfl (.pure (.move _ rfl rfl)) rfl rfl ?_
    refine Ch.step (v := (.el 1 1 k 0)) rfl (.pure (.idxRow _ _ _ 3 (k) rfl Try.underlying36 sz3 rfl rfl rfl rfl (by first | omega | (simp only [List.length_map, List.length_set]; omega) | (simp; omega)))) rfl rfl ?_
    refine Ch.step (v := (.d (.int .i64 (xs.getD k default)))) rfl (.pure (.loadEl1 _ _ rfl ag3 rfl rfl (get_map _ (by first | omega | (simp only [List.length_map, List.length_append, List.length_take, List.length_drop, List.length_cons, List.length_nil]; omega) | (simp; omega) | (simp; done))) rfl rfl rfl)) rfl rfl ?_
    refine Ch.step (v := (.d (.int .i64 n))) rfl (.pure (.move _ rfl rfl)) rfl rfl ?_
    refine Ch.step (v := (.d (.bool (decide ((xs.getD k default) < n))))) rfl (.pure (.int _ _ _ _ _ rfl rfl rfl rfl)) rfl rfl ?_
    refine Ch.step (v := (.d (.bool (decide ((xs.getD k default) < n))))) rfl (.pure (.pickT _ _ _ rfl rfl rfl)) rfl rfl ?_
    refine Ch.nil ?_
    refine T_cond (b := (decide ((xs.getD k default) < n))) rfl (fun h2 => ?_) (fun h2 => ?_)
    · replace h2 := of_decide_eq_true h2
      refine T_skip ?_
      refine T_block ?_
      refine T_region hc ?_
      refine Ch.step (v := (.d (.int .i64 ((k : Nat) : Int)))) rfl (.pure (.move _ rfl rfl)) rfl rfl ?_
      refine Ch.step (v := (.d (.int .i64 (((k : Nat) : Int) + 1)))) rfl (.pure (.int _ _ _ _ _ rfl rfl rfl (intV_add (by first | omega | (simp only [List.length_map, List.length_append, List.length_take, List.length_drop, List.length_cons, List.length_nil]; omega) | (simp; omega) | (simp; done)) (by first | omega | (simp only [List.length_map, List.length_append, List.length_take, List.length_drop, List.length_cons, List.length_nil]; omega) | (simp; omega) | (simp; done))))) rfl rfl ?_
      refine Ch.step (v := (.d (.int .i64 (((k : Nat) : Int) + 1)))) rfl (.pure (.assign _ rfl rfl)) rfl rfl ?_
      refine Ch.nil ?_
      refine Exists.intro (k + 1) (And.intro ⟨by omega, upto_succ hp0.2 (by assumption)⟩ (And.intro (by first | omega | (dsimp only; omega)) (Wk.of rfl rfl (And.intro rfl (And.intro rfl (And.intro (vI (by first | rfl | omega | (simp; done) | (simp; omega))) trivial))) (And.intro rfl trivial))))
    · replace h2 := of_decide_eq_false h2
      refine T_exit ?_
      refine T_seq ?_
      refine T_seq ?_
      refine T_region hc ?_
      refine Ch.step (v := (.d (.int .i64 ((k : Nat) : Int)))) rfl (.pure (.move _ rfl rfl)) rfl rfl ?_
      refine Ch.step (v := (.row 1)) rfl (.pure (.move _ rfl rfl)) rfl rfl ?_
      refine Ch.step (v := (.d (.int .i64 ((xs.length : Nat) : Int)))) rfl (.pure (.len _ _ 3 rfl Try.underlying36 (.row rfl) (by simp))) rfl rfl ?_
      refine Ch.step (v := (.d (.bool (decide (((k : Nat) : Int) < ((xs.length : Nat) : Int)))))) rfl (.pure (.int _ _ _ _ _ rfl rfl rfl rfl)) rfl rfl ?_
      refine Ch.step (v := (.d (.bool (decide (((k : Nat) : Int) < ((xs.length : Nat) : Int)))))) rfl (.pure (.move _ rfl rfl)) rfl rfl ?_
      cases h3 : (decide (((k : Nat) : Int) < ((xs.length : Nat) : Int))) with
      | true =>
        replace h3 := of_decide_eq_true h3
        refine Ch.step (v := (.row 1)) rfl (.pure (.move _ rfl rfl)) rfl rfl ?_
        refine Ch.step (v := (.d (.int .i64 ((k : Nat) : Int)))) rfl (.pure (.move _ rfl rfl)) rfl rfl ?_
        refine Ch.step (v := (.el 1 1 k 0)) rfl (.pure (.idxRow _ _ _ 3 (k) rfl Try.underlying36 sz3 rfl rfl rfl rfl (by first | omega | (simp only [List.length_map, List.length_set]; omega) | (simp; omega)))) rfl rfl ?_
        refine Ch.step (v := (.d (.int .i64 (xs.getD k default)))) rfl (.pure (.loadEl1 _ _ rfl ag3 rfl rfl (get_map _ (by first | omega | (simp only [List.length_map, List.length_append, List.length_take, List.length_drop, List.length_cons, List.length_nil]; omega) | (simp; omega) | (simp; done))) rfl rfl rfl)) rfl rfl ?_
        refine Ch.step (v := (.d (.int .i64 n))) rfl (.pure (.move _ rfl rfl)) rfl rfl ?_
        refine Ch.step (v := (.d (.bool (decide ((xs.getD k default) = n))))) rfl (.pure (.int _ _ _ _ _ rfl rfl rfl rfl)) rfl rfl ?_
        refine Ch.step (v := (.d (.bool (decide ((xs.getD k default) = n))))) rfl (.pure (.pickT _ _ _ rfl rfl rfl)) rfl rfl ?_
        refine Ch.nil ?_
        refine T_cond (b := (decide ((xs.getD k default) = n))) rfl (fun h4 => ?_) (fun h4 => ?_)
        · replace h4 := of_decide_eq_true h4
          refine T_seq ?_
          refine T_region hc ?_
          refine Ch.step (v := (.row 1)) rfl (.pure (.move _ rfl rfl)) rfl rfl ?_
          refine Ch.step (v := (.row 1)) rfl (.pure (.assign _ rfl rfl)) rfl rfl ?_
          refine Ch.nil ?_
          refine T_ret ?_
          refine And.intro (.inr rfl) ?_
          exact Exists.intro [(.row 1)] (Exists.intro [] (Exists.intro [1] (And.intro (.cons (.tmp 4 rfl) .nil) (And.intro (.cons (.any _) (.cons (.any _) .nil)) (And.intro (Exp.of (congrArg (D.slice true 1) (by first | (exact congrArg (List.map _) (putI_same (k := k) (by omega) (by assumption))) | (rw [← putI_new hr (k := k) (by omega) hp0.2 (fun hl => by first | assumption | (intro e; omega) | omega) (fun hl => by first | assumption | (intro e; omega) | omega)]; simp only [List.map_append, List.map_take, List.map_drop]; rfl))) (.row rfl)) (And.intro rfl rfl))))))
        · replace h4 := of_decide_eq_false h4
          refine T_skip ?_
          refine T_seq ?_
          refine T_region hc ?_
          refine Ch.step (v := (.row 34000)) rfl (.slice 34000 _ 3 _ rfl sty36 (xs := []) rfl rfl .nil rfl rfl (by decide)) rfl rfl ?_
          refine Ch.step (v := (.row 1)) rfl (.pure (.move _ rfl rfl)) rfl rfl ?_
          refine Ch.step (v := (.d (.int .i64 ((k : Nat) : Int)))) rfl (.pure (.move _ rfl rfl)) rfl rfl ?_
          refine Ch.step (v := (.sub 1 1 0 k)) rfl (.pure (.subRow _ _ _ _ 3 (0) (k) rfl Try.underlying36 sz3 rfl rfl (bndN rfl) (bndS rfl rfl) (by first | omega | (simp only [List.length_map, List.length_append, List.length_take, List.length_drop, List.length_cons, List.length_nil]; omega) | (simp; omega) | (simp; done)) (by first | omega | (simp only [List.length_map, List.length_append, List.length_take, List.length_drop, List.length_cons, List.length_nil]; omega) | (simp; omega) | (simp; done)))) rfl rfl ?_
          refine Ch.step (v := (.row 38000)) rfl (.append 38000 _ _ _ 3 rfl sty36 (by decide) (.rowK rfl) (.inr ⟨_, rfl, rfl⟩) (.sub (ys := ((xs.take k).map (fun n : Int => D.int .i64 n))) rfl (noUs_map (fun _ => rfl) _) (by first | omega | (simp only [List.length_map, List.length_append, List.length_take, List.length_drop, List.length_cons, List.length_nil]; omega) | (simp; omega) | (simp; done)) (by first | omega | (simp only [List.length_map, List.length_append, List.length_take, List.length_drop, List.length_cons, List.length_nil]; omega) | (simp; omega) | (simp; done)) (by first | (rw [List.map_drop, List.take_of_length_le (by simp)]; done) | (simp [List.map_take, List.map_drop]; done))) rfl (by first | omega | (simp only [List.length_append, List.length_map, List.length_cons, List.length_nil]; omega) | (simp; omega) | (simp; done))) rfl rfl ?_
          refine Ch.step (v := (.row 38000)) rfl (.pure (.assign _ rfl rfl)) rfl rfl ?_
          refine Ch.nil ?_
          refine T_seq ?_
          refine T_region hc ?_
          refine Ch.step (v := (.row 38000)) rfl (.pure (.move _ rfl rfl)) rfl rfl ?_
          refine Ch.step (v := (.d (.int .i64 n))) rfl (.pure (.move _ rfl rfl)) rfl rfl ?_
          refine Ch.step (v := (.row 41000)) rfl (.slice 41000 _ 3 _ rfl sty36 (xs := [.tmp 40]) rfl rfl (.cons (.d _) .nil) rfl rfl (by decide)) rfl rfl ?_
          refine Ch.step (v := (.row 42000)) rfl (.append 42000 _ _ _ 3 rfl sty36 (by decide) (.rowK rfl) (.inr ⟨_, rfl, rfl⟩) (.row rfl rfl) rfl (by first | omega | (simp only [List.length_append, List.length_map, List.length_cons, List.length_nil]; omega) | (simp; omega) | (simp; done))) rfl rfl ?_
          refine Ch.step (v := (.row 42000)) rfl (.pure (.assign _ rfl rfl)) rfl rfl ?_
          refine Ch.nil ?_
          refine T_seq ?_
          refine T_region hc ?_
          refine Ch.step (v := (.row 42000)) rfl (.pure (.move _ rfl rfl)) rfl rfl ?_
          refine Ch.step (v := (.row 1)) rfl (.pure (.move _ rfl rfl)) rfl rfl ?_
          refine Ch.step (v := (.d (.int .i64 ((k : Nat) : Int)))) rfl (.pure (.move _ rfl rfl)) rfl rfl ?_
          refine Ch.step (v := (.sub 1 1 k xs.length)) rfl (.pure (.subRow _ _ _ _ 3 (k) (xs.length) rfl Try.underlying36 sz3 rfl rfl (bndS rfl rfl) (bndN (by simp)) (by first | omega | (simp only [List.length_map, List.length_append, List.length_take, List.length_drop, List.length_cons, List.length_nil]; omega) | (simp; omega) | (simp; done)) (by first | omega | (simp only [List.length_map, List.length_append, List.length_take, List.length_drop, List.length_cons, List.length_nil]; omega) | (simp; omega) | (simp; done)))) rfl rfl ?_
          refine Ch.step (v := (.row 47000)) rfl (.append 47000 _ _ _ 3 rfl sty36 (by decide) (.rowK rfl) (.inr ⟨_, rfl, rfl⟩) (.sub (ys := ((xs.drop k).map (fun n : Int => D.int .i64 n))) rfl (noUs_map (fun _ => rfl) _) (by first | omega | (simp only [List.length_map, List.length_append, List.length_take, List.length_drop, List.length_cons, List.length_nil]; omega) | (simp; omega) | (simp; done)) (by first | omega | (simp only [List.length_map, List.length_append, List.length_take, List.length_drop, List.length_cons, List.length_nil]; omega) | (simp; omega) | (simp; done)) (by first | (rw [List.map_drop, List.take_of_length_le (by simp)]; done) | (simp [List.map_take, List.map_drop]; done))) rfl (by first | omega | (simp only [List.length_append, List.length_map, List.length_cons, List.length_nil]; omega) | (simp; omega) | (simp; done))) rfl rfl ?_
          refine Ch.step (v := (.row 47000)) rfl (.pure (.assign _ rfl rfl)) rfl rfl ?_
          refine Ch.nil ?_
          refine T_ret ?_
          refine And.intro (.inr rfl) ?_
          exact Exists.intro [(.row 47000)] (Exists.intro [] (Exists.intro [47000] (And.intro (.cons (.tmp 4 rfl) .nil) (And.intro (.cons (.any _) (.cons (.any _) .nil)) (And.intro (Exp.of (congrArg (D.slice true 1) (by first | (exact congrArg (List.map _) (putI_same (k := k) (by omega) (by assumption))) | (rw [← putI_new hr (k := k) (by omega) hp0.2 (fun hl => by first | assumption | (intro e; omega) | omega) (fun hl => by first | assumption | (intro e; omega) | omega)]; simp only [List.map_append, List.map_take, List.map_drop]; rfl))) (.row rfl)) (And.intro rfl rfl))))))
      | false =>
        replace h3 := of_decide_eq_false h3
        refine Ch.skip rfl rfl ?_
        refine Ch.skip rfl rfl ?_
        refine Ch.skip rfl rfl ?_
        refine Ch.skip rfl rfl ?_
        refine Ch.skip rfl rfl ?_
        refine Ch.skip rfl rfl ?_
        refine Ch.step (v := (.d (.bool false))) rfl (.pure (.pickF _ _ _ rfl rfl rfl)) rfl rfl ?_
        refine Ch.nil ?_
        refine T_cond (b := false) rfl (fun h => nomatch h) (fun _ => ?_)
        refine T_skip ?_
        refine T_seq ?_
        refine T_region hc ?_
        refine Ch.step (v := (.row 34000)) rfl (.slice 34000 _ 3 _ rfl sty36 (xs := []) rfl rfl .nil rfl rfl (by decide)) rfl rfl ?_
        refine Ch.step (v := (.row 1)) rfl (.pure (.move _ rfl rfl)) rfl rfl ?_
        refine Ch.step (v := (.d (.int .i64 ((k : Nat) : Int)))) rfl (.pure (.move _ rfl rfl)) rfl rfl ?_
        refine Ch.step (v := (.sub 1 1 0 k)) rfl (.pure (.subRow _ _ _ _ 3 (0) (k) rfl Try.underlying36 sz3 rfl rfl (bndN rfl) (bndS rfl rfl) (by first | omega | (simp only [List.length_map, List.length_append, List.length_take, List.length_drop, List.length_cons, List.length_nil]; omega) | (simp; omega) | (simp; done)) (by first | omega | (simp only [List.length_map, List.length_append, List.length_take, List.length_drop, List.length_cons, List.length_nil]; omega) | (simp; omega) | (simp; done)))) rfl rfl ?_
        refine Ch.step (v := (.row 38000)) rfl (.append 38000 _ _ _ 3 rfl sty36 (by decide) (.rowK rfl) (.inr ⟨_, rfl, rfl⟩) (.sub (ys := ((xs.take k).map (fun n : Int => D.int .i64 n))) rfl (noUs_map (fun _ => rfl) _) (by first | omega | (simp only [List.length_map, List.length_append, List.length_take, List.length_drop, List.length_cons, List.length_nil]; omega) | (simp; omega) | (simp; done)) (by first | omega | (simp only [List.length_map, List.length_append, List.length_take, List.length_drop, List.length_cons, List.length_nil]; omega) | (simp; omega) | (simp; done)) (by first | (rw [List.map_drop, List.take_of_length_le (by simp)]; done) | (simp [List.map_take, List.map_drop]; done))) rfl (by first | omega | (simp only [List.length_append, List.length_map, List.length_cons, List.length_nil]; omega) | (simp; omega) | (simp; done))) rfl rfl ?_
        refine Ch.step (v := (.row 38000)) rfl (.pure (.assign _ rfl rfl)) rfl rfl ?_
        refine Ch.nil ?_
        refine T_seq ?_
        refine T_region hc ?_
        refine Ch.step (v := (.row 38000)) rfl (.pure (.move _ rfl rfl)) rfl rfl ?_
        refine Ch.step (v := (.d (.int .i64 n))) rfl (.pure (.move _ rfl rfl)) rfl rfl ?_
        refine Ch.step (v := (.row 41000)) rfl (.slice 41000 _ 3 _ rfl sty36 (xs := [.tmp 40]) rfl rfl (.cons (.d _) .nil) rfl rfl (by decide)) rfl rfl ?_
        refine Ch.step (v := (.row 42000)) rfl (.append 42000 _ _ _ 3 rfl sty36 (by decide) (.rowK rfl) (.inr ⟨_, rfl, rfl⟩) (.row rfl rfl) rfl (by first | omega | (simp only [List.length_append, List.length_map, List.length_cons, List.length_nil]; omega) | (simp; omega) | (simp; done))) rfl rfl ?_
        refine Ch.step (v := (.row 42000)) rfl (.pure (.assign _ rfl rfl)) rfl rfl ?_
        refine Ch.nil ?_
        refine T_seq ?_
        refine T_region hc ?_
        refine Ch.step (v := (.row 42000)) rfl (.pure (.move _ rfl rfl)) rfl rfl ?_
        refine Ch.step (v := (.row 1)) rfl (.pure (.move _ rfl rfl)) rfl rfl ?_
        refine Ch.step (v := (.d (.int .i64 ((k : Nat) : Int)))) rfl (.pure (.move _ rfl rfl)) rfl rfl ?_
        refine Ch.step (v := (.sub 1 1 k xs.length)) rfl (.pure (.subRow _ _ _ _ 3 (k) (xs.length) rfl Try.underlying36 sz3 rfl rfl (bndS rfl rfl) (bndN (by simp)) (by first | omega | (simp only [List.length_map, List.length_append, List.length_take, List.length_drop, List.length_cons, List.length_nil]; omega) | (simp; omega) | (simp; done)) (by first | omega | (simp only [List.length_map, List.length_append, List.length_take, List.length_drop, List.length_cons, List.length_nil]; omega) | (simp; omega) | (simp; done)))) rfl rfl ?_
        refine Ch.step (v := (.row 47000)) rfl (.append 47000 _ _ _ 3 rfl sty36 (by decide) (.rowK rfl) (.inr ⟨_, rfl, rfl⟩) (.sub (ys := ((xs.drop k).map (fun n : Int => D.int .i64 n))) rfl (noUs_map (fun _ => rfl) _) (by first | omega | (simp only [List.length_map, List.length_append, List.length_take, List.length_drop, List.length_cons, List.length_nil]; omega) | (simp; omega) | (simp; done)) (by first | omega | (simp only [List.length_map, List.length_append, List.length_take, List.length_drop, List.length_cons, List.length_nil]; omega) | (simp; omega) | (simp; done)) (by first | (rw [List.map_drop, List.take_of_length_le (by simp)]; done) | (simp [List.map_take, List.map_drop]; done))) rfl (by first | omega | (simp only [List.length_append, List.length_map, List.length_cons, List.length_nil]; omega) | (simp; omega) | (simp; done))) rfl rfl ?_
        refine Ch.step (v := (.row 47000)) rfl (.pure (.assign _ rfl rfl)) rfl rfl ?_
        refine Ch.nil ?_
        refine T_ret ?_
        refine And.intro (.inr rfl) ?_
        exact Exists.intro [(.row 47000)] (Exists.intro [] (Exists.intro [47000] (And.intro (.cons (.tmp 4 rfl) .nil) (And.intro (.cons (.any _) (.cons (.any _) .nil)) (And.intro (Exp.of (congrArg (D.slice true 1) (by first | (exact congrArg (List.map _) (putI_same (k := k) (by omega) (by assumption))) | (rw [← putI_new hr (k := k) (by omega) hp0.2 (fun hl => by first | assumption | (intro e; omega) | omega) (fun hl => by first | assumption | (intro e; omega) | omega)]; simp only [List.map_append, List.map_take, List.map_drop]; rfl))) (.row rfl)) (And.intro rfl rfl))))))
  | false =>
    replace h1 := of_decide_eq_false h1
    refine Ch.skip rfl rfl ?_
    refine Ch.skip rfl rfl ?_
    refine Ch.skip rfl rfl ?_
    refine Ch.skip rfl rfl ?_
    refine Ch.skip rfl rfl ?_
    refine Ch.skip rfl rfl ?_
    refine Ch.step (v := (.d (.bool false))) rfl (.pure (.pickF _ _ _ rfl rfl rfl)) rfl rfl ?_
    refine Ch.nil ?_
    refine T_cond (b := false) rfl (fun h => nomatch h) (fun _ => ?_)
    refine T_exit ?_
    refine T_seq ?_
    refine T_seq ?_
    refine T_region hc ?_
    refine Ch.step (v := (.d (.int .i64 ((k : Nat) : Int)))) rfl (.pure (.move _ rfl rfl)) rfl rfl ?_
    refine Ch.step (v := (.row 1)) rfl (.pure (.move _ rfl rfl)) rfl rfl ?_
    refine Ch.step (v := (.d (.int .i64 ((xs.length : Nat) : Int)))) rfl (.pure (.len _ _ 3 rfl Try.underlying36 (.row rfl) (by simp))) rfl rfl ?_
    refine Ch.step (v := (.d (.bool (decide (((k : Nat) : Int) < ((xs.length : Nat) : Int)))))) rfl (.pure (.int _ _ _ _ _ rfl rfl rfl rfl)) rfl rfl ?_
    refine Ch.step (v := (.d (.bool (decide (((k : Nat) : Int) < ((xs.length : Nat) : Int)))))) rfl (.pure (.move _ rfl rfl)) rfl rfl ?_
    cases h5 : (decide (((k : Nat) : Int) < ((xs.length : Nat) : Int))) with
    | true =>
      replace h5 := of_decide_eq_true h5
      refine Ch.step (v := (.row 1)) rfl (.pure (.move _ rfl rfl)) rfl rfl ?_
      refine Ch.step (v := (.d (.int .i64 ((k : Nat) : Int)))) rfl (.pure (.move _ rfl rfl)) rfl rfl ?_
      refine Ch.step (v := (.el 1 1 k 0)) rfl (.pure (.idxRow _ _ _ 3 (k) rfl Try.underlying36 sz3 rfl rfl rfl rfl (by first | omega | (simp only [List.length_map, List.length_set]; omega) | (simp; omega)))) rfl rfl ?_
      refine Ch.step (v := (.d (.int .i64 (xs.getD k default)))) rfl (.pure (.loadEl1 _ _ rfl ag3 rfl rfl (get_map _ (by first | omega | (simp only [List.length_map, List.length_append, List.length_take, List.length_drop, List.length_cons, List.length_nil]; omega) | (simp; omega) | (simp; done))) rfl rfl rfl)) rfl rfl ?_
      refine Ch.step (v := (.d (.int .i64 n))) rfl (.pure (.move _ rfl rfl)) rfl rfl ?_
      refine Ch.step (v := (.d (.bool (decide ((xs.getD k default) = n))))) rfl (.pure (.int _ _ _ _ _ rfl rfl rfl rfl)) rfl rfl ?_
      refine Ch.step (v := (.d (.bool (decide ((xs.getD k default) = n))))) rfl (.pure (.pickT _ _ _ rfl rfl rfl)) rfl rfl ?_
      refine Ch.nil ?_
      refine T_cond (b := (decide ((xs.getD k default) = n))) rfl (fun h6 => ?_) (fun h6 => ?_)
      · replace h6 := of_decide_eq_true h6
        refine T_seq ?_
        refine T_region hc ?_
        refine Ch.step (v := (.row 1)) rfl (.pure (.move _ rfl rfl)) rfl rfl ?_
        refine Ch.step (v := (.row 1)) rfl (.pure (.assign _ rfl rfl)) rfl rfl ?_
        refine Ch.nil ?_
        refine T_ret ?_
        refine And.intro (.inr rfl) ?_
        exact Exists.intro [(.row 1)] (Exists.intro [] (Exists.intro [1] (And.intro (.cons (.tmp 4 rfl) .nil) (And.intro (.cons (.any _) (.cons (.any _) .nil)) (And.intro (Exp.of (congrArg (D.slice true 1) (by first | (exact congrArg (List.map _) (putI_same (k := k) (by omega) (by assumption))) | (rw [← putI_new hr (k := k) (by omega) hp0.2 (fun hl => by first | assumption | (intro e; omega) | omega) (fun hl => by first | assumption | (intro e; omega) | omega)]; simp only [List.map_append, List.map_take, List.map_drop]; rfl))) (.row rfl)) (And.intro rfl rfl))))))
      · replace h6 := of_decide_eq_false h6
        refine T_skip ?_
        refine T_seq ?_
        refine T_region hc ?_
        refine Ch.step (v := (.row 34000)) rfl (.slice 34000 _ 3 _ rfl sty36 (xs := []) rfl rfl .nil rfl rfl (by decide)) rfl rfl ?_
        refine Ch.step (v := (.row 1)) rfl (.pure (.move _ rfl rfl)) rfl rfl ?_
        refine Ch.step (v := (.d (.int .i64 ((k : Nat) : Int)))) rfl (.pure (.move _ rfl rfl)) rfl rfl ?_
        refine Ch.step (v := (.sub 1 1 0 k)) rfl (.pure (.subRow _ _ _ _ 3 (0) (k) rfl Try.underlying36 sz3 rfl rfl (bndN rfl) (bndS rfl rfl) (by first | omega | (simp only [List.length_map, List.length_append, List.length_take, List.length_drop, List.length_cons, List.length_nil]; omega) | (simp; omega) | (simp; done)) (by first | omega | (simp only [List.length_map, List.length_append, List.length_take, List.length_drop, List.length_cons, List.length_nil]; omega) | (simp; omega) | (simp; done)))) rfl rfl ?_
        refine Ch.step (v := (.row 38000)) rfl (.append 38000 _ _ _ 3 rfl sty36 (by decide) (.rowK rfl) (.inr ⟨_, rfl, rfl⟩) (.sub (ys := ((xs.take k).map (fun n : Int => D.int .i64 n))) rfl (noUs_map (fun _ => rfl) _) (by first | omega | (simp only [List.length_map, List.length_append, List.length_take, List.length_drop, List.length_cons, List.length_nil]; omega) | (simp; omega) | (simp; done)) (by first | omega | (simp only [List.length_map, List.length_append, List.length_take, List.length_drop, List.length_cons, List.length_nil]; omega) | (simp; omega) | (simp; done)) (by first | (rw [List.map_drop, List.take_of_length_le (by simp)]; done) | (simp [List.map_take, List.map_drop]; done))) rfl (by first | omega | (simp only [List.length_append, List.length_map, List.length_cons, List.length_nil]; omega) | (simp; omega) | (simp; done))) rfl rfl ?_
        refine Ch.step (v := (.row 38000)) rfl (.pure (.assign _ rfl rfl)) rfl rfl ?_
        refine Ch.nil ?_
        refine T_seq ?_
        refine T_region hc ?_
        refine Ch.step (v := (.row 38000)) rfl (.pure (.move _ rfl rfl)) rfl rfl ?_
        refine Ch.step (v := (.d (.int .i64 n))) rfl (.pure (.move _ rfl rfl)) rfl rfl ?_
        refine Ch.step (v := (.row 41000)) rfl (.slice 41000 _ 3 _ rfl sty36 (xs := [.tmp 40]) rfl rfl (.cons (.d _) .nil) rfl rfl (by decide)) rfl rfl ?_
        refine Ch.step (v := (.row 42000)) rfl (.append 42000 _ _ _ 3 rfl sty36 (by decide) (.rowK rfl) (.inr ⟨_, rfl, rfl⟩) (.row rfl rfl) rfl (by first | omega | (simp only [List.length_append, List.length_map, List.length_cons, List.length_nil]; omega) | (simp; omega) | (simp; done))) rfl rfl ?_
        refine Ch.step (v := (.row 42000)) rfl (.pure (.assign _ rfl rfl)) rfl rfl ?_
        refine Ch.nil ?_
        refine T_seq ?_
        refine T_region hc ?_
        refine Ch.step (v := (.row 42000)) rfl (.pure (.move _ rfl rfl)) rfl rfl ?_
        refine Ch.step (v := (.row 1)) rfl (.pure (.move _ rfl rfl)) rfl rfl ?_
        refine Ch.step (v := (.d (.int .i64 ((k : Nat) : Int)))) rfl (.pure (.move _ rfl rfl)) rfl rfl ?_
        refine Ch.step (v := (.sub 1 1 k xs.length)) rfl (.pure (.subRow _ _ _ _ 3 (k) (xs.length) rfl Try.underlying36 sz3 rfl rfl (bndS rfl rfl) (bndN (by simp)) (by first | omega | (simp only [List.length_map, List.length_append, List.length_take, List.length_drop, List.length_cons, List.length_nil]; omega) | (simp; omega) | (simp; done)) (by first | omega | (simp only [List.length_map, List.length_append, List.length_take, List.length_drop, List.length_cons, List.length_nil]; omega) | (simp; omega) | (simp; done)))) rfl rfl ?_
        refine Ch.step (v := (.row 47000)) rfl (.append 47000 _ _ _ 3 rfl sty36 (by decide) (.rowK rfl) (.inr ⟨_, rfl, rfl⟩) (.sub (ys := ((xs.drop k).map (fun n : Int => D.int .i64 n))) rfl (noUs_map (fun _ => rfl) _) (by first | omega | (simp only [List.length_map, List.length_append, List.length_take, List.length_drop, List.length_cons, List.length_nil]; omega) | (simp; omega) | (simp; done)) (by first | omega | (simp only [List.length_map, List.length_append, List.length_take, List.length_drop, List.length_cons, List.length_nil]; omega) | (simp; omega) | (simp; done)) (by first | (rw [List.map_drop, List.take_of_length_le (by simp)]; done) | (simp [List.map_take, List.map_drop]; done))) rfl (by first | omega | (simp only [List.length_append, List.length_map, List.length_cons, List.length_nil]; omega) | (simp; omega) | (simp; done))) rfl rfl ?_
        refine Ch.step (v := (.row 47000)) rfl (.pure (.assign _ rfl rfl)) rfl rfl ?_
        refine Ch.nil ?_
        refine T_ret ?_
        refine And.intro (.inr rfl) ?_
        exact Exists.intro [(.row 47000)] (Exists.intro [] (Exists.intro [47000] (And.intro (.cons (.tmp 4 rfl) .nil) (And.intro (.cons (.any _) (.cons (.any _) .nil)) (And.intro (Exp.of (congrArg (D.slice true 1) (by first | (exact congrArg (List.map _) (putI_same (k := k) (by omega) (by assumption))) | (rw [← putI_new hr (k := k) (by omega) hp0.2 (fun hl => by first | assumption | (intro e; omega) | omega) (fun hl => by first | assumption | (intro e; omega) | omega)]; simp only [List.map_append, List.map_take, List.map_drop]; rfl))) (.row rfl)) (And.intro rfl rfl))))))
    | false =>
      replace h5 := of_decide_eq_false h5
      refine Ch.skip rfl rfl ?_
      refine Ch.skip rfl rfl ?_
      refine Ch.skip rfl rfl ?_
      refine Ch.skip rfl rfl ?_
      refine Ch.skip rfl rfl ?_
      refine Ch.skip rfl rfl ?_
      refine Ch.step (v := (.d (.bool false))) rfl (.pure (.pickF _ _ _ rfl rfl rfl)) rfl rfl ?_
      refine Ch.nil ?_
      refine T_cond (b := false) rfl (fun h => nomatch h) (fun _ => ?_)
      refine T_skip ?_
      refine T_seq ?_
      refine T_region hc ?_
      refine Ch.step (v := (.row 34000)) rfl (.slice 34000 _ 3 _ rfl sty36 (xs := []) rfl rfl .nil rfl rfl (by decide)) rfl rfl ?_
      refine Ch.step (v := (.row 1)) rfl (.pure (.move _ rfl rfl)) rfl rfl ?_
      refine Ch.step (v := (.d (.int .i64 ((k : Nat) : Int)))) rfl (.pure (.move _ rfl rfl)) rfl rfl ?_
      refine Ch.step (v := (.sub 1 1 0 k)) rfl (.pure (.subRow _ _ _ _ 3 (0) (k) rfl Try.underlying36 sz3 rfl rfl (bndN rfl) (bndS rfl rfl) (by first | omega | (simp only [List.length_map, List.length_append, List.length_take, List.length_drop, List.length_cons, List.length_nil]; omega) | (simp; omega) | (simp; done)) (by first | omega | (simp only [List.length_map, List.length_append, List.length_take, List.length_drop, List.length_cons, List.length_nil]; omega) | (simp; omega) | (simp; done)))) rfl rfl ?_
      refine Ch.step (v := (.row 38000)) rfl (.append 38000 _ _ _ 3 rfl sty36 (by decide) (.rowK rfl) (.inr ⟨_, rfl, rfl⟩) (.sub (ys := ((xs.take k).map (fun n : Int => D.int .i64 n))) rfl (noUs_map (fun _ => rfl) _) (by first | omega | (simp only [List.length_map, List.length_append, List.length_take, List.length_drop, List.length_cons, List.length_nil]; omega) | (simp; omega) | (simp; done)) (by first | omega | (simp only [List.length_map, List.length_append, List.length_take, List.length_drop, List.length_cons, List.length_nil]; omega) | (simp; omega) | (simp; done)) (by first | (rw [List.map_drop, List.take_of_length_le (by simp)]; done) | (simp [List.map_take, List.map_drop]; done))) rfl (by first | omega | (simp only [List.length_append, List.length_map, List.length_cons, List.length_nil]; omega) | (simp; omega) | (simp; done))) rfl rfl ?_
      refine Ch.step (v := (.row 38000)) rfl (.pure (.assign _ rfl rfl)) rfl rfl ?_
      refine Ch.nil ?_
      refine T_seq ?_
      refine T_region hc ?_
      refine Ch.step (v := (.row 38000)) rfl (.pure (.move _ rfl rfl)) rfl rfl ?_
      refine Ch.step (v := (.d (.int .i64 n))) rfl (.pure (.move _ rfl rfl)) rfl rfl ?_
      refine Ch.step (v := (.row 41000)) rfl (.slice 41000 _ 3 _ rfl sty36 (xs := [.tmp 40]) rfl rfl (.cons (.d _) .nil) rfl rfl (by decide)) rfl rfl ?_
      refine Ch.step (v := (.row 42000)) rfl (.append 42000 _ _ _ 3 rfl sty36 (by decide) (.rowK rfl) (.inr ⟨_, rfl, rfl⟩) (.row rfl rfl) rfl (by first | omega | (simp only [List.length_append, List.length_map, List.length_cons, List.length_nil]; omega) | (simp; omega) | (simp; done))) rfl rfl ?_
      refine Ch.step (v := (.row 42000)) rfl (.pure (.assign _ rfl rfl)) rfl rfl ?_
      refine Ch.nil ?_
      refine T_seq ?_
      refine T_region hc ?_
      refine Ch.step (v := (.row 42000)) rfl (.pure (.move _ rfl rfl)) rfl rfl ?_
      refine Ch.step (v := (.row 1)) rfl (.pure (.move _ rfl rfl)) rfl rfl ?_
      refine Ch.step (v := (.d (.int .i64 ((k : Nat) : Int)))) rfl (.pure (.move _ rfl rfl)) rfl rfl ?_
      refine Ch.step (v := (.sub 1 1 k xs.length)) rfl (.pure (.subRow _ _ _ _ 3 (k) (xs.length) rfl Try.underlying36 sz3 rfl rfl (bndS rfl rfl) (bndN (by simp)) (by first | omega | (simp only [List.length_map, List.length_append, List.length_take, List.length_drop, List.length_cons, List.length_nil]; omega) | (simp; omega) | (simp; done)) (by first | omega | (simp only [List.length_map, List.length_append, List.length_take, List.length_drop, List.length_cons, List.length_nil]; omega) | (simp; omega) | (simp; done)))) rfl rfl ?_
      refine Ch.step (v := (.row 47000)) rfl (.append 47000 _ _ _ 3 rfl sty36 (by decide) (.rowK rfl) (.inr ⟨_, rfl, rfl⟩) (.sub (ys := ((xs.drop k).map (fun n : Int => D.int .i64 n))) rfl (noUs_map (fun _ => rfl) _) (by first | omega | (simp only [List.length_map, List.length_append, List.length_take, List.length_drop, List.length_cons, List.length_nil]; omega) | (simp; omega) | (simp; done)) (by first | omega | (simp only [List.length_map, List.length_append, List.length_take, List.length_drop, List.length_cons, List.length_nil]; omega) | (simp; omega) | (simp; done)) (by first | (rw [List.map_drop, List.take_of_length_le (by simp)]; done) | (simp [List.map_take, List.map_drop]; done))) rfl (by first | omega | (simp only [List.length_append, List.length_map, List.length_cons, List.length_nil]; omega) | (simp; omega) | (simp; done))) rfl rfl ?_
      refine Ch.step (v := (.row 47000)) rfl (.pure (.assign _ rfl rfl)) rfl rfl ?_
      refine Ch.nil ?_
      refine T_ret ?_
      refine And.intro (.inr rfl) ?_
      exact Exists.intro [(.row 47000)] (Exists.intro [] (Exists.intro [47000] (And.intro (.cons (.tmp 4 rfl) .nil) (And.intro (.cons (.any _) (.cons (.any _) .nil)) (And.intro (Exp.of (congrArg (D.slice true 1) (by first | (exact congrArg (List.map _) (putI_same (k := k) (by omega) (by assumption))) | (rw [← putI_new hr (k := k) (by omega) hp0.2 (fun hl => by first | assumption | (intro e; omega) | omega) (fun hl => by first | assumption | (intro e; omega) | omega)]; simp only [List.map_append, List.map_take, List.map_drop]; rfl))) (.row rfl)) (And.intro rfl rfl))))))

def lmask (l : Lab) : Nat := if l.up then 2 * 2 ^ (2 * l.sig).toNat else 2 ^ (2 * l.sig).toNat

def maskStep (ms : List Nat) (a : Arc) : List Nat := if 0 ≤ a.sig then ms.set a.src.toNat (ms.getD a.src.toNat default ||| lmask (Lab.mk a.sig a.up)) else ms

def masksTo (x : Sgr) (k : Nat) : List Nat := (x.arcs.take k).foldl maskStep (List.replicate x.codes.length 0)

def masksL (x : Sgr) : List Nat := masksTo x x.arcs.length

def isEd (s : Int) (up : Bool) (a : Arc) : Bool := decide (a.sig = s) && decide (a.up = up)

def isLab (k s : Int) (up : Bool) (a : Arc) : Bool := decide (a.src = k) && isEd s up a

def labB (x : Sgr) (k s : Int) (up : Bool) : Bool := x.arcs.any (isLab k s up)

theorem maskStep_len (ms : List Nat) (a : Arc) : (maskStep ms a).length = ms.length := by
  unfold maskStep; split
  · rw [List.length_set]
  · rfl

theorem masks_len : ∀ (l : List Arc) (ms : List Nat), (l.foldl maskStep ms).length = ms.length
  | [], _ => rfl
  | a :: l, ms => by rw [List.foldl_cons, masks_len l, maskStep_len]

theorem masksTo_len (x : Sgr) (k : Nat) : (masksTo x k).length = x.codes.length := by rw [masksTo, masks_len, List.length_replicate]

theorem masksTo_zero (x : Sgr) : masksTo x 0 = List.replicate x.codes.length 0 := rfl

theorem masksTo_succ {x : Sgr} {k : Nat} (h : k < x.arcs.length) : masksTo x (k + 1) = maskStep (masksTo x k) (x.arcs.getD k default) := by
  have hg : x.arcs.getD k default = x.arcs[k] := by simp [h]
  unfold masksTo
  rw [List.take_succ_eq_append_getElem h, List.foldl_append, hg]; rfl

theorem lmask_pow {l : Lab} : lmask l = 2 ^ ((2 * l.sig).toNat + if l.up then 1 else 0) := by
  unfold lmask
  cases l.up
  · rfl
  · rw [if_pos rfl, if_pos rfl, Nat.pow_succ, Nat.mul_comm]

theorem lmask_lt {l : Lab} (h : l.sig < 8) : lmask l < 65536 := by
  rw [lmask_pow]
  have h1 : (2 * l.sig).toNat + (if l.up then 1 else 0) ≤ 15 := by split <;> omega
  have h2 : 2 ^ ((2 * l.sig).toNat + (if l.up then 1 else 0)) ≤ 2 ^ 15 := Nat.pow_le_pow_right (by omega) h1
  omega

theorem maskStep_lt {ms : List Nat} {a : Arc} (ha : a.sig < 8) (h : ∀ j : Nat, ms.getD j default < 65536) : ∀ j : Nat, (maskStep ms a).getD j default < 65536 := by
  intro j
  unfold maskStep
  split
  · rw [getD_set]
    split
    · exact Nat.or_lt_two_pow (n := 16) (h _) (lmask_lt ha)
    · exact h j
  · exact h j

theorem masks_lt : ∀ (l : List Arc) (ms : List Nat), (∀ a ∈ l, a.sig < 8) → (∀ j : Nat, ms.getD j default < 65536) → ∀ j : Nat, (l.foldl maskStep ms).getD j default < 65536
  | [], _, _, h => h
  | a :: l, ms, ha, h => masks_lt l (maskStep ms a) (fun b hb => ha b (List.mem_cons_of_mem _ hb)) (maskStep_lt (ha a List.mem_cons_self) h)

theorem rep_getD (n j : Nat) : (List.replicate n (0 : Nat)).getD j default = 0 := by
  rw [List.getD_eq_getElem?_getD, List.getElem?_replicate]; split <;> rfl

theorem masksTo_lt {x : Sgr} (h : ∀ a ∈ x.arcs, a.sig < 8) (k j : Nat) : (masksTo x k).getD j default < 65536 :=
  masks_lt _ _ (fun a ha => h a (List.mem_of_mem_take ha)) (fun j => by rw [rep_getD]; decide) j

theorem lmask_bit {a : Arc} {s : Int} {up : Bool} (h0 : 0 ≤ a.sig) (h1 : 0 ≤ s) : (lmask (Lab.mk a.sig a.up)).testBit ((2 * s).toNat + if up then 1 else 0) = isEd s up a := by
  rw [lmask_pow, Nat.testBit_two_pow]
  unfold isEd
  rw [Bool.eq_iff_iff, Bool.and_eq_true, decide_eq_true_iff, decide_eq_true_iff, decide_eq_true_iff]
  dsimp only
  cases a.up <;> cases up <;> simp <;> omega

theorem masks_bit {s : Int} {up : Bool} (h1 : 0 ≤ s) (n : Nat) (j : Nat) (hj : j < n) : ∀ (l : List Arc) (ms : List Nat), ms.length = n → (∀ a ∈ l, 0 ≤ a.src) →
    ((l.foldl maskStep ms).getD j default).testBit ((2 * s).toNat + if up then 1 else 0) = ((ms.getD j default).testBit ((2 * s).toNat + if up then 1 else 0) || l.any (isLab (j : Int) s up))
  | [], ms, _, _ => by simp
  | a :: l, ms, hm, hl => by
    have h0 := hl a List.mem_cons_self
    rw [List.foldl_cons, masks_bit h1 n j hj l _ (by rw [maskStep_len]; exact hm) (fun b hb => hl b (List.mem_cons_of_mem _ hb)), List.any_cons, ← Bool.or_assoc]
    congr 1
    unfold maskStep
    split
    · rename_i h2
      rw [getD_set]
      split
      · rename_i h3
        rw [Nat.testBit_or, lmask_bit h2 h1, h3.1]
        unfold isLab
        rw [decide_eq_true (by omega : a.src = (j : Int)), Bool.true_and]
      · rename_i h3
        unfold isLab
        rw [decide_eq_false (fun e => h3 ⟨by omega, by omega⟩), Bool.false_and, Bool.or_false]
    · rename_i h2
      unfold isLab isEd
      rw [decide_eq_false (fun e : a.sig = s => h2 (by omega)), Bool.false_and, Bool.and_false, Bool.or_false]

theorem masksL_bit {x : Sgr} {s k : Int} {up : Bool} (hx : SgOk x) (h1 : 0 ≤ s) (hk : 0 ≤ k ∧ k.toNat < x.codes.length) : ((masksL x).getD k.toNat default).testBit ((2 * s).toNat + if up then 1 else 0) = labB x k s up := by
  unfold masksL masksTo labB
  rw [List.take_length, masks_bit h1 x.codes.length k.toNat hk.2 _ _ (by simp) (fun a ha => (hx.ends a ha).1.1), rep_getD, Nat.zero_testBit, Bool.false_or, show ((k.toNat : Nat) : Int) = k by omega]

def lostB (x : Sgr) (a : Arc) (s : Int) : Bool := (labB x a.src s false && !labB x a.dst s false) || (labB x a.src s true && !labB x a.dst s true)

theorem two_lost {x : Sgr} {s : Int} {a : Arc} (hx : SgOk x) (ha : a ∈ x.arcs) (h1 : 0 ≤ s) : decide (((two (andn ((masksL x).getD a.src.toNat default) ((masksL x).getD a.dst.toNat default)) (2 * s).toNat : Nat) : Int) = 0) = !lostB x a s := by
  have he := hx.ends a ha
  have b0 := masksL_bit (up := false) hx h1 he.1
  have b1 := masksL_bit (up := true) hx h1 he.1
  have c0 := masksL_bit (up := false) hx h1 he.2
  have c1 := masksL_bit (up := true) hx h1 he.2
  rw [if_neg (by decide), Nat.add_zero] at b0 c0
  rw [if_pos rfl] at b1 c1
  unfold lostB
  rw [Bool.eq_iff_iff, decide_eq_true_iff, ← b0, ← b1, ← c0, ← c1]
  have := two_zero (m := andn ((masksL x).getD a.src.toNat default) ((masksL x).getD a.dst.toNat default)) (s := (2 * s).toNat)
  rw [andn_bit, andn_bit] at this
  simp only [Bool.not_eq_true', Bool.or_eq_false_iff]
  rw [← this]; omega

def disB (x : Sgr) (sig : Int) (j : Nat) : Bool := !decide ((x.arcs.getD j default).sig = sig) && lostB x (x.arcs.getD j default) sig

def disL (x : Sgr) (sig : Int) : List Int := setL x.arcs.length (disB x sig)

def disK (x : Sgr) (sig : Int) (k : Nat) : List Int := selTo k (disB x sig) fun j => (j : Int)

theorem disK_le (x : Sgr) (sig : Int) (k : Nat) : (disK x sig k).length ≤ k := selTo_le _ _ _

theorem disL_le (x : Sgr) (sig : Int) : (disL x sig).length ≤ x.arcs.length := setL_le _ _

theorem disB_yes {x : Sgr} {sig : Int} {k : Nat} (hx : SgOk x) (hk : k < x.arcs.length) (h0 : 0 ≤ sig) (h1 : ¬ (x.arcs.getD k default).sig = sig) (h2 : ¬ ((two (andn ((masksL x).getD (x.arcs.getD k default).src.toNat default) ((masksL x).getD (x.arcs.getD k default).dst.toNat default)) (2 * sig).toNat : Nat) : Int) = 0) : disB x sig k = true := by
  have := two_lost hx (getD_mem (d := default) hk) h0
  rw [decide_eq_false h2] at this
  unfold disB
  rw [decide_eq_false h1]
  simpa using this

theorem disB_same {x : Sgr} {sig : Int} {k : Nat} (h1 : (x.arcs.getD k default).sig = sig) : disB x sig k = false := by
  unfold disB
  rw [decide_eq_true h1]; rfl

theorem disB_no {x : Sgr} {sig : Int} {k : Nat} (hx : SgOk x) (hk : k < x.arcs.length) (h0 : 0 ≤ sig) (h2 : ((two (andn ((masksL x).getD (x.arcs.getD k default).src.toNat default) ((masksL x).getD (x.arcs.getD k default).dst.toNat default)) (2 * sig).toNat : Nat) : Int) = 0) : disB x sig k = false := by
  have := two_lost hx (getD_mem (d := default) hk) h0
  rw [decide_eq_true h2] at this
  unfold disB
  have e : lostB x (x.arcs.getD k default) sig = false := by simpa using this
  rw [e, Bool.and_false]

def excTo (x : Sgr) (sig : Int) (up : Bool) (m : Nat) : List Int := setL x.codes.length fun j => (x.arcs.take m).any (isLab (j : Int) sig up)

def excS (x : Sgr) (sig : Int) (up : Bool) : List Int := excTo x sig up x.arcs.length

theorem excTo_zero (x : Sgr) (sig : Int) (up : Bool) : excTo x sig up 0 = [] := by
  unfold excTo setL selTo
  simp

theorem excTo_yes {x : Sgr} {sig : Int} {up : Bool} {m : Nat} (hen : ends x.codes.length x.arcs) (hm : m < x.arcs.length) (h : isEd sig up (x.arcs.getD m default) = true) : putI (excTo x sig up m) (x.arcs.getD m default).src = excTo x sig up (m + 1) := by
  have he := hen _ (getD_mem (d := default) hm)
  have hg : x.arcs.getD m default = x.arcs[m] := by simp [hm]
  unfold excTo
  rw [putI_set he.1]
  refine setL_ext fun j hj => ?_
  rw [List.take_succ_eq_append_getElem hm, List.any_append, ← hg]
  congr 1
  simp only [List.any_cons, List.any_nil, Bool.or_false]
  unfold isLab
  rw [h, Bool.and_true]
  rw [Bool.eq_iff_iff, decide_eq_true_iff, decide_eq_true_iff]
  exact eq_comm

theorem excTo_no {x : Sgr} {sig : Int} {up : Bool} {m : Nat} (hm : m < x.arcs.length) (h : isEd sig up (x.arcs.getD m default) = false) : excTo x sig up m = excTo x sig up (m + 1) := by
  have hg : x.arcs.getD m default = x.arcs[m] := by simp [hm]
  unfold excTo
  refine setL_ext fun j hj => ?_
  rw [List.take_succ_eq_append_getElem hm, List.any_append, ← hg]
  simp only [List.any_cons, List.any_nil, Bool.or_false]
  unfold isLab
  rw [h, Bool.and_false, Bool.or_false]

theorem excTo_le (x : Sgr) (sig : Int) (up : Bool) (m : Nat) : (excTo x sig up m).length ≤ x.codes.length := setL_le _ _

theorem excTo_rising (x : Sgr) (sig : Int) (up : Bool) (m : Nat) : Rising (excTo x sig up m) := setL_rising _ _

def passQ (x : Sgr) (sig : Int) (up : Bool) (j : Nat) : Bool := !decide ((x.arcs.getD j default).sig = sig) && (hasI (excS x sig up) (x.arcs.getD j default).src && !hasI (excS x sig up) (x.arcs.getD j default).dst)

def dsQ (x : Sgr) (sig : Int) (k m j : Nat) : Bool := ((List.range k).any fun q => passQ x sig ([false, true].getD q default) j) || (decide (j < m) && passQ x sig ([false, true].getD k default) j)

def dsTo (x : Sgr) (sig : Int) (k m : Nat) : List Int := setL x.arcs.length (dsQ x sig k m)

theorem dsTo_zero (x : Sgr) (sig : Int) : dsTo x sig 0 0 = [] := by
  unfold dsTo setL selTo dsQ
  simp

theorem dsTo_next {x : Sgr} {sig : Int} {k m : Nat} (hm : x.arcs.length ≤ m) : dsTo x sig k m = dsTo x sig (k + 1) 0 := by
  unfold dsTo dsQ
  refine setL_ext fun j hj => ?_
  rw [decide_eq_true (by omega : j < m), decide_eq_false (by omega : ¬ j < 0), Bool.true_and, Bool.false_and, Bool.or_false, List.range_succ, List.any_append]
  simp

theorem dsTo_yes {x : Sgr} {sig : Int} {k m : Nat} (hm : m < x.arcs.length) (h : passQ x sig ([false, true].getD k default) m = true) : putI (dsTo x sig k m) (m : Int) = dsTo x sig k (m + 1) := by
  unfold dsTo
  rw [putI_set ⟨by omega, by omega⟩]
  refine setL_ext fun j hj => ?_
  unfold dsQ
  by_cases e : j = m
  · subst e
    rw [h, decide_eq_true (rfl : ((j : Nat) : Int) = (j : Int)), decide_eq_true (by omega : j < j + 1)]
    simp
  · rw [decide_eq_false (fun q : ((j : Nat) : Int) = (m : Int) => e (by omega)), Bool.or_false]
    congr 2
    exact decide_eq_decide.2 ⟨fun _ => by omega, fun _ => by omega⟩

theorem dsTo_no {x : Sgr} {sig : Int} {k m : Nat} (hm : m < x.arcs.length) (h : passQ x sig ([false, true].getD k default) m = false) : dsTo x sig k m = dsTo x sig k (m + 1) := by
  unfold dsTo
  refine setL_ext fun j hj => ?_
  unfold dsQ
  by_cases e : j = m
  · subst e
    rw [h, Bool.and_false, Bool.and_false]
  · congr 2
    exact decide_eq_decide.2 ⟨fun _ => by omega, fun _ => by omega⟩

theorem dsTo_le (x : Sgr) (sig : Int) (k m : Nat) : (dsTo x sig k m).length ≤ x.arcs.length := setL_le _ _

theorem dsTo_rising (x : Sgr) (sig : Int) (k m : Nat) : Rising (dsTo x sig k m) := setL_rising _ _

theorem exc_has {x : Sgr} {sig k : Int} {up : Bool} (hk : 0 ≤ k ∧ k.toNat < x.codes.length) : hasI (excS x sig up) k = labB x k sig up := by
  unfold excS excTo
  rw [hasI_set hk, List.take_length, show ((k.toNat : Nat) : Int) = k by omega]; rfl

theorem dsTo_end {x : Sgr} {sig : Int} {k : Nat} (hen : ends x.codes.length x.arcs) (hk : k = 2) : dsTo x sig k 0 = disL x sig := by
  subst hk
  unfold dsTo disL
  refine setL_ext fun j hj => ?_
  have he := hen _ (getD_mem (d := default) hj)
  have e : (List.range 2).any (fun q => passQ x sig ([false, true].getD q default) j) = (passQ x sig false j || passQ x sig true j) := by
    rw [show List.range 2 = [0, 1] from rfl]
    simp
  unfold dsQ
  rw [decide_eq_false (by omega : ¬ j < 0), Bool.false_and, Bool.or_false, e]
  unfold passQ disB lostB
  rw [exc_has he.1, exc_has he.2, exc_has he.1, exc_has he.2]
  cases decide ((x.arcs.getD j default).sig = sig) <;> rfl

def disV (x : Sgr) (sig : Int) : List Int := if hasSigB x sig then disL x sig else []

theorem disV_le (x : Sgr) (sig : Int) : (disV x sig).length ≤ x.arcs.length := by
  unfold disV; split
  · exact disL_le x sig
  · exact Nat.zero_le _

def cdTo (x : Sgr) (k : Nat) : Nat := ((outK x.sigs k).map fun s => (disL x s).length).sum

def cdF (x : Sgr) : Nat := ((outsL x.sigs).map fun s => (disL x s).length).sum

def cdM (x : Sgr) (m : Nat) : Nat := (((outsL x.sigs).take m).map fun s => (disL x s).length).sum

theorem cdM_succ {x : Sgr} {m : Nat} (h : m < (outsL x.sigs).length) : cdM x (m + 1) = cdM x m + (disL x ((outsL x.sigs).getD m default)).length := by
  have hg : (outsL x.sigs).getD m default = (outsL x.sigs)[m] := by simp [h]
  unfold cdM
  rw [List.take_succ_eq_append_getElem h, List.map_append, List.sum_append, hg]
  simp

theorem cdM_all {x : Sgr} {m : Nat} (h : (outsL x.sigs).length ≤ m) : cdM x m = cdF x := by rw [cdM, List.take_of_length_le h]; rfl

theorem cdM_le {x : Sgr} (hx : SgOk x) (m : Nat) (hm : m ≤ (outsL x.sigs).length) : cdM x m ≤ m * 4000 := by
  induction m with
  | zero => exact Nat.le_refl 0
  | succ m ih =>
    have h1 := ih (by omega)
    have h2 := disL_le x ((outsL x.sigs).getD m default)
    have h3 := hx.few
    rw [cdM_succ (by omega)]; omega

theorem cdTo_yes {x : Sgr} {k : Nat} (h : ¬ (x.sigs.getD k default).kind = 1) : cdTo x (k + 1) = cdTo x k + (disL x (k : Int)).length := by
  unfold cdTo
  rw [outK_yes h, List.map_append, List.sum_append]
  simp

theorem cdTo_no {x : Sgr} {k : Nat} (h : (x.sigs.getD k default).kind = 1) : cdTo x (k + 1) = cdTo x k := by
  unfold cdTo
  rw [outK_no h]

theorem cdTo_le {x : Sgr} (hx : SgOk x) (k : Nat) : cdTo x k ≤ k * 4000 := by
  induction k with
  | zero => exact Nat.le_refl 0
  | succ k h1 =>
    have h2 := disL_le x (k : Int)
    have h3 := hx.few
    have h4 : (disL x (k : Int)).length ≤ 4000 := Nat.le_trans h2 h3
    rw [Nat.succ_mul]
    by_cases h : (x.sigs.getD k default).kind = 1
    · rw [cdTo_no h]; exact Nat.le_trans h1 (Nat.le_add_right _ _)
    · rw [cdTo_yes h]; exact Nat.add_le_add h1 h4

def cdV (x : Sgr) : Nat := if sgB x then cdF x else 0

theorem outs_in {sg : List Sgn} : ∀ s ∈ outsL sg, 0 ≤ s ∧ s.toNat < sg.length := by
  intro s hs
  obtain ⟨j, hj, rfl⟩ := List.mem_map.1 hs
  have := List.mem_range.1 (List.mem_filter.1 hj).1
  omega

theorem outs_len (sg : List Sgn) : (outsL sg).length ≤ sg.length := outK_le sg _

theorem hasSig_yes {x : Sgr} {s : Int} (h : sgB x = true) (hs : 0 ≤ s ∧ s.toNat < x.sigs.length) : hasSigB x s = true := by
  unfold hasSigB withinB
  rw [h, decide_eq_true hs.1, decide_eq_true (by omega : s ≤ (x.sigs.length : Int) - 1)]; rfl

theorem disV_yes {x : Sgr} {s : Int} (h : sgB x = true) (hs : 0 ≤ s ∧ s.toNat < x.sigs.length) : disV x s = disL x s := by
  rw [disV, hasSig_yes h hs]; rfl

theorem sp_impl_labelMask (l : Lab) (h0 : 0 ≤ l.sig) (h8 : l.sig < 8) : Sp Try.prog 169 [(.agg [(.int .i64 l.sig), (.bool (l.up))])] [.any] (.int .i64 ((lmask l : Nat) : Int)) := by
  refine Sp_intro (lend := true) Try.func169 rfl rfl rfl (fun _ => rfl) (fun c hc hX => ?_)
  refine T_seq ?_
  refine T_region hc ?_
  refine Ch.step (v := (.ptr 1000 0)) rfl (.box 1000 _ _ rfl (.aggD _)) rfl rfl ?_
  refine Ch.step (v := (.d (.int .i64 0))) rfl (.pure (.assign _ rfl rfl)) rfl rfl ?_
  refine Ch.nil ?_
  refine T_seq ?_
  refine T_seq ?_
  refine T_region hc ?_
  refine Ch.step (v := (.ptr 1000 1)) rfl (.pure (.fldPtr _ _ _ rfl fld139_1 rfl)) rfl rfl ?_
  refine Ch.step (v := (.d (.bool (l.up)))) rfl (.pure (.loadPtr1 _ _ rfl ag4 rfl rfl rfl)) rfl rfl ?_
  refine Ch.nil ?_
  refine T_cond (b := (l.up)) rfl (fun h1 => ?_) (fun h1 => ?_)
  · refine T_seq ?_
    refine T_region hc ?_
    refine Ch.step (v := (.ptr 1000 0)) rfl (.pure (.fldPtr _ _ _ rfl fld139_0 rfl)) rfl rfl ?_
    refine Ch.step (v := (.d (.int .i64 l.sig))) rfl (.pure (.loadPtr1 _ _ rfl ag3 rfl rfl rfl)) rfl rfl ?_
    refine Ch.step (v := (.d (.int .i64 (2 * l.sig)))) rfl (.pure (.int _ _ _ _ _ rfl rfl rfl (intV_mul (by first | omega | (simp only [List.length_map, List.length_append, List.length_take, List.length_drop, List.length_cons, List.length_nil]; omega) | (simp; omega) | (simp; done)) (by first | omega | (simp only [List.length_map, List.length_append, List.length_take, List.length_drop, List.length_cons, List.length_nil]; omega) | (simp; omega) | (simp; done))))) rfl rfl ?_
    refine Ch.step (v := (.d (.int .i64 ((2 * 2 ^ (((2 * l.sig)).toNat) : Nat) : Int)))) rfl (.pure (.shift _ _ _ _ _ rfl rfl rfl (shl2 (n := ((2 * l.sig)).toNat) (by omega) (by first | omega | (simp only [List.length_map, List.length_append, List.length_take, List.length_drop, List.length_cons, List.length_nil]; omega) | (simp; omega) | (simp; done))))) rfl rfl ?_
    refine Ch.step (v := (.d (.int .i64 ((2 * 2 ^ (((2 * l.sig)).toNat) : Nat) : Int)))) rfl (.pure (.assign _ rfl rfl)) rfl rfl ?_
    refine Ch.nil ?_
    refine T_ret ?_
    refine And.intro (.inr rfl) ?_
    exact Exists.intro [(.d (.int .i64 ((2 * 2 ^ (((2 * l.sig)).toNat) : Nat) : Int)))] (Exists.intro [] (Exists.intro [] (And.intro (.cons (.tmp 2 rfl) .nil) (And.intro (.cons (.any _) .nil) (And.intro (Exp.of (congrArg (D.int .i64) (by first | (rw [lmask, if_pos (by assumption)]; done) | (rw [lmask, if_neg (by simp_all)]; done))) (.d _)) (And.intro rfl rfl))))))
  · refine T_skip ?_
    refine T_seq ?_
    refine T_region hc ?_
    refine Ch.step (v := (.ptr 1000 0)) rfl (.pure (.fldPtr _ _ _ rfl fld139_0 rfl)) rfl rfl ?_
    refine Ch.step (v := (.d (.int .i64 l.sig))) rfl (.pure (.loadPtr1 _ _ rfl ag3 rfl rfl rfl)) rfl rfl ?_
    refine Ch.step (v := (.d (.int .i64 (2 * l.sig)))) rfl (.pure (.int _ _ _ _ _ rfl rfl rfl (intV_mul (by first | omega | (simp only [List.length_map, List.length_append, List.length_take, List.length_drop, List.length_cons, List.length_nil]; omega) | (simp; omega) | (simp; done)) (by first | omega | (simp only [List.length_map, List.length_append, List.length_take, List.length_drop, List.length_cons, List.length_nil]; omega) | (simp; omega) | (simp; done))))) rfl rfl ?_
    refine Ch.step (v := (.d (.int .i64 ((2 ^ (((2 * l.sig)).toNat) : Nat) : Int)))) rfl (.pure (.shift _ _ _ _ _ rfl rfl rfl (shl1 (n := ((2 * l.sig)).toNat) (by omega) (by first | omega | (simp only [List.length_map, List.length_append, List.length_take, List.length_drop, List.length_cons, List.length_nil]; omega) | (simp; omega) | (simp; done))))) rfl rfl ?_
    refine Ch.step (v := (.d (.int .i64 ((2 ^ (((2 * l.sig)).toNat) : Nat) : Int)))) rfl (.pure (.assign _ rfl rfl)) rfl rfl ?_
    refine Ch.nil ?_
    refine T_ret ?_
    refine And.intro (.inr rfl) ?_
    exact Exists.intro [(.d (.int .i64 ((2 ^ (((2 * l.sig)).toNat) : Nat) : Int)))] (Exists.intro [] (Exists.intro [] (And.intro (.cons (.tmp 2 rfl) .nil) (And.intro (.cons (.any _) .nil) (And.intro (Exp.of (congrArg (D.int .i64) (by first | (rw [lmask, if_pos (by assumption)]; done) | (rw [lmask, if_neg (by simp_all)]; done))) (.d _)) (And.intro rfl rfl))))))

set_option maxHeartbeats 1000000 in
theorem sp_impl_labelMasks (x : Sgr) (hb : x.bulk ≤ 1048576) (hx : SgOk x) : Sp Try.prog 137 [(.agg [(.slice false 2 (x.sigs.map Sgn.d)), (.slice false 1 (x.codes.map D.str)), (.slice false 4 (x.arcs.map Arc.d))])] [.any] (.slice true 1 ((masksL x).map (fun n : Nat => D.int .i64 (n : Int)))) := by
  refine Sp_intro (lend := true) Try.func137 rfl rfl rfl (fun _ => rfl) (fun c hc hX => ?_)
  obtain ⟨hp0, hp1, hp2⟩ := Sgr.parts hb
  have hn0 := bulkF_len hp0
  have hn1 := bulk_len hp1
  have hx1 := bulk_mem hp1
  have hn2 := bulkF_len hp2; have hx8 := hx.eight; have hxl := hx.len; have hxf := hx.few; have hs8 : ∀ a ∈ x.arcs, a.sig < 8 := fun a ha => (by have := hx.sig a ha; omega)
  refine T_seq ?_
  refine T_region hc ?_
  refine Ch.step (v := (.ptr 1000 0)) rfl (.box 1000 _ _ rfl (.aggD _)) rfl rfl ?_
  refine Ch.step (v := (.c (.slice none 0 0))) rfl (.pure (.assign _ rfl rfl)) rfl rfl ?_
  refine Ch.nil ?_
  refine T_seq ?_
  refine T_region hc ?_
  refine Ch.step (v := (.ptr 1000 1)) rfl (.pure (.fldPtr _ _ _ rfl fld52_1 rfl)) rfl rfl ?_
  refine Ch.step (v := (.d (.slice false 1 (x.codes.map D.str)))) rfl (.pure (.loadPtr1 _ _ rfl ag43 rfl rfl rfl)) rfl rfl ?_
  refine Ch.step (v := (.d (.int .i64 ((x.codes.length : Nat) : Int)))) rfl (.pure (.len _ _ 9 rfl Try.underlying43 (.sh _ _) (by simp))) rfl rfl ?_
  refine Ch.step (v := (.row 9000)) rfl (.make 9000 _ 3 _ _ (x.codes.length) (x.codes.length) rfl sty36 rfl rfl rfl rfl (by first | omega | (simp only [List.length_map, List.length_append, List.length_take, List.length_drop, List.length_cons, List.length_nil]; omega) | (simp; omega) | (simp; done)) (by first | omega | (simp only [List.length_map, List.length_append, List.length_take, List.length_drop, List.length_cons, List.length_nil]; omega) | (simp; omega) | (simp; done)) (by first | omega | (simp only [List.length_map, List.length_append, List.length_take, List.length_drop, List.length_cons, List.length_nil]; omega) | (simp; omega) | (simp; done)) (zeroD_mk (zd := (.int .i64 0)) zr3 (by intro S w; rw [DR]; exact ⟨rfl, rfl⟩) rfl)) rfl rfl ?_
  refine Ch.step (v := (.row 9000)) rfl (.pure (.assign _ rfl rfl)) rfl rfl ?_
  refine Ch.nil ?_
  refine T_seq ?_
  refine T_seq ?_
  refine T_region hc ?_
  refine Ch.step (v := (.ptr 1000 2)) rfl (.pure (.fldPtr _ _ _ rfl fld52_2 rfl)) rfl rfl ?_
  refine Ch.step (v := (.d (.slice false 4 (x.arcs.map Arc.d)))) rfl (.pure (.loadPtr1 _ _ rfl ag50 rfl rfl rfl)) rfl rfl ?_
  refine Ch.step (v := (.d (.int .i64 ((x.arcs.length : Nat) : Int)))) rfl (.pure (.len _ _ 102 rfl Try.underlying50 (.sh _ _) (by simp))) rfl rfl ?_
  refine Ch.step (v := (.d (.int .i64 0))) rfl (.pure (.move _ rfl rfl)) rfl rfl ?_
  refine Ch.nil ?_
  refine T_block ?_
  refine T_loop (ι := Nat) (fun k => { n := 35, sl := [(3, (.row 3)), (11, (.d (.slice false 4 (x.arcs.map Arc.d)))), (12, (.d (.int .i64 ((x.arcs.length : Nat) : Int)))), (13, (.d (.int .i64 ((k : Nat) : Int))))], hp := [(3, (some (.row 1 ((masksTo x k).map (fun n : Nat => D.int .i64 (n : Int))))))], pin := [] }) (fun k => k ≤ x.arcs.length) (fun k => x.arcs.length - k) ⟨0, (by omega), (Wk.ren [(3, 9000)] rfl rfl rfl rfl (And.intro rfl (And.intro rfl (And.intro rfl (And.intro (vI (by first | rfl | omega | (simp; done) | (simp; omega))) trivial)))) (And.intro (oR (by first | (rw [masksTo_zero, List.map_replicate]; rfl) | (rw [masksTo_succ (by omega), maskStep, if_pos (by assumption), List.map_set]; done) | (rw [masksTo_succ (by omega), maskStep, if_neg (by assumption)]))) trivial))⟩ (fun k hp0 => ?_)
  have hq := masksTo_len x k; have hm6 := masksTo_lt hs8 k
  refine T_seq ?_
  refine T_region hc ?_
  refine Ch.step (v := (.d (.bool (decide (((k : Nat) : Int) < ((x.arcs.length : Nat) : Int)))))) rfl (.pure (.int _ _ _ _ _ rfl rfl rfl rfl)) rfl rfl ?_
  refine Ch.nil ?_
  refine T_seq ?_
  refine T_cond (b := (decide (((k : Nat) : Int) < ((x.arcs.length : Nat) : Int)))) rfl (fun h1 => ?_) (fun h1 => ?_)
  · replace h1 := of_decide_eq_true h1
    try have hek := hx.ends _ (getD_mem (l := x.arcs) (j := k) (d := default) (by omega))
    try have hsk := hs8 _ (getD_mem (l := x.arcs) (j := k) (d := default) (by omega))
    refine T_skip ?_
    refine T_seq ?_
    refine T_block ?_
    refine T_seq ?_
    refine T_region hc ?_
    refine Ch.step (v := (.d (.ref (.agg [(.int .i64 ((x.arcs.getD k default).src)), (.int .i64 ((x.arcs.getD k default).sig)), (.bool ((x.arcs.getD k default).up)), (.int .i64 ((x.arcs.getD k default).dst))])))) rfl (.pure (.idx _ _ _ 102 (k) rfl Try.underlying50 sz102 rfl rfl rfl (get_map _ (by first | omega | (simp only [List.length_map, List.length_append, List.length_take, List.length_drop, List.length_cons, List.length_nil]; omega) | (simp; omega) | (simp; done))))) rfl rfl ?_
    refine Ch.step (v := (.d (.agg [(.int .i64 ((x.arcs.getD k default).src)), (.int .i64 ((x.arcs.getD k default).sig)), (.bool ((x.arcs.getD k default).up)), (.int .i64 ((x.arcs.getD k default).dst))]))) rfl (.pure (.loadRefA _ _ rfl ag102 sz102 rfl)) rfl rfl ?_
    refine Ch.step (v := (.ptr 5000 0)) rfl (.alloc 5000 _ rfl zer102) rfl rfl ?_
    refine Ch.step (v := .junk) rfl (.storePtr _ _ _ rfl rfl rfl (.aggD _) sz102 (Nat.le_of_ble_eq_true rfl)) rfl rfl ?_
    refine Ch.nil ?_
    refine T_seq ?_
    refine T_region hc ?_
    refine Ch.step (v := (.ptr 5000 1)) rfl (.pure (.fldPtr _ _ _ rfl fld102_1 rfl)) rfl rfl ?_
    refine Ch.step (v := (.d (.int .i64 ((x.arcs.getD k default).sig)))) rfl (.pure (.loadPtr1 _ _ rfl ag3 rfl rfl rfl)) rfl rfl ?_
    refine Ch.step (v := (.d (.bool (decide (0 ≤ ((x.arcs.getD k default).sig)))))) rfl (.pure (.int _ _ _ _ _ rfl rfl rfl rfl)) rfl rfl ?_
    refine Ch.nil ?_
    refine T_cond (b := (decide (0 ≤ ((x.arcs.getD k default).sig)))) rfl (fun h2 => ?_) (fun h2 => ?_)
    · replace h2 := of_decide_eq_true h2
      try have hlm := lmask_lt (l := Lab.mk (x.arcs.getD k default).sig (x.arcs.getD k default).up) hsk
      try have hmk := hm6 (x.arcs.getD k default).src.toNat
      refine T_regionD hc (by kernel_rfl) ?_
      refine ChD.step (v := (.row 3)) [] rfl (.pure (.move _ rfl rfl)) rfl rfl ?_
      refine ChD.step (v := (.ptr 5000 0)) [] rfl (.pure (.fldPtr _ _ _ rfl fld102_0 rfl)) rfl rfl ?_
      refine ChD.step (v := (.d (.int .i64 ((x.arcs.getD k default).src)))) [5000] rfl (.pure (.loadPtr1 _ _ rfl ag3 rfl rfl rfl)) rfl rfl ?_
      refine ChD.step (v := (.el 3 1 ((((x.arcs.getD k default).src)).toNat) 0)) [3] rfl (.pure (.idxRow _ _ _ 3 ((((x.arcs.getD k default).src)).toNat) rfl Try.underlying36 sz3 rfl rfl rfl (by omega) (by first | omega | (simp only [List.length_map, List.length_set]; omega) | (simp; omega)))) rfl rfl ?_
      refine ChD.step (v := (.d (.int .i64 ((((masksTo x k).getD ((((x.arcs.getD k default).src)).toNat) default) : Nat) : Int)))) [3] rfl (.pure (.loadEl1 _ _ rfl ag3 rfl rfl (get_map _ (by first | omega | (simp only [List.length_map, List.length_append, List.length_take, List.length_drop, List.length_cons, List.length_nil]; omega) | (simp; omega) | (simp; done))) rfl rfl rfl)) rfl rfl ?_
      refine ChD.step (v := (.ptr 5000 1)) [] rfl (.pure (.fldPtr _ _ _ rfl fld102_1 rfl)) rfl rfl ?_
      refine ChD.step (v := (.d (.int .i64 ((x.arcs.getD k default).sig)))) [5000] rfl (.pure (.loadPtr1 _ _ rfl ag3 rfl rfl rfl)) rfl rfl ?_
      refine ChD.step (v := (.ptr 5000 2)) [] rfl (.pure (.fldPtr _ _ _ rfl fld102_2 rfl)) rfl rfl ?_
      refine ChD.step (v := (.d (.bool ((x.arcs.getD k default).up)))) [5000] rfl (.pure (.loadPtr1 _ _ rfl ag4 rfl rfl rfl)) rfl rfl ?_
      refine ChD.step (v := (.agg [(.d (.int .i64 ((x.arcs.getD k default).sig))), (.d (.bool ((x.arcs.getD k default).up)))])) [] rfl (.build _ _ rfl stru139 (.cons (.one _ rfl) (.cons (.one _ rfl) .nil)) rfl) rfl rfl ?_
      refine ChD.step (v := (.d (.int .i64 ((lmask (Lab.mk ((x.arcs.getD k default).sig) ((x.arcs.getD k default).up)) : Nat) : Int)))) [] rfl (.call 30000 169 _ _ _ en169 rfl (.inl rfl) (.cons (.lend (.agg (.cons (.d _) (.cons (.d _) .nil)) rfl)) .nil) rfl rfl (sp_impl_labelMask (Lab.mk ((x.arcs.getD k default).sig) ((x.arcs.getD k default).up)) (by first | assumption | omega | (rw [List.length_take]; omega) | (have := bulkF_mem hb _ (getD_mem (d := default) (by omega)); assumption) | (unfold bulkS at *; omega) | (simp_all; done)) (by first | assumption | omega | (rw [List.length_take]; omega) | (have := bulkF_mem hb _ (getD_mem (d := default) (by omega)); assumption) | (unfold bulkS at *; omega) | (simp_all; done))) (.skip _ _ .nil) rfl) rfl rfl ?_
      refine ChD.step (v := (.d (.int .i64 ((((masksTo x k).getD ((((x.arcs.getD k default).src)).toNat) default) ||| (lmask (Lab.mk ((x.arcs.getD k default).sig) ((x.arcs.getD k default).up))) : Nat) : Int)))) [] rfl (.pure (.int _ _ _ _ _ rfl rfl rfl (i64_or (a := ((masksTo x k).getD ((((x.arcs.getD k default).src)).toNat) default)) (b := lmask (Lab.mk ((x.arcs.getD k default).sig) ((x.arcs.getD k default).up))) (by first | omega | (simp only [List.length_map, List.length_append, List.length_take, List.length_drop, List.length_cons, List.length_nil]; omega) | (simp; omega) | (simp; done)) (by first | omega | (simp only [List.length_map, List.length_append, List.length_take, List.length_drop, List.length_cons, List.length_nil]; omega) | (simp; omega) | (simp; done))))) rfl rfl ?_
      refine ChD.step (v := (.el 3 1 ((((x.arcs.getD k default).src)).toNat) 0)) [3] rfl (.pure (.idxRow _ _ _ 3 ((((x.arcs.getD k default).src)).toNat) rfl Try.underlying36 sz3 rfl rfl rfl (by omega) (by first | omega | (simp only [List.length_map, List.length_set]; omega) | (simp; omega)))) rfl rfl ?_
      refine ChD.step (v := .junk) [3] rfl (.storeEl (y' := (.int .i64 ((((masksTo x k).getD ((((x.arcs.getD k default).src)).toNat) default) ||| (lmask (Lab.mk ((x.arcs.getD k default).sig) ((x.arcs.getD k default).up))) : Nat) : Int))) _ _ _ rfl rfl rfl (.d _) rfl sz3 rfl (get_map _ (by first | omega | (simp only [List.length_map, List.length_append, List.length_take, List.length_drop, List.length_cons, List.length_nil]; omega) | (simp; omega) | (simp; done))) rfl rfl) rfl rfl ?_
      refine ChD.nil (And.intro ?_ (by kernel_rfl))
      refine T_region hc ?_
      refine Ch.step (v := (.d (.int .i64 (((k : Nat) : Int) + 1)))) rfl (.pure (.int _ _ _ _ _ rfl rfl rfl (intV_add (by first | omega | (simp only [List.length_map, List.length_append, List.length_take, List.length_drop, List.length_cons, List.length_nil]; omega) | (simp; omega) | (simp; done)) (by first | omega | (simp only [List.length_map, List.length_append, List.length_take, List.length_drop, List.length_cons, List.length_nil]; omega) | (simp; omega) | (simp; done))))) rfl rfl ?_
      refine Ch.step (v := (.d (.int .i64 (((k : Nat) : Int) + 1)))) rfl (.pure (.move _ rfl rfl)) rfl rfl ?_
      refine Ch.nil ?_
      refine Exists.intro (k + 1) (And.intro (by omega) (And.intro (by first | omega | (dsimp only; omega)) (Wk.of rfl rfl (And.intro rfl (And.intro rfl (And.intro rfl (And.intro (vI (by first | rfl | omega | (simp; done) | (simp; omega))) trivial)))) (And.intro (oR (by first | (rw [masksTo_zero, List.map_replicate]; rfl) | (rw [masksTo_succ (by omega), maskStep, if_pos (by assumption), List.map_set]; done) | (rw [masksTo_succ (by omega), maskStep, if_neg (by assumption)]))) trivial))))
    · replace h2 := of_decide_eq_false h2
      try have hlm := lmask_lt (l := Lab.mk (x.arcs.getD k default).sig (x.arcs.getD k default).up) hsk
      try have hmk := hm6 (x.arcs.getD k default).src.toNat
      refine T_skip ?_
      refine T_region hc ?_
      refine Ch.step (v := (.d (.int .i64 (((k : Nat) : Int) + 1)))) rfl (.pure (.int _ _ _ _ _ rfl rfl rfl (intV_add (by first | omega | (simp only [List.length_map, List.length_append, List.length_take, List.length_drop, List.length_cons, List.length_nil]; omega) | (simp; omega) | (simp; done)) (by first | omega | (simp only [List.length_map, List.length_append, List.length_take, List.length_drop, List.length_cons, List.length_nil]; omega) | (simp; omega) | (simp; done))))) rfl rfl ?_
      refine Ch.step (v := (.d (.int .i64 (((k : Nat) : Int) + 1)))) rfl (.pure (.move _ rfl rfl)) rfl rfl ?_
      refine Ch.nil ?_
      refine Exists.intro (k + 1) (And.intro (by omega) (And.intro (by first | omega | (dsimp only; omega)) (Wk.of rfl rfl (And.intro rfl (And.intro rfl (And.intro rfl (And.intro (vI (by first | rfl | omega | (simp; done) | (simp; omega))) trivial)))) (And.intro (oR (by first | (rw [masksTo_zero, List.map_replicate]; rfl) | (rw [masksTo_succ (by omega), maskStep, if_pos (by assumption), List.map_set]; done) | (rw [masksTo_succ (by omega), maskStep, if_neg (by assumption)]))) trivial))))
  · replace h1 := of_decide_eq_false h1
    try have hek := hx.ends _ (getD_mem (l := x.arcs) (j := k) (d := default) (by omega))
    try have hsk := hs8 _ (getD_mem (l := x.arcs) (j := k) (d := default) (by omega))
    refine T_exit ?_
    refine T_seq ?_
    refine T_region hc ?_
    refine Ch.step (v := (.row 3)) rfl (.pure (.move _ rfl rfl)) rfl rfl ?_
    refine Ch.step (v := (.row 3)) rfl (.pure (.assign _ rfl rfl)) rfl rfl ?_
    refine Ch.nil ?_
    refine T_ret ?_
    refine And.intro (.inr rfl) ?_
    exact Exists.intro [(.row 3)] (Exists.intro [] (Exists.intro [3] (And.intro (.cons (.tmp 2 rfl) .nil) (And.intro (.cons (.any _) .nil) (And.intro (Exp.of (congrArg (D.slice true 1) (by rw [masksL, show x.arcs.length = k by omega])) (.row rfl)) (And.intro rfl rfl))))))

set_option maxHeartbeats 1000000 in
theorem sp_impl_disabling (x : Sgr) (sig : Int) (hb : x.bulk ≤ 1048576) (hx : SgOk x) (hs : 0 ≤ sig ∧ sig.toNat < x.sigs.length) : Sp Try.prog 145 [(.agg [(.slice false 2 (x.sigs.map Sgn.d)), (.slice false 1 (x.codes.map D.str)), (.slice false 4 (x.arcs.map Arc.d))]), (.int .i64 sig)] [.any, .any] (.slice true 1 ((disL x sig).map (fun n : Int => D.int .i64 n))) := by
  refine Sp_intro (lend := true) Try.func145 rfl rfl rfl (fun _ => rfl) (fun c hc hX => ?_)
  obtain ⟨hp0, hp1, hp2⟩ := Sgr.parts hb
  have hn0 := bulkF_len hp0
  have hn1 := bulk_len hp1
  have hx1 := bulk_mem hp1
  have hn2 := bulkF_len hp2; have hx8 := hx.eight; have hxl := hx.len; have hxf := hx.few; have hs8 : ∀ a ∈ x.arcs, a.sig < 8 := fun a ha => (by have := hx.sig a ha; omega); have hml : (masksL x).length = x.codes.length := masksTo_len x _; have hm6 : ∀ j : Nat, (masksL x).getD j default < 65536 := masksTo_lt hs8 _
  refine T_seq ?_
  refine T_region hc ?_
  refine Ch.step (v := (.ptr 2000 0)) rfl (.box 2000 _ _ rfl (.aggD _)) rfl rfl ?_
  refine Ch.step (v := (.c (.slice none 0 0))) rfl (.pure (.assign _ rfl rfl)) rfl rfl ?_
  refine Ch.nil ?_
  refine T_seq ?_
  refine T_region hc ?_
  refine Ch.step (v := (.row 9000)) rfl (.slice 9000 _ 3 _ rfl sty36 (xs := []) rfl rfl .nil rfl rfl (by decide)) rfl rfl ?_
  refine Ch.step (v := (.agg [(.d (.slice false 2 (x.sigs.map Sgn.d))), (.d (.slice false 1 (x.codes.map D.str))), (.d (.slice false 4 (x.arcs.map Arc.d)))])) rfl (.pure (.loadPtrA _ _ rfl ag52 sz52 rfl rfl (Nat.le_of_ble_eq_true rfl) rfl)) rfl rfl ?_
  refine Ch.step (v := (.row 11000)) rfl (.call 11000 137 _ _ _ en137 rfl (.inl rfl) (.cons (.lend (.agg (.cons (.d _) (.cons (.d _) (.cons (.d _) .nil))) rfl)) .nil) rfl (sol (solid_row (fun _ => rfl) _) rfl) (sp_impl_labelMasks x (by first | assumption | omega | (rw [List.length_take]; omega) | (have := bulkF_mem hb _ (getD_mem (d := default) (by omega)); assumption) | (unfold bulkS at *; omega) | (simp_all; done)) (by assumption)) (.skip _ _ .nil) rfl) rfl rfl ?_
  refine Ch.step (v := (.row 9000)) rfl (.pure (.assign _ rfl rfl)) rfl rfl ?_
  refine Ch.step (v := (.row 11000)) rfl (.pure (.assign _ rfl rfl)) rfl rfl ?_
  refine Ch.nil ?_
  refine T_seq ?_
  refine T_seq ?_
  refine T_region hc ?_
  refine Ch.step (v := (.ptr 2000 2)) rfl (.pure (.fldPtr _ _ _ rfl fld52_2 rfl)) rfl rfl ?_
  refine Ch.step (v := (.d (.slice false 4 (x.arcs.map Arc.d)))) rfl (.pure (.loadPtr1 _ _ rfl ag50 rfl rfl rfl)) rfl rfl ?_
  refine Ch.step (v := (.d (.int .i64 ((x.arcs.length : Nat) : Int)))) rfl (.pure (.len _ _ 102 rfl Try.underlying50 (.sh _ _) (by simp))) rfl rfl ?_
  refine Ch.step (v := (.d (.int .i64 0))) rfl (.pure (.move _ rfl rfl)) rfl rfl ?_
  refine Ch.nil ?_
  refine T_block ?_
  refine T_loop (ι := Nat) (fun k => { n := 48, sl := [(1, (.d (.int .i64 sig))), (5, (.row 5)), (6, (.row 11000)), (13, (.d (.slice false 4 (x.arcs.map Arc.d)))), (14, (.d (.int .i64 ((x.arcs.length : Nat) : Int)))), (15, (.d (.int .i64 ((k : Nat) : Int))))], hp := [(5, (some (.row 1 ((disK x sig k).map (fun n : Int => D.int .i64 n))))), (11000, (some (.row 1 ((masksL x).map (fun n : Nat => D.int .i64 (n : Int))))))], pin := [] }) (fun k => k ≤ x.arcs.length) (fun k => x.arcs.length - k) ⟨0, (by omega), (Wk.ren [(5, 9000)] rfl rfl rfl rfl (And.intro rfl (And.intro rfl (And.intro rfl (And.intro rfl (And.intro rfl (And.intro (vI (by first | rfl | omega | (simp; done) | (simp; omega))) trivial)))))) (And.intro (oR (by first | rfl | (exact push rfl (selTo_yes (disB_yes hx (by omega) hs.1 (by assumption) (by assumption)))) | (exact congrArg (List.map _) (selTo_no (disB_same (by assumption)))) | (exact congrArg (List.map _) (selTo_no (disB_no hx (by omega) hs.1 (by assumption)))))) (And.intro rfl trivial)))⟩ (fun k hp0 => ?_)
  have hq := disK_le x sig k
  refine T_seq ?_
  refine T_region hc ?_
  refine Ch.step (v := (.d (.bool (decide (((k : Nat) : Int) < ((x.arcs.length : Nat) : Int)))))) rfl (.pure (.int _ _ _ _ _ rfl rfl rfl rfl)) rfl rfl ?_
  refine Ch.nil ?_
  refine T_seq ?_
  refine T_cond (b := (decide (((k : Nat) : Int) < ((x.arcs.length : Nat) : Int)))) rfl (fun h1 => ?_) (fun h1 => ?_)
  · replace h1 := of_decide_eq_true h1
    try have hek := hx.ends _ (getD_mem (l := x.arcs) (j := k) (d := default) (by omega))
    try have hsk := hs8 _ (getD_mem (l := x.arcs) (j := k) (d := default) (by omega))
    have hma := hm6 (x.arcs.getD k default).src.toNat
    have hmb := hm6 (x.arcs.getD k default).dst.toNat
    refine T_skip ?_
    refine T_seq ?_
    refine T_block ?_
    refine T_seq ?_
    refine T_region hc ?_
    refine Ch.step (v := (.d (.int .i64 ((k : Nat) : Int)))) rfl (.pure (.move _ rfl rfl)) rfl rfl ?_
    refine Ch.step (v := (.d (.ref (.agg [(.int .i64 ((x.arcs.getD k default).src)), (.int .i64 ((x.arcs.getD k default).sig)), (.bool ((x.arcs.getD k default).up)), (.int .i64 ((x.arcs.getD k default).dst))])))) rfl (.pure (.idx _ _ _ 102 (k) rfl Try.underlying50 sz102 rfl rfl rfl (get_map _ (by first | omega | (simp only [List.length_map, List.length_append, List.length_take, List.length_drop, List.length_cons, List.length_nil]; omega) | (simp; omega) | (simp; done))))) rfl rfl ?_
    refine Ch.step (v := (.d (.agg [(.int .i64 ((x.arcs.getD k default).src)), (.int .i64 ((x.arcs.getD k default).sig)), (.bool ((x.arcs.getD k default).up)), (.int .i64 ((x.arcs.getD k default).dst))]))) rfl (.pure (.loadRefA _ _ rfl ag102 sz102 rfl)) rfl rfl ?_
    refine Ch.step (v := (.ptr 8000 0)) rfl (.alloc 8000 _ rfl zer102) rfl rfl ?_
    refine Ch.step (v := (.d (.int .i64 ((k : Nat) : Int)))) rfl (.pure (.assign _ rfl rfl)) rfl rfl ?_
    refine Ch.step (v := .junk) rfl (.storePtr _ _ _ rfl rfl rfl (.aggD _) sz102 (Nat.le_of_ble_eq_true rfl)) rfl rfl ?_
    refine Ch.nil ?_
    refine T_seq ?_
    refine T_regionD hc (by kernel_rfl) ?_
    refine ChD.step (v := (.ptr 8000 1)) [] rfl (.pure (.fldPtr _ _ _ rfl fld102_1 rfl)) rfl rfl ?_
    refine ChD.step (v := (.d (.int .i64 ((x.arcs.getD k default).sig)))) [8000] rfl (.pure (.loadPtr1 _ _ rfl ag3 rfl rfl rfl)) rfl rfl ?_
    refine ChD.step (v := (.d (.int .i64 sig))) [] rfl (.pure (.move _ rfl rfl)) rfl rfl ?_
    refine ChD.step (v := (.d (.bool (!(decide (((x.arcs.getD k default).sig) = sig)))))) [] rfl (.pure (.int _ _ _ _ _ rfl rfl rfl rfl)) rfl rfl ?_
    refine ChD.step (v := (.d (.bool (!(decide (((x.arcs.getD k default).sig) = sig)))))) [] rfl (.pure (.move _ rfl rfl)) rfl rfl ?_
    cases h2 : (decide (((x.arcs.getD k default).sig) = sig)) with
    | true =>
      replace h2 := of_decide_eq_true h2
      refine ChD.skip rfl rfl ?_
      refine ChD.skip rfl rfl ?_
      refine ChD.skip rfl rfl ?_
      refine ChD.skip rfl rfl ?_
      refine ChD.skip rfl rfl ?_
      refine ChD.skip rfl rfl ?_
      refine ChD.skip rfl rfl ?_
      refine ChD.skip rfl rfl ?_
      refine ChD.skip rfl rfl ?_
      refine ChD.skip rfl rfl ?_
      refine ChD.skip rfl rfl ?_
      refine ChD.skip rfl rfl ?_
      refine ChD.skip rfl rfl ?_
      refine ChD.skip rfl rfl ?_
      refine ChD.skip rfl rfl ?_
      refine ChD.skip rfl rfl ?_
      refine ChD.step (v := (.d (.bool false))) [] rfl (.pure (.pickF _ _ _ rfl rfl rfl)) rfl rfl ?_
      refine ChD.nil (And.intro ?_ (by kernel_rfl))
      refine T_cond (b := false) rfl (fun h => nomatch h) (fun _ => ?_)
      refine T_skip ?_
      refine T_region hc ?_
      refine Ch.step (v := (.d (.int .i64 (((k : Nat) : Int) + 1)))) rfl (.pure (.int _ _ _ _ _ rfl rfl rfl (intV_add (by first | omega | (simp only [List.length_map, List.length_append, List.length_take, List.length_drop, List.length_cons, List.length_nil]; omega) | (simp; omega) | (simp; done)) (by first | omega | (simp only [List.length_map, List.length_append, List.length_take, List.length_drop, List.length_cons, List.length_nil]; omega) | (simp; omega) | (simp; done))))) rfl rfl ?_
      refine Ch.step (v := (.d (.int .i64 (((k : Nat) : Int) + 1)))) rfl (.pure (.move _ rfl rfl)) rfl rfl ?_
      refine Ch.nil ?_
      refine Exists.intro (k + 1) (And.intro (by omega) (And.intro (by first | omega | (dsimp only; omega)) (Wk.of rfl rfl (And.intro rfl (And.intro rfl (And.intro rfl (And.intro rfl (And.intro rfl (And.intro (vI (by first | rfl | omega | (simp; done) | (simp; omega))) trivial)))))) (And.intro (oR (by first | rfl | (exact push rfl (selTo_yes (disB_yes hx (by omega) hs.1 (by assumption) (by assumption)))) | (exact congrArg (List.map _) (selTo_no (disB_same (by assumption)))) | (exact congrArg (List.map _) (selTo_no (disB_no hx (by omega) hs.1 (by assumption)))))) (And.intro rfl trivial)))))
    | false =>
      replace h2 := of_decide_eq_false h2
      refine ChD.step (v := (.row 11000)) [] rfl (.pure (.move _ rfl rfl)) rfl rfl ?_
      refine ChD.step (v := (.ptr 8000 0)) [] rfl (.pure (.fldPtr _ _ _ rfl fld102_0 rfl)) rfl rfl ?_
      refine ChD.step (v := (.d (.int .i64 ((x.arcs.getD k default).src)))) [8000] rfl (.pure (.loadPtr1 _ _ rfl ag3 rfl rfl rfl)) rfl rfl ?_
      refine ChD.step (v := (.el 11000 1 ((((x.arcs.getD k default).src)).toNat) 0)) [11000] rfl (.pure (.idxRow _ _ _ 3 ((((x.arcs.getD k default).src)).toNat) rfl Try.underlying36 sz3 rfl rfl rfl (by omega) (by first | omega | (simp only [List.length_map, List.length_set]; omega) | (simp; omega)))) rfl rfl ?_
      refine ChD.step (v := (.d (.int .i64 ((((masksL x).getD ((((x.arcs.getD k default).src)).toNat) default) : Nat) : Int)))) [11000] rfl (.pure (.loadEl1 _ _ rfl ag3 rfl rfl (get_map _ (by first | omega | (simp only [List.length_map, List.length_append, List.length_take, List.length_drop, List.length_cons, List.length_nil]; omega) | (simp; omega) | (simp; done))) rfl rfl rfl)) rfl rfl ?_
      refine ChD.step (v := (.row 11000)) [] rfl (.pure (.move _ rfl rfl)) rfl rfl ?_
      refine ChD.step (v := (.ptr 8000 3)) [] rfl (.pure (.fldPtr _ _ _ rfl fld102_3 rfl)) rfl rfl ?_
      refine ChD.step (v := (.d (.int .i64 ((x.arcs.getD k default).dst)))) [8000] rfl (.pure (.loadPtr1 _ _ rfl ag3 rfl rfl rfl)) rfl rfl ?_
      refine ChD.step (v := (.el 11000 1 ((((x.arcs.getD k default).dst)).toNat) 0)) [11000] rfl (.pure (.idxRow _ _ _ 3 ((((x.arcs.getD k default).dst)).toNat) rfl Try.underlying36 sz3 rfl rfl rfl (by omega) (by first | omega | (simp only [List.length_map, List.length_set]; omega) | (simp; omega)))) rfl rfl ?_
      refine ChD.step (v := (.d (.int .i64 ((((masksL x).getD ((((x.arcs.getD k default).dst)).toNat) default) : Nat) : Int)))) [11000] rfl (.pure (.loadEl1 _ _ rfl ag3 rfl rfl (get_map _ (by first | omega | (simp only [List.length_map, List.length_append, List.length_take, List.length_drop, List.length_cons, List.length_nil]; omega) | (simp; omega) | (simp; done))) rfl rfl rfl)) rfl rfl ?_
      refine ChD.step (v := (.d (.int .i64 ((andn ((masksL x).getD ((((x.arcs.getD k default).src)).toNat) default) ((masksL x).getD ((((x.arcs.getD k default).dst)).toNat) default) : Nat) : Int)))) [] rfl (.pure (.int _ _ _ _ _ rfl rfl rfl (i64_andNot (a := ((masksL x).getD ((((x.arcs.getD k default).src)).toNat) default)) (b := ((masksL x).getD ((((x.arcs.getD k default).dst)).toNat) default)) (by first | omega | (simp only [List.length_map, List.length_append, List.length_take, List.length_drop, List.length_cons, List.length_nil]; omega) | (simp; omega) | (simp; done)) (by first | omega | (simp only [List.length_map, List.length_append, List.length_take, List.length_drop, List.length_cons, List.length_nil]; omega) | (simp; omega) | (simp; done))))) rfl rfl ?_
      refine ChD.step (v := (.d (.int .i64 sig))) [] rfl (.pure (.move _ rfl rfl)) rfl rfl ?_
      refine ChD.step (v := (.d (.int .i64 (2 * sig)))) [] rfl (.pure (.int _ _ _ _ _ rfl rfl rfl (intV_mul (by first | omega | (simp only [List.length_map, List.length_append, List.length_take, List.length_drop, List.length_cons, List.length_nil]; omega) | (simp; omega) | (simp; done)) (by first | omega | (simp only [List.length_map, List.length_append, List.length_take, List.length_drop, List.length_cons, List.length_nil]; omega) | (simp; omega) | (simp; done))))) rfl rfl ?_
      refine ChD.step (v := (.d (.int .i64 (((andn ((masksL x).getD ((((x.arcs.getD k default).src)).toNat) default) ((masksL x).getD ((((x.arcs.getD k default).dst)).toNat) default)) >>> (((2 * sig)).toNat) : Nat) : Int)))) [] rfl (.pure (.shift _ _ _ _ _ rfl rfl rfl (i64_shr (m := andn ((masksL x).getD ((((x.arcs.getD k default).src)).toNat) default) ((masksL x).getD ((((x.arcs.getD k default).dst)).toNat) default)) (n := ((2 * sig)).toNat) (by omega) (by first | omega | (simp only [List.length_map, List.length_append, List.length_take, List.length_drop, List.length_cons, List.length_nil]; omega) | (simp; omega) | (simp; done))))) rfl rfl ?_
      refine ChD.step (v := (.d (.int .i64 ((two (andn ((masksL x).getD ((((x.arcs.getD k default).src)).toNat) default) ((masksL x).getD ((((x.arcs.getD k default).dst)).toNat) default)) (((2 * sig)).toNat) : Nat) : Int)))) [] rfl (.pure (.int _ _ _ _ _ rfl rfl rfl (i64_and3 ((andn ((masksL x).getD ((((x.arcs.getD k default).src)).toNat) default) ((masksL x).getD ((((x.arcs.getD k default).dst)).toNat) default)) >>> (((2 * sig)).toNat))))) rfl rfl ?_
      refine ChD.step (v := (.d (.bool (!(decide (((two (andn ((masksL x).getD ((((x.arcs.getD k default).src)).toNat) default) ((masksL x).getD ((((x.arcs.getD k default).dst)).toNat) default)) (((2 * sig)).toNat) : Nat) : Int) = 0)))))) [] rfl (.pure (.int _ _ _ _ _ rfl rfl rfl rfl)) rfl rfl ?_
      refine ChD.step (v := (.d (.bool (!(decide (((two (andn ((masksL x).getD ((((x.arcs.getD k default).src)).toNat) default) ((masksL x).getD ((((x.arcs.getD k default).dst)).toNat) default)) (((2 * sig)).toNat) : Nat) : Int) = 0)))))) [] rfl (.pure (.pickT _ _ _ rfl rfl rfl)) rfl rfl ?_
      refine ChD.nil (And.intro ?_ (by kernel_rfl))
      refine T_cond (b := (!(decide (((two (andn ((masksL x).getD ((((x.arcs.getD k default).src)).toNat) default) ((masksL x).getD ((((x.arcs.getD k default).dst)).toNat) default)) (((2 * sig)).toNat) : Nat) : Int) = 0)))) rfl (fun h3 => ?_) (fun h3 => ?_)
      · replace h3 := nott h3
        replace h3 := of_decide_eq_false h3
        refine T_region hc ?_
        refine Ch.step (v := (.row 5)) rfl (.pure (.move _ rfl rfl)) rfl rfl ?_
        refine Ch.step (v := (.d (.int .i64 ((k : Nat) : Int)))) rfl (.pure (.move _ rfl rfl)) rfl rfl ?_
        refine Ch.step (v := (.row 44000)) rfl (.slice 44000 _ 3 _ rfl sty36 (xs := [.tmp 43]) rfl rfl (.cons (.d _) .nil) rfl rfl (by decide)) rfl rfl ?_
        refine Ch.step (v := (.row 45000)) rfl (.append 45000 _ _ _ 3 rfl sty36 (by decide) (.rowK rfl) (.inr ⟨_, rfl, rfl⟩) (.row rfl rfl) rfl (by first | omega | (simp only [List.length_append, List.length_map, List.length_cons, List.length_nil]; omega) | (simp; omega) | (simp; done))) rfl rfl ?_
        refine Ch.step (v := (.row 45000)) rfl (.pure (.assign _ rfl rfl)) rfl rfl ?_
        refine Ch.nil ?_
        refine T_region hc ?_
        refine Ch.step (v := (.d (.int .i64 (((k : Nat) : Int) + 1)))) rfl (.pure (.int _ _ _ _ _ rfl rfl rfl (intV_add (by first | omega | (simp only [List.length_map, List.length_append, List.length_take, List.length_drop, List.length_cons, List.length_nil]; omega) | (simp; omega) | (simp; done)) (by first | omega | (simp only [List.length_map, List.length_append, List.length_take, List.length_drop, List.length_cons, List.length_nil]; omega) | (simp; omega) | (simp; done))))) rfl rfl ?_
        refine Ch.step (v := (.d (.int .i64 (((k : Nat) : Int) + 1)))) rfl (.pure (.move _ rfl rfl)) rfl rfl ?_
        refine Ch.nil ?_
        refine Exists.intro (k + 1) (And.intro (by omega) (And.intro (by first | omega | (dsimp only; omega)) (Wk.ren [(5, 45000)] rfl rfl rfl rfl (And.intro rfl (And.intro rfl (And.intro rfl (And.intro rfl (And.intro rfl (And.intro (vI (by first | rfl | omega | (simp; done) | (simp; omega))) trivial)))))) (And.intro (oR (by first | rfl | (exact push rfl (selTo_yes (disB_yes hx (by omega) hs.1 (by assumption) (by assumption)))) | (exact congrArg (List.map _) (selTo_no (disB_same (by assumption)))) | (exact congrArg (List.map _) (selTo_no (disB_no hx (by omega) hs.1 (by assumption)))))) (And.intro rfl trivial)))))
      · replace h3 := notf h3
        replace h3 := of_decide_eq_true h3
        refine T_skip ?_
        refine T_region hc ?_
        refine Ch.step (v := (.d (.int .i64 (((k : Nat) : Int) + 1)))) rfl (.pure (.int _ _ _ _ _ rfl rfl rfl (intV_add (by first | omega | (simp only [List.length_map, List.length_append, List.length_take, List.length_drop, List.length_cons, List.length_nil]; omega) | (simp; omega) | (simp; done)) (by first | omega | (simp only [List.length_map, List.length_append, List.length_take, List.length_drop, List.length_cons, List.length_nil]; omega) | (simp; omega) | (simp; done))))) rfl rfl ?_
        refine Ch.step (v := (.d (.int .i64 (((k : Nat) : Int) + 1)))) rfl (.pure (.move _ rfl rfl)) rfl rfl ?_
        refine Ch.nil ?_
        refine Exists.intro (k + 1) (And.intro (by omega) (And.intro (by first | omega | (dsimp only; omega)) (Wk.of rfl rfl (And.intro rfl (And.intro rfl (And.intro rfl (And.intro rfl (And.intro rfl (And.intro (vI (by first | rfl | omega | (simp; done) | (simp; omega))) trivial)))))) (And.intro (oR (by first | rfl | (exact push rfl (selTo_yes (disB_yes hx (by omega) hs.1 (by assumption) (by assumption)))) | (exact congrArg (List.map _) (selTo_no (disB_same (by assumption)))) | (exact congrArg (List.map _) (selTo_no (disB_no hx (by omega) hs.1 (by assumption)))))) (And.intro rfl trivial)))))
  · replace h1 := of_decide_eq_false h1
    try have hek := hx.ends _ (getD_mem (l := x.arcs) (j := k) (d := default) (by omega))
    try have hsk := hs8 _ (getD_mem (l := x.arcs) (j := k) (d := default) (by omega))
    have hma := hm6 (x.arcs.getD k default).src.toNat
    have hmb := hm6 (x.arcs.getD k default).dst.toNat
    refine T_exit ?_
    refine T_seq ?_
    refine T_region hc ?_
    refine Ch.step (v := (.row 5)) rfl (.pure (.move _ rfl rfl)) rfl rfl ?_
    refine Ch.step (v := (.row 5)) rfl (.pure (.assign _ rfl rfl)) rfl rfl ?_
    refine Ch.nil ?_
    refine T_ret ?_
    refine And.intro (.inr rfl) ?_
    exact Exists.intro [(.row 5)] (Exists.intro [] (Exists.intro [5] (And.intro (.cons (.tmp 4 rfl) .nil) (And.intro (.cons (.any _) (.cons (.any _) .nil)) (And.intro (Exp.of (congrArg (D.slice true 1) (by rw [disL, setL, show x.arcs.length = k by omega]; rfl)) (.row rfl)) (And.intro rfl rfl))))))

theorem sp_impl_disablings (x : Sgr) (hb : x.bulk ≤ 1048576) (hx : SgOk x) : Sp Try.prog 83 [(.agg [(.slice false 2 (x.sigs.map Sgn.d)), (.slice false 1 (x.codes.map D.str)), (.slice false 4 (x.arcs.map Arc.d))])] [.any] (.int .i64 ((cdF x : Nat) : Int)) := by
  refine Sp_intro (lend := true) Try.func83 rfl rfl rfl (fun _ => rfl) (fun c hc hX => ?_)
  obtain ⟨hp0, hp1, hp2⟩ := Sgr.parts hb
  have hn0 := bulkF_len hp0
  have hn1 := bulk_len hp1
  have hx1 := bulk_mem hp1
  have hn2 := bulkF_len hp2; have hx8 := hx.eight; have hxl := hx.len; have hxf := hx.few; have hs8 : ∀ a ∈ x.arcs, a.sig < 8 := fun a ha => (by have := hx.sig a ha; omega)
  refine T_seq ?_
  refine T_region hc ?_
  refine Ch.step (v := (.ptr 1000 0)) rfl (.box 1000 _ _ rfl (.aggD _)) rfl rfl ?_
  refine Ch.step (v := (.d (.int .i64 0))) rfl (.pure (.assign _ rfl rfl)) rfl rfl ?_
  refine Ch.nil ?_
  refine T_seq ?_
  refine T_region hc ?_
  refine Ch.step (v := (.d (.int .i64 0))) rfl (.pure (.assign _ rfl rfl)) rfl rfl ?_
  refine Ch.nil ?_
  refine T_seq ?_
  refine T_seq ?_
  refine T_region hc ?_
  refine Ch.step (v := (.agg [(.d (.slice false 2 (x.sigs.map Sgn.d))), (.d (.slice false 1 (x.codes.map D.str))), (.d (.slice false 4 (x.arcs.map Arc.d)))])) rfl (.pure (.loadPtrA _ _ rfl ag52 sz52 rfl rfl (Nat.le_of_ble_eq_true rfl) rfl)) rfl rfl ?_
  refine Ch.step (v := (.row 7000)) rfl (.call 7000 112 _ _ _ en112 rfl (.inl rfl) (.cons (.lend (.agg (.cons (.d _) (.cons (.d _) (.cons (.d _) .nil))) rfl)) .nil) rfl (sol (solid_row (fun _ => rfl) _) rfl) (sp_impl_outputs x (by first | assumption | (show Sgr.bulk (Sgr.mk _ [] []) ≤ 1048576; unfold Sgr.bulk bulkS bulkF; simp only [List.length_nil, List.map_nil, List.sum_nil]; unfold bulkF at *; omega))) (.skip _ _ .nil) rfl) rfl rfl ?_
  refine Ch.step (v := (.d (.int .i64 (((outsL x.sigs).length : Nat) : Int)))) rfl (.pure (.len _ _ 3 rfl Try.underlying36 (.row rfl) (by simp))) rfl rfl ?_
  refine Ch.step (v := (.d (.int .i64 0))) rfl (.pure (.move _ rfl rfl)) rfl rfl ?_
  refine Ch.nil ?_
  refine T_block ?_
  refine T_loop (ι := Nat) (fun k => { n := 21, sl := [(1, (.ptr 1000 0)), (3, (.d (.int .i64 ((cdM x k : Nat) : Int)))), (7, (.row 7000)), (8, (.d (.int .i64 (((outsL x.sigs).length : Nat) : Int)))), (9, (.d (.int .i64 ((k : Nat) : Int))))], hp := [(1000, (some (.box [(.d (.slice false 2 (x.sigs.map Sgn.d))), (.d (.slice false 1 (x.codes.map D.str))), (.d (.slice false 4 (x.arcs.map Arc.d)))]))), (7000, (some (.row 1 ((outsL x.sigs).map (fun n : Int => D.int .i64 n)))))], pin := [] }) (fun k => k ≤ (outsL x.sigs).length) (fun k => (outsL x.sigs).length - k) ⟨0, (by omega), (Wk.of rfl rfl (And.intro rfl (And.intro (vI (by first | rfl | (rw [cdM_succ (by omega)]; rfl) | (rw [cdM_succ (by omega)]; omega))) (And.intro rfl (And.intro rfl (And.intro (vI (by first | rfl | omega | (simp; done) | (simp; omega))) trivial))))) (And.intro rfl (And.intro rfl trivial)))⟩ (fun k hp0 => ?_)
  have hol := outs_len x.sigs; have hcm := cdM_le hx k hp0
  refine T_seq ?_
  refine T_region hc ?_
  refine Ch.step (v := (.d (.bool (decide (((k : Nat) : Int) < (((outsL x.sigs).length : Nat) : Int)))))) rfl (.pure (.int _ _ _ _ _ rfl rfl rfl rfl)) rfl rfl ?_
  refine Ch.nil ?_
  refine T_seq ?_
  refine T_cond (b := (decide (((k : Nat) : Int) < (((outsL x.sigs).length : Nat) : Int)))) rfl (fun h1 => ?_) (fun h1 => ?_)
  · replace h1 := of_decide_eq_true h1
    try have hdl := Nat.le_trans (disL_le x ((outsL x.sigs).getD k default)) hxf
    refine T_skip ?_
    refine T_seq ?_
    refine T_block ?_
    refine T_seq ?_
    refine T_region hc ?_
    refine Ch.step (v := (.el 7000 1 k 0)) rfl (.pure (.idxRow _ _ _ 3 (k) rfl Try.underlying36 sz3 rfl rfl rfl rfl (by first | omega | (simp only [List.length_map, List.length_set]; omega) | (simp; omega)))) rfl rfl ?_
    refine Ch.step (v := (.d (.int .i64 ((outsL x.sigs).getD k default)))) rfl (.pure (.loadEl1 _ _ rfl ag3 rfl rfl (get_map _ (by first | omega | (simp only [List.length_map, List.length_append, List.length_take, List.length_drop, List.length_cons, List.length_nil]; omega) | (simp; omega) | (simp; done))) rfl rfl rfl)) rfl rfl ?_
    refine Ch.step (v := (.d (.int .i64 ((outsL x.sigs).getD k default)))) rfl (.pure (.assign _ rfl rfl)) rfl rfl ?_
    refine Ch.nil ?_
    refine T_region hc ?_
    refine Ch.step (v := (.d (.int .i64 ((cdM x k : Nat) : Int)))) rfl (.pure (.move _ rfl rfl)) rfl rfl ?_
    refine Ch.step (v := (.agg [(.d (.slice false 2 (x.sigs.map Sgn.d))), (.d (.slice false 1 (x.codes.map D.str))), (.d (.slice false 4 (x.arcs.map Arc.d)))])) rfl (.pure (.loadPtrA _ _ rfl ag52 sz52 rfl rfl (Nat.le_of_ble_eq_true rfl) rfl)) rfl rfl ?_
    refine Ch.step (v := (.d (.int .i64 ((outsL x.sigs).getD k default)))) rfl (.pure (.move _ rfl rfl)) rfl rfl ?_
    refine Ch.step (v := (.row 16000)) rfl (.call 16000 145 _ _ _ en145 rfl (.inl rfl) (.cons (.lend (.agg (.cons (.d _) (.cons (.d _) (.cons (.d _) .nil))) rfl)) (.cons (.d _) .nil)) rfl (sol (solid_row (fun _ => rfl) _) rfl) (sp_impl_disabling x ((outsL x.sigs).getD k default) (by first | assumption | omega | (rw [List.length_take]; omega) | (have := bulkF_mem hb _ (getD_mem (d := default) (by omega)); assumption) | (unfold bulkS at *; omega) | (simp_all; done)) (by assumption) (by first | assumption | exact outs_in _ (getD_mem (by omega)))) (.skip _ _ (.skip _ _ .nil)) rfl) rfl rfl ?_
    refine Ch.step (v := (.d (.int .i64 (((disL x ((outsL x.sigs).getD k default)).length : Nat) : Int)))) rfl (.pure (.len _ _ 3 rfl Try.underlying36 (.row rfl) (by simp))) rfl rfl ?_
    refine Ch.step (v := (.d (.int .i64 (((cdM x k : Nat) : Int) + (((disL x ((outsL x.sigs).getD k default)).length : Nat) : Int))))) rfl (.pure (.int _ _ _ _ _ rfl rfl rfl (intV_add (by first | omega | (simp only [List.length_map, List.length_append, List.length_take, List.length_drop, List.length_cons, List.length_nil]; omega) | (simp; omega) | (simp; done)) (by first | omega | (simp only [List.length_map, List.length_append, List.length_take, List.length_drop, List.length_cons, List.length_nil]; omega) | (simp; omega) | (simp; done))))) rfl rfl ?_
    refine Ch.step (v := (.d (.int .i64 (((cdM x k : Nat) : Int) + (((disL x ((outsL x.sigs).getD k default)).length : Nat) : Int))))) rfl (.pure (.assign _ rfl rfl)) rfl rfl ?_
    refine Ch.nil ?_
    refine T_region hc ?_
    refine Ch.step (v := (.d (.int .i64 (((k : Nat) : Int) + 1)))) rfl (.pure (.int _ _ _ _ _ rfl rfl rfl (intV_add (by first | omega | (simp only [List.length_map, List.length_append, List.length_take, List.length_drop, List.length_cons, List.length_nil]; omega) | (simp; omega) | (simp; done)) (by first | omega | (simp only [List.length_map, List.length_append, List.length_take, List.length_drop, List.length_cons, List.length_nil]; omega) | (simp; omega) | (simp; done))))) rfl rfl ?_
    refine Ch.step (v := (.d (.int .i64 (((k : Nat) : Int) + 1)))) rfl (.pure (.move _ rfl rfl)) rfl rfl ?_
    refine Ch.nil ?_
    refine Exists.intro (k + 1) (And.intro (by omega) (And.intro (by first | omega | (dsimp only; omega)) (Wk.of rfl rfl (And.intro rfl (And.intro (vI (by first | rfl | (rw [cdM_succ (by omega)]; rfl) | (rw [cdM_succ (by omega)]; omega))) (And.intro rfl (And.intro rfl (And.intro (vI (by first | rfl | omega | (simp; done) | (simp; omega))) trivial))))) (And.intro rfl (And.intro rfl trivial)))))
  · replace h1 := of_decide_eq_false h1
    try have hdl := Nat.le_trans (disL_le x ((outsL x.sigs).getD k default)) hxf
    refine T_exit ?_
    refine T_seq ?_
    refine T_region hc ?_
    refine Ch.step (v := (.d (.int .i64 ((cdM x k : Nat) : Int)))) rfl (.pure (.move _ rfl rfl)) rfl rfl ?_
    refine Ch.step (v := (.d (.int .i64 ((cdM x k : Nat) : Int)))) rfl (.pure (.assign _ rfl rfl)) rfl rfl ?_
    refine Ch.nil ?_
    refine T_ret ?_
    refine And.intro (.inr rfl) ?_
    exact Exists.intro [(.d (.int .i64 ((cdM x k : Nat) : Int)))] (Exists.intro [] (Exists.intro [] (And.intro (.cons (.tmp 2 rfl) .nil) (And.intro (.cons (.any _) .nil) (And.intro (Exp.of (congrArg (D.int .i64) (by rw [cdM_all (by omega)])) (.d _)) (And.intro rfl rfl))))))

theorem sp_spec_l10Is (a : Arc) (sig : Int) (up : Bool) : Sp Try.prog 171 [(.agg [(.int .i64 a.src), (.int .i64 a.sig), (.bool (a.up)), (.int .i64 a.dst)]), (.int .i64 sig), (.bool (up))] [.any, .any, .any] (.bool (isEd sig up a)) := by
  refine Sp_intro (lend := true) Try.func171 rfl rfl rfl (fun _ => rfl) (fun c hc hX => ?_)
  refine T_seq ?_
  refine T_region hc ?_
  refine Ch.step (v := (.ptr 3000 0)) rfl (.box 3000 _ _ rfl (.aggD _)) rfl rfl ?_
  refine Ch.step (v := (.d (.bool false))) rfl (.pure (.assign _ rfl rfl)) rfl rfl ?_
  refine Ch.nil ?_
  refine T_seq ?_
  refine T_region hc ?_
  refine Ch.step (v := (.ptr 3000 1)) rfl (.pure (.fldPtr _ _ _ rfl fld102_1 rfl)) rfl rfl ?_
  refine Ch.step (v := (.d (.int .i64 a.sig))) rfl (.pure (.loadPtr1 _ _ rfl ag3 rfl rfl rfl)) rfl rfl ?_
  refine Ch.step (v := (.d (.int .i64 sig))) rfl (.pure (.move _ rfl rfl)) rfl rfl ?_
  refine Ch.step (v := (.d (.bool (decide (a.sig = sig))))) rfl (.pure (.int _ _ _ _ _ rfl rfl rfl rfl)) rfl rfl ?_
  refine Ch.step (v := (.d (.bool (decide (a.sig = sig))))) rfl (.pure (.move _ rfl rfl)) rfl rfl ?_
  cases h1 : (decide (a.sig = sig)) with
  | true =>
    replace h1 := of_decide_eq_true h1
    refine Ch.step (v := (.ptr 3000 2)) rfl (.pure (.fldPtr _ _ _ rfl fld102_2 rfl)) rfl rfl ?_
    refine Ch.step (v := (.d (.bool (a.up)))) rfl (.pure (.loadPtr1 _ _ rfl ag4 rfl rfl rfl)) rfl rfl ?_
    refine Ch.step (v := (.d (.bool (up)))) rfl (.pure (.move _ rfl rfl)) rfl rfl ?_
    refine Ch.step (v := (.d (.bool (decide ((a.up) = (up)))))) rfl (.pure (.eqB _ _ _ _ rfl Try.underlying4 rfl rfl)) rfl rfl ?_
    refine Ch.step (v := (.d (.bool (decide ((a.up) = (up)))))) rfl (.pure (.pickT _ _ _ rfl rfl rfl)) rfl rfl ?_
    refine Ch.step (v := (.d (.bool (decide ((a.up) = (up)))))) rfl (.pure (.assign _ rfl rfl)) rfl rfl ?_
    refine Ch.nil ?_
    refine T_ret ?_
    refine And.intro (.inr rfl) ?_
    exact Exists.intro [(.d (.bool (decide ((a.up) = (up)))))] (Exists.intro [] (Exists.intro [] (And.intro (.cons (.tmp 6 rfl) .nil) (And.intro (.cons (.any _) (.cons (.any _) (.cons (.any _) .nil))) (And.intro (Exp.of (congrArg D.bool (by first | (unfold isEd; simp only [*, decide_true, decide_false, Bool.true_and, Bool.false_and]; done) | (unfold isEd; simp_all; done))) (.d _)) (And.intro rfl rfl))))))
  | false =>
    replace h1 := of_decide_eq_false h1
    refine Ch.skip rfl rfl ?_
    refine Ch.skip rfl rfl ?_
    refine Ch.skip rfl rfl ?_
    refine Ch.skip rfl rfl ?_
    refine Ch.step (v := (.d (.bool false))) rfl (.pure (.pickF _ _ _ rfl rfl rfl)) rfl rfl ?_
    refine Ch.step (v := (.d (.bool false))) rfl (.pure (.assign _ rfl rfl)) rfl rfl ?_
    refine Ch.nil ?_
    refine T_ret ?_
    refine And.intro (.inr rfl) ?_
    exact Exists.intro [(.d (.bool false))] (Exists.intro [] (Exists.intro [] (And.intro (.cons (.tmp 6 rfl) .nil) (And.intro (.cons (.any _) (.cons (.any _) (.cons (.any _) .nil))) (And.intro (Exp.of (congrArg D.bool (by first | (unfold isEd; simp only [*, decide_true, decide_false, Bool.true_and, Bool.false_and]; done) | (unfold isEd; simp_all; done))) (.d _)) (And.intro rfl rfl))))))

set_option maxHeartbeats 1000000 in
theorem sp_spec_l10Excited (x : Sgr) (sig : Int) (up : Bool) (hb : x.bulk ≤ 1048576) (hx : SgOk x) : Sp Try.prog 142 [(.agg [(.slice false 2 (x.sigs.map Sgn.d)), (.slice false 1 (x.codes.map D.str)), (.slice false 4 (x.arcs.map Arc.d))]), (.int .i64 sig), (.bool (up))] [.any, .any, .any] (.slice true 1 ((excS x sig up).map (fun n : Int => D.int .i64 n))) := by
  refine Sp_intro (lend := true) Try.func142 rfl rfl rfl (fun _ => rfl) (fun c hc hX => ?_)
  obtain ⟨hp0, hp1, hp2⟩ := Sgr.parts hb
  have hn0 := bulkF_len hp0
  have hn1 := bulk_len hp1
  have hx1 := bulk_mem hp1
  have hn2 := bulkF_len hp2; have hx8 := hx.eight; have hxl := hx.len; have hxf := hx.few; have hs8 : ∀ a ∈ x.arcs, a.sig < 8 := fun a ha => (by have := hx.sig a ha; omega); have hen := hx.ends
  refine T_seq ?_
  refine T_region hc ?_
  refine Ch.step (v := (.ptr 3000 0)) rfl (.box 3000 _ _ rfl (.aggD _)) rfl rfl ?_
  refine Ch.step (v := (.c (.slice none 0 0))) rfl (.pure (.assign _ rfl rfl)) rfl rfl ?_
  refine Ch.nil ?_
  refine T_seq ?_
  refine T_region hc ?_
  refine Ch.step (v := (.c (.slice none 0 0))) rfl (.pure (.assign _ rfl rfl)) rfl rfl ?_
  refine Ch.nil ?_
  refine T_seq ?_
  refine T_seq ?_
  refine T_region hc ?_
  refine Ch.step (v := (.ptr 3000 2)) rfl (.pure (.fldPtr _ _ _ rfl fld52_2 rfl)) rfl rfl ?_
  refine Ch.step (v := (.d (.slice false 4 (x.arcs.map Arc.d)))) rfl (.pure (.loadPtr1 _ _ rfl ag50 rfl rfl rfl)) rfl rfl ?_
  refine Ch.step (v := (.d (.int .i64 ((x.arcs.length : Nat) : Int)))) rfl (.pure (.len _ _ 102 rfl Try.underlying50 (.sh _ _) (by simp))) rfl rfl ?_
  refine Ch.step (v := (.d (.int .i64 0))) rfl (.pure (.move _ rfl rfl)) rfl rfl ?_
  refine Ch.nil ?_
  refine T_block ?_
  refine T_loop (ι := Nat) (fun k => { n := 27, sl := [(1, (.d (.int .i64 sig))), (2, (.d (.bool (up)))), (7, (.row 7)), (11, (.d (.slice false 4 (x.arcs.map Arc.d)))), (12, (.d (.int .i64 ((x.arcs.length : Nat) : Int)))), (13, (.d (.int .i64 ((k : Nat) : Int))))], hp := [(7, (some (.row 1 ((excTo x sig up k).map (fun n : Int => D.int .i64 n)))))], pin := [] }) (fun k => k ≤ x.arcs.length) (fun k => x.arcs.length - k) ⟨0, (by omega), (Wk.trans (Wk.nilrow 7 900007 1 rfl rfl rfl) (Wk.ren [(7, 900007)] rfl rfl rfl rfl (And.intro rfl (And.intro rfl (And.intro rfl (And.intro rfl (And.intro rfl (And.intro (vI (by first | rfl | omega | (simp; done) | (simp; omega))) trivial)))))) (And.intro (oR (by first | (rw [excTo_zero]; rfl) | (rw [excTo_yes hen (by omega) (by assumption)]; done) | (exact congrArg (List.map _) (excTo_no (by omega) (by assumption))))) trivial)))⟩ (fun k hp0 => ?_)
  have hq := excTo_le x sig up k; have hrs := excTo_rising x sig up k
  refine T_seq ?_
  refine T_region hc ?_
  refine Ch.step (v := (.d (.bool (decide (((k : Nat) : Int) < ((x.arcs.length : Nat) : Int)))))) rfl (.pure (.int _ _ _ _ _ rfl rfl rfl rfl)) rfl rfl ?_
  refine Ch.nil ?_
  refine T_seq ?_
  refine T_cond (b := (decide (((k : Nat) : Int) < ((x.arcs.length : Nat) : Int)))) rfl (fun h1 => ?_) (fun h1 => ?_)
  · replace h1 := of_decide_eq_true h1
    try have hek := hx.ends _ (getD_mem (l := x.arcs) (j := k) (d := default) (by omega))
    try have hsk := hs8 _ (getD_mem (l := x.arcs) (j := k) (d := default) (by omega))
    refine T_skip ?_
    refine T_seq ?_
    refine T_block ?_
    refine T_seq ?_
    refine T_region hc ?_
    refine Ch.step (v := (.d (.ref (.agg [(.int .i64 ((x.arcs.getD k default).src)), (.int .i64 ((x.arcs.getD k default).sig)), (.bool ((x.arcs.getD k default).up)), (.int .i64 ((x.arcs.getD k default).dst))])))) rfl (.pure (.idx _ _ _ 102 (k) rfl Try.underlying50 sz102 rfl rfl rfl (get_map _ (by first | omega | (simp only [List.length_map, List.length_append, List.length_take, List.length_drop, List.length_cons, List.length_nil]; omega) | (simp; omega) | (simp; done))))) rfl rfl ?_
    refine Ch.step (v := (.d (.agg [(.int .i64 ((x.arcs.getD k default).src)), (.int .i64 ((x.arcs.getD k default).sig)), (.bool ((x.arcs.getD k default).up)), (.int .i64 ((x.arcs.getD k default).dst))]))) rfl (.pure (.loadRefA _ _ rfl ag102 sz102 rfl)) rfl rfl ?_
    refine Ch.step (v := (.ptr 9000 0)) rfl (.alloc 9000 _ rfl zer102) rfl rfl ?_
    refine Ch.step (v := .junk) rfl (.storePtr _ _ _ rfl rfl rfl (.aggD _) sz102 (Nat.le_of_ble_eq_true rfl)) rfl rfl ?_
    refine Ch.nil ?_
    refine T_seq ?_
    refine T_region hc ?_
    refine Ch.step (v := (.agg [(.d (.int .i64 ((x.arcs.getD k default).src))), (.d (.int .i64 ((x.arcs.getD k default).sig))), (.d (.bool ((x.arcs.getD k default).up))), (.d (.int .i64 ((x.arcs.getD k default).dst)))])) rfl (.pure (.loadPtrA _ _ rfl ag102 sz102 rfl rfl (Nat.le_of_ble_eq_true rfl) rfl)) rfl rfl ?_
    refine Ch.step (v := (.d (.int .i64 sig))) rfl (.pure (.move _ rfl rfl)) rfl rfl ?_
    refine Ch.step (v := (.d (.bool (up)))) rfl (.pure (.move _ rfl rfl)) rfl rfl ?_
    refine Ch.step (v := (.d (.bool (isEd sig (up) (x.arcs.getD k default))))) rfl (.call 20000 171 _ _ _ en171 rfl (.inl rfl) (.cons (.lend (.agg (.cons (.d _) (.cons (.d _) (.cons (.d _) (.cons (.d _) .nil)))) rfl)) (.cons (.d _) (.cons (.d _) .nil))) rfl rfl (sp_spec_l10Is (x.arcs.getD k default) sig (up)) (.skip _ _ (.skip _ _ (.skip _ _ .nil))) rfl) rfl rfl ?_
    refine Ch.nil ?_
    refine T_cond (b := (isEd sig (up) (x.arcs.getD k default))) rfl (fun h2 => ?_) (fun h2 => ?_)
    · refine T_region hc ?_
      refine Ch.step (v := (.row 7)) rfl (.pure (.move _ rfl rfl)) rfl rfl ?_
      refine Ch.step (v := (.ptr 9000 0)) rfl (.pure (.fldPtr _ _ _ rfl fld102_0 rfl)) rfl rfl ?_
      refine Ch.step (v := (.d (.int .i64 ((x.arcs.getD k default).src)))) rfl (.pure (.loadPtr1 _ _ rfl ag3 rfl rfl rfl)) rfl rfl ?_
      refine Ch.step (v := (.row 24000)) rfl (.call 24000 144 _ _ _ en144 rfl (.inl rfl) (.cons (.row rfl) (.cons (.d _) .nil)) rfl (sol (solid_row (fun _ => rfl) _) rfl) (sp_spec_l1Put (excTo x sig up k) ((x.arcs.getD k default).src) (by first | assumption | omega | (rw [List.length_take]; omega) | (have := bulkF_mem hb _ (getD_mem (d := default) (by omega)); assumption) | (unfold bulkS at *; omega) | (simp_all; done)) (by first | assumption | exact setL_rising _ _)) (.skip _ _ (.skip _ _ .nil)) rfl) rfl rfl ?_
      refine Ch.step (v := (.row 24000)) rfl (.pure (.assign _ rfl rfl)) rfl rfl ?_
      refine Ch.nil ?_
      refine T_region hc ?_
      refine Ch.step (v := (.d (.int .i64 (((k : Nat) : Int) + 1)))) rfl (.pure (.int _ _ _ _ _ rfl rfl rfl (intV_add (by first | omega | (simp only [List.length_map, List.length_append, List.length_take, List.length_drop, List.length_cons, List.length_nil]; omega) | (simp; omega) | (simp; done)) (by first | omega | (simp only [List.length_map, List.length_append, List.length_take, List.length_drop, List.length_cons, List.length_nil]; omega) | (simp; omega) | (simp; done))))) rfl rfl ?_
      refine Ch.step (v := (.d (.int .i64 (((k : Nat) : Int) + 1)))) rfl (.pure (.move _ rfl rfl)) rfl rfl ?_
      refine Ch.nil ?_
      refine Exists.intro (k + 1) (And.intro (by omega) (And.intro (by first | omega | (dsimp only; omega)) (Wk.ren [(7, 24000)] rfl rfl rfl rfl (And.intro rfl (And.intro rfl (And.intro rfl (And.intro rfl (And.intro rfl (And.intro (vI (by first | rfl | omega | (simp; done) | (simp; omega))) trivial)))))) (And.intro (oR (by first | (rw [excTo_zero]; rfl) | (rw [excTo_yes hen (by omega) (by assumption)]; done) | (exact congrArg (List.map _) (excTo_no (by omega) (by assumption))))) trivial))))
    · refine T_skip ?_
      refine T_region hc ?_
      refine Ch.step (v := (.d (.int .i64 (((k : Nat) : Int) + 1)))) rfl (.pure (.int _ _ _ _ _ rfl rfl rfl (intV_add (by first | omega | (simp only [List.length_map, List.length_append, List.length_take, List.length_drop, List.length_cons, List.length_nil]; omega) | (simp; omega) | (simp; done)) (by first | omega | (simp only [List.length_map, List.length_append, List.length_take, List.length_drop, List.length_cons, List.length_nil]; omega) | (simp; omega) | (simp; done))))) rfl rfl ?_
      refine Ch.step (v := (.d (.int .i64 (((k : Nat) : Int) + 1)))) rfl (.pure (.move _ rfl rfl)) rfl rfl ?_
      refine Ch.nil ?_
      refine Exists.intro (k + 1) (And.intro (by omega) (And.intro (by first | omega | (dsimp only; omega)) (Wk.of rfl rfl (And.intro rfl (And.intro rfl (And.intro rfl (And.intro rfl (And.intro rfl (And.intro (vI (by first | rfl | omega | (simp; done) | (simp; omega))) trivial)))))) (And.intro (oR (by first | (rw [excTo_zero]; rfl) | (rw [excTo_yes hen (by omega) (by assumption)]; done) | (exact congrArg (List.map _) (excTo_no (by omega) (by assumption))))) trivial))))
  · replace h1 := of_decide_eq_false h1
    try have hek := hx.ends _ (getD_mem (l := x.arcs) (j := k) (d := default) (by omega))
    try have hsk := hs8 _ (getD_mem (l := x.arcs) (j := k) (d := default) (by omega))
    refine T_exit ?_
    refine T_seq ?_
    refine T_region hc ?_
    refine Ch.step (v := (.row 7)) rfl (.pure (.move _ rfl rfl)) rfl rfl ?_
    refine Ch.step (v := (.row 7)) rfl (.pure (.assign _ rfl rfl)) rfl rfl ?_
    refine Ch.nil ?_
    refine T_ret ?_
    refine And.intro (.inr rfl) ?_
    exact Exists.intro [(.row 7)] (Exists.intro [] (Exists.intro [7] (And.intro (.cons (.tmp 6 rfl) .nil) (And.intro (.cons (.any _) (.cons (.any _) (.cons (.any _) .nil))) (And.intro (Exp.of (congrArg (D.slice true 1) (by rw [excS, show x.arcs.length = k by omega])) (.row rfl)) (And.intro rfl rfl))))))

set_option maxHeartbeats 2000000 in
theorem sp_spec_DisablingArcs (x : Sgr) (sig : Int) (hb : x.bulk ≤ 1048576) : Sp Try.prog 82 [(.agg [(.slice false 2 (x.sigs.map Sgn.d)), (.slice false 1 (x.codes.map D.str)), (.slice false 4 (x.arcs.map Arc.d))]), (.int .i64 sig)] [.any, .any] (.tup [(.slice true 1 ((disV x sig).map (fun n : Int => D.int .i64 n))), (.bool (hasSigB x sig))]) := by
  refine Sp_intro (lend := true) Try.func82 rfl rfl rfl (fun _ => rfl) (fun c hc hX => ?_)
  obtain ⟨hp0, hp1, hp2⟩ := Sgr.parts hb
  have hn0 := bulkF_len hp0
  have hn1 := bulk_len hp1
  have hx1 := bulk_mem hp1
  have hn2 := bulkF_len hp2
  refine T_seq ?_
  refine T_region hc ?_
  refine Ch.step (v := (.ptr 2000 0)) rfl (.box 2000 _ _ rfl (.aggD _)) rfl rfl ?_
  refine Ch.step (v := (.c (.slice none 0 0))) rfl (.pure (.assign _ rfl rfl)) rfl rfl ?_
  refine Ch.step (v := (.d (.bool false))) rfl (.pure (.assign _ rfl rfl)) rfl rfl ?_
  refine Ch.nil ?_
  refine T_seq ?_
  refine T_seq ?_
  refine T_region hc ?_
  refine Ch.step (v := (.agg [(.d (.slice false 2 (x.sigs.map Sgn.d))), (.d (.slice false 1 (x.codes.map D.str))), (.d (.slice false 4 (x.arcs.map Arc.d)))])) rfl (.pure (.loadPtrA _ _ rfl ag52 sz52 rfl rfl (Nat.le_of_ble_eq_true rfl) rfl)) rfl rfl ?_
  refine Ch.step (v := (.d (.int .i64 sig))) rfl (.pure (.move _ rfl rfl)) rfl rfl ?_
  refine Ch.step (v := (.d (.bool (hasSigB x sig)))) rfl (.call 14000 67 _ _ _ en67 rfl (.inl rfl) (.cons (.lend (.agg (.cons (.d _) (.cons (.d _) (.cons (.d _) .nil))) rfl)) (.cons (.d _) .nil)) rfl rfl (sp_spec_l10Asked x sig (by first | assumption | omega | (rw [List.length_take]; omega) | (have := bulkF_mem hb _ (getD_mem (d := default) (by omega)); assumption) | (unfold bulkS at *; omega) | (simp_all; done))) (.skip _ _ (.skip _ _ .nil)) rfl) rfl rfl ?_
  refine Ch.step (v := (.d (.bool (!(hasSigB x sig))))) rfl (.pure (.not _ _ rfl rfl)) rfl rfl ?_
  refine Ch.nil ?_
  refine T_cond (b := (!(hasSigB x sig))) rfl (fun h1 => ?_) (fun h1 => ?_)
  · replace h1 := nott h1
    try have hsg := has_sig h1
    try have hx := sg_has hsg.1
    try have hxl := hx.len
    try have hxf := hx.few
    refine T_seq ?_
    refine T_region hc ?_
    refine Ch.step (v := (.c (.slice none 0 0))) rfl (.pure (.assign _ rfl rfl)) rfl rfl ?_
    refine Ch.step (v := (.d (.bool false))) rfl (.pure (.assign _ rfl rfl)) rfl rfl ?_
    refine Ch.nil ?_
    refine T_ret ?_
    refine And.intro (.inr rfl) ?_
    exact Exists.intro [(.c (.slice none 0 0)), (.d (.bool false))] (Exists.intro [] (Exists.intro [] (And.intro (.cons (.tmp 4 rfl) (.cons (.tmp 5 rfl) .nil)) (And.intro (.cons (.any _) (.cons (.any _) .nil)) (And.intro (.tup (.cons (Exp.of (congrArg (D.slice true 1) (by first | (rw [disV, h1]; rfl) | (rw [h1]; done))) (.nil true 1)) (.cons (Exp.of (congrArg D.bool (by first | (rw [disV, h1]; rfl) | (rw [h1]; done))) (.d _)) .nil))) (And.intro rfl rfl))))))
  · replace h1 := notf h1
    try have hsg := has_sig h1
    try have hx := sg_has hsg.1
    try have hxl := hx.len
    try have hxf := hx.few
    refine T_skip ?_
    refine T_seq ?_
    refine T_region hc ?_
    refine Ch.step (v := (.c (.slice none 0 0))) rfl (.pure (.assign _ rfl rfl)) rfl rfl ?_
    refine Ch.nil ?_
    refine T_seq ?_
    refine T_seq ?_
    refine T_region hc ?_
    refine Ch.step (v := (.row 16000)) rfl (.slice 16000 _ 4 _ rfl sty147 (xs := [.const (.bool false), .const (.bool true)]) rfl rfl (.cons (.d _) (.cons (.d _) .nil)) rfl rfl (by decide)) rfl rfl ?_
    refine Ch.step (v := (.d (.int .i64 ((2 : Nat) : Int)))) rfl (.pure (.len _ _ 4 rfl Try.underlying147 (.row rfl) rfl)) rfl rfl ?_
    refine Ch.step (v := (.d (.int .i64 0))) rfl (.pure (.move _ rfl rfl)) rfl rfl ?_
    refine Ch.nil ?_
    refine T_block ?_
    refine T_loop (ι := Nat) (fun k => { n := 57, sl := [(1, (.d (.int .i64 sig))), (2, (.ptr 2000 0)), (6, (.row 6)), (16, (.row 16000)), (17, (.d (.int .i64 ((2 : Nat) : Int)))), (18, (.d (.int .i64 ((k : Nat) : Int))))], hp := [(6, (some (.row 1 ((dsTo x sig k 0).map (fun n : Int => D.int .i64 n))))), (2000, (some (.box [(.d (.slice false 2 (x.sigs.map Sgn.d))), (.d (.slice false 1 (x.codes.map D.str))), (.d (.slice false 4 (x.arcs.map Arc.d)))]))), (16000, (some (.row 1 [(.bool false), (.bool true)])))], pin := [] }) (fun k => k ≤ 2) (fun k => 2 - k) ⟨0, (by omega), (Wk.trans (Wk.nilrow 6 900006 1 rfl rfl rfl) (Wk.ren [(6, 900006)] rfl rfl rfl rfl (And.intro rfl (And.intro rfl (And.intro rfl (And.intro rfl (And.intro rfl (And.intro (vI (by first | rfl | omega | (simp; done) | (simp; omega))) trivial)))))) (And.intro (oR (by first | (rw [dsTo_zero]; rfl) | (rw [dsTo_next (by omega)]; done))) (And.intro rfl (And.intro rfl trivial)))))⟩ (fun k hp0 => ?_)
    have hel : (excS x sig ([false, true].getD k default)).length ≤ x.codes.length := excTo_le x sig _ _
    refine T_seq ?_
    refine T_region hc ?_
    refine Ch.step (v := (.d (.bool (decide (((k : Nat) : Int) < ((2 : Nat) : Int)))))) rfl (.pure (.int _ _ _ _ _ rfl rfl rfl rfl)) rfl rfl ?_
    refine Ch.nil ?_
    refine T_seq ?_
    refine T_cond (b := (decide (((k : Nat) : Int) < ((2 : Nat) : Int)))) rfl (fun h2 => ?_) (fun h2 => ?_)
    · replace h2 := of_decide_eq_true h2
      refine T_skip ?_
      refine T_seq ?_
      refine T_block ?_
      refine T_seq ?_
      refine T_region hc ?_
      refine Ch.step (v := (.el 16000 1 k 0)) rfl (.pure (.idxRow _ _ _ 4 (k) rfl Try.underlying147 sz4 rfl rfl rfl rfl (by first | omega | (simp only [List.length_map, List.length_set]; omega) | (simp; omega)))) rfl rfl ?_
      refine Ch.step (v := (.d (.bool ((([false, true]).getD k default))))) rfl (.pure (.loadEl1 _ _ rfl ag4 rfl rfl (get_map (f := D.bool) (l := [false, true]) (by first | omega | (simp only [List.length_map, List.length_append, List.length_take, List.length_drop, List.length_cons, List.length_nil]; omega) | (simp; omega) | (simp; done))) rfl rfl rfl)) rfl rfl ?_
      refine Ch.step (v := (.d (.bool ((([false, true]).getD k default))))) rfl (.pure (.assign _ rfl rfl)) rfl rfl ?_
      refine Ch.nil ?_
      refine T_seq ?_
      refine T_region hc ?_
      refine Ch.step (v := (.agg [(.d (.slice false 2 (x.sigs.map Sgn.d))), (.d (.slice false 1 (x.codes.map D.str))), (.d (.slice false 4 (x.arcs.map Arc.d)))])) rfl (.pure (.loadPtrA _ _ rfl ag52 sz52 rfl rfl (Nat.le_of_ble_eq_true rfl) rfl)) rfl rfl ?_
      refine Ch.step (v := (.d (.int .i64 sig))) rfl (.pure (.move _ rfl rfl)) rfl rfl ?_
      refine Ch.step (v := (.d (.bool ((([false, true]).getD k default))))) rfl (.pure (.move _ rfl rfl)) rfl rfl ?_
      refine Ch.step (v := (.row 25000)) rfl (.call 25000 142 _ _ _ en142 rfl (.inl rfl) (.cons (.lend (.agg (.cons (.d _) (.cons (.d _) (.cons (.d _) .nil))) rfl)) (.cons (.d _) (.cons (.d _) .nil))) rfl (sol (solid_row (fun _ => rfl) _) rfl) (sp_spec_l10Excited x sig ((([false, true]).getD k default)) (by first | assumption | omega | (rw [List.length_take]; omega) | (have := bulkF_mem hb _ (getD_mem (d := default) (by omega)); assumption) | (unfold bulkS at *; omega) | (simp_all; done)) (by assumption)) (.skip _ _ (.skip _ _ (.skip _ _ .nil))) rfl) rfl rfl ?_
      refine Ch.step (v := (.row 25000)) rfl (.pure (.assign _ rfl rfl)) rfl rfl ?_
      refine Ch.nil ?_
      refine T_seq ?_
      refine T_region hc ?_
      refine Ch.step (v := (.ptr 2000 2)) rfl (.pure (.fldPtr _ _ _ rfl fld52_2 rfl)) rfl rfl ?_
      refine Ch.step (v := (.d (.slice false 4 (x.arcs.map Arc.d)))) rfl (.pure (.loadPtr1 _ _ rfl ag50 rfl rfl rfl)) rfl rfl ?_
      refine Ch.step (v := (.d (.int .i64 ((x.arcs.length : Nat) : Int)))) rfl (.pure (.len _ _ 102 rfl Try.underlying50 (.sh _ _) (by simp))) rfl rfl ?_
      refine Ch.step (v := (.d (.int .i64 0))) rfl (.pure (.move _ rfl rfl)) rfl rfl ?_
      refine Ch.nil ?_
      refine T_block ?_
      refine T_loop (ι := Nat) (fun m => { n := 57, sl := [(1, (.d (.int .i64 sig))), (2, (.ptr 2000 0)), (6, (.row 6)), (9, (.row 25000)), (16, (.row 16000)), (17, (.d (.int .i64 ((2 : Nat) : Int)))), (18, (.d (.int .i64 ((k : Nat) : Int)))), (27, (.d (.slice false 4 (x.arcs.map Arc.d)))), (28, (.d (.int .i64 ((x.arcs.length : Nat) : Int)))), (29, (.d (.int .i64 ((m : Nat) : Int))))], hp := [(6, (some (.row 1 ((dsTo x sig k m).map (fun n : Int => D.int .i64 n))))), (2000, (some (.box [(.d (.slice false 2 (x.sigs.map Sgn.d))), (.d (.slice false 1 (x.codes.map D.str))), (.d (.slice false 4 (x.arcs.map Arc.d)))]))), (16000, (some (.row 1 [(.bool false), (.bool true)]))), (25000, (some (.row 1 ((excS x sig ((([false, true]).getD k default))).map (fun n : Int => D.int .i64 n)))))], pin := [] }) (fun m => m ≤ x.arcs.length) (fun m => x.arcs.length - m) ⟨0, (by omega), (Wk.of rfl rfl (And.intro rfl (And.intro rfl (And.intro rfl (And.intro rfl (And.intro rfl (And.intro rfl (And.intro rfl (And.intro rfl (And.intro rfl (And.intro (vI (by first | rfl | omega | (simp; done) | (simp; omega))) trivial)))))))))) (And.intro rfl (And.intro rfl (And.intro rfl (And.intro rfl trivial)))))⟩ (fun m hp1 => ?_)
      have hq := dsTo_le x sig k m; have hrs := dsTo_rising x sig k m
      refine T_seq ?_
      refine T_region hc ?_
      refine Ch.step (v := (.d (.bool (decide (((m : Nat) : Int) < ((x.arcs.length : Nat) : Int)))))) rfl (.pure (.int _ _ _ _ _ rfl rfl rfl rfl)) rfl rfl ?_
      refine Ch.nil ?_
      refine T_seq ?_
      refine T_cond (b := (decide (((m : Nat) : Int) < ((x.arcs.length : Nat) : Int)))) rfl (fun h3 => ?_) (fun h3 => ?_)
      · replace h3 := of_decide_eq_true h3
        refine T_skip ?_
        refine T_seq ?_
        refine T_block ?_
        refine T_seq ?_
        refine T_region hc ?_
        refine Ch.step (v := (.d (.int .i64 ((m : Nat) : Int)))) rfl (.pure (.move _ rfl rfl)) rfl rfl ?_
        refine Ch.step (v := (.d (.ref (.agg [(.int .i64 ((x.arcs.getD m default).src)), (.int .i64 ((x.arcs.getD m default).sig)), (.bool ((x.arcs.getD m default).up)), (.int .i64 ((x.arcs.getD m default).dst))])))) rfl (.pure (.idx _ _ _ 102 (m) rfl Try.underlying50 sz102 rfl rfl rfl (get_map _ (by first | omega | (simp only [List.length_map, List.length_append, List.length_take, List.length_drop, List.length_cons, List.length_nil]; omega) | (simp; omega) | (simp; done))))) rfl rfl ?_
        refine Ch.step (v := (.d (.agg [(.int .i64 ((x.arcs.getD m default).src)), (.int .i64 ((x.arcs.getD m default).sig)), (.bool ((x.arcs.getD m default).up)), (.int .i64 ((x.arcs.getD m default).dst))]))) rfl (.pure (.loadRefA _ _ rfl ag102 sz102 rfl)) rfl rfl ?_
        refine Ch.step (v := (.ptr 11000 0)) rfl (.alloc 11000 _ rfl zer102) rfl rfl ?_
        refine Ch.step (v := (.d (.int .i64 ((m : Nat) : Int)))) rfl (.pure (.assign _ rfl rfl)) rfl rfl ?_
        refine Ch.step (v := .junk) rfl (.storePtr _ _ _ rfl rfl rfl (.aggD _) sz102 (Nat.le_of_ble_eq_true rfl)) rfl rfl ?_
        refine Ch.nil ?_
        refine T_seq ?_
        refine T_region hc ?_
        refine Ch.step (v := (.ptr 11000 1)) rfl (.pure (.fldPtr _ _ _ rfl fld102_1 rfl)) rfl rfl ?_
        refine Ch.step (v := (.d (.int .i64 ((x.arcs.getD m default).sig)))) rfl (.pure (.loadPtr1 _ _ rfl ag3 rfl rfl rfl)) rfl rfl ?_
        refine Ch.step (v := (.d (.int .i64 sig))) rfl (.pure (.move _ rfl rfl)) rfl rfl ?_
        refine Ch.step (v := (.d (.bool (!(decide (((x.arcs.getD m default).sig) = sig)))))) rfl (.pure (.int _ _ _ _ _ rfl rfl rfl rfl)) rfl rfl ?_
        refine Ch.step (v := (.d (.bool (!(decide (((x.arcs.getD m default).sig) = sig)))))) rfl (.pure (.move _ rfl rfl)) rfl rfl ?_
        cases h4 : (decide (((x.arcs.getD m default).sig) = sig)) with
        | true =>
          replace h4 := of_decide_eq_true h4
          refine Ch.skip rfl rfl ?_
          refine Ch.skip rfl rfl ?_
          refine Ch.skip rfl rfl ?_
          refine Ch.skip rfl rfl ?_
          refine Ch.step (v := (.d (.bool false))) rfl (.pure (.pickF _ _ _ rfl rfl rfl)) rfl rfl ?_
          refine Ch.step (v := (.d (.bool false))) rfl (.pure (.move _ rfl rfl)) rfl rfl ?_
          refine Ch.skip rfl rfl ?_
          refine Ch.skip rfl rfl ?_
          refine Ch.skip rfl rfl ?_
          refine Ch.skip rfl rfl ?_
          refine Ch.skip rfl rfl ?_
          refine Ch.step (v := (.d (.bool false))) rfl (.pure (.pickF _ _ _ rfl rfl rfl)) rfl rfl ?_
          refine Ch.nil ?_
          refine T_cond (b := false) rfl (fun h => nomatch h) (fun _ => ?_)
          refine T_skip ?_
          refine T_region hc ?_
          refine Ch.step (v := (.d (.int .i64 (((m : Nat) : Int) + 1)))) rfl (.pure (.int _ _ _ _ _ rfl rfl rfl (intV_add (by first | omega | (simp only [List.length_map, List.length_append, List.length_take, List.length_drop, List.length_cons, List.length_nil]; omega) | (simp; omega) | (simp; done)) (by first | omega | (simp only [List.length_map, List.length_append, List.length_take, List.length_drop, List.length_cons, List.length_nil]; omega) | (simp; omega) | (simp; done))))) rfl rfl ?_
          refine Ch.step (v := (.d (.int .i64 (((m : Nat) : Int) + 1)))) rfl (.pure (.move _ rfl rfl)) rfl rfl ?_
          refine Ch.nil ?_
          refine Exists.intro (m + 1) (And.intro (by omega) (And.intro (by first | omega | (dsimp only; omega)) (Wk.of rfl rfl (And.intro rfl (And.intro rfl (And.intro rfl (And.intro rfl (And.intro rfl (And.intro rfl (And.intro rfl (And.intro rfl (And.intro rfl (And.intro (vI (by first | rfl | omega | (simp; done) | (simp; omega))) trivial)))))))))) (And.intro (oR (by first | rfl | (rw [dsTo_yes (by omega) (by first | (unfold passQ; simp only [*, decide_true, decide_false, Bool.true_and, Bool.false_and, Bool.and_false, Bool.not_true, Bool.not_false]; done) | (unfold passQ; simp_all; done))]; done) | (exact congrArg (List.map _) (dsTo_no (by omega) (by first | (unfold passQ; simp only [*, decide_true, decide_false, Bool.true_and, Bool.false_and, Bool.and_false, Bool.not_true, Bool.not_false]; done) | (unfold passQ; simp_all; done)))))) (And.intro rfl (And.intro rfl (And.intro rfl trivial)))))))
        | false =>
          replace h4 := of_decide_eq_false h4
          refine Ch.step (v := (.row 25000)) rfl (.pure (.move _ rfl rfl)) rfl rfl ?_
          refine Ch.step (v := (.ptr 11000 0)) rfl (.pure (.fldPtr _ _ _ rfl fld102_0 rfl)) rfl rfl ?_
          refine Ch.step (v := (.d (.int .i64 ((x.arcs.getD m default).src)))) rfl (.pure (.loadPtr1 _ _ rfl ag3 rfl rfl rfl)) rfl rfl ?_
          refine Ch.step (v := (.d (.bool (hasI (excS x sig ((([false, true]).getD k default))) ((x.arcs.getD m default).src))))) rfl (.call 42000 143 _ _ _ en143 rfl (.inl rfl) (.cons (.lend (.row rfl (frozs_map (fun _ => rfl) _))) (.cons (.d _) .nil)) rfl rfl (sp_spec_l1Has (excS x sig ((([false, true]).getD k default))) ((x.arcs.getD m default).src) (by first | assumption | omega | (rw [List.length_take]; omega) | (have := bulkF_mem hb _ (getD_mem (d := default) (by omega)); assumption) | (unfold bulkS at *; omega) | (simp_all; done))) (.skip _ _ (.skip _ _ .nil)) rfl) rfl rfl ?_
          refine Ch.step (v := (.d (.bool (hasI (excS x sig ((([false, true]).getD k default))) ((x.arcs.getD m default).src))))) rfl (.pure (.pickT _ _ _ rfl rfl rfl)) rfl rfl ?_
          refine Ch.step (v := (.d (.bool (hasI (excS x sig ((([false, true]).getD k default))) ((x.arcs.getD m default).src))))) rfl (.pure (.move _ rfl rfl)) rfl rfl ?_
          cases h5 : (hasI (excS x sig ((([false, true]).getD k default))) ((x.arcs.getD m default).src)) with
          | true =>
            refine Ch.step (v := (.row 25000)) rfl (.pure (.move _ rfl rfl)) rfl rfl ?_
            refine Ch.step (v := (.ptr 11000 3)) rfl (.pure (.fldPtr _ _ _ rfl fld102_3 rfl)) rfl rfl ?_
            refine Ch.step (v := (.d (.int .i64 ((x.arcs.getD m default).dst)))) rfl (.pure (.loadPtr1 _ _ rfl ag3 rfl rfl rfl)) rfl rfl ?_
            refine Ch.step (v := (.d (.bool (hasI (excS x sig ((([false, true]).getD k default))) ((x.arcs.getD m default).dst))))) rfl (.call 48000 143 _ _ _ en143 rfl (.inl rfl) (.cons (.lend (.row rfl (frozs_map (fun _ => rfl) _))) (.cons (.d _) .nil)) rfl rfl (sp_spec_l1Has (excS x sig ((([false, true]).getD k default))) ((x.arcs.getD m default).dst) (by first | assumption | omega | (rw [List.length_take]; omega) | (have := bulkF_mem hb _ (getD_mem (d := default) (by omega)); assumption) | (unfold bulkS at *; omega) | (simp_all; done))) (.skip _ _ (.skip _ _ .nil)) rfl) rfl rfl ?_
            refine Ch.step (v := (.d (.bool (!(hasI (excS x sig ((([false, true]).getD k default))) ((x.arcs.getD m default).dst)))))) rfl (.pure (.not _ _ rfl rfl)) rfl rfl ?_
            refine Ch.step (v := (.d (.bool (!(hasI (excS x sig ((([false, true]).getD k default))) ((x.arcs.getD m default).dst)))))) rfl (.pure (.pickT _ _ _ rfl rfl rfl)) rfl rfl ?_
            refine Ch.nil ?_
            refine T_cond (b := (!(hasI (excS x sig ((([false, true]).getD k default))) ((x.arcs.getD m default).dst)))) rfl (fun h6 => ?_) (fun h6 => ?_)
            · replace h6 := nott h6
              refine T_region hc ?_
              refine Ch.step (v := (.row 6)) rfl (.pure (.move _ rfl rfl)) rfl rfl ?_
              refine Ch.step (v := (.d (.int .i64 ((m : Nat) : Int)))) rfl (.pure (.move _ rfl rfl)) rfl rfl ?_
              refine Ch.step (v := (.row 53000)) rfl (.call 53000 144 _ _ _ en144 rfl (.inl rfl) (.cons (.row rfl) (.cons (.d _) .nil)) rfl (sol (solid_row (fun _ => rfl) _) rfl) (sp_spec_l1Put (dsTo x sig k m) ((m : Nat) : Int) (by first | assumption | omega | (rw [List.length_take]; omega) | (have := bulkF_mem hb _ (getD_mem (d := default) (by omega)); assumption) | (unfold bulkS at *; omega) | (simp_all; done)) (by first | assumption | exact setL_rising _ _)) (.skip _ _ (.skip _ _ .nil)) rfl) rfl rfl ?_
              refine Ch.step (v := (.row 53000)) rfl (.pure (.assign _ rfl rfl)) rfl rfl ?_
              refine Ch.nil ?_
              refine T_region hc ?_
              refine Ch.step (v := (.d (.int .i64 (((m : Nat) : Int) + 1)))) rfl (.pure (.int _ _ _ _ _ rfl rfl rfl (intV_add (by first | omega | (simp only [List.length_map, List.length_append, List.length_take, List.length_drop, List.length_cons, List.length_nil]; omega) | (simp; omega) | (simp; done)) (by first | omega | (simp only [List.length_map, List.length_append, List.length_take, List.length_drop, List.length_cons, List.length_nil]; omega) | (simp; omega) | (simp; done))))) rfl rfl ?_
              refine Ch.step (v := (.d (.int .i64 (((m : Nat) : Int) + 1)))) rfl (.pure (.move _ rfl rfl)) rfl rfl ?_
              refine Ch.nil ?_
              refine Exists.intro (m + 1) (And.intro (by omega) (And.intro (by first | omega | (dsimp only; omega)) (Wk.ren [(6, 53000)] rfl rfl rfl rfl (And.intro rfl (And.intro rfl (And.intro rfl (And.intro rfl (And.intro rfl (And.intro rfl (And.intro rfl (And.intro rfl (And.intro rfl (And.intro (vI (by first | rfl | omega | (simp; done) | (simp; omega))) trivial)))))))))) (And.intro (oR (by first | rfl | (rw [dsTo_yes (by omega) (by first | (unfold passQ; simp only [*, decide_true, decide_false, Bool.true_and, Bool.false_and, Bool.and_false, Bool.not_true, Bool.not_false]; done) | (unfold passQ; simp_all; done))]; done) | (exact congrArg (List.map _) (dsTo_no (by omega) (by first | (unfold passQ; simp only [*, decide_true, decide_false, Bool.true_and, Bool.false_and, Bool.and_false, Bool.not_true, Bool.not_false]; done) | (unfold passQ; simp_all; done)))))) (And.intro rfl (And.intro rfl (And.intro rfl trivial)))))))
            · replace h6 := notf h6
              refine T_skip ?_
              refine T_region hc ?_
              refine Ch.step (v := (.d (.int .i64 (((m : Nat) : Int) + 1)))) rfl (.pure (.int _ _ _ _ _ rfl rfl rfl (intV_add (by first | omega | (simp only [List.length_map, List.length_append, List.length_take, List.length_drop, List.length_cons, List.length_nil]; omega) | (simp; omega) | (simp; done)) (by first | omega | (simp only [List.length_map, List.length_append, List.length_take, List.length_drop, List.length_cons, List.length_nil]; omega) | (simp; omega) | (simp; done))))) rfl rfl ?_
              refine Ch.step (v := (.d (.int .i64 (((m : Nat) : Int) + 1)))) rfl (.pure (.move _ rfl rfl)) rfl rfl ?_
              refine Ch.nil ?_
              refine Exists.intro (m + 1) (And.intro (by omega) (And.intro (by first | omega | (dsimp only; omega)) (Wk.of rfl rfl (And.intro rfl (And.intro rfl (And.intro rfl (And.intro rfl (And.intro rfl (And.intro rfl (And.intro rfl (And.intro rfl (And.intro rfl (And.intro (vI (by first | rfl | omega | (simp; done) | (simp; omega))) trivial)))))))))) (And.intro (oR (by first | rfl | (rw [dsTo_yes (by omega) (by first | (unfold passQ; simp only [*, decide_true, decide_false, Bool.true_and, Bool.false_and, Bool.and_false, Bool.not_true, Bool.not_false]; done) | (unfold passQ; simp_all; done))]; done) | (exact congrArg (List.map _) (dsTo_no (by omega) (by first | (unfold passQ; simp only [*, decide_true, decide_false, Bool.true_and, Bool.false_and, Bool.and_false, Bool.not_true, Bool.not_false]; done) | (unfold passQ; simp_all; done)))))) (And.intro rfl (And.intro rfl (And.intro rfl trivial)))))))
          | false =>
            refine Ch.skip rfl rfl ?_
            refine Ch.skip rfl rfl ?_
            refine Ch.skip rfl rfl ?_
            refine Ch.skip rfl rfl ?_
            refine Ch.skip rfl rfl ?_
            refine Ch.step (v := (.d (.bool false))) rfl (.pure (.pickF _ _ _ rfl rfl rfl)) rfl rfl ?_
            refine Ch.nil ?_
            refine T_cond (b := false) rfl (fun h => nomatch h) (fun _ => ?_)
            refine T_skip ?_
            refine T_region hc ?_
            refine Ch.step (v := (.d (.int .i64 (((m : Nat) : Int) + 1)))) rfl (.pure (.int _ _ _ _ _ rfl rfl rfl (intV_add (by first | omega | (simp only [List.length_map, List.length_append, List.length_take, List.length_drop, List.length_cons, List.length_nil]; omega) | (simp; omega) | (simp; done)) (by first | omega | (simp only [List.length_map, List.length_append, List.length_take, List.length_drop, List.length_cons, List.length_nil]; omega) | (simp; omega) | (simp; done))))) rfl rfl ?_
            refine Ch.step (v := (.d (.int .i64 (((m : Nat) : Int) + 1)))) rfl (.pure (.move _ rfl rfl)) rfl rfl ?_
            refine Ch.nil ?_
            refine Exists.intro (m + 1) (And.intro (by omega) (And.intro (by first | omega | (dsimp only; omega)) (Wk.of rfl rfl (And.intro rfl (And.intro rfl (And.intro rfl (And.intro rfl (And.intro rfl (And.intro rfl (And.intro rfl (And.intro rfl (And.intro rfl (And.intro (vI (by first | rfl | omega | (simp; done) | (simp; omega))) trivial)))))))))) (And.intro (oR (by first | rfl | (rw [dsTo_yes (by omega) (by first | (unfold passQ; simp only [*, decide_true, decide_false, Bool.true_and, Bool.false_and, Bool.and_false, Bool.not_true, Bool.not_false]; done) | (unfold passQ; simp_all; done))]; done) | (exact congrArg (List.map _) (dsTo_no (by omega) (by first | (unfold passQ; simp only [*, decide_true, decide_false, Bool.true_and, Bool.false_and, Bool.and_false, Bool.not_true, Bool.not_false]; done) | (unfold passQ; simp_all; done)))))) (And.intro rfl (And.intro rfl (And.intro rfl trivial)))))))
      · replace h3 := of_decide_eq_false h3
        refine T_exit ?_
        refine T_region hc ?_
        refine Ch.step (v := (.d (.int .i64 (((k : Nat) : Int) + 1)))) rfl (.pure (.int _ _ _ _ _ rfl rfl rfl (intV_add (by first | omega | (simp only [List.length_map, List.length_append, List.length_take, List.length_drop, List.length_cons, List.length_nil]; omega) | (simp; omega) | (simp; done)) (by first | omega | (simp only [List.length_map, List.length_append, List.length_take, List.length_drop, List.length_cons, List.length_nil]; omega) | (simp; omega) | (simp; done))))) rfl rfl ?_
        refine Ch.step (v := (.d (.int .i64 (((k : Nat) : Int) + 1)))) rfl (.pure (.move _ rfl rfl)) rfl rfl ?_
        refine Ch.nil ?_
        refine Exists.intro (k + 1) (And.intro (by omega) (And.intro (by first | omega | (dsimp only; omega)) (Wk.of rfl rfl (And.intro rfl (And.intro rfl (And.intro rfl (And.intro rfl (And.intro rfl (And.intro (vI (by first | rfl | omega | (simp; done) | (simp; omega))) trivial)))))) (And.intro (oR (by first | (rw [dsTo_zero]; rfl) | (rw [dsTo_next (by omega)]; done))) (And.intro rfl (And.intro rfl trivial))))))
    · replace h2 := of_decide_eq_false h2
      refine T_exit ?_
      refine T_seq ?_
      refine T_region hc ?_
      refine Ch.step (v := (.row 6)) rfl (.pure (.move _ rfl rfl)) rfl rfl ?_
      refine Ch.step (v := (.row 6)) rfl (.pure (.assign _ rfl rfl)) rfl rfl ?_
      refine Ch.step (v := (.d (.bool true))) rfl (.pure (.assign _ rfl rfl)) rfl rfl ?_
      refine Ch.nil ?_
      refine T_ret ?_
      refine And.intro (.inr rfl) ?_
      exact Exists.intro [(.row 6), (.d (.bool true))] (Exists.intro [] (Exists.intro [6] (And.intro (.cons (.tmp 4 rfl) (.cons (.tmp 5 rfl) .nil)) (And.intro (.cons (.any _) (.cons (.any _) .nil)) (And.intro (.tup (.cons (Exp.of (congrArg (D.slice true 1) (by first | (rw [h1]; done) | (rw [disV, h1, if_pos rfl, ← dsTo_end hx.ends (k := k) (by omega)]; done))) (.row rfl)) (.cons (Exp.of (congrArg D.bool (by first | (rw [h1]; done) | (rw [disV, h1, if_pos rfl, ← dsTo_end hx.ends (k := k) (by omega)]; done))) (.d _)) .nil))) (And.intro rfl rfl))))))

theorem sp_spec_CountDisablings (x : Sgr) (hb : x.bulk ≤ 1048576) : Sp Try.prog 33 [(.agg [(.slice false 2 (x.sigs.map Sgn.d)), (.slice false 1 (x.codes.map D.str)), (.slice false 4 (x.arcs.map Arc.d))])] [.any] (.tup [(.int .i64 ((cdV x : Nat) : Int)), (.bool (sgB x))]) := by
  refine Sp_intro (lend := true) Try.func33 rfl rfl rfl (fun _ => rfl) (fun c hc hX => ?_)
  obtain ⟨hp0, hp1, hp2⟩ := Sgr.parts hb
  have hn0 := bulkF_len hp0
  have hn1 := bulk_len hp1
  have hx1 := bulk_mem hp1
  have hn2 := bulkF_len hp2
  refine T_seq ?_
  refine T_region hc ?_
  refine Ch.step (v := (.ptr 1000 0)) rfl (.box 1000 _ _ rfl (.aggD _)) rfl rfl ?_
  refine Ch.step (v := (.d (.int .i64 0))) rfl (.pure (.assign _ rfl rfl)) rfl rfl ?_
  refine Ch.step (v := (.d (.bool false))) rfl (.pure (.assign _ rfl rfl)) rfl rfl ?_
  refine Ch.nil ?_
  refine T_seq ?_
  refine T_seq ?_
  refine T_region hc ?_
  refine Ch.step (v := (.agg [(.d (.slice false 2 (x.sigs.map Sgn.d))), (.d (.slice false 1 (x.codes.map D.str))), (.d (.slice false 4 (x.arcs.map Arc.d)))])) rfl (.pure (.loadPtrA _ _ rfl ag52 sz52 rfl rfl (Nat.le_of_ble_eq_true rfl) rfl)) rfl rfl ?_
  refine Ch.step (v := (.d (.bool (sgB x)))) rfl (.call 10000 78 _ _ _ en78 rfl (.inl rfl) (.cons (.lend (.agg (.cons (.d _) (.cons (.d _) (.cons (.d _) .nil))) rfl)) .nil) rfl rfl (sp_spec_l5Good x (by first | assumption | omega | (rw [List.length_take]; omega) | (have := bulkF_mem hb _ (getD_mem (d := default) (by omega)); assumption) | (unfold bulkS at *; omega) | (simp_all; done))) (.skip _ _ .nil) rfl) rfl rfl ?_
  refine Ch.step (v := (.d (.bool (!(sgB x))))) rfl (.pure (.not _ _ rfl rfl)) rfl rfl ?_
  refine Ch.nil ?_
  refine T_cond (b := (!(sgB x))) rfl (fun h1 => ?_) (fun h1 => ?_)
  · replace h1 := nott h1
    try have hx := sg_has h1
    try have hx8 := hx.eight
    try have hxf := hx.few
    refine T_seq ?_
    refine T_region hc ?_
    refine Ch.step (v := (.d (.int .i64 0))) rfl (.pure (.assign _ rfl rfl)) rfl rfl ?_
    refine Ch.step (v := (.d (.bool false))) rfl (.pure (.assign _ rfl rfl)) rfl rfl ?_
    refine Ch.nil ?_
    refine T_ret ?_
    refine And.intro (.inr rfl) ?_
    exact Exists.intro [(.d (.int .i64 0)), (.d (.bool false))] (Exists.intro [] (Exists.intro [] (And.intro (.cons (.tmp 2 rfl) (.cons (.tmp 3 rfl) .nil)) (And.intro (.cons (.any _) .nil) (And.intro (.tup (.cons (Exp.of (congrArg (D.int .i64) (by first | (rw [cdV, h1, if_pos rfl, show cdF x = cdTo x k from by rw [cdF, cdTo, outsL, show x.sigs.length = k by omega]]; done) | (rw [cdV, h1]; rfl) | (rw [h1]; done))) (.d _)) (.cons (Exp.of (congrArg D.bool (by first | (rw [cdV, h1, if_pos rfl, show cdF x = cdTo x k from by rw [cdF, cdTo, outsL, show x.sigs.length = k by omega]]; done) | (rw [cdV, h1]; rfl) | (rw [h1]; done))) (.d _)) .nil))) (And.intro rfl rfl))))))
  · replace h1 := notf h1
    try have hx := sg_has h1
    try have hx8 := hx.eight
    try have hxf := hx.few
    refine T_skip ?_
    refine T_seq ?_
    refine T_region hc ?_
    refine Ch.step (v := (.d (.int .i64 0))) rfl (.pure (.assign _ rfl rfl)) rfl rfl ?_
    refine Ch.nil ?_
    refine T_seq ?_
    refine T_seq ?_
    refine T_region hc ?_
    refine Ch.step (v := (.ptr 1000 0)) rfl (.pure (.fldPtr _ _ _ rfl fld52_0 rfl)) rfl rfl ?_
    refine Ch.step (v := (.d (.slice false 2 (x.sigs.map Sgn.d)))) rfl (.pure (.loadPtr1 _ _ rfl ag29 rfl rfl rfl)) rfl rfl ?_
    refine Ch.step (v := (.d (.int .i64 ((x.sigs.length : Nat) : Int)))) rfl (.pure (.len _ _ 97 rfl Try.underlying29 (.sh _ _) (by simp))) rfl rfl ?_
    refine Ch.step (v := (.d (.int .i64 0))) rfl (.pure (.move _ rfl rfl)) rfl rfl ?_
    refine Ch.nil ?_
    refine T_block ?_
    refine T_loop (ι := Nat) (fun k => { n := 35, sl := [(1, (.ptr 1000 0)), (4, (.d (.int .i64 ((cdTo x k : Nat) : Int)))), (13, (.d (.slice false 2 (x.sigs.map Sgn.d)))), (14, (.d (.int .i64 ((x.sigs.length : Nat) : Int)))), (15, (.d (.int .i64 ((k : Nat) : Int))))], hp := [(1000, (some (.box [(.d (.slice false 2 (x.sigs.map Sgn.d))), (.d (.slice false 1 (x.codes.map D.str))), (.d (.slice false 4 (x.arcs.map Arc.d)))])))], pin := [] }) (fun k => k ≤ x.sigs.length) (fun k => x.sigs.length - k) ⟨0, (by omega), (Wk.of rfl rfl (And.intro rfl (And.intro (vI (by first | rfl | (rw [cdTo_no (by assumption)]; done) | (rw [cdTo_yes (by assumption), hdv]; omega))) (And.intro rfl (And.intro rfl (And.intro (vI (by first | rfl | omega | (simp; done) | (simp; omega))) trivial))))) (And.intro rfl trivial))⟩ (fun k hp0 => ?_)
    have hcm := cdTo_le hx k
    refine T_seq ?_
    refine T_region hc ?_
    refine Ch.step (v := (.d (.bool (decide (((k : Nat) : Int) < ((x.sigs.length : Nat) : Int)))))) rfl (.pure (.int _ _ _ _ _ rfl rfl rfl rfl)) rfl rfl ?_
    refine Ch.nil ?_
    refine T_seq ?_
    refine T_cond (b := (decide (((k : Nat) : Int) < ((x.sigs.length : Nat) : Int)))) rfl (fun h2 => ?_) (fun h2 => ?_)
    · replace h2 := of_decide_eq_true h2
      try have hdv := congrArg List.length (disV_yes (s := (k : Int)) h1 ⟨by omega, by omega⟩)
      try have hdl := Nat.le_trans (disV_le x (k : Int)) hxf
      refine T_skip ?_
      refine T_seq ?_
      refine T_block ?_
      refine T_seq ?_
      refine T_region hc ?_
      refine Ch.step (v := (.d (.int .i64 ((k : Nat) : Int)))) rfl (.pure (.move _ rfl rfl)) rfl rfl ?_
      refine Ch.step (v := (.d (.ref (.agg [(.str ((x.sigs.getD k default).name)), (.int .i64 ((x.sigs.getD k default).kind))])))) rfl (.pure (.idx _ _ _ 97 (k) rfl Try.underlying29 sz97 rfl rfl rfl (get_map _ (by first | omega | (simp only [List.length_map, List.length_append, List.length_take, List.length_drop, List.length_cons, List.length_nil]; omega) | (simp; omega) | (simp; done))))) rfl rfl ?_
      refine Ch.step (v := (.d (.agg [(.str ((x.sigs.getD k default).name)), (.int .i64 ((x.sigs.getD k default).kind))]))) rfl (.pure (.loadRefA _ _ rfl ag97 sz97 rfl)) rfl rfl ?_
      refine Ch.step (v := (.ptr 6000 0)) rfl (.alloc 6000 _ rfl zer97) rfl rfl ?_
      refine Ch.step (v := (.d (.int .i64 ((k : Nat) : Int)))) rfl (.pure (.assign _ rfl rfl)) rfl rfl ?_
      refine Ch.step (v := .junk) rfl (.storePtr _ _ _ rfl rfl rfl (.aggD _) sz97 (Nat.le_of_ble_eq_true rfl)) rfl rfl ?_
      refine Ch.nil ?_
      refine T_seq ?_
      refine T_region hc ?_
      refine Ch.step (v := (.agg [(.d (.slice false 2 (x.sigs.map Sgn.d))), (.d (.slice false 1 (x.codes.map D.str))), (.d (.slice false 4 (x.arcs.map Arc.d)))])) rfl (.pure (.loadPtrA _ _ rfl ag52 sz52 rfl rfl (Nat.le_of_ble_eq_true rfl) rfl)) rfl rfl ?_
      refine Ch.step (v := (.d (.int .i64 ((k : Nat) : Int)))) rfl (.pure (.move _ rfl rfl)) rfl rfl ?_
      refine Ch.step (v := (.tup [(.row 23000), (.d (.bool (hasSigB x ((k : Nat) : Int))))])) rfl (.call 23000 82 _ _ _ en82 rfl (.inl rfl) (.cons (.lend (.agg (.cons (.d _) (.cons (.d _) (.cons (.d _) .nil))) rfl)) (.cons (.d _) .nil)) rfl (sol (by rw [D.solid]; exact solids_c (solid_row (fun _ => rfl) _) rfl) rfl) (sp_spec_DisablingArcs x ((k : Nat) : Int) (by first | assumption | omega | (rw [List.length_take]; omega) | (have := bulkF_mem hb _ (getD_mem (d := default) (by omega)); assumption) | (unfold bulkS at *; omega) | (simp_all; done))) (.skip _ _ (.skip _ _ .nil)) rfl) rfl rfl ?_
      refine Ch.step (v := (.tup [(.row 23000), (.d (.bool (hasSigB x ((k : Nat) : Int))))])) rfl (.pure (.move _ rfl rfl)) rfl rfl ?_
      refine Ch.step (v := (.row 23000)) rfl (.pure (.extract _ rfl rfl rfl)) rfl rfl ?_
      refine Ch.step (v := (.d (.bool (hasSigB x ((k : Nat) : Int))))) rfl (.pure (.extract _ rfl rfl rfl)) rfl rfl ?_
      refine Ch.step (v := (.row 23000)) rfl (.pure (.assign _ rfl rfl)) rfl rfl ?_
      refine Ch.step (v := (.d (.bool (hasSigB x ((k : Nat) : Int))))) rfl (.pure (.assign _ rfl rfl)) rfl rfl ?_
      refine Ch.nil ?_
      refine T_seq ?_
      refine T_region hc ?_
      refine Ch.step (v := (.ptr 6000 1)) rfl (.pure (.fldPtr _ _ _ rfl fld97_1 rfl)) rfl rfl ?_
      refine Ch.step (v := (.d (.int .i64 ((x.sigs.getD k default).kind)))) rfl (.pure (.loadPtr1 _ _ rfl ag3 rfl rfl rfl)) rfl rfl ?_
      refine Ch.step (v := (.d (.bool (!(decide (((x.sigs.getD k default).kind) = 1)))))) rfl (.pure (.int _ _ _ _ _ rfl rfl rfl rfl)) rfl rfl ?_
      refine Ch.nil ?_
      refine T_cond (b := (!(decide (((x.sigs.getD k default).kind) = 1)))) rfl (fun h3 => ?_) (fun h3 => ?_)
      · replace h3 := nott h3
        replace h3 := of_decide_eq_false h3
        refine T_region hc ?_
        refine Ch.step (v := (.d (.int .i64 ((cdTo x k : Nat) : Int)))) rfl (.pure (.move _ rfl rfl)) rfl rfl ?_
        refine Ch.step (v := (.row 23000)) rfl (.pure (.move _ rfl rfl)) rfl rfl ?_
        refine Ch.step (v := (.d (.int .i64 (((disV x ((k : Nat) : Int)).length : Nat) : Int)))) rfl (.pure (.len _ _ 3 rfl Try.underlying36 (.row rfl) (by simp))) rfl rfl ?_
        refine Ch.step (v := (.d (.int .i64 (((cdTo x k : Nat) : Int) + (((disV x ((k : Nat) : Int)).length : Nat) : Int))))) rfl (.pure (.int _ _ _ _ _ rfl rfl rfl (intV_add (by first | omega | (simp only [List.length_map, List.length_append, List.length_take, List.length_drop, List.length_cons, List.length_nil]; omega) | (simp; omega) | (simp; done)) (by first | omega | (simp only [List.length_map, List.length_append, List.length_take, List.length_drop, List.length_cons, List.length_nil]; omega) | (simp; omega) | (simp; done))))) rfl rfl ?_
        refine Ch.step (v := (.d (.int .i64 (((cdTo x k : Nat) : Int) + (((disV x ((k : Nat) : Int)).length : Nat) : Int))))) rfl (.pure (.assign _ rfl rfl)) rfl rfl ?_
        refine Ch.nil ?_
        refine T_region hc ?_
        refine Ch.step (v := (.d (.int .i64 (((k : Nat) : Int) + 1)))) rfl (.pure (.int _ _ _ _ _ rfl rfl rfl (intV_add (by first | omega | (simp only [List.length_map, List.length_append, List.length_take, List.length_drop, List.length_cons, List.length_nil]; omega) | (simp; omega) | (simp; done)) (by first | omega | (simp only [List.length_map, List.length_append, List.length_take, List.length_drop, List.length_cons, List.length_nil]; omega) | (simp; omega) | (simp; done))))) rfl rfl ?_
        refine Ch.step (v := (.d (.int .i64 (((k : Nat) : Int) + 1)))) rfl (.pure (.move _ rfl rfl)) rfl rfl ?_
        refine Ch.nil ?_
        refine Exists.intro (k + 1) (And.intro (by omega) (And.intro (by first | omega | (dsimp only; omega)) (Wk.of rfl rfl (And.intro rfl (And.intro (vI (by first | rfl | (rw [cdTo_no (by assumption)]; done) | (rw [cdTo_yes (by assumption), hdv]; omega))) (And.intro rfl (And.intro rfl (And.intro (vI (by first | rfl | omega | (simp; done) | (simp; omega))) trivial))))) (And.intro rfl trivial))))
      · replace h3 := notf h3
        replace h3 := of_decide_eq_true h3
        refine T_skip ?_
        refine T_region hc ?_
        refine Ch.step (v := (.d (.int .i64 (((k : Nat) : Int) + 1)))) rfl (.pure (.int _ _ _ _ _ rfl rfl rfl (intV_add (by first | omega | (simp only [List.length_map, List.length_append, List.length_take, List.length_drop, List.length_cons, List.length_nil]; omega) | (simp; omega) | (simp; done)) (by first | omega | (simp only [List.length_map, List.length_append, List.length_take, List.length_drop, List.length_cons, List.length_nil]; omega) | (simp; omega) | (simp; done))))) rfl rfl ?_
        refine Ch.step (v := (.d (.int .i64 (((k : Nat) : Int) + 1)))) rfl (.pure (.move _ rfl rfl)) rfl rfl ?_
        refine Ch.nil ?_
        refine Exists.intro (k + 1) (And.intro (by omega) (And.intro (by first | omega | (dsimp only; omega)) (Wk.of rfl rfl (And.intro rfl (And.intro (vI (by first | rfl | (rw [cdTo_no (by assumption)]; done) | (rw [cdTo_yes (by assumption), hdv]; omega))) (And.intro rfl (And.intro rfl (And.intro (vI (by first | rfl | omega | (simp; done) | (simp; omega))) trivial))))) (And.intro rfl trivial))))
    · replace h2 := of_decide_eq_false h2
      try have hdv := congrArg List.length (disV_yes (s := (k : Int)) h1 ⟨by omega, by omega⟩)
      try have hdl := Nat.le_trans (disV_le x (k : Int)) hxf
      refine T_exit ?_
      refine T_seq ?_
      refine T_region hc ?_
      refine Ch.step (v := (.d (.int .i64 ((cdTo x k : Nat) : Int)))) rfl (.pure (.move _ rfl rfl)) rfl rfl ?_
      refine Ch.step (v := (.d (.int .i64 ((cdTo x k : Nat) : Int)))) rfl (.pure (.assign _ rfl rfl)) rfl rfl ?_
      refine Ch.step (v := (.d (.bool true))) rfl (.pure (.assign _ rfl rfl)) rfl rfl ?_
      refine Ch.nil ?_
      refine T_ret ?_
      refine And.intro (.inr rfl) ?_
      exact Exists.intro [(.d (.int .i64 ((cdTo x k : Nat) : Int))), (.d (.bool true))] (Exists.intro [] (Exists.intro [] (And.intro (.cons (.tmp 2 rfl) (.cons (.tmp 3 rfl) .nil)) (And.intro (.cons (.any _) .nil) (And.intro (.tup (.cons (Exp.of (congrArg (D.int .i64) (by first | (rw [cdV, h1, if_pos rfl, show cdF x = cdTo x k from by rw [cdF, cdTo, outsL, show x.sigs.length = k by omega]]; done) | (rw [cdV, h1]; rfl) | (rw [h1]; done))) (.d _)) (.cons (Exp.of (congrArg D.bool (by first | (rw [cdV, h1, if_pos rfl, show cdF x = cdTo x k from by rw [cdF, cdTo, outsL, show x.sigs.length = k by omega]]; done) | (rw [cdV, h1]; rfl) | (rw [h1]; done))) (.d _)) .nil))) (And.intro rfl rfl))))))

theorem sp_impl_CountDisablings (x : Sgr) (hb : x.bulk ≤ 1048576) : Sp Try.prog 34 [(.agg [(.slice false 2 (x.sigs.map Sgn.d)), (.slice false 1 (x.codes.map D.str)), (.slice false 4 (x.arcs.map Arc.d))])] [.any] (.tup [(.int .i64 ((cdV x : Nat) : Int)), (.bool (sgB x))]) := by
  refine Sp_intro (lend := true) Try.func34 rfl rfl rfl (fun _ => rfl) (fun c hc hX => ?_)
  obtain ⟨hp0, hp1, hp2⟩ := Sgr.parts hb
  have hn0 := bulkF_len hp0
  have hn1 := bulk_len hp1
  have hx1 := bulk_mem hp1
  have hn2 := bulkF_len hp2
  refine T_seq ?_
  refine T_region hc ?_
  refine Ch.step (v := (.ptr 1000 0)) rfl (.box 1000 _ _ rfl (.aggD _)) rfl rfl ?_
  refine Ch.step (v := (.d (.int .i64 0))) rfl (.pure (.assign _ rfl rfl)) rfl rfl ?_
  refine Ch.step (v := (.d (.bool false))) rfl (.pure (.assign _ rfl rfl)) rfl rfl ?_
  refine Ch.nil ?_
  refine T_seq ?_
  refine T_seq ?_
  refine T_region hc ?_
  refine Ch.step (v := (.agg [(.d (.slice false 2 (x.sigs.map Sgn.d))), (.d (.slice false 1 (x.codes.map D.str))), (.d (.slice false 4 (x.arcs.map Arc.d)))])) rfl (.pure (.loadPtrA _ _ rfl ag52 sz52 rfl rfl (Nat.le_of_ble_eq_true rfl) rfl)) rfl rfl ?_
  refine Ch.step (v := (.d (.bool (sgB x)))) rfl (.call 5000 80 _ _ _ en80 rfl (.inl rfl) (.cons (.lend (.agg (.cons (.d _) (.cons (.d _) (.cons (.d _) .nil))) rfl)) .nil) rfl rfl (sp_impl_IsValidStateGraph x (by first | assumption | omega | (rw [List.length_take]; omega) | (have := bulkF_mem hb _ (getD_mem (d := default) (by omega)); assumption) | (unfold bulkS at *; omega) | (simp_all; done))) (.skip _ _ .nil) rfl) rfl rfl ?_
  refine Ch.step (v := (.d (.bool (!(sgB x))))) rfl (.pure (.not _ _ rfl rfl)) rfl rfl ?_
  refine Ch.nil ?_
  refine T_cond (b := (!(sgB x))) rfl (fun h1 => ?_) (fun h1 => ?_)
  · replace h1 := nott h1
    try have hx := sg_has h1
    try have hx8 := hx.eight
    try have hxf := hx.few
    refine T_seq ?_
    refine T_region hc ?_
    refine Ch.step (v := (.d (.int .i64 0))) rfl (.pure (.assign _ rfl rfl)) rfl rfl ?_
    refine Ch.step (v := (.d (.bool false))) rfl (.pure (.assign _ rfl rfl)) rfl rfl ?_
    refine Ch.nil ?_
    refine T_ret ?_
    refine And.intro (.inr rfl) ?_
    exact Exists.intro [(.d (.int .i64 0)), (.d (.bool false))] (Exists.intro [] (Exists.intro [] (And.intro (.cons (.tmp 2 rfl) (.cons (.tmp 3 rfl) .nil)) (And.intro (.cons (.any _) .nil) (And.intro (.tup (.cons (Exp.of (congrArg (D.int .i64) (by first | (rw [cdV, h1]; rfl) | (rw [h1]; done))) (.d _)) (.cons (Exp.of (congrArg D.bool (by first | (rw [cdV, h1]; rfl) | (rw [h1]; done))) (.d _)) .nil))) (And.intro rfl rfl))))))
  · replace h1 := notf h1
    try have hx := sg_has h1
    try have hx8 := hx.eight
    try have hxf := hx.few
    refine T_skip ?_
    refine T_seq ?_
    refine T_region hc ?_
    refine Ch.step (v := (.agg [(.d (.slice false 2 (x.sigs.map Sgn.d))), (.d (.slice false 1 (x.codes.map D.str))), (.d (.slice false 4 (x.arcs.map Arc.d)))])) rfl (.pure (.loadPtrA _ _ rfl ag52 sz52 rfl rfl (Nat.le_of_ble_eq_true rfl) rfl)) rfl rfl ?_
    refine Ch.step (v := (.d (.int .i64 ((cdF x : Nat) : Int)))) rfl (.call 8000 83 _ _ _ en83 rfl (.inl rfl) (.cons (.lend (.agg (.cons (.d _) (.cons (.d _) (.cons (.d _) .nil))) rfl)) .nil) rfl rfl (sp_impl_disablings x (by first | assumption | omega | (rw [List.length_take]; omega) | (have := bulkF_mem hb _ (getD_mem (d := default) (by omega)); assumption) | (unfold bulkS at *; omega) | (simp_all; done)) (by assumption)) (.skip _ _ .nil) rfl) rfl rfl ?_
    refine Ch.step (v := (.d (.int .i64 ((cdF x : Nat) : Int)))) rfl (.pure (.assign _ rfl rfl)) rfl rfl ?_
    refine Ch.step (v := (.d (.bool true))) rfl (.pure (.assign _ rfl rfl)) rfl rfl ?_
    refine Ch.nil ?_
    refine T_ret ?_
    refine And.intro (.inr rfl) ?_
    exact Exists.intro [(.d (.int .i64 ((cdF x : Nat) : Int))), (.d (.bool true))] (Exists.intro [] (Exists.intro [] (And.intro (.cons (.tmp 2 rfl) (.cons (.tmp 3 rfl) .nil)) (And.intro (.cons (.any _) .nil) (And.intro (.tup (.cons (Exp.of (congrArg (D.int .i64) (by first | (rw [cdV, h1]; rfl) | (rw [h1]; done))) (.d _)) (.cons (Exp.of (congrArg D.bool (by first | (rw [cdV, h1]; rfl) | (rw [h1]; done))) (.d _)) .nil))) (And.intro rfl rfl))))))

set_option maxHeartbeats 1000000 in
theorem sp_laws_FnExactCountDisablings (x : Sgr) (hwx : x.wide) : Sp Try.prog 8 [(.agg [(.slice false 2 (x.sigs.map Sgn.d)), (.slice false 1 (x.codes.map D.str)), (.slice false 4 (x.arcs.map Arc.d))])] [.any] (.bool true) := by
  refine Sp_intro (lend := true) Try.func8 rfl rfl rfl (fun _ => rfl) (fun c hc hX => ?_)
  refine T_seq ?_
  refine T_region hc ?_
  refine Ch.step (v := (.ptr 1000 0)) rfl (.box 1000 _ _ rfl (.aggD _)) rfl rfl ?_
  refine Ch.step (v := (.d (.bool false))) rfl (.pure (.assign _ rfl rfl)) rfl rfl ?_
  refine Ch.nil ?_
  refine T_seq ?_
  refine T_region hc ?_
  refine Ch.step (v := (.d (.int .i64 1048576))) rfl (.pure (.assign _ rfl rfl)) rfl rfl ?_
  refine Ch.nil ?_
  refine T_seq ?_
  refine T_region hc ?_
  refine Ch.step (v := (.agg [(.d (.slice false 2 (x.sigs.map Sgn.d))), (.d (.slice false 1 (x.codes.map D.str))), (.d (.slice false 4 (x.arcs.map Arc.d)))])) rfl (.pure (.loadPtrA _ _ rfl ag46 sz46 rfl rfl (Nat.le_of_ble_eq_true rfl) rfl)) rfl rfl ?_
  refine Ch.step (v := (.d (.int .i64 1048576))) rfl (.pure (.move _ rfl rfl)) rfl rfl ?_
  refine Ch.step (v := (.d (.int .i64 (szR x.bulk 1048576)))) rfl (.call 11000 24 _ _ _ en24 rfl (.inl rfl) (.cons (.lend (.agg (.cons (.d _) (.cons (.d _) (.cons (.d _) .nil))) rfl)) (.cons (.d _) .nil)) rfl rfl (sp_laws_szStateGraph x 1048576 (by first | omega | assumption | (exact hx _ (getD_mem (by omega))) | (exact hx _ (by assumption)) | (exact Nat.le_trans (hx _ (by assumption)) (by omega)) | (simp only [List.length_append, List.length_take, List.length_drop, List.length_cons, List.length_nil]; omega) | (simp_all; done)) (by first | omega | assumption | (exact hx _ (getD_mem (by omega))) | (exact hx _ (by assumption)) | (exact Nat.le_trans (hx _ (by assumption)) (by omega)) | (simp only [List.length_append, List.length_take, List.length_drop, List.length_cons, List.length_nil]; omega) | (simp_all; done)) (by first | assumption | omega | trivial | (simp_all; done) | (exact fun _ _ => trivial) | (exact hx _ (by assumption)) | (refine ⟨?_, ?_⟩ <;> first | assumption | omega))) (.skip _ _ (.skip _ _ .nil)) rfl) rfl rfl ?_
  refine Ch.step (v := (.d (.int .i64 (szR x.bulk 1048576)))) rfl (.pure (.assign _ rfl rfl)) rfl rfl ?_
  refine Ch.nil ?_
  refine T_seq ?_
  refine T_seq ?_
  refine T_region hc ?_
  refine Ch.step (v := (.d (.int .i64 (szR x.bulk 1048576)))) rfl (.pure (.move _ rfl rfl)) rfl rfl ?_
  refine Ch.step (v := (.d (.bool (decide ((szR x.bulk 1048576) < 0))))) rfl (.pure (.int _ _ _ _ _ rfl rfl rfl rfl)) rfl rfl ?_
  refine Ch.nil ?_
  refine T_cond (b := (decide ((szR x.bulk 1048576) < 0))) rfl (fun h1 => ?_) (fun h1 => ?_)
  · replace h1 := of_decide_eq_true h1
    try have hz := szR_ok (t := x.bulk) (left := 1048576) h1 (by omega)
    try have hb : x.bulk ≤ 1048576 := by omega
    try have hl := hz.2
    refine T_seq ?_
    refine T_region hc ?_
    refine Ch.step (v := (.d (.bool true))) rfl (.pure (.assign _ rfl rfl)) rfl rfl ?_
    refine Ch.nil ?_
    refine T_ret ?_
    refine And.intro (.inr rfl) ?_
    exact Exists.intro [(.d (.bool true))] (Exists.intro [] (Exists.intro [] (And.intro (.cons (.tmp 2 rfl) .nil) (And.intro (.cons (.any _) .nil) (And.intro (.d _) (And.intro rfl rfl))))))
  · replace h1 := of_decide_eq_false h1
    try have hz := szR_ok (t := x.bulk) (left := 1048576) h1 (by omega)
    try have hb : x.bulk ≤ 1048576 := by omega
    try have hl := hz.2
    refine T_skip ?_
    refine T_seq ?_
    refine T_region hc ?_
    refine Ch.step (v := (.agg [(.d (.slice false 2 (x.sigs.map Sgn.d))), (.d (.slice false 1 (x.codes.map D.str))), (.d (.slice false 4 (x.arcs.map Arc.d)))])) rfl (.pure (.loadPtrA _ _ rfl ag46 sz46 rfl rfl (Nat.le_of_ble_eq_true rfl) rfl)) rfl rfl ?_
    refine Ch.step (v := (.agg [(.row 16000), (.row 16001), (.row 16002)])) rfl (.call 16000 26 _ _ _ en26 rfl (.inl rfl) (.cons (.lend (.agg (.cons (.d _) (.cons (.d _) (.cons (.d _) .nil))) rfl)) .nil) rfl (sol (Sgr.sol _) rfl) (sp_laws_toStateGraph x (by first | assumption | omega | (rw [List.length_take]; omega) | (have := bulkF_mem hb _ (getD_mem (d := default) (by omega)); assumption) | (unfold bulkS at *; omega) | (simp_all; done))) (.skip _ _ .nil) rfl) rfl rfl ?_
    refine Ch.step (v := (.tup [(.d (.int .i64 ((cdV x : Nat) : Int))), (.d (.bool (sgB x)))])) rfl (.call 17000 33 _ _ _ en33 rfl (.inl rfl) (.cons (.lend (.agg (.cons (.row rfl (frozs_map (fun _ => rfl) _)) (.cons (.row rfl (frozs_map (fun _ => rfl) _)) (.cons (.row rfl (frozs_map (fun _ => rfl) _)) .nil))) rfl)) .nil) rfl rfl (sp_spec_CountDisablings x (by first | assumption | omega | (rw [List.length_take]; omega) | (have := bulkF_mem hb _ (getD_mem (d := default) (by omega)); assumption) | (unfold bulkS at *; omega) | (simp_all; done))) (.skip _ _ .nil) rfl) rfl rfl ?_
    refine Ch.step (v := (.tup [(.d (.int .i64 ((cdV x : Nat) : Int))), (.d (.bool (sgB x)))])) rfl (.pure (.move _ rfl rfl)) rfl rfl ?_
    refine Ch.step (v := (.d (.int .i64 ((cdV x : Nat) : Int)))) rfl (.pure (.extract _ rfl rfl rfl)) rfl rfl ?_
    refine Ch.step (v := (.d (.bool (sgB x)))) rfl (.pure (.extract _ rfl rfl rfl)) rfl rfl ?_
    refine Ch.step (v := (.d (.int .i64 ((cdV x : Nat) : Int)))) rfl (.pure (.assign _ rfl rfl)) rfl rfl ?_
    refine Ch.step (v := (.d (.bool (sgB x)))) rfl (.pure (.assign _ rfl rfl)) rfl rfl ?_
    refine Ch.nil ?_
    refine T_seq ?_
    refine T_region hc ?_
    refine Ch.step (v := (.agg [(.d (.slice false 2 (x.sigs.map Sgn.d))), (.d (.slice false 1 (x.codes.map D.str))), (.d (.slice false 4 (x.arcs.map Arc.d)))])) rfl (.pure (.loadPtrA _ _ rfl ag46 sz46 rfl rfl (Nat.le_of_ble_eq_true rfl) rfl)) rfl rfl ?_
    refine Ch.step (v := (.agg [(.row 21000), (.row 21001), (.row 21002)])) rfl (.call 21000 26 _ _ _ en26 rfl (.inl rfl) (.cons (.lend (.agg (.cons (.d _) (.cons (.d _) (.cons (.d _) .nil))) rfl)) .nil) rfl (sol (Sgr.sol _) rfl) (sp_laws_toStateGraph x (by first | assumption | omega | (rw [List.length_take]; omega) | (have := bulkF_mem hb _ (getD_mem (d := default) (by omega)); assumption) | (unfold bulkS at *; omega) | (simp_all; done))) (.skip _ _ .nil) rfl) rfl rfl ?_
    refine Ch.step (v := (.ptr 6000 0)) rfl (.alloc 6000 _ rfl zer52) rfl rfl ?_
    refine Ch.step (v := .junk) rfl (.storePtr _ _ _ rfl rfl rfl (.agg _ rfl) sz52 (Nat.le_of_ble_eq_true rfl)) rfl rfl ?_
    refine Ch.nil ?_
    refine T_seq ?_
    refine T_region hc ?_
    refine Ch.step (v := (.agg [(.row 21000), (.row 21001), (.row 21002)])) rfl (.pure (.loadPtrA _ _ rfl ag52 sz52 rfl rfl (Nat.le_of_ble_eq_true rfl) rfl)) rfl rfl ?_
    refine Ch.step (v := (.tup [(.d (.int .i64 ((cdV x : Nat) : Int))), (.d (.bool (sgB x)))])) rfl (.call 24000 34 _ _ _ en34 rfl (.inl rfl) (.cons (.lend (.agg (.cons (.row rfl (frozs_map (fun _ => rfl) _)) (.cons (.row rfl (frozs_map (fun _ => rfl) _)) (.cons (.row rfl (frozs_map (fun _ => rfl) _)) .nil))) rfl)) .nil) rfl rfl (sp_impl_CountDisablings x (by first | assumption | omega | (rw [List.length_take]; omega) | (have := bulkF_mem hb _ (getD_mem (d := default) (by omega)); assumption) | (unfold bulkS at *; omega) | (simp_all; done))) (.skip _ _ .nil) rfl) rfl rfl ?_
    refine Ch.step (v := (.tup [(.d (.int .i64 ((cdV x : Nat) : Int))), (.d (.bool (sgB x)))])) rfl (.pure (.move _ rfl rfl)) rfl rfl ?_
    refine Ch.step (v := (.d (.int .i64 ((cdV x : Nat) : Int)))) rfl (.pure (.extract _ rfl rfl rfl)) rfl rfl ?_
    refine Ch.step (v := (.d (.bool (sgB x)))) rfl (.pure (.extract _ rfl rfl rfl)) rfl rfl ?_
    refine Ch.step (v := (.d (.int .i64 ((cdV x : Nat) : Int)))) rfl (.pure (.assign _ rfl rfl)) rfl rfl ?_
    refine Ch.step (v := (.d (.bool (sgB x)))) rfl (.pure (.assign _ rfl rfl)) rfl rfl ?_
    refine Ch.nil ?_
    refine T_seq ?_
    refine T_seq ?_
    refine T_region hc ?_
    refine Ch.step (v := (.d (.int .i64 ((cdV x : Nat) : Int)))) rfl (.pure (.move _ rfl rfl)) rfl rfl ?_
    refine Ch.step (v := (.d (.int .i64 ((cdV x : Nat) : Int)))) rfl (.pure (.move _ rfl rfl)) rfl rfl ?_
    refine Ch.step (v := (.d (.bool (!(decide (((cdV x : Nat) : Int) = ((cdV x : Nat) : Int))))))) rfl (.pure (.int _ _ _ _ _ rfl rfl rfl rfl)) rfl rfl ?_
    refine Ch.step (v := (.d (.bool (!(decide (((cdV x : Nat) : Int) = ((cdV x : Nat) : Int))))))) rfl (.pure (.move _ rfl rfl)) rfl rfl ?_
    cases h2 : (decide (((cdV x : Nat) : Int) = ((cdV x : Nat) : Int))) with
    | true =>
      replace h2 := of_decide_eq_true h2
      refine Ch.step (v := (.d (.bool (sgB x)))) rfl (.pure (.move _ rfl rfl)) rfl rfl ?_
      refine Ch.step (v := (.d (.bool (sgB x)))) rfl (.pure (.move _ rfl rfl)) rfl rfl ?_
      refine Ch.step (v := (.d (.bool (!(decide ((sgB x) = (sgB x))))))) rfl (.pure (.neB _ _ _ _ rfl Try.underlying4 rfl rfl)) rfl rfl ?_
      refine Ch.step (v := (.d (.bool (!(decide ((sgB x) = (sgB x))))))) rfl (.pure (.pickF _ _ _ rfl rfl rfl)) rfl rfl ?_
      refine Ch.nil ?_
      refine T_cond (b := (!(decide ((sgB x) = (sgB x))))) rfl (fun h3 => ?_) (fun h3 => ?_)
      · replace h3 := nott h3
        replace h3 := of_decide_eq_false h3
        refine T_seq ?_
        refine T_region hc ?_
        refine Ch.step (v := (.d (.bool false))) rfl (.pure (.assign _ rfl rfl)) rfl rfl ?_
        refine Ch.nil ?_
        refine T_ret ?_
        refine And.intro (.inr rfl) ?_
        exact Exists.intro [(.d (.bool false))] (Exists.intro [] (Exists.intro [] (And.intro (.cons (.tmp 2 rfl) .nil) (And.intro (.cons (.any _) .nil) (And.intro (Exp.of (congrArg D.bool (by first | rfl | contradiction | (exfalso; omega) | (simp_all; done) | (exfalso; simp_all; omega))) (.d _)) (And.intro rfl rfl))))))
      · replace h3 := notf h3
        replace h3 := of_decide_eq_true h3
        refine T_skip ?_
        refine T_seq ?_
        refine T_seq ?_
        refine T_regionD hc (by kernel_rfl) ?_
        refine ChD.step (v := (.agg [(.row 21000), (.row 21001), (.row 21002)])) [6000, 21000, 21001, 21002] rfl (.pure (.loadPtrA _ _ rfl ag52 sz52 rfl rfl (Nat.le_of_ble_eq_true rfl) rfl)) rfl rfl ?_
        refine ChD.step (v := (.agg [(.d (.slice false 2 (x.sigs.map Sgn.d))), (.d (.slice false 1 (x.codes.map D.str))), (.d (.slice false 4 (x.arcs.map Arc.d)))])) [1000] rfl (.pure (.loadPtrA _ _ rfl ag46 sz46 rfl rfl (Nat.le_of_ble_eq_true rfl) rfl)) rfl rfl ?_
        refine ChD.step (v := (.agg [(.row 37000), (.row 37001), (.row 37002)])) [] rfl (.call 37000 26 _ _ _ en26 rfl (.inl rfl) (.cons (.lend (.agg (.cons (.d _) (.cons (.d _) (.cons (.d _) .nil))) rfl)) .nil) rfl (sol (Sgr.sol _) rfl) (sp_laws_toStateGraph x (by first | assumption | omega | (rw [List.length_take]; omega) | (have := bulkF_mem hb _ (getD_mem (d := default) (by omega)); assumption) | (unfold bulkS at *; omega) | (simp_all; done))) (.skip _ _ .nil) rfl) rfl rfl ?_
        refine ChD.step (v := (.d (.bool (decide (x = x))))) [21000, 21001, 21002, 37000, 37001, 37002] rfl (.call 38000 28 _ _ _ en28 rfl (.inl rfl) (.cons (.lend (.agg (.cons (.row rfl (frozs_map (fun _ => rfl) _)) (.cons (.row rfl (frozs_map (fun _ => rfl) _)) (.cons (.row rfl (frozs_map (fun _ => rfl) _)) .nil))) rfl)) (.cons (.lend (.agg (.cons (.row rfl (frozs_map (fun _ => rfl) _)) (.cons (.row rfl (frozs_map (fun _ => rfl) _)) (.cons (.row rfl (frozs_map (fun _ => rfl) _)) .nil))) rfl)) .nil)) rfl rfl (sp_laws_eqStateGraph x x (by first | assumption | omega | (rw [List.length_take]; omega) | (have := bulkF_mem hb _ (getD_mem (d := default) (by omega)); assumption) | (unfold bulkS at *; omega) | (simp_all; done))) (.skip _ _ (.skip _ _ .nil)) rfl) rfl rfl ?_
        refine ChD.step (v := (.d (.bool (!(decide (x = x)))))) [] rfl (.pure (.not _ _ rfl rfl)) rfl rfl ?_
        refine ChD.nil (And.intro ?_ (by kernel_rfl))
        refine T_cond (b := (!(decide (x = x)))) rfl (fun h4 => ?_) (fun h4 => ?_)
        · replace h4 := nott h4
          replace h4 := of_decide_eq_false h4
          refine T_seq ?_
          refine T_region hc ?_
          refine Ch.step (v := (.d (.bool false))) rfl (.pure (.assign _ rfl rfl)) rfl rfl ?_
          refine Ch.nil ?_
          refine T_ret ?_
          refine And.intro (.inr rfl) ?_
          exact Exists.intro [(.d (.bool false))] (Exists.intro [] (Exists.intro [] (And.intro (.cons (.tmp 2 rfl) .nil) (And.intro (.cons (.any _) .nil) (And.intro (Exp.of (congrArg D.bool (by first | rfl | contradiction | (exfalso; omega) | (simp_all; done) | (exfalso; simp_all; omega))) (.d _)) (And.intro rfl rfl))))))
        · replace h4 := notf h4
          replace h4 := of_decide_eq_true h4
          refine T_skip ?_
          refine T_seq ?_
          refine T_region hc ?_
          refine Ch.step (v := (.d (.bool true))) rfl (.pure (.assign _ rfl rfl)) rfl rfl ?_
          refine Ch.nil ?_
          refine T_ret ?_
          refine And.intro (.inr rfl) ?_
          exact Exists.intro [(.d (.bool true))] (Exists.intro [] (Exists.intro [] (And.intro (.cons (.tmp 2 rfl) .nil) (And.intro (.cons (.any _) .nil) (And.intro (.d _) (And.intro rfl rfl))))))
    | false =>
      replace h2 := of_decide_eq_false h2
      refine Ch.skip rfl rfl ?_
      refine Ch.skip rfl rfl ?_
      refine Ch.skip rfl rfl ?_
      refine Ch.step (v := (.d (.bool true))) rfl (.pure (.pickT _ _ _ rfl rfl rfl)) rfl rfl ?_
      refine Ch.nil ?_
      refine T_cond (b := true) rfl (fun _ => ?_) (fun h => nomatch h)
      refine T_seq ?_
      refine T_region hc ?_
      refine Ch.step (v := (.d (.bool false))) rfl (.pure (.assign _ rfl rfl)) rfl rfl ?_
      refine Ch.nil ?_
      refine T_ret ?_
      refine And.intro (.inr rfl) ?_
      exact Exists.intro [(.d (.bool false))] (Exists.intro [] (Exists.intro [] (And.intro (.cons (.tmp 2 rfl) .nil) (And.intro (.cons (.any _) .nil) (And.intro (Exp.of (congrArg D.bool (by first | rfl | contradiction | (exfalso; omega) | (simp_all; done) | (exfalso; simp_all; omega))) (.d _)) (And.intro rfl rfl))))))

end Go.AM
