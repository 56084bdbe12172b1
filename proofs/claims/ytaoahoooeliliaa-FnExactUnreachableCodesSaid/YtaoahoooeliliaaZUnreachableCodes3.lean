/-
  The contracts that the law FnExactUnreachableCodes needs.
-/
import Derived.Test.YtaoahoooeliliaaZUnreachableCodes2
namespace Go.AM
open Go.Proofs
set_option linter.unusedVariables false
set_option linter.unusedSimpArgs false

set_option maxHeartbeats 2000000 in
theorem sp_impl_IsValidStateGraph (x : Sgr) (hb : x.bulk ≤ 1048576) : Sp Try.prog 80 [(.agg [(.slice false 2 (x.sigs.map Sgn.d)), (.slice false 1 (x.codes.map D.str)), (.slice false 4 (x.arcs.map Arc.d))])] [.any] (.bool (sgB x)) := by
  refine Sp_intro (lend := true) Try.func80 rfl rfl rfl (fun _ => rfl) (fun c hc hX => ?_)
  obtain ⟨hp0, hp1, hp2⟩ := Sgr.parts hb
  have hn0 := bulkF_len hp0
  have hn1 := bulk_len hp1
  have hx1 := bulk_mem hp1
  have hn2 := bulkF_len hp2
  refine T_seq ?_
  refine T_region hc ?_
  refine Ch.step (v := (.ptr 1000 0)) rfl (.box 1000 _ _ rfl (.aggD _)) rfl rfl ?_
  refine Ch.step (v := (.d (.bool false))) rfl (.pure (.assign _ rfl rfl)) rfl rfl ?_
  refine Ch.nil ?_
  refine T_seq ?_
  refine T_seq ?_
  refine T_region hc ?_
  refine Ch.step (v := (.ptr 1000 0)) rfl (.pure (.fldPtr _ _ _ rfl fld52_0 rfl)) rfl rfl ?_
  refine Ch.step (v := (.d (.slice false 2 (x.sigs.map Sgn.d)))) rfl (.pure (.loadPtr1 _ _ rfl ag29 rfl rfl rfl)) rfl rfl ?_
  refine Ch.step (v := (.d (.bool (sigsB x.sigs)))) rfl (.call 10000 109 _ _ _ en109 rfl (.inl rfl) (.cons (.d _) .nil) rfl rfl (sp_impl_areSignals x.sigs (by first | assumption | omega | (rw [List.length_take]; omega) | (have := bulkF_mem hb _ (getD_mem (d := default) (by omega)); assumption) | (unfold bulkS at *; omega) | (simp_all; done))) (.skip _ _ .nil) rfl) rfl rfl ?_
  refine Ch.step (v := (.d (.bool (!(sigsB x.sigs))))) rfl (.pure (.not _ _ rfl rfl)) rfl rfl ?_
  refine Ch.step (v := (.d (.bool (!(sigsB x.sigs))))) rfl (.pure (.move _ rfl rfl)) rfl rfl ?_
  cases h1 : (sigsB x.sigs) with
  | true =>
    refine Ch.step (v := (.ptr 1000 1)) rfl (.pure (.fldPtr _ _ _ rfl fld52_1 rfl)) rfl rfl ?_
    refine Ch.step (v := (.d (.slice false 1 (x.codes.map D.str)))) rfl (.pure (.loadPtr1 _ _ rfl ag43 rfl rfl rfl)) rfl rfl ?_
    refine Ch.step (v := (.d (.int .i64 ((x.codes.length : Nat) : Int)))) rfl (.pure (.len _ _ 9 rfl Try.underlying43 (.sh _ _) (by simp))) rfl rfl ?_
    refine Ch.step (v := (.d (.bool (withinB ((x.codes.length : Nat) : Int) 1 300)))) rfl (.call 16000 57 _ _ _ en57 rfl (.inl rfl) (.cons (.d _) (.cons (.d _) (.cons (.d _) .nil))) rfl rfl (sp_impl_within ((x.codes.length : Nat) : Int) 1 300) (.skip _ _ (.skip _ _ (.skip _ _ .nil))) rfl) rfl rfl ?_
    refine Ch.step (v := (.d (.bool (!(withinB ((x.codes.length : Nat) : Int) 1 300))))) rfl (.pure (.not _ _ rfl rfl)) rfl rfl ?_
    refine Ch.step (v := (.d (.bool (!(withinB ((x.codes.length : Nat) : Int) 1 300))))) rfl (.pure (.pickF _ _ _ rfl rfl rfl)) rfl rfl ?_
    refine Ch.step (v := (.d (.bool (!(withinB ((x.codes.length : Nat) : Int) 1 300))))) rfl (.pure (.move _ rfl rfl)) rfl rfl ?_
    cases h2 : (withinB ((x.codes.length : Nat) : Int) 1 300) with
    | true =>
      try have hw2 := within_two h2
      refine Ch.step (v := (.ptr 1000 2)) rfl (.pure (.fldPtr _ _ _ rfl fld52_2 rfl)) rfl rfl ?_
      refine Ch.step (v := (.d (.slice false 4 (x.arcs.map Arc.d)))) rfl (.pure (.loadPtr1 _ _ rfl ag50 rfl rfl rfl)) rfl rfl ?_
      refine Ch.step (v := (.d (.int .i64 ((x.arcs.length : Nat) : Int)))) rfl (.pure (.len _ _ 102 rfl Try.underlying50 (.sh _ _) (by simp))) rfl rfl ?_
      refine Ch.step (v := (.d (.bool (decide (4000 < ((x.arcs.length : Nat) : Int)))))) rfl (.pure (.int _ _ _ _ _ rfl rfl rfl rfl)) rfl rfl ?_
      refine Ch.step (v := (.d (.bool (decide (4000 < ((x.arcs.length : Nat) : Int)))))) rfl (.pure (.pickF _ _ _ rfl rfl rfl)) rfl rfl ?_
      refine Ch.nil ?_
      refine T_cond (b := (decide (4000 < ((x.arcs.length : Nat) : Int)))) rfl (fun h3 => ?_) (fun h3 => ?_)
      · replace h3 := of_decide_eq_true h3
        refine T_seq ?_
        refine T_region hc ?_
        refine Ch.step (v := (.d (.bool false))) rfl (.pure (.assign _ rfl rfl)) rfl rfl ?_
        refine Ch.nil ?_
        refine T_ret ?_
        refine And.intro (.inr rfl) ?_
        exact Exists.intro [(.d (.bool false))] (Exists.intro [] (Exists.intro [] (And.intro (.cons (.tmp 2 rfl) .nil) (And.intro (.cons (.any _) .nil) (And.intro (Exp.of (congrArg D.bool (by first | (rw [sgB, h1]; rfl) | (rw [sgB, h1, h2]; rfl) | (rw [sgB, h1, h2, decide_eq_true (by omega)]; rfl) | (exact (sg_no_code (k := k) (by omega) (by assumption)).symm) | (exact (sg_no_arc (k := m) (by omega) (by first | assumption | (unfold arcB codeAt; simp_all; done))).symm) | (exact sg_end h1 h2 (by omega) hcl hal))) (.d _)) (And.intro rfl rfl))))))
      · replace h3 := of_decide_eq_false h3
        refine T_skip ?_
        refine T_seq ?_
        refine T_region hc ?_
        refine Ch.step (v := (.ptr 1000 1)) rfl (.pure (.fldPtr _ _ _ rfl fld52_1 rfl)) rfl rfl ?_
        refine Ch.step (v := (.d (.slice false 1 (x.codes.map D.str)))) rfl (.pure (.loadPtr1 _ _ rfl ag43 rfl rfl rfl)) rfl rfl ?_
        refine Ch.step (v := (.d (.int .i64 ((x.codes.length : Nat) : Int)))) rfl (.pure (.len _ _ 9 rfl Try.underlying43 (.sh _ _) (by simp))) rfl rfl ?_
        refine Ch.step (v := (.d (.int .i64 (((x.codes.length : Nat) : Int) - 1)))) rfl (.pure (.int _ _ _ _ _ rfl rfl rfl (intV_sub (by first | omega | (simp only [List.length_map, List.length_append, List.length_take, List.length_drop, List.length_cons, List.length_nil]; omega) | (simp; omega) | (simp; done)) (by first | omega | (simp only [List.length_map, List.length_append, List.length_take, List.length_drop, List.length_cons, List.length_nil]; omega) | (simp; omega) | (simp; done))))) rfl rfl ?_
        refine Ch.step (v := (.d (.int .i64 (((x.codes.length : Nat) : Int) - 1)))) rfl (.pure (.assign _ rfl rfl)) rfl rfl ?_
        refine Ch.nil ?_
        refine T_seq ?_
        refine T_seq ?_
        refine T_region hc ?_
        refine Ch.step (v := (.ptr 1000 1)) rfl (.pure (.fldPtr _ _ _ rfl fld52_1 rfl)) rfl rfl ?_
        refine Ch.step (v := (.d (.slice false 1 (x.codes.map D.str)))) rfl (.pure (.loadPtr1 _ _ rfl ag43 rfl rfl rfl)) rfl rfl ?_
        refine Ch.step (v := (.d (.int .i64 ((x.codes.length : Nat) : Int)))) rfl (.pure (.len _ _ 9 rfl Try.underlying43 (.sh _ _) (by simp))) rfl rfl ?_
        refine Ch.step (v := (.d (.int .i64 0))) rfl (.pure (.move _ rfl rfl)) rfl rfl ?_
        refine Ch.nil ?_
        refine T_block ?_
        refine T_loop (ι := Nat) (fun k => { n := 101, sl := [(1, (.ptr 1000 0)), (3, (.d (.int .i64 (((x.codes.length : Nat) : Int) - 1)))), (30, (.d (.slice false 1 (x.codes.map D.str)))), (31, (.d (.int .i64 ((x.codes.length : Nat) : Int)))), (32, (.d (.int .i64 ((k : Nat) : Int))))], hp := [(1000, (some (.box [(.d (.slice false 2 (x.sigs.map Sgn.d))), (.d (.slice false 1 (x.codes.map D.str))), (.d (.slice false 4 (x.arcs.map Arc.d)))])))], pin := [] }) (fun k => k ≤ x.codes.length ∧ ∀ j, j < k → codeN (x.codes.getD j default) (x.sigs.length : Int) = true) (fun k => x.codes.length - k) ⟨0, ⟨by omega, fun j hj => by omega⟩, (Wk.of rfl rfl (And.intro rfl (And.intro rfl (And.intro rfl (And.intro rfl (And.intro (vI (by first | rfl | omega | (simp; done) | (simp; omega))) trivial))))) (And.intro rfl trivial))⟩ (fun k hp0 => ?_)
        refine T_seq ?_
        refine T_region hc ?_
        refine Ch.step (v := (.d (.bool (decide (((k : Nat) : Int) < ((x.codes.length : Nat) : Int)))))) rfl (.pure (.int _ _ _ _ _ rfl rfl rfl rfl)) rfl rfl ?_
        refine Ch.nil ?_
        refine T_seq ?_
        refine T_cond (b := (decide (((k : Nat) : Int) < ((x.codes.length : Nat) : Int)))) rfl (fun h4 => ?_) (fun h4 => ?_)
        · replace h4 := of_decide_eq_true h4
          try have hcl := sg_codes (x := x) (k := k) (by omega) hp0.2
          try have hca := codes_at hcl
          refine T_skip ?_
          refine T_seq ?_
          refine T_block ?_
          refine T_seq ?_
          refine T_region hc ?_
          refine Ch.step (v := (.d (.ref (.str (x.codes.getD k default))))) rfl (.pure (.idx _ _ _ 9 (k) rfl Try.underlying43 sz9 rfl rfl rfl (get_map _ (by first | omega | (simp only [List.length_map, List.length_append, List.length_take, List.length_drop, List.length_cons, List.length_nil]; omega) | (simp; omega) | (simp; done))))) rfl rfl ?_
          refine Ch.step (v := (.d (.str (x.codes.getD k default)))) rfl (.pure (.loadRef1 _ _ rfl ag9 rfl rfl)) rfl rfl ?_
          refine Ch.step (v := (.d (.str (x.codes.getD k default)))) rfl (.pure (.assign _ rfl rfl)) rfl rfl ?_
          refine Ch.nil ?_
          refine T_seq ?_
          refine T_region hc ?_
          refine Ch.step (v := (.d (.str (x.codes.getD k default)))) rfl (.pure (.move _ rfl rfl)) rfl rfl ?_
          refine Ch.step (v := (.ptr 1000 0)) rfl (.pure (.fldPtr _ _ _ rfl fld52_0 rfl)) rfl rfl ?_
          refine Ch.step (v := (.d (.slice false 2 (x.sigs.map Sgn.d)))) rfl (.pure (.loadPtr1 _ _ rfl ag29 rfl rfl rfl)) rfl rfl ?_
          refine Ch.step (v := (.d (.int .i64 ((x.sigs.length : Nat) : Int)))) rfl (.pure (.len _ _ 97 rfl Try.underlying29 (.sh _ _) (by simp))) rfl rfl ?_
          refine Ch.step (v := (.d (.bool (codeN (x.codes.getD k default) ((x.sigs.length : Nat) : Int))))) rfl (.call 40000 131 _ _ _ en131 rfl (.inl rfl) (.cons (.d _) (.cons (.d _) .nil)) rfl rfl (sp_impl_isBits (x.codes.getD k default) ((x.sigs.length : Nat) : Int) (by first | assumption | omega | (rw [List.length_take]; omega) | (have := bulkF_mem hb _ (getD_mem (d := default) (by omega)); assumption) | (unfold bulkS at *; omega) | (simp_all; done))) (.skip _ _ (.skip _ _ .nil)) rfl) rfl rfl ?_
          refine Ch.step (v := (.d (.bool (!(codeN (x.codes.getD k default) ((x.sigs.length : Nat) : Int)))))) rfl (.pure (.not _ _ rfl rfl)) rfl rfl ?_
          refine Ch.nil ?_
          refine T_cond (b := (!(codeN (x.codes.getD k default) ((x.sigs.length : Nat) : Int)))) rfl (fun h5 => ?_) (fun h5 => ?_)
          · replace h5 := nott h5
            refine T_seq ?_
            refine T_region hc ?_
            refine Ch.step (v := (.d (.bool false))) rfl (.pure (.assign _ rfl rfl)) rfl rfl ?_
            refine Ch.nil ?_
            refine T_ret ?_
            refine And.intro (.inr rfl) ?_
            exact Exists.intro [(.d (.bool false))] (Exists.intro [] (Exists.intro [] (And.intro (.cons (.tmp 2 rfl) .nil) (And.intro (.cons (.any _) .nil) (And.intro (Exp.of (congrArg D.bool (by first | (rw [sgB, h1]; rfl) | (rw [sgB, h1, h2]; rfl) | (rw [sgB, h1, h2, decide_eq_true (by omega)]; rfl) | (exact (sg_no_code (k := k) (by omega) (by assumption)).symm) | (exact (sg_no_arc (k := m) (by omega) (by first | assumption | (unfold arcB codeAt; simp_all; done))).symm) | (exact sg_end h1 h2 (by omega) hcl hal))) (.d _)) (And.intro rfl rfl))))))
          · replace h5 := notf h5
            refine T_skip ?_
            refine T_region hc ?_
            refine Ch.step (v := (.d (.int .i64 (((k : Nat) : Int) + 1)))) rfl (.pure (.int _ _ _ _ _ rfl rfl rfl (intV_add (by first | omega | (simp only [List.length_map, List.length_append, List.length_take, List.length_drop, List.length_cons, List.length_nil]; omega) | (simp; omega) | (simp; done)) (by first | omega | (simp only [List.length_map, List.length_append, List.length_take, List.length_drop, List.length_cons, List.length_nil]; omega) | (simp; omega) | (simp; done))))) rfl rfl ?_
            refine Ch.step (v := (.d (.int .i64 (((k : Nat) : Int) + 1)))) rfl (.pure (.move _ rfl rfl)) rfl rfl ?_
            refine Ch.nil ?_
            refine Exists.intro (k + 1) (And.intro ⟨by omega, upto_succ hp0.2 (by assumption)⟩ (And.intro (by first | omega | (dsimp only; omega)) (Wk.of rfl rfl (And.intro rfl (And.intro rfl (And.intro rfl (And.intro rfl (And.intro (vI (by first | rfl | omega | (simp; done) | (simp; omega))) trivial))))) (And.intro rfl trivial))))
        · replace h4 := of_decide_eq_false h4
          try have hcl := sg_codes (x := x) (k := k) (by omega) hp0.2
          try have hca := codes_at hcl
          refine T_exit ?_
          refine T_seq ?_
          refine T_seq ?_
          refine T_region hc ?_
          refine Ch.step (v := (.ptr 1000 2)) rfl (.pure (.fldPtr _ _ _ rfl fld52_2 rfl)) rfl rfl ?_
          refine Ch.step (v := (.d (.slice false 4 (x.arcs.map Arc.d)))) rfl (.pure (.loadPtr1 _ _ rfl ag50 rfl rfl rfl)) rfl rfl ?_
          refine Ch.step (v := (.d (.int .i64 ((x.arcs.length : Nat) : Int)))) rfl (.pure (.len _ _ 102 rfl Try.underlying50 (.sh _ _) (by simp))) rfl rfl ?_
          refine Ch.step (v := (.d (.int .i64 0))) rfl (.pure (.move _ rfl rfl)) rfl rfl ?_
          refine Ch.nil ?_
          refine T_block ?_
          refine T_loop (ι := Nat) (fun m => { n := 101, sl := [(1, (.ptr 1000 0)), (3, (.d (.int .i64 (((x.codes.length : Nat) : Int) - 1)))), (44, (.d (.slice false 4 (x.arcs.map Arc.d)))), (45, (.d (.int .i64 ((x.arcs.length : Nat) : Int)))), (46, (.d (.int .i64 ((m : Nat) : Int))))], hp := [(1000, (some (.box [(.d (.slice false 2 (x.sigs.map Sgn.d))), (.d (.slice false 1 (x.codes.map D.str))), (.d (.slice false 4 (x.arcs.map Arc.d)))])))], pin := [] }) (fun m => m ≤ x.arcs.length ∧ ∀ j, j < m → arcB x (x.arcs.getD j default) = true) (fun m => x.arcs.length - m) ⟨0, ⟨by omega, fun j hj => by omega⟩, (Wk.of rfl rfl (And.intro rfl (And.intro rfl (And.intro rfl (And.intro rfl (And.intro (vI (by first | rfl | omega | (simp; done) | (simp; omega))) trivial))))) (And.intro rfl trivial))⟩ (fun m hp1 => ?_)
          refine T_seq ?_
          refine T_region hc ?_
          refine Ch.step (v := (.d (.bool (decide (((m : Nat) : Int) < ((x.arcs.length : Nat) : Int)))))) rfl (.pure (.int _ _ _ _ _ rfl rfl rfl rfl)) rfl rfl ?_
          refine Ch.nil ?_
          refine T_seq ?_
          refine T_cond (b := (decide (((m : Nat) : Int) < ((x.arcs.length : Nat) : Int)))) rfl (fun h6 => ?_) (fun h6 => ?_)
          · replace h6 := of_decide_eq_true h6
            try have hal := sg_arcs (x := x) (k := m) (by omega) hp1.2
            try have hen := arc_ends hal
            try have hse := steps_ends hen
            try have hsl := stepsOf_len x.arcs
            try have hdl := distF_len (n := x.codes.length) (s := 0) (by omega) hse
            refine T_skip ?_
            refine T_seq ?_
            refine T_block ?_
            refine T_seq ?_
            refine T_region hc ?_
            refine Ch.step (v := (.d (.ref (.agg [(.int .i64 ((x.arcs.getD m default).src)), (.int .i64 ((x.arcs.getD m default).sig)), (.bool ((x.arcs.getD m default).up)), (.int .i64 ((x.arcs.getD m default).dst))])))) rfl (.pure (.idx _ _ _ 102 (m) rfl Try.underlying50 sz102 rfl rfl rfl (get_map _ (by first | omega | (simp only [List.length_map, List.length_append, List.length_take, List.length_drop, List.length_cons, List.length_nil]; omega) | (simp; omega) | (simp; done))))) rfl rfl ?_
            refine Ch.step (v := (.d (.agg [(.int .i64 ((x.arcs.getD m default).src)), (.int .i64 ((x.arcs.getD m default).sig)), (.bool ((x.arcs.getD m default).up)), (.int .i64 ((x.arcs.getD m default).dst))]))) rfl (.pure (.loadRefA _ _ rfl ag102 sz102 rfl)) rfl rfl ?_
            refine Ch.step (v := (.ptr 7000 0)) rfl (.alloc 7000 _ rfl zer102) rfl rfl ?_
            refine Ch.step (v := .junk) rfl (.storePtr _ _ _ rfl rfl rfl (.aggD _) sz102 (Nat.le_of_ble_eq_true rfl)) rfl rfl ?_
            refine Ch.nil ?_
            refine T_seq ?_
            refine T_regionD hc (by kernel_rfl) ?_
            refine ChD.step (v := (.ptr 7000 0)) [] rfl (.pure (.fldPtr _ _ _ rfl fld102_0 rfl)) rfl rfl ?_
            refine ChD.step (v := (.d (.int .i64 ((x.arcs.getD m default).src)))) [7000] rfl (.pure (.loadPtr1 _ _ rfl ag3 rfl rfl rfl)) rfl rfl ?_
            refine ChD.step (v := (.d (.int .i64 (((x.codes.length : Nat) : Int) - 1)))) [] rfl (.pure (.move _ rfl rfl)) rfl rfl ?_
            refine ChD.step (v := (.d (.bool (withinB ((x.arcs.getD m default).src) 0 (((x.codes.length : Nat) : Int) - 1))))) [] rfl (.call 53000 57 _ _ _ en57 rfl (.inl rfl) (.cons (.d _) (.cons (.d _) (.cons (.d _) .nil))) rfl rfl (sp_impl_within ((x.arcs.getD m default).src) 0 (((x.codes.length : Nat) : Int) - 1)) (.skip _ _ (.skip _ _ (.skip _ _ .nil))) rfl) rfl rfl ?_
            refine ChD.step (v := (.d (.bool (!(withinB ((x.arcs.getD m default).src) 0 (((x.codes.length : Nat) : Int) - 1)))))) [] rfl (.pure (.not _ _ rfl rfl)) rfl rfl ?_
            refine ChD.step (v := (.d (.bool (!(withinB ((x.arcs.getD m default).src) 0 (((x.codes.length : Nat) : Int) - 1)))))) [] rfl (.pure (.move _ rfl rfl)) rfl rfl ?_
            cases h7 : (withinB ((x.arcs.getD m default).src) 0 (((x.codes.length : Nat) : Int) - 1)) with
            | true =>
              try have hw7 := within_two h7
              refine ChD.step (v := (.ptr 7000 3)) [] rfl (.pure (.fldPtr _ _ _ rfl fld102_3 rfl)) rfl rfl ?_
              refine ChD.step (v := (.d (.int .i64 ((x.arcs.getD m default).dst)))) [7000] rfl (.pure (.loadPtr1 _ _ rfl ag3 rfl rfl rfl)) rfl rfl ?_
              refine ChD.step (v := (.d (.int .i64 (((x.codes.length : Nat) : Int) - 1)))) [] rfl (.pure (.move _ rfl rfl)) rfl rfl ?_
              refine ChD.step (v := (.d (.bool (withinB ((x.arcs.getD m default).dst) 0 (((x.codes.length : Nat) : Int) - 1))))) [] rfl (.call 59000 57 _ _ _ en57 rfl (.inl rfl) (.cons (.d _) (.cons (.d _) (.cons (.d _) .nil))) rfl rfl (sp_impl_within ((x.arcs.getD m default).dst) 0 (((x.codes.length : Nat) : Int) - 1)) (.skip _ _ (.skip _ _ (.skip _ _ .nil))) rfl) rfl rfl ?_
              refine ChD.step (v := (.d (.bool (!(withinB ((x.arcs.getD m default).dst) 0 (((x.codes.length : Nat) : Int) - 1)))))) [] rfl (.pure (.not _ _ rfl rfl)) rfl rfl ?_
              refine ChD.step (v := (.d (.bool (!(withinB ((x.arcs.getD m default).dst) 0 (((x.codes.length : Nat) : Int) - 1)))))) [] rfl (.pure (.pickF _ _ _ rfl rfl rfl)) rfl rfl ?_
              refine ChD.step (v := (.d (.bool (!(withinB ((x.arcs.getD m default).dst) 0 (((x.codes.length : Nat) : Int) - 1)))))) [] rfl (.pure (.move _ rfl rfl)) rfl rfl ?_
              cases h8 : (withinB ((x.arcs.getD m default).dst) 0 (((x.codes.length : Nat) : Int) - 1)) with
              | true =>
                try have hw8 := within_two h8
                try have hl1 := hca (x.arcs.getD m default).src (by omega) (by omega)
                try have hl2 := hca (x.arcs.getD m default).dst (by omega) (by omega)
                try have hl3 := hl1.2
                try have hl4 := hl2.2
                try unfold codeAt at hl3 hl4
                refine ChD.step (v := (.ptr 7000 1)) [] rfl (.pure (.fldPtr _ _ _ rfl fld102_1 rfl)) rfl rfl ?_
                refine ChD.step (v := (.d (.int .i64 ((x.arcs.getD m default).sig)))) [7000] rfl (.pure (.loadPtr1 _ _ rfl ag3 rfl rfl rfl)) rfl rfl ?_
                refine ChD.step (v := (.ptr 7000 2)) [] rfl (.pure (.fldPtr _ _ _ rfl fld102_2 rfl)) rfl rfl ?_
                refine ChD.step (v := (.d (.bool ((x.arcs.getD m default).up)))) [7000] rfl (.pure (.loadPtr1 _ _ rfl ag4 rfl rfl rfl)) rfl rfl ?_
                refine ChD.step (v := (.agg [(.d (.int .i64 ((x.arcs.getD m default).sig))), (.d (.bool ((x.arcs.getD m default).up)))])) [] rfl (.build _ _ rfl stru139 (.cons (.one _ rfl) (.cons (.one _ rfl) .nil)) rfl) rfl rfl ?_
                refine ChD.step (v := (.ptr 1000 0)) [] rfl (.pure (.fldPtr _ _ _ rfl fld52_0 rfl)) rfl rfl ?_
                refine ChD.step (v := (.d (.slice false 2 (x.sigs.map Sgn.d)))) [1000] rfl (.pure (.loadPtr1 _ _ rfl ag29 rfl rfl rfl)) rfl rfl ?_
                refine ChD.step (v := (.d (.int .i64 ((x.sigs.length : Nat) : Int)))) [] rfl (.pure (.len _ _ 97 rfl Try.underlying29 (.sh _ _) (by simp))) rfl rfl ?_
                refine ChD.step (v := (.d (.bool (edgeB (Lab.mk ((x.arcs.getD m default).sig) ((x.arcs.getD m default).up)) ((x.sigs.length : Nat) : Int))))) [] rfl (.call 71000 132 _ _ _ en132 rfl (.inl rfl) (.cons (.lend (.agg (.cons (.d _) (.cons (.d _) .nil)) rfl)) (.cons (.d _) .nil)) rfl rfl (sp_impl_isEdge (Lab.mk ((x.arcs.getD m default).sig) ((x.arcs.getD m default).up)) ((x.sigs.length : Nat) : Int) (by first | assumption | omega | (rw [List.length_take]; omega) | (have := bulkF_mem hb _ (getD_mem (d := default) (by omega)); assumption) | (unfold bulkS at *; omega) | (simp_all; done)) (by first | assumption | omega | (rw [List.length_take]; omega) | (have := bulkF_mem hb _ (getD_mem (d := default) (by omega)); assumption) | (unfold bulkS at *; omega) | (simp_all; done))) (.skip _ _ (.skip _ _ .nil)) rfl) rfl rfl ?_
                refine ChD.step (v := (.d (.bool (!(edgeB (Lab.mk ((x.arcs.getD m default).sig) ((x.arcs.getD m default).up)) ((x.sigs.length : Nat) : Int)))))) [] rfl (.pure (.not _ _ rfl rfl)) rfl rfl ?_
                refine ChD.step (v := (.d (.bool (!(edgeB (Lab.mk ((x.arcs.getD m default).sig) ((x.arcs.getD m default).up)) ((x.sigs.length : Nat) : Int)))))) [] rfl (.pure (.pickF _ _ _ rfl rfl rfl)) rfl rfl ?_
                refine ChD.step (v := (.d (.bool (!(edgeB (Lab.mk ((x.arcs.getD m default).sig) ((x.arcs.getD m default).up)) ((x.sigs.length : Nat) : Int)))))) [] rfl (.pure (.move _ rfl rfl)) rfl rfl ?_
                cases h9 : (edgeB (Lab.mk ((x.arcs.getD m default).sig) ((x.arcs.getD m default).up)) ((x.sigs.length : Nat) : Int)) with
                | true =>
                  refine ChD.step (v := (.agg [(.d (.int .i64 ((x.arcs.getD m default).src))), (.d (.int .i64 ((x.arcs.getD m default).sig))), (.d (.bool ((x.arcs.getD m default).up))), (.d (.int .i64 ((x.arcs.getD m default).dst)))])) [7000] rfl (.pure (.loadPtrA _ _ rfl ag102 sz102 rfl rfl (Nat.le_of_ble_eq_true rfl) rfl)) rfl rfl ?_
                  refine ChD.step (v := (.ptr 1000 1)) [] rfl (.pure (.fldPtr _ _ _ rfl fld52_1 rfl)) rfl rfl ?_
                  refine ChD.step (v := (.d (.slice false 1 (x.codes.map D.str)))) [1000] rfl (.pure (.loadPtr1 _ _ rfl ag43 rfl rfl rfl)) rfl rfl ?_
                  refine ChD.step (v := (.ptr 7000 0)) [] rfl (.pure (.fldPtr _ _ _ rfl fld102_0 rfl)) rfl rfl ?_
                  refine ChD.step (v := (.d (.int .i64 ((x.arcs.getD m default).src)))) [7000] rfl (.pure (.loadPtr1 _ _ rfl ag3 rfl rfl rfl)) rfl rfl ?_
                  refine ChD.step (v := (.d (.ref (.str (x.codes.getD ((((x.arcs.getD m default).src)).toNat) default))))) [] rfl (.pure (.idx _ _ _ 9 ((((x.arcs.getD m default).src)).toNat) rfl Try.underlying43 sz9 rfl rfl (by omega) (get_map _ (by first | omega | (simp only [List.length_map, List.length_append, List.length_take, List.length_drop, List.length_cons, List.length_nil]; omega) | (simp; omega) | (simp; done))))) rfl rfl ?_
                  refine ChD.step (v := (.d (.str (x.codes.getD ((((x.arcs.getD m default).src)).toNat) default)))) [] rfl (.pure (.loadRef1 _ _ rfl ag9 rfl rfl)) rfl rfl ?_
                  refine ChD.step (v := (.ptr 1000 1)) [] rfl (.pure (.fldPtr _ _ _ rfl fld52_1 rfl)) rfl rfl ?_
                  refine ChD.step (v := (.d (.slice false 1 (x.codes.map D.str)))) [1000] rfl (.pure (.loadPtr1 _ _ rfl ag43 rfl rfl rfl)) rfl rfl ?_
                  refine ChD.step (v := (.ptr 7000 3)) [] rfl (.pure (.fldPtr _ _ _ rfl fld102_3 rfl)) rfl rfl ?_
                  refine ChD.step (v := (.d (.int .i64 ((x.arcs.getD m default).dst)))) [7000] rfl (.pure (.loadPtr1 _ _ rfl ag3 rfl rfl rfl)) rfl rfl ?_
                  refine ChD.step (v := (.d (.ref (.str (x.codes.getD ((((x.arcs.getD m default).dst)).toNat) default))))) [] rfl (.pure (.idx _ _ _ 9 ((((x.arcs.getD m default).dst)).toNat) rfl Try.underlying43 sz9 rfl rfl (by omega) (get_map _ (by first | omega | (simp only [List.length_map, List.length_append, List.length_take, List.length_drop, List.length_cons, List.length_nil]; omega) | (simp; omega) | (simp; done))))) rfl rfl ?_
                  refine ChD.step (v := (.d (.str (x.codes.getD ((((x.arcs.getD m default).dst)).toNat) default)))) [] rfl (.pure (.loadRef1 _ _ rfl ag9 rfl rfl)) rfl rfl ?_
                  refine ChD.step (v := (.d (.bool (fitB (x.arcs.getD m default) (x.codes.getD ((((x.arcs.getD m default).src)).toNat) default) (x.codes.getD ((((x.arcs.getD m default).dst)).toNat) default))))) [] rfl (.call 88000 133 _ _ _ en133 rfl (.inl rfl) (.cons (.lend (.agg (.cons (.d _) (.cons (.d _) (.cons (.d _) (.cons (.d _) .nil)))) rfl)) (.cons (.d _) (.cons (.d _) .nil))) rfl rfl (sp_impl_fitsCodes (x.arcs.getD m default) (x.codes.getD ((((x.arcs.getD m default).src)).toNat) default) (x.codes.getD ((((x.arcs.getD m default).dst)).toNat) default) (by first | assumption | omega | (rw [List.length_take]; omega) | (have := bulkF_mem hb _ (getD_mem (d := default) (by omega)); assumption) | (unfold bulkS at *; omega) | (simp_all; done)) (by first | assumption | omega | (rw [List.length_take]; omega) | (have := bulkF_mem hb _ (getD_mem (d := default) (by omega)); assumption) | (unfold bulkS at *; omega) | (simp_all; done))) (.skip _ _ (.skip _ _ (.skip _ _ .nil))) rfl) rfl rfl ?_
                  refine ChD.step (v := (.d (.bool (!(fitB (x.arcs.getD m default) (x.codes.getD ((((x.arcs.getD m default).src)).toNat) default) (x.codes.getD ((((x.arcs.getD m default).dst)).toNat) default)))))) [] rfl (.pure (.not _ _ rfl rfl)) rfl rfl ?_
                  refine ChD.step (v := (.d (.bool (!(fitB (x.arcs.getD m default) (x.codes.getD ((((x.arcs.getD m default).src)).toNat) default) (x.codes.getD ((((x.arcs.getD m default).dst)).toNat) default)))))) [] rfl (.pure (.pickF _ _ _ rfl rfl rfl)) rfl rfl ?_
                  refine ChD.nil (And.intro ?_ (by kernel_rfl))
                  refine T_cond (b := (!(fitB (x.arcs.getD m default) (x.codes.getD ((((x.arcs.getD m default).src)).toNat) default) (x.codes.getD ((((x.arcs.getD m default).dst)).toNat) default)))) rfl (fun h10 => ?_) (fun h10 => ?_)
                  · replace h10 := nott h10
                    refine T_seq ?_
                    refine T_region hc ?_
                    refine Ch.step (v := (.d (.bool false))) rfl (.pure (.assign _ rfl rfl)) rfl rfl ?_
                    refine Ch.nil ?_
                    refine T_ret ?_
                    refine And.intro (.inr rfl) ?_
                    exact Exists.intro [(.d (.bool false))] (Exists.intro [] (Exists.intro [] (And.intro (.cons (.tmp 2 rfl) .nil) (And.intro (.cons (.any _) .nil) (And.intro (Exp.of (congrArg D.bool (by first | (rw [sgB, h1]; rfl) | (rw [sgB, h1, h2]; rfl) | (rw [sgB, h1, h2, decide_eq_true (by omega)]; rfl) | (exact (sg_no_code (k := k) (by omega) (by assumption)).symm) | (exact (sg_no_arc (k := m) (by omega) (by first | assumption | (unfold arcB codeAt; simp_all; done))).symm) | (exact sg_end h1 h2 (by omega) hcl hal))) (.d _)) (And.intro rfl rfl))))))
                  · replace h10 := notf h10
                    refine T_skip ?_
                    refine T_region hc ?_
                    refine Ch.step (v := (.d (.int .i64 (((m : Nat) : Int) + 1)))) rfl (.pure (.int _ _ _ _ _ rfl rfl rfl (intV_add (by first | omega | (simp only [List.length_map, List.length_append, List.length_take, List.length_drop, List.length_cons, List.length_nil]; omega) | (simp; omega) | (simp; done)) (by first | omega | (simp only [List.length_map, List.length_append, List.length_take, List.length_drop, List.length_cons, List.length_nil]; omega) | (simp; omega) | (simp; done))))) rfl rfl ?_
                    refine Ch.step (v := (.d (.int .i64 (((m : Nat) : Int) + 1)))) rfl (.pure (.move _ rfl rfl)) rfl rfl ?_
                    refine Ch.nil ?_
                    refine Exists.intro (m + 1) (And.intro ⟨by omega, upto_succ hp1.2 (by first | assumption | (unfold arcB codeAt; simp_all; done))⟩ (And.intro (by first | omega | (dsimp only; omega)) (Wk.of rfl rfl (And.intro rfl (And.intro rfl (And.intro rfl (And.intro rfl (And.intro (vI (by first | rfl | omega | (simp; done) | (simp; omega))) trivial))))) (And.intro rfl trivial))))
                | false =>
                  refine ChD.skip rfl rfl ?_
                  refine ChD.skip rfl rfl ?_
                  refine ChD.skip rfl rfl ?_
                  refine ChD.skip rfl rfl ?_
                  refine ChD.skip rfl rfl ?_
                  refine ChD.skip rfl rfl ?_
                  refine ChD.skip rfl rfl ?_
                  refine ChD.skip rfl rfl ?_
                  refine ChD.skip rfl rfl ?_
                  refine ChD.skip rfl rfl ?_
                  refine ChD.skip rfl rfl ?_
                  refine ChD.skip rfl rfl ?_
                  refine ChD.skip rfl rfl ?_
                  refine ChD.skip rfl rfl ?_
                  refine ChD.skip rfl rfl ?_
                  refine ChD.step (v := (.d (.bool true))) [] rfl (.pure (.pickT _ _ _ rfl rfl rfl)) rfl rfl ?_
                  refine ChD.nil (And.intro ?_ (by kernel_rfl))
                  refine T_cond (b := true) rfl (fun _ => ?_) (fun h => nomatch h)
                  refine T_seq ?_
                  refine T_region hc ?_
                  refine Ch.step (v := (.d (.bool false))) rfl (.pure (.assign _ rfl rfl)) rfl rfl ?_
                  refine Ch.nil ?_
                  refine T_ret ?_
                  refine And.intro (.inr rfl) ?_
                  exact Exists.intro [(.d (.bool false))] (Exists.intro [] (Exists.intro [] (And.intro (.cons (.tmp 2 rfl) .nil) (And.intro (.cons (.any _) .nil) (And.intro (Exp.of (congrArg D.bool (by first | (rw [sgB, h1]; rfl) | (rw [sgB, h1, h2]; rfl) | (rw [sgB, h1, h2, decide_eq_true (by omega)]; rfl) | (exact (sg_no_code (k := k) (by omega) (by assumption)).symm) | (exact (sg_no_arc (k := m) (by omega) (by first | assumption | (unfold arcB codeAt; simp_all; done))).symm) | (exact sg_end h1 h2 (by omega) hcl hal))) (.d _)) (And.intro rfl rfl))))))
              | false =>
                try have hw8 := within_two h8
                try have hl1 := hca (x.arcs.getD m default).src (by omega) (by omega)
                try have hl2 := hca (x.arcs.getD m default).dst (by omega) (by omega)
                try have hl3 := hl1.2
                try have hl4 := hl2.2
                try unfold codeAt at hl3 hl4
                refine ChD.skip rfl rfl ?_
                refine ChD.skip rfl rfl ?_
                refine ChD.skip rfl rfl ?_
                refine ChD.skip rfl rfl ?_
                refine ChD.skip rfl rfl ?_
                refine ChD.skip rfl rfl ?_
                refine ChD.skip rfl rfl ?_
                refine ChD.skip rfl rfl ?_
                refine ChD.skip rfl rfl ?_
                refine ChD.skip rfl rfl ?_
                refine ChD.step (v := (.d (.bool true))) [] rfl (.pure (.pickT _ _ _ rfl rfl rfl)) rfl rfl ?_
                refine ChD.step (v := (.d (.bool true))) [] rfl (.pure (.move _ rfl rfl)) rfl rfl ?_
                refine ChD.skip rfl rfl ?_
                refine ChD.skip rfl rfl ?_
                refine ChD.skip rfl rfl ?_
                refine ChD.skip rfl rfl ?_
                refine ChD.skip rfl rfl ?_
                refine ChD.skip rfl rfl ?_
                refine ChD.skip rfl rfl ?_
                refine ChD.skip rfl rfl ?_
                refine ChD.skip rfl rfl ?_
                refine ChD.skip rfl rfl ?_
                refine ChD.skip rfl rfl ?_
                refine ChD.skip rfl rfl ?_
                refine ChD.skip rfl rfl ?_
                refine ChD.skip rfl rfl ?_
                refine ChD.skip rfl rfl ?_
                refine ChD.step (v := (.d (.bool true))) [] rfl (.pure (.pickT _ _ _ rfl rfl rfl)) rfl rfl ?_
                refine ChD.nil (And.intro ?_ (by kernel_rfl))
                refine T_cond (b := true) rfl (fun _ => ?_) (fun h => nomatch h)
                refine T_seq ?_
                refine T_region hc ?_
                refine Ch.step (v := (.d (.bool false))) rfl (.pure (.assign _ rfl rfl)) rfl rfl ?_
                refine Ch.nil ?_
                refine T_ret ?_
                refine And.intro (.inr rfl) ?_
                exact Exists.intro [(.d (.bool false))] (Exists.intro [] (Exists.intro [] (And.intro (.cons (.tmp 2 rfl) .nil) (And.intro (.cons (.any _) .nil) (And.intro (Exp.of (congrArg D.bool (by first | (rw [sgB, h1]; rfl) | (rw [sgB, h1, h2]; rfl) | (rw [sgB, h1, h2, decide_eq_true (by omega)]; rfl) | (exact (sg_no_code (k := k) (by omega) (by assumption)).symm) | (exact (sg_no_arc (k := m) (by omega) (by first | assumption | (unfold arcB codeAt; simp_all; done))).symm) | (exact sg_end h1 h2 (by omega) hcl hal))) (.d _)) (And.intro rfl rfl))))))
            | false =>
              try have hw7 := within_two h7
              refine ChD.skip rfl rfl ?_
              refine ChD.skip rfl rfl ?_
              refine ChD.skip rfl rfl ?_
              refine ChD.skip rfl rfl ?_
              refine ChD.skip rfl rfl ?_
              refine ChD.step (v := (.d (.bool true))) [] rfl (.pure (.pickT _ _ _ rfl rfl rfl)) rfl rfl ?_
              refine ChD.step (v := (.d (.bool true))) [] rfl (.pure (.move _ rfl rfl)) rfl rfl ?_
              refine ChD.skip rfl rfl ?_
              refine ChD.skip rfl rfl ?_
              refine ChD.skip rfl rfl ?_
              refine ChD.skip rfl rfl ?_
              refine ChD.skip rfl rfl ?_
              refine ChD.skip rfl rfl ?_
              refine ChD.skip rfl rfl ?_
              refine ChD.skip rfl rfl ?_
              refine ChD.skip rfl rfl ?_
              refine ChD.skip rfl rfl ?_
              refine ChD.step (v := (.d (.bool true))) [] rfl (.pure (.pickT _ _ _ rfl rfl rfl)) rfl rfl ?_
              refine ChD.step (v := (.d (.bool true))) [] rfl (.pure (.move _ rfl rfl)) rfl rfl ?_
              refine ChD.skip rfl rfl ?_
              refine ChD.skip rfl rfl ?_
              refine ChD.skip rfl rfl ?_
              refine ChD.skip rfl rfl ?_
              refine ChD.skip rfl rfl ?_
              refine ChD.skip rfl rfl ?_
              refine ChD.skip rfl rfl ?_
              refine ChD.skip rfl rfl ?_
              refine ChD.skip rfl rfl ?_
              refine ChD.skip rfl rfl ?_
              refine ChD.skip rfl rfl ?_
              refine ChD.skip rfl rfl ?_
              refine ChD.skip rfl rfl ?_
              refine ChD.skip rfl rfl ?_
              refine ChD.skip rfl rfl ?_
              refine ChD.step (v := (.d (.bool true))) [] rfl (.pure (.pickT _ _ _ rfl rfl rfl)) rfl rfl ?_
              refine ChD.nil (And.intro ?_ (by kernel_rfl))
              refine T_cond (b := true) rfl (fun _ => ?_) (fun h => nomatch h)
              refine T_seq ?_
              refine T_region hc ?_
              refine Ch.step (v := (.d (.bool false))) rfl (.pure (.assign _ rfl rfl)) rfl rfl ?_
              refine Ch.nil ?_
              refine T_ret ?_
              refine And.intro (.inr rfl) ?_
              exact Exists.intro [(.d (.bool false))] (Exists.intro [] (Exists.intro [] (And.intro (.cons (.tmp 2 rfl) .nil) (And.intro (.cons (.any _) .nil) (And.intro (Exp.of (congrArg D.bool (by first | (rw [sgB, h1]; rfl) | (rw [sgB, h1, h2]; rfl) | (rw [sgB, h1, h2, decide_eq_true (by omega)]; rfl) | (exact (sg_no_code (k := k) (by omega) (by assumption)).symm) | (exact (sg_no_arc (k := m) (by omega) (by first | assumption | (unfold arcB codeAt; simp_all; done))).symm) | (exact sg_end h1 h2 (by omega) hcl hal))) (.d _)) (And.intro rfl rfl))))))
          · replace h6 := of_decide_eq_false h6
            try have hal := sg_arcs (x := x) (k := m) (by omega) hp1.2
            try have hen := arc_ends hal
            try have hse := steps_ends hen
            try have hsl := stepsOf_len x.arcs
            try have hdl := distF_len (n := x.codes.length) (s := 0) (by omega) hse
            refine T_exit ?_
            refine T_seq ?_
            refine T_regionD hc (by kernel_rfl) ?_
            refine ChD.step (v := (.ptr 1000 1)) [] rfl (.pure (.fldPtr _ _ _ rfl fld52_1 rfl)) rfl rfl ?_
            refine ChD.step (v := (.d (.slice false 1 (x.codes.map D.str)))) [1000] rfl (.pure (.loadPtr1 _ _ rfl ag43 rfl rfl rfl)) rfl rfl ?_
            refine ChD.step (v := (.d (.int .i64 ((x.codes.length : Nat) : Int)))) [] rfl (.pure (.len _ _ 9 rfl Try.underlying43 (.sh _ _) (by simp))) rfl rfl ?_
            refine ChD.step (v := (.ptr 1000 2)) [] rfl (.pure (.fldPtr _ _ _ rfl fld52_2 rfl)) rfl rfl ?_
            refine ChD.step (v := (.d (.slice false 4 (x.arcs.map Arc.d)))) [1000] rfl (.pure (.loadPtr1 _ _ rfl ag50 rfl rfl rfl)) rfl rfl ?_
            refine ChD.step (v := (.row 97000)) [] rfl (.call 97000 136 _ _ _ en136 rfl (.inl rfl) (.cons (.d _) .nil) rfl (sol (solid_row (fun _ => rfl) _) rfl) (sp_impl_arcSteps x.arcs (by first | assumption | omega | (rw [List.length_take]; omega) | (have := bulkF_mem hb _ (getD_mem (d := default) (by omega)); assumption) | (unfold bulkS at *; omega) | (simp_all; done))) (.skip _ _ .nil) rfl) rfl rfl ?_
            refine ChD.step (v := (.row 98000)) [97000] rfl (.call 98000 135 _ _ _ en135 rfl (.inl rfl) (.cons (.d _) (.cons (.lend (.row rfl (frozs_map (fun _ => rfl) _))) (.cons (.d _) .nil))) rfl (sol (solid_row (fun _ => rfl) _) rfl) (sp_impl_distances x.codes.length (stepsOf x.arcs) 0 (by first | assumption | omega | (rw [List.length_take]; omega) | (have := bulkF_mem hb _ (getD_mem (d := default) (by omega)); assumption) | (unfold bulkS at *; omega) | (simp_all; done)) (by first | assumption | omega | (rw [List.length_take]; omega) | (have := bulkF_mem hb _ (getD_mem (d := default) (by omega)); assumption) | (unfold bulkS at *; omega) | (simp_all; done)) (by first | assumption | omega | (rw [List.length_take]; omega) | (have := bulkF_mem hb _ (getD_mem (d := default) (by omega)); assumption) | (unfold bulkS at *; omega) | (simp_all; done)) (by assumption)) (.skip _ _ (.skip _ _ (.skip _ _ .nil))) rfl) rfl rfl ?_
            refine ChD.step (v := (.d (.bool (hasI (distF x.codes.length (stepsOf x.arcs) 0) (-1))))) [98000] rfl (.call 99000 134 _ _ _ en134 rfl (.inl rfl) (.cons (.lend (.row rfl (frozs_map (fun _ => rfl) _))) (.cons (.d _) .nil)) rfl rfl (sp_Contains_int (distF x.codes.length (stepsOf x.arcs) 0) (-1) (by first | assumption | omega | (rw [List.length_take]; omega) | (have := bulkF_mem hb _ (getD_mem (d := default) (by omega)); assumption) | (unfold bulkS at *; omega) | (simp_all; done))) (.skip _ _ (.skip _ _ .nil)) rfl) rfl rfl ?_
            refine ChD.step (v := (.d (.bool (!(hasI (distF x.codes.length (stepsOf x.arcs) 0) (-1)))))) [] rfl (.pure (.not _ _ rfl rfl)) rfl rfl ?_
            refine ChD.step (v := (.d (.bool (!(hasI (distF x.codes.length (stepsOf x.arcs) 0) (-1)))))) [] rfl (.pure (.assign _ rfl rfl)) rfl rfl ?_
            refine ChD.nil (And.intro ?_ (by kernel_rfl))
            refine T_ret ?_
            refine And.intro (.inr rfl) ?_
            exact Exists.intro [(.d (.bool (!(hasI (distF x.codes.length (stepsOf x.arcs) 0) (-1)))))] (Exists.intro [] (Exists.intro [] (And.intro (.cons (.tmp 2 rfl) .nil) (And.intro (.cons (.any _) .nil) (And.intro (Exp.of (congrArg D.bool (by first | (rw [sgB, h1]; rfl) | (rw [sgB, h1, h2]; rfl) | (rw [sgB, h1, h2, decide_eq_true (by omega)]; rfl) | (exact (sg_no_code (k := k) (by omega) (by assumption)).symm) | (exact (sg_no_arc (k := m) (by omega) (by first | assumption | (unfold arcB codeAt; simp_all; done))).symm) | (exact sg_end h1 h2 (by omega) hcl hal))) (.d _)) (And.intro rfl rfl))))))
    | false =>
      try have hw2 := within_two h2
      refine Ch.skip rfl rfl ?_
      refine Ch.skip rfl rfl ?_
      refine Ch.skip rfl rfl ?_
      refine Ch.skip rfl rfl ?_
      refine Ch.step (v := (.d (.bool true))) rfl (.pure (.pickT _ _ _ rfl rfl rfl)) rfl rfl ?_
      refine Ch.nil ?_
      refine T_cond (b := true) rfl (fun _ => ?_) (fun h => nomatch h)
      refine T_seq ?_
      refine T_region hc ?_
      refine Ch.step (v := (.d (.bool false))) rfl (.pure (.assign _ rfl rfl)) rfl rfl ?_
      refine Ch.nil ?_
      refine T_ret ?_
      refine And.intro (.inr rfl) ?_
      exact Exists.intro [(.d (.bool false))] (Exists.intro [] (Exists.intro [] (And.intro (.cons (.tmp 2 rfl) .nil) (And.intro (.cons (.any _) .nil) (And.intro (Exp.of (congrArg D.bool (by first | (rw [sgB, h1]; rfl) | (rw [sgB, h1, h2]; rfl) | (rw [sgB, h1, h2, decide_eq_true (by omega)]; rfl) | (exact (sg_no_code (k := k) (by omega) (by assumption)).symm) | (exact (sg_no_arc (k := m) (by omega) (by first | assumption | (unfold arcB codeAt; simp_all; done))).symm) | (exact sg_end h1 h2 (by omega) hcl hal))) (.d _)) (And.intro rfl rfl))))))
  | false =>
    refine Ch.skip rfl rfl ?_
    refine Ch.skip rfl rfl ?_
    refine Ch.skip rfl rfl ?_
    refine Ch.skip rfl rfl ?_
    refine Ch.skip rfl rfl ?_
    refine Ch.step (v := (.d (.bool true))) rfl (.pure (.pickT _ _ _ rfl rfl rfl)) rfl rfl ?_
    refine Ch.step (v := (.d (.bool true))) rfl (.pure (.move _ rfl rfl)) rfl rfl ?_
    refine Ch.skip rfl rfl ?_
    refine Ch.skip rfl rfl ?_
    refine Ch.skip rfl rfl ?_
    refine Ch.skip rfl rfl ?_
    refine Ch.step (v := (.d (.bool true))) rfl (.pure (.pickT _ _ _ rfl rfl rfl)) rfl rfl ?_
    refine Ch.nil ?_
    refine T_cond (b := true) rfl (fun _ => ?_) (fun h => nomatch h)
    refine T_seq ?_
    refine T_region hc ?_
    refine Ch.step (v := (.d (.bool false))) rfl (.pure (.assign _ rfl rfl)) rfl rfl ?_
    refine Ch.nil ?_
    refine T_ret ?_
    refine And.intro (.inr rfl) ?_
    exact Exists.intro [(.d (.bool false))] (Exists.intro [] (Exists.intro [] (And.intro (.cons (.tmp 2 rfl) .nil) (And.intro (.cons (.any _) .nil) (And.intro (Exp.of (congrArg D.bool (by first | (rw [sgB, h1]; rfl) | (rw [sgB, h1, h2]; rfl) | (rw [sgB, h1, h2, decide_eq_true (by omega)]; rfl) | (exact (sg_no_code (k := k) (by omega) (by assumption)).symm) | (exact (sg_no_arc (k := m) (by omega) (by first | assumption | (unfold arcB codeAt; simp_all; done))).symm) | (exact sg_end h1 h2 (by omega) hcl hal))) (.d _)) (And.intro rfl rfl))))))

set_option maxHeartbeats 2000000 in
theorem sp_spec_l5Arc (x : Sgr) (a : Arc) (hb : x.bulk ≤ 1048576) (h8 : x.sigs.length ≤ 8) (hcl : allOf x.codes (fun u => codeN u (x.sigs.length : Int)) = true) : Sp Try.prog 128 [(.agg [(.slice false 2 (x.sigs.map Sgn.d)), (.slice false 1 (x.codes.map D.str)), (.slice false 4 (x.arcs.map Arc.d))]), (.agg [(.int .i64 a.src), (.int .i64 a.sig), (.bool (a.up)), (.int .i64 a.dst)])] [.any, .any] (.bool (arcB x a)) := by
  refine Sp_intro (lend := true) Try.func128 rfl rfl rfl (fun _ => rfl) (fun c hc hX => ?_)
  obtain ⟨hp0, hp1, hp2⟩ := Sgr.parts hb
  have hn0 := bulkF_len hp0
  have hn1 := bulk_len hp1
  have hx1 := bulk_mem hp1
  have hn2 := bulkF_len hp2; have hca := codes_at hcl
  refine T_seq ?_
  refine T_region hc ?_
  refine Ch.step (v := (.ptr 2000 0)) rfl (.box 2000 _ _ rfl (.aggD _)) rfl rfl ?_
  refine Ch.step (v := (.ptr 3000 0)) rfl (.box 3000 _ _ rfl (.aggD _)) rfl rfl ?_
  refine Ch.step (v := (.d (.bool false))) rfl (.pure (.assign _ rfl rfl)) rfl rfl ?_
  refine Ch.nil ?_
  refine T_seq ?_
  refine T_seq ?_
  refine T_region hc ?_
  refine Ch.step (v := (.ptr 3000 0)) rfl (.pure (.fldPtr _ _ _ rfl fld102_0 rfl)) rfl rfl ?_
  refine Ch.step (v := (.d (.int .i64 a.src))) rfl (.pure (.loadPtr1 _ _ rfl ag3 rfl rfl rfl)) rfl rfl ?_
  refine Ch.step (v := (.ptr 2000 1)) rfl (.pure (.fldPtr _ _ _ rfl fld52_1 rfl)) rfl rfl ?_
  refine Ch.step (v := (.d (.slice false 1 (x.codes.map D.str)))) rfl (.pure (.loadPtr1 _ _ rfl ag43 rfl rfl rfl)) rfl rfl ?_
  refine Ch.step (v := (.d (.int .i64 ((x.codes.length : Nat) : Int)))) rfl (.pure (.len _ _ 9 rfl Try.underlying43 (.sh _ _) (by simp))) rfl rfl ?_
  refine Ch.step (v := (.d (.int .i64 (((x.codes.length : Nat) : Int) - 1)))) rfl (.pure (.int _ _ _ _ _ rfl rfl rfl (intV_sub (by first | omega | (simp only [List.length_map, List.length_append, List.length_take, List.length_drop, List.length_cons, List.length_nil]; omega) | (simp; omega) | (simp; done)) (by first | omega | (simp only [List.length_map, List.length_append, List.length_take, List.length_drop, List.length_cons, List.length_nil]; omega) | (simp; omega) | (simp; done))))) rfl rfl ?_
  refine Ch.step (v := (.d (.bool (withinB a.src 0 (((x.codes.length : Nat) : Int) - 1))))) rfl (.call 13000 51 _ _ _ en51 rfl (.inl rfl) (.cons (.d _) (.cons (.d _) (.cons (.d _) .nil))) rfl rfl (sp_spec_l1In a.src 0 (((x.codes.length : Nat) : Int) - 1)) (.skip _ _ (.skip _ _ (.skip _ _ .nil))) rfl) rfl rfl ?_
  refine Ch.step (v := (.d (.bool (!(withinB a.src 0 (((x.codes.length : Nat) : Int) - 1)))))) rfl (.pure (.not _ _ rfl rfl)) rfl rfl ?_
  refine Ch.step (v := (.d (.bool (!(withinB a.src 0 (((x.codes.length : Nat) : Int) - 1)))))) rfl (.pure (.move _ rfl rfl)) rfl rfl ?_
  cases h1 : (withinB a.src 0 (((x.codes.length : Nat) : Int) - 1)) with
  | true =>
    try have hw1 := within_two h1
    refine Ch.step (v := (.ptr 3000 3)) rfl (.pure (.fldPtr _ _ _ rfl fld102_3 rfl)) rfl rfl ?_
    refine Ch.step (v := (.d (.int .i64 a.dst))) rfl (.pure (.loadPtr1 _ _ rfl ag3 rfl rfl rfl)) rfl rfl ?_
    refine Ch.step (v := (.ptr 2000 1)) rfl (.pure (.fldPtr _ _ _ rfl fld52_1 rfl)) rfl rfl ?_
    refine Ch.step (v := (.d (.slice false 1 (x.codes.map D.str)))) rfl (.pure (.loadPtr1 _ _ rfl ag43 rfl rfl rfl)) rfl rfl ?_
    refine Ch.step (v := (.d (.int .i64 ((x.codes.length : Nat) : Int)))) rfl (.pure (.len _ _ 9 rfl Try.underlying43 (.sh _ _) (by simp))) rfl rfl ?_
    refine Ch.step (v := (.d (.int .i64 (((x.codes.length : Nat) : Int) - 1)))) rfl (.pure (.int _ _ _ _ _ rfl rfl rfl (intV_sub (by first | omega | (simp only [List.length_map, List.length_append, List.length_take, List.length_drop, List.length_cons, List.length_nil]; omega) | (simp; omega) | (simp; done)) (by first | omega | (simp only [List.length_map, List.length_append, List.length_take, List.length_drop, List.length_cons, List.length_nil]; omega) | (simp; omega) | (simp; done))))) rfl rfl ?_
    refine Ch.step (v := (.d (.bool (withinB a.dst 0 (((x.codes.length : Nat) : Int) - 1))))) rfl (.call 22000 51 _ _ _ en51 rfl (.inl rfl) (.cons (.d _) (.cons (.d _) (.cons (.d _) .nil))) rfl rfl (sp_spec_l1In a.dst 0 (((x.codes.length : Nat) : Int) - 1)) (.skip _ _ (.skip _ _ (.skip _ _ .nil))) rfl) rfl rfl ?_
    refine Ch.step (v := (.d (.bool (!(withinB a.dst 0 (((x.codes.length : Nat) : Int) - 1)))))) rfl (.pure (.not _ _ rfl rfl)) rfl rfl ?_
    refine Ch.step (v := (.d (.bool (!(withinB a.dst 0 (((x.codes.length : Nat) : Int) - 1)))))) rfl (.pure (.pickF _ _ _ rfl rfl rfl)) rfl rfl ?_
    refine Ch.step (v := (.d (.bool (!(withinB a.dst 0 (((x.codes.length : Nat) : Int) - 1)))))) rfl (.pure (.move _ rfl rfl)) rfl rfl ?_
    cases h2 : (withinB a.dst 0 (((x.codes.length : Nat) : Int) - 1)) with
    | true =>
      try have hw2 := within_two h2
      try have hl1 := hca a.src (by omega) (by omega)
      try have hl2 := hca a.dst (by omega) (by omega)
      try have hl3 := hl1.2
      try have hl4 := hl2.2
      try unfold codeAt at hl3 hl4
      refine Ch.step (v := (.ptr 3000 1)) rfl (.pure (.fldPtr _ _ _ rfl fld102_1 rfl)) rfl rfl ?_
      refine Ch.step (v := (.d (.int .i64 a.sig))) rfl (.pure (.loadPtr1 _ _ rfl ag3 rfl rfl rfl)) rfl rfl ?_
      refine Ch.step (v := (.ptr 3000 2)) rfl (.pure (.fldPtr _ _ _ rfl fld102_2 rfl)) rfl rfl ?_
      refine Ch.step (v := (.d (.bool (a.up)))) rfl (.pure (.loadPtr1 _ _ rfl ag4 rfl rfl rfl)) rfl rfl ?_
      refine Ch.step (v := (.agg [(.d (.int .i64 a.sig)), (.d (.bool (a.up)))])) rfl (.build _ _ rfl stru139 (.cons (.one _ rfl) (.cons (.one _ rfl) .nil)) rfl) rfl rfl ?_
      refine Ch.step (v := (.ptr 2000 0)) rfl (.pure (.fldPtr _ _ _ rfl fld52_0 rfl)) rfl rfl ?_
      refine Ch.step (v := (.d (.slice false 2 (x.sigs.map Sgn.d)))) rfl (.pure (.loadPtr1 _ _ rfl ag29 rfl rfl rfl)) rfl rfl ?_
      refine Ch.step (v := (.d (.int .i64 ((x.sigs.length : Nat) : Int)))) rfl (.pure (.len _ _ 97 rfl Try.underlying29 (.sh _ _) (by simp))) rfl rfl ?_
      refine Ch.step (v := (.d (.bool (edgeB (Lab.mk a.sig a.up) ((x.sigs.length : Nat) : Int))))) rfl (.call 34000 163 _ _ _ en163 rfl (.inl rfl) (.cons (.lend (.agg (.cons (.d _) (.cons (.d _) .nil)) rfl)) (.cons (.d _) .nil)) rfl rfl (sp_spec_l2Label (Lab.mk a.sig a.up) ((x.sigs.length : Nat) : Int) (by first | assumption | omega | (rw [List.length_take]; omega) | (have := bulkF_mem hb _ (getD_mem (d := default) (by omega)); assumption) | (unfold bulkS at *; omega) | (simp_all; done)) (by first | assumption | omega | (rw [List.length_take]; omega) | (have := bulkF_mem hb _ (getD_mem (d := default) (by omega)); assumption) | (unfold bulkS at *; omega) | (simp_all; done))) (.skip _ _ (.skip _ _ .nil)) rfl) rfl rfl ?_
      refine Ch.step (v := (.d (.bool (!(edgeB (Lab.mk a.sig a.up) ((x.sigs.length : Nat) : Int)))))) rfl (.pure (.not _ _ rfl rfl)) rfl rfl ?_
      refine Ch.step (v := (.d (.bool (!(edgeB (Lab.mk a.sig a.up) ((x.sigs.length : Nat) : Int)))))) rfl (.pure (.pickF _ _ _ rfl rfl rfl)) rfl rfl ?_
      refine Ch.nil ?_
      refine T_cond (b := (!(edgeB (Lab.mk a.sig a.up) ((x.sigs.length : Nat) : Int)))) rfl (fun h3 => ?_) (fun h3 => ?_)
      · replace h3 := nott h3
        refine T_seq ?_
        refine T_region hc ?_
        refine Ch.step (v := (.d (.bool false))) rfl (.pure (.assign _ rfl rfl)) rfl rfl ?_
        refine Ch.nil ?_
        refine T_ret ?_
        refine And.intro (.inr rfl) ?_
        exact Exists.intro [(.d (.bool false))] (Exists.intro [] (Exists.intro [] (And.intro (.cons (.tmp 4 rfl) .nil) (And.intro (.cons (.any _) (.cons (.any _) .nil)) (And.intro (Exp.of (congrArg D.bool (by first | (rw [arcB, h1]; rfl) | (rw [arcB, h1, h2]; rfl) | (rw [arcB, h1, h2, h3]; rfl) | (rw [arcB, h1, h2, h3, hf4]; rfl) | (rw [arcB, h1, h2, h3, hf5]; unfold codeAt setCh; simp only [*, decide_true, decide_false, Bool.true_and, Bool.false_and]; done) | (rw [arcB, h1, h2, h3, hf5]; unfold codeAt setCh; rw [decide_eq_true h5]; rfl) | (rw [arcB, h1, h2, h3, hf5]; unfold codeAt setCh; rw [decide_eq_false h5]; rfl))) (.d _)) (And.intro rfl rfl))))))
      · replace h3 := notf h3
        refine T_skip ?_
        refine T_seq ?_
        refine T_regionD hc (by kernel_rfl) ?_
        refine ChD.step (v := (.ptr 2000 1)) [] rfl (.pure (.fldPtr _ _ _ rfl fld52_1 rfl)) rfl rfl ?_
        refine ChD.step (v := (.d (.slice false 1 (x.codes.map D.str)))) [2000] rfl (.pure (.loadPtr1 _ _ rfl ag43 rfl rfl rfl)) rfl rfl ?_
        refine ChD.step (v := (.ptr 3000 0)) [] rfl (.pure (.fldPtr _ _ _ rfl fld102_0 rfl)) rfl rfl ?_
        refine ChD.step (v := (.d (.int .i64 a.src))) [3000] rfl (.pure (.loadPtr1 _ _ rfl ag3 rfl rfl rfl)) rfl rfl ?_
        refine ChD.step (v := (.d (.ref (.str (x.codes.getD ((a.src).toNat) default))))) [] rfl (.pure (.idx _ _ _ 9 ((a.src).toNat) rfl Try.underlying43 sz9 rfl rfl (by omega) (get_map _ (by first | omega | (simp only [List.length_map, List.length_append, List.length_take, List.length_drop, List.length_cons, List.length_nil]; omega) | (simp; omega) | (simp; done))))) rfl rfl ?_
        refine ChD.step (v := (.d (.str (x.codes.getD ((a.src).toNat) default)))) [] rfl (.pure (.loadRef1 _ _ rfl ag9 rfl rfl)) rfl rfl ?_
        refine ChD.step (v := (.ptr 2000 1)) [] rfl (.pure (.fldPtr _ _ _ rfl fld52_1 rfl)) rfl rfl ?_
        refine ChD.step (v := (.d (.slice false 1 (x.codes.map D.str)))) [2000] rfl (.pure (.loadPtr1 _ _ rfl ag43 rfl rfl rfl)) rfl rfl ?_
        refine ChD.step (v := (.ptr 3000 3)) [] rfl (.pure (.fldPtr _ _ _ rfl fld102_3 rfl)) rfl rfl ?_
        refine ChD.step (v := (.d (.int .i64 a.dst))) [3000] rfl (.pure (.loadPtr1 _ _ rfl ag3 rfl rfl rfl)) rfl rfl ?_
        refine ChD.step (v := (.d (.ref (.str (x.codes.getD ((a.dst).toNat) default))))) [] rfl (.pure (.idx _ _ _ 9 ((a.dst).toNat) rfl Try.underlying43 sz9 rfl rfl (by omega) (get_map _ (by first | omega | (simp only [List.length_map, List.length_append, List.length_take, List.length_drop, List.length_cons, List.length_nil]; omega) | (simp; omega) | (simp; done))))) rfl rfl ?_
        refine ChD.step (v := (.d (.str (x.codes.getD ((a.dst).toNat) default)))) [] rfl (.pure (.loadRef1 _ _ rfl ag9 rfl rfl)) rfl rfl ?_
        refine ChD.step (v := (.d (.str (x.codes.getD ((a.src).toNat) default)))) [] rfl (.pure (.assign _ rfl rfl)) rfl rfl ?_
        refine ChD.step (v := (.d (.str (x.codes.getD ((a.dst).toNat) default)))) [] rfl (.pure (.assign _ rfl rfl)) rfl rfl ?_
        refine ChD.nil (And.intro ?_ (by kernel_rfl))
        refine T_seq ?_
        refine T_seq ?_
        refine T_region hc ?_
        refine Ch.step (v := (.ptr 3000 1)) rfl (.pure (.fldPtr _ _ _ rfl fld102_1 rfl)) rfl rfl ?_
        refine Ch.step (v := (.d (.int .i64 a.sig))) rfl (.pure (.loadPtr1 _ _ rfl ag3 rfl rfl rfl)) rfl rfl ?_
        refine Ch.step (v := (.d (.bool (decide (a.sig < 0))))) rfl (.pure (.int _ _ _ _ _ rfl rfl rfl rfl)) rfl rfl ?_
        refine Ch.nil ?_
        refine T_cond (b := (decide (a.sig < 0))) rfl (fun h4 => ?_) (fun h4 => ?_)
        · replace h4 := of_decide_eq_true h4
          try have hf4 := fit_neg (a := a) (u := codeAt x a.src) (v := codeAt x a.dst) (by omega) (by omega)
          try have hf5 := fit_pos (a := a) hl1.1 hl2.1 (by omega) (by have := edge_lt h3; omega)
          try have hlt := edge_lt h3
          refine T_seq ?_
          refine T_region hc ?_
          refine Ch.step (v := (.d (.str (x.codes.getD ((a.src).toNat) default)))) rfl (.pure (.move _ rfl rfl)) rfl rfl ?_
          refine Ch.step (v := (.d (.str (x.codes.getD ((a.dst).toNat) default)))) rfl (.pure (.move _ rfl rfl)) rfl rfl ?_
          refine Ch.step (v := (.d (.bool (decide ((x.codes.getD ((a.src).toNat) default) = (x.codes.getD ((a.dst).toNat) default)))))) rfl (.pure (.str _ _ _ _ _ rfl rfl rfl rfl)) rfl rfl ?_
          refine Ch.step (v := (.d (.bool (decide ((x.codes.getD ((a.src).toNat) default) = (x.codes.getD ((a.dst).toNat) default)))))) rfl (.pure (.assign _ rfl rfl)) rfl rfl ?_
          refine Ch.nil ?_
          refine T_ret ?_
          refine And.intro (.inr rfl) ?_
          exact Exists.intro [(.d (.bool (decide ((x.codes.getD ((a.src).toNat) default) = (x.codes.getD ((a.dst).toNat) default)))))] (Exists.intro [] (Exists.intro [] (And.intro (.cons (.tmp 4 rfl) .nil) (And.intro (.cons (.any _) (.cons (.any _) .nil)) (And.intro (Exp.of (congrArg D.bool (by first | (rw [arcB, h1]; rfl) | (rw [arcB, h1, h2]; rfl) | (rw [arcB, h1, h2, h3]; rfl) | (rw [arcB, h1, h2, h3, hf4]; rfl) | (rw [arcB, h1, h2, h3, hf5]; unfold codeAt setCh; simp only [*, decide_true, decide_false, Bool.true_and, Bool.false_and]; done) | (rw [arcB, h1, h2, h3, hf5]; unfold codeAt setCh; rw [decide_eq_true h5]; rfl) | (rw [arcB, h1, h2, h3, hf5]; unfold codeAt setCh; rw [decide_eq_false h5]; rfl))) (.d _)) (And.intro rfl rfl))))))
        · replace h4 := of_decide_eq_false h4
          try have hf4 := fit_neg (a := a) (u := codeAt x a.src) (v := codeAt x a.dst) (by omega) (by omega)
          try have hf5 := fit_pos (a := a) hl1.1 hl2.1 (by omega) (by have := edge_lt h3; omega)
          try have hlt := edge_lt h3
          refine T_skip ?_
          refine T_seq ?_
          refine T_regionD hc (by kernel_rfl) ?_
          refine ChD.step (v := (.d (.str (x.codes.getD ((a.src).toNat) default)))) [] rfl (.pure (.move _ rfl rfl)) rfl rfl ?_
          refine ChD.step (v := (.d (.str (x.codes.getD ((a.dst).toNat) default)))) [] rfl (.pure (.move _ rfl rfl)) rfl rfl ?_
          refine ChD.step (v := (.ptr 3000 1)) [] rfl (.pure (.fldPtr _ _ _ rfl fld102_1 rfl)) rfl rfl ?_
          refine ChD.step (v := (.d (.int .i64 a.sig))) [3000] rfl (.pure (.loadPtr1 _ _ rfl ag3 rfl rfl rfl)) rfl rfl ?_
          refine ChD.step (v := (.ptr 3000 2)) [] rfl (.pure (.fldPtr _ _ _ rfl fld102_2 rfl)) rfl rfl ?_
          refine ChD.step (v := (.d (.bool (a.up)))) [3000] rfl (.pure (.loadPtr1 _ _ rfl ag4 rfl rfl rfl)) rfl rfl ?_
          refine ChD.step (v := (.d (.bool (!(a.up))))) [] rfl (.pure (.not _ _ rfl rfl)) rfl rfl ?_
          refine ChD.step (v := (.d (.str ([bitN (!(a.up))])))) [] rfl (.call 62000 165 _ _ _ en165 rfl (.inl rfl) (.cons (.d _) .nil) rfl rfl (sp_spec_l5Bit (!(a.up))) (.skip _ _ .nil) rfl) rfl rfl ?_
          refine ChD.step (v := (.d (.str ((x.codes.getD ((a.dst).toNat) default).take a.sig.toNat ++ ([bitN (!(a.up))]) ++ (x.codes.getD ((a.dst).toNat) default).drop (a.sig + 1).toNat)))) [] rfl (.call 63000 164 _ _ _ en164 rfl (.inl rfl) (.cons (.d _) (.cons (.d _) (.cons (.d _) .nil))) rfl rfl (sp_spec_l5Set (x.codes.getD ((a.dst).toNat) default) a.sig ([bitN (!(a.up))]) (by first | omega | assumption | (exact hx _ (getD_mem (by omega))) | (exact hx _ (by assumption)) | (exact Nat.le_trans (hx _ (by assumption)) (by omega)) | (simp only [List.length_append, List.length_take, List.length_drop, List.length_cons, List.length_nil]; omega) | (simp_all; done)) (by first | omega | (simp; done) | assumption) (by first | omega | assumption | (exact hx _ (getD_mem (by omega))) | (exact hx _ (by assumption)) | (exact Nat.le_trans (hx _ (by assumption)) (by omega)) | (simp only [List.length_append, List.length_take, List.length_drop, List.length_cons, List.length_nil]; omega) | (simp_all; done)) (by first | omega | assumption | (exact hx _ (getD_mem (by omega))) | (exact hx _ (by assumption)) | (exact Nat.le_trans (hx _ (by assumption)) (by omega)) | (simp only [List.length_append, List.length_take, List.length_drop, List.length_cons, List.length_nil]; omega) | (simp_all; done))) (.skip _ _ (.skip _ _ (.skip _ _ .nil))) rfl) rfl rfl ?_
          refine ChD.step (v := (.d (.bool (decide ((x.codes.getD ((a.src).toNat) default) = ((x.codes.getD ((a.dst).toNat) default).take a.sig.toNat ++ ([bitN (!(a.up))]) ++ (x.codes.getD ((a.dst).toNat) default).drop (a.sig + 1).toNat)))))) [] rfl (.pure (.str _ _ _ _ _ rfl rfl rfl rfl)) rfl rfl ?_
          refine ChD.step (v := (.d (.bool (decide ((x.codes.getD ((a.src).toNat) default) = ((x.codes.getD ((a.dst).toNat) default).take a.sig.toNat ++ ([bitN (!(a.up))]) ++ (x.codes.getD ((a.dst).toNat) default).drop (a.sig + 1).toNat)))))) [] rfl (.pure (.move _ rfl rfl)) rfl rfl ?_
          cases h5 : (decide ((x.codes.getD ((a.src).toNat) default) = ((x.codes.getD ((a.dst).toNat) default).take a.sig.toNat ++ ([bitN (!(a.up))]) ++ (x.codes.getD ((a.dst).toNat) default).drop (a.sig + 1).toNat))) with
          | true =>
            replace h5 := of_decide_eq_true h5
            refine ChD.step (v := (.d (.str (x.codes.getD ((a.dst).toNat) default)))) [] rfl (.pure (.move _ rfl rfl)) rfl rfl ?_
            refine ChD.step (v := (.d (.str (x.codes.getD ((a.src).toNat) default)))) [] rfl (.pure (.move _ rfl rfl)) rfl rfl ?_
            refine ChD.step (v := (.ptr 3000 1)) [] rfl (.pure (.fldPtr _ _ _ rfl fld102_1 rfl)) rfl rfl ?_
            refine ChD.step (v := (.d (.int .i64 a.sig))) [3000] rfl (.pure (.loadPtr1 _ _ rfl ag3 rfl rfl rfl)) rfl rfl ?_
            refine ChD.step (v := (.ptr 3000 2)) [] rfl (.pure (.fldPtr _ _ _ rfl fld102_2 rfl)) rfl rfl ?_
            refine ChD.step (v := (.d (.bool (a.up)))) [3000] rfl (.pure (.loadPtr1 _ _ rfl ag4 rfl rfl rfl)) rfl rfl ?_
            refine ChD.step (v := (.d (.str ([bitN (a.up)])))) [] rfl (.call 72000 165 _ _ _ en165 rfl (.inl rfl) (.cons (.d _) .nil) rfl rfl (sp_spec_l5Bit (a.up)) (.skip _ _ .nil) rfl) rfl rfl ?_
            refine ChD.step (v := (.d (.str ((x.codes.getD ((a.src).toNat) default).take a.sig.toNat ++ ([bitN (a.up)]) ++ (x.codes.getD ((a.src).toNat) default).drop (a.sig + 1).toNat)))) [] rfl (.call 73000 164 _ _ _ en164 rfl (.inl rfl) (.cons (.d _) (.cons (.d _) (.cons (.d _) .nil))) rfl rfl (sp_spec_l5Set (x.codes.getD ((a.src).toNat) default) a.sig ([bitN (a.up)]) (by first | omega | assumption | (exact hx _ (getD_mem (by omega))) | (exact hx _ (by assumption)) | (exact Nat.le_trans (hx _ (by assumption)) (by omega)) | (simp only [List.length_append, List.length_take, List.length_drop, List.length_cons, List.length_nil]; omega) | (simp_all; done)) (by first | omega | (simp; done) | assumption) (by first | omega | assumption | (exact hx _ (getD_mem (by omega))) | (exact hx _ (by assumption)) | (exact Nat.le_trans (hx _ (by assumption)) (by omega)) | (simp only [List.length_append, List.length_take, List.length_drop, List.length_cons, List.length_nil]; omega) | (simp_all; done)) (by first | omega | assumption | (exact hx _ (getD_mem (by omega))) | (exact hx _ (by assumption)) | (exact Nat.le_trans (hx _ (by assumption)) (by omega)) | (simp only [List.length_append, List.length_take, List.length_drop, List.length_cons, List.length_nil]; omega) | (simp_all; done))) (.skip _ _ (.skip _ _ (.skip _ _ .nil))) rfl) rfl rfl ?_
            refine ChD.step (v := (.d (.bool (decide ((x.codes.getD ((a.dst).toNat) default) = ((x.codes.getD ((a.src).toNat) default).take a.sig.toNat ++ ([bitN (a.up)]) ++ (x.codes.getD ((a.src).toNat) default).drop (a.sig + 1).toNat)))))) [] rfl (.pure (.str _ _ _ _ _ rfl rfl rfl rfl)) rfl rfl ?_
            refine ChD.step (v := (.d (.bool (decide ((x.codes.getD ((a.dst).toNat) default) = ((x.codes.getD ((a.src).toNat) default).take a.sig.toNat ++ ([bitN (a.up)]) ++ (x.codes.getD ((a.src).toNat) default).drop (a.sig + 1).toNat)))))) [] rfl (.pure (.pickT _ _ _ rfl rfl rfl)) rfl rfl ?_
            refine ChD.step (v := (.d (.bool (decide ((x.codes.getD ((a.dst).toNat) default) = ((x.codes.getD ((a.src).toNat) default).take a.sig.toNat ++ ([bitN (a.up)]) ++ (x.codes.getD ((a.src).toNat) default).drop (a.sig + 1).toNat)))))) [] rfl (.pure (.assign _ rfl rfl)) rfl rfl ?_
            refine ChD.nil (And.intro ?_ (by kernel_rfl))
            refine T_ret ?_
            refine And.intro (.inr rfl) ?_
            exact Exists.intro [(.d (.bool (decide ((x.codes.getD ((a.dst).toNat) default) = ((x.codes.getD ((a.src).toNat) default).take a.sig.toNat ++ ([bitN (a.up)]) ++ (x.codes.getD ((a.src).toNat) default).drop (a.sig + 1).toNat)))))] (Exists.intro [] (Exists.intro [] (And.intro (.cons (.tmp 4 rfl) .nil) (And.intro (.cons (.any _) (.cons (.any _) .nil)) (And.intro (Exp.of (congrArg D.bool (by first | (rw [arcB, h1]; rfl) | (rw [arcB, h1, h2]; rfl) | (rw [arcB, h1, h2, h3]; rfl) | (rw [arcB, h1, h2, h3, hf4]; rfl) | (rw [arcB, h1, h2, h3, hf5]; unfold codeAt setCh; simp only [*, decide_true, decide_false, Bool.true_and, Bool.false_and]; done) | (rw [arcB, h1, h2, h3, hf5]; unfold codeAt setCh; rw [decide_eq_true h5]; rfl) | (rw [arcB, h1, h2, h3, hf5]; unfold codeAt setCh; rw [decide_eq_false h5]; rfl))) (.d _)) (And.intro rfl rfl))))))
          | false =>
            replace h5 := of_decide_eq_false h5
            refine ChD.skip rfl rfl ?_
            refine ChD.skip rfl rfl ?_
            refine ChD.skip rfl rfl ?_
            refine ChD.skip rfl rfl ?_
            refine ChD.skip rfl rfl ?_
            refine ChD.skip rfl rfl ?_
            refine ChD.skip rfl rfl ?_
            refine ChD.skip rfl rfl ?_
            refine ChD.skip rfl rfl ?_
            refine ChD.step (v := (.d (.bool false))) [] rfl (.pure (.pickF _ _ _ rfl rfl rfl)) rfl rfl ?_
            refine ChD.step (v := (.d (.bool false))) [] rfl (.pure (.assign _ rfl rfl)) rfl rfl ?_
            refine ChD.nil (And.intro ?_ (by kernel_rfl))
            refine T_ret ?_
            refine And.intro (.inr rfl) ?_
            exact Exists.intro [(.d (.bool false))] (Exists.intro [] (Exists.intro [] (And.intro (.cons (.tmp 4 rfl) .nil) (And.intro (.cons (.any _) (.cons (.any _) .nil)) (And.intro (Exp.of (congrArg D.bool (by first | (rw [arcB, h1]; rfl) | (rw [arcB, h1, h2]; rfl) | (rw [arcB, h1, h2, h3]; rfl) | (rw [arcB, h1, h2, h3, hf4]; rfl) | (rw [arcB, h1, h2, h3, hf5]; unfold codeAt setCh; simp only [*, decide_true, decide_false, Bool.true_and, Bool.false_and]; done) | (rw [arcB, h1, h2, h3, hf5]; unfold codeAt setCh; rw [decide_eq_true h5]; rfl) | (rw [arcB, h1, h2, h3, hf5]; unfold codeAt setCh; rw [decide_eq_false h5]; rfl))) (.d _)) (And.intro rfl rfl))))))
    | false =>
      try have hw2 := within_two h2
      try have hl1 := hca a.src (by omega) (by omega)
      try have hl2 := hca a.dst (by omega) (by omega)
      try have hl3 := hl1.2
      try have hl4 := hl2.2
      try unfold codeAt at hl3 hl4
      refine Ch.skip rfl rfl ?_
      refine Ch.skip rfl rfl ?_
      refine Ch.skip rfl rfl ?_
      refine Ch.skip rfl rfl ?_
      refine Ch.skip rfl rfl ?_
      refine Ch.skip rfl rfl ?_
      refine Ch.skip rfl rfl ?_
      refine Ch.skip rfl rfl ?_
      refine Ch.skip rfl rfl ?_
      refine Ch.skip rfl rfl ?_
      refine Ch.step (v := (.d (.bool true))) rfl (.pure (.pickT _ _ _ rfl rfl rfl)) rfl rfl ?_
      refine Ch.nil ?_
      refine T_cond (b := true) rfl (fun _ => ?_) (fun h => nomatch h)
      refine T_seq ?_
      refine T_region hc ?_
      refine Ch.step (v := (.d (.bool false))) rfl (.pure (.assign _ rfl rfl)) rfl rfl ?_
      refine Ch.nil ?_
      refine T_ret ?_
      refine And.intro (.inr rfl) ?_
      exact Exists.intro [(.d (.bool false))] (Exists.intro [] (Exists.intro [] (And.intro (.cons (.tmp 4 rfl) .nil) (And.intro (.cons (.any _) (.cons (.any _) .nil)) (And.intro (Exp.of (congrArg D.bool (by first | (rw [arcB, h1]; rfl) | (rw [arcB, h1, h2]; rfl) | (rw [arcB, h1, h2, h3]; rfl) | (rw [arcB, h1, h2, h3, hf4]; rfl) | (rw [arcB, h1, h2, h3, hf5]; unfold codeAt setCh; simp only [*, decide_true, decide_false, Bool.true_and, Bool.false_and]; done) | (rw [arcB, h1, h2, h3, hf5]; unfold codeAt setCh; rw [decide_eq_true h5]; rfl) | (rw [arcB, h1, h2, h3, hf5]; unfold codeAt setCh; rw [decide_eq_false h5]; rfl))) (.d _)) (And.intro rfl rfl))))))
  | false =>
    try have hw1 := within_two h1
    refine Ch.skip rfl rfl ?_
    refine Ch.skip rfl rfl ?_
    refine Ch.skip rfl rfl ?_
    refine Ch.skip rfl rfl ?_
    refine Ch.skip rfl rfl ?_
    refine Ch.skip rfl rfl ?_
    refine Ch.skip rfl rfl ?_
    refine Ch.skip rfl rfl ?_
    refine Ch.step (v := (.d (.bool true))) rfl (.pure (.pickT _ _ _ rfl rfl rfl)) rfl rfl ?_
    refine Ch.step (v := (.d (.bool true))) rfl (.pure (.move _ rfl rfl)) rfl rfl ?_
    refine Ch.skip rfl rfl ?_
    refine Ch.skip rfl rfl ?_
    refine Ch.skip rfl rfl ?_
    refine Ch.skip rfl rfl ?_
    refine Ch.skip rfl rfl ?_
    refine Ch.skip rfl rfl ?_
    refine Ch.skip rfl rfl ?_
    refine Ch.skip rfl rfl ?_
    refine Ch.skip rfl rfl ?_
    refine Ch.skip rfl rfl ?_
    refine Ch.step (v := (.d (.bool true))) rfl (.pure (.pickT _ _ _ rfl rfl rfl)) rfl rfl ?_
    refine Ch.nil ?_
    refine T_cond (b := true) rfl (fun _ => ?_) (fun h => nomatch h)
    refine T_seq ?_
    refine T_region hc ?_
    refine Ch.step (v := (.d (.bool false))) rfl (.pure (.assign _ rfl rfl)) rfl rfl ?_
    refine Ch.nil ?_
    refine T_ret ?_
    refine And.intro (.inr rfl) ?_
    exact Exists.intro [(.d (.bool false))] (Exists.intro [] (Exists.intro [] (And.intro (.cons (.tmp 4 rfl) .nil) (And.intro (.cons (.any _) (.cons (.any _) .nil)) (And.intro (Exp.of (congrArg D.bool (by first | (rw [arcB, h1]; rfl) | (rw [arcB, h1, h2]; rfl) | (rw [arcB, h1, h2, h3]; rfl) | (rw [arcB, h1, h2, h3, hf4]; rfl) | (rw [arcB, h1, h2, h3, hf5]; unfold codeAt setCh; simp only [*, decide_true, decide_false, Bool.true_and, Bool.false_and]; done) | (rw [arcB, h1, h2, h3, hf5]; unfold codeAt setCh; rw [decide_eq_true h5]; rfl) | (rw [arcB, h1, h2, h3, hf5]; unfold codeAt setCh; rw [decide_eq_false h5]; rfl))) (.d _)) (And.intro rfl rfl))))))

set_option maxHeartbeats 2000000 in
theorem sp_spec_l5All (x : Sgr) (hb : x.bulk ≤ 1048576) (hn : 1 ≤ x.codes.length) (hen : ends x.codes.length x.arcs) : Sp Try.prog 129 [(.agg [(.slice false 2 (x.sigs.map Sgn.d)), (.slice false 1 (x.codes.map D.str)), (.slice false 4 (x.arcs.map Arc.d))])] [.any] (.bool (!hasI (distF x.codes.length (stepsOf x.arcs) 0) (-1))) := by
  refine Sp_intro (lend := true) Try.func129 rfl rfl rfl (fun _ => rfl) (fun c hc hX => ?_)
  obtain ⟨hp0, hp1, hp2⟩ := Sgr.parts hb
  have hn0 := bulkF_len hp0
  have hn1 := bulk_len hp1
  have hx1 := bulk_mem hp1
  have hn2 := bulkF_len hp2
  refine T_seq ?_
  refine T_region hc ?_
  refine Ch.step (v := (.ptr 1000 0)) rfl (.box 1000 _ _ rfl (.aggD _)) rfl rfl ?_
  refine Ch.step (v := (.d (.bool false))) rfl (.pure (.assign _ rfl rfl)) rfl rfl ?_
  refine Ch.nil ?_
  refine T_seq ?_
  refine T_region hc ?_
  refine Ch.step (v := (.ptr 1000 1)) rfl (.pure (.fldPtr _ _ _ rfl fld52_1 rfl)) rfl rfl ?_
  refine Ch.step (v := (.d (.slice false 1 (x.codes.map D.str)))) rfl (.pure (.loadPtr1 _ _ rfl ag43 rfl rfl rfl)) rfl rfl ?_
  refine Ch.step (v := (.d (.int .i64 ((x.codes.length : Nat) : Int)))) rfl (.pure (.len _ _ 9 rfl Try.underlying43 (.sh _ _) (by simp))) rfl rfl ?_
  refine Ch.step (v := (.row 11000)) rfl (.make 11000 _ 4 _ _ (x.codes.length) (x.codes.length) rfl sty147 rfl rfl rfl rfl (by first | omega | (simp only [List.length_map, List.length_append, List.length_take, List.length_drop, List.length_cons, List.length_nil]; omega) | (simp; omega) | (simp; done)) (by first | omega | (simp only [List.length_map, List.length_append, List.length_take, List.length_drop, List.length_cons, List.length_nil]; omega) | (simp; omega) | (simp; done)) (by first | omega | (simp only [List.length_map, List.length_append, List.length_take, List.length_drop, List.length_cons, List.length_nil]; omega) | (simp; omega) | (simp; done)) (zeroD_mk (zd := (.bool false)) zr4 (by intro S w; rw [DR]; exact ⟨rfl, rfl⟩) rfl)) rfl rfl ?_
  refine Ch.step (v := (.row 11000)) rfl (.pure (.assign _ rfl rfl)) rfl rfl ?_
  refine Ch.nil ?_
  refine T_seq ?_
  refine T_region hc ?_
  refine Ch.step (v := (.row 11000)) rfl (.pure (.move _ rfl rfl)) rfl rfl ?_
  refine Ch.step (v := (.el 11000 1 0 0)) rfl (.pure (.idxRow _ _ _ 4 (0) rfl Try.underlying147 sz4 rfl rfl rfl rfl (by first | omega | (simp only [List.length_map, List.length_set]; omega) | (simp; omega)))) rfl rfl ?_
  refine Ch.step (v := .junk) rfl (.storeEl (y' := (.bool true)) _ _ _ rfl rfl rfl (.d _) rfl sz4 rfl (by rw [List.getElem?_replicate, if_pos (by omega)]) rfl rfl) rfl rfl ?_
  refine Ch.nil ?_
  refine T_seq ?_
  refine T_seq ?_
  refine T_region hc ?_
  refine Ch.step (v := (.ptr 1000 1)) rfl (.pure (.fldPtr _ _ _ rfl fld52_1 rfl)) rfl rfl ?_
  refine Ch.step (v := (.d (.slice false 1 (x.codes.map D.str)))) rfl (.pure (.loadPtr1 _ _ rfl ag43 rfl rfl rfl)) rfl rfl ?_
  refine Ch.step (v := (.d (.int .i64 ((x.codes.length : Nat) : Int)))) rfl (.pure (.len _ _ 9 rfl Try.underlying43 (.sh _ _) (by simp))) rfl rfl ?_
  refine Ch.step (v := (.d (.int .i64 0))) rfl (.pure (.move _ rfl rfl)) rfl rfl ?_
  refine Ch.nil ?_
  refine T_block ?_
  refine T_loop (ι := Nat) (fun k => { n := 46, sl := [(1, (.ptr 1000 0)), (3, (.row 3)), (16, (.d (.int .i64 ((x.codes.length : Nat) : Int)))), (17, (.d (.int .i64 ((k : Nat) : Int))))], hp := [(3, (some (.row 1 ((metIt x k).map D.bool)))), (1000, (some (.box [(.d (.slice false 2 (x.sigs.map Sgn.d))), (.d (.slice false 1 (x.codes.map D.str))), (.d (.slice false 4 (x.arcs.map Arc.d)))])))], pin := [] }) (fun k => k ≤ x.codes.length) (fun k => x.codes.length - k) ⟨0, (by omega), (Wk.ren [(3, 11000)] rfl rfl rfl rfl (And.intro rfl (And.intro rfl (And.intro rfl (And.intro (vI (by first | rfl | omega | (simp; done) | (simp; omega))) trivial)))) (And.intro (oR (by first | (exact metIt_start x) | (rw [metTo_all x k (by omega)]; done))) (And.intro rfl trivial)))⟩ (fun k hp0 => ?_)
  have hml := metIt_len x k
  refine T_seq ?_
  refine T_region hc ?_
  refine Ch.step (v := (.d (.bool (decide (((k : Nat) : Int) < ((x.codes.length : Nat) : Int)))))) rfl (.pure (.int _ _ _ _ _ rfl rfl rfl rfl)) rfl rfl ?_
  refine Ch.nil ?_
  refine T_seq ?_
  refine T_cond (b := (decide (((k : Nat) : Int) < ((x.codes.length : Nat) : Int)))) rfl (fun h1 => ?_) (fun h1 => ?_)
  · replace h1 := of_decide_eq_true h1
    refine T_skip ?_
    refine T_seq ?_
    refine T_block ?_
    refine T_seq ?_
    refine T_region hc ?_
    refine Ch.step (v := (.ptr 1000 2)) rfl (.pure (.fldPtr _ _ _ rfl fld52_2 rfl)) rfl rfl ?_
    refine Ch.step (v := (.d (.slice false 4 (x.arcs.map Arc.d)))) rfl (.pure (.loadPtr1 _ _ rfl ag50 rfl rfl rfl)) rfl rfl ?_
    refine Ch.step (v := (.d (.int .i64 ((x.arcs.length : Nat) : Int)))) rfl (.pure (.len _ _ 102 rfl Try.underlying50 (.sh _ _) (by simp))) rfl rfl ?_
    refine Ch.step (v := (.d (.int .i64 0))) rfl (.pure (.move _ rfl rfl)) rfl rfl ?_
    refine Ch.nil ?_
    refine T_block ?_
    refine T_loop (ι := Nat) (fun m => { n := 46, sl := [(1, (.ptr 1000 0)), (3, (.row 3)), (16, (.d (.int .i64 ((x.codes.length : Nat) : Int)))), (17, (.d (.int .i64 ((k : Nat) : Int)))), (20, (.d (.slice false 4 (x.arcs.map Arc.d)))), (21, (.d (.int .i64 ((x.arcs.length : Nat) : Int)))), (22, (.d (.int .i64 ((m : Nat) : Int))))], hp := [(3, (some (.row 1 ((metTo x k m).map D.bool)))), (1000, (some (.box [(.d (.slice false 2 (x.sigs.map Sgn.d))), (.d (.slice false 1 (x.codes.map D.str))), (.d (.slice false 4 (x.arcs.map Arc.d)))])))], pin := [] }) (fun m => m ≤ x.arcs.length) (fun m => x.arcs.length - m) ⟨0, (by omega), (Wk.of rfl rfl (And.intro rfl (And.intro rfl (And.intro rfl (And.intro rfl (And.intro rfl (And.intro rfl (And.intro (vI (by first | rfl | omega | (simp; done) | (simp; omega))) trivial))))))) (And.intro (oR (by first | rfl | (exact metTo_yes (by omega) (by assumption)) | (exact congrArg (List.map _) (metTo_no (by omega) (by assumption))))) (And.intro rfl trivial)))⟩ (fun m hp1 => ?_)
    have hmt := metTo_len x k m
    refine T_seq ?_
    refine T_region hc ?_
    refine Ch.step (v := (.d (.bool (decide (((m : Nat) : Int) < ((x.arcs.length : Nat) : Int)))))) rfl (.pure (.int _ _ _ _ _ rfl rfl rfl rfl)) rfl rfl ?_
    refine Ch.nil ?_
    refine T_seq ?_
    refine T_cond (b := (decide (((m : Nat) : Int) < ((x.arcs.length : Nat) : Int)))) rfl (fun h2 => ?_) (fun h2 => ?_)
    · replace h2 := of_decide_eq_true h2
      try have hee := hen _ (getD_mem (l := x.arcs) (j := m) (d := default) (by omega))
      refine T_skip ?_
      refine T_seq ?_
      refine T_block ?_
      refine T_seq ?_
      refine T_region hc ?_
      refine Ch.step (v := (.d (.ref (.agg [(.int .i64 ((x.arcs.getD m default).src)), (.int .i64 ((x.arcs.getD m default).sig)), (.bool ((x.arcs.getD m default).up)), (.int .i64 ((x.arcs.getD m default).dst))])))) rfl (.pure (.idx _ _ _ 102 (m) rfl Try.underlying50 sz102 rfl rfl rfl (get_map _ (by first | omega | (simp only [List.length_map, List.length_append, List.length_take, List.length_drop, List.length_cons, List.length_nil]; omega) | (simp; omega) | (simp; done))))) rfl rfl ?_
      refine Ch.step (v := (.d (.agg [(.int .i64 ((x.arcs.getD m default).src)), (.int .i64 ((x.arcs.getD m default).sig)), (.bool ((x.arcs.getD m default).up)), (.int .i64 ((x.arcs.getD m default).dst))]))) rfl (.pure (.loadRefA _ _ rfl ag102 sz102 rfl)) rfl rfl ?_
      refine Ch.step (v := (.ptr 5000 0)) rfl (.alloc 5000 _ rfl zer102) rfl rfl ?_
      refine Ch.step (v := .junk) rfl (.storePtr _ _ _ rfl rfl rfl (.aggD _) sz102 (Nat.le_of_ble_eq_true rfl)) rfl rfl ?_
      refine Ch.nil ?_
      refine T_seq ?_
      refine T_region hc ?_
      refine Ch.step (v := (.row 3)) rfl (.pure (.move _ rfl rfl)) rfl rfl ?_
      refine Ch.step (v := (.ptr 5000 0)) rfl (.pure (.fldPtr _ _ _ rfl fld102_0 rfl)) rfl rfl ?_
      refine Ch.step (v := (.d (.int .i64 ((x.arcs.getD m default).src)))) rfl (.pure (.loadPtr1 _ _ rfl ag3 rfl rfl rfl)) rfl rfl ?_
      refine Ch.step (v := (.el 3 1 ((((x.arcs.getD m default).src)).toNat) 0)) rfl (.pure (.idxRow _ _ _ 4 ((((x.arcs.getD m default).src)).toNat) rfl Try.underlying147 sz4 rfl rfl rfl (by omega) (by first | omega | (simp only [List.length_map, List.length_set]; omega) | (simp; omega)))) rfl rfl ?_
      refine Ch.step (v := (.d (.bool (((metTo x k m).getD ((((x.arcs.getD m default).src)).toNat) default))))) rfl (.pure (.loadEl1 _ _ rfl ag4 rfl rfl (get_map _ (by first | omega | (simp only [List.length_map, List.length_append, List.length_take, List.length_drop, List.length_cons, List.length_nil]; omega) | (simp; omega) | (simp; done))) rfl rfl rfl)) rfl rfl ?_
      refine Ch.nil ?_
      refine T_cond (b := (((metTo x k m).getD ((((x.arcs.getD m default).src)).toNat) default))) rfl (fun h3 => ?_) (fun h3 => ?_)
      · refine T_region hc ?_
        refine Ch.step (v := (.row 3)) rfl (.pure (.move _ rfl rfl)) rfl rfl ?_
        refine Ch.step (v := (.ptr 5000 3)) rfl (.pure (.fldPtr _ _ _ rfl fld102_3 rfl)) rfl rfl ?_
        refine Ch.step (v := (.d (.int .i64 ((x.arcs.getD m default).dst)))) rfl (.pure (.loadPtr1 _ _ rfl ag3 rfl rfl rfl)) rfl rfl ?_
        refine Ch.step (v := (.el 3 1 ((((x.arcs.getD m default).dst)).toNat) 0)) rfl (.pure (.idxRow _ _ _ 4 ((((x.arcs.getD m default).dst)).toNat) rfl Try.underlying147 sz4 rfl rfl rfl (by omega) (by first | omega | (simp only [List.length_map, List.length_set]; omega) | (simp; omega)))) rfl rfl ?_
        refine Ch.step (v := .junk) rfl (.storeEl (y' := (.bool true)) _ _ _ rfl rfl rfl (.d _) rfl sz4 rfl (get_map _ (by first | omega | (simp only [List.length_map, List.length_append, List.length_take, List.length_drop, List.length_cons, List.length_nil]; omega) | (simp; omega) | (simp; done))) rfl rfl) rfl rfl ?_
        refine Ch.nil ?_
        refine T_region hc ?_
        refine Ch.step (v := (.d (.int .i64 (((m : Nat) : Int) + 1)))) rfl (.pure (.int _ _ _ _ _ rfl rfl rfl (intV_add (by first | omega | (simp only [List.length_map, List.length_append, List.length_take, List.length_drop, List.length_cons, List.length_nil]; omega) | (simp; omega) | (simp; done)) (by first | omega | (simp only [List.length_map, List.length_append, List.length_take, List.length_drop, List.length_cons, List.length_nil]; omega) | (simp; omega) | (simp; done))))) rfl rfl ?_
        refine Ch.step (v := (.d (.int .i64 (((m : Nat) : Int) + 1)))) rfl (.pure (.move _ rfl rfl)) rfl rfl ?_
        refine Ch.nil ?_
        refine Exists.intro (m + 1) (And.intro (by omega) (And.intro (by first | omega | (dsimp only; omega)) (Wk.of rfl rfl (And.intro rfl (And.intro rfl (And.intro rfl (And.intro rfl (And.intro rfl (And.intro rfl (And.intro (vI (by first | rfl | omega | (simp; done) | (simp; omega))) trivial))))))) (And.intro (oR (by first | rfl | (exact metTo_yes (by omega) (by assumption)) | (exact congrArg (List.map _) (metTo_no (by omega) (by assumption))))) (And.intro rfl trivial)))))
      · refine T_skip ?_
        refine T_region hc ?_
        refine Ch.step (v := (.d (.int .i64 (((m : Nat) : Int) + 1)))) rfl (.pure (.int _ _ _ _ _ rfl rfl rfl (intV_add (by first | omega | (simp only [List.length_map, List.length_append, List.length_take, List.length_drop, List.length_cons, List.length_nil]; omega) | (simp; omega) | (simp; done)) (by first | omega | (simp only [List.length_map, List.length_append, List.length_take, List.length_drop, List.length_cons, List.length_nil]; omega) | (simp; omega) | (simp; done))))) rfl rfl ?_
        refine Ch.step (v := (.d (.int .i64 (((m : Nat) : Int) + 1)))) rfl (.pure (.move _ rfl rfl)) rfl rfl ?_
        refine Ch.nil ?_
        refine Exists.intro (m + 1) (And.intro (by omega) (And.intro (by first | omega | (dsimp only; omega)) (Wk.of rfl rfl (And.intro rfl (And.intro rfl (And.intro rfl (And.intro rfl (And.intro rfl (And.intro rfl (And.intro (vI (by first | rfl | omega | (simp; done) | (simp; omega))) trivial))))))) (And.intro (oR (by first | rfl | (exact metTo_yes (by omega) (by assumption)) | (exact congrArg (List.map _) (metTo_no (by omega) (by assumption))))) (And.intro rfl trivial)))))
    · replace h2 := of_decide_eq_false h2
      try have hee := hen _ (getD_mem (l := x.arcs) (j := m) (d := default) (by omega))
      refine T_exit ?_
      refine T_region hc ?_
      refine Ch.step (v := (.d (.int .i64 (((k : Nat) : Int) + 1)))) rfl (.pure (.int _ _ _ _ _ rfl rfl rfl (intV_add (by first | omega | (simp only [List.length_map, List.length_append, List.length_take, List.length_drop, List.length_cons, List.length_nil]; omega) | (simp; omega) | (simp; done)) (by first | omega | (simp only [List.length_map, List.length_append, List.length_take, List.length_drop, List.length_cons, List.length_nil]; omega) | (simp; omega) | (simp; done))))) rfl rfl ?_
      refine Ch.step (v := (.d (.int .i64 (((k : Nat) : Int) + 1)))) rfl (.pure (.move _ rfl rfl)) rfl rfl ?_
      refine Ch.nil ?_
      refine Exists.intro (k + 1) (And.intro (by omega) (And.intro (by first | omega | (dsimp only; omega)) (Wk.of rfl rfl (And.intro rfl (And.intro rfl (And.intro rfl (And.intro (vI (by first | rfl | omega | (simp; done) | (simp; omega))) trivial)))) (And.intro (oR (by first | (exact metIt_start x) | (rw [metTo_all x k (by omega)]; done))) (And.intro rfl trivial)))))
  · replace h1 := of_decide_eq_false h1
    refine T_exit ?_
    refine T_seq ?_
    refine T_seq ?_
    refine T_region hc ?_
    refine Ch.step (v := (.row 3)) rfl (.pure (.move _ rfl rfl)) rfl rfl ?_
    refine Ch.step (v := (.d (.int .i64 (((metIt x k).length : Nat) : Int)))) rfl (.pure (.len _ _ 4 rfl Try.underlying147 (.row rfl) (by simp))) rfl rfl ?_
    refine Ch.step (v := (.d (.int .i64 0))) rfl (.pure (.move _ rfl rfl)) rfl rfl ?_
    refine Ch.nil ?_
    refine T_block ?_
    refine T_loop (ι := Nat) (fun m => { n := 46, sl := [(37, (.row 3)), (38, (.d (.int .i64 (((metIt x k).length : Nat) : Int)))), (39, (.d (.int .i64 ((m : Nat) : Int))))], hp := [(3, (some (.row 1 ((metIt x k).map D.bool))))], pin := [] }) (fun m => m ≤ x.codes.length ∧ ∀ j, j < m → (metIt x k).getD j default = true) (fun m => x.codes.length - m) ⟨0, ⟨by omega, fun j hj => by omega⟩, (Wk.of rfl rfl (And.intro rfl (And.intro rfl (And.intro (vI (by first | rfl | omega | (simp; done) | (simp; omega))) trivial))) (And.intro rfl trivial))⟩ (fun m hp2 => ?_)
    refine T_seq ?_
    refine T_region hc ?_
    refine Ch.step (v := (.d (.bool (decide (((m : Nat) : Int) < (((metIt x k).length : Nat) : Int)))))) rfl (.pure (.int _ _ _ _ _ rfl rfl rfl rfl)) rfl rfl ?_
    refine Ch.nil ?_
    refine T_seq ?_
    refine T_cond (b := (decide (((m : Nat) : Int) < (((metIt x k).length : Nat) : Int)))) rfl (fun h4 => ?_) (fun h4 => ?_)
    · replace h4 := of_decide_eq_true h4
      refine T_skip ?_
      refine T_seq ?_
      refine T_block ?_
      refine T_seq ?_
      refine T_region hc ?_
      refine Ch.step (v := (.el 3 1 m 0)) rfl (.pure (.idxRow _ _ _ 4 (m) rfl Try.underlying147 sz4 rfl rfl rfl rfl (by first | omega | (simp only [List.length_map, List.length_set]; omega) | (simp; omega)))) rfl rfl ?_
      refine Ch.step (v := (.d (.bool (((metIt x k).getD m default))))) rfl (.pure (.loadEl1 _ _ rfl ag4 rfl rfl (get_map _ (by first | omega | (simp only [List.length_map, List.length_append, List.length_take, List.length_drop, List.length_cons, List.length_nil]; omega) | (simp; omega) | (simp; done))) rfl rfl rfl)) rfl rfl ?_
      refine Ch.step (v := (.d (.bool (((metIt x k).getD m default))))) rfl (.pure (.assign _ rfl rfl)) rfl rfl ?_
      refine Ch.nil ?_
      refine T_seq ?_
      refine T_region hc ?_
      refine Ch.step (v := (.d (.bool (((metIt x k).getD m default))))) rfl (.pure (.move _ rfl rfl)) rfl rfl ?_
      refine Ch.step (v := (.d (.bool (!(((metIt x k).getD m default)))))) rfl (.pure (.not _ _ rfl rfl)) rfl rfl ?_
      refine Ch.nil ?_
      refine T_cond (b := (!(((metIt x k).getD m default)))) rfl (fun h5 => ?_) (fun h5 => ?_)
      · replace h5 := nott h5
        refine T_seq ?_
        refine T_region hc ?_
        refine Ch.step (v := (.d (.bool false))) rfl (.pure (.assign _ rfl rfl)) rfl rfl ?_
        refine Ch.nil ?_
        refine T_ret ?_
        refine And.intro (.inr rfl) ?_
        exact Exists.intro [(.d (.bool false))] (Exists.intro [] (Exists.intro [] (And.intro (.cons (.tmp 2 rfl) .nil) (And.intro (.cons (.any _) .nil) (And.intro (Exp.of (congrArg D.bool (by first | (exact met_no hn hen (k := k) (by omega) m (by omega) (by assumption)) | (exact met_yes hn hen (k := k) (by omega) (fun j hj => hp2.2 j (by clear hp2; omega))) | (have hge : x.codes.length ≤ m := (by omega); exact met_yes hn hen (k := k) (by omega) (fun j hj => hp2.2 j (Nat.lt_of_lt_of_le hj hge))))) (.d _)) (And.intro rfl rfl))))))
      · replace h5 := notf h5
        refine T_skip ?_
        refine T_region hc ?_
        refine Ch.step (v := (.d (.int .i64 (((m : Nat) : Int) + 1)))) rfl (.pure (.int _ _ _ _ _ rfl rfl rfl (intV_add (by first | omega | (simp only [List.length_map, List.length_append, List.length_take, List.length_drop, List.length_cons, List.length_nil]; omega) | (simp; omega) | (simp; done)) (by first | omega | (simp only [List.length_map, List.length_append, List.length_take, List.length_drop, List.length_cons, List.length_nil]; omega) | (simp; omega) | (simp; done))))) rfl rfl ?_
        refine Ch.step (v := (.d (.int .i64 (((m : Nat) : Int) + 1)))) rfl (.pure (.move _ rfl rfl)) rfl rfl ?_
        refine Ch.nil ?_
        refine Exists.intro (m + 1) (And.intro ⟨by omega, upto_succ hp2.2 (by assumption)⟩ (And.intro (by first | omega | (dsimp only; omega)) (Wk.of rfl rfl (And.intro rfl (And.intro rfl (And.intro (vI (by first | rfl | omega | (simp; done) | (simp; omega))) trivial))) (And.intro rfl trivial))))
    · replace h4 := of_decide_eq_false h4
      refine T_exit ?_
      refine T_seq ?_
      refine T_region hc ?_
      refine Ch.step (v := (.d (.bool true))) rfl (.pure (.assign _ rfl rfl)) rfl rfl ?_
      refine Ch.nil ?_
      refine T_ret ?_
      refine And.intro (.inr rfl) ?_
      exact Exists.intro [(.d (.bool true))] (Exists.intro [] (Exists.intro [] (And.intro (.cons (.tmp 2 rfl) .nil) (And.intro (.cons (.any _) .nil) (And.intro (Exp.of (congrArg D.bool (by first | (exact met_no hn hen (k := k) (by omega) m (by omega) (by assumption)) | (exact met_yes hn hen (k := k) (by omega) (fun j hj => hp2.2 j (by clear hp2; omega))) | (have hge : x.codes.length ≤ m := (by omega); exact met_yes hn hen (k := k) (by omega) (fun j hj => hp2.2 j (Nat.lt_of_lt_of_le hj hge))))) (.d _)) (And.intro rfl rfl))))))

set_option maxHeartbeats 2000000 in
theorem sp_spec_l5Good (x : Sgr) (hb : x.bulk ≤ 1048576) : Sp Try.prog 78 [(.agg [(.slice false 2 (x.sigs.map Sgn.d)), (.slice false 1 (x.codes.map D.str)), (.slice false 4 (x.arcs.map Arc.d))])] [.any] (.bool (sgB x)) := by
  refine Sp_intro (lend := true) Try.func78 rfl rfl rfl (fun _ => rfl) (fun c hc hX => ?_)
  obtain ⟨hp0, hp1, hp2⟩ := Sgr.parts hb
  have hn0 := bulkF_len hp0
  have hn1 := bulk_len hp1
  have hx1 := bulk_mem hp1
  have hn2 := bulkF_len hp2
  refine T_seq ?_
  refine T_region hc ?_
  refine Ch.step (v := (.ptr 1000 0)) rfl (.box 1000 _ _ rfl (.aggD _)) rfl rfl ?_
  refine Ch.step (v := (.d (.bool false))) rfl (.pure (.assign _ rfl rfl)) rfl rfl ?_
  refine Ch.nil ?_
  refine T_seq ?_
  refine T_seq ?_
  refine T_region hc ?_
  refine Ch.step (v := (.ptr 1000 0)) rfl (.pure (.fldPtr _ _ _ rfl fld52_0 rfl)) rfl rfl ?_
  refine Ch.step (v := (.d (.slice false 2 (x.sigs.map Sgn.d)))) rfl (.pure (.loadPtr1 _ _ rfl ag29 rfl rfl rfl)) rfl rfl ?_
  refine Ch.step (v := (.d (.bool (sigsB x.sigs)))) rfl (.call 9000 104 _ _ _ en104 rfl (.inl rfl) (.cons (.d _) .nil) rfl rfl (sp_spec_l2Signals x.sigs (by first | assumption | omega | (rw [List.length_take]; omega) | (have := bulkF_mem hb _ (getD_mem (d := default) (by omega)); assumption) | (unfold bulkS at *; omega) | (simp_all; done))) (.skip _ _ .nil) rfl) rfl rfl ?_
  refine Ch.step (v := (.d (.bool (!(sigsB x.sigs))))) rfl (.pure (.not _ _ rfl rfl)) rfl rfl ?_
  refine Ch.step (v := (.d (.bool (!(sigsB x.sigs))))) rfl (.pure (.move _ rfl rfl)) rfl rfl ?_
  cases h1 : (sigsB x.sigs) with
  | true =>
    try have hs8 := within_two (sigsB_len h1)
    refine Ch.step (v := (.ptr 1000 1)) rfl (.pure (.fldPtr _ _ _ rfl fld52_1 rfl)) rfl rfl ?_
    refine Ch.step (v := (.d (.slice false 1 (x.codes.map D.str)))) rfl (.pure (.loadPtr1 _ _ rfl ag43 rfl rfl rfl)) rfl rfl ?_
    refine Ch.step (v := (.d (.int .i64 ((x.codes.length : Nat) : Int)))) rfl (.pure (.len _ _ 9 rfl Try.underlying43 (.sh _ _) (by simp))) rfl rfl ?_
    refine Ch.step (v := (.d (.bool (withinB ((x.codes.length : Nat) : Int) 1 300)))) rfl (.call 15000 51 _ _ _ en51 rfl (.inl rfl) (.cons (.d _) (.cons (.d _) (.cons (.d _) .nil))) rfl rfl (sp_spec_l1In ((x.codes.length : Nat) : Int) 1 300) (.skip _ _ (.skip _ _ (.skip _ _ .nil))) rfl) rfl rfl ?_
    refine Ch.step (v := (.d (.bool (!(withinB ((x.codes.length : Nat) : Int) 1 300))))) rfl (.pure (.not _ _ rfl rfl)) rfl rfl ?_
    refine Ch.step (v := (.d (.bool (!(withinB ((x.codes.length : Nat) : Int) 1 300))))) rfl (.pure (.pickF _ _ _ rfl rfl rfl)) rfl rfl ?_
    refine Ch.step (v := (.d (.bool (!(withinB ((x.codes.length : Nat) : Int) 1 300))))) rfl (.pure (.move _ rfl rfl)) rfl rfl ?_
    cases h2 : (withinB ((x.codes.length : Nat) : Int) 1 300) with
    | true =>
      try have hw2 := within_two h2
      refine Ch.step (v := (.ptr 1000 2)) rfl (.pure (.fldPtr _ _ _ rfl fld52_2 rfl)) rfl rfl ?_
      refine Ch.step (v := (.d (.slice false 4 (x.arcs.map Arc.d)))) rfl (.pure (.loadPtr1 _ _ rfl ag50 rfl rfl rfl)) rfl rfl ?_
      refine Ch.step (v := (.d (.int .i64 ((x.arcs.length : Nat) : Int)))) rfl (.pure (.len _ _ 102 rfl Try.underlying50 (.sh _ _) (by simp))) rfl rfl ?_
      refine Ch.step (v := (.d (.bool (decide (4000 < ((x.arcs.length : Nat) : Int)))))) rfl (.pure (.int _ _ _ _ _ rfl rfl rfl rfl)) rfl rfl ?_
      refine Ch.step (v := (.d (.bool (decide (4000 < ((x.arcs.length : Nat) : Int)))))) rfl (.pure (.pickF _ _ _ rfl rfl rfl)) rfl rfl ?_
      refine Ch.nil ?_
      refine T_cond (b := (decide (4000 < ((x.arcs.length : Nat) : Int)))) rfl (fun h3 => ?_) (fun h3 => ?_)
      · replace h3 := of_decide_eq_true h3
        refine T_seq ?_
        refine T_region hc ?_
        refine Ch.step (v := (.d (.bool false))) rfl (.pure (.assign _ rfl rfl)) rfl rfl ?_
        refine Ch.nil ?_
        refine T_ret ?_
        refine And.intro (.inr rfl) ?_
        exact Exists.intro [(.d (.bool false))] (Exists.intro [] (Exists.intro [] (And.intro (.cons (.tmp 2 rfl) .nil) (And.intro (.cons (.any _) .nil) (And.intro (Exp.of (congrArg D.bool (by first | (rw [sgB, h1]; rfl) | (rw [sgB, h1, h2]; rfl) | (rw [sgB, h1, h2, decide_eq_true (by omega)]; rfl) | (exact (sg_no_code (k := k) (by omega) (by assumption)).symm) | (exact (sg_no_arc (k := m) (by omega) (by first | assumption | (unfold arcB codeAt; simp_all; done))).symm) | (rw [← sg_end h1 h2 (by omega) hcl hal]; done) | (exact sg_end h1 h2 (by omega) hcl hal))) (.d _)) (And.intro rfl rfl))))))
      · replace h3 := of_decide_eq_false h3
        refine T_skip ?_
        refine T_seq ?_
        refine T_seq ?_
        refine T_region hc ?_
        refine Ch.step (v := (.ptr 1000 1)) rfl (.pure (.fldPtr _ _ _ rfl fld52_1 rfl)) rfl rfl ?_
        refine Ch.step (v := (.d (.slice false 1 (x.codes.map D.str)))) rfl (.pure (.loadPtr1 _ _ rfl ag43 rfl rfl rfl)) rfl rfl ?_
        refine Ch.step (v := (.d (.int .i64 ((x.codes.length : Nat) : Int)))) rfl (.pure (.len _ _ 9 rfl Try.underlying43 (.sh _ _) (by simp))) rfl rfl ?_
        refine Ch.step (v := (.d (.int .i64 0))) rfl (.pure (.move _ rfl rfl)) rfl rfl ?_
        refine Ch.nil ?_
        refine T_block ?_
        refine T_loop (ι := Nat) (fun k => { n := 52, sl := [(1, (.ptr 1000 0)), (25, (.d (.slice false 1 (x.codes.map D.str)))), (26, (.d (.int .i64 ((x.codes.length : Nat) : Int)))), (27, (.d (.int .i64 ((k : Nat) : Int))))], hp := [(1000, (some (.box [(.d (.slice false 2 (x.sigs.map Sgn.d))), (.d (.slice false 1 (x.codes.map D.str))), (.d (.slice false 4 (x.arcs.map Arc.d)))])))], pin := [] }) (fun k => k ≤ x.codes.length ∧ ∀ j, j < k → codeN (x.codes.getD j default) (x.sigs.length : Int) = true) (fun k => x.codes.length - k) ⟨0, ⟨by omega, fun j hj => by omega⟩, (Wk.of rfl rfl (And.intro rfl (And.intro rfl (And.intro rfl (And.intro (vI (by first | rfl | omega | (simp; done) | (simp; omega))) trivial)))) (And.intro rfl trivial))⟩ (fun k hp0 => ?_)
        refine T_seq ?_
        refine T_region hc ?_
        refine Ch.step (v := (.d (.bool (decide (((k : Nat) : Int) < ((x.codes.length : Nat) : Int)))))) rfl (.pure (.int _ _ _ _ _ rfl rfl rfl rfl)) rfl rfl ?_
        refine Ch.nil ?_
        refine T_seq ?_
        refine T_cond (b := (decide (((k : Nat) : Int) < ((x.codes.length : Nat) : Int)))) rfl (fun h4 => ?_) (fun h4 => ?_)
        · replace h4 := of_decide_eq_true h4
          try have hcl := sg_codes (x := x) (k := k) (by omega) hp0.2
          try have hca := codes_at hcl
          refine T_skip ?_
          refine T_seq ?_
          refine T_block ?_
          refine T_seq ?_
          refine T_region hc ?_
          refine Ch.step (v := (.d (.ref (.str (x.codes.getD k default))))) rfl (.pure (.idx _ _ _ 9 (k) rfl Try.underlying43 sz9 rfl rfl rfl (get_map _ (by first | omega | (simp only [List.length_map, List.length_append, List.length_take, List.length_drop, List.length_cons, List.length_nil]; omega) | (simp; omega) | (simp; done))))) rfl rfl ?_
          refine Ch.step (v := (.d (.str (x.codes.getD k default)))) rfl (.pure (.loadRef1 _ _ rfl ag9 rfl rfl)) rfl rfl ?_
          refine Ch.step (v := (.d (.str (x.codes.getD k default)))) rfl (.pure (.assign _ rfl rfl)) rfl rfl ?_
          refine Ch.nil ?_
          refine T_seq ?_
          refine T_region hc ?_
          refine Ch.step (v := (.d (.str (x.codes.getD k default)))) rfl (.pure (.move _ rfl rfl)) rfl rfl ?_
          refine Ch.step (v := (.ptr 1000 0)) rfl (.pure (.fldPtr _ _ _ rfl fld52_0 rfl)) rfl rfl ?_
          refine Ch.step (v := (.d (.slice false 2 (x.sigs.map Sgn.d)))) rfl (.pure (.loadPtr1 _ _ rfl ag29 rfl rfl rfl)) rfl rfl ?_
          refine Ch.step (v := (.d (.int .i64 ((x.sigs.length : Nat) : Int)))) rfl (.pure (.len _ _ 97 rfl Try.underlying29 (.sh _ _) (by simp))) rfl rfl ?_
          refine Ch.step (v := (.d (.bool (codeN (x.codes.getD k default) ((x.sigs.length : Nat) : Int))))) rfl (.call 35000 50 _ _ _ en50 rfl (.inl rfl) (.cons (.d _) (.cons (.d _) .nil)) rfl rfl (sp_spec_l5Code (x.codes.getD k default) ((x.sigs.length : Nat) : Int) (by first | omega | assumption | (exact hx _ (getD_mem (by omega))) | (exact hx _ (by assumption)) | (exact Nat.le_trans (hx _ (by assumption)) (by omega)) | (simp only [List.length_append, List.length_take, List.length_drop, List.length_cons, List.length_nil]; omega) | (simp_all; done))) (.skip _ _ (.skip _ _ .nil)) rfl) rfl rfl ?_
          refine Ch.step (v := (.d (.bool (!(codeN (x.codes.getD k default) ((x.sigs.length : Nat) : Int)))))) rfl (.pure (.not _ _ rfl rfl)) rfl rfl ?_
          refine Ch.nil ?_
          refine T_cond (b := (!(codeN (x.codes.getD k default) ((x.sigs.length : Nat) : Int)))) rfl (fun h5 => ?_) (fun h5 => ?_)
          · replace h5 := nott h5
            refine T_seq ?_
            refine T_region hc ?_
            refine Ch.step (v := (.d (.bool false))) rfl (.pure (.assign _ rfl rfl)) rfl rfl ?_
            refine Ch.nil ?_
            refine T_ret ?_
            refine And.intro (.inr rfl) ?_
            exact Exists.intro [(.d (.bool false))] (Exists.intro [] (Exists.intro [] (And.intro (.cons (.tmp 2 rfl) .nil) (And.intro (.cons (.any _) .nil) (And.intro (Exp.of (congrArg D.bool (by first | (rw [sgB, h1]; rfl) | (rw [sgB, h1, h2]; rfl) | (rw [sgB, h1, h2, decide_eq_true (by omega)]; rfl) | (exact (sg_no_code (k := k) (by omega) (by assumption)).symm) | (exact (sg_no_arc (k := m) (by omega) (by first | assumption | (unfold arcB codeAt; simp_all; done))).symm) | (rw [← sg_end h1 h2 (by omega) hcl hal]; done) | (exact sg_end h1 h2 (by omega) hcl hal))) (.d _)) (And.intro rfl rfl))))))
          · replace h5 := notf h5
            refine T_skip ?_
            refine T_region hc ?_
            refine Ch.step (v := (.d (.int .i64 (((k : Nat) : Int) + 1)))) rfl (.pure (.int _ _ _ _ _ rfl rfl rfl (intV_add (by first | omega | (simp only [List.length_map, List.length_append, List.length_take, List.length_drop, List.length_cons, List.length_nil]; omega) | (simp; omega) | (simp; done)) (by first | omega | (simp only [List.length_map, List.length_append, List.length_take, List.length_drop, List.length_cons, List.length_nil]; omega) | (simp; omega) | (simp; done))))) rfl rfl ?_
            refine Ch.step (v := (.d (.int .i64 (((k : Nat) : Int) + 1)))) rfl (.pure (.move _ rfl rfl)) rfl rfl ?_
            refine Ch.nil ?_
            refine Exists.intro (k + 1) (And.intro ⟨by omega, upto_succ hp0.2 (by assumption)⟩ (And.intro (by first | omega | (dsimp only; omega)) (Wk.of rfl rfl (And.intro rfl (And.intro rfl (And.intro rfl (And.intro (vI (by first | rfl | omega | (simp; done) | (simp; omega))) trivial)))) (And.intro rfl trivial))))
        · replace h4 := of_decide_eq_false h4
          try have hcl := sg_codes (x := x) (k := k) (by omega) hp0.2
          try have hca := codes_at hcl
          refine T_exit ?_
          refine T_seq ?_
          refine T_seq ?_
          refine T_region hc ?_
          refine Ch.step (v := (.ptr 1000 2)) rfl (.pure (.fldPtr _ _ _ rfl fld52_2 rfl)) rfl rfl ?_
          refine Ch.step (v := (.d (.slice false 4 (x.arcs.map Arc.d)))) rfl (.pure (.loadPtr1 _ _ rfl ag50 rfl rfl rfl)) rfl rfl ?_
          refine Ch.step (v := (.d (.int .i64 ((x.arcs.length : Nat) : Int)))) rfl (.pure (.len _ _ 102 rfl Try.underlying50 (.sh _ _) (by simp))) rfl rfl ?_
          refine Ch.step (v := (.d (.int .i64 0))) rfl (.pure (.move _ rfl rfl)) rfl rfl ?_
          refine Ch.nil ?_
          refine T_block ?_
          refine T_loop (ι := Nat) (fun m => { n := 52, sl := [(1, (.ptr 1000 0)), (39, (.d (.slice false 4 (x.arcs.map Arc.d)))), (40, (.d (.int .i64 ((x.arcs.length : Nat) : Int)))), (41, (.d (.int .i64 ((m : Nat) : Int))))], hp := [(1000, (some (.box [(.d (.slice false 2 (x.sigs.map Sgn.d))), (.d (.slice false 1 (x.codes.map D.str))), (.d (.slice false 4 (x.arcs.map Arc.d)))])))], pin := [] }) (fun m => m ≤ x.arcs.length ∧ ∀ j, j < m → arcB x (x.arcs.getD j default) = true) (fun m => x.arcs.length - m) ⟨0, ⟨by omega, fun j hj => by omega⟩, (Wk.of rfl rfl (And.intro rfl (And.intro rfl (And.intro rfl (And.intro (vI (by first | rfl | omega | (simp; done) | (simp; omega))) trivial)))) (And.intro rfl trivial))⟩ (fun m hp1 => ?_)
          refine T_seq ?_
          refine T_region hc ?_
          refine Ch.step (v := (.d (.bool (decide (((m : Nat) : Int) < ((x.arcs.length : Nat) : Int)))))) rfl (.pure (.int _ _ _ _ _ rfl rfl rfl rfl)) rfl rfl ?_
          refine Ch.nil ?_
          refine T_seq ?_
          refine T_cond (b := (decide (((m : Nat) : Int) < ((x.arcs.length : Nat) : Int)))) rfl (fun h6 => ?_) (fun h6 => ?_)
          · replace h6 := of_decide_eq_true h6
            try have hal := sg_arcs (x := x) (k := m) (by omega) hp1.2
            try have hen := arc_ends hal
            try have hse := steps_ends hen
            try have hsl := stepsOf_len x.arcs
            try have hdl := distF_len (n := x.codes.length) (s := 0) (by omega) hse
            refine T_skip ?_
            refine T_seq ?_
            refine T_block ?_
            refine T_seq ?_
            refine T_region hc ?_
            refine Ch.step (v := (.d (.ref (.agg [(.int .i64 ((x.arcs.getD m default).src)), (.int .i64 ((x.arcs.getD m default).sig)), (.bool ((x.arcs.getD m default).up)), (.int .i64 ((x.arcs.getD m default).dst))])))) rfl (.pure (.idx _ _ _ 102 (m) rfl Try.underlying50 sz102 rfl rfl rfl (get_map _ (by first | omega | (simp only [List.length_map, List.length_append, List.length_take, List.length_drop, List.length_cons, List.length_nil]; omega) | (simp; omega) | (simp; done))))) rfl rfl ?_
            refine Ch.step (v := (.d (.agg [(.int .i64 ((x.arcs.getD m default).src)), (.int .i64 ((x.arcs.getD m default).sig)), (.bool ((x.arcs.getD m default).up)), (.int .i64 ((x.arcs.getD m default).dst))]))) rfl (.pure (.loadRefA _ _ rfl ag102 sz102 rfl)) rfl rfl ?_
            refine Ch.step (v := (.ptr 6000 0)) rfl (.alloc 6000 _ rfl zer102) rfl rfl ?_
            refine Ch.step (v := .junk) rfl (.storePtr _ _ _ rfl rfl rfl (.aggD _) sz102 (Nat.le_of_ble_eq_true rfl)) rfl rfl ?_
            refine Ch.nil ?_
            refine T_seq ?_
            refine T_region hc ?_
            refine Ch.step (v := (.agg [(.d (.slice false 2 (x.sigs.map Sgn.d))), (.d (.slice false 1 (x.codes.map D.str))), (.d (.slice false 4 (x.arcs.map Arc.d)))])) rfl (.pure (.loadPtrA _ _ rfl ag52 sz52 rfl rfl (Nat.le_of_ble_eq_true rfl) rfl)) rfl rfl ?_
            refine Ch.step (v := (.agg [(.d (.int .i64 ((x.arcs.getD m default).src))), (.d (.int .i64 ((x.arcs.getD m default).sig))), (.d (.bool ((x.arcs.getD m default).up))), (.d (.int .i64 ((x.arcs.getD m default).dst)))])) rfl (.pure (.loadPtrA _ _ rfl ag102 sz102 rfl rfl (Nat.le_of_ble_eq_true rfl) rfl)) rfl rfl ?_
            refine Ch.step (v := (.d (.bool (arcB x (x.arcs.getD m default))))) rfl (.call 47000 128 _ _ _ en128 rfl (.inl rfl) (.cons (.lend (.agg (.cons (.d _) (.cons (.d _) (.cons (.d _) .nil))) rfl)) (.cons (.lend (.agg (.cons (.d _) (.cons (.d _) (.cons (.d _) (.cons (.d _) .nil)))) rfl)) .nil)) rfl rfl (sp_spec_l5Arc x (x.arcs.getD m default) (by first | assumption | omega | (rw [List.length_take]; omega) | (have := bulkF_mem hb _ (getD_mem (d := default) (by omega)); assumption) | (unfold bulkS at *; omega) | (simp_all; done)) (by first | assumption | omega | (rw [List.length_take]; omega) | (have := bulkF_mem hb _ (getD_mem (d := default) (by omega)); assumption) | (unfold bulkS at *; omega) | (simp_all; done)) (by assumption)) (.skip _ _ (.skip _ _ .nil)) rfl) rfl rfl ?_
            refine Ch.step (v := (.d (.bool (!(arcB x (x.arcs.getD m default)))))) rfl (.pure (.not _ _ rfl rfl)) rfl rfl ?_
            refine Ch.nil ?_
            refine T_cond (b := (!(arcB x (x.arcs.getD m default)))) rfl (fun h7 => ?_) (fun h7 => ?_)
            · replace h7 := nott h7
              refine T_seq ?_
              refine T_region hc ?_
              refine Ch.step (v := (.d (.bool false))) rfl (.pure (.assign _ rfl rfl)) rfl rfl ?_
              refine Ch.nil ?_
              refine T_ret ?_
              refine And.intro (.inr rfl) ?_
              exact Exists.intro [(.d (.bool false))] (Exists.intro [] (Exists.intro [] (And.intro (.cons (.tmp 2 rfl) .nil) (And.intro (.cons (.any _) .nil) (And.intro (Exp.of (congrArg D.bool (by first | (rw [sgB, h1]; rfl) | (rw [sgB, h1, h2]; rfl) | (rw [sgB, h1, h2, decide_eq_true (by omega)]; rfl) | (exact (sg_no_code (k := k) (by omega) (by assumption)).symm) | (exact (sg_no_arc (k := m) (by omega) (by first | assumption | (unfold arcB codeAt; simp_all; done))).symm) | (rw [← sg_end h1 h2 (by omega) hcl hal]; done) | (exact sg_end h1 h2 (by omega) hcl hal))) (.d _)) (And.intro rfl rfl))))))
            · replace h7 := notf h7
              refine T_skip ?_
              refine T_region hc ?_
              refine Ch.step (v := (.d (.int .i64 (((m : Nat) : Int) + 1)))) rfl (.pure (.int _ _ _ _ _ rfl rfl rfl (intV_add (by first | omega | (simp only [List.length_map, List.length_append, List.length_take, List.length_drop, List.length_cons, List.length_nil]; omega) | (simp; omega) | (simp; done)) (by first | omega | (simp only [List.length_map, List.length_append, List.length_take, List.length_drop, List.length_cons, List.length_nil]; omega) | (simp; omega) | (simp; done))))) rfl rfl ?_
              refine Ch.step (v := (.d (.int .i64 (((m : Nat) : Int) + 1)))) rfl (.pure (.move _ rfl rfl)) rfl rfl ?_
              refine Ch.nil ?_
              refine Exists.intro (m + 1) (And.intro ⟨by omega, upto_succ hp1.2 (by first | assumption | (unfold arcB codeAt; simp_all; done))⟩ (And.intro (by first | omega | (dsimp only; omega)) (Wk.of rfl rfl (And.intro rfl (And.intro rfl (And.intro rfl (And.intro (vI (by first | rfl | omega | (simp; done) | (simp; omega))) trivial)))) (And.intro rfl trivial))))
          · replace h6 := of_decide_eq_false h6
            try have hal := sg_arcs (x := x) (k := m) (by omega) hp1.2
            try have hen := arc_ends hal
            try have hse := steps_ends hen
            try have hsl := stepsOf_len x.arcs
            try have hdl := distF_len (n := x.codes.length) (s := 0) (by omega) hse
            refine T_exit ?_
            refine T_seq ?_
            refine T_region hc ?_
            refine Ch.step (v := (.agg [(.d (.slice false 2 (x.sigs.map Sgn.d))), (.d (.slice false 1 (x.codes.map D.str))), (.d (.slice false 4 (x.arcs.map Arc.d)))])) rfl (.pure (.loadPtrA _ _ rfl ag52 sz52 rfl rfl (Nat.le_of_ble_eq_true rfl) rfl)) rfl rfl ?_
            refine Ch.step (v := (.d (.bool (!hasI (distF x.codes.length (stepsOf x.arcs) 0) (-1))))) rfl (.call 51000 129 _ _ _ en129 rfl (.inl rfl) (.cons (.lend (.agg (.cons (.d _) (.cons (.d _) (.cons (.d _) .nil))) rfl)) .nil) rfl rfl (sp_spec_l5All x (by first | assumption | omega | (rw [List.length_take]; omega) | (have := bulkF_mem hb _ (getD_mem (d := default) (by omega)); assumption) | (unfold bulkS at *; omega) | (simp_all; done)) (by first | assumption | omega | (rw [List.length_take]; omega) | (have := bulkF_mem hb _ (getD_mem (d := default) (by omega)); assumption) | (unfold bulkS at *; omega) | (simp_all; done)) (by assumption)) (.skip _ _ .nil) rfl) rfl rfl ?_
            refine Ch.step (v := (.d (.bool (!hasI (distF x.codes.length (stepsOf x.arcs) 0) (-1))))) rfl (.pure (.assign _ rfl rfl)) rfl rfl ?_
            refine Ch.nil ?_
            refine T_ret ?_
            refine And.intro (.inr rfl) ?_
            exact Exists.intro [(.d (.bool (!hasI (distF x.codes.length (stepsOf x.arcs) 0) (-1))))] (Exists.intro [] (Exists.intro [] (And.intro (.cons (.tmp 2 rfl) .nil) (And.intro (.cons (.any _) .nil) (And.intro (Exp.of (congrArg D.bool (by first | (rw [sgB, h1]; rfl) | (rw [sgB, h1, h2]; rfl) | (rw [sgB, h1, h2, decide_eq_true (by omega)]; rfl) | (exact (sg_no_code (k := k) (by omega) (by assumption)).symm) | (exact (sg_no_arc (k := m) (by omega) (by first | assumption | (unfold arcB codeAt; simp_all; done))).symm) | (rw [← sg_end h1 h2 (by omega) hcl hal]; done) | (exact sg_end h1 h2 (by omega) hcl hal))) (.d _)) (And.intro rfl rfl))))))
    | false =>
      try have hw2 := within_two h2
      refine Ch.skip rfl rfl ?_
      refine Ch.skip rfl rfl ?_
      refine Ch.skip rfl rfl ?_
      refine Ch.skip rfl rfl ?_
      refine Ch.step (v := (.d (.bool true))) rfl (.pure (.pickT _ _ _ rfl rfl rfl)) rfl rfl ?_
      refine Ch.nil ?_
      refine T_cond (b := true) rfl (fun _ => ?_) (fun h => nomatch h)
      refine T_seq ?_
      refine T_region hc ?_
      refine Ch.step (v := (.d (.bool false))) rfl (.pure (.assign _ rfl rfl)) rfl rfl ?_
      refine Ch.nil ?_
      refine T_ret ?_
      refine And.intro (.inr rfl) ?_
      exact Exists.intro [(.d (.bool false))] (Exists.intro [] (Exists.intro [] (And.intro (.cons (.tmp 2 rfl) .nil) (And.intro (.cons (.any _) .nil) (And.intro (Exp.of (congrArg D.bool (by first | (rw [sgB, h1]; rfl) | (rw [sgB, h1, h2]; rfl) | (rw [sgB, h1, h2, decide_eq_true (by omega)]; rfl) | (exact (sg_no_code (k := k) (by omega) (by assumption)).symm) | (exact (sg_no_arc (k := m) (by omega) (by first | assumption | (unfold arcB codeAt; simp_all; done))).symm) | (rw [← sg_end h1 h2 (by omega) hcl hal]; done) | (exact sg_end h1 h2 (by omega) hcl hal))) (.d _)) (And.intro rfl rfl))))))
  | false =>
    try have hs8 := within_two (sigsB_len h1)
    refine Ch.skip rfl rfl ?_
    refine Ch.skip rfl rfl ?_
    refine Ch.skip rfl rfl ?_
    refine Ch.skip rfl rfl ?_
    refine Ch.skip rfl rfl ?_
    refine Ch.step (v := (.d (.bool true))) rfl (.pure (.pickT _ _ _ rfl rfl rfl)) rfl rfl ?_
    refine Ch.step (v := (.d (.bool true))) rfl (.pure (.move _ rfl rfl)) rfl rfl ?_
    refine Ch.skip rfl rfl ?_
    refine Ch.skip rfl rfl ?_
    refine Ch.skip rfl rfl ?_
    refine Ch.skip rfl rfl ?_
    refine Ch.step (v := (.d (.bool true))) rfl (.pure (.pickT _ _ _ rfl rfl rfl)) rfl rfl ?_
    refine Ch.nil ?_
    refine T_cond (b := true) rfl (fun _ => ?_) (fun h => nomatch h)
    refine T_seq ?_
    refine T_region hc ?_
    refine Ch.step (v := (.d (.bool false))) rfl (.pure (.assign _ rfl rfl)) rfl rfl ?_
    refine Ch.nil ?_
    refine T_ret ?_
    refine And.intro (.inr rfl) ?_
    exact Exists.intro [(.d (.bool false))] (Exists.intro [] (Exists.intro [] (And.intro (.cons (.tmp 2 rfl) .nil) (And.intro (.cons (.any _) .nil) (And.intro (Exp.of (congrArg D.bool (by first | (rw [sgB, h1]; rfl) | (rw [sgB, h1, h2]; rfl) | (rw [sgB, h1, h2, decide_eq_true (by omega)]; rfl) | (exact (sg_no_code (k := k) (by omega) (by assumption)).symm) | (exact (sg_no_arc (k := m) (by omega) (by first | assumption | (unfold arcB codeAt; simp_all; done))).symm) | (rw [← sg_end h1 h2 (by omega) hcl hal]; done) | (exact sg_end h1 h2 (by omega) hcl hal))) (.d _)) (And.intro rfl rfl))))))

theorem en63 : Enters Try.prog 63 := ⟨_, Try.func63, by kernel_rfl, rfl⟩

theorem en41 : Enters Try.prog 41 := ⟨_, Try.func41, by kernel_rfl, rfl⟩

theorem en95 : Enters Try.prog 95 := ⟨_, Try.func95, by kernel_rfl, rfl⟩

theorem en80 : Enters Try.prog 80 := ⟨_, Try.func80, by kernel_rfl, rfl⟩

theorem en78 : Enters Try.prog 78 := ⟨_, Try.func78, by kernel_rfl, rfl⟩

theorem ag46 : AggIs Try.prog 46 true := by unfold AggIs; kernel_rfl

theorem sz46 : SizeIs Try.prog 46 3 := by unfold SizeIs; kernel_rfl

theorem en24 : Enters Try.prog 24 := ⟨_, Try.func24, by kernel_rfl, rfl⟩

theorem en26 : Enters Try.prog 26 := ⟨_, Try.func26, by kernel_rfl, rfl⟩

theorem en28 : Enters Try.prog 28 := ⟨_, Try.func28, by kernel_rfl, rfl⟩

theorem sp_laws_markSignalS (xs : List Sgn) (k : Nat) (hn : xs.length ≤ 1048576) (hk : k ≤ 2097152) : Sp Try.prog 63 [(.slice true 2 (xs.map Sgn.d)), (.int .i64 ((k : Nat) : Int))] [.any, .any] (.int .i64 ((k + 2 * xs.length : Nat) : Int)) := by
  refine Sp_intro (lend := false) Try.func63 rfl rfl rfl (fun h => nomatch h) (fun c hc hX => ?_)
  refine T_seq ?_
  refine T_region hc ?_
  refine Ch.step (v := (.d (.int .i64 0))) rfl (.pure (.assign _ rfl rfl)) rfl rfl ?_
  refine Ch.nil ?_
  refine T_seq ?_
  refine T_seq ?_
  refine T_region hc ?_
  refine Ch.step (v := (.d (.int .i64 0))) rfl (.pure (.assign _ rfl rfl)) rfl rfl ?_
  refine Ch.nil ?_
  refine T_block ?_
  refine T_loop (ι := Nat × List Sgn) (fun p => { n := 28, sl := [(0, (.row 1)), (1, (.d (.int .i64 ((k + 2 * p.1 : Nat) : Int)))), (5, (.d (.int .i64 ((p.1 : Nat) : Int))))], hp := [(1, (some (.row 2 (p.2.map Sgn.d))))], pin := [1] }) (fun p => p.1 ≤ xs.length ∧ p.2.length = xs.length) (fun p => xs.length - p.1) ⟨(0, xs), ⟨by dsimp only; omega, rfl⟩, (Wk.of rfl rfl (And.intro rfl (And.intro (vI (by first | rfl | omega | (simp; done) | (simp; omega))) (And.intro (vI (by first | rfl | omega | (simp; done) | (simp; omega))) trivial))) (And.intro (oR (by first | rfl | (rw [List.set_set, List.map_set]; rfl) | (rw [List.set_set, List.set_set, List.map_set]; rfl) | (rw [List.set_set, List.set_set, List.set_set, List.map_set]; rfl))) trivial))⟩ (fun p hp0 => ?_)
  have hql := hp0.2
  refine T_seq ?_
  refine T_seq ?_
  refine T_region hc ?_
  refine Ch.step (v := (.d (.int .i64 ((p.1 : Nat) : Int)))) rfl (.pure (.move _ rfl rfl)) rfl rfl ?_
  refine Ch.step (v := (.row 1)) rfl (.pure (.move _ rfl rfl)) rfl rfl ?_
  refine Ch.step (v := (.d (.int .i64 ((p.2.length : Nat) : Int)))) rfl (.pure (.len _ _ 97 rfl Try.underlying29 (.row rfl) (by simp))) rfl rfl ?_
  refine Ch.step (v := (.d (.bool (decide (((p.1 : Nat) : Int) < ((p.2.length : Nat) : Int)))))) rfl (.pure (.int _ _ _ _ _ rfl rfl rfl rfl)) rfl rfl ?_
  refine Ch.nil ?_
  refine T_cond (b := (decide (((p.1 : Nat) : Int) < ((p.2.length : Nat) : Int)))) rfl (fun h1 => ?_) (fun h1 => ?_)
  · replace h1 := of_decide_eq_true h1
    refine T_skip ?_
    refine T_seq ?_
    refine T_block ?_
    refine T_seq ?_
    refine T_region hc ?_
    refine Ch.step (v := (.row 1)) rfl (.pure (.move _ rfl rfl)) rfl rfl ?_
    refine Ch.step (v := (.d (.int .i64 ((p.1 : Nat) : Int)))) rfl (.pure (.move _ rfl rfl)) rfl rfl ?_
    refine Ch.step (v := (.d (.int .i64 ((k + 2 * p.1 : Nat) : Int)))) rfl (.pure (.move _ rfl rfl)) rfl rfl ?_
    refine Ch.step (v := (.d (.str (mtext (k + 2 * p.1))))) rfl (.call 15000 96 _ _ _ en96 rfl (.inl rfl) (.cons (.d _) .nil) rfl rfl (sp_laws_markText (k + 2 * p.1) (by first | omega | assumption | (exact hx _ (getD_mem (by omega))) | (exact hx _ (by assumption)) | (exact Nat.le_trans (hx _ (by assumption)) (by omega)) | (simp only [List.length_append, List.length_take, List.length_drop, List.length_cons, List.length_nil]; omega) | (simp_all; done))) (.skip _ _ .nil) rfl) rfl rfl ?_
    refine Ch.step (v := (.el 1 2 p.1 0)) rfl (.pure (.idxRow _ _ _ 97 (p.1) rfl Try.underlying29 sz97 rfl rfl rfl rfl (by first | omega | (simp only [List.length_map, List.length_set]; omega) | (simp; omega)))) rfl rfl ?_
    refine Ch.step (v := (.el 1 2 p.1 0)) rfl (.pure (.fldEl _ _ _ rfl fld97_0 rfl)) rfl rfl ?_
    refine Ch.step (v := .junk) rfl (.storeEl (y' := (.agg [(.str (mtext (k + 2 * p.1))), (.int .i64 ((p.2.getD p.1 default).kind))])) _ _ _ rfl rfl rfl (.d _) rfl sz9 rfl (get_map _ (by first | omega | (simp only [List.length_map, List.length_append, List.length_take, List.length_drop, List.length_cons, List.length_nil]; omega) | (simp; omega) | (simp; done))) rfl rfl) rfl rfl ?_
    refine Ch.nil ?_
    refine T_seq ?_
    refine T_region hc ?_
    refine Ch.step (v := (.d (.int .i64 ((k + 2 * p.1 : Nat) : Int)))) rfl (.pure (.move _ rfl rfl)) rfl rfl ?_
    refine Ch.step (v := (.d (.int .i64 (((k + 2 * p.1 : Nat) : Int) + 1)))) rfl (.pure (.int _ _ _ _ _ rfl rfl rfl (intV_add (by first | omega | (simp only [List.length_map, List.length_append, List.length_take, List.length_drop, List.length_cons, List.length_nil]; omega) | (simp; omega) | (simp; done)) (by first | omega | (simp only [List.length_map, List.length_append, List.length_take, List.length_drop, List.length_cons, List.length_nil]; omega) | (simp; omega) | (simp; done))))) rfl rfl ?_
    refine Ch.step (v := (.d (.int .i64 (((k + 2 * p.1 : Nat) : Int) + 1)))) rfl (.pure (.assign _ rfl rfl)) rfl rfl ?_
    refine Ch.nil ?_
    refine T_seq ?_
    refine T_region hc ?_
    refine Ch.step (v := (.row 1)) rfl (.pure (.move _ rfl rfl)) rfl rfl ?_
    refine Ch.step (v := (.d (.int .i64 ((p.1 : Nat) : Int)))) rfl (.pure (.move _ rfl rfl)) rfl rfl ?_
    refine Ch.step (v := (.d (.int .i64 (((k + 2 * p.1 : Nat) : Int) + 1)))) rfl (.pure (.move _ rfl rfl)) rfl rfl ?_
    refine Ch.step (v := (.el 1 2 p.1 0)) rfl (.pure (.idxRow _ _ _ 97 (p.1) rfl Try.underlying29 sz97 rfl rfl rfl rfl (by first | omega | (simp only [List.length_map, List.length_set]; omega) | (simp; omega)))) rfl rfl ?_
    refine Ch.step (v := (.el 1 2 p.1 1)) rfl (.pure (.fldEl _ _ _ rfl fld97_1 rfl)) rfl rfl ?_
    refine Ch.step (v := .junk) rfl (.storeEl (y' := (.agg [(.str (mtext (k + 2 * p.1))), (.int .i64 (((k + 2 * p.1 : Nat) : Int) + 1))])) _ _ _ rfl rfl rfl (.d _) rfl sz3 rfl (get_set (by first | omega | (simp only [List.length_map, List.length_set]; omega) | (simp; omega))) rfl rfl) rfl rfl ?_
    refine Ch.nil ?_
    refine T_region hc ?_
    refine Ch.step (v := (.d (.int .i64 (((k + 2 * p.1 : Nat) : Int) + 1)))) rfl (.pure (.move _ rfl rfl)) rfl rfl ?_
    refine Ch.step (v := (.d (.int .i64 ((((k + 2 * p.1 : Nat) : Int) + 1) + 1)))) rfl (.pure (.int _ _ _ _ _ rfl rfl rfl (intV_add (by first | omega | (simp only [List.length_map, List.length_append, List.length_take, List.length_drop, List.length_cons, List.length_nil]; omega) | (simp; omega) | (simp; done)) (by first | omega | (simp only [List.length_map, List.length_append, List.length_take, List.length_drop, List.length_cons, List.length_nil]; omega) | (simp; omega) | (simp; done))))) rfl rfl ?_
    refine Ch.step (v := (.d (.int .i64 ((((k + 2 * p.1 : Nat) : Int) + 1) + 1)))) rfl (.pure (.assign _ rfl rfl)) rfl rfl ?_
    refine Ch.nil ?_
    refine T_region hc ?_
    refine Ch.step (v := (.d (.int .i64 ((p.1 : Nat) : Int)))) rfl (.pure (.move _ rfl rfl)) rfl rfl ?_
    refine Ch.step (v := (.d (.int .i64 (((p.1 : Nat) : Int) + 1)))) rfl (.pure (.int _ _ _ _ _ rfl rfl rfl (intV_add (by first | omega | (simp only [List.length_map, List.length_append, List.length_take, List.length_drop, List.length_cons, List.length_nil]; omega) | (simp; omega) | (simp; done)) (by first | omega | (simp only [List.length_map, List.length_append, List.length_take, List.length_drop, List.length_cons, List.length_nil]; omega) | (simp; omega) | (simp; done))))) rfl rfl ?_
    refine Ch.step (v := (.d (.int .i64 (((p.1 : Nat) : Int) + 1)))) rfl (.pure (.assign _ rfl rfl)) rfl rfl ?_
    refine Ch.nil ?_
    refine Exists.intro ((p.1 + 1, p.2.set p.1 (Sgn.mk (mtext (k + 2 * p.1)) ((k + 2 * p.1 + 1 : Nat) : Int)))) (And.intro ⟨by dsimp only; omega, by dsimp only; rw [List.length_set]; exact hp0.2⟩ (And.intro (by first | omega | (dsimp only; omega)) (Wk.of rfl rfl (And.intro rfl (And.intro (vI (by first | rfl | omega | (simp; done) | (simp; omega))) (And.intro (vI (by first | rfl | omega | (simp; done) | (simp; omega))) trivial))) (And.intro (oR (by first | rfl | (rw [List.set_set, List.map_set]; rfl) | (rw [List.set_set, List.set_set, List.map_set]; rfl) | (rw [List.set_set, List.set_set, List.set_set, List.map_set]; rfl))) trivial))))
  · replace h1 := of_decide_eq_false h1
    refine T_exit ?_
    refine T_seq ?_
    refine T_region hc ?_
    refine Ch.step (v := (.d (.int .i64 ((k + 2 * p.1 : Nat) : Int)))) rfl (.pure (.move _ rfl rfl)) rfl rfl ?_
    refine Ch.step (v := (.d (.int .i64 ((k + 2 * p.1 : Nat) : Int)))) rfl (.pure (.assign _ rfl rfl)) rfl rfl ?_
    refine Ch.nil ?_
    refine T_ret ?_
    refine And.intro (.inr rfl) ?_
    exact Exists.intro [(.d (.int .i64 ((k + 2 * p.1 : Nat) : Int)))] (Exists.intro [] (Exists.intro [] (And.intro (.cons (.tmp 4 rfl) .nil) (And.intro (.cons (.any _) (.cons (.any _) .nil)) (And.intro (Exp.of (congrArg (D.int .i64) (by omega)) (.d _)) (And.intro rfl rfl))))))

theorem sp_laws_markArcS (xs : List Arc) (k : Nat) (hn : xs.length ≤ 1048576) (hk : k ≤ 4194304) : Sp Try.prog 95 [(.slice true 4 (xs.map Arc.d)), (.int .i64 ((k : Nat) : Int))] [.any, .any] (.int .i64 ((k + 4 * xs.length : Nat) : Int)) := by
  refine Sp_intro (lend := false) Try.func95 rfl rfl rfl (fun h => nomatch h) (fun c hc hX => ?_)
  refine T_seq ?_
  refine T_region hc ?_
  refine Ch.step (v := (.d (.int .i64 0))) rfl (.pure (.assign _ rfl rfl)) rfl rfl ?_
  refine Ch.nil ?_
  refine T_seq ?_
  refine T_seq ?_
  refine T_region hc ?_
  refine Ch.step (v := (.d (.int .i64 0))) rfl (.pure (.assign _ rfl rfl)) rfl rfl ?_
  refine Ch.nil ?_
  refine T_block ?_
  refine T_loop (ι := Nat × List Arc) (fun p => { n := 43, sl := [(0, (.row 1)), (1, (.d (.int .i64 ((k + 4 * p.1 : Nat) : Int)))), (5, (.d (.int .i64 ((p.1 : Nat) : Int))))], hp := [(1, (some (.row 4 (p.2.map Arc.d))))], pin := [1] }) (fun p => p.1 ≤ xs.length ∧ p.2.length = xs.length) (fun p => xs.length - p.1) ⟨(0, xs), ⟨by dsimp only; omega, rfl⟩, (Wk.of rfl rfl (And.intro rfl (And.intro (vI (by first | rfl | omega | (simp; done) | (simp; omega))) (And.intro (vI (by first | rfl | omega | (simp; done) | (simp; omega))) trivial))) (And.intro (oR (by first | rfl | (rw [List.set_set, List.map_set]; rfl) | (rw [List.set_set, List.set_set, List.map_set]; rfl) | (rw [List.set_set, List.set_set, List.set_set, List.map_set]; rfl))) trivial))⟩ (fun p hp0 => ?_)
  have hql := hp0.2
  refine T_seq ?_
  refine T_seq ?_
  refine T_region hc ?_
  refine Ch.step (v := (.d (.int .i64 ((p.1 : Nat) : Int)))) rfl (.pure (.move _ rfl rfl)) rfl rfl ?_
  refine Ch.step (v := (.row 1)) rfl (.pure (.move _ rfl rfl)) rfl rfl ?_
  refine Ch.step (v := (.d (.int .i64 ((p.2.length : Nat) : Int)))) rfl (.pure (.len _ _ 102 rfl Try.underlying50 (.row rfl) (by simp))) rfl rfl ?_
  refine Ch.step (v := (.d (.bool (decide (((p.1 : Nat) : Int) < ((p.2.length : Nat) : Int)))))) rfl (.pure (.int _ _ _ _ _ rfl rfl rfl rfl)) rfl rfl ?_
  refine Ch.nil ?_
  refine T_cond (b := (decide (((p.1 : Nat) : Int) < ((p.2.length : Nat) : Int)))) rfl (fun h1 => ?_) (fun h1 => ?_)
  · replace h1 := of_decide_eq_true h1
    refine T_skip ?_
    refine T_seq ?_
    refine T_block ?_
    refine T_seq ?_
    refine T_region hc ?_
    refine Ch.step (v := (.row 1)) rfl (.pure (.move _ rfl rfl)) rfl rfl ?_
    refine Ch.step (v := (.d (.int .i64 ((p.1 : Nat) : Int)))) rfl (.pure (.move _ rfl rfl)) rfl rfl ?_
    refine Ch.step (v := (.d (.int .i64 ((k + 4 * p.1 : Nat) : Int)))) rfl (.pure (.move _ rfl rfl)) rfl rfl ?_
    refine Ch.step (v := (.el 1 4 p.1 0)) rfl (.pure (.idxRow _ _ _ 102 (p.1) rfl Try.underlying50 sz102 rfl rfl rfl rfl (by first | omega | (simp only [List.length_map, List.length_set]; omega) | (simp; omega)))) rfl rfl ?_
    refine Ch.step (v := (.el 1 4 p.1 0)) rfl (.pure (.fldEl _ _ _ rfl fld102_0 rfl)) rfl rfl ?_
    refine Ch.step (v := .junk) rfl (.storeEl (y' := (.agg [(.int .i64 ((k + 4 * p.1 : Nat) : Int)), (.int .i64 ((p.2.getD p.1 default).sig)), (.bool ((p.2.getD p.1 default).up)), (.int .i64 ((p.2.getD p.1 default).dst))])) _ _ _ rfl rfl rfl (.d _) rfl sz3 rfl (get_map _ (by first | omega | (simp only [List.length_map, List.length_append, List.length_take, List.length_drop, List.length_cons, List.length_nil]; omega) | (simp; omega) | (simp; done))) rfl rfl) rfl rfl ?_
    refine Ch.nil ?_
    refine T_seq ?_
    refine T_region hc ?_
    refine Ch.step (v := (.d (.int .i64 ((k + 4 * p.1 : Nat) : Int)))) rfl (.pure (.move _ rfl rfl)) rfl rfl ?_
    refine Ch.step (v := (.d (.int .i64 (((k + 4 * p.1 : Nat) : Int) + 1)))) rfl (.pure (.int _ _ _ _ _ rfl rfl rfl (intV_add (by first | omega | (simp only [List.length_map, List.length_append, List.length_take, List.length_drop, List.length_cons, List.length_nil]; omega) | (simp; omega) | (simp; done)) (by first | omega | (simp only [List.length_map, List.length_append, List.length_take, List.length_drop, List.length_cons, List.length_nil]; omega) | (simp; omega) | (simp; done))))) rfl rfl ?_
    refine Ch.step (v := (.d (.int .i64 (((k + 4 * p.1 : Nat) : Int) + 1)))) rfl (.pure (.assign _ rfl rfl)) rfl rfl ?_
    refine Ch.nil ?_
    refine T_seq ?_
    refine T_region hc ?_
    refine Ch.step (v := (.row 1)) rfl (.pure (.move _ rfl rfl)) rfl rfl ?_
    refine Ch.step (v := (.d (.int .i64 ((p.1 : Nat) : Int)))) rfl (.pure (.move _ rfl rfl)) rfl rfl ?_
    refine Ch.step (v := (.d (.int .i64 (((k + 4 * p.1 : Nat) : Int) + 1)))) rfl (.pure (.move _ rfl rfl)) rfl rfl ?_
    refine Ch.step (v := (.el 1 4 p.1 0)) rfl (.pure (.idxRow _ _ _ 102 (p.1) rfl Try.underlying50 sz102 rfl rfl rfl rfl (by first | omega | (simp only [List.length_map, List.length_set]; omega) | (simp; omega)))) rfl rfl ?_
    refine Ch.step (v := (.el 1 4 p.1 1)) rfl (.pure (.fldEl _ _ _ rfl fld102_1 rfl)) rfl rfl ?_
    refine Ch.step (v := .junk) rfl (.storeEl (y' := (.agg [(.int .i64 ((k + 4 * p.1 : Nat) : Int)), (.int .i64 (((k + 4 * p.1 : Nat) : Int) + 1)), (.bool ((p.2.getD p.1 default).up)), (.int .i64 ((p.2.getD p.1 default).dst))])) _ _ _ rfl rfl rfl (.d _) rfl sz3 rfl (get_set (by first | omega | (simp only [List.length_map, List.length_set]; omega) | (simp; omega))) rfl rfl) rfl rfl ?_
    refine Ch.nil ?_
    refine T_seq ?_
    refine T_region hc ?_
    refine Ch.step (v := (.d (.int .i64 (((k + 4 * p.1 : Nat) : Int) + 1)))) rfl (.pure (.move _ rfl rfl)) rfl rfl ?_
    refine Ch.step (v := (.d (.int .i64 ((((k + 4 * p.1 : Nat) : Int) + 1) + 1)))) rfl (.pure (.int _ _ _ _ _ rfl rfl rfl (intV_add (by first | omega | (simp only [List.length_map, List.length_append, List.length_take, List.length_drop, List.length_cons, List.length_nil]; omega) | (simp; omega) | (simp; done)) (by first | omega | (simp only [List.length_map, List.length_append, List.length_take, List.length_drop, List.length_cons, List.length_nil]; omega) | (simp; omega) | (simp; done))))) rfl rfl ?_
    refine Ch.step (v := (.d (.int .i64 ((((k + 4 * p.1 : Nat) : Int) + 1) + 1)))) rfl (.pure (.assign _ rfl rfl)) rfl rfl ?_
    refine Ch.nil ?_
    refine T_seq ?_
    refine T_region hc ?_
    refine Ch.step (v := (.row 1)) rfl (.pure (.move _ rfl rfl)) rfl rfl ?_
    refine Ch.step (v := (.d (.int .i64 ((p.1 : Nat) : Int)))) rfl (.pure (.move _ rfl rfl)) rfl rfl ?_
    refine Ch.step (v := (.d (.int .i64 ((((k + 4 * p.1 : Nat) : Int) + 1) + 1)))) rfl (.pure (.move _ rfl rfl)) rfl rfl ?_
    refine Ch.step (v := (.d (.int .i64 ((((k + 4 * p.1 + 1) + 1) % 3 : Nat) : Int)))) rfl (.pure (.int _ _ _ _ _ rfl rfl rfl (remN (n := ((k + 4 * p.1 + 1) + 1)) (d := 3) (by omega) rfl (by decide)))) rfl rfl ?_
    refine Ch.step (v := (.d (.bool (decide (((((k + 4 * p.1 + 1) + 1) % 3 : Nat) : Int) = 0))))) rfl (.pure (.int _ _ _ _ _ rfl rfl rfl rfl)) rfl rfl ?_
    refine Ch.step (v := (.el 1 4 p.1 0)) rfl (.pure (.idxRow _ _ _ 102 (p.1) rfl Try.underlying50 sz102 rfl rfl rfl rfl (by first | omega | (simp only [List.length_map, List.length_set]; omega) | (simp; omega)))) rfl rfl ?_
    refine Ch.step (v := (.el 1 4 p.1 2)) rfl (.pure (.fldEl _ _ _ rfl fld102_2 rfl)) rfl rfl ?_
    refine Ch.step (v := .junk) rfl (.storeEl (y' := (.agg [(.int .i64 ((k + 4 * p.1 : Nat) : Int)), (.int .i64 (((k + 4 * p.1 : Nat) : Int) + 1)), (.bool (decide (((((k + 4 * p.1 + 1) + 1) % 3 : Nat) : Int) = 0))), (.int .i64 ((p.2.getD p.1 default).dst))])) _ _ _ rfl rfl rfl (.d _) rfl sz4 rfl (get_set (by first | omega | (simp only [List.length_map, List.length_set]; omega) | (simp; omega))) rfl rfl) rfl rfl ?_
    refine Ch.nil ?_
    refine T_seq ?_
    refine T_region hc ?_
    refine Ch.step (v := (.d (.int .i64 ((((k + 4 * p.1 : Nat) : Int) + 1) + 1)))) rfl (.pure (.move _ rfl rfl)) rfl rfl ?_
    refine Ch.step (v := (.d (.int .i64 (((((k + 4 * p.1 : Nat) : Int) + 1) + 1) + 1)))) rfl (.pure (.int _ _ _ _ _ rfl rfl rfl (intV_add (by first | omega | (simp only [List.length_map, List.length_append, List.length_take, List.length_drop, List.length_cons, List.length_nil]; omega) | (simp; omega) | (simp; done)) (by first | omega | (simp only [List.length_map, List.length_append, List.length_take, List.length_drop, List.length_cons, List.length_nil]; omega) | (simp; omega) | (simp; done))))) rfl rfl ?_
    refine Ch.step (v := (.d (.int .i64 (((((k + 4 * p.1 : Nat) : Int) + 1) + 1) + 1)))) rfl (.pure (.assign _ rfl rfl)) rfl rfl ?_
    refine Ch.nil ?_
    refine T_seq ?_
    refine T_region hc ?_
    refine Ch.step (v := (.row 1)) rfl (.pure (.move _ rfl rfl)) rfl rfl ?_
    refine Ch.step (v := (.d (.int .i64 ((p.1 : Nat) : Int)))) rfl (.pure (.move _ rfl rfl)) rfl rfl ?_
    refine Ch.step (v := (.d (.int .i64 (((((k + 4 * p.1 : Nat) : Int) + 1) + 1) + 1)))) rfl (.pure (.move _ rfl rfl)) rfl rfl ?_
    refine Ch.step (v := (.el 1 4 p.1 0)) rfl (.pure (.idxRow _ _ _ 102 (p.1) rfl Try.underlying50 sz102 rfl rfl rfl rfl (by first | omega | (simp only [List.length_map, List.length_set]; omega) | (simp; omega)))) rfl rfl ?_
    refine Ch.step (v := (.el 1 4 p.1 3)) rfl (.pure (.fldEl _ _ _ rfl fld102_3 rfl)) rfl rfl ?_
    refine Ch.step (v := .junk) rfl (.storeEl (y' := (.agg [(.int .i64 ((k + 4 * p.1 : Nat) : Int)), (.int .i64 (((k + 4 * p.1 : Nat) : Int) + 1)), (.bool (decide (((((k + 4 * p.1 + 1) + 1) % 3 : Nat) : Int) = 0))), (.int .i64 (((((k + 4 * p.1 : Nat) : Int) + 1) + 1) + 1))])) _ _ _ rfl rfl rfl (.d _) rfl sz3 rfl (get_set (by first | omega | (simp only [List.length_map, List.length_set]; omega) | (simp; omega))) rfl rfl) rfl rfl ?_
    refine Ch.nil ?_
    refine T_region hc ?_
    refine Ch.step (v := (.d (.int .i64 (((((k + 4 * p.1 : Nat) : Int) + 1) + 1) + 1)))) rfl (.pure (.move _ rfl rfl)) rfl rfl ?_
    refine Ch.step (v := (.d (.int .i64 ((((((k + 4 * p.1 : Nat) : Int) + 1) + 1) + 1) + 1)))) rfl (.pure (.int _ _ _ _ _ rfl rfl rfl (intV_add (by first | omega | (simp only [List.length_map, List.length_append, List.length_take, List.length_drop, List.length_cons, List.length_nil]; omega) | (simp; omega) | (simp; done)) (by first | omega | (simp only [List.length_map, List.length_append, List.length_take, List.length_drop, List.length_cons, List.length_nil]; omega) | (simp; omega) | (simp; done))))) rfl rfl ?_
    refine Ch.step (v := (.d (.int .i64 ((((((k + 4 * p.1 : Nat) : Int) + 1) + 1) + 1) + 1)))) rfl (.pure (.assign _ rfl rfl)) rfl rfl ?_
    refine Ch.nil ?_
    refine T_region hc ?_
    refine Ch.step (v := (.d (.int .i64 ((p.1 : Nat) : Int)))) rfl (.pure (.move _ rfl rfl)) rfl rfl ?_
    refine Ch.step (v := (.d (.int .i64 (((p.1 : Nat) : Int) + 1)))) rfl (.pure (.int _ _ _ _ _ rfl rfl rfl (intV_add (by first | omega | (simp only [List.length_map, List.length_append, List.length_take, List.length_drop, List.length_cons, List.length_nil]; omega) | (simp; omega) | (simp; done)) (by first | omega | (simp only [List.length_map, List.length_append, List.length_take, List.length_drop, List.length_cons, List.length_nil]; omega) | (simp; omega) | (simp; done))))) rfl rfl ?_
    refine Ch.step (v := (.d (.int .i64 (((p.1 : Nat) : Int) + 1)))) rfl (.pure (.assign _ rfl rfl)) rfl rfl ?_
    refine Ch.nil ?_
    refine Exists.intro ((p.1 + 1, p.2.set p.1 (Arc.mk ((k + 4 * p.1 : Nat) : Int) ((k + 4 * p.1 + 1 : Nat) : Int) (decide ((((k + 4 * p.1 + 1 + 1) % 3 : Nat) : Int) = 0)) ((k + 4 * p.1 + 1 + 1 + 1 : Nat) : Int)))) (And.intro ⟨by dsimp only; omega, by dsimp only; rw [List.length_set]; exact hp0.2⟩ (And.intro (by first | omega | (dsimp only; omega)) (Wk.of rfl rfl (And.intro rfl (And.intro (vI (by first | rfl | omega | (simp; done) | (simp; omega))) (And.intro (vI (by first | rfl | omega | (simp; done) | (simp; omega))) trivial))) (And.intro (oR (by first | rfl | (rw [List.set_set, List.map_set]; rfl) | (rw [List.set_set, List.set_set, List.map_set]; rfl) | (rw [List.set_set, List.set_set, List.set_set, List.map_set]; rfl))) trivial))))
  · replace h1 := of_decide_eq_false h1
    refine T_exit ?_
    refine T_seq ?_
    refine T_region hc ?_
    refine Ch.step (v := (.d (.int .i64 ((k + 4 * p.1 : Nat) : Int)))) rfl (.pure (.move _ rfl rfl)) rfl rfl ?_
    refine Ch.step (v := (.d (.int .i64 ((k + 4 * p.1 : Nat) : Int)))) rfl (.pure (.assign _ rfl rfl)) rfl rfl ?_
    refine Ch.nil ?_
    refine T_ret ?_
    refine And.intro (.inr rfl) ?_
    exact Exists.intro [(.d (.int .i64 ((k + 4 * p.1 : Nat) : Int)))] (Exists.intro [] (Exists.intro [] (And.intro (.cons (.tmp 4 rfl) .nil) (And.intro (.cons (.any _) (.cons (.any _) .nil)) (And.intro (Exp.of (congrArg (D.int .i64) (by omega)) (.d _)) (And.intro rfl rfl))))))

theorem sp_laws_markStateGraph (x : Sgr) (k : Nat) (hb : x.bulk ≤ 1048576) (hk : k ≤ 1) : Sp Try.prog 40 [(.agg [(.slice true 2 (x.sigs.map Sgn.d)), (.slice true 1 (x.codes.map D.str)), (.slice true 4 (x.arcs.map Arc.d))]), (.int .i64 ((k : Nat) : Int))] [.any, .any] (.int .i64 ((k + 2 * x.sigs.length + x.codes.length + 4 * x.arcs.length : Nat) : Int)) := by
  refine Sp_intro (lend := false) Try.func40 rfl rfl rfl (fun h => nomatch h) (fun c hc hX => ?_)
  obtain ⟨hp0, hp1, hp2⟩ := Sgr.parts hb
  have hn0 := bulkF_len hp0
  have hn1 := bulk_len hp1
  have hx1 := bulk_mem hp1
  have hn2 := bulkF_len hp2
  refine T_seq ?_
  refine T_region hc ?_
  refine Ch.step (v := (.ptr 2000 0)) rfl (.box 2000 _ _ rfl (.agg _ rfl)) rfl rfl ?_
  refine Ch.step (v := (.d (.int .i64 0))) rfl (.pure (.assign _ rfl rfl)) rfl rfl ?_
  refine Ch.nil ?_
  refine T_seq ?_
  refine T_region hc ?_
  refine Ch.step (v := (.ptr 2000 0)) rfl (.pure (.fldPtr _ _ _ rfl fld52_0 rfl)) rfl rfl ?_
  refine Ch.step (v := (.row 1)) rfl (.pure (.loadPtr1 _ _ rfl ag29 rfl rfl rfl)) rfl rfl ?_
  refine Ch.step (v := (.d (.int .i64 ((k : Nat) : Int)))) rfl (.pure (.move _ rfl rfl)) rfl rfl ?_
  refine Ch.step (v := (.d (.int .i64 ((k + 2 * x.sigs.length : Nat) : Int)))) rfl (.call 8000 63 _ _ _ en63 rfl (.inl rfl) (.cons (.row rfl) (.cons (.d _) .nil)) rfl rfl (sp_laws_markSignalS x.sigs k (by first | assumption | omega | (rw [List.length_take]; omega) | (have := bulkF_mem hb _ (getD_mem (d := default) (by omega)); assumption) | (unfold bulkS at *; omega) | (simp_all; done)) (by first | assumption | omega | (rw [List.length_take]; omega) | (have := bulkF_mem hb _ (getD_mem (d := default) (by omega)); assumption) | (unfold bulkS at *; omega) | (simp_all; done))) (.skip _ _ (.skip _ _ .nil)) rfl) rfl rfl ?_
  refine Ch.step (v := (.d (.int .i64 ((k + 2 * x.sigs.length : Nat) : Int)))) rfl (.pure (.assign _ rfl rfl)) rfl rfl ?_
  refine Ch.nil ?_
  refine T_seq ?_
  refine T_region hc ?_
  refine Ch.step (v := (.ptr 2000 1)) rfl (.pure (.fldPtr _ _ _ rfl fld52_1 rfl)) rfl rfl ?_
  refine Ch.step (v := (.row 2)) rfl (.pure (.loadPtr1 _ _ rfl ag43 rfl rfl rfl)) rfl rfl ?_
  refine Ch.step (v := (.d (.int .i64 ((k + 2 * x.sigs.length : Nat) : Int)))) rfl (.pure (.move _ rfl rfl)) rfl rfl ?_
  refine Ch.step (v := (.d (.int .i64 (((k + 2 * x.sigs.length) + x.codes.length : Nat) : Int)))) rfl (.call 12000 41 _ _ _ en41 rfl (.inl rfl) (.cons (.row rfl) (.cons (.d _) .nil)) rfl (sol rfl (solids_c (solid_row (fun _ => rfl) _) rfl)) (sp_laws_markStringS x.codes (k + 2 * x.sigs.length) (by first | omega | assumption | (exact hx _ (getD_mem (by omega))) | (exact hx _ (by assumption)) | (exact Nat.le_trans (hx _ (by assumption)) (by omega)) | (simp only [List.length_append, List.length_take, List.length_drop, List.length_cons, List.length_nil]; omega) | (simp_all; done)) (by first | omega | assumption | (exact hx _ (getD_mem (by omega))) | (exact hx _ (by assumption)) | (exact Nat.le_trans (hx _ (by assumption)) (by omega)) | (simp only [List.length_append, List.length_take, List.length_drop, List.length_cons, List.length_nil]; omega) | (simp_all; done))) (.row _ _ _ (.skip _ _ .nil)) rfl) rfl rfl ?_
  refine Ch.step (v := (.d (.int .i64 (((k + 2 * x.sigs.length) + x.codes.length : Nat) : Int)))) rfl (.pure (.assign _ rfl rfl)) rfl rfl ?_
  refine Ch.nil ?_
  refine T_seq ?_
  refine T_region hc ?_
  refine Ch.step (v := (.ptr 2000 2)) rfl (.pure (.fldPtr _ _ _ rfl fld52_2 rfl)) rfl rfl ?_
  refine Ch.step (v := (.row 3)) rfl (.pure (.loadPtr1 _ _ rfl ag50 rfl rfl rfl)) rfl rfl ?_
  refine Ch.step (v := (.d (.int .i64 (((k + 2 * x.sigs.length) + x.codes.length : Nat) : Int)))) rfl (.pure (.move _ rfl rfl)) rfl rfl ?_
  refine Ch.step (v := (.d (.int .i64 ((((k + 2 * x.sigs.length) + x.codes.length) + 4 * x.arcs.length : Nat) : Int)))) rfl (.call 16000 95 _ _ _ en95 rfl (.inl rfl) (.cons (.row rfl) (.cons (.d _) .nil)) rfl rfl (sp_laws_markArcS x.arcs ((k + 2 * x.sigs.length) + x.codes.length) (by first | assumption | omega | (rw [List.length_take]; omega) | (have := bulkF_mem hb _ (getD_mem (d := default) (by omega)); assumption) | (unfold bulkS at *; omega) | (simp_all; done)) (by first | assumption | omega | (rw [List.length_take]; omega) | (have := bulkF_mem hb _ (getD_mem (d := default) (by omega)); assumption) | (unfold bulkS at *; omega) | (simp_all; done))) (.skip _ _ (.skip _ _ .nil)) rfl) rfl rfl ?_
  refine Ch.step (v := (.d (.int .i64 ((((k + 2 * x.sigs.length) + x.codes.length) + 4 * x.arcs.length : Nat) : Int)))) rfl (.pure (.assign _ rfl rfl)) rfl rfl ?_
  refine Ch.nil ?_
  refine T_seq ?_
  refine T_region hc ?_
  refine Ch.step (v := (.d (.int .i64 ((((k + 2 * x.sigs.length) + x.codes.length) + 4 * x.arcs.length : Nat) : Int)))) rfl (.pure (.move _ rfl rfl)) rfl rfl ?_
  refine Ch.step (v := (.d (.int .i64 ((((k + 2 * x.sigs.length) + x.codes.length) + 4 * x.arcs.length : Nat) : Int)))) rfl (.pure (.assign _ rfl rfl)) rfl rfl ?_
  refine Ch.nil ?_
  refine T_ret ?_
  refine And.intro (.inr rfl) ?_
  exact Exists.intro [(.d (.int .i64 ((((k + 2 * x.sigs.length) + x.codes.length) + 4 * x.arcs.length : Nat) : Int)))] (Exists.intro [] (Exists.intro [] (And.intro (.cons (.tmp 4 rfl) .nil) (And.intro (.cons (.any _) (.cons (.any _) .nil)) (And.intro (Exp.of (congrArg (D.int .i64) (by omega)) (.d _)) (And.intro rfl rfl))))))

structure SgOk (x : Sgr) : Prop where
  sigs : sigsB x.sigs = true
  eight : 1 ≤ x.sigs.length ∧ x.sigs.length ≤ 8
  len : 1 ≤ x.codes.length ∧ x.codes.length ≤ 300
  few : x.arcs.length ≤ 4000
  codes : allOf x.codes (fun u => codeN u (x.sigs.length : Int)) = true
  arcs : allOf x.arcs (arcB x) = true
  ends : ends x.codes.length x.arcs

theorem sg_has {x : Sgr} (h : sgB x = true) : SgOk x := by
  unfold sgB at h
  simp only [Bool.and_eq_true] at h
  obtain ⟨h1, h2, h3, h4, h5, _⟩ := h
  have h6 := within_iff h2
  have h7 := within_iff (sigsB_len h1)
  have h8 : ¬ (4000 : Int) < (x.arcs.length : Int) := by simpa using h3
  exact ⟨h1, by omega, by omega, by omega, h4, h5, arc_ends h5⟩

theorem SgOk.sig {x : Sgr} (h : SgOk x) : ∀ a ∈ x.arcs, a.sig < (x.sigs.length : Int) ∧ (0 ≤ a.sig ∨ a.sig = -1) := by
  intro a ha
  obtain ⟨j, hj, rfl⟩ := List.mem_iff_getElem.1 ha
  have := allB_true.1 h.arcs j hj
  rw [show x.arcs.getD j default = x.arcs[j] by simp [hj]] at this
  unfold arcB at this
  simp only [Bool.and_eq_true] at this
  have h2 := this.2.2.1
  unfold edgeB at h2
  simp only [Bool.or_eq_true, Bool.and_eq_true, decide_eq_true_iff] at h2
  have h8 := h.eight
  rcases h2 with h2 | h2
  · have := within_iff h2
    omega
  · have := h2.1
    omega

theorem en40 : Enters Try.prog 40 := ⟨_, Try.func40, by kernel_rfl, rfl⟩

def two (m s : Nat) : Nat := m >>> s &&& 3

theorem en94 : Enters Try.prog 94 := ⟨_, Try.func94, by kernel_rfl, rfl⟩

theorem en92 : Enters Try.prog 92 := ⟨_, Try.func92, by kernel_rfl, rfl⟩

theorem en93 : Enters Try.prog 93 := ⟨_, Try.func93, by kernel_rfl, rfl⟩

theorem en91 : Enters Try.prog 91 := ⟨_, Try.func91, by kernel_rfl, rfl⟩

theorem en89 : Enters Try.prog 89 := ⟨_, Try.func89, by kernel_rfl, rfl⟩

theorem en90 : Enters Try.prog 90 := ⟨_, Try.func90, by kernel_rfl, rfl⟩

theorem en37 : Enters Try.prog 37 := ⟨_, Try.func37, by kernel_rfl, rfl⟩

theorem en38 : Enters Try.prog 38 := ⟨_, Try.func38, by kernel_rfl, rfl⟩

theorem en42 : Enters Try.prog 42 := ⟨_, Try.func42, by kernel_rfl, rfl⟩

def unrL (x : Sgr) : List (List UInt8) := (codes x.sigs.length).filter fun u => !hasS x.codes u

def unrK (x : Sgr) (k : Nat) : List (List UInt8) := ((codes x.sigs.length).take k).filter fun u => !hasS x.codes u

def unrV (x : Sgr) : List (List UInt8) := if sgB x then unrL x else []

theorem unrK_yes {x : Sgr} {k : Nat} (hk : k < (codes x.sigs.length).length) (h : hasS x.codes ((codes x.sigs.length).getD k default) = false) : unrK x k ++ [(codes x.sigs.length).getD k default] = unrK x (k + 1) := by
  have hg : (codes x.sigs.length).getD k default = (codes x.sigs.length)[k] := by simp [hk]
  rw [hg] at h ⊢
  rw [unrK, unrK, List.take_succ_eq_append_getElem hk, List.filter_append]; simp [h]

theorem unrK_no {x : Sgr} {k : Nat} (hk : k < (codes x.sigs.length).length) (h : hasS x.codes ((codes x.sigs.length).getD k default) = true) : unrK x k = unrK x (k + 1) := by
  have hg : (codes x.sigs.length).getD k default = (codes x.sigs.length)[k] := by simp [hk]
  rw [hg] at h
  rw [unrK, unrK, List.take_succ_eq_append_getElem hk, List.filter_append]; simp [h]

theorem unrK_all {x : Sgr} {k : Nat} (h : (codes x.sigs.length).length ≤ k) : unrK x k = unrL x := by rw [unrK, List.take_of_length_le h]; rfl

theorem unrK_le (x : Sgr) (k : Nat) : (unrK x k).length ≤ k := by
  have h1 := List.length_filter_le (fun u => !hasS x.codes u) ((codes x.sigs.length).take k)
  rw [List.length_take] at h1
  unfold unrK; omega

theorem unrL_le {x : Sgr} (h : x.sigs.length ≤ 8) : (unrL x).length ≤ 256 := by
  have h1 := List.length_filter_le (fun u => !hasS x.codes u) (codes x.sigs.length)
  rw [codes_length] at h1
  have h2 : 2 ^ x.sigs.length ≤ 2 ^ 8 := Nat.pow_le_pow_right (by omega) h
  unfold unrL; omega

theorem unrV_le (x : Sgr) : (unrV x).length ≤ 256 := by
  unfold unrV; split
  · rename_i h; exact unrL_le (sg_has h).eight.2
  · exact Nat.zero_le _

theorem sp_impl_UnreachableCodes_1 (u : List UInt8) (x : Sgr) (hn : x.codes.length ≤ 1048576) (hx : ∀ c ∈ x.codes, c.length ≤ 1048576) : Sp Try.prog 93 [(.str u), (.ref (.agg [(.slice false 2 (x.sigs.map Sgn.d)), (.slice false 1 (x.codes.map D.str)), (.slice false 4 (x.arcs.map Arc.d))]))] [.any, .any] (.bool (hasS x.codes u)) := by
  refine Sp_intro (lend := true) Try.func93 rfl rfl rfl (fun _ => rfl) (fun c hc hX => ?_)
  refine T_seq ?_
  refine T_region hc ?_
  refine Ch.step (v := (.d (.bool false))) rfl (.pure (.assign _ rfl rfl)) rfl rfl ?_
  refine Ch.nil ?_
  refine T_seq ?_
  refine T_region hc ?_
  refine Ch.step (v := (.d (.ref (.slice false 1 (x.codes.map D.str))))) rfl (.pure (.fldRef _ _ _ rfl fld52_1 rfl rfl rfl)) rfl rfl ?_
  refine Ch.step (v := (.d (.slice false 1 (x.codes.map D.str)))) rfl (.pure (.loadRef1 _ _ rfl ag43 rfl rfl)) rfl rfl ?_
  refine Ch.step (v := (.d (.str u))) rfl (.pure (.move _ rfl rfl)) rfl rfl ?_
  refine Ch.step (v := (.d (.bool (hasS x.codes u)))) rfl (.call 7000 94 _ _ _ en94 rfl (.inl rfl) (.cons (.d _) (.cons (.d _) .nil)) rfl rfl (sp_Contains_str x.codes u (by first | omega | assumption | (exact hx _ (getD_mem (by omega))) | (exact hx _ (by assumption)) | (exact Nat.le_trans (hx _ (by assumption)) (by omega)) | (simp only [List.length_append, List.length_take, List.length_drop, List.length_cons, List.length_nil]; omega) | (simp_all; done))) (.skip _ _ (.skip _ _ .nil)) rfl) rfl rfl ?_
  refine Ch.step (v := (.d (.bool (hasS x.codes u)))) rfl (.pure (.assign _ rfl rfl)) rfl rfl ?_
  refine Ch.nil ?_
  refine T_ret ?_
  refine And.intro (.inr rfl) ?_
  exact Exists.intro [(.d (.bool (hasS x.codes u)))] (Exists.intro [] (Exists.intro [] (And.intro (.cons (.tmp 3 rfl) .nil) (And.intro (.cons (.any _) (.cons (.any _) .nil)) (And.intro (.d _) (And.intro rfl rfl))))))

theorem sp_impl_UnreachableCodes (x : Sgr) (hb : x.bulk ≤ 1048576) : Sp Try.prog 38 [(.agg [(.slice false 2 (x.sigs.map Sgn.d)), (.slice false 1 (x.codes.map D.str)), (.slice false 4 (x.arcs.map Arc.d))])] [.any] (.tup [(.slice true 1 ((unrV x).map D.str)), (.bool (sgB x))]) := by
  refine Sp_intro (lend := true) Try.func38 rfl rfl rfl (fun _ => rfl) (fun c hc hX => ?_)
  obtain ⟨hp0, hp1, hp2⟩ := Sgr.parts hb
  have hn0 := bulkF_len hp0
  have hn1 := bulk_len hp1
  have hx1 := bulk_mem hp1
  have hn2 := bulkF_len hp2
  refine T_seq ?_
  refine T_region hc ?_
  refine Ch.step (v := (.ptr 1000 0)) rfl (.box 1000 _ _ rfl (.aggD _)) rfl rfl ?_
  refine Ch.step (v := (.c (.slice none 0 0))) rfl (.pure (.assign _ rfl rfl)) rfl rfl ?_
  refine Ch.step (v := (.d (.bool false))) rfl (.pure (.assign _ rfl rfl)) rfl rfl ?_
  refine Ch.nil ?_
  refine T_seq ?_
  refine T_seq ?_
  refine T_region hc ?_
  refine Ch.step (v := (.agg [(.d (.slice false 2 (x.sigs.map Sgn.d))), (.d (.slice false 1 (x.codes.map D.str))), (.d (.slice false 4 (x.arcs.map Arc.d)))])) rfl (.pure (.loadPtrA _ _ rfl ag52 sz52 rfl rfl (Nat.le_of_ble_eq_true rfl) rfl)) rfl rfl ?_
  refine Ch.step (v := (.d (.bool (sgB x)))) rfl (.call 5000 80 _ _ _ en80 rfl (.inl rfl) (.cons (.lend (.agg (.cons (.d _) (.cons (.d _) (.cons (.d _) .nil))) rfl)) .nil) rfl rfl (sp_impl_IsValidStateGraph x (by first | assumption | omega | (rw [List.length_take]; omega) | (have := bulkF_mem hb _ (getD_mem (d := default) (by omega)); assumption) | (unfold bulkS at *; omega) | (simp_all; done))) (.skip _ _ .nil) rfl) rfl rfl ?_
  refine Ch.step (v := (.d (.bool (!(sgB x))))) rfl (.pure (.not _ _ rfl rfl)) rfl rfl ?_
  refine Ch.nil ?_
  refine T_cond (b := (!(sgB x))) rfl (fun h1 => ?_) (fun h1 => ?_)
  · replace h1 := nott h1
    try have hx := sg_has h1
    try have hx8 := hx.eight
    try have hxf := hx.few
    try have hxl := hx.len
    try have hcl := codes_length x.sigs.length
    try have hp28 : 2 ^ x.sigs.length ≤ 2 ^ 8 := Nat.pow_le_pow_right (by omega) hx8.2
    refine T_seq ?_
    refine T_region hc ?_
    refine Ch.step (v := (.c (.slice none 0 0))) rfl (.pure (.assign _ rfl rfl)) rfl rfl ?_
    refine Ch.step (v := (.d (.bool false))) rfl (.pure (.assign _ rfl rfl)) rfl rfl ?_
    refine Ch.nil ?_
    refine T_ret ?_
    refine And.intro (.inr rfl) ?_
    exact Exists.intro [(.c (.slice none 0 0)), (.d (.bool false))] (Exists.intro [] (Exists.intro [] (And.intro (.cons (.tmp 2 rfl) (.cons (.tmp 3 rfl) .nil)) (And.intro (.cons (.any _) .nil) (And.intro (.tup (.cons (Exp.of (congrArg (D.slice true 1) (by first | (rw [unrV, h1]; rfl) | (rw [h1]; done))) (.nil true 1)) (.cons (Exp.of (congrArg D.bool (by first | (rw [unrV, h1]; rfl) | (rw [h1]; done))) (.d _)) .nil))) (And.intro rfl rfl))))))
  · replace h1 := notf h1
    try have hx := sg_has h1
    try have hx8 := hx.eight
    try have hxf := hx.few
    try have hxl := hx.len
    try have hcl := codes_length x.sigs.length
    try have hp28 : 2 ^ x.sigs.length ≤ 2 ^ 8 := Nat.pow_le_pow_right (by omega) hx8.2
    refine T_skip ?_
    refine T_seq ?_
    refine T_region hc ?_
    refine Ch.step (v := (.ptr 1000 0)) rfl (.pure (.fldPtr _ _ _ rfl fld52_0 rfl)) rfl rfl ?_
    refine Ch.step (v := (.d (.slice false 2 (x.sigs.map Sgn.d)))) rfl (.pure (.loadPtr1 _ _ rfl ag29 rfl rfl rfl)) rfl rfl ?_
    refine Ch.step (v := (.d (.int .i64 ((x.sigs.length : Nat) : Int)))) rfl (.pure (.len _ _ 97 rfl Try.underlying29 (.sh _ _) (by simp))) rfl rfl ?_
    refine Ch.step (v := (.row 10000)) rfl (.call 10000 92 _ _ _ en92 rfl (.inl rfl) (.cons (.d _) .nil) rfl (sol (solid_row (fun _ => rfl) _) rfl) (sp_impl_allCodes ((x.sigs.length : Nat) : Int) (by first | omega | assumption | (exact hx _ (getD_mem (by omega))) | (exact hx _ (by assumption)) | (exact Nat.le_trans (hx _ (by assumption)) (by omega)) | (simp only [List.length_append, List.length_take, List.length_drop, List.length_cons, List.length_nil]; omega) | (simp_all; done)) (by first | omega | assumption | (exact hx _ (getD_mem (by omega))) | (exact hx _ (by assumption)) | (exact Nat.le_trans (hx _ (by assumption)) (by omega)) | (simp only [List.length_append, List.length_take, List.length_drop, List.length_cons, List.length_nil]; omega) | (simp_all; done))) (.skip _ _ .nil) rfl) rfl rfl ?_
    refine Ch.step (v := (.fn 93 [(.ptr 1000 0)])) rfl (.pure (.func _ _ rfl rfl)) rfl rfl ?_
    refine Ch.step (v := (.row 12000)) rfl (.call 12000 91 _ _ _ en91 rfl (.inl rfl) (.cons (.row rfl) (.cons (.lend (.fn (.cons (.ptr rfl (.agg (.cons (.d _) (.cons (.d _) (.cons (.d _) .nil))) rfl)) .nil))) .nil)) rfl (sol (solid_row (fun _ => rfl) _) rfl) (sp_DeleteFunc_str (codes x.sigs.length) 93 [(.ref (.agg [(.slice false 2 (x.sigs.map Sgn.d)), (.slice false 1 (x.codes.map D.str)), (.slice false 4 (x.arcs.map Arc.d))]))] (hasS x.codes) en93 (fun u _ => sp_impl_UnreachableCodes_1 u x hn1 hx1) (by first | omega | assumption | (exact hx _ (getD_mem (by omega))) | (exact hx _ (by assumption)) | (exact Nat.le_trans (hx _ (by assumption)) (by omega)) | (simp only [List.length_append, List.length_take, List.length_drop, List.length_cons, List.length_nil]; omega) | (simp_all; done))) (.skip _ _ (.skip _ _ .nil)) rfl) rfl rfl ?_
    refine Ch.step (v := (.row 12000)) rfl (.pure (.assign _ rfl rfl)) rfl rfl ?_
    refine Ch.step (v := (.d (.bool true))) rfl (.pure (.assign _ rfl rfl)) rfl rfl ?_
    refine Ch.nil ?_
    refine T_ret ?_
    refine And.intro (.inr rfl) ?_
    exact Exists.intro [(.row 12000), (.d (.bool true))] (Exists.intro [] (Exists.intro [12000] (And.intro (.cons (.tmp 2 rfl) (.cons (.tmp 3 rfl) .nil)) (And.intro (.cons (.any _) .nil) (And.intro (.tup (.cons (Exp.of (congrArg (D.slice true 1) (by first | (rw [unrV, h1]; rfl) | (rw [h1]; done))) (.row rfl)) (.cons (Exp.of (congrArg D.bool (by first | (rw [unrV, h1]; rfl) | (rw [h1]; done))) (.d _)) .nil))) (And.intro rfl rfl))))))

theorem sp_spec_UnreachableCodes (x : Sgr) (hb : x.bulk ≤ 1048576) : Sp Try.prog 37 [(.agg [(.slice false 2 (x.sigs.map Sgn.d)), (.slice false 1 (x.codes.map D.str)), (.slice false 4 (x.arcs.map Arc.d))])] [.any] (.tup [(.slice true 1 ((unrV x).map D.str)), (.bool (sgB x))]) := by
  refine Sp_intro (lend := true) Try.func37 rfl rfl rfl (fun _ => rfl) (fun c hc hX => ?_)
  obtain ⟨hp0, hp1, hp2⟩ := Sgr.parts hb
  have hn0 := bulkF_len hp0
  have hn1 := bulk_len hp1
  have hx1 := bulk_mem hp1
  have hn2 := bulkF_len hp2
  refine T_seq ?_
  refine T_region hc ?_
  refine Ch.step (v := (.ptr 1000 0)) rfl (.box 1000 _ _ rfl (.aggD _)) rfl rfl ?_
  refine Ch.step (v := (.c (.slice none 0 0))) rfl (.pure (.assign _ rfl rfl)) rfl rfl ?_
  refine Ch.step (v := (.d (.bool false))) rfl (.pure (.assign _ rfl rfl)) rfl rfl ?_
  refine Ch.nil ?_
  refine T_seq ?_
  refine T_seq ?_
  refine T_region hc ?_
  refine Ch.step (v := (.agg [(.d (.slice false 2 (x.sigs.map Sgn.d))), (.d (.slice false 1 (x.codes.map D.str))), (.d (.slice false 4 (x.arcs.map Arc.d)))])) rfl (.pure (.loadPtrA _ _ rfl ag52 sz52 rfl rfl (Nat.le_of_ble_eq_true rfl) rfl)) rfl rfl ?_
  refine Ch.step (v := (.d (.bool (sgB x)))) rfl (.call 8000 78 _ _ _ en78 rfl (.inl rfl) (.cons (.lend (.agg (.cons (.d _) (.cons (.d _) (.cons (.d _) .nil))) rfl)) .nil) rfl rfl (sp_spec_l5Good x (by first | assumption | omega | (rw [List.length_take]; omega) | (have := bulkF_mem hb _ (getD_mem (d := default) (by omega)); assumption) | (unfold bulkS at *; omega) | (simp_all; done))) (.skip _ _ .nil) rfl) rfl rfl ?_
  refine Ch.step (v := (.d (.bool (!(sgB x))))) rfl (.pure (.not _ _ rfl rfl)) rfl rfl ?_
  refine Ch.nil ?_
  refine T_cond (b := (!(sgB x))) rfl (fun h1 => ?_) (fun h1 => ?_)
  · replace h1 := nott h1
    try have hx := sg_has h1
    try have hx8 := hx.eight
    try have hxf := hx.few
    try have hxl := hx.len
    try have hcl := codes_length x.sigs.length
    try have hp28 : 2 ^ x.sigs.length ≤ 2 ^ 8 := Nat.pow_le_pow_right (by omega) hx8.2
    refine T_seq ?_
    refine T_region hc ?_
    refine Ch.step (v := (.c (.slice none 0 0))) rfl (.pure (.assign _ rfl rfl)) rfl rfl ?_
    refine Ch.step (v := (.d (.bool false))) rfl (.pure (.assign _ rfl rfl)) rfl rfl ?_
    refine Ch.nil ?_
    refine T_ret ?_
    refine And.intro (.inr rfl) ?_
    exact Exists.intro [(.c (.slice none 0 0)), (.d (.bool false))] (Exists.intro [] (Exists.intro [] (And.intro (.cons (.tmp 2 rfl) (.cons (.tmp 3 rfl) .nil)) (And.intro (.cons (.any _) .nil) (And.intro (.tup (.cons (Exp.of (congrArg (D.slice true 1) (by first | (rw [unrV, h1, if_pos rfl, ← unrK_all (k := k) (by omega)]; done) | (rw [unrV, h1]; rfl) | (rw [h1]; done))) (.nil true 1)) (.cons (Exp.of (congrArg D.bool (by first | (rw [unrV, h1, if_pos rfl, ← unrK_all (k := k) (by omega)]; done) | (rw [unrV, h1]; rfl) | (rw [h1]; done))) (.d _)) .nil))) (And.intro rfl rfl))))))
  · replace h1 := notf h1
    try have hx := sg_has h1
    try have hx8 := hx.eight
    try have hxf := hx.few
    try have hxl := hx.len
    try have hcl := codes_length x.sigs.length
    try have hp28 : 2 ^ x.sigs.length ≤ 2 ^ 8 := Nat.pow_le_pow_right (by omega) hx8.2
    refine T_skip ?_
    refine T_seq ?_
    refine T_region hc ?_
    refine Ch.step (v := (.c (.slice none 0 0))) rfl (.pure (.assign _ rfl rfl)) rfl rfl ?_
    refine Ch.nil ?_
    refine T_seq ?_
    refine T_seq ?_
    refine T_region hc ?_
    refine Ch.step (v := (.ptr 1000 0)) rfl (.pure (.fldPtr _ _ _ rfl fld52_0 rfl)) rfl rfl ?_
    refine Ch.step (v := (.d (.slice false 2 (x.sigs.map Sgn.d)))) rfl (.pure (.loadPtr1 _ _ rfl ag29 rfl rfl rfl)) rfl rfl ?_
    refine Ch.step (v := (.d (.int .i64 ((x.sigs.length : Nat) : Int)))) rfl (.pure (.len _ _ 97 rfl Try.underlying29 (.sh _ _) (by simp))) rfl rfl ?_
    refine Ch.step (v := (.row 13000)) rfl (.call 13000 89 _ _ _ en89 rfl (.inl rfl) (.cons (.d _) .nil) rfl (sol (solid_row (fun _ => rfl) _) rfl) (sp_spec_l13Codes ((x.sigs.length : Nat) : Int) (by first | omega | assumption | (exact hx _ (getD_mem (by omega))) | (exact hx _ (by assumption)) | (exact Nat.le_trans (hx _ (by assumption)) (by omega)) | (simp only [List.length_append, List.length_take, List.length_drop, List.length_cons, List.length_nil]; omega) | (simp_all; done)) (by first | omega | assumption | (exact hx _ (getD_mem (by omega))) | (exact hx _ (by assumption)) | (exact Nat.le_trans (hx _ (by assumption)) (by omega)) | (simp only [List.length_append, List.length_take, List.length_drop, List.length_cons, List.length_nil]; omega) | (simp_all; done))) (.skip _ _ .nil) rfl) rfl rfl ?_
    refine Ch.step (v := (.d (.int .i64 (((codes x.sigs.length).length : Nat) : Int)))) rfl (.pure (.len _ _ 9 rfl Try.underlying43 (.row rfl) (by simp))) rfl rfl ?_
    refine Ch.step (v := (.d (.int .i64 0))) rfl (.pure (.move _ rfl rfl)) rfl rfl ?_
    refine Ch.nil ?_
    refine T_block ?_
    refine T_loop (ι := Nat) (fun k => { n := 30, sl := [(1, (.ptr 1000 0)), (4, (.row 4)), (13, (.row 13000)), (14, (.d (.int .i64 (((codes x.sigs.length).length : Nat) : Int)))), (15, (.d (.int .i64 ((k : Nat) : Int))))], hp := [(4, (some (.row 1 ((unrK x k).map D.str)))), (1000, (some (.box [(.d (.slice false 2 (x.sigs.map Sgn.d))), (.d (.slice false 1 (x.codes.map D.str))), (.d (.slice false 4 (x.arcs.map Arc.d)))]))), (13000, (some (.row 1 ((codes x.sigs.length).map D.str))))], pin := [] }) (fun k => k ≤ (codes x.sigs.length).length) (fun k => (codes x.sigs.length).length - k) ⟨0, (by omega), (Wk.trans (Wk.nilrow 4 900004 1 rfl rfl rfl) (Wk.ren [(4, 900004)] rfl rfl rfl rfl (And.intro rfl (And.intro rfl (And.intro rfl (And.intro rfl (And.intro (vI (by first | rfl | omega | (simp; done) | (simp; omega))) trivial))))) (And.intro (oR (by first | rfl | (exact push rfl (unrK_yes (by omega) (by assumption))) | (exact congrArg (List.map D.str) (unrK_no (by omega) (by assumption))))) (And.intro rfl (And.intro rfl trivial)))))⟩ (fun k hp0 => ?_)
    have hq := unrK_le x k
    refine T_seq ?_
    refine T_region hc ?_
    refine Ch.step (v := (.d (.bool (decide (((k : Nat) : Int) < (((codes x.sigs.length).length : Nat) : Int)))))) rfl (.pure (.int _ _ _ _ _ rfl rfl rfl rfl)) rfl rfl ?_
    refine Ch.nil ?_
    refine T_seq ?_
    refine T_cond (b := (decide (((k : Nat) : Int) < (((codes x.sigs.length).length : Nat) : Int)))) rfl (fun h2 => ?_) (fun h2 => ?_)
    · replace h2 := of_decide_eq_true h2
      refine T_skip ?_
      refine T_seq ?_
      refine T_block ?_
      refine T_seq ?_
      refine T_region hc ?_
      refine Ch.step (v := (.el 13000 1 k 0)) rfl (.pure (.idxRow _ _ _ 9 (k) rfl Try.underlying43 sz9 rfl rfl rfl rfl (by first | omega | (simp only [List.length_map, List.length_set]; omega) | (simp; omega)))) rfl rfl ?_
      refine Ch.step (v := (.d (.str ((codes x.sigs.length).getD k default)))) rfl (.pure (.loadEl1 _ _ rfl ag9 rfl rfl (get_map _ (by first | omega | (simp only [List.length_map, List.length_append, List.length_take, List.length_drop, List.length_cons, List.length_nil]; omega) | (simp; omega) | (simp; done))) rfl rfl rfl)) rfl rfl ?_
      refine Ch.step (v := (.d (.str ((codes x.sigs.length).getD k default)))) rfl (.pure (.assign _ rfl rfl)) rfl rfl ?_
      refine Ch.nil ?_
      refine T_seq ?_
      refine T_region hc ?_
      refine Ch.step (v := (.ptr 1000 1)) rfl (.pure (.fldPtr _ _ _ rfl fld52_1 rfl)) rfl rfl ?_
      refine Ch.step (v := (.d (.slice false 1 (x.codes.map D.str)))) rfl (.pure (.loadPtr1 _ _ rfl ag43 rfl rfl rfl)) rfl rfl ?_
      refine Ch.step (v := (.d (.str ((codes x.sigs.length).getD k default)))) rfl (.pure (.move _ rfl rfl)) rfl rfl ?_
      refine Ch.step (v := (.d (.bool (hasS x.codes ((codes x.sigs.length).getD k default))))) rfl (.call 22000 90 _ _ _ en90 rfl (.inl rfl) (.cons (.d _) (.cons (.d _) .nil)) rfl rfl (sp_spec_l1HasS x.codes ((codes x.sigs.length).getD k default) (by first | omega | assumption | (exact hx _ (getD_mem (by omega))) | (exact hx _ (by assumption)) | (exact Nat.le_trans (hx _ (by assumption)) (by omega)) | (simp only [List.length_append, List.length_take, List.length_drop, List.length_cons, List.length_nil]; omega) | (simp_all; done))) (.skip _ _ (.skip _ _ .nil)) rfl) rfl rfl ?_
      refine Ch.step (v := (.d (.bool (!(hasS x.codes ((codes x.sigs.length).getD k default)))))) rfl (.pure (.not _ _ rfl rfl)) rfl rfl ?_
      refine Ch.nil ?_
      refine T_cond (b := (!(hasS x.codes ((codes x.sigs.length).getD k default)))) rfl (fun h3 => ?_) (fun h3 => ?_)
      · replace h3 := nott h3
        refine T_region hc ?_
        refine Ch.step (v := (.row 4)) rfl (.pure (.move _ rfl rfl)) rfl rfl ?_
        refine Ch.step (v := (.d (.str ((codes x.sigs.length).getD k default)))) rfl (.pure (.move _ rfl rfl)) rfl rfl ?_
        refine Ch.step (v := (.row 26000)) rfl (.slice 26000 _ 9 _ rfl sty43 (xs := [.tmp 25]) rfl rfl (.cons (.d _) .nil) rfl rfl (by decide)) rfl rfl ?_
        refine Ch.step (v := (.row 27000)) rfl (.append 27000 _ _ _ 9 rfl sty43 (by decide) (.rowK rfl) (.inr ⟨_, rfl, rfl⟩) (.row rfl rfl) rfl (by first | omega | (simp only [List.length_append, List.length_map, List.length_cons, List.length_nil]; omega) | (simp; omega) | (simp; done))) rfl rfl ?_
        refine Ch.step (v := (.row 27000)) rfl (.pure (.assign _ rfl rfl)) rfl rfl ?_
        refine Ch.nil ?_
        refine T_region hc ?_
        refine Ch.step (v := (.d (.int .i64 (((k : Nat) : Int) + 1)))) rfl (.pure (.int _ _ _ _ _ rfl rfl rfl (intV_add (by first | omega | (simp only [List.length_map, List.length_append, List.length_take, List.length_drop, List.length_cons, List.length_nil]; omega) | (simp; omega) | (simp; done)) (by first | omega | (simp only [List.length_map, List.length_append, List.length_take, List.length_drop, List.length_cons, List.length_nil]; omega) | (simp; omega) | (simp; done))))) rfl rfl ?_
        refine Ch.step (v := (.d (.int .i64 (((k : Nat) : Int) + 1)))) rfl (.pure (.move _ rfl rfl)) rfl rfl ?_
        refine Ch.nil ?_
        refine Exists.intro (k + 1) (And.intro (by omega) (And.intro (by first | omega | (dsimp only; omega)) (Wk.ren [(4, 27000)] rfl rfl rfl rfl (And.intro rfl (And.intro rfl (And.intro rfl (And.intro rfl (And.intro (vI (by first | rfl | omega | (simp; done) | (simp; omega))) trivial))))) (And.intro (oR (by first | rfl | (exact push rfl (unrK_yes (by omega) (by assumption))) | (exact congrArg (List.map D.str) (unrK_no (by omega) (by assumption))))) (And.intro rfl (And.intro rfl trivial))))))
      · replace h3 := notf h3
        refine T_skip ?_
        refine T_region hc ?_
        refine Ch.step (v := (.d (.int .i64 (((k : Nat) : Int) + 1)))) rfl (.pure (.int _ _ _ _ _ rfl rfl rfl (intV_add (by first | omega | (simp only [List.length_map, List.length_append, List.length_take, List.length_drop, List.length_cons, List.length_nil]; omega) | (simp; omega) | (simp; done)) (by first | omega | (simp only [List.length_map, List.length_append, List.length_take, List.length_drop, List.length_cons, List.length_nil]; omega) | (simp; omega) | (simp; done))))) rfl rfl ?_
        refine Ch.step (v := (.d (.int .i64 (((k : Nat) : Int) + 1)))) rfl (.pure (.move _ rfl rfl)) rfl rfl ?_
        refine Ch.nil ?_
        refine Exists.intro (k + 1) (And.intro (by omega) (And.intro (by first | omega | (dsimp only; omega)) (Wk.of rfl rfl (And.intro rfl (And.intro rfl (And.intro rfl (And.intro rfl (And.intro (vI (by first | rfl | omega | (simp; done) | (simp; omega))) trivial))))) (And.intro (oR (by first | rfl | (exact push rfl (unrK_yes (by omega) (by assumption))) | (exact congrArg (List.map D.str) (unrK_no (by omega) (by assumption))))) (And.intro rfl (And.intro rfl trivial))))))
    · replace h2 := of_decide_eq_false h2
      refine T_exit ?_
      refine T_seq ?_
      refine T_region hc ?_
      refine Ch.step (v := (.row 4)) rfl (.pure (.move _ rfl rfl)) rfl rfl ?_
      refine Ch.step (v := (.row 4)) rfl (.pure (.assign _ rfl rfl)) rfl rfl ?_
      refine Ch.step (v := (.d (.bool true))) rfl (.pure (.assign _ rfl rfl)) rfl rfl ?_
      refine Ch.nil ?_
      refine T_ret ?_
      refine And.intro (.inr rfl) ?_
      exact Exists.intro [(.row 4), (.d (.bool true))] (Exists.intro [] (Exists.intro [4] (And.intro (.cons (.tmp 2 rfl) (.cons (.tmp 3 rfl) .nil)) (And.intro (.cons (.any _) .nil) (And.intro (.tup (.cons (Exp.of (congrArg (D.slice true 1) (by first | (rw [unrV, h1, if_pos rfl, ← unrK_all (k := k) (by omega)]; done) | (rw [unrV, h1]; rfl) | (rw [h1]; done))) (.row rfl)) (.cons (Exp.of (congrArg D.bool (by first | (rw [unrV, h1, if_pos rfl, ← unrK_all (k := k) (by omega)]; done) | (rw [unrV, h1]; rfl) | (rw [h1]; done))) (.d _)) .nil))) (And.intro rfl rfl))))))

set_option maxHeartbeats 1000000 in
theorem sp_laws_FnExactUnreachableCodes (x : Sgr) (hwx : x.wide) : Sp Try.prog 10 [(.agg [(.slice false 2 (x.sigs.map Sgn.d)), (.slice false 1 (x.codes.map D.str)), (.slice false 4 (x.arcs.map Arc.d))])] [.any] (.bool true) := by
  refine Sp_intro (lend := true) Try.func10 rfl rfl rfl (fun _ => rfl) (fun c hc hX => ?_)
  refine T_seq ?_
  refine T_region hc ?_
  refine Ch.step (v := (.ptr 1000 0)) rfl (.box 1000 _ _ rfl (.aggD _)) rfl rfl ?_
  refine Ch.step (v := (.d (.bool false))) rfl (.pure (.assign _ rfl rfl)) rfl rfl ?_
  refine Ch.nil ?_
  refine T_seq ?_
  refine T_region hc ?_
  refine Ch.step (v := (.d (.int .i64 1048576))) rfl (.pure (.assign _ rfl rfl)) rfl rfl ?_
  refine Ch.nil ?_
  refine T_seq ?_
  refine T_region hc ?_
  refine Ch.step (v := (.agg [(.d (.slice false 2 (x.sigs.map Sgn.d))), (.d (.slice false 1 (x.codes.map D.str))), (.d (.slice false 4 (x.arcs.map Arc.d)))])) rfl (.pure (.loadPtrA _ _ rfl ag46 sz46 rfl rfl (Nat.le_of_ble_eq_true rfl) rfl)) rfl rfl ?_
  refine Ch.step (v := (.d (.int .i64 1048576))) rfl (.pure (.move _ rfl rfl)) rfl rfl ?_
  refine Ch.step (v := (.d (.int .i64 (szR x.bulk 1048576)))) rfl (.call 16000 24 _ _ _ en24 rfl (.inl rfl) (.cons (.lend (.agg (.cons (.d _) (.cons (.d _) (.cons (.d _) .nil))) rfl)) (.cons (.d _) .nil)) rfl rfl (sp_laws_szStateGraph x 1048576 (by first | omega | assumption | (exact hx _ (getD_mem (by omega))) | (exact hx _ (by assumption)) | (exact Nat.le_trans (hx _ (by assumption)) (by omega)) | (simp only [List.length_append, List.length_take, List.length_drop, List.length_cons, List.length_nil]; omega) | (simp_all; done)) (by first | omega | assumption | (exact hx _ (getD_mem (by omega))) | (exact hx _ (by assumption)) | (exact Nat.le_trans (hx _ (by assumption)) (by omega)) | (simp only [List.length_append, List.length_take, List.length_drop, List.length_cons, List.length_nil]; omega) | (simp_all; done)) (by first | assumption | omega | trivial | (simp_all; done) | (exact fun _ _ => trivial) | (exact hx _ (by assumption)) | (refine ⟨?_, ?_⟩ <;> first | assumption | omega))) (.skip _ _ (.skip _ _ .nil)) rfl) rfl rfl ?_
  refine Ch.step (v := (.d (.int .i64 (szR x.bulk 1048576)))) rfl (.pure (.assign _ rfl rfl)) rfl rfl ?_
  refine Ch.nil ?_
  refine T_seq ?_
  refine T_seq ?_
  refine T_region hc ?_
  refine Ch.step (v := (.d (.int .i64 (szR x.bulk 1048576)))) rfl (.pure (.move _ rfl rfl)) rfl rfl ?_
  refine Ch.step (v := (.d (.bool (decide ((szR x.bulk 1048576) < 0))))) rfl (.pure (.int _ _ _ _ _ rfl rfl rfl rfl)) rfl rfl ?_
  refine Ch.nil ?_
  refine T_cond (b := (decide ((szR x.bulk 1048576) < 0))) rfl (fun h1 => ?_) (fun h1 => ?_)
  · replace h1 := of_decide_eq_true h1
    try have hz := szR_ok (t := x.bulk) (left := 1048576) h1 (by omega)
    try have hb : x.bulk ≤ 1048576 := by omega
    try have hl := hz.2
    try have hcl : (unrV x).length ≤ 1048576 := Nat.le_trans (unrV_le x) (by decide)
    try have hhm := held_marks 1 (unrV x).length
    try have hmk := marks_length 1 (unrV x).length
    refine T_seq ?_
    refine T_region hc ?_
    refine Ch.step (v := (.d (.bool true))) rfl (.pure (.assign _ rfl rfl)) rfl rfl ?_
    refine Ch.nil ?_
    refine T_ret ?_
    refine And.intro (.inr rfl) ?_
    exact Exists.intro [(.d (.bool true))] (Exists.intro [] (Exists.intro [] (And.intro (.cons (.tmp 2 rfl) .nil) (And.intro (.cons (.any _) .nil) (And.intro (.d _) (And.intro rfl rfl))))))
  · replace h1 := of_decide_eq_false h1
    try have hz := szR_ok (t := x.bulk) (left := 1048576) h1 (by omega)
    try have hb : x.bulk ≤ 1048576 := by omega
    try have hl := hz.2
    try have hcl : (unrV x).length ≤ 1048576 := Nat.le_trans (unrV_le x) (by decide)
    try have hhm := held_marks 1 (unrV x).length
    try have hmk := marks_length 1 (unrV x).length
    refine T_skip ?_
    refine T_seq ?_
    refine T_region hc ?_
    refine Ch.step (v := (.agg [(.d (.slice false 2 (x.sigs.map Sgn.d))), (.d (.slice false 1 (x.codes.map D.str))), (.d (.slice false 4 (x.arcs.map Arc.d)))])) rfl (.pure (.loadPtrA _ _ rfl ag46 sz46 rfl rfl (Nat.le_of_ble_eq_true rfl) rfl)) rfl rfl ?_
    refine Ch.step (v := (.agg [(.row 21000), (.row 21001), (.row 21002)])) rfl (.call 21000 26 _ _ _ en26 rfl (.inl rfl) (.cons (.lend (.agg (.cons (.d _) (.cons (.d _) (.cons (.d _) .nil))) rfl)) .nil) rfl (sol (Sgr.sol _) rfl) (sp_laws_toStateGraph x (by first | assumption | omega | (rw [List.length_take]; omega) | (have := bulkF_mem hb _ (getD_mem (d := default) (by omega)); assumption) | (unfold bulkS at *; omega) | (simp_all; done))) (.skip _ _ .nil) rfl) rfl rfl ?_
    refine Ch.step (v := (.tup [(.row 22000), (.d (.bool (sgB x)))])) rfl (.call 22000 37 _ _ _ en37 rfl (.inl rfl) (.cons (.lend (.agg (.cons (.row rfl (frozs_map (fun _ => rfl) _)) (.cons (.row rfl (frozs_map (fun _ => rfl) _)) (.cons (.row rfl (frozs_map (fun _ => rfl) _)) .nil))) rfl)) .nil) rfl (sol (by rw [D.solid]; exact solids_c (solid_row (fun _ => rfl) _) rfl) rfl) (sp_spec_UnreachableCodes x (by first | assumption | omega | (rw [List.length_take]; omega) | (have := bulkF_mem hb _ (getD_mem (d := default) (by omega)); assumption) | (unfold bulkS at *; omega) | (simp_all; done))) (.skip _ _ .nil) rfl) rfl rfl ?_
    refine Ch.step (v := (.tup [(.row 22000), (.d (.bool (sgB x)))])) rfl (.pure (.move _ rfl rfl)) rfl rfl ?_
    refine Ch.step (v := (.row 22000)) rfl (.pure (.extract _ rfl rfl rfl)) rfl rfl ?_
    refine Ch.step (v := (.d (.bool (sgB x)))) rfl (.pure (.extract _ rfl rfl rfl)) rfl rfl ?_
    refine Ch.step (v := (.row 22000)) rfl (.pure (.assign _ rfl rfl)) rfl rfl ?_
    refine Ch.step (v := (.d (.bool (sgB x)))) rfl (.pure (.assign _ rfl rfl)) rfl rfl ?_
    refine Ch.nil ?_
    refine T_seq ?_
    refine T_region hc ?_
    refine Ch.step (v := (.agg [(.d (.slice false 2 (x.sigs.map Sgn.d))), (.d (.slice false 1 (x.codes.map D.str))), (.d (.slice false 4 (x.arcs.map Arc.d)))])) rfl (.pure (.loadPtrA _ _ rfl ag46 sz46 rfl rfl (Nat.le_of_ble_eq_true rfl) rfl)) rfl rfl ?_
    refine Ch.step (v := (.agg [(.row 26000), (.row 26001), (.row 26002)])) rfl (.call 26000 26 _ _ _ en26 rfl (.inl rfl) (.cons (.lend (.agg (.cons (.d _) (.cons (.d _) (.cons (.d _) .nil))) rfl)) .nil) rfl (sol (Sgr.sol _) rfl) (sp_laws_toStateGraph x (by first | assumption | omega | (rw [List.length_take]; omega) | (have := bulkF_mem hb _ (getD_mem (d := default) (by omega)); assumption) | (unfold bulkS at *; omega) | (simp_all; done))) (.skip _ _ .nil) rfl) rfl rfl ?_
    refine Ch.step (v := (.ptr 6000 0)) rfl (.alloc 6000 _ rfl zer52) rfl rfl ?_
    refine Ch.step (v := .junk) rfl (.storePtr _ _ _ rfl rfl rfl (.agg _ rfl) sz52 (Nat.le_of_ble_eq_true rfl)) rfl rfl ?_
    refine Ch.nil ?_
    refine T_seq ?_
    refine T_region hc ?_
    refine Ch.step (v := (.agg [(.row 26000), (.row 26001), (.row 26002)])) rfl (.pure (.loadPtrA _ _ rfl ag52 sz52 rfl rfl (Nat.le_of_ble_eq_true rfl) rfl)) rfl rfl ?_
    refine Ch.step (v := (.tup [(.row 29000), (.d (.bool (sgB x)))])) rfl (.call 29000 38 _ _ _ en38 rfl (.inl rfl) (.cons (.lend (.agg (.cons (.row rfl (frozs_map (fun _ => rfl) _)) (.cons (.row rfl (frozs_map (fun _ => rfl) _)) (.cons (.row rfl (frozs_map (fun _ => rfl) _)) .nil))) rfl)) .nil) rfl (sol (by rw [D.solid]; exact solids_c (solid_row (fun _ => rfl) _) rfl) rfl) (sp_impl_UnreachableCodes x (by first | assumption | omega | (rw [List.length_take]; omega) | (have := bulkF_mem hb _ (getD_mem (d := default) (by omega)); assumption) | (unfold bulkS at *; omega) | (simp_all; done))) (.skip _ _ .nil) rfl) rfl rfl ?_
    refine Ch.step (v := (.tup [(.row 29000), (.d (.bool (sgB x)))])) rfl (.pure (.move _ rfl rfl)) rfl rfl ?_
    refine Ch.step (v := (.row 29000)) rfl (.pure (.extract _ rfl rfl rfl)) rfl rfl ?_
    refine Ch.step (v := (.d (.bool (sgB x)))) rfl (.pure (.extract _ rfl rfl rfl)) rfl rfl ?_
    refine Ch.step (v := (.row 29000)) rfl (.pure (.assign _ rfl rfl)) rfl rfl ?_
    refine Ch.step (v := (.d (.bool (sgB x)))) rfl (.pure (.assign _ rfl rfl)) rfl rfl ?_
    refine Ch.nil ?_
    refine T_seq ?_
    refine T_seq ?_
    refine T_region hc ?_
    refine Ch.step (v := (.row 29000)) rfl (.pure (.move _ rfl rfl)) rfl rfl ?_
    refine Ch.step (v := (.row 22000)) rfl (.pure (.move _ rfl rfl)) rfl rfl ?_
    refine Ch.step (v := (.d (.bool (decide ((unrV x) = (unrV x)))))) rfl (.call 34000 39 _ _ _ en39 rfl (.inl rfl) (.cons (.lend (.row rfl (frozs_map (fun _ => rfl) _))) (.cons (.lend (.row rfl (frozs_map (fun _ => rfl) _))) .nil)) rfl rfl (sp_laws_eqStringS (unrV x) (unrV x) (by first | omega | assumption | (exact hx _ (getD_mem (by omega))) | (exact hx _ (by assumption)) | (exact Nat.le_trans (hx _ (by assumption)) (by omega)) | (simp only [List.length_append, List.length_take, List.length_drop, List.length_cons, List.length_nil]; omega) | (simp_all; done))) (.skip _ _ (.skip _ _ .nil)) rfl) rfl rfl ?_
    refine Ch.step (v := (.d (.bool (!(decide ((unrV x) = (unrV x))))))) rfl (.pure (.not _ _ rfl rfl)) rfl rfl ?_
    refine Ch.step (v := (.d (.bool (!(decide ((unrV x) = (unrV x))))))) rfl (.pure (.move _ rfl rfl)) rfl rfl ?_
    cases h2 : (decide ((unrV x) = (unrV x))) with
    | true =>
      replace h2 := of_decide_eq_true h2
      refine Ch.step (v := (.d (.bool (sgB x)))) rfl (.pure (.move _ rfl rfl)) rfl rfl ?_
      refine Ch.step (v := (.d (.bool (sgB x)))) rfl (.pure (.move _ rfl rfl)) rfl rfl ?_
      refine Ch.step (v := (.d (.bool (!(decide ((sgB x) = (sgB x))))))) rfl (.pure (.neB _ _ _ _ rfl Try.underlying4 rfl rfl)) rfl rfl ?_
      refine Ch.step (v := (.d (.bool (!(decide ((sgB x) = (sgB x))))))) rfl (.pure (.pickF _ _ _ rfl rfl rfl)) rfl rfl ?_
      refine Ch.nil ?_
      refine T_cond (b := (!(decide ((sgB x) = (sgB x))))) rfl (fun h3 => ?_) (fun h3 => ?_)
      · replace h3 := nott h3
        replace h3 := of_decide_eq_false h3
        refine T_seq ?_
        refine T_region hc ?_
        refine Ch.step (v := (.d (.bool false))) rfl (.pure (.assign _ rfl rfl)) rfl rfl ?_
        refine Ch.nil ?_
        refine T_ret ?_
        refine And.intro (.inr rfl) ?_
        exact Exists.intro [(.d (.bool false))] (Exists.intro [] (Exists.intro [] (And.intro (.cons (.tmp 2 rfl) .nil) (And.intro (.cons (.any _) .nil) (And.intro (Exp.of (congrArg D.bool (by first | rfl | contradiction | (exfalso; omega) | (simp_all; done) | (exfalso; simp_all; omega))) (.d _)) (And.intro rfl rfl))))))
      · replace h3 := notf h3
        replace h3 := of_decide_eq_true h3
        refine T_skip ?_
        refine T_seq ?_
        refine T_seq ?_
        refine T_regionD hc (by kernel_rfl) ?_
        refine ChD.step (v := (.agg [(.row 26000), (.row 26001), (.row 26002)])) [6000, 26000, 26001, 26002] rfl (.pure (.loadPtrA _ _ rfl ag52 sz52 rfl rfl (Nat.le_of_ble_eq_true rfl) rfl)) rfl rfl ?_
        refine ChD.step (v := (.agg [(.d (.slice false 2 (x.sigs.map Sgn.d))), (.d (.slice false 1 (x.codes.map D.str))), (.d (.slice false 4 (x.arcs.map Arc.d)))])) [1000] rfl (.pure (.loadPtrA _ _ rfl ag46 sz46 rfl rfl (Nat.le_of_ble_eq_true rfl) rfl)) rfl rfl ?_
        refine ChD.step (v := (.agg [(.row 43000), (.row 43001), (.row 43002)])) [] rfl (.call 43000 26 _ _ _ en26 rfl (.inl rfl) (.cons (.lend (.agg (.cons (.d _) (.cons (.d _) (.cons (.d _) .nil))) rfl)) .nil) rfl (sol (Sgr.sol _) rfl) (sp_laws_toStateGraph x (by first | assumption | omega | (rw [List.length_take]; omega) | (have := bulkF_mem hb _ (getD_mem (d := default) (by omega)); assumption) | (unfold bulkS at *; omega) | (simp_all; done))) (.skip _ _ .nil) rfl) rfl rfl ?_
        refine ChD.step (v := (.d (.bool (decide (x = x))))) [26000, 26001, 26002, 43000, 43001, 43002] rfl (.call 44000 28 _ _ _ en28 rfl (.inl rfl) (.cons (.lend (.agg (.cons (.row rfl (frozs_map (fun _ => rfl) _)) (.cons (.row rfl (frozs_map (fun _ => rfl) _)) (.cons (.row rfl (frozs_map (fun _ => rfl) _)) .nil))) rfl)) (.cons (.lend (.agg (.cons (.row rfl (frozs_map (fun _ => rfl) _)) (.cons (.row rfl (frozs_map (fun _ => rfl) _)) (.cons (.row rfl (frozs_map (fun _ => rfl) _)) .nil))) rfl)) .nil)) rfl rfl (sp_laws_eqStateGraph x x (by first | assumption | omega | (rw [List.length_take]; omega) | (have := bulkF_mem hb _ (getD_mem (d := default) (by omega)); assumption) | (unfold bulkS at *; omega) | (simp_all; done))) (.skip _ _ (.skip _ _ .nil)) rfl) rfl rfl ?_
        refine ChD.step (v := (.d (.bool (!(decide (x = x)))))) [] rfl (.pure (.not _ _ rfl rfl)) rfl rfl ?_
        refine ChD.nil (And.intro ?_ (by kernel_rfl))
        refine T_cond (b := (!(decide (x = x)))) rfl (fun h4 => ?_) (fun h4 => ?_)
        · replace h4 := nott h4
          replace h4 := of_decide_eq_false h4
          refine T_seq ?_
          refine T_region hc ?_
          refine Ch.step (v := (.d (.bool false))) rfl (.pure (.assign _ rfl rfl)) rfl rfl ?_
          refine Ch.nil ?_
          refine T_ret ?_
          refine And.intro (.inr rfl) ?_
          exact Exists.intro [(.d (.bool false))] (Exists.intro [] (Exists.intro [] (And.intro (.cons (.tmp 2 rfl) .nil) (And.intro (.cons (.any _) .nil) (And.intro (Exp.of (congrArg D.bool (by first | rfl | contradiction | (exfalso; omega) | (simp_all; done) | (exfalso; simp_all; omega))) (.d _)) (And.intro rfl rfl))))))
        · replace h4 := notf h4
          replace h4 := of_decide_eq_true h4
          refine T_skip ?_
          refine T_seq ?_
          refine T_region hc ?_
          refine Ch.step (v := (.d (.int .i64 1))) rfl (.pure (.assign _ rfl rfl)) rfl rfl ?_
          refine Ch.nil ?_
          refine T_seq ?_
          refine T_region hc ?_
          refine Ch.step (v := (.agg [(.row 26000), (.row 26001), (.row 26002)])) rfl (.pure (.loadPtrA _ _ rfl ag52 sz52 rfl rfl (Nat.le_of_ble_eq_true rfl) rfl)) rfl rfl ?_
          refine Ch.step (v := (.d (.int .i64 1))) rfl (.pure (.move _ rfl rfl)) rfl rfl ?_
          refine Ch.step (v := (.d (.int .i64 ((1 + 2 * x.sigs.length + x.codes.length + 4 * x.arcs.length : Nat) : Int)))) rfl (.call 48000 40 _ _ _ en40 rfl (.inl rfl) (.cons (.agg (.cons (.row rfl) (.cons (.row rfl) (.cons (.row rfl) .nil))) rfl) (.cons (.d _) .nil)) rfl rfl (sp_laws_markStateGraph x 1 (by first | assumption | omega | (rw [List.length_take]; omega) | (have := bulkF_mem hb _ (getD_mem (d := default) (by omega)); assumption) | (unfold bulkS at *; omega) | (simp_all; done)) (by first | assumption | omega | (rw [List.length_take]; omega) | (have := bulkF_mem hb _ (getD_mem (d := default) (by omega)); assumption) | (unfold bulkS at *; omega) | (simp_all; done))) (.skip _ _ (.skip _ _ .nil)) rfl) rfl rfl ?_
          refine Ch.step (v := (.d (.int .i64 ((1 + 2 * x.sigs.length + x.codes.length + 4 * x.arcs.length : Nat) : Int)))) rfl (.pure (.assign _ rfl rfl)) rfl rfl ?_
          refine Ch.nil ?_
          refine T_seq ?_
          refine T_seq ?_
          refine T_region hc ?_
          refine Ch.step (v := (.d (.int .i64 ((1 + 2 * x.sigs.length + x.codes.length + 4 * x.arcs.length : Nat) : Int)))) rfl (.pure (.move _ rfl rfl)) rfl rfl ?_
          refine Ch.step (v := (.d (.bool (decide (((1 + 2 * x.sigs.length + x.codes.length + 4 * x.arcs.length : Nat) : Int) < 0))))) rfl (.pure (.int _ _ _ _ _ rfl rfl rfl rfl)) rfl rfl ?_
          refine Ch.step (v := (.d (.bool (decide (((1 + 2 * x.sigs.length + x.codes.length + 4 * x.arcs.length : Nat) : Int) < 0))))) rfl (.pure (.move _ rfl rfl)) rfl rfl ?_
          cases h5 : (decide (((1 + 2 * x.sigs.length + x.codes.length + 4 * x.arcs.length : Nat) : Int) < 0)) with
          | true =>
            replace h5 := of_decide_eq_true h5
            refine Ch.skip rfl rfl ?_
            refine Ch.skip rfl rfl ?_
            refine Ch.skip rfl rfl ?_
            refine Ch.skip rfl rfl ?_
            refine Ch.step (v := (.d (.bool true))) rfl (.pure (.pickT _ _ _ rfl rfl rfl)) rfl rfl ?_
            refine Ch.step (v := (.d (.bool true))) rfl (.pure (.move _ rfl rfl)) rfl rfl ?_
            refine Ch.skip rfl rfl ?_
            refine Ch.skip rfl rfl ?_
            refine Ch.skip rfl rfl ?_
            refine Ch.step (v := (.d (.bool true))) rfl (.pure (.pickT _ _ _ rfl rfl rfl)) rfl rfl ?_
            refine Ch.nil ?_
            refine T_cond (b := true) rfl (fun _ => ?_) (fun h => nomatch h)
            refine T_seq ?_
            refine T_region hc ?_
            refine Ch.step (v := (.d (.bool false))) rfl (.pure (.assign _ rfl rfl)) rfl rfl ?_
            refine Ch.nil ?_
            refine T_ret ?_
            refine And.intro (.inr rfl) ?_
            exact Exists.intro [(.d (.bool false))] (Exists.intro [] (Exists.intro [] (And.intro (.cons (.tmp 2 rfl) .nil) (And.intro (.cons (.any _) .nil) (And.intro (Exp.of (congrArg D.bool (by first | rfl | contradiction | (exfalso; omega) | (simp_all; done) | (exfalso; simp_all; omega))) (.d _)) (And.intro rfl rfl))))))
          | false =>
            replace h5 := of_decide_eq_false h5
            refine Ch.step (v := (.row 29000)) rfl (.pure (.move _ rfl rfl)) rfl rfl ?_
            refine Ch.step (v := (.row 22000)) rfl (.pure (.move _ rfl rfl)) rfl rfl ?_
            refine Ch.step (v := (.d (.bool (decide ((unrV x) = (unrV x)))))) rfl (.call 54000 39 _ _ _ en39 rfl (.inl rfl) (.cons (.lend (.row rfl (frozs_map (fun _ => rfl) _))) (.cons (.lend (.row rfl (frozs_map (fun _ => rfl) _))) .nil)) rfl rfl (sp_laws_eqStringS (unrV x) (unrV x) (by first | omega | assumption | (exact hx _ (getD_mem (by omega))) | (exact hx _ (by assumption)) | (exact Nat.le_trans (hx _ (by assumption)) (by omega)) | (simp only [List.length_append, List.length_take, List.length_drop, List.length_cons, List.length_nil]; omega) | (simp_all; done))) (.skip _ _ (.skip _ _ .nil)) rfl) rfl rfl ?_
            refine Ch.step (v := (.d (.bool (!(decide ((unrV x) = (unrV x))))))) rfl (.pure (.not _ _ rfl rfl)) rfl rfl ?_
            refine Ch.step (v := (.d (.bool (!(decide ((unrV x) = (unrV x))))))) rfl (.pure (.pickF _ _ _ rfl rfl rfl)) rfl rfl ?_
            refine Ch.step (v := (.d (.bool (!(decide ((unrV x) = (unrV x))))))) rfl (.pure (.move _ rfl rfl)) rfl rfl ?_
            cases h6 : (decide ((unrV x) = (unrV x))) with
            | true =>
              replace h6 := of_decide_eq_true h6
              refine Ch.step (v := (.d (.bool (sgB x)))) rfl (.pure (.move _ rfl rfl)) rfl rfl ?_
              refine Ch.step (v := (.d (.bool (sgB x)))) rfl (.pure (.move _ rfl rfl)) rfl rfl ?_
              refine Ch.step (v := (.d (.bool (!(decide ((sgB x) = (sgB x))))))) rfl (.pure (.neB _ _ _ _ rfl Try.underlying4 rfl rfl)) rfl rfl ?_
              refine Ch.step (v := (.d (.bool (!(decide ((sgB x) = (sgB x))))))) rfl (.pure (.pickF _ _ _ rfl rfl rfl)) rfl rfl ?_
              refine Ch.nil ?_
              refine T_cond (b := (!(decide ((sgB x) = (sgB x))))) rfl (fun h7 => ?_) (fun h7 => ?_)
              · replace h7 := nott h7
                replace h7 := of_decide_eq_false h7
                refine T_seq ?_
                refine T_region hc ?_
                refine Ch.step (v := (.d (.bool false))) rfl (.pure (.assign _ rfl rfl)) rfl rfl ?_
                refine Ch.nil ?_
                refine T_ret ?_
                refine And.intro (.inr rfl) ?_
                exact Exists.intro [(.d (.bool false))] (Exists.intro [] (Exists.intro [] (And.intro (.cons (.tmp 2 rfl) .nil) (And.intro (.cons (.any _) .nil) (And.intro (Exp.of (congrArg D.bool (by first | rfl | contradiction | (exfalso; omega) | (simp_all; done) | (exfalso; simp_all; omega))) (.d _)) (And.intro rfl rfl))))))
              · replace h7 := notf h7
                replace h7 := of_decide_eq_true h7
                refine T_skip ?_
                refine T_seq ?_
                refine T_region hc ?_
                refine Ch.step (v := (.d (.int .i64 1))) rfl (.pure (.assign _ rfl rfl)) rfl rfl ?_
                refine Ch.nil ?_
                refine T_seq ?_
                refine T_region hc ?_
                refine Ch.step (v := (.row 29000)) rfl (.pure (.move _ rfl rfl)) rfl rfl ?_
                refine Ch.step (v := (.d (.int .i64 1))) rfl (.pure (.move _ rfl rfl)) rfl rfl ?_
                refine Ch.step (v := (.d (.int .i64 ((1 + (unrV x).length : Nat) : Int)))) rfl (.call 64000 41 _ _ _ en41 rfl (.inl rfl) (.cons (.row rfl) (.cons (.d _) .nil)) rfl (sol rfl (solids_c (solid_row (fun _ => rfl) _) rfl)) (sp_laws_markStringS (unrV x) 1 (by first | omega | assumption | (exact hx _ (getD_mem (by omega))) | (exact hx _ (by assumption)) | (exact Nat.le_trans (hx _ (by assumption)) (by omega)) | (simp only [List.length_append, List.length_take, List.length_drop, List.length_cons, List.length_nil]; omega) | (simp_all; done)) (by first | omega | assumption | (exact hx _ (getD_mem (by omega))) | (exact hx _ (by assumption)) | (exact Nat.le_trans (hx _ (by assumption)) (by omega)) | (simp only [List.length_append, List.length_take, List.length_drop, List.length_cons, List.length_nil]; omega) | (simp_all; done))) (.row _ _ _ (.skip _ _ .nil)) rfl) rfl rfl ?_
                refine Ch.step (v := (.d (.int .i64 ((1 + (unrV x).length : Nat) : Int)))) rfl (.pure (.assign _ rfl rfl)) rfl rfl ?_
                refine Ch.nil ?_
                refine T_seq ?_
                refine T_region hc ?_
                refine Ch.step (v := (.d (.int .i64 1))) rfl (.pure (.assign _ rfl rfl)) rfl rfl ?_
                refine Ch.nil ?_
                refine T_seq ?_
                refine T_region hc ?_
                refine Ch.step (v := (.row 29000)) rfl (.pure (.move _ rfl rfl)) rfl rfl ?_
                refine Ch.step (v := (.d (.int .i64 1))) rfl (.pure (.move _ rfl rfl)) rfl rfl ?_
                refine Ch.step (v := (.d (.int .i64 (heldR (marks 1 (unrV x).length) 1)))) rfl (.call 67000 42 _ _ _ en42 rfl (.inl rfl) (.cons (.lend (.row rfl (frozs_map (fun _ => rfl) _))) (.cons (.d _) .nil)) rfl rfl (sp_laws_heldStringS (marks 1 (unrV x).length) 1 (by first | omega | assumption | (exact hx _ (getD_mem (by omega))) | (exact hx _ (by assumption)) | (exact Nat.le_trans (hx _ (by assumption)) (by omega)) | (simp only [List.length_append, List.length_take, List.length_drop, List.length_cons, List.length_nil]; omega) | (simp_all; done)) (by first | omega | assumption | (exact hx _ (getD_mem (by omega))) | (exact hx _ (by assumption)) | (exact Nat.le_trans (hx _ (by assumption)) (by omega)) | (simp only [List.length_append, List.length_take, List.length_drop, List.length_cons, List.length_nil]; omega) | (simp_all; done))) (.skip _ _ (.skip _ _ .nil)) rfl) rfl rfl ?_
                refine Ch.step (v := (.d (.int .i64 (heldR (marks 1 (unrV x).length) 1)))) rfl (.pure (.assign _ rfl rfl)) rfl rfl ?_
                refine Ch.nil ?_
                refine T_seq ?_
                refine T_seq ?_
                refine T_region hc ?_
                refine Ch.step (v := (.d (.int .i64 (heldR (marks 1 (unrV x).length) 1)))) rfl (.pure (.move _ rfl rfl)) rfl rfl ?_
                refine Ch.step (v := (.d (.bool (decide ((heldR (marks 1 (unrV x).length) 1) < 0))))) rfl (.pure (.int _ _ _ _ _ rfl rfl rfl rfl)) rfl rfl ?_
                refine Ch.nil ?_
                refine T_cond (b := (decide ((heldR (marks 1 (unrV x).length) 1) < 0))) rfl (fun h8 => ?_) (fun h8 => ?_)
                · replace h8 := of_decide_eq_true h8
                  refine T_seq ?_
                  refine T_region hc ?_
                  refine Ch.step (v := (.d (.bool false))) rfl (.pure (.assign _ rfl rfl)) rfl rfl ?_
                  refine Ch.nil ?_
                  refine T_ret ?_
                  refine And.intro (.inr rfl) ?_
                  exact Exists.intro [(.d (.bool false))] (Exists.intro [] (Exists.intro [] (And.intro (.cons (.tmp 2 rfl) .nil) (And.intro (.cons (.any _) .nil) (And.intro (Exp.of (congrArg D.bool (by first | rfl | contradiction | (exfalso; omega) | (simp_all; done) | (exfalso; simp_all; omega))) (.d _)) (And.intro rfl rfl))))))
                · replace h8 := of_decide_eq_false h8
                  refine T_skip ?_
                  refine T_seq ?_
                  refine T_seq ?_
                  refine T_region hc ?_
                  refine Ch.step (v := (.d (.int .i64 (heldR (marks 1 (unrV x).length) 1)))) rfl (.pure (.move _ rfl rfl)) rfl rfl ?_
                  refine Ch.step (v := (.d (.int .i64 ((1 + (unrV x).length : Nat) : Int)))) rfl (.pure (.move _ rfl rfl)) rfl rfl ?_
                  refine Ch.step (v := (.d (.bool (!(decide ((heldR (marks 1 (unrV x).length) 1) = ((1 + (unrV x).length : Nat) : Int))))))) rfl (.pure (.int _ _ _ _ _ rfl rfl rfl rfl)) rfl rfl ?_
                  refine Ch.nil ?_
                  refine T_cond (b := (!(decide ((heldR (marks 1 (unrV x).length) 1) = ((1 + (unrV x).length : Nat) : Int))))) rfl (fun h9 => ?_) (fun h9 => ?_)
                  · replace h9 := nott h9
                    replace h9 := of_decide_eq_false h9
                    refine T_seq ?_
                    refine T_region hc ?_
                    refine Ch.step (v := (.d (.bool false))) rfl (.pure (.assign _ rfl rfl)) rfl rfl ?_
                    refine Ch.nil ?_
                    refine T_ret ?_
                    refine And.intro (.inr rfl) ?_
                    exact Exists.intro [(.d (.bool false))] (Exists.intro [] (Exists.intro [] (And.intro (.cons (.tmp 2 rfl) .nil) (And.intro (.cons (.any _) .nil) (And.intro (Exp.of (congrArg D.bool (by first | rfl | contradiction | (exfalso; omega) | (simp_all; done) | (exfalso; simp_all; omega))) (.d _)) (And.intro rfl rfl))))))
                  · replace h9 := notf h9
                    replace h9 := of_decide_eq_true h9
                    refine T_skip ?_
                    refine T_seq ?_
                    refine T_region hc ?_
                    refine Ch.step (v := (.agg [(.d (.slice false 2 (x.sigs.map Sgn.d))), (.d (.slice false 1 (x.codes.map D.str))), (.d (.slice false 4 (x.arcs.map Arc.d)))])) rfl (.pure (.loadPtrA _ _ rfl ag46 sz46 rfl rfl (Nat.le_of_ble_eq_true rfl) rfl)) rfl rfl ?_
                    refine Ch.step (v := (.agg [(.row 75000), (.row 75001), (.row 75002)])) rfl (.call 75000 26 _ _ _ en26 rfl (.inl rfl) (.cons (.lend (.agg (.cons (.d _) (.cons (.d _) (.cons (.d _) .nil))) rfl)) .nil) rfl (sol (Sgr.sol _) rfl) (sp_laws_toStateGraph x (by first | assumption | omega | (rw [List.length_take]; omega) | (have := bulkF_mem hb _ (getD_mem (d := default) (by omega)); assumption) | (unfold bulkS at *; omega) | (simp_all; done))) (.skip _ _ .nil) rfl) rfl rfl ?_
                    refine Ch.step (v := (.tup [(.row 76000), (.d (.bool (sgB x)))])) rfl (.call 76000 38 _ _ _ en38 rfl (.inl rfl) (.cons (.lend (.agg (.cons (.row rfl (frozs_map (fun _ => rfl) _)) (.cons (.row rfl (frozs_map (fun _ => rfl) _)) (.cons (.row rfl (frozs_map (fun _ => rfl) _)) .nil))) rfl)) .nil) rfl (sol (by rw [D.solid]; exact solids_c (solid_row (fun _ => rfl) _) rfl) rfl) (sp_impl_UnreachableCodes x (by first | assumption | omega | (rw [List.length_take]; omega) | (have := bulkF_mem hb _ (getD_mem (d := default) (by omega)); assumption) | (unfold bulkS at *; omega) | (simp_all; done))) (.skip _ _ .nil) rfl) rfl rfl ?_
                    refine Ch.step (v := (.tup [(.row 76000), (.d (.bool (sgB x)))])) rfl (.pure (.move _ rfl rfl)) rfl rfl ?_
                    refine Ch.step (v := (.row 76000)) rfl (.pure (.extract _ rfl rfl rfl)) rfl rfl ?_
                    refine Ch.step (v := (.d (.bool (sgB x)))) rfl (.pure (.extract _ rfl rfl rfl)) rfl rfl ?_
                    refine Ch.step (v := (.row 76000)) rfl (.pure (.assign _ rfl rfl)) rfl rfl ?_
                    refine Ch.step (v := (.d (.bool (sgB x)))) rfl (.pure (.assign _ rfl rfl)) rfl rfl ?_
                    refine Ch.nil ?_
                    refine T_seq ?_
                    refine T_seq ?_
                    refine T_region hc ?_
                    refine Ch.step (v := (.row 76000)) rfl (.pure (.move _ rfl rfl)) rfl rfl ?_
                    refine Ch.step (v := (.row 22000)) rfl (.pure (.move _ rfl rfl)) rfl rfl ?_
                    refine Ch.step (v := (.d (.bool (decide ((unrV x) = (unrV x)))))) rfl (.call 81000 39 _ _ _ en39 rfl (.inl rfl) (.cons (.lend (.row rfl (frozs_map (fun _ => rfl) _))) (.cons (.lend (.row rfl (frozs_map (fun _ => rfl) _))) .nil)) rfl rfl (sp_laws_eqStringS (unrV x) (unrV x) (by first | omega | assumption | (exact hx _ (getD_mem (by omega))) | (exact hx _ (by assumption)) | (exact Nat.le_trans (hx _ (by assumption)) (by omega)) | (simp only [List.length_append, List.length_take, List.length_drop, List.length_cons, List.length_nil]; omega) | (simp_all; done))) (.skip _ _ (.skip _ _ .nil)) rfl) rfl rfl ?_
                    refine Ch.step (v := (.d (.bool (!(decide ((unrV x) = (unrV x))))))) rfl (.pure (.not _ _ rfl rfl)) rfl rfl ?_
                    refine Ch.step (v := (.d (.bool (!(decide ((unrV x) = (unrV x))))))) rfl (.pure (.move _ rfl rfl)) rfl rfl ?_
                    cases h10 : (decide ((unrV x) = (unrV x))) with
                    | true =>
                      replace h10 := of_decide_eq_true h10
                      refine Ch.step (v := (.d (.bool (sgB x)))) rfl (.pure (.move _ rfl rfl)) rfl rfl ?_
                      refine Ch.step (v := (.d (.bool (sgB x)))) rfl (.pure (.move _ rfl rfl)) rfl rfl ?_
                      refine Ch.step (v := (.d (.bool (!(decide ((sgB x) = (sgB x))))))) rfl (.pure (.neB _ _ _ _ rfl Try.underlying4 rfl rfl)) rfl rfl ?_
                      refine Ch.step (v := (.d (.bool (!(decide ((sgB x) = (sgB x))))))) rfl (.pure (.pickF _ _ _ rfl rfl rfl)) rfl rfl ?_
                      refine Ch.nil ?_
                      refine T_cond (b := (!(decide ((sgB x) = (sgB x))))) rfl (fun h11 => ?_) (fun h11 => ?_)
                      · replace h11 := nott h11
                        replace h11 := of_decide_eq_false h11
                        refine T_seq ?_
                        refine T_region hc ?_
                        refine Ch.step (v := (.d (.bool false))) rfl (.pure (.assign _ rfl rfl)) rfl rfl ?_
                        refine Ch.nil ?_
                        refine T_ret ?_
                        refine And.intro (.inr rfl) ?_
                        exact Exists.intro [(.d (.bool false))] (Exists.intro [] (Exists.intro [] (And.intro (.cons (.tmp 2 rfl) .nil) (And.intro (.cons (.any _) .nil) (And.intro (Exp.of (congrArg D.bool (by first | rfl | contradiction | (exfalso; omega) | (simp_all; done) | (exfalso; simp_all; omega))) (.d _)) (And.intro rfl rfl))))))
                      · replace h11 := notf h11
                        replace h11 := of_decide_eq_true h11
                        refine T_skip ?_
                        refine T_seq ?_
                        refine T_region hc ?_
                        refine Ch.step (v := (.d (.int .i64 1))) rfl (.pure (.assign _ rfl rfl)) rfl rfl ?_
                        refine Ch.nil ?_
                        refine T_seq ?_
                        refine T_region hc ?_
                        refine Ch.step (v := (.row 29000)) rfl (.pure (.move _ rfl rfl)) rfl rfl ?_
                        refine Ch.step (v := (.d (.int .i64 1))) rfl (.pure (.move _ rfl rfl)) rfl rfl ?_
                        refine Ch.step (v := (.d (.int .i64 (heldR (marks 1 (unrV x).length) 1)))) rfl (.call 90000 42 _ _ _ en42 rfl (.inl rfl) (.cons (.lend (.row rfl (frozs_map (fun _ => rfl) _))) (.cons (.d _) .nil)) rfl rfl (sp_laws_heldStringS (marks 1 (unrV x).length) 1 (by first | omega | assumption | (exact hx _ (getD_mem (by omega))) | (exact hx _ (by assumption)) | (exact Nat.le_trans (hx _ (by assumption)) (by omega)) | (simp only [List.length_append, List.length_take, List.length_drop, List.length_cons, List.length_nil]; omega) | (simp_all; done)) (by first | omega | assumption | (exact hx _ (getD_mem (by omega))) | (exact hx _ (by assumption)) | (exact Nat.le_trans (hx _ (by assumption)) (by omega)) | (simp only [List.length_append, List.length_take, List.length_drop, List.length_cons, List.length_nil]; omega) | (simp_all; done))) (.skip _ _ (.skip _ _ .nil)) rfl) rfl rfl ?_
                        refine Ch.step (v := (.d (.int .i64 (heldR (marks 1 (unrV x).length) 1)))) rfl (.pure (.assign _ rfl rfl)) rfl rfl ?_
                        refine Ch.nil ?_
                        refine T_seq ?_
                        refine T_seq ?_
                        refine T_region hc ?_
                        refine Ch.step (v := (.d (.int .i64 (heldR (marks 1 (unrV x).length) 1)))) rfl (.pure (.move _ rfl rfl)) rfl rfl ?_
                        refine Ch.step (v := (.d (.bool (decide ((heldR (marks 1 (unrV x).length) 1) < 0))))) rfl (.pure (.int _ _ _ _ _ rfl rfl rfl rfl)) rfl rfl ?_
                        refine Ch.nil ?_
                        refine T_cond (b := (decide ((heldR (marks 1 (unrV x).length) 1) < 0))) rfl (fun h12 => ?_) (fun h12 => ?_)
                        · replace h12 := of_decide_eq_true h12
                          refine T_seq ?_
                          refine T_region hc ?_
                          refine Ch.step (v := (.d (.bool false))) rfl (.pure (.assign _ rfl rfl)) rfl rfl ?_
                          refine Ch.nil ?_
                          refine T_ret ?_
                          refine And.intro (.inr rfl) ?_
                          exact Exists.intro [(.d (.bool false))] (Exists.intro [] (Exists.intro [] (And.intro (.cons (.tmp 2 rfl) .nil) (And.intro (.cons (.any _) .nil) (And.intro (Exp.of (congrArg D.bool (by first | rfl | contradiction | (exfalso; omega) | (simp_all; done) | (exfalso; simp_all; omega))) (.d _)) (And.intro rfl rfl))))))
                        · replace h12 := of_decide_eq_false h12
                          refine T_skip ?_
                          refine T_seq ?_
                          refine T_seq ?_
                          refine T_region hc ?_
                          refine Ch.step (v := (.d (.int .i64 (heldR (marks 1 (unrV x).length) 1)))) rfl (.pure (.move _ rfl rfl)) rfl rfl ?_
                          refine Ch.step (v := (.d (.int .i64 ((1 + (unrV x).length : Nat) : Int)))) rfl (.pure (.move _ rfl rfl)) rfl rfl ?_
                          refine Ch.step (v := (.d (.bool (!(decide ((heldR (marks 1 (unrV x).length) 1) = ((1 + (unrV x).length : Nat) : Int))))))) rfl (.pure (.int _ _ _ _ _ rfl rfl rfl rfl)) rfl rfl ?_
                          refine Ch.nil ?_
                          refine T_cond (b := (!(decide ((heldR (marks 1 (unrV x).length) 1) = ((1 + (unrV x).length : Nat) : Int))))) rfl (fun h13 => ?_) (fun h13 => ?_)
                          · replace h13 := nott h13
                            replace h13 := of_decide_eq_false h13
                            refine T_seq ?_
                            refine T_region hc ?_
                            refine Ch.step (v := (.d (.bool false))) rfl (.pure (.assign _ rfl rfl)) rfl rfl ?_
                            refine Ch.nil ?_
                            refine T_ret ?_
                            refine And.intro (.inr rfl) ?_
                            exact Exists.intro [(.d (.bool false))] (Exists.intro [] (Exists.intro [] (And.intro (.cons (.tmp 2 rfl) .nil) (And.intro (.cons (.any _) .nil) (And.intro (Exp.of (congrArg D.bool (by first | rfl | contradiction | (exfalso; omega) | (simp_all; done) | (exfalso; simp_all; omega))) (.d _)) (And.intro rfl rfl))))))
                          · replace h13 := notf h13
                            replace h13 := of_decide_eq_true h13
                            refine T_skip ?_
                            refine T_seq ?_
                            refine T_region hc ?_
                            refine Ch.step (v := (.d (.bool true))) rfl (.pure (.assign _ rfl rfl)) rfl rfl ?_
                            refine Ch.nil ?_
                            refine T_ret ?_
                            refine And.intro (.inr rfl) ?_
                            exact Exists.intro [(.d (.bool true))] (Exists.intro [] (Exists.intro [] (And.intro (.cons (.tmp 2 rfl) .nil) (And.intro (.cons (.any _) .nil) (And.intro (.d _) (And.intro rfl rfl))))))
                    | false =>
                      replace h10 := of_decide_eq_false h10
                      refine Ch.skip rfl rfl ?_
                      refine Ch.skip rfl rfl ?_
                      refine Ch.skip rfl rfl ?_
                      refine Ch.step (v := (.d (.bool true))) rfl (.pure (.pickT _ _ _ rfl rfl rfl)) rfl rfl ?_
                      refine Ch.nil ?_
                      refine T_cond (b := true) rfl (fun _ => ?_) (fun h => nomatch h)
                      refine T_seq ?_
                      refine T_region hc ?_
                      refine Ch.step (v := (.d (.bool false))) rfl (.pure (.assign _ rfl rfl)) rfl rfl ?_
                      refine Ch.nil ?_
                      refine T_ret ?_
                      refine And.intro (.inr rfl) ?_
                      exact Exists.intro [(.d (.bool false))] (Exists.intro [] (Exists.intro [] (And.intro (.cons (.tmp 2 rfl) .nil) (And.intro (.cons (.any _) .nil) (And.intro (Exp.of (congrArg D.bool (by first | rfl | contradiction | (exfalso; omega) | (simp_all; done) | (exfalso; simp_all; omega))) (.d _)) (And.intro rfl rfl))))))
            | false =>
              replace h6 := of_decide_eq_false h6
              refine Ch.skip rfl rfl ?_
              refine Ch.skip rfl rfl ?_
              refine Ch.skip rfl rfl ?_
              refine Ch.step (v := (.d (.bool true))) rfl (.pure (.pickT _ _ _ rfl rfl rfl)) rfl rfl ?_
              refine Ch.nil ?_
              refine T_cond (b := true) rfl (fun _ => ?_) (fun h => nomatch h)
              refine T_seq ?_
              refine T_region hc ?_
              refine Ch.step (v := (.d (.bool false))) rfl (.pure (.assign _ rfl rfl)) rfl rfl ?_
              refine Ch.nil ?_
              refine T_ret ?_
              refine And.intro (.inr rfl) ?_
              exact Exists.intro [(.d (.bool false))] (Exists.intro [] (Exists.intro [] (And.intro (.cons (.tmp 2 rfl) .nil) (And.intro (.cons (.any _) .nil) (And.intro (Exp.of (congrArg D.bool (by first | rfl | contradiction | (exfalso; omega) | (simp_all; done) | (exfalso; simp_all; omega))) (.d _)) (And.intro rfl rfl))))))
    | false =>
      replace h2 := of_decide_eq_false h2
      refine Ch.skip rfl rfl ?_
      refine Ch.skip rfl rfl ?_
      refine Ch.skip rfl rfl ?_
      refine Ch.step (v := (.d (.bool true))) rfl (.pure (.pickT _ _ _ rfl rfl rfl)) rfl rfl ?_
      refine Ch.nil ?_
      refine T_cond (b := true) rfl (fun _ => ?_) (fun h => nomatch h)
      refine T_seq ?_
      refine T_region hc ?_
      refine Ch.step (v := (.d (.bool false))) rfl (.pure (.assign _ rfl rfl)) rfl rfl ?_
      refine Ch.nil ?_
      refine T_ret ?_
      refine And.intro (.inr rfl) ?_
      exact Exists.intro [(.d (.bool false))] (Exists.intro [] (Exists.intro [] (And.intro (.cons (.tmp 2 rfl) .nil) (And.intro (.cons (.any _) .nil) (And.intro (Exp.of (congrArg D.bool (by first | rfl | contradiction | (exfalso; omega) | (simp_all; done) | (exfalso; simp_all; omega))) (.d _)) (And.intro rfl rfl))))))

end Go.AM
