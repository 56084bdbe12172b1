/-
  The contracts that the law FnExactCountPins needs.
-/
import Derived.Test.YtfnomecncgejbaaZCountPins2
namespace Go.AM
open Go.Proofs
set_option linter.unusedVariables false
set_option linter.unusedSimpArgs false

set_option maxHeartbeats 4000000 in
theorem sp_impl_IsValidNetlist (x : Ntl) (hb : x.bulk ≤ 1048576) : Sp Try.prog 52 [(.agg [(.slice false 2 (x.sigs.map Sgn.d)), (.slice false 4 (x.wires.map Wir.d))])] [.any] (.bool (netB x)) := by
  refine Sp_intro (lend := true) Try.func52 rfl rfl rfl (fun _ => rfl) (fun c hc hX => ?_)
  obtain ⟨hp0, hp1⟩ := Ntl.parts hb
  have hn0 := bulkF_len hp0
  have hn1 := bulkF_len hp1
  refine T_seq ?_
  refine T_region hc ?_
  refine Ch.step (v := (.ptr 1000 0)) rfl (.box 1000 _ _ rfl (.aggD _)) rfl rfl ?_
  refine Ch.step (v := (.d (.bool false))) rfl (.pure (.assign _ rfl rfl)) rfl rfl ?_
  refine Ch.nil ?_
  refine T_seq ?_
  refine T_seq ?_
  refine T_region hc ?_
  refine Ch.step (v := (.ptr 1000 0)) rfl (.pure (.fldPtr _ _ _ rfl fld44_0 rfl)) rfl rfl ?_
  refine Ch.step (v := (.d (.slice false 2 (x.sigs.map Sgn.d)))) rfl (.pure (.loadPtr1 _ _ rfl ag41 rfl rfl rfl)) rfl rfl ?_
  refine Ch.step (v := (.d (.bool (sigsB x.sigs)))) rfl (.call 7000 87 _ _ _ en87 rfl (.inl rfl) (.cons (.d _) .nil) rfl rfl (sp_impl_areSignals x.sigs (by first | assumption | omega | (rw [List.length_take]; omega) | (have := bulkF_mem hb _ (getD_mem (d := default) (by omega)); assumption) | (unfold bulkS at *; omega) | (simp_all; done))) (.skip _ _ .nil) rfl) rfl rfl ?_
  refine Ch.step (v := (.d (.bool (!(sigsB x.sigs))))) rfl (.pure (.not _ _ rfl rfl)) rfl rfl ?_
  refine Ch.step (v := (.d (.bool (!(sigsB x.sigs))))) rfl (.pure (.move _ rfl rfl)) rfl rfl ?_
  cases h1 : (sigsB x.sigs) with
  | true =>
    refine Ch.step (v := (.ptr 1000 1)) rfl (.pure (.fldPtr _ _ _ rfl fld44_1 rfl)) rfl rfl ?_
    refine Ch.step (v := (.d (.slice false 4 (x.wires.map Wir.d)))) rfl (.pure (.loadPtr1 _ _ rfl ag42 rfl rfl rfl)) rfl rfl ?_
    refine Ch.step (v := (.d (.int .i64 ((x.wires.length : Nat) : Int)))) rfl (.pure (.len _ _ 82 rfl Try.underlying42 (.sh _ _) (by simp))) rfl rfl ?_
    refine Ch.step (v := (.ptr 1000 0)) rfl (.pure (.fldPtr _ _ _ rfl fld44_0 rfl)) rfl rfl ?_
    refine Ch.step (v := (.d (.slice false 2 (x.sigs.map Sgn.d)))) rfl (.pure (.loadPtr1 _ _ rfl ag41 rfl rfl rfl)) rfl rfl ?_
    refine Ch.step (v := (.d (.int .i64 ((x.sigs.length : Nat) : Int)))) rfl (.pure (.len _ _ 85 rfl Try.underlying41 (.sh _ _) (by simp))) rfl rfl ?_
    refine Ch.step (v := (.d (.bool (withinB ((x.wires.length : Nat) : Int) ((x.sigs.length : Nat) : Int) 24)))) rfl (.call 16000 98 _ _ _ en98 rfl (.inl rfl) (.cons (.d _) (.cons (.d _) (.cons (.d _) .nil))) rfl rfl (sp_impl_within ((x.wires.length : Nat) : Int) ((x.sigs.length : Nat) : Int) 24) (.skip _ _ (.skip _ _ (.skip _ _ .nil))) rfl) rfl rfl ?_
    refine Ch.step (v := (.d (.bool (!(withinB ((x.wires.length : Nat) : Int) ((x.sigs.length : Nat) : Int) 24))))) rfl (.pure (.not _ _ rfl rfl)) rfl rfl ?_
    refine Ch.step (v := (.d (.bool (!(withinB ((x.wires.length : Nat) : Int) ((x.sigs.length : Nat) : Int) 24))))) rfl (.pure (.pickF _ _ _ rfl rfl rfl)) rfl rfl ?_
    refine Ch.nil ?_
    refine T_cond (b := (!(withinB ((x.wires.length : Nat) : Int) ((x.sigs.length : Nat) : Int) 24))) rfl (fun h2 => ?_) (fun h2 => ?_)
    · replace h2 := nott h2
      refine T_seq ?_
      refine T_region hc ?_
      refine Ch.step (v := (.d (.bool false))) rfl (.pure (.assign _ rfl rfl)) rfl rfl ?_
      refine Ch.nil ?_
      refine T_ret ?_
      refine And.intro (.inr rfl) ?_
      exact Exists.intro [(.d (.bool false))] (Exists.intro [] (Exists.intro [] (And.intro (.cons (.tmp 2 rfl) .nil) (And.intro (.cons (.any _) .nil) (And.intro (Exp.of (congrArg D.bool (by first | (rw [netB, h1, h2, allB_no k (by omega) (by first | (simp only [wirOkI, seenB, *, decide_true, decide_false, Bool.and_true, Bool.true_and, Bool.and_false, Bool.false_and, Bool.or_false, Bool.false_or, Bool.or_true, Bool.true_or, Bool.not_true, Bool.not_false, not_false_eq_true, Bool.false_eq_true, if_true, if_false, reduceIte, ite_true, ite_false]; done) | (simp only [wirOkI, seenB, *, decide_true, decide_false, Bool.and_true, Bool.true_and, Bool.and_false, Bool.false_and, Bool.or_false, Bool.false_or, Bool.or_true, Bool.true_or, Bool.not_true, Bool.not_false, not_false_eq_true, Bool.false_eq_true, if_true, if_false, reduceIte, ite_true, ite_false]; rfl) | (simp only [wirOkI, seenB]; simp_all; done) | (simp only [wirOkI, seenB]; simp_all; omega))] <;> rfl) | (rw [netB, h1, h2, allB_of (fun j hj => hp0.2 j (by omega))] <;> rfl) | (rw [netB, h1, h2] <;> rfl) | (rw [netB, h1] <;> rfl))) (.d _)) (And.intro rfl rfl))))))
    · replace h2 := notf h2
      refine T_skip ?_
      refine T_seq ?_
      refine T_seq ?_
      refine T_region hc ?_
      refine Ch.step (v := (.ptr 1000 1)) rfl (.pure (.fldPtr _ _ _ rfl fld44_1 rfl)) rfl rfl ?_
      refine Ch.step (v := (.d (.slice false 4 (x.wires.map Wir.d)))) rfl (.pure (.loadPtr1 _ _ rfl ag42 rfl rfl rfl)) rfl rfl ?_
      refine Ch.step (v := (.d (.int .i64 ((x.wires.length : Nat) : Int)))) rfl (.pure (.len _ _ 82 rfl Try.underlying42 (.sh _ _) (by simp))) rfl rfl ?_
      refine Ch.step (v := (.d (.int .i64 0))) rfl (.pure (.move _ rfl rfl)) rfl rfl ?_
      refine Ch.nil ?_
      refine T_block ?_
      refine T_loop (ι := Nat) (fun k => { n := 90, sl := [(1, (.ptr 1000 0)), (20, (.d (.slice false 4 (x.wires.map Wir.d)))), (21, (.d (.int .i64 ((x.wires.length : Nat) : Int)))), (22, (.d (.int .i64 ((k : Nat) : Int))))], hp := [(1000, (some (.box [(.d (.slice false 2 (x.sigs.map Sgn.d))), (.d (.slice false 4 (x.wires.map Wir.d)))])))], pin := [] }) (fun k => k ≤ x.wires.length ∧ ∀ j, j < k → wirOkI x j = true) (fun k => x.wires.length - k) ⟨0, ⟨by omega, fun j hj => by omega⟩, (Wk.of rfl rfl (And.intro rfl (And.intro rfl (And.intro rfl (And.intro (vI (by first | rfl | omega | (simp; done) | (simp; omega))) trivial)))) (And.intro rfl trivial))⟩ (fun k hp0 => ?_)
      refine T_seq ?_
      refine T_region hc ?_
      refine Ch.step (v := (.d (.bool (decide (((k : Nat) : Int) < ((x.wires.length : Nat) : Int)))))) rfl (.pure (.int _ _ _ _ _ rfl rfl rfl rfl)) rfl rfl ?_
      refine Ch.nil ?_
      refine T_seq ?_
      refine T_cond (b := (decide (((k : Nat) : Int) < ((x.wires.length : Nat) : Int)))) rfl (fun h3 => ?_) (fun h3 => ?_)
      · replace h3 := of_decide_eq_true h3
        try have hkw : (x.wires.getD k default).bulk ≤ 1048576 := bulkF_mem hp1 _ (getD_mem (l := x.wires) (j := k) (d := default) (by omega))
        try have hwp := Wir.parts hkw
        try have hnm : (x.wires.getD k default).name.length ≤ 1048576 := hwp.1
        try have hin := bulkF_len hwp.2.1
        refine T_skip ?_
        refine T_seq ?_
        refine T_block ?_
        refine T_seq ?_
        refine T_region hc ?_
        refine Ch.step (v := (.d (.int .i64 ((k : Nat) : Int)))) rfl (.pure (.move _ rfl rfl)) rfl rfl ?_
        refine Ch.step (v := (.d (.ref (.agg [(.str ((x.wires.getD k default).name)), (.int .i64 ((x.wires.getD k default).kind)), (.slice false 2 (((x.wires.getD k default).ins).map Pin.d)), (.slice false 1 (((x.wires.getD k default).cov).map D.str))])))) rfl (.pure (.idx _ _ _ 82 (k) rfl Try.underlying42 sz82 rfl rfl rfl (get_map _ (by first | omega | (simp only [List.length_map, List.length_append, List.length_take, List.length_drop, List.length_cons, List.length_nil]; omega) | (simp; omega) | (simp; done))))) rfl rfl ?_
        refine Ch.step (v := (.d (.agg [(.str ((x.wires.getD k default).name)), (.int .i64 ((x.wires.getD k default).kind)), (.slice false 2 (((x.wires.getD k default).ins).map Pin.d)), (.slice false 1 (((x.wires.getD k default).cov).map D.str))]))) rfl (.pure (.loadRefA _ _ rfl ag82 sz82 rfl)) rfl rfl ?_
        refine Ch.step (v := (.ptr 4000 0)) rfl (.alloc 4000 _ rfl zer82) rfl rfl ?_
        refine Ch.step (v := (.d (.int .i64 ((k : Nat) : Int)))) rfl (.pure (.assign _ rfl rfl)) rfl rfl ?_
        refine Ch.step (v := .junk) rfl (.storePtr _ _ _ rfl rfl rfl (.aggD _) sz82 (Nat.le_of_ble_eq_true rfl)) rfl rfl ?_
        refine Ch.nil ?_
        refine T_seq ?_
        refine T_seq ?_
        refine T_regionD hc (by kernel_rfl) ?_
        refine ChD.step (v := (.agg [(.d (.slice false 2 (x.sigs.map Sgn.d))), (.d (.slice false 4 (x.wires.map Wir.d)))])) [1000] rfl (.pure (.loadPtrA _ _ rfl ag44 sz44 rfl rfl (Nat.le_of_ble_eq_true rfl) rfl)) rfl rfl ?_
        refine ChD.step (v := (.d (.int .i64 ((k : Nat) : Int)))) [] rfl (.pure (.move _ rfl rfl)) rfl rfl ?_
        refine ChD.step (v := (.d (.bool (wirI x k (x.wires.getD k default))))) [] rfl (.call 29000 108 _ _ _ en108 rfl (.inl rfl) (.cons (.lend (.agg (.cons (.d _) (.cons (.d _) .nil)) rfl)) (.cons (.d _) .nil)) rfl rfl (sp_impl_isWire x k (by first | assumption | omega | (rw [List.length_take]; omega) | (have := bulkF_mem hb _ (getD_mem (d := default) (by omega)); assumption) | (unfold bulkS at *; omega) | (simp_all; done)) (by first | assumption | omega | (rw [List.length_take]; omega) | (have := bulkF_mem hb _ (getD_mem (d := default) (by omega)); assumption) | (unfold bulkS at *; omega) | (simp_all; done))) (.skip _ _ (.skip _ _ .nil)) rfl) rfl rfl ?_
        refine ChD.step (v := (.d (.bool (!(wirI x k (x.wires.getD k default)))))) [] rfl (.pure (.not _ _ rfl rfl)) rfl rfl ?_
        refine ChD.step (v := (.d (.bool (!(wirI x k (x.wires.getD k default)))))) [] rfl (.pure (.move _ rfl rfl)) rfl rfl ?_
        cases h4 : (wirI x k (x.wires.getD k default)) with
        | true =>
          refine ChD.step (v := (.ptr 4000 0)) [] rfl (.pure (.fldPtr _ _ _ rfl fld82_0 rfl)) rfl rfl ?_
          refine ChD.step (v := (.d (.str ((x.wires.getD k default).name)))) [4000] rfl (.pure (.loadPtr1 _ _ rfl ag9 rfl rfl rfl)) rfl rfl ?_
          refine ChD.step (v := (.d (.bool (nameB ((x.wires.getD k default).name))))) [] rfl (.call 34000 109 _ _ _ en109 rfl (.inl rfl) (.cons (.d _) .nil) rfl rfl (sp_impl_isName ((x.wires.getD k default).name) (by first | omega | assumption | (exact hx _ (getD_mem (by omega))) | (exact hx _ (by assumption)) | (exact Nat.le_trans (hx _ (by assumption)) (by omega)) | (simp only [List.length_append, List.length_take, List.length_drop, List.length_cons, List.length_nil]; omega) | (simp_all; done))) (.skip _ _ .nil) rfl) rfl rfl ?_
          refine ChD.step (v := (.d (.bool (!(nameB ((x.wires.getD k default).name)))))) [] rfl (.pure (.not _ _ rfl rfl)) rfl rfl ?_
          refine ChD.step (v := (.d (.bool (!(nameB ((x.wires.getD k default).name)))))) [] rfl (.pure (.pickF _ _ _ rfl rfl rfl)) rfl rfl ?_
          refine ChD.step (v := (.d (.bool (!(nameB ((x.wires.getD k default).name)))))) [] rfl (.pure (.move _ rfl rfl)) rfl rfl ?_
          cases h5 : (nameB ((x.wires.getD k default).name)) with
          | true =>
            refine ChD.step (v := (.ptr 1000 1)) [] rfl (.pure (.fldPtr _ _ _ rfl fld44_1 rfl)) rfl rfl ?_
            refine ChD.step (v := (.d (.slice false 4 (x.wires.map Wir.d)))) [1000] rfl (.pure (.loadPtr1 _ _ rfl ag42 rfl rfl rfl)) rfl rfl ?_
            refine ChD.step (v := (.d (.int .i64 ((k : Nat) : Int)))) [] rfl (.pure (.move _ rfl rfl)) rfl rfl ?_
            refine ChD.step (v := (.d (.slice false 4 ((x.wires.take k).map Wir.d)))) [] rfl (.pure (.sliceSh _ _ _ _ 82 (0) (k) rfl Try.underlying42 sz82 rfl (bndN rfl) (bndS rfl rfl) (by simp <;> omega) (by simp <;> omega) (by simp [List.map_take, List.map_drop]))) rfl rfl ?_
            refine ChD.step (v := (.ptr 4000 0)) [] rfl (.pure (.fldPtr _ _ _ rfl fld82_0 rfl)) rfl rfl ?_
            refine ChD.step (v := (.d (.str ((x.wires.getD k default).name)))) [4000] rfl (.pure (.loadPtr1 _ _ rfl ag9 rfl rfl rfl)) rfl rfl ?_
            refine ChD.step (v := (.d (.int .i64 (ixF (fun w => decide (w.name = ((x.wires.getD k default).name))) (x.wires.take k))))) [] rfl (.call 44000 110 _ _ _ en110 rfl (.inl rfl) (.cons (.d _) (.cons (.d _) .nil)) rfl rfl (sp_impl_wireOf (x.wires.take k) ((x.wires.getD k default).name) (by first | assumption | omega | (rw [List.length_take]; omega) | (have := bulkF_mem hb _ (getD_mem (d := default) (by omega)); assumption) | (unfold bulkS at *; omega) | (simp_all; done))) (.skip _ _ (.skip _ _ .nil)) rfl) rfl rfl ?_
            refine ChD.step (v := (.d (.bool (decide (0 ≤ (ixF (fun w => decide (w.name = ((x.wires.getD k default).name))) (x.wires.take k))))))) [] rfl (.pure (.int _ _ _ _ _ rfl rfl rfl rfl)) rfl rfl ?_
            refine ChD.step (v := (.d (.bool (decide (0 ≤ (ixF (fun w => decide (w.name = ((x.wires.getD k default).name))) (x.wires.take k))))))) [] rfl (.pure (.pickF _ _ _ rfl rfl rfl)) rfl rfl ?_
            refine ChD.nil (And.intro ?_ (by kernel_rfl))
            refine T_cond (b := (decide (0 ≤ (ixF (fun w => decide (w.name = ((x.wires.getD k default).name))) (x.wires.take k))))) rfl (fun h6 => ?_) (fun h6 => ?_)
            · replace h6 := of_decide_eq_true h6
              try have hno := ix_yes h6
              try have hno := ix_none h6
              refine T_seq ?_
              refine T_region hc ?_
              refine Ch.step (v := (.d (.bool false))) rfl (.pure (.assign _ rfl rfl)) rfl rfl ?_
              refine Ch.nil ?_
              refine T_ret ?_
              refine And.intro (.inr rfl) ?_
              exact Exists.intro [(.d (.bool false))] (Exists.intro [] (Exists.intro [] (And.intro (.cons (.tmp 2 rfl) .nil) (And.intro (.cons (.any _) .nil) (And.intro (Exp.of (congrArg D.bool (by first | (rw [netB, h1, h2, allB_no k (by omega) (by first | (simp only [wirOkI, seenB, *, decide_true, decide_false, Bool.and_true, Bool.true_and, Bool.and_false, Bool.false_and, Bool.or_false, Bool.false_or, Bool.or_true, Bool.true_or, Bool.not_true, Bool.not_false, not_false_eq_true, Bool.false_eq_true, if_true, if_false, reduceIte, ite_true, ite_false]; done) | (simp only [wirOkI, seenB, *, decide_true, decide_false, Bool.and_true, Bool.true_and, Bool.and_false, Bool.false_and, Bool.or_false, Bool.false_or, Bool.or_true, Bool.true_or, Bool.not_true, Bool.not_false, not_false_eq_true, Bool.false_eq_true, if_true, if_false, reduceIte, ite_true, ite_false]; rfl) | (simp only [wirOkI, seenB]; simp_all; done) | (simp only [wirOkI, seenB]; simp_all; omega))] <;> rfl) | (rw [netB, h1, h2, allB_of (fun j hj => hp0.2 j (by omega))] <;> rfl) | (rw [netB, h1, h2] <;> rfl) | (rw [netB, h1] <;> rfl))) (.d _)) (And.intro rfl rfl))))))
            · replace h6 := of_decide_eq_false h6
              try have hno := ix_yes h6
              try have hno := ix_none h6
              refine T_skip ?_
              refine T_seq ?_
              refine T_region hc ?_
              refine Ch.step (v := (.d (.int .i64 ((k : Nat) : Int)))) rfl (.pure (.move _ rfl rfl)) rfl rfl ?_
              refine Ch.step (v := (.ptr 1000 0)) rfl (.pure (.fldPtr _ _ _ rfl fld44_0 rfl)) rfl rfl ?_
              refine Ch.step (v := (.d (.slice false 2 (x.sigs.map Sgn.d)))) rfl (.pure (.loadPtr1 _ _ rfl ag41 rfl rfl rfl)) rfl rfl ?_
              refine Ch.step (v := (.d (.int .i64 ((x.sigs.length : Nat) : Int)))) rfl (.pure (.len _ _ 85 rfl Try.underlying41 (.sh _ _) (by simp))) rfl rfl ?_
              refine Ch.step (v := (.d (.bool (decide (((k : Nat) : Int) < ((x.sigs.length : Nat) : Int)))))) rfl (.pure (.int _ _ _ _ _ rfl rfl rfl rfl)) rfl rfl ?_
              refine Ch.nil ?_
              refine T_cond (b := (decide (((k : Nat) : Int) < ((x.sigs.length : Nat) : Int)))) rfl (fun h7 => ?_) (fun h7 => ?_)
              · replace h7 := of_decide_eq_true h7
                refine T_seq ?_
                refine T_regionD hc (by kernel_rfl) ?_
                refine ChD.step (v := (.ptr 4000 0)) [] rfl (.pure (.fldPtr _ _ _ rfl fld82_0 rfl)) rfl rfl ?_
                refine ChD.step (v := (.d (.str ((x.wires.getD k default).name)))) [4000] rfl (.pure (.loadPtr1 _ _ rfl ag9 rfl rfl rfl)) rfl rfl ?_
                refine ChD.step (v := (.ptr 1000 0)) [] rfl (.pure (.fldPtr _ _ _ rfl fld44_0 rfl)) rfl rfl ?_
                refine ChD.step (v := (.d (.slice false 2 (x.sigs.map Sgn.d)))) [1000] rfl (.pure (.loadPtr1 _ _ rfl ag41 rfl rfl rfl)) rfl rfl ?_
                refine ChD.step (v := (.d (.int .i64 ((k : Nat) : Int)))) [] rfl (.pure (.move _ rfl rfl)) rfl rfl ?_
                refine ChD.step (v := (.d (.ref (.agg [(.str ((x.sigs.getD k default).name)), (.int .i64 ((x.sigs.getD k default).kind))])))) [] rfl (.pure (.idx _ _ _ 85 (k) rfl Try.underlying41 sz85 rfl rfl rfl (get_map _ (by first | omega | (simp only [List.length_map, List.length_append, List.length_take, List.length_drop, List.length_cons, List.length_nil]; omega) | (simp; omega) | (simp; done))))) rfl rfl ?_
                refine ChD.step (v := (.d (.ref (.str ((x.sigs.getD k default).name))))) [] rfl (.pure (.fldRef _ _ _ rfl fld85_0 rfl rfl rfl)) rfl rfl ?_
                refine ChD.step (v := (.d (.str ((x.sigs.getD k default).name)))) [] rfl (.pure (.loadRef1 _ _ rfl ag9 rfl rfl)) rfl rfl ?_
                refine ChD.step (v := (.d (.bool (!(decide (((x.wires.getD k default).name) = ((x.sigs.getD k default).name))))))) [] rfl (.pure (.str _ _ _ _ _ rfl rfl rfl rfl)) rfl rfl ?_
                refine ChD.step (v := (.d (.bool (!(decide (((x.wires.getD k default).name) = ((x.sigs.getD k default).name))))))) [] rfl (.pure (.move _ rfl rfl)) rfl rfl ?_
                cases h8 : (decide (((x.wires.getD k default).name) = ((x.sigs.getD k default).name))) with
                | true =>
                  replace h8 := of_decide_eq_true h8
                  refine ChD.step (v := (.ptr 4000 1)) [] rfl (.pure (.fldPtr _ _ _ rfl fld82_1 rfl)) rfl rfl ?_
                  refine ChD.step (v := (.d (.int .i64 ((x.wires.getD k default).kind)))) [4000] rfl (.pure (.loadPtr1 _ _ rfl ag3 rfl rfl rfl)) rfl rfl ?_
                  refine ChD.step (v := (.d (.bool (decide (((x.wires.getD k default).kind) = 1))))) [] rfl (.pure (.int _ _ _ _ _ rfl rfl rfl rfl)) rfl rfl ?_
                  refine ChD.step (v := (.ptr 1000 0)) [] rfl (.pure (.fldPtr _ _ _ rfl fld44_0 rfl)) rfl rfl ?_
                  refine ChD.step (v := (.d (.slice false 2 (x.sigs.map Sgn.d)))) [1000] rfl (.pure (.loadPtr1 _ _ rfl ag41 rfl rfl rfl)) rfl rfl ?_
                  refine ChD.step (v := (.d (.int .i64 ((k : Nat) : Int)))) [] rfl (.pure (.move _ rfl rfl)) rfl rfl ?_
                  refine ChD.step (v := (.d (.ref (.agg [(.str ((x.sigs.getD k default).name)), (.int .i64 ((x.sigs.getD k default).kind))])))) [] rfl (.pure (.idx _ _ _ 85 (k) rfl Try.underlying41 sz85 rfl rfl rfl (get_map _ (by first | omega | (simp only [List.length_map, List.length_append, List.length_take, List.length_drop, List.length_cons, List.length_nil]; omega) | (simp; omega) | (simp; done))))) rfl rfl ?_
                  refine ChD.step (v := (.d (.ref (.int .i64 ((x.sigs.getD k default).kind))))) [] rfl (.pure (.fldRef _ _ _ rfl fld85_1 rfl rfl rfl)) rfl rfl ?_
                  refine ChD.step (v := (.d (.int .i64 ((x.sigs.getD k default).kind)))) [] rfl (.pure (.loadRef1 _ _ rfl ag3 rfl rfl)) rfl rfl ?_
                  refine ChD.step (v := (.d (.bool (decide (((x.sigs.getD k default).kind) = 1))))) [] rfl (.pure (.int _ _ _ _ _ rfl rfl rfl rfl)) rfl rfl ?_
                  refine ChD.step (v := (.d (.bool (!(decide ((decide (((x.wires.getD k default).kind) = 1)) = (decide (((x.sigs.getD k default).kind) = 1)))))))) [] rfl (.pure (.neB _ _ _ _ rfl Try.underlying4 rfl rfl)) rfl rfl ?_
                  refine ChD.step (v := (.d (.bool (!(decide ((decide (((x.wires.getD k default).kind) = 1)) = (decide (((x.sigs.getD k default).kind) = 1)))))))) [] rfl (.pure (.pickF _ _ _ rfl rfl rfl)) rfl rfl ?_
                  refine ChD.nil (And.intro ?_ (by kernel_rfl))
                  refine T_cond (b := (!(decide ((decide (((x.wires.getD k default).kind) = 1)) = (decide (((x.sigs.getD k default).kind) = 1)))))) rfl (fun h9 => ?_) (fun h9 => ?_)
                  · replace h9 := nott h9
                    replace h9 := of_decide_eq_false h9
                    refine T_seq ?_
                    refine T_region hc ?_
                    refine Ch.step (v := (.d (.bool false))) rfl (.pure (.assign _ rfl rfl)) rfl rfl ?_
                    refine Ch.nil ?_
                    refine T_ret ?_
                    refine And.intro (.inr rfl) ?_
                    exact Exists.intro [(.d (.bool false))] (Exists.intro [] (Exists.intro [] (And.intro (.cons (.tmp 2 rfl) .nil) (And.intro (.cons (.any _) .nil) (And.intro (Exp.of (congrArg D.bool (by first | (rw [netB, h1, h2, allB_no k (by omega) (by first | (simp only [wirOkI, seenB, *, decide_true, decide_false, Bool.and_true, Bool.true_and, Bool.and_false, Bool.false_and, Bool.or_false, Bool.false_or, Bool.or_true, Bool.true_or, Bool.not_true, Bool.not_false, not_false_eq_true, Bool.false_eq_true, if_true, if_false, reduceIte, ite_true, ite_false]; done) | (simp only [wirOkI, seenB, *, decide_true, decide_false, Bool.and_true, Bool.true_and, Bool.and_false, Bool.false_and, Bool.or_false, Bool.false_or, Bool.or_true, Bool.true_or, Bool.not_true, Bool.not_false, not_false_eq_true, Bool.false_eq_true, if_true, if_false, reduceIte, ite_true, ite_false]; rfl) | (simp only [wirOkI, seenB]; simp_all; done) | (simp only [wirOkI, seenB]; simp_all; omega))] <;> rfl) | (rw [netB, h1, h2, allB_of (fun j hj => hp0.2 j (by omega))] <;> rfl) | (rw [netB, h1, h2] <;> rfl) | (rw [netB, h1] <;> rfl))) (.d _)) (And.intro rfl rfl))))))
                  · replace h9 := notf h9
                    replace h9 := of_decide_eq_true h9
                    refine T_skip ?_
                    refine T_region hc ?_
                    refine Ch.step (v := (.d (.int .i64 (((k : Nat) : Int) + 1)))) rfl (.pure (.int _ _ _ _ _ rfl rfl rfl (intV_add (by first | omega | (simp only [List.length_map, List.length_append, List.length_take, List.length_drop, List.length_cons, List.length_nil]; omega) | (simp; omega) | (simp; done)) (by first | omega | (simp only [List.length_map, List.length_append, List.length_take, List.length_drop, List.length_cons, List.length_nil]; omega) | (simp; omega) | (simp; done))))) rfl rfl ?_
                    refine Ch.step (v := (.d (.int .i64 (((k : Nat) : Int) + 1)))) rfl (.pure (.move _ rfl rfl)) rfl rfl ?_
                    refine Ch.nil ?_
                    refine Exists.intro (k + 1) (And.intro ⟨by omega, upto_succ hp0.2 (by first | (simp only [wirOkI, seenB, *, decide_true, decide_false, Bool.and_true, Bool.true_and, Bool.and_false, Bool.false_and, Bool.or_false, Bool.false_or, Bool.or_true, Bool.true_or, Bool.not_true, Bool.not_false, not_false_eq_true, Bool.false_eq_true, if_true, if_false, reduceIte, ite_true, ite_false]; done) | (simp only [wirOkI, seenB, *, decide_true, decide_false, Bool.and_true, Bool.true_and, Bool.and_false, Bool.false_and, Bool.or_false, Bool.false_or, Bool.or_true, Bool.true_or, Bool.not_true, Bool.not_false, not_false_eq_true, Bool.false_eq_true, if_true, if_false, reduceIte, ite_true, ite_false]; rfl) | (simp only [wirOkI, seenB]; simp_all; done) | (simp only [wirOkI, seenB]; simp_all; omega))⟩ (And.intro (by first | omega | (dsimp only; omega)) (Wk.of rfl rfl (And.intro rfl (And.intro rfl (And.intro rfl (And.intro (vI (by first | rfl | omega | (simp; done) | (simp; omega))) trivial)))) (And.intro rfl trivial))))
                | false =>
                  replace h8 := of_decide_eq_false h8
                  refine ChD.skip rfl rfl ?_
                  refine ChD.skip rfl rfl ?_
                  refine ChD.skip rfl rfl ?_
                  refine ChD.skip rfl rfl ?_
                  refine ChD.skip rfl rfl ?_
                  refine ChD.skip rfl rfl ?_
                  refine ChD.skip rfl rfl ?_
                  refine ChD.skip rfl rfl ?_
                  refine ChD.skip rfl rfl ?_
                  refine ChD.skip rfl rfl ?_
                  refine ChD.skip rfl rfl ?_
                  refine ChD.step (v := (.d (.bool true))) [] rfl (.pure (.pickT _ _ _ rfl rfl rfl)) rfl rfl ?_
                  refine ChD.nil (And.intro ?_ (by kernel_rfl))
                  refine T_cond (b := true) rfl (fun _ => ?_) (fun h => nomatch h)
                  refine T_seq ?_
                  refine T_region hc ?_
                  refine Ch.step (v := (.d (.bool false))) rfl (.pure (.assign _ rfl rfl)) rfl rfl ?_
                  refine Ch.nil ?_
                  refine T_ret ?_
                  refine And.intro (.inr rfl) ?_
                  exact Exists.intro [(.d (.bool false))] (Exists.intro [] (Exists.intro [] (And.intro (.cons (.tmp 2 rfl) .nil) (And.intro (.cons (.any _) .nil) (And.intro (Exp.of (congrArg D.bool (by first | (rw [netB, h1, h2, allB_no k (by omega) (by first | (simp only [wirOkI, seenB, *, decide_true, decide_false, Bool.and_true, Bool.true_and, Bool.and_false, Bool.false_and, Bool.or_false, Bool.false_or, Bool.or_true, Bool.true_or, Bool.not_true, Bool.not_false, not_false_eq_true, Bool.false_eq_true, if_true, if_false, reduceIte, ite_true, ite_false]; done) | (simp only [wirOkI, seenB, *, decide_true, decide_false, Bool.and_true, Bool.true_and, Bool.and_false, Bool.false_and, Bool.or_false, Bool.false_or, Bool.or_true, Bool.true_or, Bool.not_true, Bool.not_false, not_false_eq_true, Bool.false_eq_true, if_true, if_false, reduceIte, ite_true, ite_false]; rfl) | (simp only [wirOkI, seenB]; simp_all; done) | (simp only [wirOkI, seenB]; simp_all; omega))] <;> rfl) | (rw [netB, h1, h2, allB_of (fun j hj => hp0.2 j (by omega))] <;> rfl) | (rw [netB, h1, h2] <;> rfl) | (rw [netB, h1] <;> rfl))) (.d _)) (And.intro rfl rfl))))))
              · replace h7 := of_decide_eq_false h7
                refine T_seq ?_
                refine T_region hc ?_
                refine Ch.step (v := (.ptr 4000 1)) rfl (.pure (.fldPtr _ _ _ rfl fld82_1 rfl)) rfl rfl ?_
                refine Ch.step (v := (.d (.int .i64 ((x.wires.getD k default).kind)))) rfl (.pure (.loadPtr1 _ _ rfl ag3 rfl rfl rfl)) rfl rfl ?_
                refine Ch.step (v := (.d (.bool (!(decide (((x.wires.getD k default).kind) = 2)))))) rfl (.pure (.int _ _ _ _ _ rfl rfl rfl rfl)) rfl rfl ?_
                refine Ch.step (v := (.d (.bool (!(decide (((x.wires.getD k default).kind) = 2)))))) rfl (.pure (.move _ rfl rfl)) rfl rfl ?_
                cases h10 : (decide (((x.wires.getD k default).kind) = 2)) with
                | true =>
                  replace h10 := of_decide_eq_true h10
                  refine Ch.skip rfl rfl ?_
                  refine Ch.skip rfl rfl ?_
                  refine Ch.skip rfl rfl ?_
                  refine Ch.step (v := (.d (.bool false))) rfl (.pure (.pickF _ _ _ rfl rfl rfl)) rfl rfl ?_
                  refine Ch.step (v := (.d (.bool false))) rfl (.pure (.move _ rfl rfl)) rfl rfl ?_
                  refine Ch.step (v := (.ptr 4000 2)) rfl (.pure (.fldPtr _ _ _ rfl fld82_2 rfl)) rfl rfl ?_
                  refine Ch.step (v := (.d (.slice false 2 (((x.wires.getD k default).ins).map Pin.d)))) rfl (.pure (.loadPtr1 _ _ rfl ag80 rfl rfl rfl)) rfl rfl ?_
                  refine Ch.step (v := (.d (.int .i64 ((k : Nat) : Int)))) rfl (.pure (.move _ rfl rfl)) rfl rfl ?_
                  refine Ch.step (v := (.d (.bool (pinsB ((x.wires.getD k default).ins) ((k : Nat) : Int))))) rfl (.call 86000 111 _ _ _ en111 rfl (.inl rfl) (.cons (.d _) (.cons (.d _) .nil)) rfl rfl (sp_impl_arePins ((x.wires.getD k default).ins) ((k : Nat) : Int) (by first | assumption | omega | (rw [List.length_take]; omega) | (have := bulkF_mem hb _ (getD_mem (d := default) (by omega)); assumption) | (unfold bulkS at *; omega) | (simp_all; done)) (by first | assumption | omega | (rw [List.length_take]; omega) | (have := bulkF_mem hb _ (getD_mem (d := default) (by omega)); assumption) | (unfold bulkS at *; omega) | (simp_all; done)) (by first | assumption | omega | (rw [List.length_take]; omega) | (have := bulkF_mem hb _ (getD_mem (d := default) (by omega)); assumption) | (unfold bulkS at *; omega) | (simp_all; done))) (.skip _ _ (.skip _ _ .nil)) rfl) rfl rfl ?_
                  refine Ch.step (v := (.d (.bool (!(pinsB ((x.wires.getD k default).ins) ((k : Nat) : Int)))))) rfl (.pure (.not _ _ rfl rfl)) rfl rfl ?_
                  refine Ch.step (v := (.d (.bool (!(pinsB ((x.wires.getD k default).ins) ((k : Nat) : Int)))))) rfl (.pure (.pickF _ _ _ rfl rfl rfl)) rfl rfl ?_
                  refine Ch.nil ?_
                  refine T_cond (b := (!(pinsB ((x.wires.getD k default).ins) ((k : Nat) : Int)))) rfl (fun h11 => ?_) (fun h11 => ?_)
                  · replace h11 := nott h11
                    refine T_seq ?_
                    refine T_region hc ?_
                    refine Ch.step (v := (.d (.bool false))) rfl (.pure (.assign _ rfl rfl)) rfl rfl ?_
                    refine Ch.nil ?_
                    refine T_ret ?_
                    refine And.intro (.inr rfl) ?_
                    exact Exists.intro [(.d (.bool false))] (Exists.intro [] (Exists.intro [] (And.intro (.cons (.tmp 2 rfl) .nil) (And.intro (.cons (.any _) .nil) (And.intro (Exp.of (congrArg D.bool (by first | (rw [netB, h1, h2, allB_no k (by omega) (by first | (simp only [wirOkI, seenB, *, decide_true, decide_false, Bool.and_true, Bool.true_and, Bool.and_false, Bool.false_and, Bool.or_false, Bool.false_or, Bool.or_true, Bool.true_or, Bool.not_true, Bool.not_false, not_false_eq_true, Bool.false_eq_true, if_true, if_false, reduceIte, ite_true, ite_false]; done) | (simp only [wirOkI, seenB, *, decide_true, decide_false, Bool.and_true, Bool.true_and, Bool.and_false, Bool.false_and, Bool.or_false, Bool.false_or, Bool.or_true, Bool.true_or, Bool.not_true, Bool.not_false, not_false_eq_true, Bool.false_eq_true, if_true, if_false, reduceIte, ite_true, ite_false]; rfl) | (simp only [wirOkI, seenB]; simp_all; done) | (simp only [wirOkI, seenB]; simp_all; omega))] <;> rfl) | (rw [netB, h1, h2, allB_of (fun j hj => hp0.2 j (by omega))] <;> rfl) | (rw [netB, h1, h2] <;> rfl) | (rw [netB, h1] <;> rfl))) (.d _)) (And.intro rfl rfl))))))
                  · replace h11 := notf h11
                    refine T_skip ?_
                    refine T_region hc ?_
                    refine Ch.step (v := (.d (.int .i64 (((k : Nat) : Int) + 1)))) rfl (.pure (.int _ _ _ _ _ rfl rfl rfl (intV_add (by first | omega | (simp only [List.length_map, List.length_append, List.length_take, List.length_drop, List.length_cons, List.length_nil]; omega) | (simp; omega) | (simp; done)) (by first | omega | (simp only [List.length_map, List.length_append, List.length_take, List.length_drop, List.length_cons, List.length_nil]; omega) | (simp; omega) | (simp; done))))) rfl rfl ?_
                    refine Ch.step (v := (.d (.int .i64 (((k : Nat) : Int) + 1)))) rfl (.pure (.move _ rfl rfl)) rfl rfl ?_
                    refine Ch.nil ?_
                    refine Exists.intro (k + 1) (And.intro ⟨by omega, upto_succ hp0.2 (by first | (simp only [wirOkI, seenB, *, decide_true, decide_false, Bool.and_true, Bool.true_and, Bool.and_false, Bool.false_and, Bool.or_false, Bool.false_or, Bool.or_true, Bool.true_or, Bool.not_true, Bool.not_false, not_false_eq_true, Bool.false_eq_true, if_true, if_false, reduceIte, ite_true, ite_false]; done) | (simp only [wirOkI, seenB, *, decide_true, decide_false, Bool.and_true, Bool.true_and, Bool.and_false, Bool.false_and, Bool.or_false, Bool.false_or, Bool.or_true, Bool.true_or, Bool.not_true, Bool.not_false, not_false_eq_true, Bool.false_eq_true, if_true, if_false, reduceIte, ite_true, ite_false]; rfl) | (simp only [wirOkI, seenB]; simp_all; done) | (simp only [wirOkI, seenB]; simp_all; omega))⟩ (And.intro (by first | omega | (dsimp only; omega)) (Wk.of rfl rfl (And.intro rfl (And.intro rfl (And.intro rfl (And.intro (vI (by first | rfl | omega | (simp; done) | (simp; omega))) trivial)))) (And.intro rfl trivial))))
                | false =>
                  replace h10 := of_decide_eq_false h10
                  refine Ch.step (v := (.ptr 4000 1)) rfl (.pure (.fldPtr _ _ _ rfl fld82_1 rfl)) rfl rfl ?_
                  refine Ch.step (v := (.d (.int .i64 ((x.wires.getD k default).kind)))) rfl (.pure (.loadPtr1 _ _ rfl ag3 rfl rfl rfl)) rfl rfl ?_
                  refine Ch.step (v := (.d (.bool (!(decide (((x.wires.getD k default).kind) = 3)))))) rfl (.pure (.int _ _ _ _ _ rfl rfl rfl rfl)) rfl rfl ?_
                  refine Ch.step (v := (.d (.bool (!(decide (((x.wires.getD k default).kind) = 3)))))) rfl (.pure (.pickT _ _ _ rfl rfl rfl)) rfl rfl ?_
                  refine Ch.step (v := (.d (.bool (!(decide (((x.wires.getD k default).kind) = 3)))))) rfl (.pure (.move _ rfl rfl)) rfl rfl ?_
                  cases h12 : (decide (((x.wires.getD k default).kind) = 3)) with
                  | true =>
                    replace h12 := of_decide_eq_true h12
                    refine Ch.step (v := (.ptr 4000 2)) rfl (.pure (.fldPtr _ _ _ rfl fld82_2 rfl)) rfl rfl ?_
                    refine Ch.step (v := (.d (.slice false 2 (((x.wires.getD k default).ins).map Pin.d)))) rfl (.pure (.loadPtr1 _ _ rfl ag80 rfl rfl rfl)) rfl rfl ?_
                    refine Ch.step (v := (.d (.int .i64 ((k : Nat) : Int)))) rfl (.pure (.move _ rfl rfl)) rfl rfl ?_
                    refine Ch.step (v := (.d (.bool (pinsB ((x.wires.getD k default).ins) ((k : Nat) : Int))))) rfl (.call 86000 111 _ _ _ en111 rfl (.inl rfl) (.cons (.d _) (.cons (.d _) .nil)) rfl rfl (sp_impl_arePins ((x.wires.getD k default).ins) ((k : Nat) : Int) (by first | assumption | omega | (rw [List.length_take]; omega) | (have := bulkF_mem hb _ (getD_mem (d := default) (by omega)); assumption) | (unfold bulkS at *; omega) | (simp_all; done)) (by first | assumption | omega | (rw [List.length_take]; omega) | (have := bulkF_mem hb _ (getD_mem (d := default) (by omega)); assumption) | (unfold bulkS at *; omega) | (simp_all; done)) (by first | assumption | omega | (rw [List.length_take]; omega) | (have := bulkF_mem hb _ (getD_mem (d := default) (by omega)); assumption) | (unfold bulkS at *; omega) | (simp_all; done))) (.skip _ _ (.skip _ _ .nil)) rfl) rfl rfl ?_
                    refine Ch.step (v := (.d (.bool (!(pinsB ((x.wires.getD k default).ins) ((k : Nat) : Int)))))) rfl (.pure (.not _ _ rfl rfl)) rfl rfl ?_
                    refine Ch.step (v := (.d (.bool (!(pinsB ((x.wires.getD k default).ins) ((k : Nat) : Int)))))) rfl (.pure (.pickF _ _ _ rfl rfl rfl)) rfl rfl ?_
                    refine Ch.nil ?_
                    refine T_cond (b := (!(pinsB ((x.wires.getD k default).ins) ((k : Nat) : Int)))) rfl (fun h13 => ?_) (fun h13 => ?_)
                    · replace h13 := nott h13
                      refine T_seq ?_
                      refine T_region hc ?_
                      refine Ch.step (v := (.d (.bool false))) rfl (.pure (.assign _ rfl rfl)) rfl rfl ?_
                      refine Ch.nil ?_
                      refine T_ret ?_
                      refine And.intro (.inr rfl) ?_
                      exact Exists.intro [(.d (.bool false))] (Exists.intro [] (Exists.intro [] (And.intro (.cons (.tmp 2 rfl) .nil) (And.intro (.cons (.any _) .nil) (And.intro (Exp.of (congrArg D.bool (by first | (rw [netB, h1, h2, allB_no k (by omega) (by first | (simp only [wirOkI, seenB, *, decide_true, decide_false, Bool.and_true, Bool.true_and, Bool.and_false, Bool.false_and, Bool.or_false, Bool.false_or, Bool.or_true, Bool.true_or, Bool.not_true, Bool.not_false, not_false_eq_true, Bool.false_eq_true, if_true, if_false, reduceIte, ite_true, ite_false]; done) | (simp only [wirOkI, seenB, *, decide_true, decide_false, Bool.and_true, Bool.true_and, Bool.and_false, Bool.false_and, Bool.or_false, Bool.false_or, Bool.or_true, Bool.true_or, Bool.not_true, Bool.not_false, not_false_eq_true, Bool.false_eq_true, if_true, if_false, reduceIte, ite_true, ite_false]; rfl) | (simp only [wirOkI, seenB]; simp_all; done) | (simp only [wirOkI, seenB]; simp_all; omega))] <;> rfl) | (rw [netB, h1, h2, allB_of (fun j hj => hp0.2 j (by omega))] <;> rfl) | (rw [netB, h1, h2] <;> rfl) | (rw [netB, h1] <;> rfl))) (.d _)) (And.intro rfl rfl))))))
                    · replace h13 := notf h13
                      refine T_skip ?_
                      refine T_region hc ?_
                      refine Ch.step (v := (.d (.int .i64 (((k : Nat) : Int) + 1)))) rfl (.pure (.int _ _ _ _ _ rfl rfl rfl (intV_add (by first | omega | (simp only [List.length_map, List.length_append, List.length_take, List.length_drop, List.length_cons, List.length_nil]; omega) | (simp; omega) | (simp; done)) (by first | omega | (simp only [List.length_map, List.length_append, List.length_take, List.length_drop, List.length_cons, List.length_nil]; omega) | (simp; omega) | (simp; done))))) rfl rfl ?_
                      refine Ch.step (v := (.d (.int .i64 (((k : Nat) : Int) + 1)))) rfl (.pure (.move _ rfl rfl)) rfl rfl ?_
                      refine Ch.nil ?_
                      refine Exists.intro (k + 1) (And.intro ⟨by omega, upto_succ hp0.2 (by first | (simp only [wirOkI, seenB, *, decide_true, decide_false, Bool.and_true, Bool.true_and, Bool.and_false, Bool.false_and, Bool.or_false, Bool.false_or, Bool.or_true, Bool.true_or, Bool.not_true, Bool.not_false, not_false_eq_true, Bool.false_eq_true, if_true, if_false, reduceIte, ite_true, ite_false]; done) | (simp only [wirOkI, seenB, *, decide_true, decide_false, Bool.and_true, Bool.true_and, Bool.and_false, Bool.false_and, Bool.or_false, Bool.false_or, Bool.or_true, Bool.true_or, Bool.not_true, Bool.not_false, not_false_eq_true, Bool.false_eq_true, if_true, if_false, reduceIte, ite_true, ite_false]; rfl) | (simp only [wirOkI, seenB]; simp_all; done) | (simp only [wirOkI, seenB]; simp_all; omega))⟩ (And.intro (by first | omega | (dsimp only; omega)) (Wk.of rfl rfl (And.intro rfl (And.intro rfl (And.intro rfl (And.intro (vI (by first | rfl | omega | (simp; done) | (simp; omega))) trivial)))) (And.intro rfl trivial))))
                  | false =>
                    replace h12 := of_decide_eq_false h12
                    refine Ch.skip rfl rfl ?_
                    refine Ch.skip rfl rfl ?_
                    refine Ch.skip rfl rfl ?_
                    refine Ch.skip rfl rfl ?_
                    refine Ch.skip rfl rfl ?_
                    refine Ch.step (v := (.d (.bool true))) rfl (.pure (.pickT _ _ _ rfl rfl rfl)) rfl rfl ?_
                    refine Ch.nil ?_
                    refine T_cond (b := true) rfl (fun _ => ?_) (fun h => nomatch h)
                    refine T_seq ?_
                    refine T_region hc ?_
                    refine Ch.step (v := (.d (.bool false))) rfl (.pure (.assign _ rfl rfl)) rfl rfl ?_
                    refine Ch.nil ?_
                    refine T_ret ?_
                    refine And.intro (.inr rfl) ?_
                    exact Exists.intro [(.d (.bool false))] (Exists.intro [] (Exists.intro [] (And.intro (.cons (.tmp 2 rfl) .nil) (And.intro (.cons (.any _) .nil) (And.intro (Exp.of (congrArg D.bool (by first | (rw [netB, h1, h2, allB_no k (by omega) (by first | (simp only [wirOkI, seenB, *, decide_true, decide_false, Bool.and_true, Bool.true_and, Bool.and_false, Bool.false_and, Bool.or_false, Bool.false_or, Bool.or_true, Bool.true_or, Bool.not_true, Bool.not_false, not_false_eq_true, Bool.false_eq_true, if_true, if_false, reduceIte, ite_true, ite_false]; done) | (simp only [wirOkI, seenB, *, decide_true, decide_false, Bool.and_true, Bool.true_and, Bool.and_false, Bool.false_and, Bool.or_false, Bool.false_or, Bool.or_true, Bool.true_or, Bool.not_true, Bool.not_false, not_false_eq_true, Bool.false_eq_true, if_true, if_false, reduceIte, ite_true, ite_false]; rfl) | (simp only [wirOkI, seenB]; simp_all; done) | (simp only [wirOkI, seenB]; simp_all; omega))] <;> rfl) | (rw [netB, h1, h2, allB_of (fun j hj => hp0.2 j (by omega))] <;> rfl) | (rw [netB, h1, h2] <;> rfl) | (rw [netB, h1] <;> rfl))) (.d _)) (And.intro rfl rfl))))))
          | false =>
            refine ChD.skip rfl rfl ?_
            refine ChD.skip rfl rfl ?_
            refine ChD.skip rfl rfl ?_
            refine ChD.skip rfl rfl ?_
            refine ChD.skip rfl rfl ?_
            refine ChD.skip rfl rfl ?_
            refine ChD.skip rfl rfl ?_
            refine ChD.skip rfl rfl ?_
            refine ChD.step (v := (.d (.bool true))) [] rfl (.pure (.pickT _ _ _ rfl rfl rfl)) rfl rfl ?_
            refine ChD.nil (And.intro ?_ (by kernel_rfl))
            refine T_cond (b := true) rfl (fun _ => ?_) (fun h => nomatch h)
            refine T_seq ?_
            refine T_region hc ?_
            refine Ch.step (v := (.d (.bool false))) rfl (.pure (.assign _ rfl rfl)) rfl rfl ?_
            refine Ch.nil ?_
            refine T_ret ?_
            refine And.intro (.inr rfl) ?_
            exact Exists.intro [(.d (.bool false))] (Exists.intro [] (Exists.intro [] (And.intro (.cons (.tmp 2 rfl) .nil) (And.intro (.cons (.any _) .nil) (And.intro (Exp.of (congrArg D.bool (by first | (rw [netB, h1, h2, allB_no k (by omega) (by first | (simp only [wirOkI, seenB, *, decide_true, decide_false, Bool.and_true, Bool.true_and, Bool.and_false, Bool.false_and, Bool.or_false, Bool.false_or, Bool.or_true, Bool.true_or, Bool.not_true, Bool.not_false, not_false_eq_true, Bool.false_eq_true, if_true, if_false, reduceIte, ite_true, ite_false]; done) | (simp only [wirOkI, seenB, *, decide_true, decide_false, Bool.and_true, Bool.true_and, Bool.and_false, Bool.false_and, Bool.or_false, Bool.false_or, Bool.or_true, Bool.true_or, Bool.not_true, Bool.not_false, not_false_eq_true, Bool.false_eq_true, if_true, if_false, reduceIte, ite_true, ite_false]; rfl) | (simp only [wirOkI, seenB]; simp_all; done) | (simp only [wirOkI, seenB]; simp_all; omega))] <;> rfl) | (rw [netB, h1, h2, allB_of (fun j hj => hp0.2 j (by omega))] <;> rfl) | (rw [netB, h1, h2] <;> rfl) | (rw [netB, h1] <;> rfl))) (.d _)) (And.intro rfl rfl))))))
        | false =>
          refine ChD.skip rfl rfl ?_
          refine ChD.skip rfl rfl ?_
          refine ChD.skip rfl rfl ?_
          refine ChD.skip rfl rfl ?_
          refine ChD.step (v := (.d (.bool true))) [] rfl (.pure (.pickT _ _ _ rfl rfl rfl)) rfl rfl ?_
          refine ChD.step (v := (.d (.bool true))) [] rfl (.pure (.move _ rfl rfl)) rfl rfl ?_
          refine ChD.skip rfl rfl ?_
          refine ChD.skip rfl rfl ?_
          refine ChD.skip rfl rfl ?_
          refine ChD.skip rfl rfl ?_
          refine ChD.skip rfl rfl ?_
          refine ChD.skip rfl rfl ?_
          refine ChD.skip rfl rfl ?_
          refine ChD.skip rfl rfl ?_
          refine ChD.step (v := (.d (.bool true))) [] rfl (.pure (.pickT _ _ _ rfl rfl rfl)) rfl rfl ?_
          refine ChD.nil (And.intro ?_ (by kernel_rfl))
          refine T_cond (b := true) rfl (fun _ => ?_) (fun h => nomatch h)
          refine T_seq ?_
          refine T_region hc ?_
          refine Ch.step (v := (.d (.bool false))) rfl (.pure (.assign _ rfl rfl)) rfl rfl ?_
          refine Ch.nil ?_
          refine T_ret ?_
          refine And.intro (.inr rfl) ?_
          exact Exists.intro [(.d (.bool false))] (Exists.intro [] (Exists.intro [] (And.intro (.cons (.tmp 2 rfl) .nil) (And.intro (.cons (.any _) .nil) (And.intro (Exp.of (congrArg D.bool (by first | (rw [netB, h1, h2, allB_no k (by omega) (by first | (simp only [wirOkI, seenB, *, decide_true, decide_false, Bool.and_true, Bool.true_and, Bool.and_false, Bool.false_and, Bool.or_false, Bool.false_or, Bool.or_true, Bool.true_or, Bool.not_true, Bool.not_false, not_false_eq_true, Bool.false_eq_true, if_true, if_false, reduceIte, ite_true, ite_false]; done) | (simp only [wirOkI, seenB, *, decide_true, decide_false, Bool.and_true, Bool.true_and, Bool.and_false, Bool.false_and, Bool.or_false, Bool.false_or, Bool.or_true, Bool.true_or, Bool.not_true, Bool.not_false, not_false_eq_true, Bool.false_eq_true, if_true, if_false, reduceIte, ite_true, ite_false]; rfl) | (simp only [wirOkI, seenB]; simp_all; done) | (simp only [wirOkI, seenB]; simp_all; omega))] <;> rfl) | (rw [netB, h1, h2, allB_of (fun j hj => hp0.2 j (by omega))] <;> rfl) | (rw [netB, h1, h2] <;> rfl) | (rw [netB, h1] <;> rfl))) (.d _)) (And.intro rfl rfl))))))
      · replace h3 := of_decide_eq_false h3
        try have hkw : (x.wires.getD k default).bulk ≤ 1048576 := bulkF_mem hp1 _ (getD_mem (l := x.wires) (j := k) (d := default) (by omega))
        try have hwp := Wir.parts hkw
        try have hnm : (x.wires.getD k default).name.length ≤ 1048576 := hwp.1
        try have hin := bulkF_len hwp.2.1
        refine T_exit ?_
        refine T_seq ?_
        refine T_region hc ?_
        refine Ch.step (v := (.d (.bool true))) rfl (.pure (.assign _ rfl rfl)) rfl rfl ?_
        refine Ch.nil ?_
        refine T_ret ?_
        refine And.intro (.inr rfl) ?_
        exact Exists.intro [(.d (.bool true))] (Exists.intro [] (Exists.intro [] (And.intro (.cons (.tmp 2 rfl) .nil) (And.intro (.cons (.any _) .nil) (And.intro (Exp.of (congrArg D.bool (by first | (rw [netB, h1, h2, allB_no k (by omega) (by first | (simp only [wirOkI, seenB, *, decide_true, decide_false, Bool.and_true, Bool.true_and, Bool.and_false, Bool.false_and, Bool.or_false, Bool.false_or, Bool.or_true, Bool.true_or, Bool.not_true, Bool.not_false, not_false_eq_true, Bool.false_eq_true, if_true, if_false, reduceIte, ite_true, ite_false]; done) | (simp only [wirOkI, seenB, *, decide_true, decide_false, Bool.and_true, Bool.true_and, Bool.and_false, Bool.false_and, Bool.or_false, Bool.false_or, Bool.or_true, Bool.true_or, Bool.not_true, Bool.not_false, not_false_eq_true, Bool.false_eq_true, if_true, if_false, reduceIte, ite_true, ite_false]; rfl) | (simp only [wirOkI, seenB]; simp_all; done) | (simp only [wirOkI, seenB]; simp_all; omega))] <;> rfl) | (rw [netB, h1, h2, allB_of (fun j hj => hp0.2 j (by omega))] <;> rfl) | (rw [netB, h1, h2] <;> rfl) | (rw [netB, h1] <;> rfl))) (.d _)) (And.intro rfl rfl))))))
  | false =>
    refine Ch.skip rfl rfl ?_
    refine Ch.skip rfl rfl ?_
    refine Ch.skip rfl rfl ?_
    refine Ch.skip rfl rfl ?_
    refine Ch.skip rfl rfl ?_
    refine Ch.skip rfl rfl ?_
    refine Ch.skip rfl rfl ?_
    refine Ch.skip rfl rfl ?_
    refine Ch.step (v := (.d (.bool true))) rfl (.pure (.pickT _ _ _ rfl rfl rfl)) rfl rfl ?_
    refine Ch.nil ?_
    refine T_cond (b := true) rfl (fun _ => ?_) (fun h => nomatch h)
    refine T_seq ?_
    refine T_region hc ?_
    refine Ch.step (v := (.d (.bool false))) rfl (.pure (.assign _ rfl rfl)) rfl rfl ?_
    refine Ch.nil ?_
    refine T_ret ?_
    refine And.intro (.inr rfl) ?_
    exact Exists.intro [(.d (.bool false))] (Exists.intro [] (Exists.intro [] (And.intro (.cons (.tmp 2 rfl) .nil) (And.intro (.cons (.any _) .nil) (And.intro (Exp.of (congrArg D.bool (by first | (rw [netB, h1, h2, allB_no k (by omega) (by first | (simp only [wirOkI, seenB, *, decide_true, decide_false, Bool.and_true, Bool.true_and, Bool.and_false, Bool.false_and, Bool.or_false, Bool.false_or, Bool.or_true, Bool.true_or, Bool.not_true, Bool.not_false, not_false_eq_true, Bool.false_eq_true, if_true, if_false, reduceIte, ite_true, ite_false]; done) | (simp only [wirOkI, seenB, *, decide_true, decide_false, Bool.and_true, Bool.true_and, Bool.and_false, Bool.false_and, Bool.or_false, Bool.false_or, Bool.or_true, Bool.true_or, Bool.not_true, Bool.not_false, not_false_eq_true, Bool.false_eq_true, if_true, if_false, reduceIte, ite_true, ite_false]; rfl) | (simp only [wirOkI, seenB]; simp_all; done) | (simp only [wirOkI, seenB]; simp_all; omega))] <;> rfl) | (rw [netB, h1, h2, allB_of (fun j hj => hp0.2 j (by omega))] <;> rfl) | (rw [netB, h1, h2] <;> rfl) | (rw [netB, h1] <;> rfl))) (.d _)) (And.intro rfl rfl))))))

set_option maxHeartbeats 2000000 in
theorem sp_spec_l19Pins (x : Ntl) (k : Nat) (w : Wir) (hb : x.bulk ≤ 1048576) (hw : w.bulk ≤ 1048576) : Sp Try.prog 171 [(.agg [(.slice false 2 (x.sigs.map Sgn.d)), (.slice false 4 (x.wires.map Wir.d))]), (.int .i64 ((k : Nat) : Int)), (.agg [(.str w.name), (.int .i64 w.kind), (.slice false 2 (w.ins.map Pin.d)), (.slice false 1 (w.cov.map D.str))])] [.any, .any, .any] (.bool (pinS x k w)) := by
  refine Sp_intro (lend := true) Try.func171 rfl rfl rfl (fun _ => rfl) (fun c hc hX => ?_)
  obtain ⟨hp0, hp1⟩ := Ntl.parts hb
  have hn0 := bulkF_len hp0
  have hn1 := bulkF_len hp1
  obtain ⟨hq0, hq1, hq2⟩ := Wir.parts hw
  have hm1 := bulkF_len hq1
  have hm2 := bulk_len hq2
  have hy2 := bulk_mem hq2
  refine T_seq ?_
  refine T_region hc ?_
  refine Ch.step (v := (.ptr 3000 0)) rfl (.box 3000 _ _ rfl (.aggD _)) rfl rfl ?_
  refine Ch.step (v := (.ptr 5000 0)) rfl (.box 5000 _ _ rfl (.aggD _)) rfl rfl ?_
  refine Ch.step (v := (.d (.bool false))) rfl (.pure (.assign _ rfl rfl)) rfl rfl ?_
  refine Ch.nil ?_
  refine T_seq ?_
  refine T_seq ?_
  refine T_region hc ?_
  refine Ch.step (v := (.ptr 5000 2)) rfl (.pure (.fldPtr _ _ _ rfl fld82_2 rfl)) rfl rfl ?_
  refine Ch.step (v := (.d (.slice false 2 (w.ins.map Pin.d)))) rfl (.pure (.loadPtr1 _ _ rfl ag80 rfl rfl rfl)) rfl rfl ?_
  refine Ch.step (v := (.d (.int .i64 ((w.ins.length : Nat) : Int)))) rfl (.pure (.len _ _ 89 rfl Try.underlying80 (.sh _ _) (by simp))) rfl rfl ?_
  refine Ch.step (v := (.d (.int .i64 0))) rfl (.pure (.move _ rfl rfl)) rfl rfl ?_
  refine Ch.nil ?_
  refine T_block ?_
  refine T_loop (ι := Nat) (fun j => { n := 85, sl := [(1, (.d (.int .i64 ((k : Nat) : Int)))), (3, (.ptr 3000 0)), (5, (.ptr 5000 0)), (10, (.d (.slice false 2 (w.ins.map Pin.d)))), (11, (.d (.int .i64 ((w.ins.length : Nat) : Int)))), (12, (.d (.int .i64 ((j : Nat) : Int))))], hp := [(3000, (some (.box [(.d (.slice false 2 (x.sigs.map Sgn.d))), (.d (.slice false 4 (x.wires.map Wir.d)))]))), (5000, (some (.box [(.d (.str w.name)), (.d (.int .i64 w.kind)), (.d (.slice false 2 (w.ins.map Pin.d))), (.d (.slice false 1 (w.cov.map D.str)))])))], pin := [] }) (fun j => j ≤ w.ins.length ∧ ∀ q, q < j → pinK x k (w.ins.getD q default) = true) (fun j => w.ins.length - j) ⟨0, ⟨by omega, fun j hj => by omega⟩, (Wk.of rfl rfl (And.intro rfl (And.intro rfl (And.intro rfl (And.intro rfl (And.intro rfl (And.intro (vI (by first | rfl | omega | (simp; done) | (simp; omega))) trivial)))))) (And.intro rfl (And.intro rfl trivial)))⟩ (fun j hp0 => ?_)
  refine T_seq ?_
  refine T_region hc ?_
  refine Ch.step (v := (.d (.bool (decide (((j : Nat) : Int) < ((w.ins.length : Nat) : Int)))))) rfl (.pure (.int _ _ _ _ _ rfl rfl rfl rfl)) rfl rfl ?_
  refine Ch.nil ?_
  refine T_seq ?_
  refine T_cond (b := (decide (((j : Nat) : Int) < ((w.ins.length : Nat) : Int)))) rfl (fun h1 => ?_) (fun h1 => ?_)
  · replace h1 := of_decide_eq_true h1
    refine T_skip ?_
    refine T_seq ?_
    refine T_block ?_
    refine T_seq ?_
    refine T_region hc ?_
    refine Ch.step (v := (.d (.ref (.agg [(.int .i64 ((w.ins.getD j default).num)), (.bool ((w.ins.getD j default).neg))])))) rfl (.pure (.idx _ _ _ 89 (j) rfl Try.underlying80 sz89 rfl rfl rfl (get_map _ (by first | omega | (simp only [List.length_map, List.length_append, List.length_take, List.length_drop, List.length_cons, List.length_nil]; omega) | (simp; omega) | (simp; done))))) rfl rfl ?_
    refine Ch.step (v := (.d (.agg [(.int .i64 ((w.ins.getD j default).num)), (.bool ((w.ins.getD j default).neg))]))) rfl (.pure (.loadRefA _ _ rfl ag89 sz89 rfl)) rfl rfl ?_
    refine Ch.step (v := (.ptr 8000 0)) rfl (.alloc 8000 _ rfl zer89) rfl rfl ?_
    refine Ch.step (v := .junk) rfl (.storePtr _ _ _ rfl rfl rfl (.aggD _) sz89 (Nat.le_of_ble_eq_true rfl)) rfl rfl ?_
    refine Ch.nil ?_
    refine T_seq ?_
    refine T_region hc ?_
    refine Ch.step (v := (.ptr 8000 0)) rfl (.pure (.fldPtr _ _ _ rfl fld89_0 rfl)) rfl rfl ?_
    refine Ch.step (v := (.d (.int .i64 ((w.ins.getD j default).num)))) rfl (.pure (.loadPtr1 _ _ rfl ag3 rfl rfl rfl)) rfl rfl ?_
    refine Ch.step (v := (.ptr 3000 1)) rfl (.pure (.fldPtr _ _ _ rfl fld44_1 rfl)) rfl rfl ?_
    refine Ch.step (v := (.d (.slice false 4 (x.wires.map Wir.d)))) rfl (.pure (.loadPtr1 _ _ rfl ag42 rfl rfl rfl)) rfl rfl ?_
    refine Ch.step (v := (.d (.int .i64 ((x.wires.length : Nat) : Int)))) rfl (.pure (.len _ _ 82 rfl Try.underlying42 (.sh _ _) (by simp))) rfl rfl ?_
    refine Ch.step (v := (.d (.int .i64 (((x.wires.length : Nat) : Int) - 1)))) rfl (.pure (.int _ _ _ _ _ rfl rfl rfl (intV_sub (by first | omega | (simp only [List.length_map, List.length_append, List.length_take, List.length_drop, List.length_cons, List.length_nil]; omega) | (simp; omega) | (simp; done)) (by first | omega | (simp only [List.length_map, List.length_append, List.length_take, List.length_drop, List.length_cons, List.length_nil]; omega) | (simp; omega) | (simp; done))))) rfl rfl ?_
    refine Ch.step (v := (.d (.bool (withinB ((w.ins.getD j default).num) 0 (((x.wires.length : Nat) : Int) - 1))))) rfl (.call 22000 118 _ _ _ en118 rfl (.inl rfl) (.cons (.d _) (.cons (.d _) (.cons (.d _) .nil))) rfl rfl (sp_spec_l1In ((w.ins.getD j default).num) 0 (((x.wires.length : Nat) : Int) - 1)) (.skip _ _ (.skip _ _ (.skip _ _ .nil))) rfl) rfl rfl ?_
    refine Ch.step (v := (.d (.bool (!(withinB ((w.ins.getD j default).num) 0 (((x.wires.length : Nat) : Int) - 1)))))) rfl (.pure (.not _ _ rfl rfl)) rfl rfl ?_
    refine Ch.step (v := (.d (.bool (!(withinB ((w.ins.getD j default).num) 0 (((x.wires.length : Nat) : Int) - 1)))))) rfl (.pure (.move _ rfl rfl)) rfl rfl ?_
    cases h2 : (withinB ((w.ins.getD j default).num) 0 (((x.wires.length : Nat) : Int) - 1)) with
    | true =>
      refine Ch.step (v := (.d (.int .i64 ((k : Nat) : Int)))) rfl (.pure (.move _ rfl rfl)) rfl rfl ?_
      refine Ch.step (v := (.ptr 3000 0)) rfl (.pure (.fldPtr _ _ _ rfl fld44_0 rfl)) rfl rfl ?_
      refine Ch.step (v := (.d (.slice false 2 (x.sigs.map Sgn.d)))) rfl (.pure (.loadPtr1 _ _ rfl ag41 rfl rfl rfl)) rfl rfl ?_
      refine Ch.step (v := (.d (.int .i64 ((x.sigs.length : Nat) : Int)))) rfl (.pure (.len _ _ 85 rfl Try.underlying41 (.sh _ _) (by simp))) rfl rfl ?_
      refine Ch.step (v := (.d (.bool (decide (((x.sigs.length : Nat) : Int) ≤ ((k : Nat) : Int)))))) rfl (.pure (.int _ _ _ _ _ rfl rfl rfl rfl)) rfl rfl ?_
      refine Ch.step (v := (.d (.bool (decide (((x.sigs.length : Nat) : Int) ≤ ((k : Nat) : Int)))))) rfl (.pure (.move _ rfl rfl)) rfl rfl ?_
      cases h3 : (decide (((x.sigs.length : Nat) : Int) ≤ ((k : Nat) : Int))) with
      | true =>
        replace h3 := of_decide_eq_true h3
        refine Ch.step (v := (.ptr 8000 0)) rfl (.pure (.fldPtr _ _ _ rfl fld89_0 rfl)) rfl rfl ?_
        refine Ch.step (v := (.d (.int .i64 ((w.ins.getD j default).num)))) rfl (.pure (.loadPtr1 _ _ rfl ag3 rfl rfl rfl)) rfl rfl ?_
        refine Ch.step (v := (.d (.int .i64 ((k : Nat) : Int)))) rfl (.pure (.move _ rfl rfl)) rfl rfl ?_
        refine Ch.step (v := (.d (.bool (decide (((k : Nat) : Int) ≤ ((w.ins.getD j default).num)))))) rfl (.pure (.int _ _ _ _ _ rfl rfl rfl rfl)) rfl rfl ?_
        refine Ch.step (v := (.d (.bool (decide (((k : Nat) : Int) ≤ ((w.ins.getD j default).num)))))) rfl (.pure (.pickT _ _ _ rfl rfl rfl)) rfl rfl ?_
        refine Ch.step (v := (.d (.bool (decide (((k : Nat) : Int) ≤ ((w.ins.getD j default).num)))))) rfl (.pure (.pickF _ _ _ rfl rfl rfl)) rfl rfl ?_
        refine Ch.nil ?_
        refine T_cond (b := (decide (((k : Nat) : Int) ≤ ((w.ins.getD j default).num)))) rfl (fun h4 => ?_) (fun h4 => ?_)
        · replace h4 := of_decide_eq_true h4
          refine T_seq ?_
          refine T_region hc ?_
          refine Ch.step (v := (.d (.bool false))) rfl (.pure (.assign _ rfl rfl)) rfl rfl ?_
          refine Ch.nil ?_
          refine T_ret ?_
          refine And.intro (.inr rfl) ?_
          exact Exists.intro [(.d (.bool false))] (Exists.intro [] (Exists.intro [] (And.intro (.cons (.tmp 6 rfl) .nil) (And.intro (.cons (.any _) (.cons (.any _) (.cons (.any _) .nil))) (And.intro (Exp.of (congrArg D.bool (by first | (rw [pinS, pinsK, allOf, allB_no j (by omega) (by first | (simp only [pinK, *, decide_true, decide_false, Bool.and_true, Bool.true_and, Bool.and_false, Bool.false_and, Bool.or_false, Bool.false_or, Bool.or_true, Bool.true_or, Bool.not_true, Bool.not_false, not_false_eq_true, Bool.false_eq_true, if_true, if_false, reduceIte, ite_true, ite_false]; done) | (simp only [pinK, *, decide_true, decide_false, Bool.and_true, Bool.true_and, Bool.and_false, Bool.false_and, Bool.or_false, Bool.false_or, Bool.or_true, Bool.true_or, Bool.not_true, Bool.not_false, not_false_eq_true, Bool.false_eq_true, if_true, if_false, reduceIte, ite_true, ite_false]; rfl) | (simp_all [pinK]; done) | (simp_all [pinK]; omega))]; rfl) | (rw [pinS, pinsK, allOf, allB_of (fun q hq => hp0.2 q (by omega))]; first | (simp only [insB, pin_eq, *, decide_true, decide_false, Bool.and_true, Bool.true_and, Bool.and_false, Bool.false_and, Bool.or_false, Bool.false_or, Bool.or_true, Bool.true_or, Bool.not_true, Bool.not_false, not_false_eq_true, Bool.false_eq_true, if_true, if_false, reduceIte, ite_true, ite_false]; done) | (simp only [insB, pin_eq, *, decide_true, decide_false, Bool.and_true, Bool.true_and, Bool.and_false, Bool.false_and, Bool.or_false, Bool.false_or, Bool.or_true, Bool.true_or, Bool.not_true, Bool.not_false, not_false_eq_true, Bool.false_eq_true, if_true, if_false, reduceIte, ite_true, ite_false]; rfl) | (simp only [insB, pin_eq]; simp_all; done) | (simp only [insB, pin_eq]; simp_all; omega)))) (.d _)) (And.intro rfl rfl))))))
        · replace h4 := of_decide_eq_false h4
          refine T_skip ?_
          refine T_region hc ?_
          refine Ch.step (v := (.d (.int .i64 (((j : Nat) : Int) + 1)))) rfl (.pure (.int _ _ _ _ _ rfl rfl rfl (intV_add (by first | omega | (simp only [List.length_map, List.length_append, List.length_take, List.length_drop, List.length_cons, List.length_nil]; omega) | (simp; omega) | (simp; done)) (by first | omega | (simp only [List.length_map, List.length_append, List.length_take, List.length_drop, List.length_cons, List.length_nil]; omega) | (simp; omega) | (simp; done))))) rfl rfl ?_
          refine Ch.step (v := (.d (.int .i64 (((j : Nat) : Int) + 1)))) rfl (.pure (.move _ rfl rfl)) rfl rfl ?_
          refine Ch.nil ?_
          refine Exists.intro (j + 1) (And.intro ⟨by omega, upto_succ hp0.2 (by first | (simp only [pinK, *, decide_true, decide_false, Bool.and_true, Bool.true_and, Bool.and_false, Bool.false_and, Bool.or_false, Bool.false_or, Bool.or_true, Bool.true_or, Bool.not_true, Bool.not_false, not_false_eq_true, Bool.false_eq_true, if_true, if_false, reduceIte, ite_true, ite_false]; done) | (simp only [pinK, *, decide_true, decide_false, Bool.and_true, Bool.true_and, Bool.and_false, Bool.false_and, Bool.or_false, Bool.false_or, Bool.or_true, Bool.true_or, Bool.not_true, Bool.not_false, not_false_eq_true, Bool.false_eq_true, if_true, if_false, reduceIte, ite_true, ite_false]; rfl) | (simp_all [pinK]; done) | (simp_all [pinK]; omega))⟩ (And.intro (by first | omega | (dsimp only; omega)) (Wk.of rfl rfl (And.intro rfl (And.intro rfl (And.intro rfl (And.intro rfl (And.intro rfl (And.intro (vI (by first | rfl | omega | (simp; done) | (simp; omega))) trivial)))))) (And.intro rfl (And.intro rfl trivial)))))
      | false =>
        replace h3 := of_decide_eq_false h3
        refine Ch.skip rfl rfl ?_
        refine Ch.skip rfl rfl ?_
        refine Ch.skip rfl rfl ?_
        refine Ch.skip rfl rfl ?_
        refine Ch.step (v := (.d (.bool false))) rfl (.pure (.pickF _ _ _ rfl rfl rfl)) rfl rfl ?_
        refine Ch.step (v := (.d (.bool false))) rfl (.pure (.pickF _ _ _ rfl rfl rfl)) rfl rfl ?_
        refine Ch.nil ?_
        refine T_cond (b := false) rfl (fun h => nomatch h) (fun _ => ?_)
        refine T_skip ?_
        refine T_region hc ?_
        refine Ch.step (v := (.d (.int .i64 (((j : Nat) : Int) + 1)))) rfl (.pure (.int _ _ _ _ _ rfl rfl rfl (intV_add (by first | omega | (simp only [List.length_map, List.length_append, List.length_take, List.length_drop, List.length_cons, List.length_nil]; omega) | (simp; omega) | (simp; done)) (by first | omega | (simp only [List.length_map, List.length_append, List.length_take, List.length_drop, List.length_cons, List.length_nil]; omega) | (simp; omega) | (simp; done))))) rfl rfl ?_
        refine Ch.step (v := (.d (.int .i64 (((j : Nat) : Int) + 1)))) rfl (.pure (.move _ rfl rfl)) rfl rfl ?_
        refine Ch.nil ?_
        refine Exists.intro (j + 1) (And.intro ⟨by omega, upto_succ hp0.2 (by first | (simp only [pinK, *, decide_true, decide_false, Bool.and_true, Bool.true_and, Bool.and_false, Bool.false_and, Bool.or_false, Bool.false_or, Bool.or_true, Bool.true_or, Bool.not_true, Bool.not_false, not_false_eq_true, Bool.false_eq_true, if_true, if_false, reduceIte, ite_true, ite_false]; done) | (simp only [pinK, *, decide_true, decide_false, Bool.and_true, Bool.true_and, Bool.and_false, Bool.false_and, Bool.or_false, Bool.false_or, Bool.or_true, Bool.true_or, Bool.not_true, Bool.not_false, not_false_eq_true, Bool.false_eq_true, if_true, if_false, reduceIte, ite_true, ite_false]; rfl) | (simp_all [pinK]; done) | (simp_all [pinK]; omega))⟩ (And.intro (by first | omega | (dsimp only; omega)) (Wk.of rfl rfl (And.intro rfl (And.intro rfl (And.intro rfl (And.intro rfl (And.intro rfl (And.intro (vI (by first | rfl | omega | (simp; done) | (simp; omega))) trivial)))))) (And.intro rfl (And.intro rfl trivial)))))
    | false =>
      refine Ch.skip rfl rfl ?_
      refine Ch.skip rfl rfl ?_
      refine Ch.skip rfl rfl ?_
      refine Ch.skip rfl rfl ?_
      refine Ch.skip rfl rfl ?_
      refine Ch.skip rfl rfl ?_
      refine Ch.skip rfl rfl ?_
      refine Ch.skip rfl rfl ?_
      refine Ch.skip rfl rfl ?_
      refine Ch.skip rfl rfl ?_
      refine Ch.skip rfl rfl ?_
      refine Ch.step (v := (.d (.bool true))) rfl (.pure (.pickT _ _ _ rfl rfl rfl)) rfl rfl ?_
      refine Ch.nil ?_
      refine T_cond (b := true) rfl (fun _ => ?_) (fun h => nomatch h)
      refine T_seq ?_
      refine T_region hc ?_
      refine Ch.step (v := (.d (.bool false))) rfl (.pure (.assign _ rfl rfl)) rfl rfl ?_
      refine Ch.nil ?_
      refine T_ret ?_
      refine And.intro (.inr rfl) ?_
      exact Exists.intro [(.d (.bool false))] (Exists.intro [] (Exists.intro [] (And.intro (.cons (.tmp 6 rfl) .nil) (And.intro (.cons (.any _) (.cons (.any _) (.cons (.any _) .nil))) (And.intro (Exp.of (congrArg D.bool (by first | (rw [pinS, pinsK, allOf, allB_no j (by omega) (by first | (simp only [pinK, *, decide_true, decide_false, Bool.and_true, Bool.true_and, Bool.and_false, Bool.false_and, Bool.or_false, Bool.false_or, Bool.or_true, Bool.true_or, Bool.not_true, Bool.not_false, not_false_eq_true, Bool.false_eq_true, if_true, if_false, reduceIte, ite_true, ite_false]; done) | (simp only [pinK, *, decide_true, decide_false, Bool.and_true, Bool.true_and, Bool.and_false, Bool.false_and, Bool.or_false, Bool.false_or, Bool.or_true, Bool.true_or, Bool.not_true, Bool.not_false, not_false_eq_true, Bool.false_eq_true, if_true, if_false, reduceIte, ite_true, ite_false]; rfl) | (simp_all [pinK]; done) | (simp_all [pinK]; omega))]; rfl) | (rw [pinS, pinsK, allOf, allB_of (fun q hq => hp0.2 q (by omega))]; first | (simp only [insB, pin_eq, *, decide_true, decide_false, Bool.and_true, Bool.true_and, Bool.and_false, Bool.false_and, Bool.or_false, Bool.false_or, Bool.or_true, Bool.true_or, Bool.not_true, Bool.not_false, not_false_eq_true, Bool.false_eq_true, if_true, if_false, reduceIte, ite_true, ite_false]; done) | (simp only [insB, pin_eq, *, decide_true, decide_false, Bool.and_true, Bool.true_and, Bool.and_false, Bool.false_and, Bool.or_false, Bool.false_or, Bool.or_true, Bool.true_or, Bool.not_true, Bool.not_false, not_false_eq_true, Bool.false_eq_true, if_true, if_false, reduceIte, ite_true, ite_false]; rfl) | (simp only [insB, pin_eq]; simp_all; done) | (simp only [insB, pin_eq]; simp_all; omega)))) (.d _)) (And.intro rfl rfl))))))
  · replace h1 := of_decide_eq_false h1
    refine T_exit ?_
    refine T_seq ?_
    refine T_seq ?_
    refine T_region hc ?_
    refine Ch.step (v := (.ptr 5000 1)) rfl (.pure (.fldPtr _ _ _ rfl fld82_1 rfl)) rfl rfl ?_
    refine Ch.step (v := (.d (.int .i64 w.kind))) rfl (.pure (.loadPtr1 _ _ rfl ag3 rfl rfl rfl)) rfl rfl ?_
    refine Ch.nil ?_
    refine T_block ?_
    refine T_seq ?_
    refine T_region hc ?_
    refine Ch.step (v := (.d (.bool (decide (w.kind = 1))))) rfl (.pure (.int _ _ _ _ _ rfl rfl rfl rfl)) rfl rfl ?_
    refine Ch.step (v := (.d (.bool (decide (w.kind = 1))))) rfl (.pure (.assign _ rfl rfl)) rfl rfl ?_
    refine Ch.nil ?_
    refine T_cond (b := (decide (w.kind = 1))) rfl (fun h5 => ?_) (fun h5 => ?_)
    · replace h5 := of_decide_eq_true h5
      refine T_seq ?_
      refine T_region hc ?_
      refine Ch.step (v := (.ptr 5000 2)) rfl (.pure (.fldPtr _ _ _ rfl fld82_2 rfl)) rfl rfl ?_
      refine Ch.step (v := (.d (.slice false 2 (w.ins.map Pin.d)))) rfl (.pure (.loadPtr1 _ _ rfl ag80 rfl rfl rfl)) rfl rfl ?_
      refine Ch.step (v := (.d (.int .i64 ((w.ins.length : Nat) : Int)))) rfl (.pure (.len _ _ 89 rfl Try.underlying80 (.sh _ _) (by simp))) rfl rfl ?_
      refine Ch.step (v := (.d (.bool (decide (((w.ins.length : Nat) : Int) = 0))))) rfl (.pure (.int _ _ _ _ _ rfl rfl rfl rfl)) rfl rfl ?_
      refine Ch.step (v := (.d (.bool (decide (((w.ins.length : Nat) : Int) = 0))))) rfl (.pure (.assign _ rfl rfl)) rfl rfl ?_
      refine Ch.nil ?_
      refine T_ret ?_
      refine And.intro (.inr rfl) ?_
      exact Exists.intro [(.d (.bool (decide (((w.ins.length : Nat) : Int) = 0))))] (Exists.intro [] (Exists.intro [] (And.intro (.cons (.tmp 6 rfl) .nil) (And.intro (.cons (.any _) (.cons (.any _) (.cons (.any _) .nil))) (And.intro (Exp.of (congrArg D.bool (by first | (rw [pinS, pinsK, allOf, allB_no j (by omega) (by first | (simp only [pinK, *, decide_true, decide_false, Bool.and_true, Bool.true_and, Bool.and_false, Bool.false_and, Bool.or_false, Bool.false_or, Bool.or_true, Bool.true_or, Bool.not_true, Bool.not_false, not_false_eq_true, Bool.false_eq_true, if_true, if_false, reduceIte, ite_true, ite_false]; done) | (simp only [pinK, *, decide_true, decide_false, Bool.and_true, Bool.true_and, Bool.and_false, Bool.false_and, Bool.or_false, Bool.false_or, Bool.or_true, Bool.true_or, Bool.not_true, Bool.not_false, not_false_eq_true, Bool.false_eq_true, if_true, if_false, reduceIte, ite_true, ite_false]; rfl) | (simp_all [pinK]; done) | (simp_all [pinK]; omega))]; rfl) | (rw [pinS, pinsK, allOf, allB_of (fun q hq => hp0.2 q (by omega))]; first | (simp only [insB, pin_eq, *, decide_true, decide_false, Bool.and_true, Bool.true_and, Bool.and_false, Bool.false_and, Bool.or_false, Bool.false_or, Bool.or_true, Bool.true_or, Bool.not_true, Bool.not_false, not_false_eq_true, Bool.false_eq_true, if_true, if_false, reduceIte, ite_true, ite_false]; done) | (simp only [insB, pin_eq, *, decide_true, decide_false, Bool.and_true, Bool.true_and, Bool.and_false, Bool.false_and, Bool.or_false, Bool.false_or, Bool.or_true, Bool.true_or, Bool.not_true, Bool.not_false, not_false_eq_true, Bool.false_eq_true, if_true, if_false, reduceIte, ite_true, ite_false]; rfl) | (simp only [insB, pin_eq]; simp_all; done) | (simp only [insB, pin_eq]; simp_all; omega)))) (.d _)) (And.intro rfl rfl))))))
    · replace h5 := of_decide_eq_false h5
      refine T_seq ?_
      refine T_region hc ?_
      refine Ch.step (v := (.d (.bool (decide (w.kind = 4))))) rfl (.pure (.int _ _ _ _ _ rfl rfl rfl rfl)) rfl rfl ?_
      refine Ch.step (v := (.d (.bool (decide (w.kind = 4))))) rfl (.pure (.assign _ rfl rfl)) rfl rfl ?_
      refine Ch.nil ?_
      refine T_cond (b := (decide (w.kind = 4))) rfl (fun h6 => ?_) (fun h6 => ?_)
      · replace h6 := of_decide_eq_true h6
        refine T_seq ?_
        refine T_region hc ?_
        refine Ch.step (v := (.ptr 5000 2)) rfl (.pure (.fldPtr _ _ _ rfl fld82_2 rfl)) rfl rfl ?_
        refine Ch.step (v := (.d (.slice false 2 (w.ins.map Pin.d)))) rfl (.pure (.loadPtr1 _ _ rfl ag80 rfl rfl rfl)) rfl rfl ?_
        refine Ch.step (v := (.d (.int .i64 ((w.ins.length : Nat) : Int)))) rfl (.pure (.len _ _ 89 rfl Try.underlying80 (.sh _ _) (by simp))) rfl rfl ?_
        refine Ch.step (v := (.d (.bool (decide (((w.ins.length : Nat) : Int) = 2))))) rfl (.pure (.int _ _ _ _ _ rfl rfl rfl rfl)) rfl rfl ?_
        refine Ch.step (v := (.d (.bool (decide (((w.ins.length : Nat) : Int) = 2))))) rfl (.pure (.assign _ rfl rfl)) rfl rfl ?_
        refine Ch.nil ?_
        refine T_ret ?_
        refine And.intro (.inr rfl) ?_
        exact Exists.intro [(.d (.bool (decide (((w.ins.length : Nat) : Int) = 2))))] (Exists.intro [] (Exists.intro [] (And.intro (.cons (.tmp 6 rfl) .nil) (And.intro (.cons (.any _) (.cons (.any _) (.cons (.any _) .nil))) (And.intro (Exp.of (congrArg D.bool (by first | (rw [pinS, pinsK, allOf, allB_no j (by omega) (by first | (simp only [pinK, *, decide_true, decide_false, Bool.and_true, Bool.true_and, Bool.and_false, Bool.false_and, Bool.or_false, Bool.false_or, Bool.or_true, Bool.true_or, Bool.not_true, Bool.not_false, not_false_eq_true, Bool.false_eq_true, if_true, if_false, reduceIte, ite_true, ite_false]; done) | (simp only [pinK, *, decide_true, decide_false, Bool.and_true, Bool.true_and, Bool.and_false, Bool.false_and, Bool.or_false, Bool.false_or, Bool.or_true, Bool.true_or, Bool.not_true, Bool.not_false, not_false_eq_true, Bool.false_eq_true, if_true, if_false, reduceIte, ite_true, ite_false]; rfl) | (simp_all [pinK]; done) | (simp_all [pinK]; omega))]; rfl) | (rw [pinS, pinsK, allOf, allB_of (fun q hq => hp0.2 q (by omega))]; first | (simp only [insB, pin_eq, *, decide_true, decide_false, Bool.and_true, Bool.true_and, Bool.and_false, Bool.false_and, Bool.or_false, Bool.false_or, Bool.or_true, Bool.true_or, Bool.not_true, Bool.not_false, not_false_eq_true, Bool.false_eq_true, if_true, if_false, reduceIte, ite_true, ite_false]; done) | (simp only [insB, pin_eq, *, decide_true, decide_false, Bool.and_true, Bool.true_and, Bool.and_false, Bool.false_and, Bool.or_false, Bool.false_or, Bool.or_true, Bool.true_or, Bool.not_true, Bool.not_false, not_false_eq_true, Bool.false_eq_true, if_true, if_false, reduceIte, ite_true, ite_false]; rfl) | (simp only [insB, pin_eq]; simp_all; done) | (simp only [insB, pin_eq]; simp_all; omega)))) (.d _)) (And.intro rfl rfl))))))
      · replace h6 := of_decide_eq_false h6
        refine T_seq ?_
        refine T_region hc ?_
        refine Ch.step (v := (.d (.bool (decide (w.kind = 5))))) rfl (.pure (.int _ _ _ _ _ rfl rfl rfl rfl)) rfl rfl ?_
        refine Ch.step (v := (.d (.bool (decide (w.kind = 5))))) rfl (.pure (.assign _ rfl rfl)) rfl rfl ?_
        refine Ch.nil ?_
        refine T_cond (b := (decide (w.kind = 5))) rfl (fun h7 => ?_) (fun h7 => ?_)
        · replace h7 := of_decide_eq_true h7
          refine T_seq ?_
          refine T_region hc ?_
          refine Ch.step (v := (.ptr 5000 2)) rfl (.pure (.fldPtr _ _ _ rfl fld82_2 rfl)) rfl rfl ?_
          refine Ch.step (v := (.d (.slice false 2 (w.ins.map Pin.d)))) rfl (.pure (.loadPtr1 _ _ rfl ag80 rfl rfl rfl)) rfl rfl ?_
          refine Ch.step (v := (.d (.int .i64 ((w.ins.length : Nat) : Int)))) rfl (.pure (.len _ _ 89 rfl Try.underlying80 (.sh _ _) (by simp))) rfl rfl ?_
          refine Ch.step (v := (.d (.bool (decide (((w.ins.length : Nat) : Int) = 0))))) rfl (.pure (.int _ _ _ _ _ rfl rfl rfl rfl)) rfl rfl ?_
          refine Ch.step (v := (.d (.bool (decide (((w.ins.length : Nat) : Int) = 0))))) rfl (.pure (.move _ rfl rfl)) rfl rfl ?_
          cases h8 : (decide (((w.ins.length : Nat) : Int) = 0)) with
          | true =>
            replace h8 := of_decide_eq_true h8
            refine Ch.skip rfl rfl ?_
            refine Ch.skip rfl rfl ?_
            refine Ch.skip rfl rfl ?_
            refine Ch.skip rfl rfl ?_
            refine Ch.skip rfl rfl ?_
            refine Ch.skip rfl rfl ?_
            refine Ch.skip rfl rfl ?_
            refine Ch.skip rfl rfl ?_
            refine Ch.skip rfl rfl ?_
            refine Ch.skip rfl rfl ?_
            refine Ch.skip rfl rfl ?_
            refine Ch.skip rfl rfl ?_
            refine Ch.skip rfl rfl ?_
            refine Ch.skip rfl rfl ?_
            refine Ch.skip rfl rfl ?_
            refine Ch.skip rfl rfl ?_
            refine Ch.skip rfl rfl ?_
            refine Ch.skip rfl rfl ?_
            refine Ch.skip rfl rfl ?_
            refine Ch.skip rfl rfl ?_
            refine Ch.skip rfl rfl ?_
            refine Ch.step (v := (.d (.bool true))) rfl (.pure (.pickT _ _ _ rfl rfl rfl)) rfl rfl ?_
            refine Ch.step (v := (.d (.bool true))) rfl (.pure (.assign _ rfl rfl)) rfl rfl ?_
            refine Ch.nil ?_
            refine T_ret ?_
            refine And.intro (.inr rfl) ?_
            exact Exists.intro [(.d (.bool true))] (Exists.intro [] (Exists.intro [] (And.intro (.cons (.tmp 6 rfl) .nil) (And.intro (.cons (.any _) (.cons (.any _) (.cons (.any _) .nil))) (And.intro (Exp.of (congrArg D.bool (by first | (rw [pinS, pinsK, allOf, allB_no j (by omega) (by first | (simp only [pinK, *, decide_true, decide_false, Bool.and_true, Bool.true_and, Bool.and_false, Bool.false_and, Bool.or_false, Bool.false_or, Bool.or_true, Bool.true_or, Bool.not_true, Bool.not_false, not_false_eq_true, Bool.false_eq_true, if_true, if_false, reduceIte, ite_true, ite_false]; done) | (simp only [pinK, *, decide_true, decide_false, Bool.and_true, Bool.true_and, Bool.and_false, Bool.false_and, Bool.or_false, Bool.false_or, Bool.or_true, Bool.true_or, Bool.not_true, Bool.not_false, not_false_eq_true, Bool.false_eq_true, if_true, if_false, reduceIte, ite_true, ite_false]; rfl) | (simp_all [pinK]; done) | (simp_all [pinK]; omega))]; rfl) | (rw [pinS, pinsK, allOf, allB_of (fun q hq => hp0.2 q (by omega))]; first | (simp only [insB, pin_eq, *, decide_true, decide_false, Bool.and_true, Bool.true_and, Bool.and_false, Bool.false_and, Bool.or_false, Bool.false_or, Bool.or_true, Bool.true_or, Bool.not_true, Bool.not_false, not_false_eq_true, Bool.false_eq_true, if_true, if_false, reduceIte, ite_true, ite_false]; done) | (simp only [insB, pin_eq, *, decide_true, decide_false, Bool.and_true, Bool.true_and, Bool.and_false, Bool.false_and, Bool.or_false, Bool.false_or, Bool.or_true, Bool.true_or, Bool.not_true, Bool.not_false, not_false_eq_true, Bool.false_eq_true, if_true, if_false, reduceIte, ite_true, ite_false]; rfl) | (simp only [insB, pin_eq]; simp_all; done) | (simp only [insB, pin_eq]; simp_all; omega)))) (.d _)) (And.intro rfl rfl))))))
          | false =>
            replace h8 := of_decide_eq_false h8
            refine Ch.step (v := (.ptr 5000 2)) rfl (.pure (.fldPtr _ _ _ rfl fld82_2 rfl)) rfl rfl ?_
            refine Ch.step (v := (.d (.slice false 2 (w.ins.map Pin.d)))) rfl (.pure (.loadPtr1 _ _ rfl ag80 rfl rfl rfl)) rfl rfl ?_
            refine Ch.step (v := (.d (.int .i64 ((w.ins.length : Nat) : Int)))) rfl (.pure (.len _ _ 89 rfl Try.underlying80 (.sh _ _) (by simp))) rfl rfl ?_
            refine Ch.step (v := (.d (.bool (decide (((w.ins.length : Nat) : Int) = 1))))) rfl (.pure (.int _ _ _ _ _ rfl rfl rfl rfl)) rfl rfl ?_
            refine Ch.step (v := (.d (.bool (decide (((w.ins.length : Nat) : Int) = 1))))) rfl (.pure (.move _ rfl rfl)) rfl rfl ?_
            cases h9 : (decide (((w.ins.length : Nat) : Int) = 1)) with
            | true =>
              replace h9 := of_decide_eq_true h9
              refine Ch.step (v := (.ptr 5000 2)) rfl (.pure (.fldPtr _ _ _ rfl fld82_2 rfl)) rfl rfl ?_
              refine Ch.step (v := (.d (.slice false 2 (w.ins.map Pin.d)))) rfl (.pure (.loadPtr1 _ _ rfl ag80 rfl rfl rfl)) rfl rfl ?_
              refine Ch.step (v := (.d (.ref (.agg [(.int .i64 ((w.ins.getD 0 default).num)), (.bool ((w.ins.getD 0 default).neg))])))) rfl (.pure (.idx _ _ _ 89 (0) rfl Try.underlying80 sz89 rfl rfl rfl (get_map _ (by first | omega | (simp only [List.length_map, List.length_append, List.length_take, List.length_drop, List.length_cons, List.length_nil]; omega) | (simp; omega) | (simp; done))))) rfl rfl ?_
              refine Ch.step (v := (.d (.ref (.int .i64 ((w.ins.getD 0 default).num))))) rfl (.pure (.fldRef _ _ _ rfl fld89_0 rfl rfl rfl)) rfl rfl ?_
              refine Ch.step (v := (.d (.int .i64 ((w.ins.getD 0 default).num)))) rfl (.pure (.loadRef1 _ _ rfl ag3 rfl rfl)) rfl rfl ?_
              refine Ch.step (v := (.d (.int .i64 ((k : Nat) : Int)))) rfl (.pure (.move _ rfl rfl)) rfl rfl ?_
              refine Ch.step (v := (.d (.bool (decide (((w.ins.getD 0 default).num) = ((k : Nat) : Int)))))) rfl (.pure (.int _ _ _ _ _ rfl rfl rfl rfl)) rfl rfl ?_
              refine Ch.step (v := (.d (.bool (decide (((w.ins.getD 0 default).num) = ((k : Nat) : Int)))))) rfl (.pure (.pickT _ _ _ rfl rfl rfl)) rfl rfl ?_
              refine Ch.step (v := (.d (.bool (decide (((w.ins.getD 0 default).num) = ((k : Nat) : Int)))))) rfl (.pure (.move _ rfl rfl)) rfl rfl ?_
              cases h10 : (decide (((w.ins.getD 0 default).num) = ((k : Nat) : Int))) with
              | true =>
                replace h10 := of_decide_eq_true h10
                refine Ch.step (v := (.ptr 5000 2)) rfl (.pure (.fldPtr _ _ _ rfl fld82_2 rfl)) rfl rfl ?_
                refine Ch.step (v := (.d (.slice false 2 (w.ins.map Pin.d)))) rfl (.pure (.loadPtr1 _ _ rfl ag80 rfl rfl rfl)) rfl rfl ?_
                refine Ch.step (v := (.d (.ref (.agg [(.int .i64 ((w.ins.getD 0 default).num)), (.bool ((w.ins.getD 0 default).neg))])))) rfl (.pure (.idx _ _ _ 89 (0) rfl Try.underlying80 sz89 rfl rfl rfl (get_map _ (by first | omega | (simp only [List.length_map, List.length_append, List.length_take, List.length_drop, List.length_cons, List.length_nil]; omega) | (simp; omega) | (simp; done))))) rfl rfl ?_
                refine Ch.step (v := (.d (.ref (.bool ((w.ins.getD 0 default).neg))))) rfl (.pure (.fldRef _ _ _ rfl fld89_1 rfl rfl rfl)) rfl rfl ?_
                refine Ch.step (v := (.d (.bool ((w.ins.getD 0 default).neg)))) rfl (.pure (.loadRef1 _ _ rfl ag4 rfl rfl)) rfl rfl ?_
                refine Ch.step (v := (.d (.bool (!((w.ins.getD 0 default).neg))))) rfl (.pure (.not _ _ rfl rfl)) rfl rfl ?_
                refine Ch.step (v := (.d (.bool (!((w.ins.getD 0 default).neg))))) rfl (.pure (.pickT _ _ _ rfl rfl rfl)) rfl rfl ?_
                refine Ch.step (v := (.d (.bool (!((w.ins.getD 0 default).neg))))) rfl (.pure (.pickF _ _ _ rfl rfl rfl)) rfl rfl ?_
                refine Ch.step (v := (.d (.bool (!((w.ins.getD 0 default).neg))))) rfl (.pure (.assign _ rfl rfl)) rfl rfl ?_
                refine Ch.nil ?_
                refine T_ret ?_
                refine And.intro (.inr rfl) ?_
                exact Exists.intro [(.d (.bool (!((w.ins.getD 0 default).neg))))] (Exists.intro [] (Exists.intro [] (And.intro (.cons (.tmp 6 rfl) .nil) (And.intro (.cons (.any _) (.cons (.any _) (.cons (.any _) .nil))) (And.intro (Exp.of (congrArg D.bool (by first | (rw [pinS, pinsK, allOf, allB_no j (by omega) (by first | (simp only [pinK, *, decide_true, decide_false, Bool.and_true, Bool.true_and, Bool.and_false, Bool.false_and, Bool.or_false, Bool.false_or, Bool.or_true, Bool.true_or, Bool.not_true, Bool.not_false, not_false_eq_true, Bool.false_eq_true, if_true, if_false, reduceIte, ite_true, ite_false]; done) | (simp only [pinK, *, decide_true, decide_false, Bool.and_true, Bool.true_and, Bool.and_false, Bool.false_and, Bool.or_false, Bool.false_or, Bool.or_true, Bool.true_or, Bool.not_true, Bool.not_false, not_false_eq_true, Bool.false_eq_true, if_true, if_false, reduceIte, ite_true, ite_false]; rfl) | (simp_all [pinK]; done) | (simp_all [pinK]; omega))]; rfl) | (rw [pinS, pinsK, allOf, allB_of (fun q hq => hp0.2 q (by omega))]; first | (simp only [insB, pin_eq, *, decide_true, decide_false, Bool.and_true, Bool.true_and, Bool.and_false, Bool.false_and, Bool.or_false, Bool.false_or, Bool.or_true, Bool.true_or, Bool.not_true, Bool.not_false, not_false_eq_true, Bool.false_eq_true, if_true, if_false, reduceIte, ite_true, ite_false]; done) | (simp only [insB, pin_eq, *, decide_true, decide_false, Bool.and_true, Bool.true_and, Bool.and_false, Bool.false_and, Bool.or_false, Bool.false_or, Bool.or_true, Bool.true_or, Bool.not_true, Bool.not_false, not_false_eq_true, Bool.false_eq_true, if_true, if_false, reduceIte, ite_true, ite_false]; rfl) | (simp only [insB, pin_eq]; simp_all; done) | (simp only [insB, pin_eq]; simp_all; omega)))) (.d _)) (And.intro rfl rfl))))))
              | false =>
                replace h10 := of_decide_eq_false h10
                refine Ch.skip rfl rfl ?_
                refine Ch.skip rfl rfl ?_
                refine Ch.skip rfl rfl ?_
                refine Ch.skip rfl rfl ?_
                refine Ch.skip rfl rfl ?_
                refine Ch.skip rfl rfl ?_
                refine Ch.step (v := (.d (.bool false))) rfl (.pure (.pickF _ _ _ rfl rfl rfl)) rfl rfl ?_
                refine Ch.step (v := (.d (.bool false))) rfl (.pure (.pickF _ _ _ rfl rfl rfl)) rfl rfl ?_
                refine Ch.step (v := (.d (.bool false))) rfl (.pure (.assign _ rfl rfl)) rfl rfl ?_
                refine Ch.nil ?_
                refine T_ret ?_
                refine And.intro (.inr rfl) ?_
                exact Exists.intro [(.d (.bool false))] (Exists.intro [] (Exists.intro [] (And.intro (.cons (.tmp 6 rfl) .nil) (And.intro (.cons (.any _) (.cons (.any _) (.cons (.any _) .nil))) (And.intro (Exp.of (congrArg D.bool (by first | (rw [pinS, pinsK, allOf, allB_no j (by omega) (by first | (simp only [pinK, *, decide_true, decide_false, Bool.and_true, Bool.true_and, Bool.and_false, Bool.false_and, Bool.or_false, Bool.false_or, Bool.or_true, Bool.true_or, Bool.not_true, Bool.not_false, not_false_eq_true, Bool.false_eq_true, if_true, if_false, reduceIte, ite_true, ite_false]; done) | (simp only [pinK, *, decide_true, decide_false, Bool.and_true, Bool.true_and, Bool.and_false, Bool.false_and, Bool.or_false, Bool.false_or, Bool.or_true, Bool.true_or, Bool.not_true, Bool.not_false, not_false_eq_true, Bool.false_eq_true, if_true, if_false, reduceIte, ite_true, ite_false]; rfl) | (simp_all [pinK]; done) | (simp_all [pinK]; omega))]; rfl) | (rw [pinS, pinsK, allOf, allB_of (fun q hq => hp0.2 q (by omega))]; first | (simp only [insB, pin_eq, *, decide_true, decide_false, Bool.and_true, Bool.true_and, Bool.and_false, Bool.false_and, Bool.or_false, Bool.false_or, Bool.or_true, Bool.true_or, Bool.not_true, Bool.not_false, not_false_eq_true, Bool.false_eq_true, if_true, if_false, reduceIte, ite_true, ite_false]; done) | (simp only [insB, pin_eq, *, decide_true, decide_false, Bool.and_true, Bool.true_and, Bool.and_false, Bool.false_and, Bool.or_false, Bool.false_or, Bool.or_true, Bool.true_or, Bool.not_true, Bool.not_false, not_false_eq_true, Bool.false_eq_true, if_true, if_false, reduceIte, ite_true, ite_false]; rfl) | (simp only [insB, pin_eq]; simp_all; done) | (simp only [insB, pin_eq]; simp_all; omega)))) (.d _)) (And.intro rfl rfl))))))
            | false =>
              replace h9 := of_decide_eq_false h9
              refine Ch.skip rfl rfl ?_
              refine Ch.skip rfl rfl ?_
              refine Ch.skip rfl rfl ?_
              refine Ch.skip rfl rfl ?_
              refine Ch.skip rfl rfl ?_
              refine Ch.skip rfl rfl ?_
              refine Ch.skip rfl rfl ?_
              refine Ch.step (v := (.d (.bool false))) rfl (.pure (.pickF _ _ _ rfl rfl rfl)) rfl rfl ?_
              refine Ch.step (v := (.d (.bool false))) rfl (.pure (.move _ rfl rfl)) rfl rfl ?_
              refine Ch.skip rfl rfl ?_
              refine Ch.skip rfl rfl ?_
              refine Ch.skip rfl rfl ?_
              refine Ch.skip rfl rfl ?_
              refine Ch.skip rfl rfl ?_
              refine Ch.skip rfl rfl ?_
              refine Ch.step (v := (.d (.bool false))) rfl (.pure (.pickF _ _ _ rfl rfl rfl)) rfl rfl ?_
              refine Ch.step (v := (.d (.bool false))) rfl (.pure (.pickF _ _ _ rfl rfl rfl)) rfl rfl ?_
              refine Ch.step (v := (.d (.bool false))) rfl (.pure (.assign _ rfl rfl)) rfl rfl ?_
              refine Ch.nil ?_
              refine T_ret ?_
              refine And.intro (.inr rfl) ?_
              exact Exists.intro [(.d (.bool false))] (Exists.intro [] (Exists.intro [] (And.intro (.cons (.tmp 6 rfl) .nil) (And.intro (.cons (.any _) (.cons (.any _) (.cons (.any _) .nil))) (And.intro (Exp.of (congrArg D.bool (by first | (rw [pinS, pinsK, allOf, allB_no j (by omega) (by first | (simp only [pinK, *, decide_true, decide_false, Bool.and_true, Bool.true_and, Bool.and_false, Bool.false_and, Bool.or_false, Bool.false_or, Bool.or_true, Bool.true_or, Bool.not_true, Bool.not_false, not_false_eq_true, Bool.false_eq_true, if_true, if_false, reduceIte, ite_true, ite_false]; done) | (simp only [pinK, *, decide_true, decide_false, Bool.and_true, Bool.true_and, Bool.and_false, Bool.false_and, Bool.or_false, Bool.false_or, Bool.or_true, Bool.true_or, Bool.not_true, Bool.not_false, not_false_eq_true, Bool.false_eq_true, if_true, if_false, reduceIte, ite_true, ite_false]; rfl) | (simp_all [pinK]; done) | (simp_all [pinK]; omega))]; rfl) | (rw [pinS, pinsK, allOf, allB_of (fun q hq => hp0.2 q (by omega))]; first | (simp only [insB, pin_eq, *, decide_true, decide_false, Bool.and_true, Bool.true_and, Bool.and_false, Bool.false_and, Bool.or_false, Bool.false_or, Bool.or_true, Bool.true_or, Bool.not_true, Bool.not_false, not_false_eq_true, Bool.false_eq_true, if_true, if_false, reduceIte, ite_true, ite_false]; done) | (simp only [insB, pin_eq, *, decide_true, decide_false, Bool.and_true, Bool.true_and, Bool.and_false, Bool.false_and, Bool.or_false, Bool.false_or, Bool.or_true, Bool.true_or, Bool.not_true, Bool.not_false, not_false_eq_true, Bool.false_eq_true, if_true, if_false, reduceIte, ite_true, ite_false]; rfl) | (simp only [insB, pin_eq]; simp_all; done) | (simp only [insB, pin_eq]; simp_all; omega)))) (.d _)) (And.intro rfl rfl))))))
        · replace h7 := of_decide_eq_false h7
          refine T_skip ?_
          refine T_seq ?_
          refine T_region hc ?_
          refine Ch.step (v := (.ptr 5000 2)) rfl (.pure (.fldPtr _ _ _ rfl fld82_2 rfl)) rfl rfl ?_
          refine Ch.step (v := (.d (.slice false 2 (w.ins.map Pin.d)))) rfl (.pure (.loadPtr1 _ _ rfl ag80 rfl rfl rfl)) rfl rfl ?_
          refine Ch.step (v := (.d (.int .i64 ((w.ins.length : Nat) : Int)))) rfl (.pure (.len _ _ 89 rfl Try.underlying80 (.sh _ _) (by simp))) rfl rfl ?_
          refine Ch.step (v := (.d (.bool (withinB ((w.ins.length : Nat) : Int) 1 8)))) rfl (.call 84000 118 _ _ _ en118 rfl (.inl rfl) (.cons (.d _) (.cons (.d _) (.cons (.d _) .nil))) rfl rfl (sp_spec_l1In ((w.ins.length : Nat) : Int) 1 8) (.skip _ _ (.skip _ _ (.skip _ _ .nil))) rfl) rfl rfl ?_
          refine Ch.step (v := (.d (.bool (withinB ((w.ins.length : Nat) : Int) 1 8)))) rfl (.pure (.assign _ rfl rfl)) rfl rfl ?_
          refine Ch.nil ?_
          refine T_ret ?_
          refine And.intro (.inr rfl) ?_
          exact Exists.intro [(.d (.bool (withinB ((w.ins.length : Nat) : Int) 1 8)))] (Exists.intro [] (Exists.intro [] (And.intro (.cons (.tmp 6 rfl) .nil) (And.intro (.cons (.any _) (.cons (.any _) (.cons (.any _) .nil))) (And.intro (Exp.of (congrArg D.bool (by first | (rw [pinS, pinsK, allOf, allB_no j (by omega) (by first | (simp only [pinK, *, decide_true, decide_false, Bool.and_true, Bool.true_and, Bool.and_false, Bool.false_and, Bool.or_false, Bool.false_or, Bool.or_true, Bool.true_or, Bool.not_true, Bool.not_false, not_false_eq_true, Bool.false_eq_true, if_true, if_false, reduceIte, ite_true, ite_false]; done) | (simp only [pinK, *, decide_true, decide_false, Bool.and_true, Bool.true_and, Bool.and_false, Bool.false_and, Bool.or_false, Bool.false_or, Bool.or_true, Bool.true_or, Bool.not_true, Bool.not_false, not_false_eq_true, Bool.false_eq_true, if_true, if_false, reduceIte, ite_true, ite_false]; rfl) | (simp_all [pinK]; done) | (simp_all [pinK]; omega))]; rfl) | (rw [pinS, pinsK, allOf, allB_of (fun q hq => hp0.2 q (by omega))]; first | (simp only [insB, pin_eq, *, decide_true, decide_false, Bool.and_true, Bool.true_and, Bool.and_false, Bool.false_and, Bool.or_false, Bool.false_or, Bool.or_true, Bool.true_or, Bool.not_true, Bool.not_false, not_false_eq_true, Bool.false_eq_true, if_true, if_false, reduceIte, ite_true, ite_false]; done) | (simp only [insB, pin_eq, *, decide_true, decide_false, Bool.and_true, Bool.true_and, Bool.and_false, Bool.false_and, Bool.or_false, Bool.false_or, Bool.or_true, Bool.true_or, Bool.not_true, Bool.not_false, not_false_eq_true, Bool.false_eq_true, if_true, if_false, reduceIte, ite_true, ite_false]; rfl) | (simp only [insB, pin_eq]; simp_all; done) | (simp only [insB, pin_eq]; simp_all; omega)))) (.d _)) (And.intro rfl rfl))))))

set_option maxHeartbeats 2000000 in
theorem sp_spec_l19Wire (x : Ntl) (k : Nat) (w : Wir) (hb : x.bulk ≤ 1048576) (hw : w.bulk ≤ 1048576) : Sp Try.prog 153 [(.agg [(.slice false 2 (x.sigs.map Sgn.d)), (.slice false 4 (x.wires.map Wir.d))]), (.int .i64 ((k : Nat) : Int)), (.agg [(.str w.name), (.int .i64 w.kind), (.slice false 2 (w.ins.map Pin.d)), (.slice false 1 (w.cov.map D.str))])] [.any, .any, .any] (.bool (wirS x k w)) := by
  refine Sp_intro (lend := true) Try.func153 rfl rfl rfl (fun _ => rfl) (fun c hc hX => ?_)
  obtain ⟨hp0, hp1⟩ := Ntl.parts hb
  have hn0 := bulkF_len hp0
  have hn1 := bulkF_len hp1
  obtain ⟨hq0, hq1, hq2⟩ := Wir.parts hw
  have hm1 := bulkF_len hq1
  have hm2 := bulk_len hq2
  have hy2 := bulk_mem hq2
  refine T_seq ?_
  refine T_region hc ?_
  refine Ch.step (v := (.ptr 3000 0)) rfl (.box 3000 _ _ rfl (.aggD _)) rfl rfl ?_
  refine Ch.step (v := (.ptr 5000 0)) rfl (.box 5000 _ _ rfl (.aggD _)) rfl rfl ?_
  refine Ch.step (v := (.d (.bool false))) rfl (.pure (.assign _ rfl rfl)) rfl rfl ?_
  refine Ch.nil ?_
  refine T_seq ?_
  refine T_region hc ?_
  refine Ch.step (v := (.d (.int .i64 ((k : Nat) : Int)))) rfl (.pure (.move _ rfl rfl)) rfl rfl ?_
  refine Ch.step (v := (.ptr 3000 0)) rfl (.pure (.fldPtr _ _ _ rfl fld44_0 rfl)) rfl rfl ?_
  refine Ch.step (v := (.d (.slice false 2 (x.sigs.map Sgn.d)))) rfl (.pure (.loadPtr1 _ _ rfl ag41 rfl rfl rfl)) rfl rfl ?_
  refine Ch.step (v := (.d (.int .i64 ((x.sigs.length : Nat) : Int)))) rfl (.pure (.len _ _ 85 rfl Try.underlying41 (.sh _ _) (by simp))) rfl rfl ?_
  refine Ch.step (v := (.d (.bool (decide (((k : Nat) : Int) < ((x.sigs.length : Nat) : Int)))))) rfl (.pure (.int _ _ _ _ _ rfl rfl rfl rfl)) rfl rfl ?_
  refine Ch.step (v := (.d (.bool (decide (((k : Nat) : Int) < ((x.sigs.length : Nat) : Int)))))) rfl (.pure (.assign _ rfl rfl)) rfl rfl ?_
  refine Ch.nil ?_
  refine T_seq ?_
  refine T_seq ?_
  refine T_region hc ?_
  refine Ch.step (v := (.ptr 5000 1)) rfl (.pure (.fldPtr _ _ _ rfl fld82_1 rfl)) rfl rfl ?_
  refine Ch.step (v := (.d (.int .i64 w.kind))) rfl (.pure (.loadPtr1 _ _ rfl ag3 rfl rfl rfl)) rfl rfl ?_
  refine Ch.step (v := (.d (.bool (withinB w.kind 1 5)))) rfl (.call 15000 118 _ _ _ en118 rfl (.inl rfl) (.cons (.d _) (.cons (.d _) (.cons (.d _) .nil))) rfl rfl (sp_spec_l1In w.kind 1 5) (.skip _ _ (.skip _ _ (.skip _ _ .nil))) rfl) rfl rfl ?_
  refine Ch.step (v := (.d (.bool (!(withinB w.kind 1 5))))) rfl (.pure (.not _ _ rfl rfl)) rfl rfl ?_
  refine Ch.step (v := (.d (.bool (!(withinB w.kind 1 5))))) rfl (.pure (.move _ rfl rfl)) rfl rfl ?_
  cases h1 : (withinB w.kind 1 5) with
  | true =>
    refine Ch.step (v := (.d (.bool (decide (((k : Nat) : Int) < ((x.sigs.length : Nat) : Int)))))) rfl (.pure (.move _ rfl rfl)) rfl rfl ?_
    refine Ch.step (v := (.d (.bool (!(decide (((k : Nat) : Int) < ((x.sigs.length : Nat) : Int))))))) rfl (.pure (.not _ _ rfl rfl)) rfl rfl ?_
    refine Ch.step (v := (.d (.bool (!(decide (((k : Nat) : Int) < ((x.sigs.length : Nat) : Int))))))) rfl (.pure (.move _ rfl rfl)) rfl rfl ?_
    cases h2 : (decide (((k : Nat) : Int) < ((x.sigs.length : Nat) : Int))) with
    | true =>
      replace h2 := of_decide_eq_true h2
      refine Ch.skip rfl rfl ?_
      refine Ch.skip rfl rfl ?_
      refine Ch.skip rfl rfl ?_
      refine Ch.step (v := (.d (.bool false))) rfl (.pure (.pickF _ _ _ rfl rfl rfl)) rfl rfl ?_
      refine Ch.step (v := (.d (.bool false))) rfl (.pure (.move _ rfl rfl)) rfl rfl ?_
      refine Ch.skip rfl rfl ?_
      refine Ch.skip rfl rfl ?_
      refine Ch.skip rfl rfl ?_
      refine Ch.step (v := (.d (.bool false))) rfl (.pure (.pickF _ _ _ rfl rfl rfl)) rfl rfl ?_
      refine Ch.step (v := (.d (.bool false))) rfl (.pure (.pickF _ _ _ rfl rfl rfl)) rfl rfl ?_
      refine Ch.nil ?_
      refine T_cond (b := false) rfl (fun h => nomatch h) (fun _ => ?_)
      refine T_skip ?_
      refine T_seq ?_
      refine T_seq ?_
      refine T_regionD hc (by kernel_rfl) ?_
      refine ChD.step (v := (.d (.bool true))) [] rfl (.pure (.move _ rfl rfl)) rfl rfl ?_
      refine ChD.step (v := (.d (.bool true))) [] rfl (.pure (.move _ rfl rfl)) rfl rfl ?_
      refine ChD.step (v := (.ptr 5000 0)) [] rfl (.pure (.fldPtr _ _ _ rfl fld82_0 rfl)) rfl rfl ?_
      refine ChD.step (v := (.d (.str w.name))) [5000] rfl (.pure (.loadPtr1 _ _ rfl ag9 rfl rfl rfl)) rfl rfl ?_
      refine ChD.step (v := (.ptr 3000 0)) [] rfl (.pure (.fldPtr _ _ _ rfl fld44_0 rfl)) rfl rfl ?_
      refine ChD.step (v := (.d (.slice false 2 (x.sigs.map Sgn.d)))) [3000] rfl (.pure (.loadPtr1 _ _ rfl ag41 rfl rfl rfl)) rfl rfl ?_
      refine ChD.step (v := (.d (.int .i64 ((k : Nat) : Int)))) [] rfl (.pure (.move _ rfl rfl)) rfl rfl ?_
      refine ChD.step (v := (.d (.ref (.agg [(.str ((x.sigs.getD k default).name)), (.int .i64 ((x.sigs.getD k default).kind))])))) [] rfl (.pure (.idx _ _ _ 85 (k) rfl Try.underlying41 sz85 rfl rfl rfl (get_map _ (by first | omega | (simp only [List.length_map, List.length_append, List.length_take, List.length_drop, List.length_cons, List.length_nil]; omega) | (simp; omega) | (simp; done))))) rfl rfl ?_
      refine ChD.step (v := (.d (.ref (.str ((x.sigs.getD k default).name))))) [] rfl (.pure (.fldRef _ _ _ rfl fld85_0 rfl rfl rfl)) rfl rfl ?_
      refine ChD.step (v := (.d (.str ((x.sigs.getD k default).name)))) [] rfl (.pure (.loadRef1 _ _ rfl ag9 rfl rfl)) rfl rfl ?_
      refine ChD.step (v := (.d (.bool (!(decide (w.name = ((x.sigs.getD k default).name))))))) [] rfl (.pure (.str _ _ _ _ _ rfl rfl rfl rfl)) rfl rfl ?_
      refine ChD.step (v := (.d (.bool (!(decide (w.name = ((x.sigs.getD k default).name))))))) [] rfl (.pure (.move _ rfl rfl)) rfl rfl ?_
      cases h3 : (decide (w.name = ((x.sigs.getD k default).name))) with
      | true =>
        replace h3 := of_decide_eq_true h3
        refine ChD.step (v := (.ptr 5000 1)) [] rfl (.pure (.fldPtr _ _ _ rfl fld82_1 rfl)) rfl rfl ?_
        refine ChD.step (v := (.d (.int .i64 w.kind))) [5000] rfl (.pure (.loadPtr1 _ _ rfl ag3 rfl rfl rfl)) rfl rfl ?_
        refine ChD.step (v := (.d (.bool (decide (w.kind = 1))))) [] rfl (.pure (.int _ _ _ _ _ rfl rfl rfl rfl)) rfl rfl ?_
        refine ChD.step (v := (.ptr 3000 0)) [] rfl (.pure (.fldPtr _ _ _ rfl fld44_0 rfl)) rfl rfl ?_
        refine ChD.step (v := (.d (.slice false 2 (x.sigs.map Sgn.d)))) [3000] rfl (.pure (.loadPtr1 _ _ rfl ag41 rfl rfl rfl)) rfl rfl ?_
        refine ChD.step (v := (.d (.int .i64 ((k : Nat) : Int)))) [] rfl (.pure (.move _ rfl rfl)) rfl rfl ?_
        refine ChD.step (v := (.d (.ref (.agg [(.str ((x.sigs.getD k default).name)), (.int .i64 ((x.sigs.getD k default).kind))])))) [] rfl (.pure (.idx _ _ _ 85 (k) rfl Try.underlying41 sz85 rfl rfl rfl (get_map _ (by first | omega | (simp only [List.length_map, List.length_append, List.length_take, List.length_drop, List.length_cons, List.length_nil]; omega) | (simp; omega) | (simp; done))))) rfl rfl ?_
        refine ChD.step (v := (.d (.ref (.int .i64 ((x.sigs.getD k default).kind))))) [] rfl (.pure (.fldRef _ _ _ rfl fld85_1 rfl rfl rfl)) rfl rfl ?_
        refine ChD.step (v := (.d (.int .i64 ((x.sigs.getD k default).kind)))) [] rfl (.pure (.loadRef1 _ _ rfl ag3 rfl rfl)) rfl rfl ?_
        refine ChD.step (v := (.d (.bool (decide (((x.sigs.getD k default).kind) = 1))))) [] rfl (.pure (.int _ _ _ _ _ rfl rfl rfl rfl)) rfl rfl ?_
        refine ChD.step (v := (.d (.bool (!(decide ((decide (w.kind = 1)) = (decide (((x.sigs.getD k default).kind) = 1)))))))) [] rfl (.pure (.neB _ _ _ _ rfl Try.underlying4 rfl rfl)) rfl rfl ?_
        refine ChD.step (v := (.d (.bool (!(decide ((decide (w.kind = 1)) = (decide (((x.sigs.getD k default).kind) = 1)))))))) [] rfl (.pure (.pickF _ _ _ rfl rfl rfl)) rfl rfl ?_
        refine ChD.step (v := (.d (.bool (!(decide ((decide (w.kind = 1)) = (decide (((x.sigs.getD k default).kind) = 1)))))))) [] rfl (.pure (.pickT _ _ _ rfl rfl rfl)) rfl rfl ?_
        refine ChD.nil (And.intro ?_ (by kernel_rfl))
        refine T_cond (b := (!(decide ((decide (w.kind = 1)) = (decide (((x.sigs.getD k default).kind) = 1)))))) rfl (fun h4 => ?_) (fun h4 => ?_)
        · replace h4 := nott h4
          replace h4 := of_decide_eq_false h4
          refine T_seq ?_
          refine T_region hc ?_
          refine Ch.step (v := (.d (.bool false))) rfl (.pure (.assign _ rfl rfl)) rfl rfl ?_
          refine Ch.nil ?_
          refine T_ret ?_
          refine And.intro (.inr rfl) ?_
          exact Exists.intro [(.d (.bool false))] (Exists.intro [] (Exists.intro [] (And.intro (.cons (.tmp 6 rfl) .nil) (And.intro (.cons (.any _) (.cons (.any _) (.cons (.any _) .nil))) (And.intro (Exp.of (congrArg D.bool (by first | (simp only [wirS, seenB, *, decide_true, decide_false, Bool.and_true, Bool.true_and, Bool.and_false, Bool.false_and, Bool.or_false, Bool.false_or, Bool.or_true, Bool.true_or, Bool.not_true, Bool.not_false, not_false_eq_true, Bool.false_eq_true, if_true, if_false, reduceIte, ite_true, ite_false]; done) | (simp only [wirS, seenB, *, decide_true, decide_false, Bool.and_true, Bool.true_and, Bool.and_false, Bool.false_and, Bool.or_false, Bool.false_or, Bool.or_true, Bool.true_or, Bool.not_true, Bool.not_false, not_false_eq_true, Bool.false_eq_true, if_true, if_false, reduceIte, ite_true, ite_false]; rfl) | (simp only [wirS, seenB]; simp_all; done) | (simp only [wirS, seenB]; simp_all; omega))) (.d _)) (And.intro rfl rfl))))))
        · replace h4 := notf h4
          replace h4 := of_decide_eq_true h4
          refine T_skip ?_
          refine T_seq ?_
          refine T_seq ?_
          refine T_region hc ?_
          refine Ch.step (v := (.ptr 5000 1)) rfl (.pure (.fldPtr _ _ _ rfl fld82_1 rfl)) rfl rfl ?_
          refine Ch.step (v := (.d (.int .i64 w.kind))) rfl (.pure (.loadPtr1 _ _ rfl ag3 rfl rfl rfl)) rfl rfl ?_
          refine Ch.step (v := (.d (.bool (decide (w.kind = 5))))) rfl (.pure (.int _ _ _ _ _ rfl rfl rfl rfl)) rfl rfl ?_
          refine Ch.step (v := (.d (.bool (decide (w.kind = 5))))) rfl (.pure (.move _ rfl rfl)) rfl rfl ?_
          cases h5 : (decide (w.kind = 5)) with
          | true =>
            replace h5 := of_decide_eq_true h5
            refine Ch.step (v := (.ptr 3000 0)) rfl (.pure (.fldPtr _ _ _ rfl fld44_0 rfl)) rfl rfl ?_
            refine Ch.step (v := (.d (.slice false 2 (x.sigs.map Sgn.d)))) rfl (.pure (.loadPtr1 _ _ rfl ag41 rfl rfl rfl)) rfl rfl ?_
            refine Ch.step (v := (.d (.int .i64 ((x.sigs.length : Nat) : Int)))) rfl (.pure (.len _ _ 85 rfl Try.underlying41 (.sh _ _) (by simp))) rfl rfl ?_
            refine Ch.step (v := (.ptr 5000 3)) rfl (.pure (.fldPtr _ _ _ rfl fld82_3 rfl)) rfl rfl ?_
            refine Ch.step (v := (.d (.slice false 1 (w.cov.map D.str)))) rfl (.pure (.loadPtr1 _ _ rfl ag22 rfl rfl rfl)) rfl rfl ?_
            refine Ch.step (v := (.d (.bool (goodB ((x.sigs.length : Nat) : Int) w.cov)))) rfl (.call 65000 59 _ _ _ en59 rfl (.inl rfl) (.cons (.d _) (.cons (.d _) .nil)) rfl rfl (sp_spec_l13Good ((x.sigs.length : Nat) : Int) w.cov (by first | omega | assumption | (exact hx _ (getD_mem (by omega))) | (exact hx _ (by assumption)) | (exact Nat.le_trans (hx _ (by assumption)) (by omega)) | (simp only [List.length_append, List.length_take, List.length_drop, List.length_cons, List.length_nil]; omega) | (simp_all; done)) (by first | omega | assumption | (exact hx _ (getD_mem (by omega))) | (exact hx _ (by assumption)) | (exact Nat.le_trans (hx _ (by assumption)) (by omega)) | (simp only [List.length_append, List.length_take, List.length_drop, List.length_cons, List.length_nil]; omega) | (simp_all; done))) (.skip _ _ (.skip _ _ .nil)) rfl) rfl rfl ?_
            refine Ch.step (v := (.d (.bool (!(goodB ((x.sigs.length : Nat) : Int) w.cov))))) rfl (.pure (.not _ _ rfl rfl)) rfl rfl ?_
            refine Ch.step (v := (.d (.bool (!(goodB ((x.sigs.length : Nat) : Int) w.cov))))) rfl (.pure (.pickT _ _ _ rfl rfl rfl)) rfl rfl ?_
            refine Ch.step (v := (.d (.bool (!(goodB ((x.sigs.length : Nat) : Int) w.cov))))) rfl (.pure (.move _ rfl rfl)) rfl rfl ?_
            cases h6 : (goodB ((x.sigs.length : Nat) : Int) w.cov) with
            | true =>
              refine Ch.step (v := (.ptr 5000 1)) rfl (.pure (.fldPtr _ _ _ rfl fld82_1 rfl)) rfl rfl ?_
              refine Ch.step (v := (.d (.int .i64 w.kind))) rfl (.pure (.loadPtr1 _ _ rfl ag3 rfl rfl rfl)) rfl rfl ?_
              refine Ch.step (v := (.d (.bool (!(decide (w.kind = 5)))))) rfl (.pure (.int _ _ _ _ _ rfl rfl rfl rfl)) rfl rfl ?_
              refine Ch.step (v := (.d (.bool (!(decide (w.kind = 5)))))) rfl (.pure (.move _ rfl rfl)) rfl rfl ?_
              cases h7 : (decide (w.kind = 5)) with
              | true =>
                replace h7 := of_decide_eq_true h7
                refine Ch.skip rfl rfl ?_
                refine Ch.skip rfl rfl ?_
                refine Ch.skip rfl rfl ?_
                refine Ch.skip rfl rfl ?_
                refine Ch.step (v := (.d (.bool false))) rfl (.pure (.pickF _ _ _ rfl rfl rfl)) rfl rfl ?_
                refine Ch.step (v := (.d (.bool false))) rfl (.pure (.pickF _ _ _ rfl rfl rfl)) rfl rfl ?_
                refine Ch.nil ?_
                refine T_cond (b := false) rfl (fun h => nomatch h) (fun _ => ?_)
                refine T_skip ?_
                refine T_seq ?_
                refine T_region hc ?_
                refine Ch.step (v := (.ptr 5000 0)) rfl (.pure (.fldPtr _ _ _ rfl fld82_0 rfl)) rfl rfl ?_
                refine Ch.step (v := (.d (.str w.name))) rfl (.pure (.loadPtr1 _ _ rfl ag9 rfl rfl rfl)) rfl rfl ?_
                refine Ch.step (v := (.d (.bool (nameB w.name)))) rfl (.call 81000 135 _ _ _ en135 rfl (.inl rfl) (.cons (.d _) .nil) rfl rfl (sp_spec_l2Name w.name (by first | omega | assumption | (exact hx _ (getD_mem (by omega))) | (exact hx _ (by assumption)) | (exact Nat.le_trans (hx _ (by assumption)) (by omega)) | (simp only [List.length_append, List.length_take, List.length_drop, List.length_cons, List.length_nil]; omega) | (simp_all; done))) (.skip _ _ .nil) rfl) rfl rfl ?_
                refine Ch.step (v := (.d (.bool (nameB w.name)))) rfl (.pure (.move _ rfl rfl)) rfl rfl ?_
                cases h8 : (nameB w.name) with
                | true =>
                  refine Ch.step (v := (.agg [(.d (.slice false 2 (x.sigs.map Sgn.d))), (.d (.slice false 4 (x.wires.map Wir.d)))])) rfl (.pure (.loadPtrA _ _ rfl ag44 sz44 rfl rfl (Nat.le_of_ble_eq_true rfl) rfl)) rfl rfl ?_
                  refine Ch.step (v := (.d (.int .i64 ((k : Nat) : Int)))) rfl (.pure (.move _ rfl rfl)) rfl rfl ?_
                  refine Ch.step (v := (.agg [(.d (.str w.name)), (.d (.int .i64 w.kind)), (.d (.slice false 2 (w.ins.map Pin.d))), (.d (.slice false 1 (w.cov.map D.str)))])) rfl (.pure (.loadPtrA _ _ rfl ag82 sz82 rfl rfl (Nat.le_of_ble_eq_true rfl) rfl)) rfl rfl ?_
                  refine Ch.step (v := (.d (.bool (pinS x k w)))) rfl (.call 86000 171 _ _ _ en171 rfl (.inl rfl) (.cons (.lend (.agg (.cons (.d _) (.cons (.d _) .nil)) rfl)) (.cons (.d _) (.cons (.lend (.agg (.cons (.d _) (.cons (.d _) (.cons (.d _) (.cons (.d _) .nil)))) rfl)) .nil))) rfl rfl (sp_spec_l19Pins x k w (by first | assumption | omega | (rw [List.length_take]; omega) | (have := bulkF_mem hb _ (getD_mem (d := default) (by omega)); assumption) | (unfold bulkS at *; omega) | (simp_all; done)) (by first | assumption | omega | (rw [List.length_take]; omega) | (have := bulkF_mem hb _ (getD_mem (d := default) (by omega)); assumption) | (unfold bulkS at *; omega) | (simp_all; done))) (.skip _ _ (.skip _ _ (.skip _ _ .nil))) rfl) rfl rfl ?_
                  refine Ch.step (v := (.d (.bool (pinS x k w)))) rfl (.pure (.pickT _ _ _ rfl rfl rfl)) rfl rfl ?_
                  refine Ch.step (v := (.d (.bool (pinS x k w)))) rfl (.pure (.assign _ rfl rfl)) rfl rfl ?_
                  refine Ch.nil ?_
                  refine T_ret ?_
                  refine And.intro (.inr rfl) ?_
                  exact Exists.intro [(.d (.bool (pinS x k w)))] (Exists.intro [] (Exists.intro [] (And.intro (.cons (.tmp 6 rfl) .nil) (And.intro (.cons (.any _) (.cons (.any _) (.cons (.any _) .nil))) (And.intro (Exp.of (congrArg D.bool (by first | (simp only [wirS, seenB, *, decide_true, decide_false, Bool.and_true, Bool.true_and, Bool.and_false, Bool.false_and, Bool.or_false, Bool.false_or, Bool.or_true, Bool.true_or, Bool.not_true, Bool.not_false, not_false_eq_true, Bool.false_eq_true, if_true, if_false, reduceIte, ite_true, ite_false]; done) | (simp only [wirS, seenB, *, decide_true, decide_false, Bool.and_true, Bool.true_and, Bool.and_false, Bool.false_and, Bool.or_false, Bool.false_or, Bool.or_true, Bool.true_or, Bool.not_true, Bool.not_false, not_false_eq_true, Bool.false_eq_true, if_true, if_false, reduceIte, ite_true, ite_false]; rfl) | (simp only [wirS, seenB]; simp_all; done) | (simp only [wirS, seenB]; simp_all; omega))) (.d _)) (And.intro rfl rfl))))))
                | false =>
                  refine Ch.skip rfl rfl ?_
                  refine Ch.skip rfl rfl ?_
                  refine Ch.skip rfl rfl ?_
                  refine Ch.skip rfl rfl ?_
                  refine Ch.step (v := (.d (.bool false))) rfl (.pure (.pickF _ _ _ rfl rfl rfl)) rfl rfl ?_
                  refine Ch.step (v := (.d (.bool false))) rfl (.pure (.assign _ rfl rfl)) rfl rfl ?_
                  refine Ch.nil ?_
                  refine T_ret ?_
                  refine And.intro (.inr rfl) ?_
                  exact Exists.intro [(.d (.bool false))] (Exists.intro [] (Exists.intro [] (And.intro (.cons (.tmp 6 rfl) .nil) (And.intro (.cons (.any _) (.cons (.any _) (.cons (.any _) .nil))) (And.intro (Exp.of (congrArg D.bool (by first | (simp only [wirS, seenB, *, decide_true, decide_false, Bool.and_true, Bool.true_and, Bool.and_false, Bool.false_and, Bool.or_false, Bool.false_or, Bool.or_true, Bool.true_or, Bool.not_true, Bool.not_false, not_false_eq_true, Bool.false_eq_true, if_true, if_false, reduceIte, ite_true, ite_false]; done) | (simp only [wirS, seenB, *, decide_true, decide_false, Bool.and_true, Bool.true_and, Bool.and_false, Bool.false_and, Bool.or_false, Bool.false_or, Bool.or_true, Bool.true_or, Bool.not_true, Bool.not_false, not_false_eq_true, Bool.false_eq_true, if_true, if_false, reduceIte, ite_true, ite_false]; rfl) | (simp only [wirS, seenB]; simp_all; done) | (simp only [wirS, seenB]; simp_all; omega))) (.d _)) (And.intro rfl rfl))))))
              | false =>
                replace h7 := of_decide_eq_false h7
                refine Ch.step (v := (.ptr 5000 3)) rfl (.pure (.fldPtr _ _ _ rfl fld82_3 rfl)) rfl rfl ?_
                refine Ch.step (v := (.d (.slice false 1 (w.cov.map D.str)))) rfl (.pure (.loadPtr1 _ _ rfl ag22 rfl rfl rfl)) rfl rfl ?_
                refine Ch.step (v := (.d (.int .i64 ((w.cov.length : Nat) : Int)))) rfl (.pure (.len _ _ 9 rfl Try.underlying22 (.sh _ _) (by simp))) rfl rfl ?_
                refine Ch.step (v := (.d (.bool (decide (0 < ((w.cov.length : Nat) : Int)))))) rfl (.pure (.int _ _ _ _ _ rfl rfl rfl rfl)) rfl rfl ?_
                refine Ch.step (v := (.d (.bool (decide (0 < ((w.cov.length : Nat) : Int)))))) rfl (.pure (.pickT _ _ _ rfl rfl rfl)) rfl rfl ?_
                refine Ch.step (v := (.d (.bool (decide (0 < ((w.cov.length : Nat) : Int)))))) rfl (.pure (.pickF _ _ _ rfl rfl rfl)) rfl rfl ?_
                refine Ch.nil ?_
                refine T_cond (b := (decide (0 < ((w.cov.length : Nat) : Int)))) rfl (fun h9 => ?_) (fun h9 => ?_)
                · replace h9 := of_decide_eq_true h9
                  refine T_seq ?_
                  refine T_region hc ?_
                  refine Ch.step (v := (.d (.bool false))) rfl (.pure (.assign _ rfl rfl)) rfl rfl ?_
                  refine Ch.nil ?_
                  refine T_ret ?_
                  refine And.intro (.inr rfl) ?_
                  exact Exists.intro [(.d (.bool false))] (Exists.intro [] (Exists.intro [] (And.intro (.cons (.tmp 6 rfl) .nil) (And.intro (.cons (.any _) (.cons (.any _) (.cons (.any _) .nil))) (And.intro (Exp.of (congrArg D.bool (by first | (simp only [wirS, seenB, *, decide_true, decide_false, Bool.and_true, Bool.true_and, Bool.and_false, Bool.false_and, Bool.or_false, Bool.false_or, Bool.or_true, Bool.true_or, Bool.not_true, Bool.not_false, not_false_eq_true, Bool.false_eq_true, if_true, if_false, reduceIte, ite_true, ite_false]; done) | (simp only [wirS, seenB, *, decide_true, decide_false, Bool.and_true, Bool.true_and, Bool.and_false, Bool.false_and, Bool.or_false, Bool.false_or, Bool.or_true, Bool.true_or, Bool.not_true, Bool.not_false, not_false_eq_true, Bool.false_eq_true, if_true, if_false, reduceIte, ite_true, ite_false]; rfl) | (simp only [wirS, seenB]; simp_all; done) | (simp only [wirS, seenB]; simp_all; omega))) (.d _)) (And.intro rfl rfl))))))
                · replace h9 := of_decide_eq_false h9
                  refine T_skip ?_
                  refine T_seq ?_
                  refine T_region hc ?_
                  refine Ch.step (v := (.ptr 5000 0)) rfl (.pure (.fldPtr _ _ _ rfl fld82_0 rfl)) rfl rfl ?_
                  refine Ch.step (v := (.d (.str w.name))) rfl (.pure (.loadPtr1 _ _ rfl ag9 rfl rfl rfl)) rfl rfl ?_
                  refine Ch.step (v := (.d (.bool (nameB w.name)))) rfl (.call 81000 135 _ _ _ en135 rfl (.inl rfl) (.cons (.d _) .nil) rfl rfl (sp_spec_l2Name w.name (by first | omega | assumption | (exact hx _ (getD_mem (by omega))) | (exact hx _ (by assumption)) | (exact Nat.le_trans (hx _ (by assumption)) (by omega)) | (simp only [List.length_append, List.length_take, List.length_drop, List.length_cons, List.length_nil]; omega) | (simp_all; done))) (.skip _ _ .nil) rfl) rfl rfl ?_
                  refine Ch.step (v := (.d (.bool (nameB w.name)))) rfl (.pure (.move _ rfl rfl)) rfl rfl ?_
                  cases h10 : (nameB w.name) with
                  | true =>
                    refine Ch.step (v := (.agg [(.d (.slice false 2 (x.sigs.map Sgn.d))), (.d (.slice false 4 (x.wires.map Wir.d)))])) rfl (.pure (.loadPtrA _ _ rfl ag44 sz44 rfl rfl (Nat.le_of_ble_eq_true rfl) rfl)) rfl rfl ?_
                    refine Ch.step (v := (.d (.int .i64 ((k : Nat) : Int)))) rfl (.pure (.move _ rfl rfl)) rfl rfl ?_
                    refine Ch.step (v := (.agg [(.d (.str w.name)), (.d (.int .i64 w.kind)), (.d (.slice false 2 (w.ins.map Pin.d))), (.d (.slice false 1 (w.cov.map D.str)))])) rfl (.pure (.loadPtrA _ _ rfl ag82 sz82 rfl rfl (Nat.le_of_ble_eq_true rfl) rfl)) rfl rfl ?_
                    refine Ch.step (v := (.d (.bool (pinS x k w)))) rfl (.call 86000 171 _ _ _ en171 rfl (.inl rfl) (.cons (.lend (.agg (.cons (.d _) (.cons (.d _) .nil)) rfl)) (.cons (.d _) (.cons (.lend (.agg (.cons (.d _) (.cons (.d _) (.cons (.d _) (.cons (.d _) .nil)))) rfl)) .nil))) rfl rfl (sp_spec_l19Pins x k w (by first | assumption | omega | (rw [List.length_take]; omega) | (have := bulkF_mem hb _ (getD_mem (d := default) (by omega)); assumption) | (unfold bulkS at *; omega) | (simp_all; done)) (by first | assumption | omega | (rw [List.length_take]; omega) | (have := bulkF_mem hb _ (getD_mem (d := default) (by omega)); assumption) | (unfold bulkS at *; omega) | (simp_all; done))) (.skip _ _ (.skip _ _ (.skip _ _ .nil))) rfl) rfl rfl ?_
                    refine Ch.step (v := (.d (.bool (pinS x k w)))) rfl (.pure (.pickT _ _ _ rfl rfl rfl)) rfl rfl ?_
                    refine Ch.step (v := (.d (.bool (pinS x k w)))) rfl (.pure (.assign _ rfl rfl)) rfl rfl ?_
                    refine Ch.nil ?_
                    refine T_ret ?_
                    refine And.intro (.inr rfl) ?_
                    exact Exists.intro [(.d (.bool (pinS x k w)))] (Exists.intro [] (Exists.intro [] (And.intro (.cons (.tmp 6 rfl) .nil) (And.intro (.cons (.any _) (.cons (.any _) (.cons (.any _) .nil))) (And.intro (Exp.of (congrArg D.bool (by first | (simp only [wirS, seenB, *, decide_true, decide_false, Bool.and_true, Bool.true_and, Bool.and_false, Bool.false_and, Bool.or_false, Bool.false_or, Bool.or_true, Bool.true_or, Bool.not_true, Bool.not_false, not_false_eq_true, Bool.false_eq_true, if_true, if_false, reduceIte, ite_true, ite_false]; done) | (simp only [wirS, seenB, *, decide_true, decide_false, Bool.and_true, Bool.true_and, Bool.and_false, Bool.false_and, Bool.or_false, Bool.false_or, Bool.or_true, Bool.true_or, Bool.not_true, Bool.not_false, not_false_eq_true, Bool.false_eq_true, if_true, if_false, reduceIte, ite_true, ite_false]; rfl) | (simp only [wirS, seenB]; simp_all; done) | (simp only [wirS, seenB]; simp_all; omega))) (.d _)) (And.intro rfl rfl))))))
                  | false =>
                    refine Ch.skip rfl rfl ?_
                    refine Ch.skip rfl rfl ?_
                    refine Ch.skip rfl rfl ?_
                    refine Ch.skip rfl rfl ?_
                    refine Ch.step (v := (.d (.bool false))) rfl (.pure (.pickF _ _ _ rfl rfl rfl)) rfl rfl ?_
                    refine Ch.step (v := (.d (.bool false))) rfl (.pure (.assign _ rfl rfl)) rfl rfl ?_
                    refine Ch.nil ?_
                    refine T_ret ?_
                    refine And.intro (.inr rfl) ?_
                    exact Exists.intro [(.d (.bool false))] (Exists.intro [] (Exists.intro [] (And.intro (.cons (.tmp 6 rfl) .nil) (And.intro (.cons (.any _) (.cons (.any _) (.cons (.any _) .nil))) (And.intro (Exp.of (congrArg D.bool (by first | (simp only [wirS, seenB, *, decide_true, decide_false, Bool.and_true, Bool.true_and, Bool.and_false, Bool.false_and, Bool.or_false, Bool.false_or, Bool.or_true, Bool.true_or, Bool.not_true, Bool.not_false, not_false_eq_true, Bool.false_eq_true, if_true, if_false, reduceIte, ite_true, ite_false]; done) | (simp only [wirS, seenB, *, decide_true, decide_false, Bool.and_true, Bool.true_and, Bool.and_false, Bool.false_and, Bool.or_false, Bool.false_or, Bool.or_true, Bool.true_or, Bool.not_true, Bool.not_false, not_false_eq_true, Bool.false_eq_true, if_true, if_false, reduceIte, ite_true, ite_false]; rfl) | (simp only [wirS, seenB]; simp_all; done) | (simp only [wirS, seenB]; simp_all; omega))) (.d _)) (And.intro rfl rfl))))))
            | false =>
              refine Ch.skip rfl rfl ?_
              refine Ch.skip rfl rfl ?_
              refine Ch.skip rfl rfl ?_
              refine Ch.skip rfl rfl ?_
              refine Ch.skip rfl rfl ?_
              refine Ch.skip rfl rfl ?_
              refine Ch.skip rfl rfl ?_
              refine Ch.skip rfl rfl ?_
              refine Ch.skip rfl rfl ?_
              refine Ch.step (v := (.d (.bool true))) rfl (.pure (.pickT _ _ _ rfl rfl rfl)) rfl rfl ?_
              refine Ch.nil ?_
              refine T_cond (b := true) rfl (fun _ => ?_) (fun h => nomatch h)
              refine T_seq ?_
              refine T_region hc ?_
              refine Ch.step (v := (.d (.bool false))) rfl (.pure (.assign _ rfl rfl)) rfl rfl ?_
              refine Ch.nil ?_
              refine T_ret ?_
              refine And.intro (.inr rfl) ?_
              exact Exists.intro [(.d (.bool false))] (Exists.intro [] (Exists.intro [] (And.intro (.cons (.tmp 6 rfl) .nil) (And.intro (.cons (.any _) (.cons (.any _) (.cons (.any _) .nil))) (And.intro (Exp.of (congrArg D.bool (by first | (simp only [wirS, seenB, *, decide_true, decide_false, Bool.and_true, Bool.true_and, Bool.and_false, Bool.false_and, Bool.or_false, Bool.false_or, Bool.or_true, Bool.true_or, Bool.not_true, Bool.not_false, not_false_eq_true, Bool.false_eq_true, if_true, if_false, reduceIte, ite_true, ite_false]; done) | (simp only [wirS, seenB, *, decide_true, decide_false, Bool.and_true, Bool.true_and, Bool.and_false, Bool.false_and, Bool.or_false, Bool.false_or, Bool.or_true, Bool.true_or, Bool.not_true, Bool.not_false, not_false_eq_true, Bool.false_eq_true, if_true, if_false, reduceIte, ite_true, ite_false]; rfl) | (simp only [wirS, seenB]; simp_all; done) | (simp only [wirS, seenB]; simp_all; omega))) (.d _)) (And.intro rfl rfl))))))
          | false =>
            replace h5 := of_decide_eq_false h5
            refine Ch.skip rfl rfl ?_
            refine Ch.skip rfl rfl ?_
            refine Ch.skip rfl rfl ?_
            refine Ch.skip rfl rfl ?_
            refine Ch.skip rfl rfl ?_
            refine Ch.skip rfl rfl ?_
            refine Ch.skip rfl rfl ?_
            refine Ch.step (v := (.d (.bool false))) rfl (.pure (.pickF _ _ _ rfl rfl rfl)) rfl rfl ?_
            refine Ch.step (v := (.d (.bool false))) rfl (.pure (.move _ rfl rfl)) rfl rfl ?_
            refine Ch.step (v := (.ptr 5000 1)) rfl (.pure (.fldPtr _ _ _ rfl fld82_1 rfl)) rfl rfl ?_
            refine Ch.step (v := (.d (.int .i64 w.kind))) rfl (.pure (.loadPtr1 _ _ rfl ag3 rfl rfl rfl)) rfl rfl ?_
            refine Ch.step (v := (.d (.bool (!(decide (w.kind = 5)))))) rfl (.pure (.int _ _ _ _ _ rfl rfl rfl rfl)) rfl rfl ?_
            refine Ch.step (v := (.d (.bool (!(decide (w.kind = 5)))))) rfl (.pure (.move _ rfl rfl)) rfl rfl ?_
            cases h11 : (decide (w.kind = 5)) with
            | true =>
              replace h11 := of_decide_eq_true h11
              refine Ch.skip rfl rfl ?_
              refine Ch.skip rfl rfl ?_
              refine Ch.skip rfl rfl ?_
              refine Ch.skip rfl rfl ?_
              refine Ch.step (v := (.d (.bool false))) rfl (.pure (.pickF _ _ _ rfl rfl rfl)) rfl rfl ?_
              refine Ch.step (v := (.d (.bool false))) rfl (.pure (.pickF _ _ _ rfl rfl rfl)) rfl rfl ?_
              refine Ch.nil ?_
              refine T_cond (b := false) rfl (fun h => nomatch h) (fun _ => ?_)
              refine T_skip ?_
              refine T_seq ?_
              refine T_region hc ?_
              refine Ch.step (v := (.ptr 5000 0)) rfl (.pure (.fldPtr _ _ _ rfl fld82_0 rfl)) rfl rfl ?_
              refine Ch.step (v := (.d (.str w.name))) rfl (.pure (.loadPtr1 _ _ rfl ag9 rfl rfl rfl)) rfl rfl ?_
              refine Ch.step (v := (.d (.bool (nameB w.name)))) rfl (.call 81000 135 _ _ _ en135 rfl (.inl rfl) (.cons (.d _) .nil) rfl rfl (sp_spec_l2Name w.name (by first | omega | assumption | (exact hx _ (getD_mem (by omega))) | (exact hx _ (by assumption)) | (exact Nat.le_trans (hx _ (by assumption)) (by omega)) | (simp only [List.length_append, List.length_take, List.length_drop, List.length_cons, List.length_nil]; omega) | (simp_all; done))) (.skip _ _ .nil) rfl) rfl rfl ?_
              refine Ch.step (v := (.d (.bool (nameB w.name)))) rfl (.pure (.move _ rfl rfl)) rfl rfl ?_
              cases h12 : (nameB w.name) with
              | true =>
                refine Ch.step (v := (.agg [(.d (.slice false 2 (x.sigs.map Sgn.d))), (.d (.slice false 4 (x.wires.map Wir.d)))])) rfl (.pure (.loadPtrA _ _ rfl ag44 sz44 rfl rfl (Nat.le_of_ble_eq_true rfl) rfl)) rfl rfl ?_
                refine Ch.step (v := (.d (.int .i64 ((k : Nat) : Int)))) rfl (.pure (.move _ rfl rfl)) rfl rfl ?_
                refine Ch.step (v := (.agg [(.d (.str w.name)), (.d (.int .i64 w.kind)), (.d (.slice false 2 (w.ins.map Pin.d))), (.d (.slice false 1 (w.cov.map D.str)))])) rfl (.pure (.loadPtrA _ _ rfl ag82 sz82 rfl rfl (Nat.le_of_ble_eq_true rfl) rfl)) rfl rfl ?_
                refine Ch.step (v := (.d (.bool (pinS x k w)))) rfl (.call 86000 171 _ _ _ en171 rfl (.inl rfl) (.cons (.lend (.agg (.cons (.d _) (.cons (.d _) .nil)) rfl)) (.cons (.d _) (.cons (.lend (.agg (.cons (.d _) (.cons (.d _) (.cons (.d _) (.cons (.d _) .nil)))) rfl)) .nil))) rfl rfl (sp_spec_l19Pins x k w (by first | assumption | omega | (rw [List.length_take]; omega) | (have := bulkF_mem hb _ (getD_mem (d := default) (by omega)); assumption) | (unfold bulkS at *; omega) | (simp_all; done)) (by first | assumption | omega | (rw [List.length_take]; omega) | (have := bulkF_mem hb _ (getD_mem (d := default) (by omega)); assumption) | (unfold bulkS at *; omega) | (simp_all; done))) (.skip _ _ (.skip _ _ (.skip _ _ .nil))) rfl) rfl rfl ?_
                refine Ch.step (v := (.d (.bool (pinS x k w)))) rfl (.pure (.pickT _ _ _ rfl rfl rfl)) rfl rfl ?_
                refine Ch.step (v := (.d (.bool (pinS x k w)))) rfl (.pure (.assign _ rfl rfl)) rfl rfl ?_
                refine Ch.nil ?_
                refine T_ret ?_
                refine And.intro (.inr rfl) ?_
                exact Exists.intro [(.d (.bool (pinS x k w)))] (Exists.intro [] (Exists.intro [] (And.intro (.cons (.tmp 6 rfl) .nil) (And.intro (.cons (.any _) (.cons (.any _) (.cons (.any _) .nil))) (And.intro (Exp.of (congrArg D.bool (by first | (simp only [wirS, seenB, *, decide_true, decide_false, Bool.and_true, Bool.true_and, Bool.and_false, Bool.false_and, Bool.or_false, Bool.false_or, Bool.or_true, Bool.true_or, Bool.not_true, Bool.not_false, not_false_eq_true, Bool.false_eq_true, if_true, if_false, reduceIte, ite_true, ite_false]; done) | (simp only [wirS, seenB, *, decide_true, decide_false, Bool.and_true, Bool.true_and, Bool.and_false, Bool.false_and, Bool.or_false, Bool.false_or, Bool.or_true, Bool.true_or, Bool.not_true, Bool.not_false, not_false_eq_true, Bool.false_eq_true, if_true, if_false, reduceIte, ite_true, ite_false]; rfl) | (simp only [wirS, seenB]; simp_all; done) | (simp only [wirS, seenB]; simp_all; omega))) (.d _)) (And.intro rfl rfl))))))
              | false =>
                refine Ch.skip rfl rfl ?_
                refine Ch.skip rfl rfl ?_
                refine Ch.skip rfl rfl ?_
                refine Ch.skip rfl rfl ?_
                refine Ch.step (v := (.d (.bool false))) rfl (.pure (.pickF _ _ _ rfl rfl rfl)) rfl rfl ?_
                refine Ch.step (v := (.d (.bool false))) rfl (.pure (.assign _ rfl rfl)) rfl rfl ?_
                refine Ch.nil ?_
                refine T_ret ?_
                refine And.intro (.inr rfl) ?_
                exact Exists.intro [(.d (.bool false))] (Exists.intro [] (Exists.intro [] (And.intro (.cons (.tmp 6 rfl) .nil) (And.intro (.cons (.any _) (.cons (.any _) (.cons (.any _) .nil))) (And.intro (Exp.of (congrArg D.bool (by first | (simp only [wirS, seenB, *, decide_true, decide_false, Bool.and_true, Bool.true_and, Bool.and_false, Bool.false_and, Bool.or_false, Bool.false_or, Bool.or_true, Bool.true_or, Bool.not_true, Bool.not_false, not_false_eq_true, Bool.false_eq_true, if_true, if_false, reduceIte, ite_true, ite_false]; done) | (simp only [wirS, seenB, *, decide_true, decide_false, Bool.and_true, Bool.true_and, Bool.and_false, Bool.false_and, Bool.or_false, Bool.false_or, Bool.or_true, Bool.true_or, Bool.not_true, Bool.not_false, not_false_eq_true, Bool.false_eq_true, if_true, if_false, reduceIte, ite_true, ite_false]; rfl) | (simp only [wirS, seenB]; simp_all; done) | (simp only [wirS, seenB]; simp_all; omega))) (.d _)) (And.intro rfl rfl))))))
            | false =>
              replace h11 := of_decide_eq_false h11
              refine Ch.step (v := (.ptr 5000 3)) rfl (.pure (.fldPtr _ _ _ rfl fld82_3 rfl)) rfl rfl ?_
              refine Ch.step (v := (.d (.slice false 1 (w.cov.map D.str)))) rfl (.pure (.loadPtr1 _ _ rfl ag22 rfl rfl rfl)) rfl rfl ?_
              refine Ch.step (v := (.d (.int .i64 ((w.cov.length : Nat) : Int)))) rfl (.pure (.len _ _ 9 rfl Try.underlying22 (.sh _ _) (by simp))) rfl rfl ?_
              refine Ch.step (v := (.d (.bool (decide (0 < ((w.cov.length : Nat) : Int)))))) rfl (.pure (.int _ _ _ _ _ rfl rfl rfl rfl)) rfl rfl ?_
              refine Ch.step (v := (.d (.bool (decide (0 < ((w.cov.length : Nat) : Int)))))) rfl (.pure (.pickT _ _ _ rfl rfl rfl)) rfl rfl ?_
              refine Ch.step (v := (.d (.bool (decide (0 < ((w.cov.length : Nat) : Int)))))) rfl (.pure (.pickF _ _ _ rfl rfl rfl)) rfl rfl ?_
              refine Ch.nil ?_
              refine T_cond (b := (decide (0 < ((w.cov.length : Nat) : Int)))) rfl (fun h13 => ?_) (fun h13 => ?_)
              · replace h13 := of_decide_eq_true h13
                refine T_seq ?_
                refine T_region hc ?_
                refine Ch.step (v := (.d (.bool false))) rfl (.pure (.assign _ rfl rfl)) rfl rfl ?_
                refine Ch.nil ?_
                refine T_ret ?_
                refine And.intro (.inr rfl) ?_
                exact Exists.intro [(.d (.bool false))] (Exists.intro [] (Exists.intro [] (And.intro (.cons (.tmp 6 rfl) .nil) (And.intro (.cons (.any _) (.cons (.any _) (.cons (.any _) .nil))) (And.intro (Exp.of (congrArg D.bool (by first | (simp only [wirS, seenB, *, decide_true, decide_false, Bool.and_true, Bool.true_and, Bool.and_false, Bool.false_and, Bool.or_false, Bool.false_or, Bool.or_true, Bool.true_or, Bool.not_true, Bool.not_false, not_false_eq_true, Bool.false_eq_true, if_true, if_false, reduceIte, ite_true, ite_false]; done) | (simp only [wirS, seenB, *, decide_true, decide_false, Bool.and_true, Bool.true_and, Bool.and_false, Bool.false_and, Bool.or_false, Bool.false_or, Bool.or_true, Bool.true_or, Bool.not_true, Bool.not_false, not_false_eq_true, Bool.false_eq_true, if_true, if_false, reduceIte, ite_true, ite_false]; rfl) | (simp only [wirS, seenB]; simp_all; done) | (simp only [wirS, seenB]; simp_all; omega))) (.d _)) (And.intro rfl rfl))))))
              · replace h13 := of_decide_eq_false h13
                refine T_skip ?_
                refine T_seq ?_
                refine T_region hc ?_
                refine Ch.step (v := (.ptr 5000 0)) rfl (.pure (.fldPtr _ _ _ rfl fld82_0 rfl)) rfl rfl ?_
                refine Ch.step (v := (.d (.str w.name))) rfl (.pure (.loadPtr1 _ _ rfl ag9 rfl rfl rfl)) rfl rfl ?_
                refine Ch.step (v := (.d (.bool (nameB w.name)))) rfl (.call 81000 135 _ _ _ en135 rfl (.inl rfl) (.cons (.d _) .nil) rfl rfl (sp_spec_l2Name w.name (by first | omega | assumption | (exact hx _ (getD_mem (by omega))) | (exact hx _ (by assumption)) | (exact Nat.le_trans (hx _ (by assumption)) (by omega)) | (simp only [List.length_append, List.length_take, List.length_drop, List.length_cons, List.length_nil]; omega) | (simp_all; done))) (.skip _ _ .nil) rfl) rfl rfl ?_
                refine Ch.step (v := (.d (.bool (nameB w.name)))) rfl (.pure (.move _ rfl rfl)) rfl rfl ?_
                cases h14 : (nameB w.name) with
                | true =>
                  refine Ch.step (v := (.agg [(.d (.slice false 2 (x.sigs.map Sgn.d))), (.d (.slice false 4 (x.wires.map Wir.d)))])) rfl (.pure (.loadPtrA _ _ rfl ag44 sz44 rfl rfl (Nat.le_of_ble_eq_true rfl) rfl)) rfl rfl ?_
                  refine Ch.step (v := (.d (.int .i64 ((k : Nat) : Int)))) rfl (.pure (.move _ rfl rfl)) rfl rfl ?_
                  refine Ch.step (v := (.agg [(.d (.str w.name)), (.d (.int .i64 w.kind)), (.d (.slice false 2 (w.ins.map Pin.d))), (.d (.slice false 1 (w.cov.map D.str)))])) rfl (.pure (.loadPtrA _ _ rfl ag82 sz82 rfl rfl (Nat.le_of_ble_eq_true rfl) rfl)) rfl rfl ?_
                  refine Ch.step (v := (.d (.bool (pinS x k w)))) rfl (.call 86000 171 _ _ _ en171 rfl (.inl rfl) (.cons (.lend (.agg (.cons (.d _) (.cons (.d _) .nil)) rfl)) (.cons (.d _) (.cons (.lend (.agg (.cons (.d _) (.cons (.d _) (.cons (.d _) (.cons (.d _) .nil)))) rfl)) .nil))) rfl rfl (sp_spec_l19Pins x k w (by first | assumption | omega | (rw [List.length_take]; omega) | (have := bulkF_mem hb _ (getD_mem (d := default) (by omega)); assumption) | (unfold bulkS at *; omega) | (simp_all; done)) (by first | assumption | omega | (rw [List.length_take]; omega) | (have := bulkF_mem hb _ (getD_mem (d := default) (by omega)); assumption) | (unfold bulkS at *; omega) | (simp_all; done))) (.skip _ _ (.skip _ _ (.skip _ _ .nil))) rfl) rfl rfl ?_
                  refine Ch.step (v := (.d (.bool (pinS x k w)))) rfl (.pure (.pickT _ _ _ rfl rfl rfl)) rfl rfl ?_
                  refine Ch.step (v := (.d (.bool (pinS x k w)))) rfl (.pure (.assign _ rfl rfl)) rfl rfl ?_
                  refine Ch.nil ?_
                  refine T_ret ?_
                  refine And.intro (.inr rfl) ?_
                  exact Exists.intro [(.d (.bool (pinS x k w)))] (Exists.intro [] (Exists.intro [] (And.intro (.cons (.tmp 6 rfl) .nil) (And.intro (.cons (.any _) (.cons (.any _) (.cons (.any _) .nil))) (And.intro (Exp.of (congrArg D.bool (by first | (simp only [wirS, seenB, *, decide_true, decide_false, Bool.and_true, Bool.true_and, Bool.and_false, Bool.false_and, Bool.or_false, Bool.false_or, Bool.or_true, Bool.true_or, Bool.not_true, Bool.not_false, not_false_eq_true, Bool.false_eq_true, if_true, if_false, reduceIte, ite_true, ite_false]; done) | (simp only [wirS, seenB, *, decide_true, decide_false, Bool.and_true, Bool.true_and, Bool.and_false, Bool.false_and, Bool.or_false, Bool.false_or, Bool.or_true, Bool.true_or, Bool.not_true, Bool.not_false, not_false_eq_true, Bool.false_eq_true, if_true, if_false, reduceIte, ite_true, ite_false]; rfl) | (simp only [wirS, seenB]; simp_all; done) | (simp only [wirS, seenB]; simp_all; omega))) (.d _)) (And.intro rfl rfl))))))
                | false =>
                  refine Ch.skip rfl rfl ?_
                  refine Ch.skip rfl rfl ?_
                  refine Ch.skip rfl rfl ?_
                  refine Ch.skip rfl rfl ?_
                  refine Ch.step (v := (.d (.bool false))) rfl (.pure (.pickF _ _ _ rfl rfl rfl)) rfl rfl ?_
                  refine Ch.step (v := (.d (.bool false))) rfl (.pure (.assign _ rfl rfl)) rfl rfl ?_
                  refine Ch.nil ?_
                  refine T_ret ?_
                  refine And.intro (.inr rfl) ?_
                  exact Exists.intro [(.d (.bool false))] (Exists.intro [] (Exists.intro [] (And.intro (.cons (.tmp 6 rfl) .nil) (And.intro (.cons (.any _) (.cons (.any _) (.cons (.any _) .nil))) (And.intro (Exp.of (congrArg D.bool (by first | (simp only [wirS, seenB, *, decide_true, decide_false, Bool.and_true, Bool.true_and, Bool.and_false, Bool.false_and, Bool.or_false, Bool.false_or, Bool.or_true, Bool.true_or, Bool.not_true, Bool.not_false, not_false_eq_true, Bool.false_eq_true, if_true, if_false, reduceIte, ite_true, ite_false]; done) | (simp only [wirS, seenB, *, decide_true, decide_false, Bool.and_true, Bool.true_and, Bool.and_false, Bool.false_and, Bool.or_false, Bool.false_or, Bool.or_true, Bool.true_or, Bool.not_true, Bool.not_false, not_false_eq_true, Bool.false_eq_true, if_true, if_false, reduceIte, ite_true, ite_false]; rfl) | (simp only [wirS, seenB]; simp_all; done) | (simp only [wirS, seenB]; simp_all; omega))) (.d _)) (And.intro rfl rfl))))))
      | false =>
        replace h3 := of_decide_eq_false h3
        refine ChD.skip rfl rfl ?_
        refine ChD.skip rfl rfl ?_
        refine ChD.skip rfl rfl ?_
        refine ChD.skip rfl rfl ?_
        refine ChD.skip rfl rfl ?_
        refine ChD.skip rfl rfl ?_
        refine ChD.skip rfl rfl ?_
        refine ChD.skip rfl rfl ?_
        refine ChD.skip rfl rfl ?_
        refine ChD.skip rfl rfl ?_
        refine ChD.skip rfl rfl ?_
        refine ChD.step (v := (.d (.bool true))) [] rfl (.pure (.pickT _ _ _ rfl rfl rfl)) rfl rfl ?_
        refine ChD.step (v := (.d (.bool true))) [] rfl (.pure (.pickT _ _ _ rfl rfl rfl)) rfl rfl ?_
        refine ChD.nil (And.intro ?_ (by kernel_rfl))
        refine T_cond (b := true) rfl (fun _ => ?_) (fun h => nomatch h)
        refine T_seq ?_
        refine T_region hc ?_
        refine Ch.step (v := (.d (.bool false))) rfl (.pure (.assign _ rfl rfl)) rfl rfl ?_
        refine Ch.nil ?_
        refine T_ret ?_
        refine And.intro (.inr rfl) ?_
        exact Exists.intro [(.d (.bool false))] (Exists.intro [] (Exists.intro [] (And.intro (.cons (.tmp 6 rfl) .nil) (And.intro (.cons (.any _) (.cons (.any _) (.cons (.any _) .nil))) (And.intro (Exp.of (congrArg D.bool (by first | (simp only [wirS, seenB, *, decide_true, decide_false, Bool.and_true, Bool.true_and, Bool.and_false, Bool.false_and, Bool.or_false, Bool.false_or, Bool.or_true, Bool.true_or, Bool.not_true, Bool.not_false, not_false_eq_true, Bool.false_eq_true, if_true, if_false, reduceIte, ite_true, ite_false]; done) | (simp only [wirS, seenB, *, decide_true, decide_false, Bool.and_true, Bool.true_and, Bool.and_false, Bool.false_and, Bool.or_false, Bool.false_or, Bool.or_true, Bool.true_or, Bool.not_true, Bool.not_false, not_false_eq_true, Bool.false_eq_true, if_true, if_false, reduceIte, ite_true, ite_false]; rfl) | (simp only [wirS, seenB]; simp_all; done) | (simp only [wirS, seenB]; simp_all; omega))) (.d _)) (And.intro rfl rfl))))))
    | false =>
      replace h2 := of_decide_eq_false h2
      refine Ch.step (v := (.ptr 5000 1)) rfl (.pure (.fldPtr _ _ _ rfl fld82_1 rfl)) rfl rfl ?_
      refine Ch.step (v := (.d (.int .i64 w.kind))) rfl (.pure (.loadPtr1 _ _ rfl ag3 rfl rfl rfl)) rfl rfl ?_
      refine Ch.step (v := (.d (.bool (!(decide (w.kind = 2)))))) rfl (.pure (.int _ _ _ _ _ rfl rfl rfl rfl)) rfl rfl ?_
      refine Ch.step (v := (.d (.bool (!(decide (w.kind = 2)))))) rfl (.pure (.pickT _ _ _ rfl rfl rfl)) rfl rfl ?_
      refine Ch.step (v := (.d (.bool (!(decide (w.kind = 2)))))) rfl (.pure (.move _ rfl rfl)) rfl rfl ?_
      cases h15 : (decide (w.kind = 2)) with
      | true =>
        replace h15 := of_decide_eq_true h15
        refine Ch.skip rfl rfl ?_
        refine Ch.skip rfl rfl ?_
        refine Ch.skip rfl rfl ?_
        refine Ch.step (v := (.d (.bool false))) rfl (.pure (.pickF _ _ _ rfl rfl rfl)) rfl rfl ?_
        refine Ch.step (v := (.d (.bool false))) rfl (.pure (.pickF _ _ _ rfl rfl rfl)) rfl rfl ?_
        refine Ch.nil ?_
        refine T_cond (b := false) rfl (fun h => nomatch h) (fun _ => ?_)
        refine T_skip ?_
        refine T_seq ?_
        refine T_seq ?_
        refine T_regionD hc (by kernel_rfl) ?_
        refine ChD.step (v := (.d (.bool false))) [] rfl (.pure (.move _ rfl rfl)) rfl rfl ?_
        refine ChD.step (v := (.d (.bool false))) [] rfl (.pure (.move _ rfl rfl)) rfl rfl ?_
        refine ChD.skip rfl rfl ?_
        refine ChD.skip rfl rfl ?_
        refine ChD.skip rfl rfl ?_
        refine ChD.skip rfl rfl ?_
        refine ChD.skip rfl rfl ?_
        refine ChD.skip rfl rfl ?_
        refine ChD.skip rfl rfl ?_
        refine ChD.skip rfl rfl ?_
        refine ChD.skip rfl rfl ?_
        refine ChD.skip rfl rfl ?_
        refine ChD.skip rfl rfl ?_
        refine ChD.skip rfl rfl ?_
        refine ChD.skip rfl rfl ?_
        refine ChD.skip rfl rfl ?_
        refine ChD.skip rfl rfl ?_
        refine ChD.skip rfl rfl ?_
        refine ChD.skip rfl rfl ?_
        refine ChD.skip rfl rfl ?_
        refine ChD.skip rfl rfl ?_
        refine ChD.skip rfl rfl ?_
        refine ChD.skip rfl rfl ?_
        refine ChD.skip rfl rfl ?_
        refine ChD.step (v := (.d (.bool false))) [] rfl (.pure (.pickF _ _ _ rfl rfl rfl)) rfl rfl ?_
        refine ChD.nil (And.intro ?_ (by kernel_rfl))
        refine T_cond (b := false) rfl (fun h => nomatch h) (fun _ => ?_)
        refine T_skip ?_
        refine T_seq ?_
        refine T_seq ?_
        refine T_region hc ?_
        refine Ch.step (v := (.ptr 5000 1)) rfl (.pure (.fldPtr _ _ _ rfl fld82_1 rfl)) rfl rfl ?_
        refine Ch.step (v := (.d (.int .i64 w.kind))) rfl (.pure (.loadPtr1 _ _ rfl ag3 rfl rfl rfl)) rfl rfl ?_
        refine Ch.step (v := (.d (.bool (decide (w.kind = 5))))) rfl (.pure (.int _ _ _ _ _ rfl rfl rfl rfl)) rfl rfl ?_
        refine Ch.step (v := (.d (.bool (decide (w.kind = 5))))) rfl (.pure (.move _ rfl rfl)) rfl rfl ?_
        cases h16 : (decide (w.kind = 5)) with
        | true =>
          replace h16 := of_decide_eq_true h16
          refine Ch.step (v := (.ptr 3000 0)) rfl (.pure (.fldPtr _ _ _ rfl fld44_0 rfl)) rfl rfl ?_
          refine Ch.step (v := (.d (.slice false 2 (x.sigs.map Sgn.d)))) rfl (.pure (.loadPtr1 _ _ rfl ag41 rfl rfl rfl)) rfl rfl ?_
          refine Ch.step (v := (.d (.int .i64 ((x.sigs.length : Nat) : Int)))) rfl (.pure (.len _ _ 85 rfl Try.underlying41 (.sh _ _) (by simp))) rfl rfl ?_
          refine Ch.step (v := (.ptr 5000 3)) rfl (.pure (.fldPtr _ _ _ rfl fld82_3 rfl)) rfl rfl ?_
          refine Ch.step (v := (.d (.slice false 1 (w.cov.map D.str)))) rfl (.pure (.loadPtr1 _ _ rfl ag22 rfl rfl rfl)) rfl rfl ?_
          refine Ch.step (v := (.d (.bool (goodB ((x.sigs.length : Nat) : Int) w.cov)))) rfl (.call 65000 59 _ _ _ en59 rfl (.inl rfl) (.cons (.d _) (.cons (.d _) .nil)) rfl rfl (sp_spec_l13Good ((x.sigs.length : Nat) : Int) w.cov (by first | omega | assumption | (exact hx _ (getD_mem (by omega))) | (exact hx _ (by assumption)) | (exact Nat.le_trans (hx _ (by assumption)) (by omega)) | (simp only [List.length_append, List.length_take, List.length_drop, List.length_cons, List.length_nil]; omega) | (simp_all; done)) (by first | omega | assumption | (exact hx _ (getD_mem (by omega))) | (exact hx _ (by assumption)) | (exact Nat.le_trans (hx _ (by assumption)) (by omega)) | (simp only [List.length_append, List.length_take, List.length_drop, List.length_cons, List.length_nil]; omega) | (simp_all; done))) (.skip _ _ (.skip _ _ .nil)) rfl) rfl rfl ?_
          refine Ch.step (v := (.d (.bool (!(goodB ((x.sigs.length : Nat) : Int) w.cov))))) rfl (.pure (.not _ _ rfl rfl)) rfl rfl ?_
          refine Ch.step (v := (.d (.bool (!(goodB ((x.sigs.length : Nat) : Int) w.cov))))) rfl (.pure (.pickT _ _ _ rfl rfl rfl)) rfl rfl ?_
          refine Ch.step (v := (.d (.bool (!(goodB ((x.sigs.length : Nat) : Int) w.cov))))) rfl (.pure (.move _ rfl rfl)) rfl rfl ?_
          cases h17 : (goodB ((x.sigs.length : Nat) : Int) w.cov) with
          | true =>
            refine Ch.step (v := (.ptr 5000 1)) rfl (.pure (.fldPtr _ _ _ rfl fld82_1 rfl)) rfl rfl ?_
            refine Ch.step (v := (.d (.int .i64 w.kind))) rfl (.pure (.loadPtr1 _ _ rfl ag3 rfl rfl rfl)) rfl rfl ?_
            refine Ch.step (v := (.d (.bool (!(decide (w.kind = 5)))))) rfl (.pure (.int _ _ _ _ _ rfl rfl rfl rfl)) rfl rfl ?_
            refine Ch.step (v := (.d (.bool (!(decide (w.kind = 5)))))) rfl (.pure (.move _ rfl rfl)) rfl rfl ?_
            cases h18 : (decide (w.kind = 5)) with
            | true =>
              replace h18 := of_decide_eq_true h18
              refine Ch.skip rfl rfl ?_
              refine Ch.skip rfl rfl ?_
              refine Ch.skip rfl rfl ?_
              refine Ch.skip rfl rfl ?_
              refine Ch.step (v := (.d (.bool false))) rfl (.pure (.pickF _ _ _ rfl rfl rfl)) rfl rfl ?_
              refine Ch.step (v := (.d (.bool false))) rfl (.pure (.pickF _ _ _ rfl rfl rfl)) rfl rfl ?_
              refine Ch.nil ?_
              refine T_cond (b := false) rfl (fun h => nomatch h) (fun _ => ?_)
              refine T_skip ?_
              refine T_seq ?_
              refine T_region hc ?_
              refine Ch.step (v := (.ptr 5000 0)) rfl (.pure (.fldPtr _ _ _ rfl fld82_0 rfl)) rfl rfl ?_
              refine Ch.step (v := (.d (.str w.name))) rfl (.pure (.loadPtr1 _ _ rfl ag9 rfl rfl rfl)) rfl rfl ?_
              refine Ch.step (v := (.d (.bool (nameB w.name)))) rfl (.call 81000 135 _ _ _ en135 rfl (.inl rfl) (.cons (.d _) .nil) rfl rfl (sp_spec_l2Name w.name (by first | omega | assumption | (exact hx _ (getD_mem (by omega))) | (exact hx _ (by assumption)) | (exact Nat.le_trans (hx _ (by assumption)) (by omega)) | (simp only [List.length_append, List.length_take, List.length_drop, List.length_cons, List.length_nil]; omega) | (simp_all; done))) (.skip _ _ .nil) rfl) rfl rfl ?_
              refine Ch.step (v := (.d (.bool (nameB w.name)))) rfl (.pure (.move _ rfl rfl)) rfl rfl ?_
              cases h19 : (nameB w.name) with
              | true =>
                refine Ch.step (v := (.agg [(.d (.slice false 2 (x.sigs.map Sgn.d))), (.d (.slice false 4 (x.wires.map Wir.d)))])) rfl (.pure (.loadPtrA _ _ rfl ag44 sz44 rfl rfl (Nat.le_of_ble_eq_true rfl) rfl)) rfl rfl ?_
                refine Ch.step (v := (.d (.int .i64 ((k : Nat) : Int)))) rfl (.pure (.move _ rfl rfl)) rfl rfl ?_
                refine Ch.step (v := (.agg [(.d (.str w.name)), (.d (.int .i64 w.kind)), (.d (.slice false 2 (w.ins.map Pin.d))), (.d (.slice false 1 (w.cov.map D.str)))])) rfl (.pure (.loadPtrA _ _ rfl ag82 sz82 rfl rfl (Nat.le_of_ble_eq_true rfl) rfl)) rfl rfl ?_
                refine Ch.step (v := (.d (.bool (pinS x k w)))) rfl (.call 86000 171 _ _ _ en171 rfl (.inl rfl) (.cons (.lend (.agg (.cons (.d _) (.cons (.d _) .nil)) rfl)) (.cons (.d _) (.cons (.lend (.agg (.cons (.d _) (.cons (.d _) (.cons (.d _) (.cons (.d _) .nil)))) rfl)) .nil))) rfl rfl (sp_spec_l19Pins x k w (by first | assumption | omega | (rw [List.length_take]; omega) | (have := bulkF_mem hb _ (getD_mem (d := default) (by omega)); assumption) | (unfold bulkS at *; omega) | (simp_all; done)) (by first | assumption | omega | (rw [List.length_take]; omega) | (have := bulkF_mem hb _ (getD_mem (d := default) (by omega)); assumption) | (unfold bulkS at *; omega) | (simp_all; done))) (.skip _ _ (.skip _ _ (.skip _ _ .nil))) rfl) rfl rfl ?_
                refine Ch.step (v := (.d (.bool (pinS x k w)))) rfl (.pure (.pickT _ _ _ rfl rfl rfl)) rfl rfl ?_
                refine Ch.step (v := (.d (.bool (pinS x k w)))) rfl (.pure (.assign _ rfl rfl)) rfl rfl ?_
                refine Ch.nil ?_
                refine T_ret ?_
                refine And.intro (.inr rfl) ?_
                exact Exists.intro [(.d (.bool (pinS x k w)))] (Exists.intro [] (Exists.intro [] (And.intro (.cons (.tmp 6 rfl) .nil) (And.intro (.cons (.any _) (.cons (.any _) (.cons (.any _) .nil))) (And.intro (Exp.of (congrArg D.bool (by first | (simp only [wirS, seenB, *, decide_true, decide_false, Bool.and_true, Bool.true_and, Bool.and_false, Bool.false_and, Bool.or_false, Bool.false_or, Bool.or_true, Bool.true_or, Bool.not_true, Bool.not_false, not_false_eq_true, Bool.false_eq_true, if_true, if_false, reduceIte, ite_true, ite_false]; done) | (simp only [wirS, seenB, *, decide_true, decide_false, Bool.and_true, Bool.true_and, Bool.and_false, Bool.false_and, Bool.or_false, Bool.false_or, Bool.or_true, Bool.true_or, Bool.not_true, Bool.not_false, not_false_eq_true, Bool.false_eq_true, if_true, if_false, reduceIte, ite_true, ite_false]; rfl) | (simp only [wirS, seenB]; simp_all; done) | (simp only [wirS, seenB]; simp_all; omega))) (.d _)) (And.intro rfl rfl))))))
              | false =>
                refine Ch.skip rfl rfl ?_
                refine Ch.skip rfl rfl ?_
                refine Ch.skip rfl rfl ?_
                refine Ch.skip rfl rfl ?_
                refine Ch.step (v := (.d (.bool false))) rfl (.pure (.pickF _ _ _ rfl rfl rfl)) rfl rfl ?_
                refine Ch.step (v := (.d (.bool false))) rfl (.pure (.assign _ rfl rfl)) rfl rfl ?_
                refine Ch.nil ?_
                refine T_ret ?_
                refine And.intro (.inr rfl) ?_
                exact Exists.intro [(.d (.bool false))] (Exists.intro [] (Exists.intro [] (And.intro (.cons (.tmp 6 rfl) .nil) (And.intro (.cons (.any _) (.cons (.any _) (.cons (.any _) .nil))) (And.intro (Exp.of (congrArg D.bool (by first | (simp only [wirS, seenB, *, decide_true, decide_false, Bool.and_true, Bool.true_and, Bool.and_false, Bool.false_and, Bool.or_false, Bool.false_or, Bool.or_true, Bool.true_or, Bool.not_true, Bool.not_false, not_false_eq_true, Bool.false_eq_true, if_true, if_false, reduceIte, ite_true, ite_false]; done) | (simp only [wirS, seenB, *, decide_true, decide_false, Bool.and_true, Bool.true_and, Bool.and_false, Bool.false_and, Bool.or_false, Bool.false_or, Bool.or_true, Bool.true_or, Bool.not_true, Bool.not_false, not_false_eq_true, Bool.false_eq_true, if_true, if_false, reduceIte, ite_true, ite_false]; rfl) | (simp only [wirS, seenB]; simp_all; done) | (simp only [wirS, seenB]; simp_all; omega))) (.d _)) (And.intro rfl rfl))))))
            | false =>
              replace h18 := of_decide_eq_false h18
              refine Ch.step (v := (.ptr 5000 3)) rfl (.pure (.fldPtr _ _ _ rfl fld82_3 rfl)) rfl rfl ?_
              refine Ch.step (v := (.d (.slice false 1 (w.cov.map D.str)))) rfl (.pure (.loadPtr1 _ _ rfl ag22 rfl rfl rfl)) rfl rfl ?_
              refine Ch.step (v := (.d (.int .i64 ((w.cov.length : Nat) : Int)))) rfl (.pure (.len _ _ 9 rfl Try.underlying22 (.sh _ _) (by simp))) rfl rfl ?_
              refine Ch.step (v := (.d (.bool (decide (0 < ((w.cov.length : Nat) : Int)))))) rfl (.pure (.int _ _ _ _ _ rfl rfl rfl rfl)) rfl rfl ?_
              refine Ch.step (v := (.d (.bool (decide (0 < ((w.cov.length : Nat) : Int)))))) rfl (.pure (.pickT _ _ _ rfl rfl rfl)) rfl rfl ?_
              refine Ch.step (v := (.d (.bool (decide (0 < ((w.cov.length : Nat) : Int)))))) rfl (.pure (.pickF _ _ _ rfl rfl rfl)) rfl rfl ?_
              refine Ch.nil ?_
              refine T_cond (b := (decide (0 < ((w.cov.length : Nat) : Int)))) rfl (fun h20 => ?_) (fun h20 => ?_)
              · replace h20 := of_decide_eq_true h20
                refine T_seq ?_
                refine T_region hc ?_
                refine Ch.step (v := (.d (.bool false))) rfl (.pure (.assign _ rfl rfl)) rfl rfl ?_
                refine Ch.nil ?_
                refine T_ret ?_
                refine And.intro (.inr rfl) ?_
                exact Exists.intro [(.d (.bool false))] (Exists.intro [] (Exists.intro [] (And.intro (.cons (.tmp 6 rfl) .nil) (And.intro (.cons (.any _) (.cons (.any _) (.cons (.any _) .nil))) (And.intro (Exp.of (congrArg D.bool (by first | (simp only [wirS, seenB, *, decide_true, decide_false, Bool.and_true, Bool.true_and, Bool.and_false, Bool.false_and, Bool.or_false, Bool.false_or, Bool.or_true, Bool.true_or, Bool.not_true, Bool.not_false, not_false_eq_true, Bool.false_eq_true, if_true, if_false, reduceIte, ite_true, ite_false]; done) | (simp only [wirS, seenB, *, decide_true, decide_false, Bool.and_true, Bool.true_and, Bool.and_false, Bool.false_and, Bool.or_false, Bool.false_or, Bool.or_true, Bool.true_or, Bool.not_true, Bool.not_false, not_false_eq_true, Bool.false_eq_true, if_true, if_false, reduceIte, ite_true, ite_false]; rfl) | (simp only [wirS, seenB]; simp_all; done) | (simp only [wirS, seenB]; simp_all; omega))) (.d _)) (And.intro rfl rfl))))))
              · replace h20 := of_decide_eq_false h20
                refine T_skip ?_
                refine T_seq ?_
                refine T_region hc ?_
                refine Ch.step (v := (.ptr 5000 0)) rfl (.pure (.fldPtr _ _ _ rfl fld82_0 rfl)) rfl rfl ?_
                refine Ch.step (v := (.d (.str w.name))) rfl (.pure (.loadPtr1 _ _ rfl ag9 rfl rfl rfl)) rfl rfl ?_
                refine Ch.step (v := (.d (.bool (nameB w.name)))) rfl (.call 81000 135 _ _ _ en135 rfl (.inl rfl) (.cons (.d _) .nil) rfl rfl (sp_spec_l2Name w.name (by first | omega | assumption | (exact hx _ (getD_mem (by omega))) | (exact hx _ (by assumption)) | (exact Nat.le_trans (hx _ (by assumption)) (by omega)) | (simp only [List.length_append, List.length_take, List.length_drop, List.length_cons, List.length_nil]; omega) | (simp_all; done))) (.skip _ _ .nil) rfl) rfl rfl ?_
                refine Ch.step (v := (.d (.bool (nameB w.name)))) rfl (.pure (.move _ rfl rfl)) rfl rfl ?_
                cases h21 : (nameB w.name) with
                | true =>
                  refine Ch.step (v := (.agg [(.d (.slice false 2 (x.sigs.map Sgn.d))), (.d (.slice false 4 (x.wires.map Wir.d)))])) rfl (.pure (.loadPtrA _ _ rfl ag44 sz44 rfl rfl (Nat.le_of_ble_eq_true rfl) rfl)) rfl rfl ?_
                  refine Ch.step (v := (.d (.int .i64 ((k : Nat) : Int)))) rfl (.pure (.move _ rfl rfl)) rfl rfl ?_
                  refine Ch.step (v := (.agg [(.d (.str w.name)), (.d (.int .i64 w.kind)), (.d (.slice false 2 (w.ins.map Pin.d))), (.d (.slice false 1 (w.cov.map D.str)))])) rfl (.pure (.loadPtrA _ _ rfl ag82 sz82 rfl rfl (Nat.le_of_ble_eq_true rfl) rfl)) rfl rfl ?_
                  refine Ch.step (v := (.d (.bool (pinS x k w)))) rfl (.call 86000 171 _ _ _ en171 rfl (.inl rfl) (.cons (.lend (.agg (.cons (.d _) (.cons (.d _) .nil)) rfl)) (.cons (.d _) (.cons (.lend (.agg (.cons (.d _) (.cons (.d _) (.cons (.d _) (.cons (.d _) .nil)))) rfl)) .nil))) rfl rfl (sp_spec_l19Pins x k w (by first | assumption | omega | (rw [List.length_take]; omega) | (have := bulkF_mem hb _ (getD_mem (d := default) (by omega)); assumption) | (unfold bulkS at *; omega) | (simp_all; done)) (by first | assumption | omega | (rw [List.length_take]; omega) | (have := bulkF_mem hb _ (getD_mem (d := default) (by omega)); assumption) | (unfold bulkS at *; omega) | (simp_all; done))) (.skip _ _ (.skip _ _ (.skip _ _ .nil))) rfl) rfl rfl ?_
                  refine Ch.step (v := (.d (.bool (pinS x k w)))) rfl (.pure (.pickT _ _ _ rfl rfl rfl)) rfl rfl ?_
                  refine Ch.step (v := (.d (.bool (pinS x k w)))) rfl (.pure (.assign _ rfl rfl)) rfl rfl ?_
                  refine Ch.nil ?_
                  refine T_ret ?_
                  refine And.intro (.inr rfl) ?_
                  exact Exists.intro [(.d (.bool (pinS x k w)))] (Exists.intro [] (Exists.intro [] (And.intro (.cons (.tmp 6 rfl) .nil) (And.intro (.cons (.any _) (.cons (.any _) (.cons (.any _) .nil))) (And.intro (Exp.of (congrArg D.bool (by first | (simp only [wirS, seenB, *, decide_true, decide_false, Bool.and_true, Bool.true_and, Bool.and_false, Bool.false_and, Bool.or_false, Bool.false_or, Bool.or_true, Bool.true_or, Bool.not_true, Bool.not_false, not_false_eq_true, Bool.false_eq_true, if_true, if_false, reduceIte, ite_true, ite_false]; done) | (simp only [wirS, seenB, *, decide_true, decide_false, Bool.and_true, Bool.true_and, Bool.and_false, Bool.false_and, Bool.or_false, Bool.false_or, Bool.or_true, Bool.true_or, Bool.not_true, Bool.not_false, not_false_eq_true, Bool.false_eq_true, if_true, if_false, reduceIte, ite_true, ite_false]; rfl) | (simp only [wirS, seenB]; simp_all; done) | (simp only [wirS, seenB]; simp_all; omega))) (.d _)) (And.intro rfl rfl))))))
                | false =>
                  refine Ch.skip rfl rfl ?_
                  refine Ch.skip rfl rfl ?_
                  refine Ch.skip rfl rfl ?_
                  refine Ch.skip rfl rfl ?_
                  refine Ch.step (v := (.d (.bool false))) rfl (.pure (.pickF _ _ _ rfl rfl rfl)) rfl rfl ?_
                  refine Ch.step (v := (.d (.bool false))) rfl (.pure (.assign _ rfl rfl)) rfl rfl ?_
                  refine Ch.nil ?_
                  refine T_ret ?_
                  refine And.intro (.inr rfl) ?_
                  exact Exists.intro [(.d (.bool false))] (Exists.intro [] (Exists.intro [] (And.intro (.cons (.tmp 6 rfl) .nil) (And.intro (.cons (.any _) (.cons (.any _) (.cons (.any _) .nil))) (And.intro (Exp.of (congrArg D.bool (by first | (simp only [wirS, seenB, *, decide_true, decide_false, Bool.and_true, Bool.true_and, Bool.and_false, Bool.false_and, Bool.or_false, Bool.false_or, Bool.or_true, Bool.true_or, Bool.not_true, Bool.not_false, not_false_eq_true, Bool.false_eq_true, if_true, if_false, reduceIte, ite_true, ite_false]; done) | (simp only [wirS, seenB, *, decide_true, decide_false, Bool.and_true, Bool.true_and, Bool.and_false, Bool.false_and, Bool.or_false, Bool.false_or, Bool.or_true, Bool.true_or, Bool.not_true, Bool.not_false, not_false_eq_true, Bool.false_eq_true, if_true, if_false, reduceIte, ite_true, ite_false]; rfl) | (simp only [wirS, seenB]; simp_all; done) | (simp only [wirS, seenB]; simp_all; omega))) (.d _)) (And.intro rfl rfl))))))
          | false =>
            refine Ch.skip rfl rfl ?_
            refine Ch.skip rfl rfl ?_
            refine Ch.skip rfl rfl ?_
            refine Ch.skip rfl rfl ?_
            refine Ch.skip rfl rfl ?_
            refine Ch.skip rfl rfl ?_
            refine Ch.skip rfl rfl ?_
            refine Ch.skip rfl rfl ?_
            refine Ch.skip rfl rfl ?_
            refine Ch.step (v := (.d (.bool true))) rfl (.pure (.pickT _ _ _ rfl rfl rfl)) rfl rfl ?_
            refine Ch.nil ?_
            refine T_cond (b := true) rfl (fun _ => ?_) (fun h => nomatch h)
            refine T_seq ?_
            refine T_region hc ?_
            refine Ch.step (v := (.d (.bool false))) rfl (.pure (.assign _ rfl rfl)) rfl rfl ?_
            refine Ch.nil ?_
            refine T_ret ?_
            refine And.intro (.inr rfl) ?_
            exact Exists.intro [(.d (.bool false))] (Exists.intro [] (Exists.intro [] (And.intro (.cons (.tmp 6 rfl) .nil) (And.intro (.cons (.any _) (.cons (.any _) (.cons (.any _) .nil))) (And.intro (Exp.of (congrArg D.bool (by first | (simp only [wirS, seenB, *, decide_true, decide_false, Bool.and_true, Bool.true_and, Bool.and_false, Bool.false_and, Bool.or_false, Bool.false_or, Bool.or_true, Bool.true_or, Bool.not_true, Bool.not_false, not_false_eq_true, Bool.false_eq_true, if_true, if_false, reduceIte, ite_true, ite_false]; done) | (simp only [wirS, seenB, *, decide_true, decide_false, Bool.and_true, Bool.true_and, Bool.and_false, Bool.false_and, Bool.or_false, Bool.false_or, Bool.or_true, Bool.true_or, Bool.not_true, Bool.not_false, not_false_eq_true, Bool.false_eq_true, if_true, if_false, reduceIte, ite_true, ite_false]; rfl) | (simp only [wirS, seenB]; simp_all; done) | (simp only [wirS, seenB]; simp_all; omega))) (.d _)) (And.intro rfl rfl))))))
        | false =>
          replace h16 := of_decide_eq_false h16
          refine Ch.skip rfl rfl ?_
          refine Ch.skip rfl rfl ?_
          refine Ch.skip rfl rfl ?_
          refine Ch.skip rfl rfl ?_
          refine Ch.skip rfl rfl ?_
          refine Ch.skip rfl rfl ?_
          refine Ch.skip rfl rfl ?_
          refine Ch.step (v := (.d (.bool false))) rfl (.pure (.pickF _ _ _ rfl rfl rfl)) rfl rfl ?_
          refine Ch.step (v := (.d (.bool false))) rfl (.pure (.move _ rfl rfl)) rfl rfl ?_
          refine Ch.step (v := (.ptr 5000 1)) rfl (.pure (.fldPtr _ _ _ rfl fld82_1 rfl)) rfl rfl ?_
          refine Ch.step (v := (.d (.int .i64 w.kind))) rfl (.pure (.loadPtr1 _ _ rfl ag3 rfl rfl rfl)) rfl rfl ?_
          refine Ch.step (v := (.d (.bool (!(decide (w.kind = 5)))))) rfl (.pure (.int _ _ _ _ _ rfl rfl rfl rfl)) rfl rfl ?_
          refine Ch.step (v := (.d (.bool (!(decide (w.kind = 5)))))) rfl (.pure (.move _ rfl rfl)) rfl rfl ?_
          cases h22 : (decide (w.kind = 5)) with
          | true =>
            replace h22 := of_decide_eq_true h22
            refine Ch.skip rfl rfl ?_
            refine Ch.skip rfl rfl ?_
            refine Ch.skip rfl rfl ?_
            refine Ch.skip rfl rfl ?_
            refine Ch.step (v := (.d (.bool false))) rfl (.pure (.pickF _ _ _ rfl rfl rfl)) rfl rfl ?_
            refine Ch.step (v := (.d (.bool false))) rfl (.pure (.pickF _ _ _ rfl rfl rfl)) rfl rfl ?_
            refine Ch.nil ?_
            refine T_cond (b := false) rfl (fun h => nomatch h) (fun _ => ?_)
            refine T_skip ?_
            refine T_seq ?_
            refine T_region hc ?_
            refine Ch.step (v := (.ptr 5000 0)) rfl (.pure (.fldPtr _ _ _ rfl fld82_0 rfl)) rfl rfl ?_
            refine Ch.step (v := (.d (.str w.name))) rfl (.pure (.loadPtr1 _ _ rfl ag9 rfl rfl rfl)) rfl rfl ?_
            refine Ch.step (v := (.d (.bool (nameB w.name)))) rfl (.call 81000 135 _ _ _ en135 rfl (.inl rfl) (.cons (.d _) .nil) rfl rfl (sp_spec_l2Name w.name (by first | omega | assumption | (exact hx _ (getD_mem (by omega))) | (exact hx _ (by assumption)) | (exact Nat.le_trans (hx _ (by assumption)) (by omega)) | (simp only [List.length_append, List.length_take, List.length_drop, List.length_cons, List.length_nil]; omega) | (simp_all; done))) (.skip _ _ .nil) rfl) rfl rfl ?_
            refine Ch.step (v := (.d (.bool (nameB w.name)))) rfl (.pure (.move _ rfl rfl)) rfl rfl ?_
            cases h23 : (nameB w.name) with
            | true =>
              refine Ch.step (v := (.agg [(.d (.slice false 2 (x.sigs.map Sgn.d))), (.d (.slice false 4 (x.wires.map Wir.d)))])) rfl (.pure (.loadPtrA _ _ rfl ag44 sz44 rfl rfl (Nat.le_of_ble_eq_true rfl) rfl)) rfl rfl ?_
              refine Ch.step (v := (.d (.int .i64 ((k : Nat) : Int)))) rfl (.pure (.move _ rfl rfl)) rfl rfl ?_
              refine Ch.step (v := (.agg [(.d (.str w.name)), (.d (.int .i64 w.kind)), (.d (.slice false 2 (w.ins.map Pin.d))), (.d (.slice false 1 (w.cov.map D.str)))])) rfl (.pure (.loadPtrA _ _ rfl ag82 sz82 rfl rfl (Nat.le_of_ble_eq_true rfl) rfl)) rfl rfl ?_
              refine Ch.step (v := (.d (.bool (pinS x k w)))) rfl (.call 86000 171 _ _ _ en171 rfl (.inl rfl) (.cons (.lend (.agg (.cons (.d _) (.cons (.d _) .nil)) rfl)) (.cons (.d _) (.cons (.lend (.agg (.cons (.d _) (.cons (.d _) (.cons (.d _) (.cons (.d _) .nil)))) rfl)) .nil))) rfl rfl (sp_spec_l19Pins x k w (by first | assumption | omega | (rw [List.length_take]; omega) | (have := bulkF_mem hb _ (getD_mem (d := default) (by omega)); assumption) | (unfold bulkS at *; omega) | (simp_all; done)) (by first | assumption | omega | (rw [List.length_take]; omega) | (have := bulkF_mem hb _ (getD_mem (d := default) (by omega)); assumption) | (unfold bulkS at *; omega) | (simp_all; done))) (.skip _ _ (.skip _ _ (.skip _ _ .nil))) rfl) rfl rfl ?_
              refine Ch.step (v := (.d (.bool (pinS x k w)))) rfl (.pure (.pickT _ _ _ rfl rfl rfl)) rfl rfl ?_
              refine Ch.step (v := (.d (.bool (pinS x k w)))) rfl (.pure (.assign _ rfl rfl)) rfl rfl ?_
              refine Ch.nil ?_
              refine T_ret ?_
              refine And.intro (.inr rfl) ?_
              exact Exists.intro [(.d (.bool (pinS x k w)))] (Exists.intro [] (Exists.intro [] (And.intro (.cons (.tmp 6 rfl) .nil) (And.intro (.cons (.any _) (.cons (.any _) (.cons (.any _) .nil))) (And.intro (Exp.of (congrArg D.bool (by first | (simp only [wirS, seenB, *, decide_true, decide_false, Bool.and_true, Bool.true_and, Bool.and_false, Bool.false_and, Bool.or_false, Bool.false_or, Bool.or_true, Bool.true_or, Bool.not_true, Bool.not_false, not_false_eq_true, Bool.false_eq_true, if_true, if_false, reduceIte, ite_true, ite_false]; done) | (simp only [wirS, seenB, *, decide_true, decide_false, Bool.and_true, Bool.true_and, Bool.and_false, Bool.false_and, Bool.or_false, Bool.false_or, Bool.or_true, Bool.true_or, Bool.not_true, Bool.not_false, not_false_eq_true, Bool.false_eq_true, if_true, if_false, reduceIte, ite_true, ite_false]; rfl) | (simp only [wirS, seenB]; simp_all; done) | (simp only [wirS, seenB]; simp_all; omega))) (.d _)) (And.intro rfl rfl))))))
            | false =>
              refine Ch.skip rfl rfl ?_
              refine Ch.skip rfl rfl ?_
              refine Ch.skip rfl rfl ?_
              refine Ch.skip rfl rfl ?_
              refine Ch.step (v := (.d (.bool false))) rfl (.pure (.pickF _ _ _ rfl rfl rfl)) rfl rfl ?_
              refine Ch.step (v := (.d (.bool false))) rfl (.pure (.assign _ rfl rfl)) rfl rfl ?_
              refine Ch.nil ?_
              refine T_ret ?_
              refine And.intro (.inr rfl) ?_
              exact Exists.intro [(.d (.bool false))] (Exists.intro [] (Exists.intro [] (And.intro (.cons (.tmp 6 rfl) .nil) (And.intro (.cons (.any _) (.cons (.any _) (.cons (.any _) .nil))) (And.intro (Exp.of (congrArg D.bool (by first | (simp only [wirS, seenB, *, decide_true, decide_false, Bool.and_true, Bool.true_and, Bool.and_false, Bool.false_and, Bool.or_false, Bool.false_or, Bool.or_true, Bool.true_or, Bool.not_true, Bool.not_false, not_false_eq_true, Bool.false_eq_true, if_true, if_false, reduceIte, ite_true, ite_false]; done) | (simp only [wirS, seenB, *, decide_true, decide_false, Bool.and_true, Bool.true_and, Bool.and_false, Bool.false_and, Bool.or_false, Bool.false_or, Bool.or_true, Bool.true_or, Bool.not_true, Bool.not_false, not_false_eq_true, Bool.false_eq_true, if_true, if_false, reduceIte, ite_true, ite_false]; rfl) | (simp only [wirS, seenB]; simp_all; done) | (simp only [wirS, seenB]; simp_all; omega))) (.d _)) (And.intro rfl rfl))))))
          | false =>
            replace h22 := of_decide_eq_false h22
            refine Ch.step (v := (.ptr 5000 3)) rfl (.pure (.fldPtr _ _ _ rfl fld82_3 rfl)) rfl rfl ?_
            refine Ch.step (v := (.d (.slice false 1 (w.cov.map D.str)))) rfl (.pure (.loadPtr1 _ _ rfl ag22 rfl rfl rfl)) rfl rfl ?_
            refine Ch.step (v := (.d (.int .i64 ((w.cov.length : Nat) : Int)))) rfl (.pure (.len _ _ 9 rfl Try.underlying22 (.sh _ _) (by simp))) rfl rfl ?_
            refine Ch.step (v := (.d (.bool (decide (0 < ((w.cov.length : Nat) : Int)))))) rfl (.pure (.int _ _ _ _ _ rfl rfl rfl rfl)) rfl rfl ?_
            refine Ch.step (v := (.d (.bool (decide (0 < ((w.cov.length : Nat) : Int)))))) rfl (.pure (.pickT _ _ _ rfl rfl rfl)) rfl rfl ?_
            refine Ch.step (v := (.d (.bool (decide (0 < ((w.cov.length : Nat) : Int)))))) rfl (.pure (.pickF _ _ _ rfl rfl rfl)) rfl rfl ?_
            refine Ch.nil ?_
            refine T_cond (b := (decide (0 < ((w.cov.length : Nat) : Int)))) rfl (fun h24 => ?_) (fun h24 => ?_)
            · replace h24 := of_decide_eq_true h24
              refine T_seq ?_
              refine T_region hc ?_
              refine Ch.step (v := (.d (.bool false))) rfl (.pure (.assign _ rfl rfl)) rfl rfl ?_
              refine Ch.nil ?_
              refine T_ret ?_
              refine And.intro (.inr rfl) ?_
              exact Exists.intro [(.d (.bool false))] (Exists.intro [] (Exists.intro [] (And.intro (.cons (.tmp 6 rfl) .nil) (And.intro (.cons (.any _) (.cons (.any _) (.cons (.any _) .nil))) (And.intro (Exp.of (congrArg D.bool (by first | (simp only [wirS, seenB, *, decide_true, decide_false, Bool.and_true, Bool.true_and, Bool.and_false, Bool.false_and, Bool.or_false, Bool.false_or, Bool.or_true, Bool.true_or, Bool.not_true, Bool.not_false, not_false_eq_true, Bool.false_eq_true, if_true, if_false, reduceIte, ite_true, ite_false]; done) | (simp only [wirS, seenB, *, decide_true, decide_false, Bool.and_true, Bool.true_and, Bool.and_false, Bool.false_and, Bool.or_false, Bool.false_or, Bool.or_true, Bool.true_or, Bool.not_true, Bool.not_false, not_false_eq_true, Bool.false_eq_true, if_true, if_false, reduceIte, ite_true, ite_false]; rfl) | (simp only [wirS, seenB]; simp_all; done) | (simp only [wirS, seenB]; simp_all; omega))) (.d _)) (And.intro rfl rfl))))))
            · replace h24 := of_decide_eq_false h24
              refine T_skip ?_
              refine T_seq ?_
              refine T_region hc ?_
              refine Ch.step (v := (.ptr 5000 0)) rfl (.pure (.fldPtr _ _ _ rfl fld82_0 rfl)) rfl rfl ?_
              refine Ch.step (v := (.d (.str w.name))) rfl (.pure (.loadPtr1 _ _ rfl ag9 rfl rfl rfl)) rfl rfl ?_
              refine Ch.step (v := (.d (.bool (nameB w.name)))) rfl (.call 81000 135 _ _ _ en135 rfl (.inl rfl) (.cons (.d _) .nil) rfl rfl (sp_spec_l2Name w.name (by first | omega | assumption | (exact hx _ (getD_mem (by omega))) | (exact hx _ (by assumption)) | (exact Nat.le_trans (hx _ (by assumption)) (by omega)) | (simp only [List.length_append, List.length_take, List.length_drop, List.length_cons, List.length_nil]; omega) | (simp_all; done))) (.skip _ _ .nil) rfl) rfl rfl ?_
              refine Ch.step (v := (.d (.bool (nameB w.name)))) rfl (.pure (.move _ rfl rfl)) rfl rfl ?_
              cases h25 : (nameB w.name) with
              | true =>
                refine Ch.step (v := (.agg [(.d (.slice false 2 (x.sigs.map Sgn.d))), (.d (.slice false 4 (x.wires.map Wir.d)))])) rfl (.pure (.loadPtrA _ _ rfl ag44 sz44 rfl rfl (Nat.le_of_ble_eq_true rfl) rfl)) rfl rfl ?_
                refine Ch.step (v := (.d (.int .i64 ((k : Nat) : Int)))) rfl (.pure (.move _ rfl rfl)) rfl rfl ?_
                refine Ch.step (v := (.agg [(.d (.str w.name)), (.d (.int .i64 w.kind)), (.d (.slice false 2 (w.ins.map Pin.d))), (.d (.slice false 1 (w.cov.map D.str)))])) rfl (.pure (.loadPtrA _ _ rfl ag82 sz82 rfl rfl (Nat.le_of_ble_eq_true rfl) rfl)) rfl rfl ?_
                refine Ch.step (v := (.d (.bool (pinS x k w)))) rfl (.call 86000 171 _ _ _ en171 rfl (.inl rfl) (.cons (.lend (.agg (.cons (.d _) (.cons (.d _) .nil)) rfl)) (.cons (.d _) (.cons (.lend (.agg (.cons (.d _) (.cons (.d _) (.cons (.d _) (.cons (.d _) .nil)))) rfl)) .nil))) rfl rfl (sp_spec_l19Pins x k w (by first | assumption | omega | (rw [List.length_take]; omega) | (have := bulkF_mem hb _ (getD_mem (d := default) (by omega)); assumption) | (unfold bulkS at *; omega) | (simp_all; done)) (by first | assumption | omega | (rw [List.length_take]; omega) | (have := bulkF_mem hb _ (getD_mem (d := default) (by omega)); assumption) | (unfold bulkS at *; omega) | (simp_all; done))) (.skip _ _ (.skip _ _ (.skip _ _ .nil))) rfl) rfl rfl ?_
                refine Ch.step (v := (.d (.bool (pinS x k w)))) rfl (.pure (.pickT _ _ _ rfl rfl rfl)) rfl rfl ?_
                refine Ch.step (v := (.d (.bool (pinS x k w)))) rfl (.pure (.assign _ rfl rfl)) rfl rfl ?_
                refine Ch.nil ?_
                refine T_ret ?_
                refine And.intro (.inr rfl) ?_
                exact Exists.intro [(.d (.bool (pinS x k w)))] (Exists.intro [] (Exists.intro [] (And.intro (.cons (.tmp 6 rfl) .nil) (And.intro (.cons (.any _) (.cons (.any _) (.cons (.any _) .nil))) (And.intro (Exp.of (congrArg D.bool (by first | (simp only [wirS, seenB, *, decide_true, decide_false, Bool.and_true, Bool.true_and, Bool.and_false, Bool.false_and, Bool.or_false, Bool.false_or, Bool.or_true, Bool.true_or, Bool.not_true, Bool.not_false, not_false_eq_true, Bool.false_eq_true, if_true, if_false, reduceIte, ite_true, ite_false]; done) | (simp only [wirS, seenB, *, decide_true, decide_false, Bool.and_true, Bool.true_and, Bool.and_false, Bool.false_and, Bool.or_false, Bool.false_or, Bool.or_true, Bool.true_or, Bool.not_true, Bool.not_false, not_false_eq_true, Bool.false_eq_true, if_true, if_false, reduceIte, ite_true, ite_false]; rfl) | (simp only [wirS, seenB]; simp_all; done) | (simp only [wirS, seenB]; simp_all; omega))) (.d _)) (And.intro rfl rfl))))))
              | false =>
                refine Ch.skip rfl rfl ?_
                refine Ch.skip rfl rfl ?_
                refine Ch.skip rfl rfl ?_
                refine Ch.skip rfl rfl ?_
                refine Ch.step (v := (.d (.bool false))) rfl (.pure (.pickF _ _ _ rfl rfl rfl)) rfl rfl ?_
                refine Ch.step (v := (.d (.bool false))) rfl (.pure (.assign _ rfl rfl)) rfl rfl ?_
                refine Ch.nil ?_
                refine T_ret ?_
                refine And.intro (.inr rfl) ?_
                exact Exists.intro [(.d (.bool false))] (Exists.intro [] (Exists.intro [] (And.intro (.cons (.tmp 6 rfl) .nil) (And.intro (.cons (.any _) (.cons (.any _) (.cons (.any _) .nil))) (And.intro (Exp.of (congrArg D.bool (by first | (simp only [wirS, seenB, *, decide_true, decide_false, Bool.and_true, Bool.true_and, Bool.and_false, Bool.false_and, Bool.or_false, Bool.false_or, Bool.or_true, Bool.true_or, Bool.not_true, Bool.not_false, not_false_eq_true, Bool.false_eq_true, if_true, if_false, reduceIte, ite_true, ite_false]; done) | (simp only [wirS, seenB, *, decide_true, decide_false, Bool.and_true, Bool.true_and, Bool.and_false, Bool.false_and, Bool.or_false, Bool.false_or, Bool.or_true, Bool.true_or, Bool.not_true, Bool.not_false, not_false_eq_true, Bool.false_eq_true, if_true, if_false, reduceIte, ite_true, ite_false]; rfl) | (simp only [wirS, seenB]; simp_all; done) | (simp only [wirS, seenB]; simp_all; omega))) (.d _)) (And.intro rfl rfl))))))
      | false =>
        replace h15 := of_decide_eq_false h15
        refine Ch.step (v := (.ptr 5000 1)) rfl (.pure (.fldPtr _ _ _ rfl fld82_1 rfl)) rfl rfl ?_
        refine Ch.step (v := (.d (.int .i64 w.kind))) rfl (.pure (.loadPtr1 _ _ rfl ag3 rfl rfl rfl)) rfl rfl ?_
        refine Ch.step (v := (.d (.bool (!(decide (w.kind = 3)))))) rfl (.pure (.int _ _ _ _ _ rfl rfl rfl rfl)) rfl rfl ?_
        refine Ch.step (v := (.d (.bool (!(decide (w.kind = 3)))))) rfl (.pure (.pickT _ _ _ rfl rfl rfl)) rfl rfl ?_
        refine Ch.step (v := (.d (.bool (!(decide (w.kind = 3)))))) rfl (.pure (.pickF _ _ _ rfl rfl rfl)) rfl rfl ?_
        refine Ch.nil ?_
        refine T_cond (b := (!(decide (w.kind = 3)))) rfl (fun h26 => ?_) (fun h26 => ?_)
        · replace h26 := nott h26
          replace h26 := of_decide_eq_false h26
          refine T_seq ?_
          refine T_region hc ?_
          refine Ch.step (v := (.d (.bool false))) rfl (.pure (.assign _ rfl rfl)) rfl rfl ?_
          refine Ch.nil ?_
          refine T_ret ?_
          refine And.intro (.inr rfl) ?_
          exact Exists.intro [(.d (.bool false))] (Exists.intro [] (Exists.intro [] (And.intro (.cons (.tmp 6 rfl) .nil) (And.intro (.cons (.any _) (.cons (.any _) (.cons (.any _) .nil))) (And.intro (Exp.of (congrArg D.bool (by first | (simp only [wirS, seenB, *, decide_true, decide_false, Bool.and_true, Bool.true_and, Bool.and_false, Bool.false_and, Bool.or_false, Bool.false_or, Bool.or_true, Bool.true_or, Bool.not_true, Bool.not_false, not_false_eq_true, Bool.false_eq_true, if_true, if_false, reduceIte, ite_true, ite_false]; done) | (simp only [wirS, seenB, *, decide_true, decide_false, Bool.and_true, Bool.true_and, Bool.and_false, Bool.false_and, Bool.or_false, Bool.false_or, Bool.or_true, Bool.true_or, Bool.not_true, Bool.not_false, not_false_eq_true, Bool.false_eq_true, if_true, if_false, reduceIte, ite_true, ite_false]; rfl) | (simp only [wirS, seenB]; simp_all; done) | (simp only [wirS, seenB]; simp_all; omega))) (.d _)) (And.intro rfl rfl))))))
        · replace h26 := notf h26
          replace h26 := of_decide_eq_true h26
          refine T_skip ?_
          refine T_seq ?_
          refine T_seq ?_
          refine T_regionD hc (by kernel_rfl) ?_
          refine ChD.step (v := (.d (.bool false))) [] rfl (.pure (.move _ rfl rfl)) rfl rfl ?_
          refine ChD.step (v := (.d (.bool false))) [] rfl (.pure (.move _ rfl rfl)) rfl rfl ?_
          refine ChD.skip rfl rfl ?_
          refine ChD.skip rfl rfl ?_
          refine ChD.skip rfl rfl ?_
          refine ChD.skip rfl rfl ?_
          refine ChD.skip rfl rfl ?_
          refine ChD.skip rfl rfl ?_
          refine ChD.skip rfl rfl ?_
          refine ChD.skip rfl rfl ?_
          refine ChD.skip rfl rfl ?_
          refine ChD.skip rfl rfl ?_
          refine ChD.skip rfl rfl ?_
          refine ChD.skip rfl rfl ?_
          refine ChD.skip rfl rfl ?_
          refine ChD.skip rfl rfl ?_
          refine ChD.skip rfl rfl ?_
          refine ChD.skip rfl rfl ?_
          refine ChD.skip rfl rfl ?_
          refine ChD.skip rfl rfl ?_
          refine ChD.skip rfl rfl ?_
          refine ChD.skip rfl rfl ?_
          refine ChD.skip rfl rfl ?_
          refine ChD.skip rfl rfl ?_
          refine ChD.step (v := (.d (.bool false))) [] rfl (.pure (.pickF _ _ _ rfl rfl rfl)) rfl rfl ?_
          refine ChD.nil (And.intro ?_ (by kernel_rfl))
          refine T_cond (b := false) rfl (fun h => nomatch h) (fun _ => ?_)
          refine T_skip ?_
          refine T_seq ?_
          refine T_seq ?_
          refine T_region hc ?_
          refine Ch.step (v := (.ptr 5000 1)) rfl (.pure (.fldPtr _ _ _ rfl fld82_1 rfl)) rfl rfl ?_
          refine Ch.step (v := (.d (.int .i64 w.kind))) rfl (.pure (.loadPtr1 _ _ rfl ag3 rfl rfl rfl)) rfl rfl ?_
          refine Ch.step (v := (.d (.bool (decide (w.kind = 5))))) rfl (.pure (.int _ _ _ _ _ rfl rfl rfl rfl)) rfl rfl ?_
          refine Ch.step (v := (.d (.bool (decide (w.kind = 5))))) rfl (.pure (.move _ rfl rfl)) rfl rfl ?_
          cases h27 : (decide (w.kind = 5)) with
          | true =>
            replace h27 := of_decide_eq_true h27
            refine Ch.step (v := (.ptr 3000 0)) rfl (.pure (.fldPtr _ _ _ rfl fld44_0 rfl)) rfl rfl ?_
            refine Ch.step (v := (.d (.slice false 2 (x.sigs.map Sgn.d)))) rfl (.pure (.loadPtr1 _ _ rfl ag41 rfl rfl rfl)) rfl rfl ?_
            refine Ch.step (v := (.d (.int .i64 ((x.sigs.length : Nat) : Int)))) rfl (.pure (.len _ _ 85 rfl Try.underlying41 (.sh _ _) (by simp))) rfl rfl ?_
            refine Ch.step (v := (.ptr 5000 3)) rfl (.pure (.fldPtr _ _ _ rfl fld82_3 rfl)) rfl rfl ?_
            refine Ch.step (v := (.d (.slice false 1 (w.cov.map D.str)))) rfl (.pure (.loadPtr1 _ _ rfl ag22 rfl rfl rfl)) rfl rfl ?_
            refine Ch.step (v := (.d (.bool (goodB ((x.sigs.length : Nat) : Int) w.cov)))) rfl (.call 65000 59 _ _ _ en59 rfl (.inl rfl) (.cons (.d _) (.cons (.d _) .nil)) rfl rfl (sp_spec_l13Good ((x.sigs.length : Nat) : Int) w.cov (by first | omega | assumption | (exact hx _ (getD_mem (by omega))) | (exact hx _ (by assumption)) | (exact Nat.le_trans (hx _ (by assumption)) (by omega)) | (simp only [List.length_append, List.length_take, List.length_drop, List.length_cons, List.length_nil]; omega) | (simp_all; done)) (by first | omega | assumption | (exact hx _ (getD_mem (by omega))) | (exact hx _ (by assumption)) | (exact Nat.le_trans (hx _ (by assumption)) (by omega)) | (simp only [List.length_append, List.length_take, List.length_drop, List.length_cons, List.length_nil]; omega) | (simp_all; done))) (.skip _ _ (.skip _ _ .nil)) rfl) rfl rfl ?_
            refine Ch.step (v := (.d (.bool (!(goodB ((x.sigs.length : Nat) : Int) w.cov))))) rfl (.pure (.not _ _ rfl rfl)) rfl rfl ?_
            refine Ch.step (v := (.d (.bool (!(goodB ((x.sigs.length : Nat) : Int) w.cov))))) rfl (.pure (.pickT _ _ _ rfl rfl rfl)) rfl rfl ?_
            refine Ch.step (v := (.d (.bool (!(goodB ((x.sigs.length : Nat) : Int) w.cov))))) rfl (.pure (.move _ rfl rfl)) rfl rfl ?_
            cases h28 : (goodB ((x.sigs.length : Nat) : Int) w.cov) with
            | true =>
              refine Ch.step (v := (.ptr 5000 1)) rfl (.pure (.fldPtr _ _ _ rfl fld82_1 rfl)) rfl rfl ?_
              refine Ch.step (v := (.d (.int .i64 w.kind))) rfl (.pure (.loadPtr1 _ _ rfl ag3 rfl rfl rfl)) rfl rfl ?_
              refine Ch.step (v := (.d (.bool (!(decide (w.kind = 5)))))) rfl (.pure (.int _ _ _ _ _ rfl rfl rfl rfl)) rfl rfl ?_
              refine Ch.step (v := (.d (.bool (!(decide (w.kind = 5)))))) rfl (.pure (.move _ rfl rfl)) rfl rfl ?_
              cases h29 : (decide (w.kind = 5)) with
              | true =>
                replace h29 := of_decide_eq_true h29
                refine Ch.skip rfl rfl ?_
                refine Ch.skip rfl rfl ?_
                refine Ch.skip rfl rfl ?_
                refine Ch.skip rfl rfl ?_
                refine Ch.step (v := (.d (.bool false))) rfl (.pure (.pickF _ _ _ rfl rfl rfl)) rfl rfl ?_
                refine Ch.step (v := (.d (.bool false))) rfl (.pure (.pickF _ _ _ rfl rfl rfl)) rfl rfl ?_
                refine Ch.nil ?_
                refine T_cond (b := false) rfl (fun h => nomatch h) (fun _ => ?_)
                refine T_skip ?_
                refine T_seq ?_
                refine T_region hc ?_
                refine Ch.step (v := (.ptr 5000 0)) rfl (.pure (.fldPtr _ _ _ rfl fld82_0 rfl)) rfl rfl ?_
                refine Ch.step (v := (.d (.str w.name))) rfl (.pure (.loadPtr1 _ _ rfl ag9 rfl rfl rfl)) rfl rfl ?_
                refine Ch.step (v := (.d (.bool (nameB w.name)))) rfl (.call 81000 135 _ _ _ en135 rfl (.inl rfl) (.cons (.d _) .nil) rfl rfl (sp_spec_l2Name w.name (by first | omega | assumption | (exact hx _ (getD_mem (by omega))) | (exact hx _ (by assumption)) | (exact Nat.le_trans (hx _ (by assumption)) (by omega)) | (simp only [List.length_append, List.length_take, List.length_drop, List.length_cons, List.length_nil]; omega) | (simp_all; done))) (.skip _ _ .nil) rfl) rfl rfl ?_
                refine Ch.step (v := (.d (.bool (nameB w.name)))) rfl (.pure (.move _ rfl rfl)) rfl rfl ?_
                cases h30 : (nameB w.name) with
                | true =>
                  refine Ch.step (v := (.agg [(.d (.slice false 2 (x.sigs.map Sgn.d))), (.d (.slice false 4 (x.wires.map Wir.d)))])) rfl (.pure (.loadPtrA _ _ rfl ag44 sz44 rfl rfl (Nat.le_of_ble_eq_true rfl) rfl)) rfl rfl ?_
                  refine Ch.step (v := (.d (.int .i64 ((k : Nat) : Int)))) rfl (.pure (.move _ rfl rfl)) rfl rfl ?_
                  refine Ch.step (v := (.agg [(.d (.str w.name)), (.d (.int .i64 w.kind)), (.d (.slice false 2 (w.ins.map Pin.d))), (.d (.slice false 1 (w.cov.map D.str)))])) rfl (.pure (.loadPtrA _ _ rfl ag82 sz82 rfl rfl (Nat.le_of_ble_eq_true rfl) rfl)) rfl rfl ?_
                  refine Ch.step (v := (.d (.bool (pinS x k w)))) rfl (.call 86000 171 _ _ _ en171 rfl (.inl rfl) (.cons (.lend (.agg (.cons (.d _) (.cons (.d _) .nil)) rfl)) (.cons (.d _) (.cons (.lend (.agg (.cons (.d _) (.cons (.d _) (.cons (.d _) (.cons (.d _) .nil)))) rfl)) .nil))) rfl rfl (sp_spec_l19Pins x k w (by first | assumption | omega | (rw [List.length_take]; omega) | (have := bulkF_mem hb _ (getD_mem (d := default) (by omega)); assumption) | (unfold bulkS at *; omega) | (simp_all; done)) (by first | assumption | omega | (rw [List.length_take]; omega) | (have := bulkF_mem hb _ (getD_mem (d := default) (by omega)); assumption) | (unfold bulkS at *; omega) | (simp_all; done))) (.skip _ _ (.skip _ _ (.skip _ _ .nil))) rfl) rfl rfl ?_
                  refine Ch.step (v := (.d (.bool (pinS x k w)))) rfl (.pure (.pickT _ _ _ rfl rfl rfl)) rfl rfl ?_
                  refine Ch.step (v := (.d (.bool (pinS x k w)))) rfl (.pure (.assign _ rfl rfl)) rfl rfl ?_
                  refine Ch.nil ?_
                  refine T_ret ?_
                  refine And.intro (.inr rfl) ?_
                  exact Exists.intro [(.d (.bool (pinS x k w)))] (Exists.intro [] (Exists.intro [] (And.intro (.cons (.tmp 6 rfl) .nil) (And.intro (.cons (.any _) (.cons (.any _) (.cons (.any _) .nil))) (And.intro (Exp.of (congrArg D.bool (by first | (simp only [wirS, seenB, *, decide_true, decide_false, Bool.and_true, Bool.true_and, Bool.and_false, Bool.false_and, Bool.or_false, Bool.false_or, Bool.or_true, Bool.true_or, Bool.not_true, Bool.not_false, not_false_eq_true, Bool.false_eq_true, if_true, if_false, reduceIte, ite_true, ite_false]; done) | (simp only [wirS, seenB, *, decide_true, decide_false, Bool.and_true, Bool.true_and, Bool.and_false, Bool.false_and, Bool.or_false, Bool.false_or, Bool.or_true, Bool.true_or, Bool.not_true, Bool.not_false, not_false_eq_true, Bool.false_eq_true, if_true, if_false, reduceIte, ite_true, ite_false]; rfl) | (simp only [wirS, seenB]; simp_all; done) | (simp only [wirS, seenB]; simp_all; omega))) (.d _)) (And.intro rfl rfl))))))
                | false =>
                  refine Ch.skip rfl rfl ?_
                  refine Ch.skip rfl rfl ?_
                  refine Ch.skip rfl rfl ?_
                  refine Ch.skip rfl rfl ?_
                  refine Ch.step (v := (.d (.bool false))) rfl (.pure (.pickF _ _ _ rfl rfl rfl)) rfl rfl ?_
                  refine Ch.step (v := (.d (.bool false))) rfl (.pure (.assign _ rfl rfl)) rfl rfl ?_
                  refine Ch.nil ?_
                  refine T_ret ?_
                  refine And.intro (.inr rfl) ?_
                  exact Exists.intro [(.d (.bool false))] (Exists.intro [] (Exists.intro [] (And.intro (.cons (.tmp 6 rfl) .nil) (And.intro (.cons (.any _) (.cons (.any _) (.cons (.any _) .nil))) (And.intro (Exp.of (congrArg D.bool (by first | (simp only [wirS, seenB, *, decide_true, decide_false, Bool.and_true, Bool.true_and, Bool.and_false, Bool.false_and, Bool.or_false, Bool.false_or, Bool.or_true, Bool.true_or, Bool.not_true, Bool.not_false, not_false_eq_true, Bool.false_eq_true, if_true, if_false, reduceIte, ite_true, ite_false]; done) | (simp only [wirS, seenB, *, decide_true, decide_false, Bool.and_true, Bool.true_and, Bool.and_false, Bool.false_and, Bool.or_false, Bool.false_or, Bool.or_true, Bool.true_or, Bool.not_true, Bool.not_false, not_false_eq_true, Bool.false_eq_true, if_true, if_false, reduceIte, ite_true, ite_false]; rfl) | (simp only [wirS, seenB]; simp_all; done) | (simp only [wirS, seenB]; simp_all; omega))) (.d _)) (And.intro rfl rfl))))))
              | false =>
                replace h29 := of_decide_eq_false h29
                refine Ch.step (v := (.ptr 5000 3)) rfl (.pure (.fldPtr _ _ _ rfl fld82_3 rfl)) rfl rfl ?_
                refine Ch.step (v := (.d (.slice false 1 (w.cov.map D.str)))) rfl (.pure (.loadPtr1 _ _ rfl ag22 rfl rfl rfl)) rfl rfl ?_
                refine Ch.step (v := (.d (.int .i64 ((w.cov.length : Nat) : Int)))) rfl (.pure (.len _ _ 9 rfl Try.underlying22 (.sh _ _) (by simp))) rfl rfl ?_
                refine Ch.step (v := (.d (.bool (decide (0 < ((w.cov.length : Nat) : Int)))))) rfl (.pure (.int _ _ _ _ _ rfl rfl rfl rfl)) rfl rfl ?_
                refine Ch.step (v := (.d (.bool (decide (0 < ((w.cov.length : Nat) : Int)))))) rfl (.pure (.pickT _ _ _ rfl rfl rfl)) rfl rfl ?_
                refine Ch.step (v := (.d (.bool (decide (0 < ((w.cov.length : Nat) : Int)))))) rfl (.pure (.pickF _ _ _ rfl rfl rfl)) rfl rfl ?_
                refine Ch.nil ?_
                refine T_cond (b := (decide (0 < ((w.cov.length : Nat) : Int)))) rfl (fun h31 => ?_) (fun h31 => ?_)
                · replace h31 := of_decide_eq_true h31
                  refine T_seq ?_
                  refine T_region hc ?_
                  refine Ch.step (v := (.d (.bool false))) rfl (.pure (.assign _ rfl rfl)) rfl rfl ?_
                  refine Ch.nil ?_
                  refine T_ret ?_
                  refine And.intro (.inr rfl) ?_
                  exact Exists.intro [(.d (.bool false))] (Exists.intro [] (Exists.intro [] (And.intro (.cons (.tmp 6 rfl) .nil) (And.intro (.cons (.any _) (.cons (.any _) (.cons (.any _) .nil))) (And.intro (Exp.of (congrArg D.bool (by first | (simp only [wirS, seenB, *, decide_true, decide_false, Bool.and_true, Bool.true_and, Bool.and_false, Bool.false_and, Bool.or_false, Bool.false_or, Bool.or_true, Bool.true_or, Bool.not_true, Bool.not_false, not_false_eq_true, Bool.false_eq_true, if_true, if_false, reduceIte, ite_true, ite_false]; done) | (simp only [wirS, seenB, *, decide_true, decide_false, Bool.and_true, Bool.true_and, Bool.and_false, Bool.false_and, Bool.or_false, Bool.false_or, Bool.or_true, Bool.true_or, Bool.not_true, Bool.not_false, not_false_eq_true, Bool.false_eq_true, if_true, if_false, reduceIte, ite_true, ite_false]; rfl) | (simp only [wirS, seenB]; simp_all; done) | (simp only [wirS, seenB]; simp_all; omega))) (.d _)) (And.intro rfl rfl))))))
                · replace h31 := of_decide_eq_false h31
                  refine T_skip ?_
                  refine T_seq ?_
                  refine T_region hc ?_
                  refine Ch.step (v := (.ptr 5000 0)) rfl (.pure (.fldPtr _ _ _ rfl fld82_0 rfl)) rfl rfl ?_
                  refine Ch.step (v := (.d (.str w.name))) rfl (.pure (.loadPtr1 _ _ rfl ag9 rfl rfl rfl)) rfl rfl ?_
                  refine Ch.step (v := (.d (.bool (nameB w.name)))) rfl (.call 81000 135 _ _ _ en135 rfl (.inl rfl) (.cons (.d _) .nil) rfl rfl (sp_spec_l2Name w.name (by first | omega | assumption | (exact hx _ (getD_mem (by omega))) | (exact hx _ (by assumption)) | (exact Nat.le_trans (hx _ (by assumption)) (by omega)) | (simp only [List.length_append, List.length_take, List.length_drop, List.length_cons, List.length_nil]; omega) | (simp_all; done))) (.skip _ _ .nil) rfl) rfl rfl ?_
                  refine Ch.step (v := (.d (.bool (nameB w.name)))) rfl (.pure (.move _ rfl rfl)) rfl rfl ?_
                  cases h32 : (nameB w.name) with
                  | true =>
                    refine Ch.step (v := (.agg [(.d (.slice false 2 (x.sigs.map Sgn.d))), (.d (.slice false 4 (x.wires.map Wir.d)))])) rfl (.pure (.loadPtrA _ _ rfl ag44 sz44 rfl rfl (Nat.le_of_ble_eq_true rfl) rfl)) rfl rfl ?_
                    refine Ch.step (v := (.d (.int .i64 ((k : Nat) : Int)))) rfl (.pure (.move _ rfl rfl)) rfl rfl ?_
                    refine Ch.step (v := (.agg [(.d (.str w.name)), (.d (.int .i64 w.kind)), (.d (.slice false 2 (w.ins.map Pin.d))), (.d (.slice false 1 (w.cov.map D.str)))])) rfl (.pure (.loadPtrA _ _ rfl ag82 sz82 rfl rfl (Nat.le_of_ble_eq_true rfl) rfl)) rfl rfl ?_
                    refine Ch.step (v := (.d (.bool (pinS x k w)))) rfl (.call 86000 171 _ _ _ en171 rfl (.inl rfl) (.cons (.lend (.agg (.cons (.d _) (.cons (.d _) .nil)) rfl)) (.cons (.d _) (.cons (.lend (.agg (.cons (.d _) (.cons (.d _) (.cons (.d _) (.cons (.d _) .nil)))) rfl)) .nil))) rfl rfl (sp_spec_l19Pins x k w (by first | assumption | omega | (rw [List.length_take]; omega) | (have := bulkF_mem hb _ (getD_mem (d := default) (by omega)); assumption) | (unfold bulkS at *; omega) | (simp_all; done)) (by first | assumption | omega | (rw [List.length_take]; omega) | (have := bulkF_mem hb _ (getD_mem (d := default) (by omega)); assumption) | (unfold bulkS at *; omega) | (simp_all; done))) (.skip _ _ (.skip _ _ (.skip _ _ .nil))) rfl) rfl rfl ?_
                    refine Ch.step (v := (.d (.bool (pinS x k w)))) rfl (.pure (.pickT _ _ _ rfl rfl rfl)) rfl rfl ?_
                    refine Ch.step (v := (.d (.bool (pinS x k w)))) rfl (.pure (.assign _ rfl rfl)) rfl rfl ?_
                    refine Ch.nil ?_
                    refine T_ret ?_
                    refine And.intro (.inr rfl) ?_
                    exact Exists.intro [(.d (.bool (pinS x k w)))] (Exists.intro [] (Exists.intro [] (And.intro (.cons (.tmp 6 rfl) .nil) (And.intro (.cons (.any _) (.cons (.any _) (.cons (.any _) .nil))) (And.intro (Exp.of (congrArg D.bool (by first | (simp only [wirS, seenB, *, decide_true, decide_false, Bool.and_true, Bool.true_and, Bool.and_false, Bool.false_and, Bool.or_false, Bool.false_or, Bool.or_true, Bool.true_or, Bool.not_true, Bool.not_false, not_false_eq_true, Bool.false_eq_true, if_true, if_false, reduceIte, ite_true, ite_false]; done) | (simp only [wirS, seenB, *, decide_true, decide_false, Bool.and_true, Bool.true_and, Bool.and_false, Bool.false_and, Bool.or_false, Bool.false_or, Bool.or_true, Bool.true_or, Bool.not_true, Bool.not_false, not_false_eq_true, Bool.false_eq_true, if_true, if_false, reduceIte, ite_true, ite_false]; rfl) | (simp only [wirS, seenB]; simp_all; done) | (simp only [wirS, seenB]; simp_all; omega))) (.d _)) (And.intro rfl rfl))))))
                  | false =>
                    refine Ch.skip rfl rfl ?_
                    refine Ch.skip rfl rfl ?_
                    refine Ch.skip rfl rfl ?_
                    refine Ch.skip rfl rfl ?_
                    refine Ch.step (v := (.d (.bool false))) rfl (.pure (.pickF _ _ _ rfl rfl rfl)) rfl rfl ?_
                    refine Ch.step (v := (.d (.bool false))) rfl (.pure (.assign _ rfl rfl)) rfl rfl ?_
                    refine Ch.nil ?_
                    refine T_ret ?_
                    refine And.intro (.inr rfl) ?_
                    exact Exists.intro [(.d (.bool false))] (Exists.intro [] (Exists.intro [] (And.intro (.cons (.tmp 6 rfl) .nil) (And.intro (.cons (.any _) (.cons (.any _) (.cons (.any _) .nil))) (And.intro (Exp.of (congrArg D.bool (by first | (simp only [wirS, seenB, *, decide_true, decide_false, Bool.and_true, Bool.true_and, Bool.and_false, Bool.false_and, Bool.or_false, Bool.false_or, Bool.or_true, Bool.true_or, Bool.not_true, Bool.not_false, not_false_eq_true, Bool.false_eq_true, if_true, if_false, reduceIte, ite_true, ite_false]; done) | (simp only [wirS, seenB, *, decide_true, decide_false, Bool.and_true, Bool.true_and, Bool.and_false, Bool.false_and, Bool.or_false, Bool.false_or, Bool.or_true, Bool.true_or, Bool.not_true, Bool.not_false, not_false_eq_true, Bool.false_eq_true, if_true, if_false, reduceIte, ite_true, ite_false]; rfl) | (simp only [wirS, seenB]; simp_all; done) | (simp only [wirS, seenB]; simp_all; omega))) (.d _)) (And.intro rfl rfl))))))
            | false =>
              refine Ch.skip rfl rfl ?_
              refine Ch.skip rfl rfl ?_
              refine Ch.skip rfl rfl ?_
              refine Ch.skip rfl rfl ?_
              refine Ch.skip rfl rfl ?_
              refine Ch.skip rfl rfl ?_
              refine Ch.skip rfl rfl ?_
              refine Ch.skip rfl rfl ?_
              refine Ch.skip rfl rfl ?_
              refine Ch.step (v := (.d (.bool true))) rfl (.pure (.pickT _ _ _ rfl rfl rfl)) rfl rfl ?_
              refine Ch.nil ?_
              refine T_cond (b := true) rfl (fun _ => ?_) (fun h => nomatch h)
              refine T_seq ?_
              refine T_region hc ?_
              refine Ch.step (v := (.d (.bool false))) rfl (.pure (.assign _ rfl rfl)) rfl rfl ?_
              refine Ch.nil ?_
              refine T_ret ?_
              refine And.intro (.inr rfl) ?_
              exact Exists.intro [(.d (.bool false))] (Exists.intro [] (Exists.intro [] (And.intro (.cons (.tmp 6 rfl) .nil) (And.intro (.cons (.any _) (.cons (.any _) (.cons (.any _) .nil))) (And.intro (Exp.of (congrArg D.bool (by first | (simp only [wirS, seenB, *, decide_true, decide_false, Bool.and_true, Bool.true_and, Bool.and_false, Bool.false_and, Bool.or_false, Bool.false_or, Bool.or_true, Bool.true_or, Bool.not_true, Bool.not_false, not_false_eq_true, Bool.false_eq_true, if_true, if_false, reduceIte, ite_true, ite_false]; done) | (simp only [wirS, seenB, *, decide_true, decide_false, Bool.and_true, Bool.true_and, Bool.and_false, Bool.false_and, Bool.or_false, Bool.false_or, Bool.or_true, Bool.true_or, Bool.not_true, Bool.not_false, not_false_eq_true, Bool.false_eq_true, if_true, if_false, reduceIte, ite_true, ite_false]; rfl) | (simp only [wirS, seenB]; simp_all; done) | (simp only [wirS, seenB]; simp_all; omega))) (.d _)) (And.intro rfl rfl))))))
          | false =>
            replace h27 := of_decide_eq_false h27
            refine Ch.skip rfl rfl ?_
            refine Ch.skip rfl rfl ?_
            refine Ch.skip rfl rfl ?_
            refine Ch.skip rfl rfl ?_
            refine Ch.skip rfl rfl ?_
            refine Ch.skip rfl rfl ?_
            refine Ch.skip rfl rfl ?_
            refine Ch.step (v := (.d (.bool false))) rfl (.pure (.pickF _ _ _ rfl rfl rfl)) rfl rfl ?_
            refine Ch.step (v := (.d (.bool false))) rfl (.pure (.move _ rfl rfl)) rfl rfl ?_
            refine Ch.step (v := (.ptr 5000 1)) rfl (.pure (.fldPtr _ _ _ rfl fld82_1 rfl)) rfl rfl ?_
            refine Ch.step (v := (.d (.int .i64 w.kind))) rfl (.pure (.loadPtr1 _ _ rfl ag3 rfl rfl rfl)) rfl rfl ?_
            refine Ch.step (v := (.d (.bool (!(decide (w.kind = 5)))))) rfl (.pure (.int _ _ _ _ _ rfl rfl rfl rfl)) rfl rfl ?_
            refine Ch.step (v := (.d (.bool (!(decide (w.kind = 5)))))) rfl (.pure (.move _ rfl rfl)) rfl rfl ?_
            cases h33 : (decide (w.kind = 5)) with
            | true =>
              replace h33 := of_decide_eq_true h33
              refine Ch.skip rfl rfl ?_
              refine Ch.skip rfl rfl ?_
              refine Ch.skip rfl rfl ?_
              refine Ch.skip rfl rfl ?_
              refine Ch.step (v := (.d (.bool false))) rfl (.pure (.pickF _ _ _ rfl rfl rfl)) rfl rfl ?_
              refine Ch.step (v := (.d (.bool false))) rfl (.pure (.pickF _ _ _ rfl rfl rfl)) rfl rfl ?_
              refine Ch.nil ?_
              refine T_cond (b := false) rfl (fun h => nomatch h) (fun _ => ?_)
              refine T_skip ?_
              refine T_seq ?_
              refine T_region hc ?_
              refine Ch.step (v := (.ptr 5000 0)) rfl (.pure (.fldPtr _ _ _ rfl fld82_0 rfl)) rfl rfl ?_
              refine Ch.step (v := (.d (.str w.name))) rfl (.pure (.loadPtr1 _ _ rfl ag9 rfl rfl rfl)) rfl rfl ?_
              refine Ch.step (v := (.d (.bool (nameB w.name)))) rfl (.call 81000 135 _ _ _ en135 rfl (.inl rfl) (.cons (.d _) .nil) rfl rfl (sp_spec_l2Name w.name (by first | omega | assumption | (exact hx _ (getD_mem (by omega))) | (exact hx _ (by assumption)) | (exact Nat.le_trans (hx _ (by assumption)) (by omega)) | (simp only [List.length_append, List.length_take, List.length_drop, List.length_cons, List.length_nil]; omega) | (simp_all; done))) (.skip _ _ .nil) rfl) rfl rfl ?_
              refine Ch.step (v := (.d (.bool (nameB w.name)))) rfl (.pure (.move _ rfl rfl)) rfl rfl ?_
              cases h34 : (nameB w.name) with
              | true =>
                refine Ch.step (v := (.agg [(.d (.slice false 2 (x.sigs.map Sgn.d))), (.d (.slice false 4 (x.wires.map Wir.d)))])) rfl (.pure (.loadPtrA _ _ rfl ag44 sz44 rfl rfl (Nat.le_of_ble_eq_true rfl) rfl)) rfl rfl ?_
                refine Ch.step (v := (.d (.int .i64 ((k : Nat) : Int)))) rfl (.pure (.move _ rfl rfl)) rfl rfl ?_
                refine Ch.step (v := (.agg [(.d (.str w.name)), (.d (.int .i64 w.kind)), (.d (.slice false 2 (w.ins.map Pin.d))), (.d (.slice false 1 (w.cov.map D.str)))])) rfl (.pure (.loadPtrA _ _ rfl ag82 sz82 rfl rfl (Nat.le_of_ble_eq_true rfl) rfl)) rfl rfl ?_
                refine Ch.step (v := (.d (.bool (pinS x k w)))) rfl (.call 86000 171 _ _ _ en171 rfl (.inl rfl) (.cons (.lend (.agg (.cons (.d _) (.cons (.d _) .nil)) rfl)) (.cons (.d _) (.cons (.lend (.agg (.cons (.d _) (.cons (.d _) (.cons (.d _) (.cons (.d _) .nil)))) rfl)) .nil))) rfl rfl (sp_spec_l19Pins x k w (by first | assumption | omega | (rw [List.length_take]; omega) | (have := bulkF_mem hb _ (getD_mem (d := default) (by omega)); assumption) | (unfold bulkS at *; omega) | (simp_all; done)) (by first | assumption | omega | (rw [List.length_take]; omega) | (have := bulkF_mem hb _ (getD_mem (d := default) (by omega)); assumption) | (unfold bulkS at *; omega) | (simp_all; done))) (.skip _ _ (.skip _ _ (.skip _ _ .nil))) rfl) rfl rfl ?_
                refine Ch.step (v := (.d (.bool (pinS x k w)))) rfl (.pure (.pickT _ _ _ rfl rfl rfl)) rfl rfl ?_
                refine Ch.step (v := (.d (.bool (pinS x k w)))) rfl (.pure (.assign _ rfl rfl)) rfl rfl ?_
                refine Ch.nil ?_
                refine T_ret ?_
                refine And.intro (.inr rfl) ?_
                exact Exists.intro [(.d (.bool (pinS x k w)))] (Exists.intro [] (Exists.intro [] (And.intro (.cons (.tmp 6 rfl) .nil) (And.intro (.cons (.any _) (.cons (.any _) (.cons (.any _) .nil))) (And.intro (Exp.of (congrArg D.bool (by first | (simp only [wirS, seenB, *, decide_true, decide_false, Bool.and_true, Bool.true_and, Bool.and_false, Bool.false_and, Bool.or_false, Bool.false_or, Bool.or_true, Bool.true_or, Bool.not_true, Bool.not_false, not_false_eq_true, Bool.false_eq_true, if_true, if_false, reduceIte, ite_true, ite_false]; done) | (simp only [wirS, seenB, *, decide_true, decide_false, Bool.and_true, Bool.true_and, Bool.and_false, Bool.false_and, Bool.or_false, Bool.false_or, Bool.or_true, Bool.true_or, Bool.not_true, Bool.not_false, not_false_eq_true, Bool.false_eq_true, if_true, if_false, reduceIte, ite_true, ite_false]; rfl) | (simp only [wirS, seenB]; simp_all; done) | (simp only [wirS, seenB]; simp_all; omega))) (.d _)) (And.intro rfl rfl))))))
              | false =>
                refine Ch.skip rfl rfl ?_
                refine Ch.skip rfl rfl ?_
                refine Ch.skip rfl rfl ?_
                refine Ch.skip rfl rfl ?_
                refine Ch.step (v := (.d (.bool false))) rfl (.pure (.pickF _ _ _ rfl rfl rfl)) rfl rfl ?_
                refine Ch.step (v := (.d (.bool false))) rfl (.pure (.assign _ rfl rfl)) rfl rfl ?_
                refine Ch.nil ?_
                refine T_ret ?_
                refine And.intro (.inr rfl) ?_
                exact Exists.intro [(.d (.bool false))] (Exists.intro [] (Exists.intro [] (And.intro (.cons (.tmp 6 rfl) .nil) (And.intro (.cons (.any _) (.cons (.any _) (.cons (.any _) .nil))) (And.intro (Exp.of (congrArg D.bool (by first | (simp only [wirS, seenB, *, decide_true, decide_false, Bool.and_true, Bool.true_and, Bool.and_false, Bool.false_and, Bool.or_false, Bool.false_or, Bool.or_true, Bool.true_or, Bool.not_true, Bool.not_false, not_false_eq_true, Bool.false_eq_true, if_true, if_false, reduceIte, ite_true, ite_false]; done) | (simp only [wirS, seenB, *, decide_true, decide_false, Bool.and_true, Bool.true_and, Bool.and_false, Bool.false_and, Bool.or_false, Bool.false_or, Bool.or_true, Bool.true_or, Bool.not_true, Bool.not_false, not_false_eq_true, Bool.false_eq_true, if_true, if_false, reduceIte, ite_true, ite_false]; rfl) | (simp only [wirS, seenB]; simp_all; done) | (simp only [wirS, seenB]; simp_all; omega))) (.d _)) (And.intro rfl rfl))))))
            | false =>
              replace h33 := of_decide_eq_false h33
              refine Ch.step (v := (.ptr 5000 3)) rfl (.pure (.fldPtr _ _ _ rfl fld82_3 rfl)) rfl rfl ?_
              refine Ch.step (v := (.d (.slice false 1 (w.cov.map D.str)))) rfl (.pure (.loadPtr1 _ _ rfl ag22 rfl rfl rfl)) rfl rfl ?_
              refine Ch.step (v := (.d (.int .i64 ((w.cov.length : Nat) : Int)))) rfl (.pure (.len _ _ 9 rfl Try.underlying22 (.sh _ _) (by simp))) rfl rfl ?_
              refine Ch.step (v := (.d (.bool (decide (0 < ((w.cov.length : Nat) : Int)))))) rfl (.pure (.int _ _ _ _ _ rfl rfl rfl rfl)) rfl rfl ?_
              refine Ch.step (v := (.d (.bool (decide (0 < ((w.cov.length : Nat) : Int)))))) rfl (.pure (.pickT _ _ _ rfl rfl rfl)) rfl rfl ?_
              refine Ch.step (v := (.d (.bool (decide (0 < ((w.cov.length : Nat) : Int)))))) rfl (.pure (.pickF _ _ _ rfl rfl rfl)) rfl rfl ?_
              refine Ch.nil ?_
              refine T_cond (b := (decide (0 < ((w.cov.length : Nat) : Int)))) rfl (fun h35 => ?_) (fun h35 => ?_)
              · replace h35 := of_decide_eq_true h35
                refine T_seq ?_
                refine T_region hc ?_
                refine Ch.step (v := (.d (.bool false))) rfl (.pure (.assign _ rfl rfl)) rfl rfl ?_
                refine Ch.nil ?_
                refine T_ret ?_
                refine And.intro (.inr rfl) ?_
                exact Exists.intro [(.d (.bool false))] (Exists.intro [] (Exists.intro [] (And.intro (.cons (.tmp 6 rfl) .nil) (And.intro (.cons (.any _) (.cons (.any _) (.cons (.any _) .nil))) (And.intro (Exp.of (congrArg D.bool (by first | (simp only [wirS, seenB, *, decide_true, decide_false, Bool.and_true, Bool.true_and, Bool.and_false, Bool.false_and, Bool.or_false, Bool.false_or, Bool.or_true, Bool.true_or, Bool.not_true, Bool.not_false, not_false_eq_true, Bool.false_eq_true, if_true, if_false, reduceIte, ite_true, ite_false]; done) | (simp only [wirS, seenB, *, decide_true, decide_false, Bool.and_true, Bool.true_and, Bool.and_false, Bool.false_and, Bool.or_false, Bool.false_or, Bool.or_true, Bool.true_or, Bool.not_true, Bool.not_false, not_false_eq_true, Bool.false_eq_true, if_true, if_false, reduceIte, ite_true, ite_false]; rfl) | (simp only [wirS, seenB]; simp_all; done) | (simp only [wirS, seenB]; simp_all; omega))) (.d _)) (And.intro rfl rfl))))))
              · replace h35 := of_decide_eq_false h35
                refine T_skip ?_
                refine T_seq ?_
                refine T_region hc ?_
                refine Ch.step (v := (.ptr 5000 0)) rfl (.pure (.fldPtr _ _ _ rfl fld82_0 rfl)) rfl rfl ?_
                refine Ch.step (v := (.d (.str w.name))) rfl (.pure (.loadPtr1 _ _ rfl ag9 rfl rfl rfl)) rfl rfl ?_
                refine Ch.step (v := (.d (.bool (nameB w.name)))) rfl (.call 81000 135 _ _ _ en135 rfl (.inl rfl) (.cons (.d _) .nil) rfl rfl (sp_spec_l2Name w.name (by first | omega | assumption | (exact hx _ (getD_mem (by omega))) | (exact hx _ (by assumption)) | (exact Nat.le_trans (hx _ (by assumption)) (by omega)) | (simp only [List.length_append, List.length_take, List.length_drop, List.length_cons, List.length_nil]; omega) | (simp_all; done))) (.skip _ _ .nil) rfl) rfl rfl ?_
                refine Ch.step (v := (.d (.bool (nameB w.name)))) rfl (.pure (.move _ rfl rfl)) rfl rfl ?_
                cases h36 : (nameB w.name) with
                | true =>
                  refine Ch.step (v := (.agg [(.d (.slice false 2 (x.sigs.map Sgn.d))), (.d (.slice false 4 (x.wires.map Wir.d)))])) rfl (.pure (.loadPtrA _ _ rfl ag44 sz44 rfl rfl (Nat.le_of_ble_eq_true rfl) rfl)) rfl rfl ?_
                  refine Ch.step (v := (.d (.int .i64 ((k : Nat) : Int)))) rfl (.pure (.move _ rfl rfl)) rfl rfl ?_
                  refine Ch.step (v := (.agg [(.d (.str w.name)), (.d (.int .i64 w.kind)), (.d (.slice false 2 (w.ins.map Pin.d))), (.d (.slice false 1 (w.cov.map D.str)))])) rfl (.pure (.loadPtrA _ _ rfl ag82 sz82 rfl rfl (Nat.le_of_ble_eq_true rfl) rfl)) rfl rfl ?_
                  refine Ch.step (v := (.d (.bool (pinS x k w)))) rfl (.call 86000 171 _ _ _ en171 rfl (.inl rfl) (.cons (.lend (.agg (.cons (.d _) (.cons (.d _) .nil)) rfl)) (.cons (.d _) (.cons (.lend (.agg (.cons (.d _) (.cons (.d _) (.cons (.d _) (.cons (.d _) .nil)))) rfl)) .nil))) rfl rfl (sp_spec_l19Pins x k w (by first | assumption | omega | (rw [List.length_take]; omega) | (have := bulkF_mem hb _ (getD_mem (d := default) (by omega)); assumption) | (unfold bulkS at *; omega) | (simp_all; done)) (by first | assumption | omega | (rw [List.length_take]; omega) | (have := bulkF_mem hb _ (getD_mem (d := default) (by omega)); assumption) | (unfold bulkS at *; omega) | (simp_all; done))) (.skip _ _ (.skip _ _ (.skip _ _ .nil))) rfl) rfl rfl ?_
                  refine Ch.step (v := (.d (.bool (pinS x k w)))) rfl (.pure (.pickT _ _ _ rfl rfl rfl)) rfl rfl ?_
                  refine Ch.step (v := (.d (.bool (pinS x k w)))) rfl (.pure (.assign _ rfl rfl)) rfl rfl ?_
                  refine Ch.nil ?_
                  refine T_ret ?_
                  refine And.intro (.inr rfl) ?_
                  exact Exists.intro [(.d (.bool (pinS x k w)))] (Exists.intro [] (Exists.intro [] (And.intro (.cons (.tmp 6 rfl) .nil) (And.intro (.cons (.any _) (.cons (.any _) (.cons (.any _) .nil))) (And.intro (Exp.of (congrArg D.bool (by first | (simp only [wirS, seenB, *, decide_true, decide_false, Bool.and_true, Bool.true_and, Bool.and_false, Bool.false_and, Bool.or_false, Bool.false_or, Bool.or_true, Bool.true_or, Bool.not_true, Bool.not_false, not_false_eq_true, Bool.false_eq_true, if_true, if_false, reduceIte, ite_true, ite_false]; done) | (simp only [wirS, seenB, *, decide_true, decide_false, Bool.and_true, Bool.true_and, Bool.and_false, Bool.false_and, Bool.or_false, Bool.false_or, Bool.or_true, Bool.true_or, Bool.not_true, Bool.not_false, not_false_eq_true, Bool.false_eq_true, if_true, if_false, reduceIte, ite_true, ite_false]; rfl) | (simp only [wirS, seenB]; simp_all; done) | (simp only [wirS, seenB]; simp_all; omega))) (.d _)) (And.intro rfl rfl))))))
                | false =>
                  refine Ch.skip rfl rfl ?_
                  refine Ch.skip rfl rfl ?_
                  refine Ch.skip rfl rfl ?_
                  refine Ch.skip rfl rfl ?_
                  refine Ch.step (v := (.d (.bool false))) rfl (.pure (.pickF _ _ _ rfl rfl rfl)) rfl rfl ?_
                  refine Ch.step (v := (.d (.bool false))) rfl (.pure (.assign _ rfl rfl)) rfl rfl ?_
                  refine Ch.nil ?_
                  refine T_ret ?_
                  refine And.intro (.inr rfl) ?_
                  exact Exists.intro [(.d (.bool false))] (Exists.intro [] (Exists.intro [] (And.intro (.cons (.tmp 6 rfl) .nil) (And.intro (.cons (.any _) (.cons (.any _) (.cons (.any _) .nil))) (And.intro (Exp.of (congrArg D.bool (by first | (simp only [wirS, seenB, *, decide_true, decide_false, Bool.and_true, Bool.true_and, Bool.and_false, Bool.false_and, Bool.or_false, Bool.false_or, Bool.or_true, Bool.true_or, Bool.not_true, Bool.not_false, not_false_eq_true, Bool.false_eq_true, if_true, if_false, reduceIte, ite_true, ite_false]; done) | (simp only [wirS, seenB, *, decide_true, decide_false, Bool.and_true, Bool.true_and, Bool.and_false, Bool.false_and, Bool.or_false, Bool.false_or, Bool.or_true, Bool.true_or, Bool.not_true, Bool.not_false, not_false_eq_true, Bool.false_eq_true, if_true, if_false, reduceIte, ite_true, ite_false]; rfl) | (simp only [wirS, seenB]; simp_all; done) | (simp only [wirS, seenB]; simp_all; omega))) (.d _)) (And.intro rfl rfl))))))
  | false =>
    refine Ch.skip rfl rfl ?_
    refine Ch.skip rfl rfl ?_
    refine Ch.skip rfl rfl ?_
    refine Ch.skip rfl rfl ?_
    refine Ch.skip rfl rfl ?_
    refine Ch.skip rfl rfl ?_
    refine Ch.skip rfl rfl ?_
    refine Ch.skip rfl rfl ?_
    refine Ch.skip rfl rfl ?_
    refine Ch.skip rfl rfl ?_
    refine Ch.skip rfl rfl ?_
    refine Ch.skip rfl rfl ?_
    refine Ch.step (v := (.d (.bool true))) rfl (.pure (.pickT _ _ _ rfl rfl rfl)) rfl rfl ?_
    refine Ch.nil ?_
    refine T_cond (b := true) rfl (fun _ => ?_) (fun h => nomatch h)
    refine T_seq ?_
    refine T_region hc ?_
    refine Ch.step (v := (.d (.bool false))) rfl (.pure (.assign _ rfl rfl)) rfl rfl ?_
    refine Ch.nil ?_
    refine T_ret ?_
    refine And.intro (.inr rfl) ?_
    exact Exists.intro [(.d (.bool false))] (Exists.intro [] (Exists.intro [] (And.intro (.cons (.tmp 6 rfl) .nil) (And.intro (.cons (.any _) (.cons (.any _) (.cons (.any _) .nil))) (And.intro (Exp.of (congrArg D.bool (by first | (simp only [wirS, seenB, *, decide_true, decide_false, Bool.and_true, Bool.true_and, Bool.and_false, Bool.false_and, Bool.or_false, Bool.false_or, Bool.or_true, Bool.true_or, Bool.not_true, Bool.not_false, not_false_eq_true, Bool.false_eq_true, if_true, if_false, reduceIte, ite_true, ite_false]; done) | (simp only [wirS, seenB, *, decide_true, decide_false, Bool.and_true, Bool.true_and, Bool.and_false, Bool.false_and, Bool.or_false, Bool.false_or, Bool.or_true, Bool.true_or, Bool.not_true, Bool.not_false, not_false_eq_true, Bool.false_eq_true, if_true, if_false, reduceIte, ite_true, ite_false]; rfl) | (simp only [wirS, seenB]; simp_all; done) | (simp only [wirS, seenB]; simp_all; omega))) (.d _)) (And.intro rfl rfl))))))

theorem netB_len {x : Ntl} (h : ¬ (x.wires.length : Int) < (x.sigs.length : Int)) (h2 : ¬ (24 : Int) < (x.wires.length : Int)) : withinB (x.wires.length : Int) (x.sigs.length : Int) 24 = true := by
  unfold withinB
  rw [decide_eq_true (by omega), decide_eq_true (by omega)]; rfl

theorem netB_few {x : Ntl} (h : (x.wires.length : Int) < (x.sigs.length : Int)) : withinB (x.wires.length : Int) (x.sigs.length : Int) 24 = false := by
  unfold withinB
  rw [decide_eq_false (by omega)]; rfl

theorem netB_many {x : Ntl} (h : (24 : Int) < (x.wires.length : Int)) : withinB (x.wires.length : Int) (x.sigs.length : Int) 24 = false := by
  unfold withinB
  rw [decide_eq_false (p := (x.wires.length : Int) ≤ 24) (by omega), Bool.and_false]

theorem no_yes {xs : List Wir} {u : List UInt8} {m : Nat} (hm : m < xs.length) (h : (xs.getD m default).name = u) : noOther xs u = false := by
  rw [noOther, ← any_yes (p := fun w : Wir => decide (w.name = u)) default m hm (decide_eq_true h)]; rfl

theorem no_none {xs : List Wir} {u : List UInt8} {m : Nat} (hm : xs.length ≤ m) (h : ∀ j, j < m → decide ((xs.getD j default).name = u) = false) : noOther xs u = true := by
  rw [noOther, any_takeF (p := fun w : Wir => decide (w.name = u)) hm h]; rfl

set_option maxHeartbeats 4000000 in
theorem sp_spec_l19Good (x : Ntl) (hb : x.bulk ≤ 1048576) : Sp Try.prog 107 [(.agg [(.slice false 2 (x.sigs.map Sgn.d)), (.slice false 4 (x.wires.map Wir.d))])] [.any] (.bool (netB x)) := by
  refine Sp_intro (lend := true) Try.func107 rfl rfl rfl (fun _ => rfl) (fun c hc hX => ?_)
  obtain ⟨hp0, hp1⟩ := Ntl.parts hb
  have hn0 := bulkF_len hp0
  have hn1 := bulkF_len hp1
  refine T_seq ?_
  refine T_region hc ?_
  refine Ch.step (v := (.ptr 1000 0)) rfl (.box 1000 _ _ rfl (.aggD _)) rfl rfl ?_
  refine Ch.step (v := (.d (.bool false))) rfl (.pure (.assign _ rfl rfl)) rfl rfl ?_
  refine Ch.nil ?_
  refine T_seq ?_
  refine T_seq ?_
  refine T_region hc ?_
  refine Ch.step (v := (.ptr 1000 0)) rfl (.pure (.fldPtr _ _ _ rfl fld44_0 rfl)) rfl rfl ?_
  refine Ch.step (v := (.d (.slice false 2 (x.sigs.map Sgn.d)))) rfl (.pure (.loadPtr1 _ _ rfl ag41 rfl rfl rfl)) rfl rfl ?_
  refine Ch.step (v := (.d (.bool (sigsB x.sigs)))) rfl (.call 9000 84 _ _ _ en84 rfl (.inl rfl) (.cons (.d _) .nil) rfl rfl (sp_spec_l2Signals x.sigs (by first | assumption | omega | (rw [List.length_take]; omega) | (have := bulkF_mem hb _ (getD_mem (d := default) (by omega)); assumption) | (unfold bulkS at *; omega) | (simp_all; done))) (.skip _ _ .nil) rfl) rfl rfl ?_
  refine Ch.step (v := (.d (.bool (!(sigsB x.sigs))))) rfl (.pure (.not _ _ rfl rfl)) rfl rfl ?_
  refine Ch.step (v := (.d (.bool (!(sigsB x.sigs))))) rfl (.pure (.move _ rfl rfl)) rfl rfl ?_
  cases h1 : (sigsB x.sigs) with
  | true =>
    refine Ch.step (v := (.ptr 1000 1)) rfl (.pure (.fldPtr _ _ _ rfl fld44_1 rfl)) rfl rfl ?_
    refine Ch.step (v := (.d (.slice false 4 (x.wires.map Wir.d)))) rfl (.pure (.loadPtr1 _ _ rfl ag42 rfl rfl rfl)) rfl rfl ?_
    refine Ch.step (v := (.d (.int .i64 ((x.wires.length : Nat) : Int)))) rfl (.pure (.len _ _ 82 rfl Try.underlying42 (.sh _ _) (by simp))) rfl rfl ?_
    refine Ch.step (v := (.ptr 1000 0)) rfl (.pure (.fldPtr _ _ _ rfl fld44_0 rfl)) rfl rfl ?_
    refine Ch.step (v := (.d (.slice false 2 (x.sigs.map Sgn.d)))) rfl (.pure (.loadPtr1 _ _ rfl ag41 rfl rfl rfl)) rfl rfl ?_
    refine Ch.step (v := (.d (.int .i64 ((x.sigs.length : Nat) : Int)))) rfl (.pure (.len _ _ 85 rfl Try.underlying41 (.sh _ _) (by simp))) rfl rfl ?_
    refine Ch.step (v := (.d (.bool (decide (((x.wires.length : Nat) : Int) < ((x.sigs.length : Nat) : Int)))))) rfl (.pure (.int _ _ _ _ _ rfl rfl rfl rfl)) rfl rfl ?_
    refine Ch.step (v := (.d (.bool (decide (((x.wires.length : Nat) : Int) < ((x.sigs.length : Nat) : Int)))))) rfl (.pure (.pickF _ _ _ rfl rfl rfl)) rfl rfl ?_
    refine Ch.step (v := (.d (.bool (decide (((x.wires.length : Nat) : Int) < ((x.sigs.length : Nat) : Int)))))) rfl (.pure (.move _ rfl rfl)) rfl rfl ?_
    cases h2 : (decide (((x.wires.length : Nat) : Int) < ((x.sigs.length : Nat) : Int))) with
    | true =>
      replace h2 := of_decide_eq_true h2
      try have hl1 := netB_few h2
      try have hl2 := netB_many h3
      try have hl3 := netB_len h2 h3
      refine Ch.skip rfl rfl ?_
      refine Ch.skip rfl rfl ?_
      refine Ch.skip rfl rfl ?_
      refine Ch.skip rfl rfl ?_
      refine Ch.step (v := (.d (.bool true))) rfl (.pure (.pickT _ _ _ rfl rfl rfl)) rfl rfl ?_
      refine Ch.nil ?_
      refine T_cond (b := true) rfl (fun _ => ?_) (fun h => nomatch h)
      refine T_seq ?_
      refine T_region hc ?_
      refine Ch.step (v := (.d (.bool false))) rfl (.pure (.assign _ rfl rfl)) rfl rfl ?_
      refine Ch.nil ?_
      refine T_ret ?_
      refine And.intro (.inr rfl) ?_
      exact Exists.intro [(.d (.bool false))] (Exists.intro [] (Exists.intro [] (And.intro (.cons (.tmp 2 rfl) .nil) (And.intro (.cons (.any _) .nil) (And.intro (Exp.of (congrArg D.bool (by first | (rw [netB_S, h1, hl3, allB_no k (by omega) (by first | (simp only [wirOkS, *, decide_true, decide_false, Bool.and_true, Bool.true_and, Bool.and_false, Bool.false_and, Bool.or_false, Bool.false_or, Bool.or_true, Bool.true_or, Bool.not_true, Bool.not_false, not_false_eq_true, Bool.false_eq_true, if_true, if_false, reduceIte, ite_true, ite_false]; done) | (simp only [wirOkS, *, decide_true, decide_false, Bool.and_true, Bool.true_and, Bool.and_false, Bool.false_and, Bool.or_false, Bool.false_or, Bool.or_true, Bool.true_or, Bool.not_true, Bool.not_false, not_false_eq_true, Bool.false_eq_true, if_true, if_false, reduceIte, ite_true, ite_false]; rfl) | (simp only [wirOkS]; simp_all; done))] <;> rfl) | (rw [netB_S, h1, hl3, allB_of (fun j hj => hp0.2 j (by omega))] <;> rfl) | (rw [netB_S, h1, hl1] <;> rfl) | (rw [netB_S, h1, hl2] <;> rfl) | (rw [netB_S, h1] <;> rfl))) (.d _)) (And.intro rfl rfl))))))
    | false =>
      replace h2 := of_decide_eq_false h2
      try have hl1 := netB_few h2
      try have hl2 := netB_many h3
      try have hl3 := netB_len h2 h3
      refine Ch.step (v := (.ptr 1000 1)) rfl (.pure (.fldPtr _ _ _ rfl fld44_1 rfl)) rfl rfl ?_
      refine Ch.step (v := (.d (.slice false 4 (x.wires.map Wir.d)))) rfl (.pure (.loadPtr1 _ _ rfl ag42 rfl rfl rfl)) rfl rfl ?_
      refine Ch.step (v := (.d (.int .i64 ((x.wires.length : Nat) : Int)))) rfl (.pure (.len _ _ 82 rfl Try.underlying42 (.sh _ _) (by simp))) rfl rfl ?_
      refine Ch.step (v := (.d (.bool (decide (24 < ((x.wires.length : Nat) : Int)))))) rfl (.pure (.int _ _ _ _ _ rfl rfl rfl rfl)) rfl rfl ?_
      refine Ch.step (v := (.d (.bool (decide (24 < ((x.wires.length : Nat) : Int)))))) rfl (.pure (.pickF _ _ _ rfl rfl rfl)) rfl rfl ?_
      refine Ch.nil ?_
      refine T_cond (b := (decide (24 < ((x.wires.length : Nat) : Int)))) rfl (fun h3 => ?_) (fun h3 => ?_)
      · replace h3 := of_decide_eq_true h3
        try have hl1 := netB_few h2
        try have hl2 := netB_many h3
        try have hl3 := netB_len h2 h3
        refine T_seq ?_
        refine T_region hc ?_
        refine Ch.step (v := (.d (.bool false))) rfl (.pure (.assign _ rfl rfl)) rfl rfl ?_
        refine Ch.nil ?_
        refine T_ret ?_
        refine And.intro (.inr rfl) ?_
        exact Exists.intro [(.d (.bool false))] (Exists.intro [] (Exists.intro [] (And.intro (.cons (.tmp 2 rfl) .nil) (And.intro (.cons (.any _) .nil) (And.intro (Exp.of (congrArg D.bool (by first | (rw [netB_S, h1, hl3, allB_no k (by omega) (by first | (simp only [wirOkS, *, decide_true, decide_false, Bool.and_true, Bool.true_and, Bool.and_false, Bool.false_and, Bool.or_false, Bool.false_or, Bool.or_true, Bool.true_or, Bool.not_true, Bool.not_false, not_false_eq_true, Bool.false_eq_true, if_true, if_false, reduceIte, ite_true, ite_false]; done) | (simp only [wirOkS, *, decide_true, decide_false, Bool.and_true, Bool.true_and, Bool.and_false, Bool.false_and, Bool.or_false, Bool.false_or, Bool.or_true, Bool.true_or, Bool.not_true, Bool.not_false, not_false_eq_true, Bool.false_eq_true, if_true, if_false, reduceIte, ite_true, ite_false]; rfl) | (simp only [wirOkS]; simp_all; done))] <;> rfl) | (rw [netB_S, h1, hl3, allB_of (fun j hj => hp0.2 j (by omega))] <;> rfl) | (rw [netB_S, h1, hl1] <;> rfl) | (rw [netB_S, h1, hl2] <;> rfl) | (rw [netB_S, h1] <;> rfl))) (.d _)) (And.intro rfl rfl))))))
      · replace h3 := of_decide_eq_false h3
        try have hl1 := netB_few h2
        try have hl2 := netB_many h3
        try have hl3 := netB_len h2 h3
        refine T_skip ?_
        refine T_seq ?_
        refine T_seq ?_
        refine T_region hc ?_
        refine Ch.step (v := (.ptr 1000 1)) rfl (.pure (.fldPtr _ _ _ rfl fld44_1 rfl)) rfl rfl ?_
        refine Ch.step (v := (.d (.slice false 4 (x.wires.map Wir.d)))) rfl (.pure (.loadPtr1 _ _ rfl ag42 rfl rfl rfl)) rfl rfl ?_
        refine Ch.step (v := (.d (.int .i64 ((x.wires.length : Nat) : Int)))) rfl (.pure (.len _ _ 82 rfl Try.underlying42 (.sh _ _) (by simp))) rfl rfl ?_
        refine Ch.step (v := (.d (.int .i64 0))) rfl (.pure (.move _ rfl rfl)) rfl rfl ?_
        refine Ch.nil ?_
        refine T_block ?_
        refine T_loop (ι := Nat) (fun k => { n := 55, sl := [(1, (.ptr 1000 0)), (27, (.d (.slice false 4 (x.wires.map Wir.d)))), (28, (.d (.int .i64 ((x.wires.length : Nat) : Int)))), (29, (.d (.int .i64 ((k : Nat) : Int))))], hp := [(1000, (some (.box [(.d (.slice false 2 (x.sigs.map Sgn.d))), (.d (.slice false 4 (x.wires.map Wir.d)))])))], pin := [] }) (fun k => k ≤ x.wires.length ∧ ∀ j, j < k → wirOkS x j = true) (fun k => x.wires.length - k) ⟨0, ⟨by omega, fun j hj => by omega⟩, (Wk.of rfl rfl (And.intro rfl (And.intro rfl (And.intro rfl (And.intro (vI (by first | rfl | omega | (simp; done) | (simp; omega))) trivial)))) (And.intro rfl trivial))⟩ (fun k hp0 => ?_)
        refine T_seq ?_
        refine T_region hc ?_
        refine Ch.step (v := (.d (.bool (decide (((k : Nat) : Int) < ((x.wires.length : Nat) : Int)))))) rfl (.pure (.int _ _ _ _ _ rfl rfl rfl rfl)) rfl rfl ?_
        refine Ch.nil ?_
        refine T_seq ?_
        refine T_cond (b := (decide (((k : Nat) : Int) < ((x.wires.length : Nat) : Int)))) rfl (fun h4 => ?_) (fun h4 => ?_)
        · replace h4 := of_decide_eq_true h4
          try have hkw : (x.wires.getD k default).bulk ≤ 1048576 := bulkF_mem hp1 _ (getD_mem (l := x.wires) (j := k) (d := default) (by omega))
          try have hwp := Wir.parts hkw
          try have hnm : (x.wires.getD k default).name.length ≤ 1048576 := hwp.1
          try have hin := bulkF_len hwp.2.1
          refine T_skip ?_
          refine T_seq ?_
          refine T_block ?_
          refine T_seq ?_
          refine T_region hc ?_
          refine Ch.step (v := (.d (.int .i64 ((k : Nat) : Int)))) rfl (.pure (.move _ rfl rfl)) rfl rfl ?_
          refine Ch.step (v := (.d (.ref (.agg [(.str ((x.wires.getD k default).name)), (.int .i64 ((x.wires.getD k default).kind)), (.slice false 2 (((x.wires.getD k default).ins).map Pin.d)), (.slice false 1 (((x.wires.getD k default).cov).map D.str))])))) rfl (.pure (.idx _ _ _ 82 (k) rfl Try.underlying42 sz82 rfl rfl rfl (get_map _ (by first | omega | (simp only [List.length_map, List.length_append, List.length_take, List.length_drop, List.length_cons, List.length_nil]; omega) | (simp; omega) | (simp; done))))) rfl rfl ?_
          refine Ch.step (v := (.d (.agg [(.str ((x.wires.getD k default).name)), (.int .i64 ((x.wires.getD k default).kind)), (.slice false 2 (((x.wires.getD k default).ins).map Pin.d)), (.slice false 1 (((x.wires.getD k default).cov).map D.str))]))) rfl (.pure (.loadRefA _ _ rfl ag82 sz82 rfl)) rfl rfl ?_
          refine Ch.step (v := (.ptr 4000 0)) rfl (.alloc 4000 _ rfl zer82) rfl rfl ?_
          refine Ch.step (v := (.d (.int .i64 ((k : Nat) : Int)))) rfl (.pure (.assign _ rfl rfl)) rfl rfl ?_
          refine Ch.step (v := .junk) rfl (.storePtr _ _ _ rfl rfl rfl (.aggD _) sz82 (Nat.le_of_ble_eq_true rfl)) rfl rfl ?_
          refine Ch.nil ?_
          refine T_seq ?_
          refine T_seq ?_
          refine T_region hc ?_
          refine Ch.step (v := (.agg [(.d (.slice false 2 (x.sigs.map Sgn.d))), (.d (.slice false 4 (x.wires.map Wir.d)))])) rfl (.pure (.loadPtrA _ _ rfl ag44 sz44 rfl rfl (Nat.le_of_ble_eq_true rfl) rfl)) rfl rfl ?_
          refine Ch.step (v := (.d (.int .i64 ((k : Nat) : Int)))) rfl (.pure (.move _ rfl rfl)) rfl rfl ?_
          refine Ch.step (v := (.agg [(.d (.str ((x.wires.getD k default).name))), (.d (.int .i64 ((x.wires.getD k default).kind))), (.d (.slice false 2 (((x.wires.getD k default).ins).map Pin.d))), (.d (.slice false 1 (((x.wires.getD k default).cov).map D.str)))])) rfl (.pure (.loadPtrA _ _ rfl ag82 sz82 rfl rfl (Nat.le_of_ble_eq_true rfl) rfl)) rfl rfl ?_
          refine Ch.step (v := (.d (.bool (wirS x k (x.wires.getD k default))))) rfl (.call 37000 153 _ _ _ en153 rfl (.inl rfl) (.cons (.lend (.agg (.cons (.d _) (.cons (.d _) .nil)) rfl)) (.cons (.d _) (.cons (.lend (.agg (.cons (.d _) (.cons (.d _) (.cons (.d _) (.cons (.d _) .nil)))) rfl)) .nil))) rfl rfl (sp_spec_l19Wire x k (x.wires.getD k default) (by first | assumption | omega | (rw [List.length_take]; omega) | (have := bulkF_mem hb _ (getD_mem (d := default) (by omega)); assumption) | (unfold bulkS at *; omega) | (simp_all; done)) (by first | assumption | omega | (rw [List.length_take]; omega) | (have := bulkF_mem hb _ (getD_mem (d := default) (by omega)); assumption) | (unfold bulkS at *; omega) | (simp_all; done))) (.skip _ _ (.skip _ _ (.skip _ _ .nil))) rfl) rfl rfl ?_
          refine Ch.step (v := (.d (.bool (!(wirS x k (x.wires.getD k default)))))) rfl (.pure (.not _ _ rfl rfl)) rfl rfl ?_
          refine Ch.nil ?_
          refine T_cond (b := (!(wirS x k (x.wires.getD k default)))) rfl (fun h5 => ?_) (fun h5 => ?_)
          · replace h5 := nott h5
            refine T_seq ?_
            refine T_region hc ?_
            refine Ch.step (v := (.d (.bool false))) rfl (.pure (.assign _ rfl rfl)) rfl rfl ?_
            refine Ch.nil ?_
            refine T_ret ?_
            refine And.intro (.inr rfl) ?_
            exact Exists.intro [(.d (.bool false))] (Exists.intro [] (Exists.intro [] (And.intro (.cons (.tmp 2 rfl) .nil) (And.intro (.cons (.any _) .nil) (And.intro (Exp.of (congrArg D.bool (by first | (rw [netB_S, h1, hl3, allB_no k (by omega) (by first | (simp only [wirOkS, *, decide_true, decide_false, Bool.and_true, Bool.true_and, Bool.and_false, Bool.false_and, Bool.or_false, Bool.false_or, Bool.or_true, Bool.true_or, Bool.not_true, Bool.not_false, not_false_eq_true, Bool.false_eq_true, if_true, if_false, reduceIte, ite_true, ite_false]; done) | (simp only [wirOkS, *, decide_true, decide_false, Bool.and_true, Bool.true_and, Bool.and_false, Bool.false_and, Bool.or_false, Bool.false_or, Bool.or_true, Bool.true_or, Bool.not_true, Bool.not_false, not_false_eq_true, Bool.false_eq_true, if_true, if_false, reduceIte, ite_true, ite_false]; rfl) | (simp only [wirOkS]; simp_all; done))] <;> rfl) | (rw [netB_S, h1, hl3, allB_of (fun j hj => hp0.2 j (by omega))] <;> rfl) | (rw [netB_S, h1, hl1] <;> rfl) | (rw [netB_S, h1, hl2] <;> rfl) | (rw [netB_S, h1] <;> rfl))) (.d _)) (And.intro rfl rfl))))))
          · replace h5 := notf h5
            refine T_skip ?_
            refine T_seq ?_
            refine T_region hc ?_
            refine Ch.step (v := (.ptr 1000 1)) rfl (.pure (.fldPtr _ _ _ rfl fld44_1 rfl)) rfl rfl ?_
            refine Ch.step (v := (.d (.slice false 4 (x.wires.map Wir.d)))) rfl (.pure (.loadPtr1 _ _ rfl ag42 rfl rfl rfl)) rfl rfl ?_
            refine Ch.step (v := (.d (.int .i64 ((k : Nat) : Int)))) rfl (.pure (.move _ rfl rfl)) rfl rfl ?_
            refine Ch.step (v := (.d (.slice false 4 ((x.wires.take k).map Wir.d)))) rfl (.pure (.sliceSh _ _ _ _ 82 (0) (k) rfl Try.underlying42 sz82 rfl (bndN rfl) (bndS rfl rfl) (by simp <;> omega) (by simp <;> omega) (by simp [List.map_take, List.map_drop]))) rfl rfl ?_
            refine Ch.step (v := (.d (.int .i64 (((x.wires.take k).length : Nat) : Int)))) rfl (.pure (.len _ _ 82 rfl Try.underlying42 (.sh _ _) (by simp))) rfl rfl ?_
            refine Ch.step (v := (.d (.int .i64 0))) rfl (.pure (.move _ rfl rfl)) rfl rfl ?_
            refine Ch.nil ?_
            refine T_block ?_
            refine T_loop (ι := Nat) (fun m => { n := 55, sl := [(1, (.ptr 1000 0)), (4, (.ptr 4000 0)), (27, (.d (.slice false 4 (x.wires.map Wir.d)))), (28, (.d (.int .i64 ((x.wires.length : Nat) : Int)))), (29, (.d (.int .i64 ((k : Nat) : Int)))), (42, (.d (.slice false 4 ((x.wires.take k).map Wir.d)))), (43, (.d (.int .i64 (((x.wires.take k).length : Nat) : Int)))), (44, (.d (.int .i64 ((m : Nat) : Int))))], hp := [(1000, (some (.box [(.d (.slice false 2 (x.sigs.map Sgn.d))), (.d (.slice false 4 (x.wires.map Wir.d)))]))), (4000, (some (.box [(.d (.str ((x.wires.getD k default).name))), (.d (.int .i64 ((x.wires.getD k default).kind))), (.d (.slice false 2 (((x.wires.getD k default).ins).map Pin.d))), (.d (.slice false 1 (((x.wires.getD k default).cov).map D.str)))])))], pin := [] }) (fun m => m ≤ (x.wires.take k).length ∧ ∀ j, j < m → decide (((x.wires.take k).getD j default).name = (x.wires.getD k default).name) = false) (fun m => (x.wires.take k).length - m) ⟨0, ⟨by omega, fun j hj => by omega⟩, (Wk.of rfl rfl (And.intro rfl (And.intro rfl (And.intro rfl (And.intro rfl (And.intro rfl (And.intro rfl (And.intro rfl (And.intro (vI (by first | rfl | omega | (simp; done) | (simp; omega))) trivial)))))))) (And.intro rfl (And.intro rfl trivial)))⟩ (fun m hp1 => ?_)
            have hlt : (x.wires.take k).length = k := by simp; omega
            refine T_seq ?_
            refine T_region hc ?_
            refine Ch.step (v := (.d (.bool (decide (((m : Nat) : Int) < (((x.wires.take k).length : Nat) : Int)))))) rfl (.pure (.int _ _ _ _ _ rfl rfl rfl rfl)) rfl rfl ?_
            refine Ch.nil ?_
            refine T_seq ?_
            refine T_cond (b := (decide (((m : Nat) : Int) < (((x.wires.take k).length : Nat) : Int)))) rfl (fun h6 => ?_) (fun h6 => ?_)
            · replace h6 := of_decide_eq_true h6
              refine T_skip ?_
              refine T_seq ?_
              refine T_block ?_
              refine T_seq ?_
              refine T_region hc ?_
              refine Ch.step (v := (.d (.ref (.agg [(.str (((x.wires.take k).getD m default).name)), (.int .i64 (((x.wires.take k).getD m default).kind)), (.slice false 2 ((((x.wires.take k).getD m default).ins).map Pin.d)), (.slice false 1 ((((x.wires.take k).getD m default).cov).map D.str))])))) rfl (.pure (.idx _ _ _ 82 (m) rfl Try.underlying42 sz82 rfl rfl rfl (get_map _ (by first | omega | (simp only [List.length_map, List.length_append, List.length_take, List.length_drop, List.length_cons, List.length_nil]; omega) | (simp; omega) | (simp; done))))) rfl rfl ?_
              refine Ch.step (v := (.d (.agg [(.str (((x.wires.take k).getD m default).name)), (.int .i64 (((x.wires.take k).getD m default).kind)), (.slice false 2 ((((x.wires.take k).getD m default).ins).map Pin.d)), (.slice false 1 ((((x.wires.take k).getD m default).cov).map D.str))]))) rfl (.pure (.loadRefA _ _ rfl ag82 sz82 rfl)) rfl rfl ?_
              refine Ch.step (v := (.ptr 6000 0)) rfl (.alloc 6000 _ rfl zer82) rfl rfl ?_
              refine Ch.step (v := .junk) rfl (.storePtr _ _ _ rfl rfl rfl (.aggD _) sz82 (Nat.le_of_ble_eq_true rfl)) rfl rfl ?_
              refine Ch.nil ?_
              refine T_seq ?_
              refine T_region hc ?_
              refine Ch.step (v := (.ptr 6000 0)) rfl (.pure (.fldPtr _ _ _ rfl fld82_0 rfl)) rfl rfl ?_
              refine Ch.step (v := (.d (.str (((x.wires.take k).getD m default).name)))) rfl (.pure (.loadPtr1 _ _ rfl ag9 rfl rfl rfl)) rfl rfl ?_
              refine Ch.step (v := (.ptr 4000 0)) rfl (.pure (.fldPtr _ _ _ rfl fld82_0 rfl)) rfl rfl ?_
              refine Ch.step (v := (.d (.str ((x.wires.getD k default).name)))) rfl (.pure (.loadPtr1 _ _ rfl ag9 rfl rfl rfl)) rfl rfl ?_
              refine Ch.step (v := (.d (.bool (decide ((((x.wires.take k).getD m default).name) = ((x.wires.getD k default).name)))))) rfl (.pure (.str _ _ _ _ _ rfl rfl rfl rfl)) rfl rfl ?_
              refine Ch.nil ?_
              refine T_cond (b := (decide ((((x.wires.take k).getD m default).name) = ((x.wires.getD k default).name)))) rfl (fun h7 => ?_) (fun h7 => ?_)
              · replace h7 := of_decide_eq_true h7
                try have hno := no_yes (by omega) h7
                refine T_seq ?_
                refine T_region hc ?_
                refine Ch.step (v := (.d (.bool false))) rfl (.pure (.assign _ rfl rfl)) rfl rfl ?_
                refine Ch.nil ?_
                refine T_ret ?_
                refine And.intro (.inr rfl) ?_
                exact Exists.intro [(.d (.bool false))] (Exists.intro [] (Exists.intro [] (And.intro (.cons (.tmp 2 rfl) .nil) (And.intro (.cons (.any _) .nil) (And.intro (Exp.of (congrArg D.bool (by first | (rw [netB_S, h1, hl3, allB_no k (by omega) (by first | (simp only [wirOkS, *, decide_true, decide_false, Bool.and_true, Bool.true_and, Bool.and_false, Bool.false_and, Bool.or_false, Bool.false_or, Bool.or_true, Bool.true_or, Bool.not_true, Bool.not_false, not_false_eq_true, Bool.false_eq_true, if_true, if_false, reduceIte, ite_true, ite_false]; done) | (simp only [wirOkS, *, decide_true, decide_false, Bool.and_true, Bool.true_and, Bool.and_false, Bool.false_and, Bool.or_false, Bool.false_or, Bool.or_true, Bool.true_or, Bool.not_true, Bool.not_false, not_false_eq_true, Bool.false_eq_true, if_true, if_false, reduceIte, ite_true, ite_false]; rfl) | (simp only [wirOkS]; simp_all; done))] <;> rfl) | (rw [netB_S, h1, hl3, allB_of (fun j hj => hp0.2 j (by omega))] <;> rfl) | (rw [netB_S, h1, hl1] <;> rfl) | (rw [netB_S, h1, hl2] <;> rfl) | (rw [netB_S, h1] <;> rfl))) (.d _)) (And.intro rfl rfl))))))
              · replace h7 := of_decide_eq_false h7
                try have hno := no_yes (by omega) h7
                refine T_skip ?_
                refine T_region hc ?_
                refine Ch.step (v := (.d (.int .i64 (((m : Nat) : Int) + 1)))) rfl (.pure (.int _ _ _ _ _ rfl rfl rfl (intV_add (by first | omega | (simp only [List.length_map, List.length_append, List.length_take, List.length_drop, List.length_cons, List.length_nil]; omega) | (simp; omega) | (simp; done)) (by first | omega | (simp only [List.length_map, List.length_append, List.length_take, List.length_drop, List.length_cons, List.length_nil]; omega) | (simp; omega) | (simp; done))))) rfl rfl ?_
                refine Ch.step (v := (.d (.int .i64 (((m : Nat) : Int) + 1)))) rfl (.pure (.move _ rfl rfl)) rfl rfl ?_
                refine Ch.nil ?_
                refine Exists.intro (m + 1) (And.intro ⟨by omega, upto_succ hp1.2 (by first | (exact decide_eq_false (by assumption)) | (simp_all; done))⟩ (And.intro (by first | omega | (dsimp only; omega)) (Wk.of rfl rfl (And.intro rfl (And.intro rfl (And.intro rfl (And.intro rfl (And.intro rfl (And.intro rfl (And.intro rfl (And.intro (vI (by first | rfl | omega | (simp; done) | (simp; omega))) trivial)))))))) (And.intro rfl (And.intro rfl trivial)))))
            · replace h6 := of_decide_eq_false h6
              refine T_exit ?_
              refine T_region hc ?_
              refine Ch.step (v := (.d (.int .i64 (((k : Nat) : Int) + 1)))) rfl (.pure (.int _ _ _ _ _ rfl rfl rfl (intV_add (by first | omega | (simp only [List.length_map, List.length_append, List.length_take, List.length_drop, List.length_cons, List.length_nil]; omega) | (simp; omega) | (simp; done)) (by first | omega | (simp only [List.length_map, List.length_append, List.length_take, List.length_drop, List.length_cons, List.length_nil]; omega) | (simp; omega) | (simp; done))))) rfl rfl ?_
              refine Ch.step (v := (.d (.int .i64 (((k : Nat) : Int) + 1)))) rfl (.pure (.move _ rfl rfl)) rfl rfl ?_
              refine Ch.nil ?_
              refine Exists.intro (k + 1) (And.intro ⟨by omega, upto_succ hp0.2 (by first | (rw [wirOkS, no_none (by omega) hp1.2]; simp_all; done) | (first | (simp only [wirOkS, *, decide_true, decide_false, Bool.and_true, Bool.true_and, Bool.and_false, Bool.false_and, Bool.or_false, Bool.false_or, Bool.or_true, Bool.true_or, Bool.not_true, Bool.not_false, not_false_eq_true, Bool.false_eq_true, if_true, if_false, reduceIte, ite_true, ite_false]; done) | (simp only [wirOkS, *, decide_true, decide_false, Bool.and_true, Bool.true_and, Bool.and_false, Bool.false_and, Bool.or_false, Bool.false_or, Bool.or_true, Bool.true_or, Bool.not_true, Bool.not_false, not_false_eq_true, Bool.false_eq_true, if_true, if_false, reduceIte, ite_true, ite_false]; rfl) | (simp only [wirOkS]; simp_all; done)))⟩ (And.intro (by first | omega | (dsimp only; omega)) (Wk.of rfl rfl (And.intro rfl (And.intro rfl (And.intro rfl (And.intro (vI (by first | rfl | omega | (simp; done) | (simp; omega))) trivial)))) (And.intro rfl trivial))))
        · replace h4 := of_decide_eq_false h4
          try have hkw : (x.wires.getD k default).bulk ≤ 1048576 := bulkF_mem hp1 _ (getD_mem (l := x.wires) (j := k) (d := default) (by omega))
          try have hwp := Wir.parts hkw
          try have hnm : (x.wires.getD k default).name.length ≤ 1048576 := hwp.1
          try have hin := bulkF_len hwp.2.1
          refine T_exit ?_
          refine T_seq ?_
          refine T_region hc ?_
          refine Ch.step (v := (.d (.bool true))) rfl (.pure (.assign _ rfl rfl)) rfl rfl ?_
          refine Ch.nil ?_
          refine T_ret ?_
          refine And.intro (.inr rfl) ?_
          exact Exists.intro [(.d (.bool true))] (Exists.intro [] (Exists.intro [] (And.intro (.cons (.tmp 2 rfl) .nil) (And.intro (.cons (.any _) .nil) (And.intro (Exp.of (congrArg D.bool (by first | (rw [netB_S, h1, hl3, allB_no k (by omega) (by first | (simp only [wirOkS, *, decide_true, decide_false, Bool.and_true, Bool.true_and, Bool.and_false, Bool.false_and, Bool.or_false, Bool.false_or, Bool.or_true, Bool.true_or, Bool.not_true, Bool.not_false, not_false_eq_true, Bool.false_eq_true, if_true, if_false, reduceIte, ite_true, ite_false]; done) | (simp only [wirOkS, *, decide_true, decide_false, Bool.and_true, Bool.true_and, Bool.and_false, Bool.false_and, Bool.or_false, Bool.false_or, Bool.or_true, Bool.true_or, Bool.not_true, Bool.not_false, not_false_eq_true, Bool.false_eq_true, if_true, if_false, reduceIte, ite_true, ite_false]; rfl) | (simp only [wirOkS]; simp_all; done))] <;> rfl) | (rw [netB_S, h1, hl3, allB_of (fun j hj => hp0.2 j (by omega))] <;> rfl) | (rw [netB_S, h1, hl1] <;> rfl) | (rw [netB_S, h1, hl2] <;> rfl) | (rw [netB_S, h1] <;> rfl))) (.d _)) (And.intro rfl rfl))))))
  | false =>
    refine Ch.skip rfl rfl ?_
    refine Ch.skip rfl rfl ?_
    refine Ch.skip rfl rfl ?_
    refine Ch.skip rfl rfl ?_
    refine Ch.skip rfl rfl ?_
    refine Ch.skip rfl rfl ?_
    refine Ch.skip rfl rfl ?_
    refine Ch.step (v := (.d (.bool true))) rfl (.pure (.pickT _ _ _ rfl rfl rfl)) rfl rfl ?_
    refine Ch.step (v := (.d (.bool true))) rfl (.pure (.move _ rfl rfl)) rfl rfl ?_
    refine Ch.skip rfl rfl ?_
    refine Ch.skip rfl rfl ?_
    refine Ch.skip rfl rfl ?_
    refine Ch.skip rfl rfl ?_
    refine Ch.step (v := (.d (.bool true))) rfl (.pure (.pickT _ _ _ rfl rfl rfl)) rfl rfl ?_
    refine Ch.nil ?_
    refine T_cond (b := true) rfl (fun _ => ?_) (fun h => nomatch h)
    refine T_seq ?_
    refine T_region hc ?_
    refine Ch.step (v := (.d (.bool false))) rfl (.pure (.assign _ rfl rfl)) rfl rfl ?_
    refine Ch.nil ?_
    refine T_ret ?_
    refine And.intro (.inr rfl) ?_
    exact Exists.intro [(.d (.bool false))] (Exists.intro [] (Exists.intro [] (And.intro (.cons (.tmp 2 rfl) .nil) (And.intro (.cons (.any _) .nil) (And.intro (Exp.of (congrArg D.bool (by first | (rw [netB_S, h1, hl3, allB_no k (by omega) (by first | (simp only [wirOkS, *, decide_true, decide_false, Bool.and_true, Bool.true_and, Bool.and_false, Bool.false_and, Bool.or_false, Bool.false_or, Bool.or_true, Bool.true_or, Bool.not_true, Bool.not_false, not_false_eq_true, Bool.false_eq_true, if_true, if_false, reduceIte, ite_true, ite_false]; done) | (simp only [wirOkS, *, decide_true, decide_false, Bool.and_true, Bool.true_and, Bool.and_false, Bool.false_and, Bool.or_false, Bool.false_or, Bool.or_true, Bool.true_or, Bool.not_true, Bool.not_false, not_false_eq_true, Bool.false_eq_true, if_true, if_false, reduceIte, ite_true, ite_false]; rfl) | (simp only [wirOkS]; simp_all; done))] <;> rfl) | (rw [netB_S, h1, hl3, allB_of (fun j hj => hp0.2 j (by omega))] <;> rfl) | (rw [netB_S, h1, hl1] <;> rfl) | (rw [netB_S, h1, hl2] <;> rfl) | (rw [netB_S, h1] <;> rfl))) (.d _)) (And.intro rfl rfl))))))

def pinsOf (w : Wir) : Nat := w.ins.length

def pinsN (x : Ntl) : Int := if netB x then ((sumF pinsOf x.wires x.wires.length : Nat) : Int) else 0

theorem pinsOf_le (xs : List Wir) (k : Nat) : sumF pinsOf xs k ≤ (xs.map Wir.bulk).sum := by
  refine Nat.le_trans (sumF_le pinsOf xs k) ?_
  induction xs with
  | nil => exact Nat.le_refl _
  | cons w xs ih =>
    rw [List.map_cons, List.map_cons, List.sum_cons, List.sum_cons]
    have := bulkF_len (f := Pin.bulk) (xs := w.ins) (n := w.bulk) (Wir.parts (Nat.le_refl _)).2.1
    unfold pinsOf at *
    omega

theorem pinsOf_bd {x : Ntl} (h : bulkF Wir.bulk x.wires ≤ 1048576) (k : Nat) : sumF pinsOf x.wires k ≤ 1048576 := by
  have := pinsOf_le x.wires k
  unfold bulkF at h; omega

theorem sp_spec_CountPins (x : Ntl) (hb : x.bulk ≤ 1048576) : Sp Try.prog 53 [(.agg [(.slice false 2 (x.sigs.map Sgn.d)), (.slice false 4 (x.wires.map Wir.d))])] [.any] (.tup [(.int .i64 (pinsN x)), (.bool (netB x))]) := by
  refine Sp_intro (lend := true) Try.func53 rfl rfl rfl (fun _ => rfl) (fun c hc hX => ?_)
  obtain ⟨hp0, hp1⟩ := Ntl.parts hb
  have hn0 := bulkF_len hp0
  have hn1 := bulkF_len hp1
  refine T_seq ?_
  refine T_region hc ?_
  refine Ch.step (v := (.ptr 1000 0)) rfl (.box 1000 _ _ rfl (.aggD _)) rfl rfl ?_
  refine Ch.step (v := (.d (.int .i64 0))) rfl (.pure (.assign _ rfl rfl)) rfl rfl ?_
  refine Ch.step (v := (.d (.bool false))) rfl (.pure (.assign _ rfl rfl)) rfl rfl ?_
  refine Ch.nil ?_
  refine T_seq ?_
  refine T_seq ?_
  refine T_region hc ?_
  refine Ch.step (v := (.agg [(.d (.slice false 2 (x.sigs.map Sgn.d))), (.d (.slice false 4 (x.wires.map Wir.d)))])) rfl (.pure (.loadPtrA _ _ rfl ag44 sz44 rfl rfl (Nat.le_of_ble_eq_true rfl) rfl)) rfl rfl ?_
  refine Ch.step (v := (.d (.bool (netB x)))) rfl (.call 8000 107 _ _ _ en107 rfl (.inl rfl) (.cons (.lend (.agg (.cons (.d _) (.cons (.d _) .nil)) rfl)) .nil) rfl rfl (sp_spec_l19Good x (by first | assumption | omega | (rw [List.length_take]; omega) | (have := bulkF_mem hb _ (getD_mem (d := default) (by omega)); assumption) | (unfold bulkS at *; omega) | (simp_all; done))) (.skip _ _ .nil) rfl) rfl rfl ?_
  refine Ch.step (v := (.d (.bool (!(netB x))))) rfl (.pure (.not _ _ rfl rfl)) rfl rfl ?_
  refine Ch.nil ?_
  refine T_cond (b := (!(netB x))) rfl (fun h1 => ?_) (fun h1 => ?_)
  · replace h1 := nott h1
    refine T_seq ?_
    refine T_region hc ?_
    refine Ch.step (v := (.d (.int .i64 0))) rfl (.pure (.assign _ rfl rfl)) rfl rfl ?_
    refine Ch.step (v := (.d (.bool false))) rfl (.pure (.assign _ rfl rfl)) rfl rfl ?_
    refine Ch.nil ?_
    refine T_ret ?_
    refine And.intro (.inr rfl) ?_
    exact Exists.intro [(.d (.int .i64 0)), (.d (.bool false))] (Exists.intro [] (Exists.intro [] (And.intro (.cons (.tmp 2 rfl) (.cons (.tmp 3 rfl) .nil)) (And.intro (.cons (.any _) .nil) (And.intro (.tup (.cons (Exp.of (congrArg (D.int .i64) (by first | (rw [pinsN, h1]; rfl) | (rw [pinsN, h1, if_pos rfl, show x.wires.length = k by omega]) | (rw [pinsN, if_pos h1, show x.wires.length = k by omega]) | (rw [h1]))) (.d _)) (.cons (Exp.of (congrArg D.bool (by first | (rw [pinsN, h1]; rfl) | (rw [pinsN, h1, if_pos rfl, show x.wires.length = k by omega]) | (rw [pinsN, if_pos h1, show x.wires.length = k by omega]) | (rw [h1]))) (.d _)) .nil))) (And.intro rfl rfl))))))
  · replace h1 := notf h1
    refine T_skip ?_
    refine T_seq ?_
    refine T_region hc ?_
    refine Ch.step (v := (.d (.int .i64 0))) rfl (.pure (.assign _ rfl rfl)) rfl rfl ?_
    refine Ch.nil ?_
    refine T_seq ?_
    refine T_seq ?_
    refine T_region hc ?_
    refine Ch.step (v := (.ptr 1000 1)) rfl (.pure (.fldPtr _ _ _ rfl fld44_1 rfl)) rfl rfl ?_
    refine Ch.step (v := (.d (.slice false 4 (x.wires.map Wir.d)))) rfl (.pure (.loadPtr1 _ _ rfl ag42 rfl rfl rfl)) rfl rfl ?_
    refine Ch.step (v := (.d (.int .i64 ((x.wires.length : Nat) : Int)))) rfl (.pure (.len _ _ 82 rfl Try.underlying42 (.sh _ _) (by simp))) rfl rfl ?_
    refine Ch.step (v := (.d (.int .i64 0))) rfl (.pure (.move _ rfl rfl)) rfl rfl ?_
    refine Ch.nil ?_
    refine T_block ?_
    refine T_loop (ι := Nat) (fun k => { n := 24, sl := [(4, (.d (.int .i64 ((sumF pinsOf x.wires k : Nat) : Int)))), (11, (.d (.slice false 4 (x.wires.map Wir.d)))), (12, (.d (.int .i64 ((x.wires.length : Nat) : Int)))), (13, (.d (.int .i64 ((k : Nat) : Int))))], hp := [], pin := [] }) (fun k => k ≤ x.wires.length) (fun k => x.wires.length - k) ⟨0, (by omega), (Wk.of rfl rfl (And.intro (vI (by first | (rw [sumF_zero]; rfl) | (rw [sumF_succ pinsOf (by omega)]; rfl) | (rw [sumF_succ pinsOf (by omega), pinsOf]; omega))) (And.intro rfl (And.intro rfl (And.intro (vI (by first | rfl | omega | (simp; done) | (simp; omega))) trivial)))) trivial)⟩ (fun k hp0 => ?_)
    have hs := pinsOf_bd hp1 k; have hs1 := sumF_succ pinsOf (xs := x.wires) (k := k)
    refine T_seq ?_
    refine T_region hc ?_
    refine Ch.step (v := (.d (.bool (decide (((k : Nat) : Int) < ((x.wires.length : Nat) : Int)))))) rfl (.pure (.int _ _ _ _ _ rfl rfl rfl rfl)) rfl rfl ?_
    refine Ch.nil ?_
    refine T_seq ?_
    refine T_cond (b := (decide (((k : Nat) : Int) < ((x.wires.length : Nat) : Int)))) rfl (fun h2 => ?_) (fun h2 => ?_)
    · replace h2 := of_decide_eq_true h2
      try have hkw : (x.wires.getD k default).bulk ≤ 1048576 := bulkF_mem hp1 _ (getD_mem (l := x.wires) (j := k) (d := default) (by omega))
      try have hwp := Wir.parts hkw
      try have hnm : (x.wires.getD k default).name.length ≤ 1048576 := hwp.1
      try have hin := bulkF_len hwp.2.1
      refine T_skip ?_
      refine T_seq ?_
      refine T_block ?_
      refine T_seq ?_
      refine T_region hc ?_
      refine Ch.step (v := (.d (.ref (.agg [(.str ((x.wires.getD k default).name)), (.int .i64 ((x.wires.getD k default).kind)), (.slice false 2 (((x.wires.getD k default).ins).map Pin.d)), (.slice false 1 (((x.wires.getD k default).cov).map D.str))])))) rfl (.pure (.idx _ _ _ 82 (k) rfl Try.underlying42 sz82 rfl rfl rfl (get_map _ (by first | omega | (simp only [List.length_map, List.length_append, List.length_take, List.length_drop, List.length_cons, List.length_nil]; omega) | (simp; omega) | (simp; done))))) rfl rfl ?_
      refine Ch.step (v := (.d (.agg [(.str ((x.wires.getD k default).name)), (.int .i64 ((x.wires.getD k default).kind)), (.slice false 2 (((x.wires.getD k default).ins).map Pin.d)), (.slice false 1 (((x.wires.getD k default).cov).map D.str))]))) rfl (.pure (.loadRefA _ _ rfl ag82 sz82 rfl)) rfl rfl ?_
      refine Ch.step (v := (.ptr 6000 0)) rfl (.alloc 6000 _ rfl zer82) rfl rfl ?_
      refine Ch.step (v := .junk) rfl (.storePtr _ _ _ rfl rfl rfl (.aggD _) sz82 (Nat.le_of_ble_eq_true rfl)) rfl rfl ?_
      refine Ch.nil ?_
      refine T_region hc ?_
      refine Ch.step (v := (.d (.int .i64 ((sumF pinsOf x.wires k : Nat) : Int)))) rfl (.pure (.move _ rfl rfl)) rfl rfl ?_
      refine Ch.step (v := (.ptr 6000 2)) rfl (.pure (.fldPtr _ _ _ rfl fld82_2 rfl)) rfl rfl ?_
      refine Ch.step (v := (.d (.slice false 2 (((x.wires.getD k default).ins).map Pin.d)))) rfl (.pure (.loadPtr1 _ _ rfl ag80 rfl rfl rfl)) rfl rfl ?_
      refine Ch.step (v := (.d (.int .i64 ((((x.wires.getD k default).ins).length : Nat) : Int)))) rfl (.pure (.len _ _ 89 rfl Try.underlying80 (.sh _ _) (by simp))) rfl rfl ?_
      refine Ch.step (v := (.d (.int .i64 (((sumF pinsOf x.wires k : Nat) : Int) + ((((x.wires.getD k default).ins).length : Nat) : Int))))) rfl (.pure (.int _ _ _ _ _ rfl rfl rfl (intV_add (by first | omega | (simp only [List.length_map, List.length_append, List.length_take, List.length_drop, List.length_cons, List.length_nil]; omega) | (simp; omega) | (simp; done)) (by first | omega | (simp only [List.length_map, List.length_append, List.length_take, List.length_drop, List.length_cons, List.length_nil]; omega) | (simp; omega) | (simp; done))))) rfl rfl ?_
      refine Ch.step (v := (.d (.int .i64 (((sumF pinsOf x.wires k : Nat) : Int) + ((((x.wires.getD k default).ins).length : Nat) : Int))))) rfl (.pure (.assign _ rfl rfl)) rfl rfl ?_
      refine Ch.nil ?_
      refine T_region hc ?_
      refine Ch.step (v := (.d (.int .i64 (((k : Nat) : Int) + 1)))) rfl (.pure (.int _ _ _ _ _ rfl rfl rfl (intV_add (by first | omega | (simp only [List.length_map, List.length_append, List.length_take, List.length_drop, List.length_cons, List.length_nil]; omega) | (simp; omega) | (simp; done)) (by first | omega | (simp only [List.length_map, List.length_append, List.length_take, List.length_drop, List.length_cons, List.length_nil]; omega) | (simp; omega) | (simp; done))))) rfl rfl ?_
      refine Ch.step (v := (.d (.int .i64 (((k : Nat) : Int) + 1)))) rfl (.pure (.move _ rfl rfl)) rfl rfl ?_
      refine Ch.nil ?_
      refine Exists.intro (k + 1) (And.intro (by omega) (And.intro (by first | omega | (dsimp only; omega)) (Wk.of rfl rfl (And.intro (vI (by first | (rw [sumF_zero]; rfl) | (rw [sumF_succ pinsOf (by omega)]; rfl) | (rw [sumF_succ pinsOf (by omega), pinsOf]; omega))) (And.intro rfl (And.intro rfl (And.intro (vI (by first | rfl | omega | (simp; done) | (simp; omega))) trivial)))) trivial)))
    · replace h2 := of_decide_eq_false h2
      try have hkw : (x.wires.getD k default).bulk ≤ 1048576 := bulkF_mem hp1 _ (getD_mem (l := x.wires) (j := k) (d := default) (by omega))
      try have hwp := Wir.parts hkw
      try have hnm : (x.wires.getD k default).name.length ≤ 1048576 := hwp.1
      try have hin := bulkF_len hwp.2.1
      refine T_exit ?_
      refine T_seq ?_
      refine T_region hc ?_
      refine Ch.step (v := (.d (.int .i64 ((sumF pinsOf x.wires k : Nat) : Int)))) rfl (.pure (.move _ rfl rfl)) rfl rfl ?_
      refine Ch.step (v := (.d (.int .i64 ((sumF pinsOf x.wires k : Nat) : Int)))) rfl (.pure (.assign _ rfl rfl)) rfl rfl ?_
      refine Ch.step (v := (.d (.bool true))) rfl (.pure (.assign _ rfl rfl)) rfl rfl ?_
      refine Ch.nil ?_
      refine T_ret ?_
      refine And.intro (.inr rfl) ?_
      exact Exists.intro [(.d (.int .i64 ((sumF pinsOf x.wires k : Nat) : Int))), (.d (.bool true))] (Exists.intro [] (Exists.intro [] (And.intro (.cons (.tmp 2 rfl) (.cons (.tmp 3 rfl) .nil)) (And.intro (.cons (.any _) .nil) (And.intro (.tup (.cons (Exp.of (congrArg (D.int .i64) (by first | (rw [pinsN, h1]; rfl) | (rw [pinsN, h1, if_pos rfl, show x.wires.length = k by omega]) | (rw [pinsN, if_pos h1, show x.wires.length = k by omega]) | (rw [h1]))) (.d _)) (.cons (Exp.of (congrArg D.bool (by first | (rw [pinsN, h1]; rfl) | (rw [pinsN, h1, if_pos rfl, show x.wires.length = k by omega]) | (rw [pinsN, if_pos h1, show x.wires.length = k by omega]) | (rw [h1]))) (.d _)) .nil))) (And.intro rfl rfl))))))

end Go.AM
