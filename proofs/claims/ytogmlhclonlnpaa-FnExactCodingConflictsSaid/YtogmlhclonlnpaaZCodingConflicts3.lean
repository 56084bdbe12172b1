/-
  The contracts that the law FnExactCodingConflicts needs.
-/
import Derived.Test.YtogmlhclonlnpaaZCodingConflicts2
namespace Go.AM
open Go.Proofs
set_option linter.unusedVariables false
set_option linter.unusedSimpArgs false

set_option maxHeartbeats 2000000 in
theorem sp_spec_l5Arc (x : Sgr) (a : Arc) (hb : x.bulk ≤ 1048576) (h8 : x.sigs.length ≤ 8) (hcl : allOf x.codes (fun u => codeN u (x.sigs.length : Int)) = true) : Sp Try.prog 70 [(.agg [(.slice false 2 (x.sigs.map Sgn.d)), (.slice false 1 (x.codes.map D.str)), (.slice false 4 (x.arcs.map Arc.d))]), (.agg [(.int .i64 a.src), (.int .i64 a.sig), (.bool (a.up)), (.int .i64 a.dst)])] [.any, .any] (.bool (arcB x a)) := by
  refine Sp_intro (lend := true) Try.func70 rfl rfl rfl (fun _ => rfl) (fun c hc hX => ?_)
  obtain ⟨hp0, hp1, hp2⟩ := Sgr.parts hb
  have hn0 := bulkF_len hp0
  have hn1 := bulk_len hp1
  have hx1 := bulk_mem hp1
  have hn2 := bulkF_len hp2; have hca := codes_at hcl
  refine T_seq ?_
  refine T_region hc ?_
  refine Ch.step (v := (.ptr 2000 0)) rfl (.box 2000 _ _ rfl (.aggD _)) rfl rfl ?_
  refine Ch.step (v := (.ptr 3000 0)) rfl (.box 3000 _ _ rfl (.aggD _)) rfl rfl ?_
  refine Ch.step (v := (.d (.bool false))) rfl (.pure (.assign _ rfl rfl)) rfl rfl ?_
  refine Ch.nil ?_
  refine T_seq ?_
  refine T_seq ?_
  refine T_region hc ?_
  refine Ch.step (v := (.ptr 3000 0)) rfl (.pure (.fldPtr _ _ _ rfl fld85_0 rfl)) rfl rfl ?_
  refine Ch.step (v := (.d (.int .i64 a.src))) rfl (.pure (.loadPtr1 _ _ rfl ag3 rfl rfl rfl)) rfl rfl ?_
  refine Ch.step (v := (.ptr 2000 1)) rfl (.pure (.fldPtr _ _ _ rfl fld34_1 rfl)) rfl rfl ?_
  refine Ch.step (v := (.d (.slice false 1 (x.codes.map D.str)))) rfl (.pure (.loadPtr1 _ _ rfl ag23 rfl rfl rfl)) rfl rfl ?_
  refine Ch.step (v := (.d (.int .i64 ((x.codes.length : Nat) : Int)))) rfl (.pure (.len _ _ 9 rfl Try.underlying23 (.sh _ _) (by simp))) rfl rfl ?_
  refine Ch.step (v := (.d (.int .i64 (((x.codes.length : Nat) : Int) - 1)))) rfl (.pure (.int _ _ _ _ _ rfl rfl rfl (intV_sub (by first | omega | (simp only [List.length_map, List.length_append, List.length_take, List.length_drop, List.length_cons, List.length_nil]; omega) | (simp; omega) | (simp; done)) (by first | omega | (simp only [List.length_map, List.length_append, List.length_take, List.length_drop, List.length_cons, List.length_nil]; omega) | (simp; omega) | (simp; done))))) rfl rfl ?_
  refine Ch.step (v := (.d (.bool (withinB a.src 0 (((x.codes.length : Nat) : Int) - 1))))) rfl (.call 13000 68 _ _ _ en68 rfl (.inl rfl) (.cons (.d _) (.cons (.d _) (.cons (.d _) .nil))) rfl rfl (sp_spec_l1In a.src 0 (((x.codes.length : Nat) : Int) - 1)) (.skip _ _ (.skip _ _ (.skip _ _ .nil))) rfl) rfl rfl ?_
  refine Ch.step (v := (.d (.bool (!(withinB a.src 0 (((x.codes.length : Nat) : Int) - 1)))))) rfl (.pure (.not _ _ rfl rfl)) rfl rfl ?_
  refine Ch.step (v := (.d (.bool (!(withinB a.src 0 (((x.codes.length : Nat) : Int) - 1)))))) rfl (.pure (.move _ rfl rfl)) rfl rfl ?_
  cases h1 : (withinB a.src 0 (((x.codes.length : Nat) : Int) - 1)) with
  | true =>
    try have hw1 := within_two h1
    refine Ch.step (v := (.ptr 3000 3)) rfl (.pure (.fldPtr _ _ _ rfl fld85_3 rfl)) rfl rfl ?_
    refine Ch.step (v := (.d (.int .i64 a.dst))) rfl (.pure (.loadPtr1 _ _ rfl ag3 rfl rfl rfl)) rfl rfl ?_
    refine Ch.step (v := (.ptr 2000 1)) rfl (.pure (.fldPtr _ _ _ rfl fld34_1 rfl)) rfl rfl ?_
    refine Ch.step (v := (.d (.slice false 1 (x.codes.map D.str)))) rfl (.pure (.loadPtr1 _ _ rfl ag23 rfl rfl rfl)) rfl rfl ?_
    refine Ch.step (v := (.d (.int .i64 ((x.codes.length : Nat) : Int)))) rfl (.pure (.len _ _ 9 rfl Try.underlying23 (.sh _ _) (by simp))) rfl rfl ?_
    refine Ch.step (v := (.d (.int .i64 (((x.codes.length : Nat) : Int) - 1)))) rfl (.pure (.int _ _ _ _ _ rfl rfl rfl (intV_sub (by first | omega | (simp only [List.length_map, List.length_append, List.length_take, List.length_drop, List.length_cons, List.length_nil]; omega) | (simp; omega) | (simp; done)) (by first | omega | (simp only [List.length_map, List.length_append, List.length_take, List.length_drop, List.length_cons, List.length_nil]; omega) | (simp; omega) | (simp; done))))) rfl rfl ?_
    refine Ch.step (v := (.d (.bool (withinB a.dst 0 (((x.codes.length : Nat) : Int) - 1))))) rfl (.call 22000 68 _ _ _ en68 rfl (.inl rfl) (.cons (.d _) (.cons (.d _) (.cons (.d _) .nil))) rfl rfl (sp_spec_l1In a.dst 0 (((x.codes.length : Nat) : Int) - 1)) (.skip _ _ (.skip _ _ (.skip _ _ .nil))) rfl) rfl rfl ?_
    refine Ch.step (v := (.d (.bool (!(withinB a.dst 0 (((x.codes.length : Nat) : Int) - 1)))))) rfl (.pure (.not _ _ rfl rfl)) rfl rfl ?_
    refine Ch.step (v := (.d (.bool (!(withinB a.dst 0 (((x.codes.length : Nat) : Int) - 1)))))) rfl (.pure (.pickF _ _ _ rfl rfl rfl)) rfl rfl ?_
    refine Ch.step (v := (.d (.bool (!(withinB a.dst 0 (((x.codes.length : Nat) : Int) - 1)))))) rfl (.pure (.move _ rfl rfl)) rfl rfl ?_
    cases h2 : (withinB a.dst 0 (((x.codes.length : Nat) : Int) - 1)) with
    | true =>
      try have hw2 := within_two h2
      try have hl1 := hca a.src (by omega) (by omega)
      try have hl2 := hca a.dst (by omega) (by omega)
      try have hl3 := hl1.2
      try have hl4 := hl2.2
      try unfold codeAt at hl3 hl4
      refine Ch.step (v := (.ptr 3000 1)) rfl (.pure (.fldPtr _ _ _ rfl fld85_1 rfl)) rfl rfl ?_
      refine Ch.step (v := (.d (.int .i64 a.sig))) rfl (.pure (.loadPtr1 _ _ rfl ag3 rfl rfl rfl)) rfl rfl ?_
      refine Ch.step (v := (.ptr 3000 2)) rfl (.pure (.fldPtr _ _ _ rfl fld85_2 rfl)) rfl rfl ?_
      refine Ch.step (v := (.d (.bool (a.up)))) rfl (.pure (.loadPtr1 _ _ rfl ag4 rfl rfl rfl)) rfl rfl ?_
      refine Ch.step (v := (.agg [(.d (.int .i64 a.sig)), (.d (.bool (a.up)))])) rfl (.build _ _ rfl stru46 (.cons (.one _ rfl) (.cons (.one _ rfl) .nil)) rfl) rfl rfl ?_
      refine Ch.step (v := (.ptr 2000 0)) rfl (.pure (.fldPtr _ _ _ rfl fld34_0 rfl)) rfl rfl ?_
      refine Ch.step (v := (.d (.slice false 2 (x.sigs.map Sgn.d)))) rfl (.pure (.loadPtr1 _ _ rfl ag31 rfl rfl rfl)) rfl rfl ?_
      refine Ch.step (v := (.d (.int .i64 ((x.sigs.length : Nat) : Int)))) rfl (.pure (.len _ _ 88 rfl Try.underlying31 (.sh _ _) (by simp))) rfl rfl ?_
      refine Ch.step (v := (.d (.bool (edgeB (Lab.mk a.sig a.up) ((x.sigs.length : Nat) : Int))))) rfl (.call 34000 105 _ _ _ en105 rfl (.inl rfl) (.cons (.lend (.agg (.cons (.d _) (.cons (.d _) .nil)) rfl)) (.cons (.d _) .nil)) rfl rfl (sp_spec_l2Label (Lab.mk a.sig a.up) ((x.sigs.length : Nat) : Int) (by first | assumption | omega | (rw [List.length_take]; omega) | (have := bulkF_mem hb _ (getD_mem (d := default) (by omega)); assumption) | (unfold bulkS at *; omega) | (simp_all; done)) (by first | assumption | omega | (rw [List.length_take]; omega) | (have := bulkF_mem hb _ (getD_mem (d := default) (by omega)); assumption) | (unfold bulkS at *; omega) | (simp_all; done))) (.skip _ _ (.skip _ _ .nil)) rfl) rfl rfl ?_
      refine Ch.step (v := (.d (.bool (!(edgeB (Lab.mk a.sig a.up) ((x.sigs.length : Nat) : Int)))))) rfl (.pure (.not _ _ rfl rfl)) rfl rfl ?_
      refine Ch.step (v := (.d (.bool (!(edgeB (Lab.mk a.sig a.up) ((x.sigs.length : Nat) : Int)))))) rfl (.pure (.pickF _ _ _ rfl rfl rfl)) rfl rfl ?_
      refine Ch.nil ?_
      refine T_cond (b := (!(edgeB (Lab.mk a.sig a.up) ((x.sigs.length : Nat) : Int)))) rfl (fun h3 => ?_) (fun h3 => ?_)
      · replace h3 := nott h3
        refine T_seq ?_
        refine T_region hc ?_
        refine Ch.step (v := (.d (.bool false))) rfl (.pure (.assign _ rfl rfl)) rfl rfl ?_
        refine Ch.nil ?_
        refine T_ret ?_
        refine And.intro (.inr rfl) ?_
        exact Exists.intro [(.d (.bool false))] (Exists.intro [] (Exists.intro [] (And.intro (.cons (.tmp 4 rfl) .nil) (And.intro (.cons (.any _) (.cons (.any _) .nil)) (And.intro (Exp.of (congrArg D.bool (by first | (rw [arcB, h1]; rfl) | (rw [arcB, h1, h2]; rfl) | (rw [arcB, h1, h2, h3]; rfl) | (rw [arcB, h1, h2, h3, hf4]; rfl) | (rw [arcB, h1, h2, h3, hf5]; unfold codeAt setCh; simp only [*, decide_true, decide_false, Bool.true_and, Bool.false_and]; done) | (rw [arcB, h1, h2, h3, hf5]; unfold codeAt setCh; rw [decide_eq_true h5]; rfl) | (rw [arcB, h1, h2, h3, hf5]; unfold codeAt setCh; rw [decide_eq_false h5]; rfl))) (.d _)) (And.intro rfl rfl))))))
      · replace h3 := notf h3
        refine T_skip ?_
        refine T_seq ?_
        refine T_regionD hc (by kernel_rfl) ?_
        refine ChD.step (v := (.ptr 2000 1)) [] rfl (.pure (.fldPtr _ _ _ rfl fld34_1 rfl)) rfl rfl ?_
        refine ChD.step (v := (.d (.slice false 1 (x.codes.map D.str)))) [2000] rfl (.pure (.loadPtr1 _ _ rfl ag23 rfl rfl rfl)) rfl rfl ?_
        refine ChD.step (v := (.ptr 3000 0)) [] rfl (.pure (.fldPtr _ _ _ rfl fld85_0 rfl)) rfl rfl ?_
        refine ChD.step (v := (.d (.int .i64 a.src))) [3000] rfl (.pure (.loadPtr1 _ _ rfl ag3 rfl rfl rfl)) rfl rfl ?_
        refine ChD.step (v := (.d (.ref (.str (x.codes.getD ((a.src).toNat) default))))) [] rfl (.pure (.idx _ _ _ 9 ((a.src).toNat) rfl Try.underlying23 sz9 rfl rfl (by omega) (get_map _ (by first | omega | (simp only [List.length_map, List.length_append, List.length_take, List.length_drop, List.length_cons, List.length_nil]; omega) | (simp; omega) | (simp; done))))) rfl rfl ?_
        refine ChD.step (v := (.d (.str (x.codes.getD ((a.src).toNat) default)))) [] rfl (.pure (.loadRef1 _ _ rfl ag9 rfl rfl)) rfl rfl ?_
        refine ChD.step (v := (.ptr 2000 1)) [] rfl (.pure (.fldPtr _ _ _ rfl fld34_1 rfl)) rfl rfl ?_
        refine ChD.step (v := (.d (.slice false 1 (x.codes.map D.str)))) [2000] rfl (.pure (.loadPtr1 _ _ rfl ag23 rfl rfl rfl)) rfl rfl ?_
        refine ChD.step (v := (.ptr 3000 3)) [] rfl (.pure (.fldPtr _ _ _ rfl fld85_3 rfl)) rfl rfl ?_
        refine ChD.step (v := (.d (.int .i64 a.dst))) [3000] rfl (.pure (.loadPtr1 _ _ rfl ag3 rfl rfl rfl)) rfl rfl ?_
        refine ChD.step (v := (.d (.ref (.str (x.codes.getD ((a.dst).toNat) default))))) [] rfl (.pure (.idx _ _ _ 9 ((a.dst).toNat) rfl Try.underlying23 sz9 rfl rfl (by omega) (get_map _ (by first | omega | (simp only [List.length_map, List.length_append, List.length_take, List.length_drop, List.length_cons, List.length_nil]; omega) | (simp; omega) | (simp; done))))) rfl rfl ?_
        refine ChD.step (v := (.d (.str (x.codes.getD ((a.dst).toNat) default)))) [] rfl (.pure (.loadRef1 _ _ rfl ag9 rfl rfl)) rfl rfl ?_
        refine ChD.step (v := (.d (.str (x.codes.getD ((a.src).toNat) default)))) [] rfl (.pure (.assign _ rfl rfl)) rfl rfl ?_
        refine ChD.step (v := (.d (.str (x.codes.getD ((a.dst).toNat) default)))) [] rfl (.pure (.assign _ rfl rfl)) rfl rfl ?_
        refine ChD.nil (And.intro ?_ (by kernel_rfl))
        refine T_seq ?_
        refine T_seq ?_
        refine T_region hc ?_
        refine Ch.step (v := (.ptr 3000 1)) rfl (.pure (.fldPtr _ _ _ rfl fld85_1 rfl)) rfl rfl ?_
        refine Ch.step (v := (.d (.int .i64 a.sig))) rfl (.pure (.loadPtr1 _ _ rfl ag3 rfl rfl rfl)) rfl rfl ?_
        refine Ch.step (v := (.d (.bool (decide (a.sig < 0))))) rfl (.pure (.int _ _ _ _ _ rfl rfl rfl rfl)) rfl rfl ?_
        refine Ch.nil ?_
        refine T_cond (b := (decide (a.sig < 0))) rfl (fun h4 => ?_) (fun h4 => ?_)
        · replace h4 := of_decide_eq_true h4
          try have hf4 := fit_neg (a := a) (u := codeAt x a.src) (v := codeAt x a.dst) (by omega) (by omega)
          try have hf5 := fit_pos (a := a) hl1.1 hl2.1 (by omega) (by have := edge_lt h3; omega)
          try have hlt := edge_lt h3
          refine T_seq ?_
          refine T_region hc ?_
          refine Ch.step (v := (.d (.str (x.codes.getD ((a.src).toNat) default)))) rfl (.pure (.move _ rfl rfl)) rfl rfl ?_
          refine Ch.step (v := (.d (.str (x.codes.getD ((a.dst).toNat) default)))) rfl (.pure (.move _ rfl rfl)) rfl rfl ?_
          refine Ch.step (v := (.d (.bool (decide ((x.codes.getD ((a.src).toNat) default) = (x.codes.getD ((a.dst).toNat) default)))))) rfl (.pure (.str _ _ _ _ _ rfl rfl rfl rfl)) rfl rfl ?_
          refine Ch.step (v := (.d (.bool (decide ((x.codes.getD ((a.src).toNat) default) = (x.codes.getD ((a.dst).toNat) default)))))) rfl (.pure (.assign _ rfl rfl)) rfl rfl ?_
          refine Ch.nil ?_
          refine T_ret ?_
          refine And.intro (.inr rfl) ?_
          exact Exists.intro [(.d (.bool (decide ((x.codes.getD ((a.src).toNat) default) = (x.codes.getD ((a.dst).toNat) default)))))] (Exists.intro [] (Exists.intro [] (And.intro (.cons (.tmp 4 rfl) .nil) (And.intro (.cons (.any _) (.cons (.any _) .nil)) (And.intro (Exp.of (congrArg D.bool (by first | (rw [arcB, h1]; rfl) | (rw [arcB, h1, h2]; rfl) | (rw [arcB, h1, h2, h3]; rfl) | (rw [arcB, h1, h2, h3, hf4]; rfl) | (rw [arcB, h1, h2, h3, hf5]; unfold codeAt setCh; simp only [*, decide_true, decide_false, Bool.true_and, Bool.false_and]; done) | (rw [arcB, h1, h2, h3, hf5]; unfold codeAt setCh; rw [decide_eq_true h5]; rfl) | (rw [arcB, h1, h2, h3, hf5]; unfold codeAt setCh; rw [decide_eq_false h5]; rfl))) (.d _)) (And.intro rfl rfl))))))
        · replace h4 := of_decide_eq_false h4
          try have hf4 := fit_neg (a := a) (u := codeAt x a.src) (v := codeAt x a.dst) (by omega) (by omega)
          try have hf5 := fit_pos (a := a) hl1.1 hl2.1 (by omega) (by have := edge_lt h3; omega)
          try have hlt := edge_lt h3
          refine T_skip ?_
          refine T_seq ?_
          refine T_regionD hc (by kernel_rfl) ?_
          refine ChD.step (v := (.d (.str (x.codes.getD ((a.src).toNat) default)))) [] rfl (.pure (.move _ rfl rfl)) rfl rfl ?_
          refine ChD.step (v := (.d (.str (x.codes.getD ((a.dst).toNat) default)))) [] rfl (.pure (.move _ rfl rfl)) rfl rfl ?_
          refine ChD.step (v := (.ptr 3000 1)) [] rfl (.pure (.fldPtr _ _ _ rfl fld85_1 rfl)) rfl rfl ?_
          refine ChD.step (v := (.d (.int .i64 a.sig))) [3000] rfl (.pure (.loadPtr1 _ _ rfl ag3 rfl rfl rfl)) rfl rfl ?_
          refine ChD.step (v := (.ptr 3000 2)) [] rfl (.pure (.fldPtr _ _ _ rfl fld85_2 rfl)) rfl rfl ?_
          refine ChD.step (v := (.d (.bool (a.up)))) [3000] rfl (.pure (.loadPtr1 _ _ rfl ag4 rfl rfl rfl)) rfl rfl ?_
          refine ChD.step (v := (.d (.bool (!(a.up))))) [] rfl (.pure (.not _ _ rfl rfl)) rfl rfl ?_
          refine ChD.step (v := (.d (.str ([bitN (!(a.up))])))) [] rfl (.call 62000 107 _ _ _ en107 rfl (.inl rfl) (.cons (.d _) .nil) rfl rfl (sp_spec_l5Bit (!(a.up))) (.skip _ _ .nil) rfl) rfl rfl ?_
          refine ChD.step (v := (.d (.str ((x.codes.getD ((a.dst).toNat) default).take a.sig.toNat ++ ([bitN (!(a.up))]) ++ (x.codes.getD ((a.dst).toNat) default).drop (a.sig + 1).toNat)))) [] rfl (.call 63000 106 _ _ _ en106 rfl (.inl rfl) (.cons (.d _) (.cons (.d _) (.cons (.d _) .nil))) rfl rfl (sp_spec_l5Set (x.codes.getD ((a.dst).toNat) default) a.sig ([bitN (!(a.up))]) (by first | omega | assumption | (exact hx _ (getD_mem (by omega))) | (exact hx _ (by assumption)) | (exact Nat.le_trans (hx _ (by assumption)) (by omega)) | (simp only [List.length_append, List.length_take, List.length_drop, List.length_cons, List.length_nil]; omega) | (simp_all; done)) (by first | omega | (simp; done) | assumption) (by first | omega | assumption | (exact hx _ (getD_mem (by omega))) | (exact hx _ (by assumption)) | (exact Nat.le_trans (hx _ (by assumption)) (by omega)) | (simp only [List.length_append, List.length_take, List.length_drop, List.length_cons, List.length_nil]; omega) | (simp_all; done)) (by first | omega | assumption | (exact hx _ (getD_mem (by omega))) | (exact hx _ (by assumption)) | (exact Nat.le_trans (hx _ (by assumption)) (by omega)) | (simp only [List.length_append, List.length_take, List.length_drop, List.length_cons, List.length_nil]; omega) | (simp_all; done))) (.skip _ _ (.skip _ _ (.skip _ _ .nil))) rfl) rfl rfl ?_
          refine ChD.step (v := (.d (.bool (decide ((x.codes.getD ((a.src).toNat) default) = ((x.codes.getD ((a.dst).toNat) default).take a.sig.toNat ++ ([bitN (!(a.up))]) ++ (x.codes.getD ((a.dst).toNat) default).drop (a.sig + 1).toNat)))))) [] rfl (.pure (.str _ _ _ _ _ rfl rfl rfl rfl)) rfl rfl ?_
          refine ChD.step (v := (.d (.bool (decide ((x.codes.getD ((a.src).toNat) default) = ((x.codes.getD ((a.dst).toNat) default).take a.sig.toNat ++ ([bitN (!(a.up))]) ++ (x.codes.getD ((a.dst).toNat) default).drop (a.sig + 1).toNat)))))) [] rfl (.pure (.move _ rfl rfl)) rfl rfl ?_
          cases h5 : (decide ((x.codes.getD ((a.src).toNat) default) = ((x.codes.getD ((a.dst).toNat) default).take a.sig.toNat ++ ([bitN (!(a.up))]) ++ (x.codes.getD ((a.dst).toNat) default).drop (a.sig + 1).toNat))) with
          | true =>
            replace h5 := of_decide_eq_true h5
            refine ChD.step (v := (.d (.str (x.codes.getD ((a.dst).toNat) default)))) [] rfl (.pure (.move _ rfl rfl)) rfl rfl ?_
            refine ChD.step (v := (.d (.str (x.codes.getD ((a.src).toNat) default)))) [] rfl (.pure (.move _ rfl rfl)) rfl rfl ?_
            refine ChD.step (v := (.ptr 3000 1)) [] rfl (.pure (.fldPtr _ _ _ rfl fld85_1 rfl)) rfl rfl ?_
            refine ChD.step (v := (.d (.int .i64 a.sig))) [3000] rfl (.pure (.loadPtr1 _ _ rfl ag3 rfl rfl rfl)) rfl rfl ?_
            refine ChD.step (v := (.ptr 3000 2)) [] rfl (.pure (.fldPtr _ _ _ rfl fld85_2 rfl)) rfl rfl ?_
            refine ChD.step (v := (.d (.bool (a.up)))) [3000] rfl (.pure (.loadPtr1 _ _ rfl ag4 rfl rfl rfl)) rfl rfl ?_
            refine ChD.step (v := (.d (.str ([bitN (a.up)])))) [] rfl (.call 72000 107 _ _ _ en107 rfl (.inl rfl) (.cons (.d _) .nil) rfl rfl (sp_spec_l5Bit (a.up)) (.skip _ _ .nil) rfl) rfl rfl ?_
            refine ChD.step (v := (.d (.str ((x.codes.getD ((a.src).toNat) default).take a.sig.toNat ++ ([bitN (a.up)]) ++ (x.codes.getD ((a.src).toNat) default).drop (a.sig + 1).toNat)))) [] rfl (.call 73000 106 _ _ _ en106 rfl (.inl rfl) (.cons (.d _) (.cons (.d _) (.cons (.d _) .nil))) rfl rfl (sp_spec_l5Set (x.codes.getD ((a.src).toNat) default) a.sig ([bitN (a.up)]) (by first | omega | assumption | (exact hx _ (getD_mem (by omega))) | (exact hx _ (by assumption)) | (exact Nat.le_trans (hx _ (by assumption)) (by omega)) | (simp only [List.length_append, List.length_take, List.length_drop, List.length_cons, List.length_nil]; omega) | (simp_all; done)) (by first | omega | (simp; done) | assumption) (by first | omega | assumption | (exact hx _ (getD_mem (by omega))) | (exact hx _ (by assumption)) | (exact Nat.le_trans (hx _ (by assumption)) (by omega)) | (simp only [List.length_append, List.length_take, List.length_drop, List.length_cons, List.length_nil]; omega) | (simp_all; done)) (by first | omega | assumption | (exact hx _ (getD_mem (by omega))) | (exact hx _ (by assumption)) | (exact Nat.le_trans (hx _ (by assumption)) (by omega)) | (simp only [List.length_append, List.length_take, List.length_drop, List.length_cons, List.length_nil]; omega) | (simp_all; done))) (.skip _ _ (.skip _ _ (.skip _ _ .nil))) rfl) rfl rfl ?_
            refine ChD.step (v := (.d (.bool (decide ((x.codes.getD ((a.dst).toNat) default) = ((x.codes.getD ((a.src).toNat) default).take a.sig.toNat ++ ([bitN (a.up)]) ++ (x.codes.getD ((a.src).toNat) default).drop (a.sig + 1).toNat)))))) [] rfl (.pure (.str _ _ _ _ _ rfl rfl rfl rfl)) rfl rfl ?_
            refine ChD.step (v := (.d (.bool (decide ((x.codes.getD ((a.dst).toNat) default) = ((x.codes.getD ((a.src).toNat) default).take a.sig.toNat ++ ([bitN (a.up)]) ++ (x.codes.getD ((a.src).toNat) default).drop (a.sig + 1).toNat)))))) [] rfl (.pure (.pickT _ _ _ rfl rfl rfl)) rfl rfl ?_
            refine ChD.step (v := (.d (.bool (decide ((x.codes.getD ((a.dst).toNat) default) = ((x.codes.getD ((a.src).toNat) default).take a.sig.toNat ++ ([bitN (a.up)]) ++ (x.codes.getD ((a.src).toNat) default).drop (a.sig + 1).toNat)))))) [] rfl (.pure (.assign _ rfl rfl)) rfl rfl ?_
            refine ChD.nil (And.intro ?_ (by kernel_rfl))
            refine T_ret ?_
            refine And.intro (.inr rfl) ?_
            exact Exists.intro [(.d (.bool (decide ((x.codes.getD ((a.dst).toNat) default) = ((x.codes.getD ((a.src).toNat) default).take a.sig.toNat ++ ([bitN (a.up)]) ++ (x.codes.getD ((a.src).toNat) default).drop (a.sig + 1).toNat)))))] (Exists.intro [] (Exists.intro [] (And.intro (.cons (.tmp 4 rfl) .nil) (And.intro (.cons (.any _) (.cons (.any _) .nil)) (And.intro (Exp.of (congrArg D.bool (by first | (rw [arcB, h1]; rfl) | (rw [arcB, h1, h2]; rfl) | (rw [arcB, h1, h2, h3]; rfl) | (rw [arcB, h1, h2, h3, hf4]; rfl) | (rw [arcB, h1, h2, h3, hf5]; unfold codeAt setCh; simp only [*, decide_true, decide_false, Bool.true_and, Bool.false_and]; done) | (rw [arcB, h1, h2, h3, hf5]; unfold codeAt setCh; rw [decide_eq_true h5]; rfl) | (rw [arcB, h1, h2, h3, hf5]; unfold codeAt setCh; rw [decide_eq_false h5]; rfl))) (.d _)) (And.intro rfl rfl))))))
          | false =>
            replace h5 := of_decide_eq_false h5
            refine ChD.skip rfl rfl ?_
            refine ChD.skip rfl rfl ?_
            refine ChD.skip rfl rfl ?_
            refine ChD.skip rfl rfl ?_
            refine ChD.skip rfl rfl ?_
            refine ChD.skip rfl rfl ?_
            refine ChD.skip rfl rfl ?_
            refine ChD.skip rfl rfl ?_
            refine ChD.skip rfl rfl ?_
            refine ChD.step (v := (.d (.bool false))) [] rfl (.pure (.pickF _ _ _ rfl rfl rfl)) rfl rfl ?_
            refine ChD.step (v := (.d (.bool false))) [] rfl (.pure (.assign _ rfl rfl)) rfl rfl ?_
            refine ChD.nil (And.intro ?_ (by kernel_rfl))
            refine T_ret ?_
            refine And.intro (.inr rfl) ?_
            exact Exists.intro [(.d (.bool false))] (Exists.intro [] (Exists.intro [] (And.intro (.cons (.tmp 4 rfl) .nil) (And.intro (.cons (.any _) (.cons (.any _) .nil)) (And.intro (Exp.of (congrArg D.bool (by first | (rw [arcB, h1]; rfl) | (rw [arcB, h1, h2]; rfl) | (rw [arcB, h1, h2, h3]; rfl) | (rw [arcB, h1, h2, h3, hf4]; rfl) | (rw [arcB, h1, h2, h3, hf5]; unfold codeAt setCh; simp only [*, decide_true, decide_false, Bool.true_and, Bool.false_and]; done) | (rw [arcB, h1, h2, h3, hf5]; unfold codeAt setCh; rw [decide_eq_true h5]; rfl) | (rw [arcB, h1, h2, h3, hf5]; unfold codeAt setCh; rw [decide_eq_false h5]; rfl))) (.d _)) (And.intro rfl rfl))))))
    | false =>
      try have hw2 := within_two h2
      try have hl1 := hca a.src (by omega) (by omega)
      try have hl2 := hca a.dst (by omega) (by omega)
      try have hl3 := hl1.2
      try have hl4 := hl2.2
      try unfold codeAt at hl3 hl4
      refine Ch.skip rfl rfl ?_
      refine Ch.skip rfl rfl ?_
      refine Ch.skip rfl rfl ?_
      refine Ch.skip rfl rfl ?_
      refine Ch.skip rfl rfl ?_
      refine Ch.skip rfl rfl ?_
      refine Ch.skip rfl rfl ?_
      refine Ch.skip rfl rfl ?_
      refine Ch.skip rfl rfl ?_
      refine Ch.skip rfl rfl ?_
      refine Ch.step (v := (.d (.bool true))) rfl (.pure (.pickT _ _ _ rfl rfl rfl)) rfl rfl ?_
      refine Ch.nil ?_
      refine T_cond (b := true) rfl (fun _ => ?_) (fun h => nomatch h)
      refine T_seq ?_
      refine T_region hc ?_
      refine Ch.step (v := (.d (.bool false))) rfl (.pure (.assign _ rfl rfl)) rfl rfl ?_
      refine Ch.nil ?_
      refine T_ret ?_
      refine And.intro (.inr rfl) ?_
      exact Exists.intro [(.d (.bool false))] (Exists.intro [] (Exists.intro [] (And.intro (.cons (.tmp 4 rfl) .nil) (And.intro (.cons (.any _) (.cons (.any _) .nil)) (And.intro (Exp.of (congrArg D.bool (by first | (rw [arcB, h1]; rfl) | (rw [arcB, h1, h2]; rfl) | (rw [arcB, h1, h2, h3]; rfl) | (rw [arcB, h1, h2, h3, hf4]; rfl) | (rw [arcB, h1, h2, h3, hf5]; unfold codeAt setCh; simp only [*, decide_true, decide_false, Bool.true_and, Bool.false_and]; done) | (rw [arcB, h1, h2, h3, hf5]; unfold codeAt setCh; rw [decide_eq_true h5]; rfl) | (rw [arcB, h1, h2, h3, hf5]; unfold codeAt setCh; rw [decide_eq_false h5]; rfl))) (.d _)) (And.intro rfl rfl))))))
  | false =>
    try have hw1 := within_two h1
    refine Ch.skip rfl rfl ?_
    refine Ch.skip rfl rfl ?_
    refine Ch.skip rfl rfl ?_
    refine Ch.skip rfl rfl ?_
    refine Ch.skip rfl rfl ?_
    refine Ch.skip rfl rfl ?_
    refine Ch.skip rfl rfl ?_
    refine Ch.skip rfl rfl ?_
    refine Ch.step (v := (.d (.bool true))) rfl (.pure (.pickT _ _ _ rfl rfl rfl)) rfl rfl ?_
    refine Ch.step (v := (.d (.bool true))) rfl (.pure (.move _ rfl rfl)) rfl rfl ?_
    refine Ch.skip rfl rfl ?_
    refine Ch.skip rfl rfl ?_
    refine Ch.skip rfl rfl ?_
    refine Ch.skip rfl rfl ?_
    refine Ch.skip rfl rfl ?_
    refine Ch.skip rfl rfl ?_
    refine Ch.skip rfl rfl ?_
    refine Ch.skip rfl rfl ?_
    refine Ch.skip rfl rfl ?_
    refine Ch.skip rfl rfl ?_
    refine Ch.step (v := (.d (.bool true))) rfl (.pure (.pickT _ _ _ rfl rfl rfl)) rfl rfl ?_
    refine Ch.nil ?_
    refine T_cond (b := true) rfl (fun _ => ?_) (fun h => nomatch h)
    refine T_seq ?_
    refine T_region hc ?_
    refine Ch.step (v := (.d (.bool false))) rfl (.pure (.assign _ rfl rfl)) rfl rfl ?_
    refine Ch.nil ?_
    refine T_ret ?_
    refine And.intro (.inr rfl) ?_
    exact Exists.intro [(.d (.bool false))] (Exists.intro [] (Exists.intro [] (And.intro (.cons (.tmp 4 rfl) .nil) (And.intro (.cons (.any _) (.cons (.any _) .nil)) (And.intro (Exp.of (congrArg D.bool (by first | (rw [arcB, h1]; rfl) | (rw [arcB, h1, h2]; rfl) | (rw [arcB, h1, h2, h3]; rfl) | (rw [arcB, h1, h2, h3, hf4]; rfl) | (rw [arcB, h1, h2, h3, hf5]; unfold codeAt setCh; simp only [*, decide_true, decide_false, Bool.true_and, Bool.false_and]; done) | (rw [arcB, h1, h2, h3, hf5]; unfold codeAt setCh; rw [decide_eq_true h5]; rfl) | (rw [arcB, h1, h2, h3, hf5]; unfold codeAt setCh; rw [decide_eq_false h5]; rfl))) (.d _)) (And.intro rfl rfl))))))

set_option maxHeartbeats 2000000 in
theorem sp_spec_l5All (x : Sgr) (hb : x.bulk ≤ 1048576) (hn : 1 ≤ x.codes.length) (hen : ends x.codes.length x.arcs) : Sp Try.prog 71 [(.agg [(.slice false 2 (x.sigs.map Sgn.d)), (.slice false 1 (x.codes.map D.str)), (.slice false 4 (x.arcs.map Arc.d))])] [.any] (.bool (!hasI (distF x.codes.length (stepsOf x.arcs) 0) (-1))) := by
  refine Sp_intro (lend := true) Try.func71 rfl rfl rfl (fun _ => rfl) (fun c hc hX => ?_)
  obtain ⟨hp0, hp1, hp2⟩ := Sgr.parts hb
  have hn0 := bulkF_len hp0
  have hn1 := bulk_len hp1
  have hx1 := bulk_mem hp1
  have hn2 := bulkF_len hp2
  refine T_seq ?_
  refine T_region hc ?_
  refine Ch.step (v := (.ptr 1000 0)) rfl (.box 1000 _ _ rfl (.aggD _)) rfl rfl ?_
  refine Ch.step (v := (.d (.bool false))) rfl (.pure (.assign _ rfl rfl)) rfl rfl ?_
  refine Ch.nil ?_
  refine T_seq ?_
  refine T_region hc ?_
  refine Ch.step (v := (.ptr 1000 1)) rfl (.pure (.fldPtr _ _ _ rfl fld34_1 rfl)) rfl rfl ?_
  refine Ch.step (v := (.d (.slice false 1 (x.codes.map D.str)))) rfl (.pure (.loadPtr1 _ _ rfl ag23 rfl rfl rfl)) rfl rfl ?_
  refine Ch.step (v := (.d (.int .i64 ((x.codes.length : Nat) : Int)))) rfl (.pure (.len _ _ 9 rfl Try.underlying23 (.sh _ _) (by simp))) rfl rfl ?_
  refine Ch.step (v := (.row 11000)) rfl (.make 11000 _ 4 _ _ (x.codes.length) (x.codes.length) rfl sty99 rfl rfl rfl rfl (by first | omega | (simp only [List.length_map, List.length_append, List.length_take, List.length_drop, List.length_cons, List.length_nil]; omega) | (simp; omega) | (simp; done)) (by first | omega | (simp only [List.length_map, List.length_append, List.length_take, List.length_drop, List.length_cons, List.length_nil]; omega) | (simp; omega) | (simp; done)) (by first | omega | (simp only [List.length_map, List.length_append, List.length_take, List.length_drop, List.length_cons, List.length_nil]; omega) | (simp; omega) | (simp; done)) (zeroD_mk (zd := (.bool false)) zr4 (by intro S w; rw [DR]; exact ⟨rfl, rfl⟩) rfl)) rfl rfl ?_
  refine Ch.step (v := (.row 11000)) rfl (.pure (.assign _ rfl rfl)) rfl rfl ?_
  refine Ch.nil ?_
  refine T_seq ?_
  refine T_region hc ?_
  refine Ch.step (v := (.row 11000)) rfl (.pure (.move _ rfl rfl)) rfl rfl ?_
  refine Ch.step (v := (.el 11000 1 0 0)) rfl (.pure (.idxRow _ _ _ 4 (0) rfl Try.underlying99 sz4 rfl rfl rfl rfl (by first | omega | (simp only [List.length_map, List.length_set]; omega) | (simp; omega)))) rfl rfl ?_
  refine Ch.step (v := .junk) rfl (.storeEl (y' := (.bool true)) _ _ _ rfl rfl rfl (.d _) rfl sz4 rfl (by rw [List.getElem?_replicate, if_pos (by omega)]) rfl rfl) rfl rfl ?_
  refine Ch.nil ?_
  refine T_seq ?_
  refine T_seq ?_
  refine T_region hc ?_
  refine Ch.step (v := (.ptr 1000 1)) rfl (.pure (.fldPtr _ _ _ rfl fld34_1 rfl)) rfl rfl ?_
  refine Ch.step (v := (.d (.slice false 1 (x.codes.map D.str)))) rfl (.pure (.loadPtr1 _ _ rfl ag23 rfl rfl rfl)) rfl rfl ?_
  refine Ch.step (v := (.d (.int .i64 ((x.codes.length : Nat) : Int)))) rfl (.pure (.len _ _ 9 rfl Try.underlying23 (.sh _ _) (by simp))) rfl rfl ?_
  refine Ch.step (v := (.d (.int .i64 0))) rfl (.pure (.move _ rfl rfl)) rfl rfl ?_
  refine Ch.nil ?_
  refine T_block ?_
  refine T_loop (ι := Nat) (fun k => { n := 46, sl := [(1, (.ptr 1000 0)), (3, (.row 3)), (16, (.d (.int .i64 ((x.codes.length : Nat) : Int)))), (17, (.d (.int .i64 ((k : Nat) : Int))))], hp := [(3, (some (.row 1 ((metIt x k).map D.bool)))), (1000, (some (.box [(.d (.slice false 2 (x.sigs.map Sgn.d))), (.d (.slice false 1 (x.codes.map D.str))), (.d (.slice false 4 (x.arcs.map Arc.d)))])))], pin := [] }) (fun k => k ≤ x.codes.length) (fun k => x.codes.length - k) ⟨0, (by omega), (Wk.ren [(3, 11000)] rfl rfl rfl rfl (And.intro rfl (And.intro rfl (And.intro rfl (And.intro (vI (by first | rfl | omega | (simp; done) | (simp; omega))) trivial)))) (And.intro (oR (by first | (exact metIt_start x) | (rw [metTo_all x k (by omega)]; done))) (And.intro rfl trivial)))⟩ (fun k hp0 => ?_)
  have hml := metIt_len x k
  refine T_seq ?_
  refine T_region hc ?_
  refine Ch.step (v := (.d (.bool (decide (((k : Nat) : Int) < ((x.codes.length : Nat) : Int)))))) rfl (.pure (.int _ _ _ _ _ rfl rfl rfl rfl)) rfl rfl ?_
  refine Ch.nil ?_
  refine T_seq ?_
  refine T_cond (b := (decide (((k : Nat) : Int) < ((x.codes.length : Nat) : Int)))) rfl (fun h1 => ?_) (fun h1 => ?_)
  · replace h1 := of_decide_eq_true h1
    refine T_skip ?_
    refine T_seq ?_
    refine T_block ?_
    refine T_seq ?_
    refine T_region hc ?_
    refine Ch.step (v := (.ptr 1000 2)) rfl (.pure (.fldPtr _ _ _ rfl fld34_2 rfl)) rfl rfl ?_
    refine Ch.step (v := (.d (.slice false 4 (x.arcs.map Arc.d)))) rfl (.pure (.loadPtr1 _ _ rfl ag32 rfl rfl rfl)) rfl rfl ?_
    refine Ch.step (v := (.d (.int .i64 ((x.arcs.length : Nat) : Int)))) rfl (.pure (.len _ _ 85 rfl Try.underlying32 (.sh _ _) (by simp))) rfl rfl ?_
    refine Ch.step (v := (.d (.int .i64 0))) rfl (.pure (.move _ rfl rfl)) rfl rfl ?_
    refine Ch.nil ?_
    refine T_block ?_
    refine T_loop (ι := Nat) (fun m => { n := 46, sl := [(1, (.ptr 1000 0)), (3, (.row 3)), (16, (.d (.int .i64 ((x.codes.length : Nat) : Int)))), (17, (.d (.int .i64 ((k : Nat) : Int)))), (20, (.d (.slice false 4 (x.arcs.map Arc.d)))), (21, (.d (.int .i64 ((x.arcs.length : Nat) : Int)))), (22, (.d (.int .i64 ((m : Nat) : Int))))], hp := [(3, (some (.row 1 ((metTo x k m).map D.bool)))), (1000, (some (.box [(.d (.slice false 2 (x.sigs.map Sgn.d))), (.d (.slice false 1 (x.codes.map D.str))), (.d (.slice false 4 (x.arcs.map Arc.d)))])))], pin := [] }) (fun m => m ≤ x.arcs.length) (fun m => x.arcs.length - m) ⟨0, (by omega), (Wk.of rfl rfl (And.intro rfl (And.intro rfl (And.intro rfl (And.intro rfl (And.intro rfl (And.intro rfl (And.intro (vI (by first | rfl | omega | (simp; done) | (simp; omega))) trivial))))))) (And.intro (oR (by first | rfl | (exact metTo_yes (by omega) (by assumption)) | (exact congrArg (List.map _) (metTo_no (by omega) (by assumption))))) (And.intro rfl trivial)))⟩ (fun m hp1 => ?_)
    have hmt := metTo_len x k m
    refine T_seq ?_
    refine T_region hc ?_
    refine Ch.step (v := (.d (.bool (decide (((m : Nat) : Int) < ((x.arcs.length : Nat) : Int)))))) rfl (.pure (.int _ _ _ _ _ rfl rfl rfl rfl)) rfl rfl ?_
    refine Ch.nil ?_
    refine T_seq ?_
    refine T_cond (b := (decide (((m : Nat) : Int) < ((x.arcs.length : Nat) : Int)))) rfl (fun h2 => ?_) (fun h2 => ?_)
    · replace h2 := of_decide_eq_true h2
      try have hee := hen _ (getD_mem (l := x.arcs) (j := m) (d := default) (by omega))
      refine T_skip ?_
      refine T_seq ?_
      refine T_block ?_
      refine T_seq ?_
      refine T_region hc ?_
      refine Ch.step (v := (.d (.ref (.agg [(.int .i64 ((x.arcs.getD m default).src)), (.int .i64 ((x.arcs.getD m default).sig)), (.bool ((x.arcs.getD m default).up)), (.int .i64 ((x.arcs.getD m default).dst))])))) rfl (.pure (.idx _ _ _ 85 (m) rfl Try.underlying32 sz85 rfl rfl rfl (get_map _ (by first | omega | (simp only [List.length_map, List.length_append, List.length_take, List.length_drop, List.length_cons, List.length_nil]; omega) | (simp; omega) | (simp; done))))) rfl rfl ?_
      refine Ch.step (v := (.d (.agg [(.int .i64 ((x.arcs.getD m default).src)), (.int .i64 ((x.arcs.getD m default).sig)), (.bool ((x.arcs.getD m default).up)), (.int .i64 ((x.arcs.getD m default).dst))]))) rfl (.pure (.loadRefA _ _ rfl ag85 sz85 rfl)) rfl rfl ?_
      refine Ch.step (v := (.ptr 5000 0)) rfl (.alloc 5000 _ rfl zer85) rfl rfl ?_
      refine Ch.step (v := .junk) rfl (.storePtr _ _ _ rfl rfl rfl (.aggD _) sz85 (Nat.le_of_ble_eq_true rfl)) rfl rfl ?_
      refine Ch.nil ?_
      refine T_seq ?_
      refine T_region hc ?_
      refine Ch.step (v := (.row 3)) rfl (.pure (.move _ rfl rfl)) rfl rfl ?_
      refine Ch.step (v := (.ptr 5000 0)) rfl (.pure (.fldPtr _ _ _ rfl fld85_0 rfl)) rfl rfl ?_
      refine Ch.step (v := (.d (.int .i64 ((x.arcs.getD m default).src)))) rfl (.pure (.loadPtr1 _ _ rfl ag3 rfl rfl rfl)) rfl rfl ?_
      refine Ch.step (v := (.el 3 1 ((((x.arcs.getD m default).src)).toNat) 0)) rfl (.pure (.idxRow _ _ _ 4 ((((x.arcs.getD m default).src)).toNat) rfl Try.underlying99 sz4 rfl rfl rfl (by omega) (by first | omega | (simp only [List.length_map, List.length_set]; omega) | (simp; omega)))) rfl rfl ?_
      refine Ch.step (v := (.d (.bool (((metTo x k m).getD ((((x.arcs.getD m default).src)).toNat) default))))) rfl (.pure (.loadEl1 _ _ rfl ag4 rfl rfl (get_map _ (by first | omega | (simp only [List.length_map, List.length_append, List.length_take, List.length_drop, List.length_cons, List.length_nil]; omega) | (simp; omega) | (simp; done))) rfl rfl rfl)) rfl rfl ?_
      refine Ch.nil ?_
      refine T_cond (b := (((metTo x k m).getD ((((x.arcs.getD m default).src)).toNat) default))) rfl (fun h3 => ?_) (fun h3 => ?_)
      · refine T_region hc ?_
        refine Ch.step (v := (.row 3)) rfl (.pure (.move _ rfl rfl)) rfl rfl ?_
        refine Ch.step (v := (.ptr 5000 3)) rfl (.pure (.fldPtr _ _ _ rfl fld85_3 rfl)) rfl rfl ?_
        refine Ch.step (v := (.d (.int .i64 ((x.arcs.getD m default).dst)))) rfl (.pure (.loadPtr1 _ _ rfl ag3 rfl rfl rfl)) rfl rfl ?_
        refine Ch.step (v := (.el 3 1 ((((x.arcs.getD m default).dst)).toNat) 0)) rfl (.pure (.idxRow _ _ _ 4 ((((x.arcs.getD m default).dst)).toNat) rfl Try.underlying99 sz4 rfl rfl rfl (by omega) (by first | omega | (simp only [List.length_map, List.length_set]; omega) | (simp; omega)))) rfl rfl ?_
        refine Ch.step (v := .junk) rfl (.storeEl (y' := (.bool true)) _ _ _ rfl rfl rfl (.d _) rfl sz4 rfl (get_map _ (by first | omega | (simp only [List.length_map, List.length_append, List.length_take, List.length_drop, List.length_cons, List.length_nil]; omega) | (simp; omega) | (simp; done))) rfl rfl) rfl rfl ?_
        refine Ch.nil ?_
        refine T_region hc ?_
        refine Ch.step (v := (.d (.int .i64 (((m : Nat) : Int) + 1)))) rfl (.pure (.int _ _ _ _ _ rfl rfl rfl (intV_add (by first | omega | (simp only [List.length_map, List.length_append, List.length_take, List.length_drop, List.length_cons, List.length_nil]; omega) | (simp; omega) | (simp; done)) (by first | omega | (simp only [List.length_map, List.length_append, List.length_take, List.length_drop, List.length_cons, List.length_nil]; omega) | (simp; omega) | (simp; done))))) rfl rfl ?_
        refine Ch.step (v := (.d (.int .i64 (((m : Nat) : Int) + 1)))) rfl (.pure (.move _ rfl rfl)) rfl rfl ?_
        refine Ch.nil ?_
        refine Exists.intro (m + 1) (And.intro (by omega) (And.intro (by first | omega | (dsimp only; omega)) (Wk.of rfl rfl (And.intro rfl (And.intro rfl (And.intro rfl (And.intro rfl (And.intro rfl (And.intro rfl (And.intro (vI (by first | rfl | omega | (simp; done) | (simp; omega))) trivial))))))) (And.intro (oR (by first | rfl | (exact metTo_yes (by omega) (by assumption)) | (exact congrArg (List.map _) (metTo_no (by omega) (by assumption))))) (And.intro rfl trivial)))))
      · refine T_skip ?_
        refine T_region hc ?_
        refine Ch.step (v := (.d (.int .i64 (((m : Nat) : Int) + 1)))) rfl (.pure (.int _ _ _ _ _ rfl rfl rfl (intV_add (by first | omega | (simp only [List.length_map, List.length_append, List.length_take, List.length_drop, List.length_cons, List.length_nil]; omega) | (simp; omega) | (simp; done)) (by first | omega | (simp only [List.length_map, List.length_append, List.length_take, List.length_drop, List.length_cons, List.length_nil]; omega) | (simp; omega) | (simp; done))))) rfl rfl ?_
        refine Ch.step (v := (.d (.int .i64 (((m : Nat) : Int) + 1)))) rfl (.pure (.move _ rfl rfl)) rfl rfl ?_
        refine Ch.nil ?_
        refine Exists.intro (m + 1) (And.intro (by omega) (And.intro (by first | omega | (dsimp only; omega)) (Wk.of rfl rfl (And.intro rfl (And.intro rfl (And.intro rfl (And.intro rfl (And.intro rfl (And.intro rfl (And.intro (vI (by first | rfl | omega | (simp; done) | (simp; omega))) trivial))))))) (And.intro (oR (by first | rfl | (exact metTo_yes (by omega) (by assumption)) | (exact congrArg (List.map _) (metTo_no (by omega) (by assumption))))) (And.intro rfl trivial)))))
    · replace h2 := of_decide_eq_false h2
      try have hee := hen _ (getD_mem (l := x.arcs) (j := m) (d := default) (by omega))
      refine T_exit ?_
      refine T_region hc ?_
      refine Ch.step (v := (.d (.int .i64 (((k : Nat) : Int) + 1)))) rfl (.pure (.int _ _ _ _ _ rfl rfl rfl (intV_add (by first | omega | (simp only [List.length_map, List.length_append, List.length_take, List.length_drop, List.length_cons, List.length_nil]; omega) | (simp; omega) | (simp; done)) (by first | omega | (simp only [List.length_map, List.length_append, List.length_take, List.length_drop, List.length_cons, List.length_nil]; omega) | (simp; omega) | (simp; done))))) rfl rfl ?_
      refine Ch.step (v := (.d (.int .i64 (((k : Nat) : Int) + 1)))) rfl (.pure (.move _ rfl rfl)) rfl rfl ?_
      refine Ch.nil ?_
      refine Exists.intro (k + 1) (And.intro (by omega) (And.intro (by first | omega | (dsimp only; omega)) (Wk.of rfl rfl (And.intro rfl (And.intro rfl (And.intro rfl (And.intro (vI (by first | rfl | omega | (simp; done) | (simp; omega))) trivial)))) (And.intro (oR (by first | (exact metIt_start x) | (rw [metTo_all x k (by omega)]; done))) (And.intro rfl trivial)))))
  · replace h1 := of_decide_eq_false h1
    refine T_exit ?_
    refine T_seq ?_
    refine T_seq ?_
    refine T_region hc ?_
    refine Ch.step (v := (.row 3)) rfl (.pure (.move _ rfl rfl)) rfl rfl ?_
    refine Ch.step (v := (.d (.int .i64 (((metIt x k).length : Nat) : Int)))) rfl (.pure (.len _ _ 4 rfl Try.underlying99 (.row rfl) (by simp))) rfl rfl ?_
    refine Ch.step (v := (.d (.int .i64 0))) rfl (.pure (.move _ rfl rfl)) rfl rfl ?_
    refine Ch.nil ?_
    refine T_block ?_
    refine T_loop (ι := Nat) (fun m => { n := 46, sl := [(37, (.row 3)), (38, (.d (.int .i64 (((metIt x k).length : Nat) : Int)))), (39, (.d (.int .i64 ((m : Nat) : Int))))], hp := [(3, (some (.row 1 ((metIt x k).map D.bool))))], pin := [] }) (fun m => m ≤ x.codes.length ∧ ∀ j, j < m → (metIt x k).getD j default = true) (fun m => x.codes.length - m) ⟨0, ⟨by omega, fun j hj => by omega⟩, (Wk.of rfl rfl (And.intro rfl (And.intro rfl (And.intro (vI (by first | rfl | omega | (simp; done) | (simp; omega))) trivial))) (And.intro rfl trivial))⟩ (fun m hp2 => ?_)
    refine T_seq ?_
    refine T_region hc ?_
    refine Ch.step (v := (.d (.bool (decide (((m : Nat) : Int) < (((metIt x k).length : Nat) : Int)))))) rfl (.pure (.int _ _ _ _ _ rfl rfl rfl rfl)) rfl rfl ?_
    refine Ch.nil ?_
    refine T_seq ?_
    refine T_cond (b := (decide (((m : Nat) : Int) < (((metIt x k).length : Nat) : Int)))) rfl (fun h4 => ?_) (fun h4 => ?_)
    · replace h4 := of_decide_eq_true h4
      refine T_skip ?_
      refine T_seq ?_
      refine T_block ?_
      refine T_seq ?_
      refine T_region hc ?_
      refine Ch.step (v := (.el 3 1 m 0)) rfl (.pure (.idxRow _ _ _ 4 (m) rfl Try.underlying99 sz4 rfl rfl rfl rfl (by first | omega | (simp only [List.length_map, List.length_set]; omega) | (simp; omega)))) rfl rfl ?_
      refine Ch.step (v := (.d (.bool (((metIt x k).getD m default))))) rfl (.pure (.loadEl1 _ _ rfl ag4 rfl rfl (get_map _ (by first | omega | (simp only [List.length_map, List.length_append, List.length_take, List.length_drop, List.length_cons, List.length_nil]; omega) | (simp; omega) | (simp; done))) rfl rfl rfl)) rfl rfl ?_
      refine Ch.step (v := (.d (.bool (((metIt x k).getD m default))))) rfl (.pure (.assign _ rfl rfl)) rfl rfl ?_
      refine Ch.nil ?_
      refine T_seq ?_
      refine T_region hc ?_
      refine Ch.step (v := (.d (.bool (((metIt x k).getD m default))))) rfl (.pure (.move _ rfl rfl)) rfl rfl ?_
      refine Ch.step (v := (.d (.bool (!(((metIt x k).getD m default)))))) rfl (.pure (.not _ _ rfl rfl)) rfl rfl ?_
      refine Ch.nil ?_
      refine T_cond (b := (!(((metIt x k).getD m default)))) rfl (fun h5 => ?_) (fun h5 => ?_)
      · replace h5 := nott h5
        refine T_seq ?_
        refine T_region hc ?_
        refine Ch.step (v := (.d (.bool false))) rfl (.pure (.assign _ rfl rfl)) rfl rfl ?_
        refine Ch.nil ?_
        refine T_ret ?_
        refine And.intro (.inr rfl) ?_
        exact Exists.intro [(.d (.bool false))] (Exists.intro [] (Exists.intro [] (And.intro (.cons (.tmp 2 rfl) .nil) (And.intro (.cons (.any _) .nil) (And.intro (Exp.of (congrArg D.bool (by first | (exact met_no hn hen (k := k) (by omega) m (by omega) (by assumption)) | (exact met_yes hn hen (k := k) (by omega) (fun j hj => hp2.2 j (by clear hp2; omega))) | (have hge : x.codes.length ≤ m := (by omega); exact met_yes hn hen (k := k) (by omega) (fun j hj => hp2.2 j (Nat.lt_of_lt_of_le hj hge))))) (.d _)) (And.intro rfl rfl))))))
      · replace h5 := notf h5
        refine T_skip ?_
        refine T_region hc ?_
        refine Ch.step (v := (.d (.int .i64 (((m : Nat) : Int) + 1)))) rfl (.pure (.int _ _ _ _ _ rfl rfl rfl (intV_add (by first | omega | (simp only [List.length_map, List.length_append, List.length_take, List.length_drop, List.length_cons, List.length_nil]; omega) | (simp; omega) | (simp; done)) (by first | omega | (simp only [List.length_map, List.length_append, List.length_take, List.length_drop, List.length_cons, List.length_nil]; omega) | (simp; omega) | (simp; done))))) rfl rfl ?_
        refine Ch.step (v := (.d (.int .i64 (((m : Nat) : Int) + 1)))) rfl (.pure (.move _ rfl rfl)) rfl rfl ?_
        refine Ch.nil ?_
        refine Exists.intro (m + 1) (And.intro ⟨by omega, upto_succ hp2.2 (by assumption)⟩ (And.intro (by first | omega | (dsimp only; omega)) (Wk.of rfl rfl (And.intro rfl (And.intro rfl (And.intro (vI (by first | rfl | omega | (simp; done) | (simp; omega))) trivial))) (And.intro rfl trivial))))
    · replace h4 := of_decide_eq_false h4
      refine T_exit ?_
      refine T_seq ?_
      refine T_region hc ?_
      refine Ch.step (v := (.d (.bool true))) rfl (.pure (.assign _ rfl rfl)) rfl rfl ?_
      refine Ch.nil ?_
      refine T_ret ?_
      refine And.intro (.inr rfl) ?_
      exact Exists.intro [(.d (.bool true))] (Exists.intro [] (Exists.intro [] (And.intro (.cons (.tmp 2 rfl) .nil) (And.intro (.cons (.any _) .nil) (And.intro (Exp.of (congrArg D.bool (by first | (exact met_no hn hen (k := k) (by omega) m (by omega) (by assumption)) | (exact met_yes hn hen (k := k) (by omega) (fun j hj => hp2.2 j (by clear hp2; omega))) | (have hge : x.codes.length ≤ m := (by omega); exact met_yes hn hen (k := k) (by omega) (fun j hj => hp2.2 j (Nat.lt_of_lt_of_le hj hge))))) (.d _)) (And.intro rfl rfl))))))

set_option maxHeartbeats 2000000 in
theorem sp_spec_l5Good (x : Sgr) (hb : x.bulk ≤ 1048576) : Sp Try.prog 36 [(.agg [(.slice false 2 (x.sigs.map Sgn.d)), (.slice false 1 (x.codes.map D.str)), (.slice false 4 (x.arcs.map Arc.d))])] [.any] (.bool (sgB x)) := by
  refine Sp_intro (lend := true) Try.func36 rfl rfl rfl (fun _ => rfl) (fun c hc hX => ?_)
  obtain ⟨hp0, hp1, hp2⟩ := Sgr.parts hb
  have hn0 := bulkF_len hp0
  have hn1 := bulk_len hp1
  have hx1 := bulk_mem hp1
  have hn2 := bulkF_len hp2
  refine T_seq ?_
  refine T_region hc ?_
  refine Ch.step (v := (.ptr 1000 0)) rfl (.box 1000 _ _ rfl (.aggD _)) rfl rfl ?_
  refine Ch.step (v := (.d (.bool false))) rfl (.pure (.assign _ rfl rfl)) rfl rfl ?_
  refine Ch.nil ?_
  refine T_seq ?_
  refine T_seq ?_
  refine T_region hc ?_
  refine Ch.step (v := (.ptr 1000 0)) rfl (.pure (.fldPtr _ _ _ rfl fld34_0 rfl)) rfl rfl ?_
  refine Ch.step (v := (.d (.slice false 2 (x.sigs.map Sgn.d)))) rfl (.pure (.loadPtr1 _ _ rfl ag31 rfl rfl rfl)) rfl rfl ?_
  refine Ch.step (v := (.d (.bool (sigsB x.sigs)))) rfl (.call 9000 67 _ _ _ en67 rfl (.inl rfl) (.cons (.d _) .nil) rfl rfl (sp_spec_l2Signals x.sigs (by first | assumption | omega | (rw [List.length_take]; omega) | (have := bulkF_mem hb _ (getD_mem (d := default) (by omega)); assumption) | (unfold bulkS at *; omega) | (simp_all; done))) (.skip _ _ .nil) rfl) rfl rfl ?_
  refine Ch.step (v := (.d (.bool (!(sigsB x.sigs))))) rfl (.pure (.not _ _ rfl rfl)) rfl rfl ?_
  refine Ch.step (v := (.d (.bool (!(sigsB x.sigs))))) rfl (.pure (.move _ rfl rfl)) rfl rfl ?_
  cases h1 : (sigsB x.sigs) with
  | true =>
    try have hs8 := within_two (sigsB_len h1)
    refine Ch.step (v := (.ptr 1000 1)) rfl (.pure (.fldPtr _ _ _ rfl fld34_1 rfl)) rfl rfl ?_
    refine Ch.step (v := (.d (.slice false 1 (x.codes.map D.str)))) rfl (.pure (.loadPtr1 _ _ rfl ag23 rfl rfl rfl)) rfl rfl ?_
    refine Ch.step (v := (.d (.int .i64 ((x.codes.length : Nat) : Int)))) rfl (.pure (.len _ _ 9 rfl Try.underlying23 (.sh _ _) (by simp))) rfl rfl ?_
    refine Ch.step (v := (.d (.bool (withinB ((x.codes.length : Nat) : Int) 1 300)))) rfl (.call 15000 68 _ _ _ en68 rfl (.inl rfl) (.cons (.d _) (.cons (.d _) (.cons (.d _) .nil))) rfl rfl (sp_spec_l1In ((x.codes.length : Nat) : Int) 1 300) (.skip _ _ (.skip _ _ (.skip _ _ .nil))) rfl) rfl rfl ?_
    refine Ch.step (v := (.d (.bool (!(withinB ((x.codes.length : Nat) : Int) 1 300))))) rfl (.pure (.not _ _ rfl rfl)) rfl rfl ?_
    refine Ch.step (v := (.d (.bool (!(withinB ((x.codes.length : Nat) : Int) 1 300))))) rfl (.pure (.pickF _ _ _ rfl rfl rfl)) rfl rfl ?_
    refine Ch.step (v := (.d (.bool (!(withinB ((x.codes.length : Nat) : Int) 1 300))))) rfl (.pure (.move _ rfl rfl)) rfl rfl ?_
    cases h2 : (withinB ((x.codes.length : Nat) : Int) 1 300) with
    | true =>
      try have hw2 := within_two h2
      refine Ch.step (v := (.ptr 1000 2)) rfl (.pure (.fldPtr _ _ _ rfl fld34_2 rfl)) rfl rfl ?_
      refine Ch.step (v := (.d (.slice false 4 (x.arcs.map Arc.d)))) rfl (.pure (.loadPtr1 _ _ rfl ag32 rfl rfl rfl)) rfl rfl ?_
      refine Ch.step (v := (.d (.int .i64 ((x.arcs.length : Nat) : Int)))) rfl (.pure (.len _ _ 85 rfl Try.underlying32 (.sh _ _) (by simp))) rfl rfl ?_
      refine Ch.step (v := (.d (.bool (decide (4000 < ((x.arcs.length : Nat) : Int)))))) rfl (.pure (.int _ _ _ _ _ rfl rfl rfl rfl)) rfl rfl ?_
      refine Ch.step (v := (.d (.bool (decide (4000 < ((x.arcs.length : Nat) : Int)))))) rfl (.pure (.pickF _ _ _ rfl rfl rfl)) rfl rfl ?_
      refine Ch.nil ?_
      refine T_cond (b := (decide (4000 < ((x.arcs.length : Nat) : Int)))) rfl (fun h3 => ?_) (fun h3 => ?_)
      · replace h3 := of_decide_eq_true h3
        refine T_seq ?_
        refine T_region hc ?_
        refine Ch.step (v := (.d (.bool false))) rfl (.pure (.assign _ rfl rfl)) rfl rfl ?_
        refine Ch.nil ?_
        refine T_ret ?_
        refine And.intro (.inr rfl) ?_
        exact Exists.intro [(.d (.bool false))] (Exists.intro [] (Exists.intro [] (And.intro (.cons (.tmp 2 rfl) .nil) (And.intro (.cons (.any _) .nil) (And.intro (Exp.of (congrArg D.bool (by first | (rw [sgB, h1]; rfl) | (rw [sgB, h1, h2]; rfl) | (rw [sgB, h1, h2, decide_eq_true (by omega)]; rfl) | (exact (sg_no_code (k := k) (by omega) (by assumption)).symm) | (exact (sg_no_arc (k := m) (by omega) (by first | assumption | (unfold arcB codeAt; simp_all; done))).symm) | (rw [← sg_end h1 h2 (by omega) hcl hal]; done) | (exact sg_end h1 h2 (by omega) hcl hal))) (.d _)) (And.intro rfl rfl))))))
      · replace h3 := of_decide_eq_false h3
        refine T_skip ?_
        refine T_seq ?_
        refine T_seq ?_
        refine T_region hc ?_
        refine Ch.step (v := (.ptr 1000 1)) rfl (.pure (.fldPtr _ _ _ rfl fld34_1 rfl)) rfl rfl ?_
        refine Ch.step (v := (.d (.slice false 1 (x.codes.map D.str)))) rfl (.pure (.loadPtr1 _ _ rfl ag23 rfl rfl rfl)) rfl rfl ?_
        refine Ch.step (v := (.d (.int .i64 ((x.codes.length : Nat) : Int)))) rfl (.pure (.len _ _ 9 rfl Try.underlying23 (.sh _ _) (by simp))) rfl rfl ?_
        refine Ch.step (v := (.d (.int .i64 0))) rfl (.pure (.move _ rfl rfl)) rfl rfl ?_
        refine Ch.nil ?_
        refine T_block ?_
        refine T_loop (ι := Nat) (fun k => { n := 52, sl := [(1, (.ptr 1000 0)), (25, (.d (.slice false 1 (x.codes.map D.str)))), (26, (.d (.int .i64 ((x.codes.length : Nat) : Int)))), (27, (.d (.int .i64 ((k : Nat) : Int))))], hp := [(1000, (some (.box [(.d (.slice false 2 (x.sigs.map Sgn.d))), (.d (.slice false 1 (x.codes.map D.str))), (.d (.slice false 4 (x.arcs.map Arc.d)))])))], pin := [] }) (fun k => k ≤ x.codes.length ∧ ∀ j, j < k → codeN (x.codes.getD j default) (x.sigs.length : Int) = true) (fun k => x.codes.length - k) ⟨0, ⟨by omega, fun j hj => by omega⟩, (Wk.of rfl rfl (And.intro rfl (And.intro rfl (And.intro rfl (And.intro (vI (by first | rfl | omega | (simp; done) | (simp; omega))) trivial)))) (And.intro rfl trivial))⟩ (fun k hp0 => ?_)
        refine T_seq ?_
        refine T_region hc ?_
        refine Ch.step (v := (.d (.bool (decide (((k : Nat) : Int) < ((x.codes.length : Nat) : Int)))))) rfl (.pure (.int _ _ _ _ _ rfl rfl rfl rfl)) rfl rfl ?_
        refine Ch.nil ?_
        refine T_seq ?_
        refine T_cond (b := (decide (((k : Nat) : Int) < ((x.codes.length : Nat) : Int)))) rfl (fun h4 => ?_) (fun h4 => ?_)
        · replace h4 := of_decide_eq_true h4
          try have hcl := sg_codes (x := x) (k := k) (by omega) hp0.2
          try have hca := codes_at hcl
          refine T_skip ?_
          refine T_seq ?_
          refine T_block ?_
          refine T_seq ?_
          refine T_region hc ?_
          refine Ch.step (v := (.d (.ref (.str (x.codes.getD k default))))) rfl (.pure (.idx _ _ _ 9 (k) rfl Try.underlying23 sz9 rfl rfl rfl (get_map _ (by first | omega | (simp only [List.length_map, List.length_append, List.length_take, List.length_drop, List.length_cons, List.length_nil]; omega) | (simp; omega) | (simp; done))))) rfl rfl ?_
          refine Ch.step (v := (.d (.str (x.codes.getD k default)))) rfl (.pure (.loadRef1 _ _ rfl ag9 rfl rfl)) rfl rfl ?_
          refine Ch.step (v := (.d (.str (x.codes.getD k default)))) rfl (.pure (.assign _ rfl rfl)) rfl rfl ?_
          refine Ch.nil ?_
          refine T_seq ?_
          refine T_region hc ?_
          refine Ch.step (v := (.d (.str (x.codes.getD k default)))) rfl (.pure (.move _ rfl rfl)) rfl rfl ?_
          refine Ch.step (v := (.ptr 1000 0)) rfl (.pure (.fldPtr _ _ _ rfl fld34_0 rfl)) rfl rfl ?_
          refine Ch.step (v := (.d (.slice false 2 (x.sigs.map Sgn.d)))) rfl (.pure (.loadPtr1 _ _ rfl ag31 rfl rfl rfl)) rfl rfl ?_
          refine Ch.step (v := (.d (.int .i64 ((x.sigs.length : Nat) : Int)))) rfl (.pure (.len _ _ 88 rfl Try.underlying31 (.sh _ _) (by simp))) rfl rfl ?_
          refine Ch.step (v := (.d (.bool (codeN (x.codes.getD k default) ((x.sigs.length : Nat) : Int))))) rfl (.call 35000 69 _ _ _ en69 rfl (.inl rfl) (.cons (.d _) (.cons (.d _) .nil)) rfl rfl (sp_spec_l5Code (x.codes.getD k default) ((x.sigs.length : Nat) : Int) (by first | omega | assumption | (exact hx _ (getD_mem (by omega))) | (exact hx _ (by assumption)) | (exact Nat.le_trans (hx _ (by assumption)) (by omega)) | (simp only [List.length_append, List.length_take, List.length_drop, List.length_cons, List.length_nil]; omega) | (simp_all; done))) (.skip _ _ (.skip _ _ .nil)) rfl) rfl rfl ?_
          refine Ch.step (v := (.d (.bool (!(codeN (x.codes.getD k default) ((x.sigs.length : Nat) : Int)))))) rfl (.pure (.not _ _ rfl rfl)) rfl rfl ?_
          refine Ch.nil ?_
          refine T_cond (b := (!(codeN (x.codes.getD k default) ((x.sigs.length : Nat) : Int)))) rfl (fun h5 => ?_) (fun h5 => ?_)
          · replace h5 := nott h5
            refine T_seq ?_
            refine T_region hc ?_
            refine Ch.step (v := (.d (.bool false))) rfl (.pure (.assign _ rfl rfl)) rfl rfl ?_
            refine Ch.nil ?_
            refine T_ret ?_
            refine And.intro (.inr rfl) ?_
            exact Exists.intro [(.d (.bool false))] (Exists.intro [] (Exists.intro [] (And.intro (.cons (.tmp 2 rfl) .nil) (And.intro (.cons (.any _) .nil) (And.intro (Exp.of (congrArg D.bool (by first | (rw [sgB, h1]; rfl) | (rw [sgB, h1, h2]; rfl) | (rw [sgB, h1, h2, decide_eq_true (by omega)]; rfl) | (exact (sg_no_code (k := k) (by omega) (by assumption)).symm) | (exact (sg_no_arc (k := m) (by omega) (by first | assumption | (unfold arcB codeAt; simp_all; done))).symm) | (rw [← sg_end h1 h2 (by omega) hcl hal]; done) | (exact sg_end h1 h2 (by omega) hcl hal))) (.d _)) (And.intro rfl rfl))))))
          · replace h5 := notf h5
            refine T_skip ?_
            refine T_region hc ?_
            refine Ch.step (v := (.d (.int .i64 (((k : Nat) : Int) + 1)))) rfl (.pure (.int _ _ _ _ _ rfl rfl rfl (intV_add (by first | omega | (simp only [List.length_map, List.length_append, List.length_take, List.length_drop, List.length_cons, List.length_nil]; omega) | (simp; omega) | (simp; done)) (by first | omega | (simp only [List.length_map, List.length_append, List.length_take, List.length_drop, List.length_cons, List.length_nil]; omega) | (simp; omega) | (simp; done))))) rfl rfl ?_
            refine Ch.step (v := (.d (.int .i64 (((k : Nat) : Int) + 1)))) rfl (.pure (.move _ rfl rfl)) rfl rfl ?_
            refine Ch.nil ?_
            refine Exists.intro (k + 1) (And.intro ⟨by omega, upto_succ hp0.2 (by assumption)⟩ (And.intro (by first | omega | (dsimp only; omega)) (Wk.of rfl rfl (And.intro rfl (And.intro rfl (And.intro rfl (And.intro (vI (by first | rfl | omega | (simp; done) | (simp; omega))) trivial)))) (And.intro rfl trivial))))
        · replace h4 := of_decide_eq_false h4
          try have hcl := sg_codes (x := x) (k := k) (by omega) hp0.2
          try have hca := codes_at hcl
          refine T_exit ?_
          refine T_seq ?_
          refine T_seq ?_
          refine T_region hc ?_
          refine Ch.step (v := (.ptr 1000 2)) rfl (.pure (.fldPtr _ _ _ rfl fld34_2 rfl)) rfl rfl ?_
          refine Ch.step (v := (.d (.slice false 4 (x.arcs.map Arc.d)))) rfl (.pure (.loadPtr1 _ _ rfl ag32 rfl rfl rfl)) rfl rfl ?_
          refine Ch.step (v := (.d (.int .i64 ((x.arcs.length : Nat) : Int)))) rfl (.pure (.len _ _ 85 rfl Try.underlying32 (.sh _ _) (by simp))) rfl rfl ?_
          refine Ch.step (v := (.d (.int .i64 0))) rfl (.pure (.move _ rfl rfl)) rfl rfl ?_
          refine Ch.nil ?_
          refine T_block ?_
          refine T_loop (ι := Nat) (fun m => { n := 52, sl := [(1, (.ptr 1000 0)), (39, (.d (.slice false 4 (x.arcs.map Arc.d)))), (40, (.d (.int .i64 ((x.arcs.length : Nat) : Int)))), (41, (.d (.int .i64 ((m : Nat) : Int))))], hp := [(1000, (some (.box [(.d (.slice false 2 (x.sigs.map Sgn.d))), (.d (.slice false 1 (x.codes.map D.str))), (.d (.slice false 4 (x.arcs.map Arc.d)))])))], pin := [] }) (fun m => m ≤ x.arcs.length ∧ ∀ j, j < m → arcB x (x.arcs.getD j default) = true) (fun m => x.arcs.length - m) ⟨0, ⟨by omega, fun j hj => by omega⟩, (Wk.of rfl rfl (And.intro rfl (And.intro rfl (And.intro rfl (And.intro (vI (by first | rfl | omega | (simp; done) | (simp; omega))) trivial)))) (And.intro rfl trivial))⟩ (fun m hp1 => ?_)
          refine T_seq ?_
          refine T_region hc ?_
          refine Ch.step (v := (.d (.bool (decide (((m : Nat) : Int) < ((x.arcs.length : Nat) : Int)))))) rfl (.pure (.int _ _ _ _ _ rfl rfl rfl rfl)) rfl rfl ?_
          refine Ch.nil ?_
          refine T_seq ?_
          refine T_cond (b := (decide (((m : Nat) : Int) < ((x.arcs.length : Nat) : Int)))) rfl (fun h6 => ?_) (fun h6 => ?_)
          · replace h6 := of_decide_eq_true h6
            try have hal := sg_arcs (x := x) (k := m) (by omega) hp1.2
            try have hen := arc_ends hal
            try have hse := steps_ends hen
            try have hsl := stepsOf_len x.arcs
            try have hdl := distF_len (n := x.codes.length) (s := 0) (by omega) hse
            refine T_skip ?_
            refine T_seq ?_
            refine T_block ?_
            refine T_seq ?_
            refine T_region hc ?_
            refine Ch.step (v := (.d (.ref (.agg [(.int .i64 ((x.arcs.getD m default).src)), (.int .i64 ((x.arcs.getD m default).sig)), (.bool ((x.arcs.getD m default).up)), (.int .i64 ((x.arcs.getD m default).dst))])))) rfl (.pure (.idx _ _ _ 85 (m) rfl Try.underlying32 sz85 rfl rfl rfl (get_map _ (by first | omega | (simp only [List.length_map, List.length_append, List.length_take, List.length_drop, List.length_cons, List.length_nil]; omega) | (simp; omega) | (simp; done))))) rfl rfl ?_
            refine Ch.step (v := (.d (.agg [(.int .i64 ((x.arcs.getD m default).src)), (.int .i64 ((x.arcs.getD m default).sig)), (.bool ((x.arcs.getD m default).up)), (.int .i64 ((x.arcs.getD m default).dst))]))) rfl (.pure (.loadRefA _ _ rfl ag85 sz85 rfl)) rfl rfl ?_
            refine Ch.step (v := (.ptr 6000 0)) rfl (.alloc 6000 _ rfl zer85) rfl rfl ?_
            refine Ch.step (v := .junk) rfl (.storePtr _ _ _ rfl rfl rfl (.aggD _) sz85 (Nat.le_of_ble_eq_true rfl)) rfl rfl ?_
            refine Ch.nil ?_
            refine T_seq ?_
            refine T_region hc ?_
            refine Ch.step (v := (.agg [(.d (.slice false 2 (x.sigs.map Sgn.d))), (.d (.slice false 1 (x.codes.map D.str))), (.d (.slice false 4 (x.arcs.map Arc.d)))])) rfl (.pure (.loadPtrA _ _ rfl ag34 sz34 rfl rfl (Nat.le_of_ble_eq_true rfl) rfl)) rfl rfl ?_
            refine Ch.step (v := (.agg [(.d (.int .i64 ((x.arcs.getD m default).src))), (.d (.int .i64 ((x.arcs.getD m default).sig))), (.d (.bool ((x.arcs.getD m default).up))), (.d (.int .i64 ((x.arcs.getD m default).dst)))])) rfl (.pure (.loadPtrA _ _ rfl ag85 sz85 rfl rfl (Nat.le_of_ble_eq_true rfl) rfl)) rfl rfl ?_
            refine Ch.step (v := (.d (.bool (arcB x (x.arcs.getD m default))))) rfl (.call 47000 70 _ _ _ en70 rfl (.inl rfl) (.cons (.lend (.agg (.cons (.d _) (.cons (.d _) (.cons (.d _) .nil))) rfl)) (.cons (.lend (.agg (.cons (.d _) (.cons (.d _) (.cons (.d _) (.cons (.d _) .nil)))) rfl)) .nil)) rfl rfl (sp_spec_l5Arc x (x.arcs.getD m default) (by first | assumption | omega | (rw [List.length_take]; omega) | (have := bulkF_mem hb _ (getD_mem (d := default) (by omega)); assumption) | (unfold bulkS at *; omega) | (simp_all; done)) (by first | assumption | omega | (rw [List.length_take]; omega) | (have := bulkF_mem hb _ (getD_mem (d := default) (by omega)); assumption) | (unfold bulkS at *; omega) | (simp_all; done)) (by assumption)) (.skip _ _ (.skip _ _ .nil)) rfl) rfl rfl ?_
            refine Ch.step (v := (.d (.bool (!(arcB x (x.arcs.getD m default)))))) rfl (.pure (.not _ _ rfl rfl)) rfl rfl ?_
            refine Ch.nil ?_
            refine T_cond (b := (!(arcB x (x.arcs.getD m default)))) rfl (fun h7 => ?_) (fun h7 => ?_)
            · replace h7 := nott h7
              refine T_seq ?_
              refine T_region hc ?_
              refine Ch.step (v := (.d (.bool false))) rfl (.pure (.assign _ rfl rfl)) rfl rfl ?_
              refine Ch.nil ?_
              refine T_ret ?_
              refine And.intro (.inr rfl) ?_
              exact Exists.intro [(.d (.bool false))] (Exists.intro [] (Exists.intro [] (And.intro (.cons (.tmp 2 rfl) .nil) (And.intro (.cons (.any _) .nil) (And.intro (Exp.of (congrArg D.bool (by first | (rw [sgB, h1]; rfl) | (rw [sgB, h1, h2]; rfl) | (rw [sgB, h1, h2, decide_eq_true (by omega)]; rfl) | (exact (sg_no_code (k := k) (by omega) (by assumption)).symm) | (exact (sg_no_arc (k := m) (by omega) (by first | assumption | (unfold arcB codeAt; simp_all; done))).symm) | (rw [← sg_end h1 h2 (by omega) hcl hal]; done) | (exact sg_end h1 h2 (by omega) hcl hal))) (.d _)) (And.intro rfl rfl))))))
            · replace h7 := notf h7
              refine T_skip ?_
              refine T_region hc ?_
              refine Ch.step (v := (.d (.int .i64 (((m : Nat) : Int) + 1)))) rfl (.pure (.int _ _ _ _ _ rfl rfl rfl (intV_add (by first | omega | (simp only [List.length_map, List.length_append, List.length_take, List.length_drop, List.length_cons, List.length_nil]; omega) | (simp; omega) | (simp; done)) (by first | omega | (simp only [List.length_map, List.length_append, List.length_take, List.length_drop, List.length_cons, List.length_nil]; omega) | (simp; omega) | (simp; done))))) rfl rfl ?_
              refine Ch.step (v := (.d (.int .i64 (((m : Nat) : Int) + 1)))) rfl (.pure (.move _ rfl rfl)) rfl rfl ?_
              refine Ch.nil ?_
              refine Exists.intro (m + 1) (And.intro ⟨by omega, upto_succ hp1.2 (by first | assumption | (unfold arcB codeAt; simp_all; done))⟩ (And.intro (by first | omega | (dsimp only; omega)) (Wk.of rfl rfl (And.intro rfl (And.intro rfl (And.intro rfl (And.intro (vI (by first | rfl | omega | (simp; done) | (simp; omega))) trivial)))) (And.intro rfl trivial))))
          · replace h6 := of_decide_eq_false h6
            try have hal := sg_arcs (x := x) (k := m) (by omega) hp1.2
            try have hen := arc_ends hal
            try have hse := steps_ends hen
            try have hsl := stepsOf_len x.arcs
            try have hdl := distF_len (n := x.codes.length) (s := 0) (by omega) hse
            refine T_exit ?_
            refine T_seq ?_
            refine T_region hc ?_
            refine Ch.step (v := (.agg [(.d (.slice false 2 (x.sigs.map Sgn.d))), (.d (.slice false 1 (x.codes.map D.str))), (.d (.slice false 4 (x.arcs.map Arc.d)))])) rfl (.pure (.loadPtrA _ _ rfl ag34 sz34 rfl rfl (Nat.le_of_ble_eq_true rfl) rfl)) rfl rfl ?_
            refine Ch.step (v := (.d (.bool (!hasI (distF x.codes.length (stepsOf x.arcs) 0) (-1))))) rfl (.call 51000 71 _ _ _ en71 rfl (.inl rfl) (.cons (.lend (.agg (.cons (.d _) (.cons (.d _) (.cons (.d _) .nil))) rfl)) .nil) rfl rfl (sp_spec_l5All x (by first | assumption | omega | (rw [List.length_take]; omega) | (have := bulkF_mem hb _ (getD_mem (d := default) (by omega)); assumption) | (unfold bulkS at *; omega) | (simp_all; done)) (by first | assumption | omega | (rw [List.length_take]; omega) | (have := bulkF_mem hb _ (getD_mem (d := default) (by omega)); assumption) | (unfold bulkS at *; omega) | (simp_all; done)) (by assumption)) (.skip _ _ .nil) rfl) rfl rfl ?_
            refine Ch.step (v := (.d (.bool (!hasI (distF x.codes.length (stepsOf x.arcs) 0) (-1))))) rfl (.pure (.assign _ rfl rfl)) rfl rfl ?_
            refine Ch.nil ?_
            refine T_ret ?_
            refine And.intro (.inr rfl) ?_
            exact Exists.intro [(.d (.bool (!hasI (distF x.codes.length (stepsOf x.arcs) 0) (-1))))] (Exists.intro [] (Exists.intro [] (And.intro (.cons (.tmp 2 rfl) .nil) (And.intro (.cons (.any _) .nil) (And.intro (Exp.of (congrArg D.bool (by first | (rw [sgB, h1]; rfl) | (rw [sgB, h1, h2]; rfl) | (rw [sgB, h1, h2, decide_eq_true (by omega)]; rfl) | (exact (sg_no_code (k := k) (by omega) (by assumption)).symm) | (exact (sg_no_arc (k := m) (by omega) (by first | assumption | (unfold arcB codeAt; simp_all; done))).symm) | (rw [← sg_end h1 h2 (by omega) hcl hal]; done) | (exact sg_end h1 h2 (by omega) hcl hal))) (.d _)) (And.intro rfl rfl))))))
    | false =>
      try have hw2 := within_two h2
      refine Ch.skip rfl rfl ?_
      refine Ch.skip rfl rfl ?_
      refine Ch.skip rfl rfl ?_
      refine Ch.skip rfl rfl ?_
      refine Ch.step (v := (.d (.bool true))) rfl (.pure (.pickT _ _ _ rfl rfl rfl)) rfl rfl ?_
      refine Ch.nil ?_
      refine T_cond (b := true) rfl (fun _ => ?_) (fun h => nomatch h)
      refine T_seq ?_
      refine T_region hc ?_
      refine Ch.step (v := (.d (.bool false))) rfl (.pure (.assign _ rfl rfl)) rfl rfl ?_
      refine Ch.nil ?_
      refine T_ret ?_
      refine And.intro (.inr rfl) ?_
      exact Exists.intro [(.d (.bool false))] (Exists.intro [] (Exists.intro [] (And.intro (.cons (.tmp 2 rfl) .nil) (And.intro (.cons (.any _) .nil) (And.intro (Exp.of (congrArg D.bool (by first | (rw [sgB, h1]; rfl) | (rw [sgB, h1, h2]; rfl) | (rw [sgB, h1, h2, decide_eq_true (by omega)]; rfl) | (exact (sg_no_code (k := k) (by omega) (by assumption)).symm) | (exact (sg_no_arc (k := m) (by omega) (by first | assumption | (unfold arcB codeAt; simp_all; done))).symm) | (rw [← sg_end h1 h2 (by omega) hcl hal]; done) | (exact sg_end h1 h2 (by omega) hcl hal))) (.d _)) (And.intro rfl rfl))))))
  | false =>
    try have hs8 := within_two (sigsB_len h1)
    refine Ch.skip rfl rfl ?_
    refine Ch.skip rfl rfl ?_
    refine Ch.skip rfl rfl ?_
    refine Ch.skip rfl rfl ?_
    refine Ch.skip rfl rfl ?_
    refine Ch.step (v := (.d (.bool true))) rfl (.pure (.pickT _ _ _ rfl rfl rfl)) rfl rfl ?_
    refine Ch.step (v := (.d (.bool true))) rfl (.pure (.move _ rfl rfl)) rfl rfl ?_
    refine Ch.skip rfl rfl ?_
    refine Ch.skip rfl rfl ?_
    refine Ch.skip rfl rfl ?_
    refine Ch.skip rfl rfl ?_
    refine Ch.step (v := (.d (.bool true))) rfl (.pure (.pickT _ _ _ rfl rfl rfl)) rfl rfl ?_
    refine Ch.nil ?_
    refine T_cond (b := true) rfl (fun _ => ?_) (fun h => nomatch h)
    refine T_seq ?_
    refine T_region hc ?_
    refine Ch.step (v := (.d (.bool false))) rfl (.pure (.assign _ rfl rfl)) rfl rfl ?_
    refine Ch.nil ?_
    refine T_ret ?_
    refine And.intro (.inr rfl) ?_
    exact Exists.intro [(.d (.bool false))] (Exists.intro [] (Exists.intro [] (And.intro (.cons (.tmp 2 rfl) .nil) (And.intro (.cons (.any _) .nil) (And.intro (Exp.of (congrArg D.bool (by first | (rw [sgB, h1]; rfl) | (rw [sgB, h1, h2]; rfl) | (rw [sgB, h1, h2, decide_eq_true (by omega)]; rfl) | (exact (sg_no_code (k := k) (by omega) (by assumption)).symm) | (exact (sg_no_arc (k := m) (by omega) (by first | assumption | (unfold arcB codeAt; simp_all; done))).symm) | (rw [← sg_end h1 h2 (by omega) hcl hal]; done) | (exact sg_end h1 h2 (by omega) hcl hal))) (.d _)) (And.intro rfl rfl))))))

theorem en43 : Enters Try.prog 43 := ⟨_, Try.func43, by kernel_rfl, rfl⟩

theorem en30 : Enters Try.prog 30 := ⟨_, Try.func30, by kernel_rfl, rfl⟩

theorem en44 : Enters Try.prog 44 := ⟨_, Try.func44, by kernel_rfl, rfl⟩

theorem en75 : Enters Try.prog 75 := ⟨_, Try.func75, by kernel_rfl, rfl⟩

theorem sp_laws_markSignalS (xs : List Sgn) (k : Nat) (hn : xs.length ≤ 1048576) (hk : k ≤ 2097152) : Sp Try.prog 43 [(.slice true 2 (xs.map Sgn.d)), (.int .i64 ((k : Nat) : Int))] [.any, .any] (.int .i64 ((k + 2 * xs.length : Nat) : Int)) := by
  refine Sp_intro (lend := false) Try.func43 rfl rfl rfl (fun h => nomatch h) (fun c hc hX => ?_)
  refine T_seq ?_
  refine T_region hc ?_
  refine Ch.step (v := (.d (.int .i64 0))) rfl (.pure (.assign _ rfl rfl)) rfl rfl ?_
  refine Ch.nil ?_
  refine T_seq ?_
  refine T_seq ?_
  refine T_region hc ?_
  refine Ch.step (v := (.d (.int .i64 0))) rfl (.pure (.assign _ rfl rfl)) rfl rfl ?_
  refine Ch.nil ?_
  refine T_block ?_
  refine T_loop (ι := Nat × List Sgn) (fun p => { n := 28, sl := [(0, (.row 1)), (1, (.d (.int .i64 ((k + 2 * p.1 : Nat) : Int)))), (5, (.d (.int .i64 ((p.1 : Nat) : Int))))], hp := [(1, (some (.row 2 (p.2.map Sgn.d))))], pin := [1] }) (fun p => p.1 ≤ xs.length ∧ p.2.length = xs.length) (fun p => xs.length - p.1) ⟨(0, xs), ⟨by dsimp only; omega, rfl⟩, (Wk.of rfl rfl (And.intro rfl (And.intro (vI (by first | rfl | omega | (simp; done) | (simp; omega))) (And.intro (vI (by first | rfl | omega | (simp; done) | (simp; omega))) trivial))) (And.intro (oR (by first | rfl | (rw [List.set_set, List.map_set]; rfl) | (rw [List.set_set, List.set_set, List.map_set]; rfl) | (rw [List.set_set, List.set_set, List.set_set, List.map_set]; rfl))) trivial))⟩ (fun p hp0 => ?_)
  have hql := hp0.2
  refine T_seq ?_
  refine T_seq ?_
  refine T_region hc ?_
  refine Ch.step (v := (.d (.int .i64 ((p.1 : Nat) : Int)))) rfl (.pure (.move _ rfl rfl)) rfl rfl ?_
  refine Ch.step (v := (.row 1)) rfl (.pure (.move _ rfl rfl)) rfl rfl ?_
  refine Ch.step (v := (.d (.int .i64 ((p.2.length : Nat) : Int)))) rfl (.pure (.len _ _ 88 rfl Try.underlying31 (.row rfl) (by simp))) rfl rfl ?_
  refine Ch.step (v := (.d (.bool (decide (((p.1 : Nat) : Int) < ((p.2.length : Nat) : Int)))))) rfl (.pure (.int _ _ _ _ _ rfl rfl rfl rfl)) rfl rfl ?_
  refine Ch.nil ?_
  refine T_cond (b := (decide (((p.1 : Nat) : Int) < ((p.2.length : Nat) : Int)))) rfl (fun h1 => ?_) (fun h1 => ?_)
  · replace h1 := of_decide_eq_true h1
    refine T_skip ?_
    refine T_seq ?_
    refine T_block ?_
    refine T_seq ?_
    refine T_region hc ?_
    refine Ch.step (v := (.row 1)) rfl (.pure (.move _ rfl rfl)) rfl rfl ?_
    refine Ch.step (v := (.d (.int .i64 ((p.1 : Nat) : Int)))) rfl (.pure (.move _ rfl rfl)) rfl rfl ?_
    refine Ch.step (v := (.d (.int .i64 ((k + 2 * p.1 : Nat) : Int)))) rfl (.pure (.move _ rfl rfl)) rfl rfl ?_
    refine Ch.step (v := (.d (.str (mtext (k + 2 * p.1))))) rfl (.call 15000 62 _ _ _ en62 rfl (.inl rfl) (.cons (.d _) .nil) rfl rfl (sp_laws_markText (k + 2 * p.1) (by first | omega | assumption | (exact hx _ (getD_mem (by omega))) | (exact hx _ (by assumption)) | (exact Nat.le_trans (hx _ (by assumption)) (by omega)) | (simp only [List.length_append, List.length_take, List.length_drop, List.length_cons, List.length_nil]; omega) | (simp_all; done))) (.skip _ _ .nil) rfl) rfl rfl ?_
    refine Ch.step (v := (.el 1 2 p.1 0)) rfl (.pure (.idxRow _ _ _ 88 (p.1) rfl Try.underlying31 sz88 rfl rfl rfl rfl (by first | omega | (simp only [List.length_map, List.length_set]; omega) | (simp; omega)))) rfl rfl ?_
    refine Ch.step (v := (.el 1 2 p.1 0)) rfl (.pure (.fldEl _ _ _ rfl fld88_0 rfl)) rfl rfl ?_
    refine Ch.step (v := .junk) rfl (.storeEl (y' := (.agg [(.str (mtext (k + 2 * p.1))), (.int .i64 ((p.2.getD p.1 default).kind))])) _ _ _ rfl rfl rfl (.d _) rfl sz9 rfl (get_map _ (by first | omega | (simp only [List.length_map, List.length_append, List.length_take, List.length_drop, List.length_cons, List.length_nil]; omega) | (simp; omega) | (simp; done))) rfl rfl) rfl rfl ?_
    refine Ch.nil ?_
    refine T_seq ?_
    refine T_region hc ?_
    refine Ch.step (v := (.d (.int .i64 ((k + 2 * p.1 : Nat) : Int)))) rfl (.pure (.move _ rfl rfl)) rfl rfl ?_
    refine Ch.step (v := (.d (.int .i64 (((k + 2 * p.1 : Nat) : Int) + 1)))) rfl (.pure (.int _ _ _ _ _ rfl rfl rfl (intV_add (by first | omega | (simp only [List.length_map, List.length_append, List.length_take, List.length_drop, List.length_cons, List.length_nil]; omega) | (simp; omega) | (simp; done)) (by first | omega | (simp only [List.length_map, List.length_append, List.length_take, List.length_drop, List.length_cons, List.length_nil]; omega) | (simp; omega) | (simp; done))))) rfl rfl ?_
    refine Ch.step (v := (.d (.int .i64 (((k + 2 * p.1 : Nat) : Int) + 1)))) rfl (.pure (.assign _ rfl rfl)) rfl rfl ?_
    refine Ch.nil ?_
    refine T_seq ?_
    refine T_region hc ?_
    refine Ch.step (v := (.row 1)) rfl (.pure (.move _ rfl rfl)) rfl rfl ?_
    refine Ch.step (v := (.d (.int .i64 ((p.1 : Nat) : Int)))) rfl (.pure (.move _ rfl rfl)) rfl rfl ?_
    refine Ch.step (v := (.d (.int .i64 (((k + 2 * p.1 : Nat) : Int) + 1)))) rfl (.pure (.move _ rfl rfl)) rfl rfl ?_
    refine Ch.step (v := (.el 1 2 p.1 0)) rfl (.pure (.idxRow _ _ _ 88 (p.1) rfl Try.underlying31 sz88 rfl rfl rfl rfl (by first | omega | (simp only [List.length_map, List.length_set]; omega) | (simp; omega)))) rfl rfl ?_
    refine Ch.step (v := (.el 1 2 p.1 1)) rfl (.pure (.fldEl _ _ _ rfl fld88_1 rfl)) rfl rfl ?_
    refine Ch.step (v := .junk) rfl (.storeEl (y' := (.agg [(.str (mtext (k + 2 * p.1))), (.int .i64 (((k + 2 * p.1 : Nat) : Int) + 1))])) _ _ _ rfl rfl rfl (.d _) rfl sz3 rfl (get_set (by first | omega | (simp only [List.length_map, List.length_set]; omega) | (simp; omega))) rfl rfl) rfl rfl ?_
    refine Ch.nil ?_
    refine T_region hc ?_
    refine Ch.step (v := (.d (.int .i64 (((k + 2 * p.1 : Nat) : Int) + 1)))) rfl (.pure (.move _ rfl rfl)) rfl rfl ?_
    refine Ch.step (v := (.d (.int .i64 ((((k + 2 * p.1 : Nat) : Int) + 1) + 1)))) rfl (.pure (.int _ _ _ _ _ rfl rfl rfl (intV_add (by first | omega | (simp only [List.length_map, List.length_append, List.length_take, List.length_drop, List.length_cons, List.length_nil]; omega) | (simp; omega) | (simp; done)) (by first | omega | (simp only [List.length_map, List.length_append, List.length_take, List.length_drop, List.length_cons, List.length_nil]; omega) | (simp; omega) | (simp; done))))) rfl rfl ?_
    refine Ch.step (v := (.d (.int .i64 ((((k + 2 * p.1 : Nat) : Int) + 1) + 1)))) rfl (.pure (.assign _ rfl rfl)) rfl rfl ?_
    refine Ch.nil ?_
    refine T_region hc ?_
    refine Ch.step (v := (.d (.int .i64 ((p.1 : Nat) : Int)))) rfl (.pure (.move _ rfl rfl)) rfl rfl ?_
    refine Ch.step (v := (.d (.int .i64 (((p.1 : Nat) : Int) + 1)))) rfl (.pure (.int _ _ _ _ _ rfl rfl rfl (intV_add (by first | omega | (simp only [List.length_map, List.length_append, List.length_take, List.length_drop, List.length_cons, List.length_nil]; omega) | (simp; omega) | (simp; done)) (by first | omega | (simp only [List.length_map, List.length_append, List.length_take, List.length_drop, List.length_cons, List.length_nil]; omega) | (simp; omega) | (simp; done))))) rfl rfl ?_
    refine Ch.step (v := (.d (.int .i64 (((p.1 : Nat) : Int) + 1)))) rfl (.pure (.assign _ rfl rfl)) rfl rfl ?_
    refine Ch.nil ?_
    refine Exists.intro ((p.1 + 1, p.2.set p.1 (Sgn.mk (mtext (k + 2 * p.1)) ((k + 2 * p.1 + 1 : Nat) : Int)))) (And.intro ⟨by dsimp only; omega, by dsimp only; rw [List.length_set]; exact hp0.2⟩ (And.intro (by first | omega | (dsimp only; omega)) (Wk.of rfl rfl (And.intro rfl (And.intro (vI (by first | rfl | omega | (simp; done) | (simp; omega))) (And.intro (vI (by first | rfl | omega | (simp; done) | (simp; omega))) trivial))) (And.intro (oR (by first | rfl | (rw [List.set_set, List.map_set]; rfl) | (rw [List.set_set, List.set_set, List.map_set]; rfl) | (rw [List.set_set, List.set_set, List.set_set, List.map_set]; rfl))) trivial))))
  · replace h1 := of_decide_eq_false h1
    refine T_exit ?_
    refine T_seq ?_
    refine T_region hc ?_
    refine Ch.step (v := (.d (.int .i64 ((k + 2 * p.1 : Nat) : Int)))) rfl (.pure (.move _ rfl rfl)) rfl rfl ?_
    refine Ch.step (v := (.d (.int .i64 ((k + 2 * p.1 : Nat) : Int)))) rfl (.pure (.assign _ rfl rfl)) rfl rfl ?_
    refine Ch.nil ?_
    refine T_ret ?_
    refine And.intro (.inr rfl) ?_
    exact Exists.intro [(.d (.int .i64 ((k + 2 * p.1 : Nat) : Int)))] (Exists.intro [] (Exists.intro [] (And.intro (.cons (.tmp 4 rfl) .nil) (And.intro (.cons (.any _) (.cons (.any _) .nil)) (And.intro (Exp.of (congrArg (D.int .i64) (by omega)) (.d _)) (And.intro rfl rfl))))))

theorem sp_laws_markArcS (xs : List Arc) (k : Nat) (hn : xs.length ≤ 1048576) (hk : k ≤ 4194304) : Sp Try.prog 44 [(.slice true 4 (xs.map Arc.d)), (.int .i64 ((k : Nat) : Int))] [.any, .any] (.int .i64 ((k + 4 * xs.length : Nat) : Int)) := by
  refine Sp_intro (lend := false) Try.func44 rfl rfl rfl (fun h => nomatch h) (fun c hc hX => ?_)
  refine T_seq ?_
  refine T_region hc ?_
  refine Ch.step (v := (.d (.int .i64 0))) rfl (.pure (.assign _ rfl rfl)) rfl rfl ?_
  refine Ch.nil ?_
  refine T_seq ?_
  refine T_seq ?_
  refine T_region hc ?_
  refine Ch.step (v := (.d (.int .i64 0))) rfl (.pure (.assign _ rfl rfl)) rfl rfl ?_
  refine Ch.nil ?_
  refine T_block ?_
  refine T_loop (ι := Nat × List Arc) (fun p => { n := 43, sl := [(0, (.row 1)), (1, (.d (.int .i64 ((k + 4 * p.1 : Nat) : Int)))), (5, (.d (.int .i64 ((p.1 : Nat) : Int))))], hp := [(1, (some (.row 4 (p.2.map Arc.d))))], pin := [1] }) (fun p => p.1 ≤ xs.length ∧ p.2.length = xs.length) (fun p => xs.length - p.1) ⟨(0, xs), ⟨by dsimp only; omega, rfl⟩, (Wk.of rfl rfl (And.intro rfl (And.intro (vI (by first | rfl | omega | (simp; done) | (simp; omega))) (And.intro (vI (by first | rfl | omega | (simp; done) | (simp; omega))) trivial))) (And.intro (oR (by first | rfl | (rw [List.set_set, List.map_set]; rfl) | (rw [List.set_set, List.set_set, List.map_set]; rfl) | (rw [List.set_set, List.set_set, List.set_set, List.map_set]; rfl))) trivial))⟩ (fun p hp0 => ?_)
  have hql := hp0.2
  refine T_seq ?_
  refine T_seq ?_
  refine T_region hc ?_
  refine Ch.step (v := (.d (.int .i64 ((p.1 : Nat) : Int)))) rfl (.pure (.move _ rfl rfl)) rfl rfl ?_
  refine Ch.step (v := (.row 1)) rfl (.pure (.move _ rfl rfl)) rfl rfl ?_
  refine Ch.step (v := (.d (.int .i64 ((p.2.length : Nat) : Int)))) rfl (.pure (.len _ _ 85 rfl Try.underlying32 (.row rfl) (by simp))) rfl rfl ?_
  refine Ch.step (v := (.d (.bool (decide (((p.1 : Nat) : Int) < ((p.2.length : Nat) : Int)))))) rfl (.pure (.int _ _ _ _ _ rfl rfl rfl rfl)) rfl rfl ?_
  refine Ch.nil ?_
  refine T_cond (b := (decide (((p.1 : Nat) : Int) < ((p.2.length : Nat) : Int)))) rfl (fun h1 => ?_) (fun h1 => ?_)
  · replace h1 := of_decide_eq_true h1
    refine T_skip ?_
    refine T_seq ?_
    refine T_block ?_
    refine T_seq ?_
    refine T_region hc ?_
    refine Ch.step (v := (.row 1)) rfl (.pure (.move _ rfl rfl)) rfl rfl ?_
    refine Ch.step (v := (.d (.int .i64 ((p.1 : Nat) : Int)))) rfl (.pure (.move _ rfl rfl)) rfl rfl ?_
    refine Ch.step (v := (.d (.int .i64 ((k + 4 * p.1 : Nat) : Int)))) rfl (.pure (.move _ rfl rfl)) rfl rfl ?_
    refine Ch.step (v := (.el 1 4 p.1 0)) rfl (.pure (.idxRow _ _ _ 85 (p.1) rfl Try.underlying32 sz85 rfl rfl rfl rfl (by first | omega | (simp only [List.length_map, List.length_set]; omega) | (simp; omega)))) rfl rfl ?_
    refine Ch.step (v := (.el 1 4 p.1 0)) rfl (.pure (.fldEl _ _ _ rfl fld85_0 rfl)) rfl rfl ?_
    refine Ch.step (v := .junk) rfl (.storeEl (y' := (.agg [(.int .i64 ((k + 4 * p.1 : Nat) : Int)), (.int .i64 ((p.2.getD p.1 default).sig)), (.bool ((p.2.getD p.1 default).up)), (.int .i64 ((p.2.getD p.1 default).dst))])) _ _ _ rfl rfl rfl (.d _) rfl sz3 rfl (get_map _ (by first | omega | (simp only [List.length_map, List.length_append, List.length_take, List.length_drop, List.length_cons, List.length_nil]; omega) | (simp; omega) | (simp; done))) rfl rfl) rfl rfl ?_
    refine Ch.nil ?_
    refine T_seq ?_
    refine T_region hc ?_
    refine Ch.step (v := (.d (.int .i64 ((k + 4 * p.1 : Nat) : Int)))) rfl (.pure (.move _ rfl rfl)) rfl rfl ?_
    refine Ch.step (v := (.d (.int .i64 (((k + 4 * p.1 : Nat) : Int) + 1)))) rfl (.pure (.int _ _ _ _ _ rfl rfl rfl (intV_add (by first | omega | (simp only [List.length_map, List.length_append, List.length_take, List.length_drop, List.length_cons, List.length_nil]; omega) | (simp; omega) | (simp; done)) (by first | omega | (simp only [List.length_map, List.length_append, List.length_take, List.length_drop, List.length_cons, List.length_nil]; omega) | (simp; omega) | (simp; done))))) rfl rfl ?_
    refine Ch.step (v := (.d (.int .i64 (((k + 4 * p.1 : Nat) : Int) + 1)))) rfl (.pure (.assign _ rfl rfl)) rfl rfl ?_
    refine Ch.nil ?_
    refine T_seq ?_
    refine T_region hc ?_
    refine Ch.step (v := (.row 1)) rfl (.pure (.move _ rfl rfl)) rfl rfl ?_
    refine Ch.step (v := (.d (.int .i64 ((p.1 : Nat) : Int)))) rfl (.pure (.move _ rfl rfl)) rfl rfl ?_
    refine Ch.step (v := (.d (.int .i64 (((k + 4 * p.1 : Nat) : Int) + 1)))) rfl (.pure (.move _ rfl rfl)) rfl rfl ?_
    refine Ch.step (v := (.el 1 4 p.1 0)) rfl (.pure (.idxRow _ _ _ 85 (p.1) rfl Try.underlying32 sz85 rfl rfl rfl rfl (by first | omega | (simp only [List.length_map, List.length_set]; omega) | (simp; omega)))) rfl rfl ?_
    refine Ch.step (v := (.el 1 4 p.1 1)) rfl (.pure (.fldEl _ _ _ rfl fld85_1 rfl)) rfl rfl ?_
    refine Ch.step (v := .junk) rfl (.storeEl (y' := (.agg [(.int .i64 ((k + 4 * p.1 : Nat) : Int)), (.int .i64 (((k + 4 * p.1 : Nat) : Int) + 1)), (.bool ((p.2.getD p.1 default).up)), (.int .i64 ((p.2.getD p.1 default).dst))])) _ _ _ rfl rfl rfl (.d _) rfl sz3 rfl (get_set (by first | omega | (simp only [List.length_map, List.length_set]; omega) | (simp; omega))) rfl rfl) rfl rfl ?_
    refine Ch.nil ?_
    refine T_seq ?_
    refine T_region hc ?_
    refine Ch.step (v := (.d (.int .i64 (((k + 4 * p.1 : Nat) : Int) + 1)))) rfl (.pure (.move _ rfl rfl)) rfl rfl ?_
    refine Ch.step (v := (.d (.int .i64 ((((k + 4 * p.1 : Nat) : Int) + 1) + 1)))) rfl (.pure (.int _ _ _ _ _ rfl rfl rfl (intV_add (by first | omega | (simp only [List.length_map, List.length_append, List.length_take, List.length_drop, List.length_cons, List.length_nil]; omega) | (simp; omega) | (simp; done)) (by first | omega | (simp only [List.length_map, List.length_append, List.length_take, List.length_drop, List.length_cons, List.length_nil]; omega) | (simp; omega) | (simp; done))))) rfl rfl ?_
    refine Ch.step (v := (.d (.int .i64 ((((k + 4 * p.1 : Nat) : Int) + 1) + 1)))) rfl (.pure (.assign _ rfl rfl)) rfl rfl ?_
    refine Ch.nil ?_
    refine T_seq ?_
    refine T_region hc ?_
    refine Ch.step (v := (.row 1)) rfl (.pure (.move _ rfl rfl)) rfl rfl ?_
    refine Ch.step (v := (.d (.int .i64 ((p.1 : Nat) : Int)))) rfl (.pure (.move _ rfl rfl)) rfl rfl ?_
    refine Ch.step (v := (.d (.int .i64 ((((k + 4 * p.1 : Nat) : Int) + 1) + 1)))) rfl (.pure (.move _ rfl rfl)) rfl rfl ?_
    refine Ch.step (v := (.d (.int .i64 ((((k + 4 * p.1 + 1) + 1) % 3 : Nat) : Int)))) rfl (.pure (.int _ _ _ _ _ rfl rfl rfl (remN (n := ((k + 4 * p.1 + 1) + 1)) (d := 3) (by omega) rfl (by decide)))) rfl rfl ?_
    refine Ch.step (v := (.d (.bool (decide (((((k + 4 * p.1 + 1) + 1) % 3 : Nat) : Int) = 0))))) rfl (.pure (.int _ _ _ _ _ rfl rfl rfl rfl)) rfl rfl ?_
    refine Ch.step (v := (.el 1 4 p.1 0)) rfl (.pure (.idxRow _ _ _ 85 (p.1) rfl Try.underlying32 sz85 rfl rfl rfl rfl (by first | omega | (simp only [List.length_map, List.length_set]; omega) | (simp; omega)))) rfl rfl ?_
    refine Ch.step (v := (.el 1 4 p.1 2)) rfl (.pure (.fldEl _ _ _ rfl fld85_2 rfl)) rfl rfl ?_
    refine Ch.step (v := .junk) rfl (.storeEl (y' := (.agg [(.int .i64 ((k + 4 * p.1 : Nat) : Int)), (.int .i64 (((k + 4 * p.1 : Nat) : Int) + 1)), (.bool (decide (((((k + 4 * p.1 + 1) + 1) % 3 : Nat) : Int) = 0))), (.int .i64 ((p.2.getD p.1 default).dst))])) _ _ _ rfl rfl rfl (.d _) rfl sz4 rfl (get_set (by first | omega | (simp only [List.length_map, List.length_set]; omega) | (simp; omega))) rfl rfl) rfl rfl ?_
    refine Ch.nil ?_
    refine T_seq ?_
    refine T_region hc ?_
    refine Ch.step (v := (.d (.int .i64 ((((k + 4 * p.1 : Nat) : Int) + 1) + 1)))) rfl (.pure (.move _ rfl rfl)) rfl rfl ?_
    refine Ch.step (v := (.d (.int .i64 (((((k + 4 * p.1 : Nat) : Int) + 1) + 1) + 1)))) rfl (.pure (.int _ _ _ _ _ rfl rfl rfl (intV_add (by first | omega | (simp only [List.length_map, List.length_append, List.length_take, List.length_drop, List.length_cons, List.length_nil]; omega) | (simp; omega) | (simp; done)) (by first | omega | (simp only [List.length_map, List.length_append, List.length_take, List.length_drop, List.length_cons, List.length_nil]; omega) | (simp; omega) | (simp; done))))) rfl rfl ?_
    refine Ch.step (v := (.d (.int .i64 (((((k + 4 * p.1 : Nat) : Int) + 1) + 1) + 1)))) rfl (.pure (.assign _ rfl rfl)) rfl rfl ?_
    refine Ch.nil ?_
    refine T_seq ?_
    refine T_region hc ?_
    refine Ch.step (v := (.row 1)) rfl (.pure (.move _ rfl rfl)) rfl rfl ?_
    refine Ch.step (v := (.d (.int .i64 ((p.1 : Nat) : Int)))) rfl (.pure (.move _ rfl rfl)) rfl rfl ?_
    refine Ch.step (v := (.d (.int .i64 (((((k + 4 * p.1 : Nat) : Int) + 1) + 1) + 1)))) rfl (.pure (.move _ rfl rfl)) rfl rfl ?_
    refine Ch.step (v := (.el 1 4 p.1 0)) rfl (.pure (.idxRow _ _ _ 85 (p.1) rfl Try.underlying32 sz85 rfl rfl rfl rfl (by first | omega | (simp only [List.length_map, List.length_set]; omega) | (simp; omega)))) rfl rfl ?_
    refine Ch.step (v := (.el 1 4 p.1 3)) rfl (.pure (.fldEl _ _ _ rfl fld85_3 rfl)) rfl rfl ?_
    refine Ch.step (v := .junk) rfl (.storeEl (y' := (.agg [(.int .i64 ((k + 4 * p.1 : Nat) : Int)), (.int .i64 (((k + 4 * p.1 : Nat) : Int) + 1)), (.bool (decide (((((k + 4 * p.1 + 1) + 1) % 3 : Nat) : Int) = 0))), (.int .i64 (((((k + 4 * p.1 : Nat) : Int) + 1) + 1) + 1))])) _ _ _ rfl rfl rfl (.d _) rfl sz3 rfl (get_set (by first | omega | (simp only [List.length_map, List.length_set]; omega) | (simp; omega))) rfl rfl) rfl rfl ?_
    refine Ch.nil ?_
    refine T_region hc ?_
    refine Ch.step (v := (.d (.int .i64 (((((k + 4 * p.1 : Nat) : Int) + 1) + 1) + 1)))) rfl (.pure (.move _ rfl rfl)) rfl rfl ?_
    refine Ch.step (v := (.d (.int .i64 ((((((k + 4 * p.1 : Nat) : Int) + 1) + 1) + 1) + 1)))) rfl (.pure (.int _ _ _ _ _ rfl rfl rfl (intV_add (by first | omega | (simp only [List.length_map, List.length_append, List.length_take, List.length_drop, List.length_cons, List.length_nil]; omega) | (simp; omega) | (simp; done)) (by first | omega | (simp only [List.length_map, List.length_append, List.length_take, List.length_drop, List.length_cons, List.length_nil]; omega) | (simp; omega) | (simp; done))))) rfl rfl ?_
    refine Ch.step (v := (.d (.int .i64 ((((((k + 4 * p.1 : Nat) : Int) + 1) + 1) + 1) + 1)))) rfl (.pure (.assign _ rfl rfl)) rfl rfl ?_
    refine Ch.nil ?_
    refine T_region hc ?_
    refine Ch.step (v := (.d (.int .i64 ((p.1 : Nat) : Int)))) rfl (.pure (.move _ rfl rfl)) rfl rfl ?_
    refine Ch.step (v := (.d (.int .i64 (((p.1 : Nat) : Int) + 1)))) rfl (.pure (.int _ _ _ _ _ rfl rfl rfl (intV_add (by first | omega | (simp only [List.length_map, List.length_append, List.length_take, List.length_drop, List.length_cons, List.length_nil]; omega) | (simp; omega) | (simp; done)) (by first | omega | (simp only [List.length_map, List.length_append, List.length_take, List.length_drop, List.length_cons, List.length_nil]; omega) | (simp; omega) | (simp; done))))) rfl rfl ?_
    refine Ch.step (v := (.d (.int .i64 (((p.1 : Nat) : Int) + 1)))) rfl (.pure (.assign _ rfl rfl)) rfl rfl ?_
    refine Ch.nil ?_
    refine Exists.intro ((p.1 + 1, p.2.set p.1 (Arc.mk ((k + 4 * p.1 : Nat) : Int) ((k + 4 * p.1 + 1 : Nat) : Int) (decide ((((k + 4 * p.1 + 1 + 1) % 3 : Nat) : Int) = 0)) ((k + 4 * p.1 + 1 + 1 + 1 : Nat) : Int)))) (And.intro ⟨by dsimp only; omega, by dsimp only; rw [List.length_set]; exact hp0.2⟩ (And.intro (by first | omega | (dsimp only; omega)) (Wk.of rfl rfl (And.intro rfl (And.intro (vI (by first | rfl | omega | (simp; done) | (simp; omega))) (And.intro (vI (by first | rfl | omega | (simp; done) | (simp; omega))) trivial))) (And.intro (oR (by first | rfl | (rw [List.set_set, List.map_set]; rfl) | (rw [List.set_set, List.set_set, List.map_set]; rfl) | (rw [List.set_set, List.set_set, List.set_set, List.map_set]; rfl))) trivial))))
  · replace h1 := of_decide_eq_false h1
    refine T_exit ?_
    refine T_seq ?_
    refine T_region hc ?_
    refine Ch.step (v := (.d (.int .i64 ((k + 4 * p.1 : Nat) : Int)))) rfl (.pure (.move _ rfl rfl)) rfl rfl ?_
    refine Ch.step (v := (.d (.int .i64 ((k + 4 * p.1 : Nat) : Int)))) rfl (.pure (.assign _ rfl rfl)) rfl rfl ?_
    refine Ch.nil ?_
    refine T_ret ?_
    refine And.intro (.inr rfl) ?_
    exact Exists.intro [(.d (.int .i64 ((k + 4 * p.1 : Nat) : Int)))] (Exists.intro [] (Exists.intro [] (And.intro (.cons (.tmp 4 rfl) .nil) (And.intro (.cons (.any _) (.cons (.any _) .nil)) (And.intro (Exp.of (congrArg (D.int .i64) (by omega)) (.d _)) (And.intro rfl rfl))))))

theorem sp_laws_markStateGraph (x : Sgr) (k : Nat) (hb : x.bulk ≤ 1048576) (hk : k ≤ 1) : Sp Try.prog 14 [(.agg [(.slice true 2 (x.sigs.map Sgn.d)), (.slice true 1 (x.codes.map D.str)), (.slice true 4 (x.arcs.map Arc.d))]), (.int .i64 ((k : Nat) : Int))] [.any, .any] (.int .i64 ((k + 2 * x.sigs.length + x.codes.length + 4 * x.arcs.length : Nat) : Int)) := by
  refine Sp_intro (lend := false) Try.func14 rfl rfl rfl (fun h => nomatch h) (fun c hc hX => ?_)
  obtain ⟨hp0, hp1, hp2⟩ := Sgr.parts hb
  have hn0 := bulkF_len hp0
  have hn1 := bulk_len hp1
  have hx1 := bulk_mem hp1
  have hn2 := bulkF_len hp2
  refine T_seq ?_
  refine T_region hc ?_
  refine Ch.step (v := (.ptr 2000 0)) rfl (.box 2000 _ _ rfl (.agg _ rfl)) rfl rfl ?_
  refine Ch.step (v := (.d (.int .i64 0))) rfl (.pure (.assign _ rfl rfl)) rfl rfl ?_
  refine Ch.nil ?_
  refine T_seq ?_
  refine T_region hc ?_
  refine Ch.step (v := (.ptr 2000 0)) rfl (.pure (.fldPtr _ _ _ rfl fld34_0 rfl)) rfl rfl ?_
  refine Ch.step (v := (.row 1)) rfl (.pure (.loadPtr1 _ _ rfl ag31 rfl rfl rfl)) rfl rfl ?_
  refine Ch.step (v := (.d (.int .i64 ((k : Nat) : Int)))) rfl (.pure (.move _ rfl rfl)) rfl rfl ?_
  refine Ch.step (v := (.d (.int .i64 ((k + 2 * x.sigs.length : Nat) : Int)))) rfl (.call 8000 43 _ _ _ en43 rfl (.inl rfl) (.cons (.row rfl) (.cons (.d _) .nil)) rfl rfl (sp_laws_markSignalS x.sigs k (by first | assumption | omega | (rw [List.length_take]; omega) | (have := bulkF_mem hb _ (getD_mem (d := default) (by omega)); assumption) | (unfold bulkS at *; omega) | (simp_all; done)) (by first | assumption | omega | (rw [List.length_take]; omega) | (have := bulkF_mem hb _ (getD_mem (d := default) (by omega)); assumption) | (unfold bulkS at *; omega) | (simp_all; done))) (.skip _ _ (.skip _ _ .nil)) rfl) rfl rfl ?_
  refine Ch.step (v := (.d (.int .i64 ((k + 2 * x.sigs.length : Nat) : Int)))) rfl (.pure (.assign _ rfl rfl)) rfl rfl ?_
  refine Ch.nil ?_
  refine T_seq ?_
  refine T_region hc ?_
  refine Ch.step (v := (.ptr 2000 1)) rfl (.pure (.fldPtr _ _ _ rfl fld34_1 rfl)) rfl rfl ?_
  refine Ch.step (v := (.row 2)) rfl (.pure (.loadPtr1 _ _ rfl ag23 rfl rfl rfl)) rfl rfl ?_
  refine Ch.step (v := (.d (.int .i64 ((k + 2 * x.sigs.length : Nat) : Int)))) rfl (.pure (.move _ rfl rfl)) rfl rfl ?_
  refine Ch.step (v := (.d (.int .i64 (((k + 2 * x.sigs.length) + x.codes.length : Nat) : Int)))) rfl (.call 12000 30 _ _ _ en30 rfl (.inl rfl) (.cons (.row rfl) (.cons (.d _) .nil)) rfl (sol rfl (solids_c (solid_row (fun _ => rfl) _) rfl)) (sp_laws_markStringS x.codes (k + 2 * x.sigs.length) (by first | omega | assumption | (exact hx _ (getD_mem (by omega))) | (exact hx _ (by assumption)) | (exact Nat.le_trans (hx _ (by assumption)) (by omega)) | (simp only [List.length_append, List.length_take, List.length_drop, List.length_cons, List.length_nil]; omega) | (simp_all; done)) (by first | omega | assumption | (exact hx _ (getD_mem (by omega))) | (exact hx _ (by assumption)) | (exact Nat.le_trans (hx _ (by assumption)) (by omega)) | (simp only [List.length_append, List.length_take, List.length_drop, List.length_cons, List.length_nil]; omega) | (simp_all; done))) (.row _ _ _ (.skip _ _ .nil)) rfl) rfl rfl ?_
  refine Ch.step (v := (.d (.int .i64 (((k + 2 * x.sigs.length) + x.codes.length : Nat) : Int)))) rfl (.pure (.assign _ rfl rfl)) rfl rfl ?_
  refine Ch.nil ?_
  refine T_seq ?_
  refine T_region hc ?_
  refine Ch.step (v := (.ptr 2000 2)) rfl (.pure (.fldPtr _ _ _ rfl fld34_2 rfl)) rfl rfl ?_
  refine Ch.step (v := (.row 3)) rfl (.pure (.loadPtr1 _ _ rfl ag32 rfl rfl rfl)) rfl rfl ?_
  refine Ch.step (v := (.d (.int .i64 (((k + 2 * x.sigs.length) + x.codes.length : Nat) : Int)))) rfl (.pure (.move _ rfl rfl)) rfl rfl ?_
  refine Ch.step (v := (.d (.int .i64 ((((k + 2 * x.sigs.length) + x.codes.length) + 4 * x.arcs.length : Nat) : Int)))) rfl (.call 16000 44 _ _ _ en44 rfl (.inl rfl) (.cons (.row rfl) (.cons (.d _) .nil)) rfl rfl (sp_laws_markArcS x.arcs ((k + 2 * x.sigs.length) + x.codes.length) (by first | assumption | omega | (rw [List.length_take]; omega) | (have := bulkF_mem hb _ (getD_mem (d := default) (by omega)); assumption) | (unfold bulkS at *; omega) | (simp_all; done)) (by first | assumption | omega | (rw [List.length_take]; omega) | (have := bulkF_mem hb _ (getD_mem (d := default) (by omega)); assumption) | (unfold bulkS at *; omega) | (simp_all; done))) (.skip _ _ (.skip _ _ .nil)) rfl) rfl rfl ?_
  refine Ch.step (v := (.d (.int .i64 ((((k + 2 * x.sigs.length) + x.codes.length) + 4 * x.arcs.length : Nat) : Int)))) rfl (.pure (.assign _ rfl rfl)) rfl rfl ?_
  refine Ch.nil ?_
  refine T_seq ?_
  refine T_region hc ?_
  refine Ch.step (v := (.d (.int .i64 ((((k + 2 * x.sigs.length) + x.codes.length) + 4 * x.arcs.length : Nat) : Int)))) rfl (.pure (.move _ rfl rfl)) rfl rfl ?_
  refine Ch.step (v := (.d (.int .i64 ((((k + 2 * x.sigs.length) + x.codes.length) + 4 * x.arcs.length : Nat) : Int)))) rfl (.pure (.assign _ rfl rfl)) rfl rfl ?_
  refine Ch.nil ?_
  refine T_ret ?_
  refine And.intro (.inr rfl) ?_
  exact Exists.intro [(.d (.int .i64 ((((k + 2 * x.sigs.length) + x.codes.length) + 4 * x.arcs.length : Nat) : Int)))] (Exists.intro [] (Exists.intro [] (And.intro (.cons (.tmp 4 rfl) .nil) (And.intro (.cons (.any _) (.cons (.any _) .nil)) (And.intro (Exp.of (congrArg (D.int .i64) (by omega)) (.d _)) (And.intro rfl rfl))))))

structure SgOk (x : Sgr) : Prop where
  sigs : sigsB x.sigs = true
  eight : 1 ≤ x.sigs.length ∧ x.sigs.length ≤ 8
  len : 1 ≤ x.codes.length ∧ x.codes.length ≤ 300
  few : x.arcs.length ≤ 4000
  codes : allOf x.codes (fun u => codeN u (x.sigs.length : Int)) = true
  arcs : allOf x.arcs (arcB x) = true
  ends : ends x.codes.length x.arcs

theorem sg_has {x : Sgr} (h : sgB x = true) : SgOk x := by
  unfold sgB at h
  simp only [Bool.and_eq_true] at h
  obtain ⟨h1, h2, h3, h4, h5, _⟩ := h
  have h6 := within_two h2
  have h7 := within_two (sigsB_len h1)
  have h8 : ¬ (4000 : Int) < (x.arcs.length : Int) := by simpa using h3
  exact ⟨h1, by omega, by omega, by omega, h4, h5, arc_ends h5⟩

theorem SgOk.sig {x : Sgr} (h : SgOk x) : ∀ a ∈ x.arcs, a.sig < (x.sigs.length : Int) ∧ (0 ≤ a.sig ∨ a.sig = -1) := by
  intro a ha
  obtain ⟨j, hj, rfl⟩ := List.mem_iff_getElem.1 ha
  have := allB_true.1 h.arcs j hj
  rw [show x.arcs.getD j default = x.arcs[j] by simp [hj]] at this
  unfold arcB at this
  simp only [Bool.and_eq_true] at this
  have h2 := this.2.2.1
  unfold edgeB at h2
  simp only [Bool.or_eq_true, Bool.and_eq_true, decide_eq_true_iff] at h2
  have h8 := h.eight
  rcases h2 with h2 | h2
  · have := within_two h2
    omega
  · have := h2.1
    omega

def isArc (k sig : Int) (a : Arc) : Bool := decide (a.src = k) && decide (a.sig = sig)

def excB (x : Sgr) (k sig : Int) : Bool := x.arcs.any (isArc k sig)

theorem sp_spec_l5Excited (x : Sgr) (k sig : Int) (hb : x.bulk ≤ 1048576) : Sp Try.prog 108 [(.agg [(.slice false 2 (x.sigs.map Sgn.d)), (.slice false 1 (x.codes.map D.str)), (.slice false 4 (x.arcs.map Arc.d))]), (.int .i64 k), (.int .i64 sig)] [.any, .any, .any] (.bool (excB x k sig)) := by
  refine Sp_intro (lend := true) Try.func108 rfl rfl rfl (fun _ => rfl) (fun c hc hX => ?_)
  obtain ⟨hp0, hp1, hp2⟩ := Sgr.parts hb
  have hn0 := bulkF_len hp0
  have hn1 := bulk_len hp1
  have hx1 := bulk_mem hp1
  have hn2 := bulkF_len hp2
  refine T_seq ?_
  refine T_region hc ?_
  refine Ch.step (v := (.ptr 3000 0)) rfl (.box 3000 _ _ rfl (.aggD _)) rfl rfl ?_
  refine Ch.step (v := (.d (.bool false))) rfl (.pure (.assign _ rfl rfl)) rfl rfl ?_
  refine Ch.nil ?_
  refine T_seq ?_
  refine T_seq ?_
  refine T_region hc ?_
  refine Ch.step (v := (.ptr 3000 2)) rfl (.pure (.fldPtr _ _ _ rfl fld34_2 rfl)) rfl rfl ?_
  refine Ch.step (v := (.d (.slice false 4 (x.arcs.map Arc.d)))) rfl (.pure (.loadPtr1 _ _ rfl ag32 rfl rfl rfl)) rfl rfl ?_
  refine Ch.step (v := (.d (.int .i64 ((x.arcs.length : Nat) : Int)))) rfl (.pure (.len _ _ 85 rfl Try.underlying32 (.sh _ _) (by simp))) rfl rfl ?_
  refine Ch.step (v := (.d (.int .i64 0))) rfl (.pure (.move _ rfl rfl)) rfl rfl ?_
  refine Ch.nil ?_
  refine T_block ?_
  refine T_loop (ι := Nat) (fun m => { n := 27, sl := [(1, (.d (.int .i64 k))), (2, (.d (.int .i64 sig))), (10, (.d (.slice false 4 (x.arcs.map Arc.d)))), (11, (.d (.int .i64 ((x.arcs.length : Nat) : Int)))), (12, (.d (.int .i64 ((m : Nat) : Int))))], hp := [], pin := [] }) (fun m => m ≤ x.arcs.length ∧ ∀ j, j < m → isArc k sig (x.arcs.getD j default) = false) (fun m => x.arcs.length - m) ⟨0, ⟨by omega, fun j hj => by omega⟩, (Wk.of rfl rfl (And.intro rfl (And.intro rfl (And.intro rfl (And.intro rfl (And.intro (vI (by first | rfl | omega | (simp; done) | (simp; omega))) trivial))))) trivial)⟩ (fun m hp0 => ?_)
  refine T_seq ?_
  refine T_region hc ?_
  refine Ch.step (v := (.d (.bool (decide (((m : Nat) : Int) < ((x.arcs.length : Nat) : Int)))))) rfl (.pure (.int _ _ _ _ _ rfl rfl rfl rfl)) rfl rfl ?_
  refine Ch.nil ?_
  refine T_seq ?_
  refine T_cond (b := (decide (((m : Nat) : Int) < ((x.arcs.length : Nat) : Int)))) rfl (fun h1 => ?_) (fun h1 => ?_)
  · replace h1 := of_decide_eq_true h1
    refine T_skip ?_
    refine T_seq ?_
    refine T_block ?_
    refine T_seq ?_
    refine T_region hc ?_
    refine Ch.step (v := (.d (.ref (.agg [(.int .i64 ((x.arcs.getD m default).src)), (.int .i64 ((x.arcs.getD m default).sig)), (.bool ((x.arcs.getD m default).up)), (.int .i64 ((x.arcs.getD m default).dst))])))) rfl (.pure (.idx _ _ _ 85 (m) rfl Try.underlying32 sz85 rfl rfl rfl (get_map _ (by first | omega | (simp only [List.length_map, List.length_append, List.length_take, List.length_drop, List.length_cons, List.length_nil]; omega) | (simp; omega) | (simp; done))))) rfl rfl ?_
    refine Ch.step (v := (.d (.agg [(.int .i64 ((x.arcs.getD m default).src)), (.int .i64 ((x.arcs.getD m default).sig)), (.bool ((x.arcs.getD m default).up)), (.int .i64 ((x.arcs.getD m default).dst))]))) rfl (.pure (.loadRefA _ _ rfl ag85 sz85 rfl)) rfl rfl ?_
    refine Ch.step (v := (.ptr 8000 0)) rfl (.alloc 8000 _ rfl zer85) rfl rfl ?_
    refine Ch.step (v := .junk) rfl (.storePtr _ _ _ rfl rfl rfl (.aggD _) sz85 (Nat.le_of_ble_eq_true rfl)) rfl rfl ?_
    refine Ch.nil ?_
    refine T_seq ?_
    refine T_region hc ?_
    refine Ch.step (v := (.ptr 8000 0)) rfl (.pure (.fldPtr _ _ _ rfl fld85_0 rfl)) rfl rfl ?_
    refine Ch.step (v := (.d (.int .i64 ((x.arcs.getD m default).src)))) rfl (.pure (.loadPtr1 _ _ rfl ag3 rfl rfl rfl)) rfl rfl ?_
    refine Ch.step (v := (.d (.int .i64 k))) rfl (.pure (.move _ rfl rfl)) rfl rfl ?_
    refine Ch.step (v := (.d (.bool (decide (((x.arcs.getD m default).src) = k))))) rfl (.pure (.int _ _ _ _ _ rfl rfl rfl rfl)) rfl rfl ?_
    refine Ch.step (v := (.d (.bool (decide (((x.arcs.getD m default).src) = k))))) rfl (.pure (.move _ rfl rfl)) rfl rfl ?_
    cases h2 : (decide (((x.arcs.getD m default).src) = k)) with
    | true =>
      replace h2 := of_decide_eq_true h2
      refine Ch.step (v := (.ptr 8000 1)) rfl (.pure (.fldPtr _ _ _ rfl fld85_1 rfl)) rfl rfl ?_
      refine Ch.step (v := (.d (.int .i64 ((x.arcs.getD m default).sig)))) rfl (.pure (.loadPtr1 _ _ rfl ag3 rfl rfl rfl)) rfl rfl ?_
      refine Ch.step (v := (.d (.int .i64 sig))) rfl (.pure (.move _ rfl rfl)) rfl rfl ?_
      refine Ch.step (v := (.d (.bool (decide (((x.arcs.getD m default).sig) = sig))))) rfl (.pure (.int _ _ _ _ _ rfl rfl rfl rfl)) rfl rfl ?_
      refine Ch.step (v := (.d (.bool (decide (((x.arcs.getD m default).sig) = sig))))) rfl (.pure (.pickT _ _ _ rfl rfl rfl)) rfl rfl ?_
      refine Ch.nil ?_
      refine T_cond (b := (decide (((x.arcs.getD m default).sig) = sig))) rfl (fun h3 => ?_) (fun h3 => ?_)
      · replace h3 := of_decide_eq_true h3
        refine T_seq ?_
        refine T_region hc ?_
        refine Ch.step (v := (.d (.bool true))) rfl (.pure (.assign _ rfl rfl)) rfl rfl ?_
        refine Ch.nil ?_
        refine T_ret ?_
        refine And.intro (.inr rfl) ?_
        exact Exists.intro [(.d (.bool true))] (Exists.intro [] (Exists.intro [] (And.intro (.cons (.tmp 6 rfl) .nil) (And.intro (.cons (.any _) (.cons (.any _) (.cons (.any _) .nil))) (And.intro (Exp.of (congrArg D.bool (by exact any_yes default m (by omega) (by simp_all [isArc]))) (.d _)) (And.intro rfl rfl))))))
      · replace h3 := of_decide_eq_false h3
        refine T_skip ?_
        refine T_region hc ?_
        refine Ch.step (v := (.d (.int .i64 (((m : Nat) : Int) + 1)))) rfl (.pure (.int _ _ _ _ _ rfl rfl rfl (intV_add (by first | omega | (simp only [List.length_map, List.length_append, List.length_take, List.length_drop, List.length_cons, List.length_nil]; omega) | (simp; omega) | (simp; done)) (by first | omega | (simp only [List.length_map, List.length_append, List.length_take, List.length_drop, List.length_cons, List.length_nil]; omega) | (simp; omega) | (simp; done))))) rfl rfl ?_
        refine Ch.step (v := (.d (.int .i64 (((m : Nat) : Int) + 1)))) rfl (.pure (.move _ rfl rfl)) rfl rfl ?_
        refine Ch.nil ?_
        refine Exists.intro (m + 1) (And.intro ⟨by omega, upto_succ hp0.2 (by simp_all [isArc])⟩ (And.intro (by first | omega | (dsimp only; omega)) (Wk.of rfl rfl (And.intro rfl (And.intro rfl (And.intro rfl (And.intro rfl (And.intro (vI (by first | rfl | omega | (simp; done) | (simp; omega))) trivial))))) trivial)))
    | false =>
      replace h2 := of_decide_eq_false h2
      refine Ch.skip rfl rfl ?_
      refine Ch.skip rfl rfl ?_
      refine Ch.skip rfl rfl ?_
      refine Ch.skip rfl rfl ?_
      refine Ch.step (v := (.d (.bool false))) rfl (.pure (.pickF _ _ _ rfl rfl rfl)) rfl rfl ?_
      refine Ch.nil ?_
      refine T_cond (b := false) rfl (fun h => nomatch h) (fun _ => ?_)
      refine T_skip ?_
      refine T_region hc ?_
      refine Ch.step (v := (.d (.int .i64 (((m : Nat) : Int) + 1)))) rfl (.pure (.int _ _ _ _ _ rfl rfl rfl (intV_add (by first | omega | (simp only [List.length_map, List.length_append, List.length_take, List.length_drop, List.length_cons, List.length_nil]; omega) | (simp; omega) | (simp; done)) (by first | omega | (simp only [List.length_map, List.length_append, List.length_take, List.length_drop, List.length_cons, List.length_nil]; omega) | (simp; omega) | (simp; done))))) rfl rfl ?_
      refine Ch.step (v := (.d (.int .i64 (((m : Nat) : Int) + 1)))) rfl (.pure (.move _ rfl rfl)) rfl rfl ?_
      refine Ch.nil ?_
      refine Exists.intro (m + 1) (And.intro ⟨by omega, upto_succ hp0.2 (by simp_all [isArc])⟩ (And.intro (by first | omega | (dsimp only; omega)) (Wk.of rfl rfl (And.intro rfl (And.intro rfl (And.intro rfl (And.intro rfl (And.intro (vI (by first | rfl | omega | (simp; done) | (simp; omega))) trivial))))) trivial)))
  · replace h1 := of_decide_eq_false h1
    refine T_exit ?_
    refine T_seq ?_
    refine T_region hc ?_
    refine Ch.step (v := (.d (.bool false))) rfl (.pure (.assign _ rfl rfl)) rfl rfl ?_
    refine Ch.nil ?_
    refine T_ret ?_
    refine And.intro (.inr rfl) ?_
    exact Exists.intro [(.d (.bool false))] (Exists.intro [] (Exists.intro [] (And.intro (.cons (.tmp 6 rfl) .nil) (And.intro (.cons (.any _) (.cons (.any _) (.cons (.any _) .nil))) (And.intro (Exp.of (congrArg D.bool (by exact any_no default (fun j hj => hp0.2 j (by omega)))) (.d _)) (And.intro rfl rfl))))))

theorem en164 : Enters Try.prog 164 := ⟨_, Try.func164, by kernel_rfl, rfl⟩

theorem sp_IndexFunc_int (xs : List (Int)) (f : FuncId) (caps : List D) (p : Int → Bool) (hf : Enters Try.prog f) (hp : ∀ x ∈ xs, Sp Try.prog f ((fun n : Int => D.int .i64 n) x :: caps) (.any :: anys caps) (.bool (p x))) (hn : xs.length ≤ 1048576) : Sp Try.prog 164 [(.slice false 1 (xs.map (fun n : Int => D.int .i64 n))), (.fn f caps)] [.any, .any] (.int .i64 (ixF p xs)) := by
  refine Sp_intro (lend := true) Try.func164 rfl rfl rfl (fun _ => rfl) (fun c hc hX => ?_)
  refine T_seq ?_
  refine T_region hc ?_
  refine Ch.step (v := (.d (.int .i64 0))) rfl (.pure (.assign _ rfl rfl)) rfl rfl ?_
  refine Ch.nil ?_
  refine T_seq ?_
  refine T_seq ?_
  refine T_region hc ?_
  refine Ch.step (v := (.d (.slice false 1 (xs.map (fun n : Int => D.int .i64 n))))) rfl (.pure (.move _ rfl rfl)) rfl rfl ?_
  refine Ch.step (v := (.d (.int .i64 ((xs.length : Nat) : Int)))) rfl (.pure (.len _ _ 3 rfl Try.underlying43 (.sh _ _) (by simp))) rfl rfl ?_
  refine Ch.step (v := (.d (.int .i64 0))) rfl (.pure (.move _ rfl rfl)) rfl rfl ?_
  refine Ch.nil ?_
  refine T_block ?_
  refine T_loop (ι := Nat) (fun k => { n := 19, sl := [(0, (.d (.slice false 1 (xs.map (fun n : Int => D.int .i64 n))))), (1, (.d (.fn f caps))), (7, (.d (.int .i64 ((xs.length : Nat) : Int)))), (8, (.d (.int .i64 ((k : Nat) : Int))))], hp := [], pin := [] }) (fun k => k ≤ xs.length ∧ ∀ j, j < k → p (xs.getD j default) = false) (fun k => xs.length - k) ⟨0, ⟨by omega, fun j hj => by omega⟩, (Wk.of rfl rfl (And.intro rfl (And.intro rfl (And.intro rfl (And.intro (vI (by first | rfl | omega | (simp; done) | (simp; omega))) trivial)))) trivial)⟩ (fun k hp0 => ?_)
  refine T_seq ?_
  refine T_region hc ?_
  refine Ch.step (v := (.d (.bool (decide (((k : Nat) : Int) < ((xs.length : Nat) : Int)))))) rfl (.pure (.int _ _ _ _ _ rfl rfl rfl rfl)) rfl rfl ?_
  refine Ch.nil ?_
  refine T_seq ?_
  refine T_cond (b := (decide (((k : Nat) : Int) < ((xs.length : Nat) : Int)))) rfl (fun h1 => ?_) (fun h1 => ?_)
  · replace h1 := of_decide_eq_true h1
    refine T_skip ?_
    refine T_seq ?_
    refine T_block ?_
    refine T_seq ?_
    refine T_region hc ?_
    refine Ch.step (v := (.d (.int .i64 ((k : Nat) : Int)))) rfl (.pure (.move _ rfl rfl)) rfl rfl ?_
    refine Ch.step (v := (.d (.int .i64 ((k : Nat) : Int)))) rfl (.pure (.assign _ rfl rfl)) rfl rfl ?_
    refine Ch.nil ?_
    refine T_seq ?_
    refine T_region hc ?_
    refine Ch.step (v := (.d (.fn f caps))) rfl (.pure (.move _ rfl rfl)) rfl rfl ?_
    refine Ch.step (v := (.d (.slice false 1 (xs.map (fun n : Int => D.int .i64 n))))) rfl (.pure (.move _ rfl rfl)) rfl rfl ?_
    refine Ch.step (v := (.d (.int .i64 ((k : Nat) : Int)))) rfl (.pure (.move _ rfl rfl)) rfl rfl ?_
    refine Ch.step (v := (.d (.ref (.int .i64 (xs.getD k default))))) rfl (.pure (.idx _ _ _ 3 (k) rfl Try.underlying43 sz3 rfl rfl rfl (get_map _ (by first | omega | (simp only [List.length_map, List.length_append, List.length_take, List.length_drop, List.length_cons, List.length_nil]; omega) | (simp; omega) | (simp; done))))) rfl rfl ?_
    refine Ch.step (v := (.d (.int .i64 (xs.getD k default)))) rfl (.pure (.loadRef1 _ _ rfl ag3 rfl rfl)) rfl rfl ?_
    refine Ch.step (v := (.d (.bool (p (xs.getD k default))))) rfl (.callS 16000 f _ #[.tmp 15] _ hf rfl (.inr ⟨caps, rfl, rfl⟩) (.cons (.d _) (exps_ds caps)) rfl (hp _ (getD_mem (by omega))) (.skip _ _ (back_anys caps)) rfl) rfl rfl ?_
    refine Ch.nil ?_
    refine T_cond (b := (p (xs.getD k default))) rfl (fun h2 => ?_) (fun h2 => ?_)
    · refine T_seq ?_
      refine T_region hc ?_
      refine Ch.step (v := (.d (.int .i64 ((k : Nat) : Int)))) rfl (.pure (.move _ rfl rfl)) rfl rfl ?_
      refine Ch.step (v := (.d (.int .i64 ((k : Nat) : Int)))) rfl (.pure (.assign _ rfl rfl)) rfl rfl ?_
      refine Ch.nil ?_
      refine T_ret ?_
      refine And.intro (.inr rfl) ?_
      exact Exists.intro [(.d (.int .i64 ((k : Nat) : Int)))] (Exists.intro [] (Exists.intro [] (And.intro (.cons (.tmp 4 rfl) .nil) (And.intro (.cons (.any _) (.cons (.any _) .nil)) (And.intro (Exp.of (congrArg (D.int .i64) (by exact (ixF_some (d := default) (by omega) hp0.2 (by assumption)).symm)) (.d _)) (And.intro rfl rfl))))))
    · refine T_skip ?_
      refine T_region hc ?_
      refine Ch.step (v := (.d (.int .i64 (((k : Nat) : Int) + 1)))) rfl (.pure (.int _ _ _ _ _ rfl rfl rfl (intV_add (by first | omega | (simp only [List.length_map, List.length_append, List.length_take, List.length_drop, List.length_cons, List.length_nil]; omega) | (simp; omega) | (simp; done)) (by first | omega | (simp only [List.length_map, List.length_append, List.length_take, List.length_drop, List.length_cons, List.length_nil]; omega) | (simp; omega) | (simp; done))))) rfl rfl ?_
      refine Ch.step (v := (.d (.int .i64 (((k : Nat) : Int) + 1)))) rfl (.pure (.move _ rfl rfl)) rfl rfl ?_
      refine Ch.nil ?_
      refine Exists.intro (k + 1) (And.intro ⟨by omega, upto_succ hp0.2 (by assumption)⟩ (And.intro (by first | omega | (dsimp only; omega)) (Wk.of rfl rfl (And.intro rfl (And.intro rfl (And.intro rfl (And.intro (vI (by first | rfl | omega | (simp; done) | (simp; omega))) trivial)))) trivial)))
  · replace h1 := of_decide_eq_false h1
    refine T_exit ?_
    refine T_seq ?_
    refine T_region hc ?_
    refine Ch.step (v := (.d (.int .i64 (-1)))) rfl (.pure (.assign _ rfl rfl)) rfl rfl ?_
    refine Ch.nil ?_
    refine T_ret ?_
    refine And.intro (.inr rfl) ?_
    exact Exists.intro [(.d (.int .i64 (-1)))] (Exists.intro [] (Exists.intro [] (And.intro (.cons (.tmp 4 rfl) .nil) (And.intro (.cons (.any _) (.cons (.any _) .nil)) (And.intro (Exp.of (congrArg (D.int .i64) (by exact (ixF_none (d := default) (fun j hj => hp0.2 j (by omega))).symm)) (.d _)) (And.intro rfl rfl))))))

theorem sp_ContainsFunc_int (xs : List (Int)) (f : FuncId) (caps : List D) (p : Int → Bool) (hf : Enters Try.prog f) (hp : ∀ x ∈ xs, Sp Try.prog f ((fun n : Int => D.int .i64 n) x :: caps) (.any :: anys caps) (.bool (p x))) (hn : xs.length ≤ 1048576) : Sp Try.prog 122 [(.slice false 1 (xs.map (fun n : Int => D.int .i64 n))), (.fn f caps)] [.any, .any] (.bool (xs.any p)) := by
  refine Sp_intro (lend := true) Try.func122 rfl rfl rfl (fun _ => rfl) (fun c hc hX => ?_)
  refine T_seq ?_
  refine T_region hc ?_
  refine Ch.step (v := (.d (.bool false))) rfl (.pure (.assign _ rfl rfl)) rfl rfl ?_
  refine Ch.nil ?_
  refine T_seq ?_
  refine T_region hc ?_
  refine Ch.step (v := (.d (.slice false 1 (xs.map (fun n : Int => D.int .i64 n))))) rfl (.pure (.move _ rfl rfl)) rfl rfl ?_
  refine Ch.step (v := (.d (.fn f caps))) rfl (.pure (.move _ rfl rfl)) rfl rfl ?_
  refine Ch.step (v := (.d (.int .i64 (ixF p xs)))) rfl (.call 7000 164 _ _ _ en164 rfl (.inl rfl) (.cons (.d _) (.cons (.d _) .nil)) rfl rfl (sp_IndexFunc_int xs f caps p hf hp (by first | assumption | omega | (rw [List.length_take]; omega) | (have := bulkF_mem hb _ (getD_mem (d := default) (by omega)); assumption) | (unfold bulkS at *; omega) | (simp_all; done))) (.skip _ _ (.skip _ _ .nil)) rfl) rfl rfl ?_
  refine Ch.step (v := (.d (.bool (decide (0 ≤ (ixF p xs)))))) rfl (.pure (.int _ _ _ _ _ rfl rfl rfl rfl)) rfl rfl ?_
  refine Ch.step (v := (.d (.bool (decide (0 ≤ (ixF p xs)))))) rfl (.pure (.assign _ rfl rfl)) rfl rfl ?_
  refine Ch.nil ?_
  refine T_ret ?_
  refine And.intro (.inr rfl) ?_
  exact Exists.intro [(.d (.bool (decide (0 ≤ (ixF p xs)))))] (Exists.intro [] (Exists.intro [] (And.intro (.cons (.tmp 4 rfl) .nil) (And.intro (.cons (.any _) (.cons (.any _) .nil)) (And.intro (Exp.of (congrArg D.bool (by exact ixF_nonneg p xs)) (.d _)) (And.intro rfl rfl))))))

theorem en162 : Enters Try.prog 162 := ⟨_, Try.func162, by kernel_rfl, rfl⟩

theorem ofInt_nat (m : Nat) : (BitVec.ofInt 64 (m : Int)).toNat = m % 18446744073709551616 := by
  rw [BitVec.toNat_ofInt]; omega

theorem i64_or {a b : Nat} (ha : a < 4611686018427387904) (hb : b < 4611686018427387904) : intV .or .i64 (a : Int) (b : Int) = some (.int .i64 ((a ||| b : Nat) : Int)) := by
  have e : (BitVec.ofInt IntKind.i64.bits (a : Int) ||| BitVec.ofInt IntKind.i64.bits (b : Int)).toNat = a ||| b := by
    show (BitVec.ofInt 64 (a : Int) ||| BitVec.ofInt 64 (b : Int)).toNat = a ||| b
    rw [BitVec.toNat_or, ofInt_nat, ofInt_nat, Nat.mod_eq_of_lt (by omega), Nat.mod_eq_of_lt (by omega)]
  have hlt : a ||| b < 2 ^ 62 := Nat.or_lt_two_pow (by omega) (by omega)
  rw [intV, e, IntWalk.i64_in _ (by omega)]

theorem i64_and3 (m : Nat) : intV .and .i64 (m : Int) 3 = some (.int .i64 ((m &&& 3 : Nat) : Int)) := by
  have e : (BitVec.ofInt IntKind.i64.bits (m : Int) &&& BitVec.ofInt IntKind.i64.bits 3).toNat = m &&& 3 := by
    show (BitVec.ofInt 64 (m : Int) &&& BitVec.ofInt 64 ((3 : Nat) : Int)).toNat = m &&& 3
    rw [BitVec.toNat_and, ofInt_nat, ofInt_nat]
    rw [show 3 % 18446744073709551616 = 2 ^ 2 - 1 from rfl, Nat.and_two_pow_sub_one_eq_mod, show (3 : Nat) = 2 ^ 2 - 1 from rfl, Nat.and_two_pow_sub_one_eq_mod]
    omega
  have hle : m &&& 3 ≤ 3 := Nat.and_le_right
  rw [intV, e, IntWalk.i64_in _ (by omega)]

theorem i64_shr {m n : Nat} {y : Int} (h : y = (n : Int)) (hn : n ≤ 63) : shiftV .shr .i64 (m : Int) y = some (.int .i64 ((m >>> n : Nat) : Int)) := by
  subst h
  rw [shiftV, if_neg (by omega)]
  have h1 : min (n : Int).toNat IntKind.i64.bits = n := by
    have : IntKind.i64.bits = 64 := rfl
    rw [this, Int.toNat_natCast]; omega
  rw [h1, Nat.shiftRight_eq_div_pow, Int.fdiv_eq_ediv_of_nonneg _ (by exact Int.le_of_lt (Int.pow_pos (by decide)))]
  congr 2

theorem shl2 {b : Int} {n : Nat} (h : b = (n : Int)) (hn : n ≤ 61) : shiftV .shl .i64 2 b = some (.int .i64 ((2 * 2 ^ n : Nat) : Int)) := by
  subst h
  rw [shiftV, if_neg (by omega)]
  have h1 : min (n : Int).toNat IntKind.i64.bits = n := by
    have : IntKind.i64.bits = 64 := rfl
    rw [this, Int.toNat_natCast]; omega
  have h2 : 2 ^ n ≤ 2 ^ 61 := Nat.pow_le_pow_right (by omega) hn
  rw [h1, show (2 : Int) * (2 : Int) ^ n = ((2 * 2 ^ n : Nat) : Int) by simp]
  generalize 2 ^ n = m at h2
  rw [IntWalk.i64_in _ (by omega)]

def two (m s : Nat) : Nat := m >>> s &&& 3

theorem two_zero {m s : Nat} : two m s = 0 ↔ m.testBit s = false ∧ m.testBit (s + 1) = false := by
  have h : two m s = (m >>> s) % 4 := by
    unfold two
    rw [show (3 : Nat) = 2 ^ 2 - 1 from rfl, Nat.and_two_pow_sub_one_eq_mod]
  have h0 : m.testBit s = (m >>> s).testBit 0 := by rw [Nat.testBit_shiftRight, Nat.add_zero]
  have h1 : m.testBit (s + 1) = (m >>> s).testBit 1 := by rw [Nat.testBit_shiftRight]
  rw [h, h0, h1]
  generalize m >>> s = q
  rw [Nat.testBit_zero, Nat.testBit_succ, Nat.testBit_zero]
  simp only [decide_eq_false_iff_not]
  omega

def lmask (l : Lab) : Nat := if l.up then 2 * 2 ^ (2 * l.sig).toNat else 2 ^ (2 * l.sig).toNat

def maskStep (ms : List Nat) (a : Arc) : List Nat := if 0 ≤ a.sig then ms.set a.src.toNat (ms.getD a.src.toNat default ||| lmask (Lab.mk a.sig a.up)) else ms

def masksTo (x : Sgr) (k : Nat) : List Nat := (x.arcs.take k).foldl maskStep (List.replicate x.codes.length 0)

def masksL (x : Sgr) : List Nat := masksTo x x.arcs.length

def isEd (s : Int) (up : Bool) (a : Arc) : Bool := decide (a.sig = s) && decide (a.up = up)

def isLab (k s : Int) (up : Bool) (a : Arc) : Bool := decide (a.src = k) && isEd s up a

def labB (x : Sgr) (k s : Int) (up : Bool) : Bool := x.arcs.any (isLab k s up)

theorem maskStep_len (ms : List Nat) (a : Arc) : (maskStep ms a).length = ms.length := by
  unfold maskStep; split
  · rw [List.length_set]
  · rfl

theorem masks_len : ∀ (l : List Arc) (ms : List Nat), (l.foldl maskStep ms).length = ms.length
  | [], _ => rfl
  | a :: l, ms => by rw [List.foldl_cons, masks_len l, maskStep_len]

theorem masksTo_len (x : Sgr) (k : Nat) : (masksTo x k).length = x.codes.length := by rw [masksTo, masks_len, List.length_replicate]

theorem masksTo_zero (x : Sgr) : masksTo x 0 = List.replicate x.codes.length 0 := rfl

theorem masksTo_succ {x : Sgr} {k : Nat} (h : k < x.arcs.length) : masksTo x (k + 1) = maskStep (masksTo x k) (x.arcs.getD k default) := by
  have hg : x.arcs.getD k default = x.arcs[k] := by simp [h]
  unfold masksTo
  rw [List.take_succ_eq_append_getElem h, List.foldl_append, hg]; rfl

theorem lmask_pow {l : Lab} : lmask l = 2 ^ ((2 * l.sig).toNat + if l.up then 1 else 0) := by
  unfold lmask
  cases l.up
  · rfl
  · rw [if_pos rfl, if_pos rfl, Nat.pow_succ, Nat.mul_comm]

theorem lmask_lt {l : Lab} (h : l.sig < 8) : lmask l < 65536 := by
  rw [lmask_pow]
  have h1 : (2 * l.sig).toNat + (if l.up then 1 else 0) ≤ 15 := by split <;> omega
  have h2 : 2 ^ ((2 * l.sig).toNat + (if l.up then 1 else 0)) ≤ 2 ^ 15 := Nat.pow_le_pow_right (by omega) h1
  omega

theorem maskStep_lt {ms : List Nat} {a : Arc} (ha : a.sig < 8) (h : ∀ j : Nat, ms.getD j default < 65536) : ∀ j : Nat, (maskStep ms a).getD j default < 65536 := by
  intro j
  unfold maskStep
  split
  · rw [getD_set]
    split
    · exact Nat.or_lt_two_pow (n := 16) (h _) (lmask_lt ha)
    · exact h j
  · exact h j

theorem masks_lt : ∀ (l : List Arc) (ms : List Nat), (∀ a ∈ l, a.sig < 8) → (∀ j : Nat, ms.getD j default < 65536) → ∀ j : Nat, (l.foldl maskStep ms).getD j default < 65536
  | [], _, _, h => h
  | a :: l, ms, ha, h => masks_lt l (maskStep ms a) (fun b hb => ha b (List.mem_cons_of_mem _ hb)) (maskStep_lt (ha a List.mem_cons_self) h)

theorem rep_getD (n j : Nat) : (List.replicate n (0 : Nat)).getD j default = 0 := by
  rw [List.getD_eq_getElem?_getD, List.getElem?_replicate]; split <;> rfl

theorem masksTo_lt {x : Sgr} (h : ∀ a ∈ x.arcs, a.sig < 8) (k j : Nat) : (masksTo x k).getD j default < 65536 :=
  masks_lt _ _ (fun a ha => h a (List.mem_of_mem_take ha)) (fun j => by rw [rep_getD]; decide) j

theorem lmask_bit {a : Arc} {s : Int} {up : Bool} (h0 : 0 ≤ a.sig) (h1 : 0 ≤ s) : (lmask (Lab.mk a.sig a.up)).testBit ((2 * s).toNat + if up then 1 else 0) = isEd s up a := by
  rw [lmask_pow, Nat.testBit_two_pow]
  unfold isEd
  rw [Bool.eq_iff_iff, Bool.and_eq_true, decide_eq_true_iff, decide_eq_true_iff, decide_eq_true_iff]
  dsimp only
  cases a.up <;> cases up <;> simp <;> omega

theorem masks_bit {s : Int} {up : Bool} (h1 : 0 ≤ s) (n : Nat) (j : Nat) (hj : j < n) : ∀ (l : List Arc) (ms : List Nat), ms.length = n → (∀ a ∈ l, 0 ≤ a.src) →
    ((l.foldl maskStep ms).getD j default).testBit ((2 * s).toNat + if up then 1 else 0) = ((ms.getD j default).testBit ((2 * s).toNat + if up then 1 else 0) || l.any (isLab (j : Int) s up))
  | [], ms, _, _ => by simp
  | a :: l, ms, hm, hl => by
    have h0 := hl a List.mem_cons_self
    rw [List.foldl_cons, masks_bit h1 n j hj l _ (by rw [maskStep_len]; exact hm) (fun b hb => hl b (List.mem_cons_of_mem _ hb)), List.any_cons, ← Bool.or_assoc]
    congr 1
    unfold maskStep
    split
    · rename_i h2
      rw [getD_set]
      split
      · rename_i h3
        rw [Nat.testBit_or, lmask_bit h2 h1, h3.1]
        unfold isLab
        rw [decide_eq_true (by omega : a.src = (j : Int)), Bool.true_and]
      · rename_i h3
        unfold isLab
        rw [decide_eq_false (fun e => h3 ⟨by omega, by omega⟩), Bool.false_and, Bool.or_false]
    · rename_i h2
      unfold isLab isEd
      rw [decide_eq_false (fun e : a.sig = s => h2 (by omega)), Bool.false_and, Bool.and_false, Bool.or_false]

theorem masksL_bit {x : Sgr} {s k : Int} {up : Bool} (hx : SgOk x) (h1 : 0 ≤ s) (hk : 0 ≤ k ∧ k.toNat < x.codes.length) : ((masksL x).getD k.toNat default).testBit ((2 * s).toNat + if up then 1 else 0) = labB x k s up := by
  unfold masksL masksTo labB
  rw [List.take_length, masks_bit h1 x.codes.length k.toNat hk.2 _ _ (by simp) (fun a ha => (hx.ends a ha).1.1), rep_getD, Nat.zero_testBit, Bool.false_or, show ((k.toNat : Nat) : Int) = k by omega]

theorem exc_lab (x : Sgr) (k s : Int) : excB x k s = (labB x k s false || labB x k s true) := by
  unfold excB labB
  induction x.arcs with
  | nil => rfl
  | cons a l ih =>
    rw [List.any_cons, List.any_cons, List.any_cons, ih]
    have : isArc k s a = (isLab k s false a || isLab k s true a) := by
      unfold isArc isLab isEd
      cases a.up <;> simp
    rw [this]
    cases isLab k s false a <;> cases isLab k s true a <;> cases l.any (isLab k s false) <;> rfl

theorem two_exc {x : Sgr} {s k : Int} (hx : SgOk x) (h1 : 0 ≤ s) (hk : 0 ≤ k ∧ k.toNat < x.codes.length) : decide (((two ((masksL x).getD k.toNat default) (2 * s).toNat : Nat) : Int) = 0) = !excB x k s := by
  have b0 := masksL_bit (up := false) hx h1 hk
  have b1 := masksL_bit (up := true) hx h1 hk
  rw [if_neg (by decide), Nat.add_zero] at b0
  rw [if_pos rfl] at b1
  rw [exc_lab, Bool.eq_iff_iff, decide_eq_true_iff, ← b0, ← b1]
  have := two_zero (m := (masksL x).getD k.toNat default) (s := (2 * s).toNat)
  simp only [Bool.not_eq_true', Bool.or_eq_false_iff]
  rw [← this]; omega

theorem outs_in {sg : List Sgn} : ∀ s ∈ outsL sg, 0 ≤ s ∧ s.toNat < sg.length := by
  intro s hs
  obtain ⟨j, hj, rfl⟩ := List.mem_map.1 hs
  have := List.mem_range.1 (List.mem_filter.1 hj).1
  omega

theorem outs_len (sg : List Sgn) : (outsL sg).length ≤ sg.length := outK_le sg _

theorem sp_impl_labelMask (l : Lab) (h0 : 0 ≤ l.sig) (h8 : l.sig < 8) : Sp Try.prog 162 [(.agg [(.int .i64 l.sig), (.bool (l.up))])] [.any] (.int .i64 ((lmask l : Nat) : Int)) := by
  refine Sp_intro (lend := true) Try.func162 rfl rfl rfl (fun _ => rfl) (fun c hc hX => ?_)
  refine T_seq ?_
  refine T_region hc ?_
  refine Ch.step (v := (.ptr 1000 0)) rfl (.box 1000 _ _ rfl (.aggD _)) rfl rfl ?_
  refine Ch.step (v := (.d (.int .i64 0))) rfl (.pure (.assign _ rfl rfl)) rfl rfl ?_
  refine Ch.nil ?_
  refine T_seq ?_
  refine T_seq ?_
  refine T_region hc ?_
  refine Ch.step (v := (.ptr 1000 1)) rfl (.pure (.fldPtr _ _ _ rfl fld46_1 rfl)) rfl rfl ?_
  refine Ch.step (v := (.d (.bool (l.up)))) rfl (.pure (.loadPtr1 _ _ rfl ag4 rfl rfl rfl)) rfl rfl ?_
  refine Ch.nil ?_
  refine T_cond (b := (l.up)) rfl (fun h1 => ?_) (fun h1 => ?_)
  · refine T_seq ?_
    refine T_region hc ?_
    refine Ch.step (v := (.ptr 1000 0)) rfl (.pure (.fldPtr _ _ _ rfl fld46_0 rfl)) rfl rfl ?_
    refine Ch.step (v := (.d (.int .i64 l.sig))) rfl (.pure (.loadPtr1 _ _ rfl ag3 rfl rfl rfl)) rfl rfl ?_
    refine Ch.step (v := (.d (.int .i64 (2 * l.sig)))) rfl (.pure (.int _ _ _ _ _ rfl rfl rfl (intV_mul (by first | omega | (simp only [List.length_map, List.length_append, List.length_take, List.length_drop, List.length_cons, List.length_nil]; omega) | (simp; omega) | (simp; done)) (by first | omega | (simp only [List.length_map, List.length_append, List.length_take, List.length_drop, List.length_cons, List.length_nil]; omega) | (simp; omega) | (simp; done))))) rfl rfl ?_
    refine Ch.step (v := (.d (.int .i64 ((2 * 2 ^ (((2 * l.sig)).toNat) : Nat) : Int)))) rfl (.pure (.shift _ _ _ _ _ rfl rfl rfl (shl2 (n := ((2 * l.sig)).toNat) (by omega) (by first | omega | (simp only [List.length_map, List.length_append, List.length_take, List.length_drop, List.length_cons, List.length_nil]; omega) | (simp; omega) | (simp; done))))) rfl rfl ?_
    refine Ch.step (v := (.d (.int .i64 ((2 * 2 ^ (((2 * l.sig)).toNat) : Nat) : Int)))) rfl (.pure (.assign _ rfl rfl)) rfl rfl ?_
    refine Ch.nil ?_
    refine T_ret ?_
    refine And.intro (.inr rfl) ?_
    exact Exists.intro [(.d (.int .i64 ((2 * 2 ^ (((2 * l.sig)).toNat) : Nat) : Int)))] (Exists.intro [] (Exists.intro [] (And.intro (.cons (.tmp 2 rfl) .nil) (And.intro (.cons (.any _) .nil) (And.intro (Exp.of (congrArg (D.int .i64) (by first | (rw [lmask, if_pos (by assumption)]; done) | (rw [lmask, if_neg (by simp_all)]; done))) (.d _)) (And.intro rfl rfl))))))
  · refine T_skip ?_
    refine T_seq ?_
    refine T_region hc ?_
    refine Ch.step (v := (.ptr 1000 0)) rfl (.pure (.fldPtr _ _ _ rfl fld46_0 rfl)) rfl rfl ?_
    refine Ch.step (v := (.d (.int .i64 l.sig))) rfl (.pure (.loadPtr1 _ _ rfl ag3 rfl rfl rfl)) rfl rfl ?_
    refine Ch.step (v := (.d (.int .i64 (2 * l.sig)))) rfl (.pure (.int _ _ _ _ _ rfl rfl rfl (intV_mul (by first | omega | (simp only [List.length_map, List.length_append, List.length_take, List.length_drop, List.length_cons, List.length_nil]; omega) | (simp; omega) | (simp; done)) (by first | omega | (simp only [List.length_map, List.length_append, List.length_take, List.length_drop, List.length_cons, List.length_nil]; omega) | (simp; omega) | (simp; done))))) rfl rfl ?_
    refine Ch.step (v := (.d (.int .i64 ((2 ^ (((2 * l.sig)).toNat) : Nat) : Int)))) rfl (.pure (.shift _ _ _ _ _ rfl rfl rfl (shl1 (n := ((2 * l.sig)).toNat) (by omega) (by first | omega | (simp only [List.length_map, List.length_append, List.length_take, List.length_drop, List.length_cons, List.length_nil]; omega) | (simp; omega) | (simp; done))))) rfl rfl ?_
    refine Ch.step (v := (.d (.int .i64 ((2 ^ (((2 * l.sig)).toNat) : Nat) : Int)))) rfl (.pure (.assign _ rfl rfl)) rfl rfl ?_
    refine Ch.nil ?_
    refine T_ret ?_
    refine And.intro (.inr rfl) ?_
    exact Exists.intro [(.d (.int .i64 ((2 ^ (((2 * l.sig)).toNat) : Nat) : Int)))] (Exists.intro [] (Exists.intro [] (And.intro (.cons (.tmp 2 rfl) .nil) (And.intro (.cons (.any _) .nil) (And.intro (Exp.of (congrArg (D.int .i64) (by first | (rw [lmask, if_pos (by assumption)]; done) | (rw [lmask, if_neg (by simp_all)]; done))) (.d _)) (And.intro rfl rfl))))))

set_option maxHeartbeats 1000000 in
theorem sp_impl_labelMasks (x : Sgr) (hb : x.bulk ≤ 1048576) (hx : SgOk x) : Sp Try.prog 117 [(.agg [(.slice false 2 (x.sigs.map Sgn.d)), (.slice false 1 (x.codes.map D.str)), (.slice false 4 (x.arcs.map Arc.d))])] [.any] (.slice true 1 ((masksL x).map (fun n : Nat => D.int .i64 (n : Int)))) := by
  refine Sp_intro (lend := true) Try.func117 rfl rfl rfl (fun _ => rfl) (fun c hc hX => ?_)
  obtain ⟨hp0, hp1, hp2⟩ := Sgr.parts hb
  have hn0 := bulkF_len hp0
  have hn1 := bulk_len hp1
  have hx1 := bulk_mem hp1
  have hn2 := bulkF_len hp2; have hx8 := hx.eight; have hxl := hx.len; have hxf := hx.few; have hs8 : ∀ a ∈ x.arcs, a.sig < 8 := fun a ha => (by have := hx.sig a ha; omega)
  refine T_seq ?_
  refine T_region hc ?_
  refine Ch.step (v := (.ptr 1000 0)) rfl (.box 1000 _ _ rfl (.aggD _)) rfl rfl ?_
  refine Ch.step (v := (.c (.slice none 0 0))) rfl (.pure (.assign _ rfl rfl)) rfl rfl ?_
  refine Ch.nil ?_
  refine T_seq ?_
  refine T_region hc ?_
  refine Ch.step (v := (.ptr 1000 1)) rfl (.pure (.fldPtr _ _ _ rfl fld34_1 rfl)) rfl rfl ?_
  refine Ch.step (v := (.d (.slice false 1 (x.codes.map D.str)))) rfl (.pure (.loadPtr1 _ _ rfl ag23 rfl rfl rfl)) rfl rfl ?_
  refine Ch.step (v := (.d (.int .i64 ((x.codes.length : Nat) : Int)))) rfl (.pure (.len _ _ 9 rfl Try.underlying23 (.sh _ _) (by simp))) rfl rfl ?_
  refine Ch.step (v := (.row 9000)) rfl (.make 9000 _ 3 _ _ (x.codes.length) (x.codes.length) rfl sty43 rfl rfl rfl rfl (by first | omega | (simp only [List.length_map, List.length_append, List.length_take, List.length_drop, List.length_cons, List.length_nil]; omega) | (simp; omega) | (simp; done)) (by first | omega | (simp only [List.length_map, List.length_append, List.length_take, List.length_drop, List.length_cons, List.length_nil]; omega) | (simp; omega) | (simp; done)) (by first | omega | (simp only [List.length_map, List.length_append, List.length_take, List.length_drop, List.length_cons, List.length_nil]; omega) | (simp; omega) | (simp; done)) (zeroD_mk (zd := (.int .i64 0)) zr3 (by intro S w; rw [DR]; exact ⟨rfl, rfl⟩) rfl)) rfl rfl ?_
  refine Ch.step (v := (.row 9000)) rfl (.pure (.assign _ rfl rfl)) rfl rfl ?_
  refine Ch.nil ?_
  refine T_seq ?_
  refine T_seq ?_
  refine T_region hc ?_
  refine Ch.step (v := (.ptr 1000 2)) rfl (.pure (.fldPtr _ _ _ rfl fld34_2 rfl)) rfl rfl ?_
  refine Ch.step (v := (.d (.slice false 4 (x.arcs.map Arc.d)))) rfl (.pure (.loadPtr1 _ _ rfl ag32 rfl rfl rfl)) rfl rfl ?_
  refine Ch.step (v := (.d (.int .i64 ((x.arcs.length : Nat) : Int)))) rfl (.pure (.len _ _ 85 rfl Try.underlying32 (.sh _ _) (by simp))) rfl rfl ?_
  refine Ch.step (v := (.d (.int .i64 0))) rfl (.pure (.move _ rfl rfl)) rfl rfl ?_
  refine Ch.nil ?_
  refine T_block ?_
  refine T_loop (ι := Nat) (fun k => { n := 35, sl := [(3, (.row 3)), (11, (.d (.slice false 4 (x.arcs.map Arc.d)))), (12, (.d (.int .i64 ((x.arcs.length : Nat) : Int)))), (13, (.d (.int .i64 ((k : Nat) : Int))))], hp := [(3, (some (.row 1 ((masksTo x k).map (fun n : Nat => D.int .i64 (n : Int))))))], pin := [] }) (fun k => k ≤ x.arcs.length) (fun k => x.arcs.length - k) ⟨0, (by omega), (Wk.ren [(3, 9000)] rfl rfl rfl rfl (And.intro rfl (And.intro rfl (And.intro rfl (And.intro (vI (by first | rfl | omega | (simp; done) | (simp; omega))) trivial)))) (And.intro (oR (by first | (rw [masksTo_zero, List.map_replicate]; rfl) | (rw [masksTo_succ (by omega), maskStep, if_pos (by assumption), List.map_set]; done) | (rw [masksTo_succ (by omega), maskStep, if_neg (by assumption)]))) trivial))⟩ (fun k hp0 => ?_)
  have hq := masksTo_len x k; have hm6 := masksTo_lt hs8 k
  refine T_seq ?_
  refine T_region hc ?_
  refine Ch.step (v := (.d (.bool (decide (((k : Nat) : Int) < ((x.arcs.length : Nat) : Int)))))) rfl (.pure (.int _ _ _ _ _ rfl rfl rfl rfl)) rfl rfl ?_
  refine Ch.nil ?_
  refine T_seq ?_
  refine T_cond (b := (decide (((k : Nat) : Int) < ((x.arcs.length : Nat) : Int)))) rfl (fun h1 => ?_) (fun h1 => ?_)
  · replace h1 := of_decide_eq_true h1
    try have hek := hx.ends _ (getD_mem (l := x.arcs) (j := k) (d := default) (by omega))
    try have hsk := hs8 _ (getD_mem (l := x.arcs) (j := k) (d := default) (by omega))
    refine T_skip ?_
    refine T_seq ?_
    refine T_block ?_
    refine T_seq ?_
    refine T_region hc ?_
    refine Ch.step (v := (.d (.ref (.agg [(.int .i64 ((x.arcs.getD k default).src)), (.int .i64 ((x.arcs.getD k default).sig)), (.bool ((x.arcs.getD k default).up)), (.int .i64 ((x.arcs.getD k default).dst))])))) rfl (.pure (.idx _ _ _ 85 (k) rfl Try.underlying32 sz85 rfl rfl rfl (get_map _ (by first | omega | (simp only [List.length_map, List.length_append, List.length_take, List.length_drop, List.length_cons, List.length_nil]; omega) | (simp; omega) | (simp; done))))) rfl rfl ?_
    refine Ch.step (v := (.d (.agg [(.int .i64 ((x.arcs.getD k default).src)), (.int .i64 ((x.arcs.getD k default).sig)), (.bool ((x.arcs.getD k default).up)), (.int .i64 ((x.arcs.getD k default).dst))]))) rfl (.pure (.loadRefA _ _ rfl ag85 sz85 rfl)) rfl rfl ?_
    refine Ch.step (v := (.ptr 5000 0)) rfl (.alloc 5000 _ rfl zer85) rfl rfl ?_
    refine Ch.step (v := .junk) rfl (.storePtr _ _ _ rfl rfl rfl (.aggD _) sz85 (Nat.le_of_ble_eq_true rfl)) rfl rfl ?_
    refine Ch.nil ?_
    refine T_seq ?_
    refine T_region hc ?_
    refine Ch.step (v := (.ptr 5000 1)) rfl (.pure (.fldPtr _ _ _ rfl fld85_1 rfl)) rfl rfl ?_
    refine Ch.step (v := (.d (.int .i64 ((x.arcs.getD k default).sig)))) rfl (.pure (.loadPtr1 _ _ rfl ag3 rfl rfl rfl)) rfl rfl ?_
    refine Ch.step (v := (.d (.bool (decide (0 ≤ ((x.arcs.getD k default).sig)))))) rfl (.pure (.int _ _ _ _ _ rfl rfl rfl rfl)) rfl rfl ?_
    refine Ch.nil ?_
    refine T_cond (b := (decide (0 ≤ ((x.arcs.getD k default).sig)))) rfl (fun h2 => ?_) (fun h2 => ?_)
    · replace h2 := of_decide_eq_true h2
      try have hlm := lmask_lt (l := Lab.mk (x.arcs.getD k default).sig (x.arcs.getD k default).up) hsk
      try have hmk := hm6 (x.arcs.getD k default).src.toNat
      refine T_regionD hc (by kernel_rfl) ?_
      refine ChD.step (v := (.row 3)) [] rfl (.pure (.move _ rfl rfl)) rfl rfl ?_
      refine ChD.step (v := (.ptr 5000 0)) [] rfl (.pure (.fldPtr _ _ _ rfl fld85_0 rfl)) rfl rfl ?_
      refine ChD.step (v := (.d (.int .i64 ((x.arcs.getD k default).src)))) [5000] rfl (.pure (.loadPtr1 _ _ rfl ag3 rfl rfl rfl)) rfl rfl ?_
      refine ChD.step (v := (.el 3 1 ((((x.arcs.getD k default).src)).toNat) 0)) [3] rfl (.pure (.idxRow _ _ _ 3 ((((x.arcs.getD k default).src)).toNat) rfl Try.underlying43 sz3 rfl rfl rfl (by omega) (by first | omega | (simp only [List.length_map, List.length_set]; omega) | (simp; omega)))) rfl rfl ?_
      refine ChD.step (v := (.d (.int .i64 ((((masksTo x k).getD ((((x.arcs.getD k default).src)).toNat) default) : Nat) : Int)))) [3] rfl (.pure (.loadEl1 _ _ rfl ag3 rfl rfl (get_map _ (by first | omega | (simp only [List.length_map, List.length_append, List.length_take, List.length_drop, List.length_cons, List.length_nil]; omega) | (simp; omega) | (simp; done))) rfl rfl rfl)) rfl rfl ?_
      refine ChD.step (v := (.ptr 5000 1)) [] rfl (.pure (.fldPtr _ _ _ rfl fld85_1 rfl)) rfl rfl ?_
      refine ChD.step (v := (.d (.int .i64 ((x.arcs.getD k default).sig)))) [5000] rfl (.pure (.loadPtr1 _ _ rfl ag3 rfl rfl rfl)) rfl rfl ?_
      refine ChD.step (v := (.ptr 5000 2)) [] rfl (.pure (.fldPtr _ _ _ rfl fld85_2 rfl)) rfl rfl ?_
      refine ChD.step (v := (.d (.bool ((x.arcs.getD k default).up)))) [5000] rfl (.pure (.loadPtr1 _ _ rfl ag4 rfl rfl rfl)) rfl rfl ?_
      refine ChD.step (v := (.agg [(.d (.int .i64 ((x.arcs.getD k default).sig))), (.d (.bool ((x.arcs.getD k default).up)))])) [] rfl (.build _ _ rfl stru46 (.cons (.one _ rfl) (.cons (.one _ rfl) .nil)) rfl) rfl rfl ?_
      refine ChD.step (v := (.d (.int .i64 ((lmask (Lab.mk ((x.arcs.getD k default).sig) ((x.arcs.getD k default).up)) : Nat) : Int)))) [] rfl (.call 30000 162 _ _ _ en162 rfl (.inl rfl) (.cons (.lend (.agg (.cons (.d _) (.cons (.d _) .nil)) rfl)) .nil) rfl rfl (sp_impl_labelMask (Lab.mk ((x.arcs.getD k default).sig) ((x.arcs.getD k default).up)) (by first | assumption | omega | (rw [List.length_take]; omega) | (have := bulkF_mem hb _ (getD_mem (d := default) (by omega)); assumption) | (unfold bulkS at *; omega) | (simp_all; done)) (by first | assumption | omega | (rw [List.length_take]; omega) | (have := bulkF_mem hb _ (getD_mem (d := default) (by omega)); assumption) | (unfold bulkS at *; omega) | (simp_all; done))) (.skip _ _ .nil) rfl) rfl rfl ?_
      refine ChD.step (v := (.d (.int .i64 ((((masksTo x k).getD ((((x.arcs.getD k default).src)).toNat) default) ||| (lmask (Lab.mk ((x.arcs.getD k default).sig) ((x.arcs.getD k default).up))) : Nat) : Int)))) [] rfl (.pure (.int _ _ _ _ _ rfl rfl rfl (i64_or (a := ((masksTo x k).getD ((((x.arcs.getD k default).src)).toNat) default)) (b := lmask (Lab.mk ((x.arcs.getD k default).sig) ((x.arcs.getD k default).up))) (by first | omega | (simp only [List.length_map, List.length_append, List.length_take, List.length_drop, List.length_cons, List.length_nil]; omega) | (simp; omega) | (simp; done)) (by first | omega | (simp only [List.length_map, List.length_append, List.length_take, List.length_drop, List.length_cons, List.length_nil]; omega) | (simp; omega) | (simp; done))))) rfl rfl ?_
      refine ChD.step (v := (.el 3 1 ((((x.arcs.getD k default).src)).toNat) 0)) [3] rfl (.pure (.idxRow _ _ _ 3 ((((x.arcs.getD k default).src)).toNat) rfl Try.underlying43 sz3 rfl rfl rfl (by omega) (by first | omega | (simp only [List.length_map, List.length_set]; omega) | (simp; omega)))) rfl rfl ?_
      refine ChD.step (v := .junk) [3] rfl (.storeEl (y' := (.int .i64 ((((masksTo x k).getD ((((x.arcs.getD k default).src)).toNat) default) ||| (lmask (Lab.mk ((x.arcs.getD k default).sig) ((x.arcs.getD k default).up))) : Nat) : Int))) _ _ _ rfl rfl rfl (.d _) rfl sz3 rfl (get_map _ (by first | omega | (simp only [List.length_map, List.length_append, List.length_take, List.length_drop, List.length_cons, List.length_nil]; omega) | (simp; omega) | (simp; done))) rfl rfl) rfl rfl ?_
      refine ChD.nil (And.intro ?_ (by kernel_rfl))
      refine T_region hc ?_
      refine Ch.step (v := (.d (.int .i64 (((k : Nat) : Int) + 1)))) rfl (.pure (.int _ _ _ _ _ rfl rfl rfl (intV_add (by first | omega | (simp only [List.length_map, List.length_append, List.length_take, List.length_drop, List.length_cons, List.length_nil]; omega) | (simp; omega) | (simp; done)) (by first | omega | (simp only [List.length_map, List.length_append, List.length_take, List.length_drop, List.length_cons, List.length_nil]; omega) | (simp; omega) | (simp; done))))) rfl rfl ?_
      refine Ch.step (v := (.d (.int .i64 (((k : Nat) : Int) + 1)))) rfl (.pure (.move _ rfl rfl)) rfl rfl ?_
      refine Ch.nil ?_
      refine Exists.intro (k + 1) (And.intro (by omega) (And.intro (by first | omega | (dsimp only; omega)) (Wk.of rfl rfl (And.intro rfl (And.intro rfl (And.intro rfl (And.intro (vI (by first | rfl | omega | (simp; done) | (simp; omega))) trivial)))) (And.intro (oR (by first | (rw [masksTo_zero, List.map_replicate]; rfl) | (rw [masksTo_succ (by omega), maskStep, if_pos (by assumption), List.map_set]; done) | (rw [masksTo_succ (by omega), maskStep, if_neg (by assumption)]))) trivial))))
    · replace h2 := of_decide_eq_false h2
      try have hlm := lmask_lt (l := Lab.mk (x.arcs.getD k default).sig (x.arcs.getD k default).up) hsk
      try have hmk := hm6 (x.arcs.getD k default).src.toNat
      refine T_skip ?_
      refine T_region hc ?_
      refine Ch.step (v := (.d (.int .i64 (((k : Nat) : Int) + 1)))) rfl (.pure (.int _ _ _ _ _ rfl rfl rfl (intV_add (by first | omega | (simp only [List.length_map, List.length_append, List.length_take, List.length_drop, List.length_cons, List.length_nil]; omega) | (simp; omega) | (simp; done)) (by first | omega | (simp only [List.length_map, List.length_append, List.length_take, List.length_drop, List.length_cons, List.length_nil]; omega) | (simp; omega) | (simp; done))))) rfl rfl ?_
      refine Ch.step (v := (.d (.int .i64 (((k : Nat) : Int) + 1)))) rfl (.pure (.move _ rfl rfl)) rfl rfl ?_
      refine Ch.nil ?_
      refine Exists.intro (k + 1) (And.intro (by omega) (And.intro (by first | omega | (dsimp only; omega)) (Wk.of rfl rfl (And.intro rfl (And.intro rfl (And.intro rfl (And.intro (vI (by first | rfl | omega | (simp; done) | (simp; omega))) trivial)))) (And.intro (oR (by first | (rw [masksTo_zero, List.map_replicate]; rfl) | (rw [masksTo_succ (by omega), maskStep, if_pos (by assumption), List.map_set]; done) | (rw [masksTo_succ (by omega), maskStep, if_neg (by assumption)]))) trivial))))
  · replace h1 := of_decide_eq_false h1
    try have hek := hx.ends _ (getD_mem (l := x.arcs) (j := k) (d := default) (by omega))
    try have hsk := hs8 _ (getD_mem (l := x.arcs) (j := k) (d := default) (by omega))
    refine T_exit ?_
    refine T_seq ?_
    refine T_region hc ?_
    refine Ch.step (v := (.row 3)) rfl (.pure (.move _ rfl rfl)) rfl rfl ?_
    refine Ch.step (v := (.row 3)) rfl (.pure (.assign _ rfl rfl)) rfl rfl ?_
    refine Ch.nil ?_
    refine T_ret ?_
    refine And.intro (.inr rfl) ?_
    exact Exists.intro [(.row 3)] (Exists.intro [] (Exists.intro [3] (And.intro (.cons (.tmp 2 rfl) .nil) (And.intro (.cons (.any _) .nil) (And.intro (Exp.of (congrArg (D.slice true 1) (by rw [masksL, show x.arcs.length = k by omega])) (.row rfl)) (And.intro rfl rfl))))))

theorem en163 : Enters Try.prog 163 := ⟨_, Try.func163, by kernel_rfl, rfl⟩

theorem en123 : Enters Try.prog 123 := ⟨_, Try.func123, by kernel_rfl, rfl⟩

theorem en122 : Enters Try.prog 122 := ⟨_, Try.func122, by kernel_rfl, rfl⟩

theorem en117 : Enters Try.prog 117 := ⟨_, Try.func117, by kernel_rfl, rfl⟩

theorem en118 : Enters Try.prog 118 := ⟨_, Try.func118, by kernel_rfl, rfl⟩

theorem en120 : Enters Try.prog 120 := ⟨_, Try.func120, by kernel_rfl, rfl⟩

theorem en121 : Enters Try.prog 121 := ⟨_, Try.func121, by kernel_rfl, rfl⟩

theorem en119 : Enters Try.prog 119 := ⟨_, Try.func119, by kernel_rfl, rfl⟩

theorem en108 : Enters Try.prog 108 := ⟨_, Try.func108, by kernel_rfl, rfl⟩

theorem en109 : Enters Try.prog 109 := ⟨_, Try.func109, by kernel_rfl, rfl⟩

theorem en72 : Enters Try.prog 72 := ⟨_, Try.func72, by kernel_rfl, rfl⟩

theorem sp_IndexFunc_ints (xs : List (List Int)) (f : FuncId) (caps : List D) (p : List Int → Bool) (hf : Enters Try.prog f) (hp : ∀ x ∈ xs, Sp Try.prog f (intsD x :: caps) (.any :: anys caps) (.bool (p x))) (hn : xs.length ≤ 1048576) : Sp Try.prog 163 [(.slice false 1 (xs.map intsD)), (.fn f caps)] [.any, .any] (.int .i64 (ixF p xs)) := by
  refine Sp_intro (lend := true) Try.func163 rfl rfl rfl (fun _ => rfl) (fun c hc hX => ?_)
  refine T_seq ?_
  refine T_region hc ?_
  refine Ch.step (v := (.d (.int .i64 0))) rfl (.pure (.assign _ rfl rfl)) rfl rfl ?_
  refine Ch.nil ?_
  refine T_seq ?_
  refine T_seq ?_
  refine T_region hc ?_
  refine Ch.step (v := (.d (.slice false 1 (xs.map intsD)))) rfl (.pure (.move _ rfl rfl)) rfl rfl ?_
  refine Ch.step (v := (.d (.int .i64 ((xs.length : Nat) : Int)))) rfl (.pure (.len _ _ 43 rfl Try.underlying28 (.sh _ _) (by simp))) rfl rfl ?_
  refine Ch.step (v := (.d (.int .i64 0))) rfl (.pure (.move _ rfl rfl)) rfl rfl ?_
  refine Ch.nil ?_
  refine T_block ?_
  refine T_loop (ι := Nat) (fun k => { n := 19, sl := [(0, (.d (.slice false 1 (xs.map intsD)))), (1, (.d (.fn f caps))), (7, (.d (.int .i64 ((xs.length : Nat) : Int)))), (8, (.d (.int .i64 ((k : Nat) : Int))))], hp := [], pin := [] }) (fun k => k ≤ xs.length ∧ ∀ j, j < k → p (xs.getD j default) = false) (fun k => xs.length - k) ⟨0, ⟨by omega, fun j hj => by omega⟩, (Wk.of rfl rfl (And.intro rfl (And.intro rfl (And.intro rfl (And.intro (vI (by first | rfl | omega | (simp; done) | (simp; omega))) trivial)))) trivial)⟩ (fun k hp0 => ?_)
  refine T_seq ?_
  refine T_region hc ?_
  refine Ch.step (v := (.d (.bool (decide (((k : Nat) : Int) < ((xs.length : Nat) : Int)))))) rfl (.pure (.int _ _ _ _ _ rfl rfl rfl rfl)) rfl rfl ?_
  refine Ch.nil ?_
  refine T_seq ?_
  refine T_cond (b := (decide (((k : Nat) : Int) < ((xs.length : Nat) : Int)))) rfl (fun h1 => ?_) (fun h1 => ?_)
  · replace h1 := of_decide_eq_true h1
    refine T_skip ?_
    refine T_seq ?_
    refine T_block ?_
    refine T_seq ?_
    refine T_region hc ?_
    refine Ch.step (v := (.d (.int .i64 ((k : Nat) : Int)))) rfl (.pure (.move _ rfl rfl)) rfl rfl ?_
    refine Ch.step (v := (.d (.int .i64 ((k : Nat) : Int)))) rfl (.pure (.assign _ rfl rfl)) rfl rfl ?_
    refine Ch.nil ?_
    refine T_seq ?_
    refine T_region hc ?_
    refine Ch.step (v := (.d (.fn f caps))) rfl (.pure (.move _ rfl rfl)) rfl rfl ?_
    refine Ch.step (v := (.d (.slice false 1 (xs.map intsD)))) rfl (.pure (.move _ rfl rfl)) rfl rfl ?_
    refine Ch.step (v := (.d (.int .i64 ((k : Nat) : Int)))) rfl (.pure (.move _ rfl rfl)) rfl rfl ?_
    refine Ch.step (v := (.d (.ref (.slice false 1 ((xs.getD k default).map (fun n : Int => D.int .i64 n)))))) rfl (.pure (.idx _ _ _ 43 (k) rfl Try.underlying28 sz43 rfl rfl rfl (get_map _ (by first | omega | (simp only [List.length_map, List.length_append, List.length_take, List.length_drop, List.length_cons, List.length_nil]; omega) | (simp; omega) | (simp; done))))) rfl rfl ?_
    refine Ch.step (v := (.d (.slice false 1 ((xs.getD k default).map (fun n : Int => D.int .i64 n))))) rfl (.pure (.loadRef1 _ _ rfl ag43 rfl rfl)) rfl rfl ?_
    refine Ch.step (v := (.d (.bool (p (xs.getD k default))))) rfl (.callS 16000 f _ #[.tmp 15] _ hf rfl (.inr ⟨caps, rfl, rfl⟩) (.cons (.d _) (exps_ds caps)) rfl (hp _ (getD_mem (by omega))) (.skip _ _ (back_anys caps)) rfl) rfl rfl ?_
    refine Ch.nil ?_
    refine T_cond (b := (p (xs.getD k default))) rfl (fun h2 => ?_) (fun h2 => ?_)
    · refine T_seq ?_
      refine T_region hc ?_
      refine Ch.step (v := (.d (.int .i64 ((k : Nat) : Int)))) rfl (.pure (.move _ rfl rfl)) rfl rfl ?_
      refine Ch.step (v := (.d (.int .i64 ((k : Nat) : Int)))) rfl (.pure (.assign _ rfl rfl)) rfl rfl ?_
      refine Ch.nil ?_
      refine T_ret ?_
      refine And.intro (.inr rfl) ?_
      exact Exists.intro [(.d (.int .i64 ((k : Nat) : Int)))] (Exists.intro [] (Exists.intro [] (And.intro (.cons (.tmp 4 rfl) .nil) (And.intro (.cons (.any _) (.cons (.any _) .nil)) (And.intro (Exp.of (congrArg (D.int .i64) (by exact (ixF_some (d := default) (by omega) hp0.2 (by assumption)).symm)) (.d _)) (And.intro rfl rfl))))))
    · refine T_skip ?_
      refine T_region hc ?_
      refine Ch.step (v := (.d (.int .i64 (((k : Nat) : Int) + 1)))) rfl (.pure (.int _ _ _ _ _ rfl rfl rfl (intV_add (by first | omega | (simp only [List.length_map, List.length_append, List.length_take, List.length_drop, List.length_cons, List.length_nil]; omega) | (simp; omega) | (simp; done)) (by first | omega | (simp only [List.length_map, List.length_append, List.length_take, List.length_drop, List.length_cons, List.length_nil]; omega) | (simp; omega) | (simp; done))))) rfl rfl ?_
      refine Ch.step (v := (.d (.int .i64 (((k : Nat) : Int) + 1)))) rfl (.pure (.move _ rfl rfl)) rfl rfl ?_
      refine Ch.nil ?_
      refine Exists.intro (k + 1) (And.intro ⟨by omega, upto_succ hp0.2 (by assumption)⟩ (And.intro (by first | omega | (dsimp only; omega)) (Wk.of rfl rfl (And.intro rfl (And.intro rfl (And.intro rfl (And.intro (vI (by first | rfl | omega | (simp; done) | (simp; omega))) trivial)))) trivial)))
  · replace h1 := of_decide_eq_false h1
    refine T_exit ?_
    refine T_seq ?_
    refine T_region hc ?_
    refine Ch.step (v := (.d (.int .i64 (-1)))) rfl (.pure (.assign _ rfl rfl)) rfl rfl ?_
    refine Ch.nil ?_
    refine T_ret ?_
    refine And.intro (.inr rfl) ?_
    exact Exists.intro [(.d (.int .i64 (-1)))] (Exists.intro [] (Exists.intro [] (And.intro (.cons (.tmp 4 rfl) .nil) (And.intro (.cons (.any _) (.cons (.any _) .nil)) (And.intro (Exp.of (congrArg (D.int .i64) (by exact (ixF_none (d := default) (fun j hj => hp0.2 j (by omega))).symm)) (.d _)) (And.intro rfl rfl))))))

theorem anys_sol : ∀ ds : List D, solids (anys ds) = true
  | [] => rfl
  | _ :: ds => anys_sol ds

theorem anys_one {ds : List D} (h : solids ds = true) : solids (D.any :: ds) = true := h

def dlRow (p : List Int → Bool) (xs : List (List Int)) (j : Nat) (us : List Value) : List D := (keepTo p xs j).map intsU ++ us.map D.hole ++ (xs.drop j).map intsU

structure DlInv (p : List Int → Bool) (xs : List (List Int)) (j : Nat) (us : List Value) : Prop where
  le : j ≤ xs.length
  len : (keepTo p xs j).length + us.length = j
  pos : 0 < us.length

theorem dl_len {p : List Int → Bool} {xs : List (List Int)} {j : Nat} {us : List Value} (h : DlInv p xs j us) : (dlRow p xs j us).length = xs.length := by
  have h1 := h.len
  have h2 := h.le
  unfold dlRow
  simp only [List.length_append, List.length_map, List.length_drop]
  omega

theorem dl_at {p : List Int → Bool} {xs : List (List Int)} {j : Nat} {us : List Value} (h : DlInv p xs j us) (hj : j < xs.length) : (dlRow p xs j us)[j]? = some (intsU (xs.getD j default)) := by
  have h1 := h.len
  unfold dlRow
  rw [List.getElem?_append_right (by simp only [List.length_append, List.length_map]; omega)]
  simp only [List.length_append, List.length_map]
  rw [show j - ((keepTo p xs j).length + us.length) = 0 by omega, List.getElem?_map, List.getElem?_drop, Nat.add_zero]
  simp [hj]

theorem dl_set {p : List Int → Bool} {xs : List (List Int)} {j : Nat} {us : List Value} (h : DlInv p xs j us) (hj : j < xs.length) (d : D) : (dlRow p xs j us).set j d = (keepTo p xs j).map intsU ++ (us.map D.hole ++ d :: (xs.drop (j + 1)).map intsU) := by
  have h1 := h.len
  unfold dlRow
  rw [List.append_assoc, List.set_append_right (h := by simp only [List.length_map]; omega)]
  rw [List.set_append_right (h := by simp only [List.length_map]; omega)]
  simp only [List.length_map]
  rw [show j - (keepTo p xs j).length - us.length = 0 by omega, List.drop_eq_getElem_cons hj, List.map_cons, List.set_cons_zero]

theorem dl_hole {p : List Int → Bool} {xs : List (List Int)} {j : Nat} {us : List Value} {u : Value} (h : DlInv p xs j us) (hj : j < xs.length) : ((dlRow p xs j us).set j (.hole u))[(keepTo p xs j).length]? = some (.hole (us.getD 0 default)) := by
  have h3 := h.pos
  rw [dl_set h hj, List.getElem?_append_right (by simp)]
  simp only [List.length_map, Nat.sub_self]
  cases us with
  | nil => exact absurd h3 (Nat.not_lt_zero _)
  | cons v us => rfl

theorem dl_skip {p : List Int → Bool} {xs : List (List Int)} {j : Nat} {us : List Value} {u : Value} (h : DlInv p xs j us) (hj : j < xs.length) (hp : p (xs.getD j default) = true) :
    (dlRow p xs j us).set j (.hole u) = dlRow p xs (j + 1) (us ++ [u]) ∧ DlInv p xs (j + 1) (us ++ [u]) := by
  have hk := keepTo_no hj hp
  have h1 := h.len
  refine ⟨?_, by omega, by rw [hk, List.length_append, List.length_singleton]; omega, by simp⟩
  rw [dl_set h hj]
  unfold dlRow
  rw [hk, List.map_append]
  simp

theorem dl_keep {p : List Int → Bool} {xs : List (List Int)} {j : Nat} {us : List Value} {u : Value} (h : DlInv p xs j us) (hj : j < xs.length) (hp : p (xs.getD j default) = false) :
    ((dlRow p xs j us).set j (.hole u)).set (keepTo p xs j).length (intsU (xs.getD j default)) = dlRow p xs (j + 1) (us.tail ++ [u]) ∧ DlInv p xs (j + 1) (us.tail ++ [u]) := by
  have hk := keepTo_yes hj hp
  have h1 := h.len
  have h3 := h.pos
  refine ⟨?_, by omega, by rw [hk]; simp only [List.length_append, List.length_singleton, List.length_tail]; omega, by simp⟩
  rw [dl_set h hj, List.set_append_right (h := by simp)]
  simp only [List.length_map, Nat.sub_self]
  unfold dlRow
  rw [hk]
  cases us with
  | nil => exact absurd h3 (Nat.not_lt_zero _)
  | cons v us => simp

theorem dl_start {p : List Int → Bool} {xs : List (List Int)} {u : Value} (h : ¬ ixF p xs = -1) : (xs.map intsU).set (ixF p xs).toNat (.hole u) = dlRow p xs ((ixF p xs).toNat + 1) [u] ∧ DlInv p xs ((ixF p xs).toNat + 1) [u] ∧ (keepTo p xs ((ixF p xs).toNat + 1)).length = (ixF p xs).toNat ∧ (ixF p xs).toNat < xs.length := by
  obtain ⟨k, hk, hk1, hk2⟩ := ixF_first h
  have e : (ixF p xs).toNat = k := by omega
  rw [e]
  have hl : (keepTo p xs (k + 1)).length = k := by rw [hk2, List.length_take]; omega
  refine ⟨?_, ⟨by omega, by rw [hl]; rfl, by simp⟩, hl, hk⟩
  unfold dlRow
  rw [hk2]
  apply List.ext_getElem?
  intro q
  have ht : (xs.take k).length = k := by rw [List.length_take]; omega
  rw [List.append_assoc, List.getElem?_append, List.getElem?_set, List.length_map, List.length_map, ht]
  by_cases h1 : k = q
  · subst h1
    rw [if_pos rfl, if_pos hk, if_neg (by omega), Nat.sub_self]; rfl
  · rw [if_neg h1]
    by_cases h2 : q < k
    · rw [if_pos h2, List.getElem?_map, List.getElem?_map, List.getElem?_take, if_pos h2]
    · rw [if_neg h2, show q - k = (q - k - 1) + 1 by omega]
      simp only [List.map_cons, List.map_nil, List.singleton_append, List.getElem?_cons_succ, List.getElem?_map, List.getElem?_drop]
      rw [show k + 1 + (q - k - 1) = q by omega]

theorem dl_clear {p : List Int → Bool} {xs : List (List Int)} {j : Nat} {us : List Value} (h : DlInv p xs j us) (hj : ¬ j < xs.length) : noUs (((dlRow p xs j us).take (dlRow p xs j us).length).drop (keepTo p xs j).length) = true := by
  have h2 := h.le
  rw [List.take_length]
  unfold dlRow
  rw [List.drop_of_length_le (i := j) (by omega), List.map_nil, List.append_nil, List.drop_append]
  rw [List.drop_of_length_le (by simp), List.nil_append]
  exact noUs_iff.2 fun y hy => by
    obtain ⟨v, _, rfl⟩ := List.mem_map.1 (List.mem_of_mem_drop hy)
    rfl

theorem dl_end {p : List Int → Bool} {xs : List (List Int)} {j : Nat} {us : List Value} {Z B : List D} (h : DlInv p xs j us) (hj : ¬ j < xs.length) : (((dlRow p xs j us).take (keepTo p xs j).length ++ Z ++ B).take (keepTo p xs j).length) = (xs.filter fun u => !p u).map intsU := by
  have h2 := h.le
  have h3 : keepTo p xs j = xs.filter fun u => !p u := by rw [keepTo, List.take_of_length_le (by omega)]
  rw [take_cut (by rw [dl_len h]; have := h.len; omega), ← h3]
  unfold dlRow
  rw [List.append_assoc, List.take_append_of_le_length (by simp), List.take_of_length_le (by simp)]

theorem intsU_sol (l : List Int) : (intsU l).solid = true := solid_row (fun _ => rfl) l

theorem sp_DeleteFunc_ints (xs : List (List Int)) (f : FuncId) (caps : List D) (p : List Int → Bool) (hf : Enters Try.prog f) (hp : ∀ x ∈ xs, Sp Try.prog f (intsD x :: caps) (.any :: anys caps) (.bool (p x))) (hn : xs.length ≤ 1048576) : Sp Try.prog 119 [(.slice true 1 (xs.map intsU)), (.fn f caps)] [.any, .any] (.slice true 1 ((xs.filter (fun u => !p u)).map intsU)) := by
  refine Sp_intro (lend := false) Try.func119 rfl rfl rfl (fun h => nomatch h) (fun c hc hX => ?_)
  have hixb := ixF_bounds p xs
  refine T_seq ?_
  refine T_region hc ?_
  refine Ch.step (v := (.c (.slice none 0 0))) rfl (.pure (.assign _ rfl rfl)) rfl rfl ?_
  refine Ch.nil ?_
  refine T_seq ?_
  refine T_region hc ?_
  refine Ch.step (v := (.row 1)) rfl (.pure (.move _ rfl rfl)) rfl rfl ?_
  refine Ch.step (v := (.d (.fn f caps))) rfl (.pure (.move _ rfl rfl)) rfl rfl ?_
  refine Ch.step (v := (.d (.int .i64 (ixF p xs)))) rfl (.call 10000 163 _ _ _ en163 rfl (.inl rfl) (.cons (.lend (.row rfl (frozs_to intsU_fz _))) (.cons (.d _) .nil)) rfl rfl (sp_IndexFunc_ints xs f caps p hf hp (by first | assumption | omega | (rw [List.length_take]; omega) | (have := bulkF_mem hb _ (getD_mem (d := default) (by omega)); assumption) | (unfold bulkS at *; omega) | (simp_all; done))) (.skip _ _ (.skip _ _ .nil)) rfl) rfl rfl ?_
  refine Ch.step (v := (.d (.int .i64 (ixF p xs)))) rfl (.pure (.assign _ rfl rfl)) rfl rfl ?_
  refine Ch.nil ?_
  refine T_seq ?_
  refine T_seq ?_
  refine T_region hc ?_
  refine Ch.step (v := (.d (.int .i64 (ixF p xs)))) rfl (.pure (.move _ rfl rfl)) rfl rfl ?_
  refine Ch.step (v := (.d (.bool (decide ((ixF p xs) = (-1)))))) rfl (.pure (.int _ _ _ _ _ rfl rfl rfl rfl)) rfl rfl ?_
  refine Ch.nil ?_
  refine T_cond (b := (decide ((ixF p xs) = (-1)))) rfl (fun h1 => ?_) (fun h1 => ?_)
  · replace h1 := of_decide_eq_true h1
    refine T_seq ?_
    refine T_region hc ?_
    refine Ch.step (v := (.row 1)) rfl (.pure (.move _ rfl rfl)) rfl rfl ?_
    refine Ch.step (v := (.row 1)) rfl (.pure (.assign _ rfl rfl)) rfl rfl ?_
    refine Ch.nil ?_
    refine T_ret ?_
    refine And.intro (.inr rfl) ?_
    exact Exists.intro [(.row 1)] (Exists.intro [] (Exists.intro [1] (And.intro (.cons (.tmp 4 rfl) .nil) (And.intro (.cons (.any _) (.cons (.any _) .nil)) (And.intro (Exp.of (congrArg (D.slice true 1) (by first | (rw [ixF_all h1]; done) | (exact dl_end hp0 (by omega)))) (.row rfl)) (And.intro rfl rfl))))))
  · replace h1 := of_decide_eq_false h1
    refine T_skip ?_
    refine T_seq ?_
    refine T_seq ?_
    refine T_region hc ?_
    refine Ch.step (v := (.d (.int .i64 (ixF p xs)))) rfl (.pure (.move _ rfl rfl)) rfl rfl ?_
    refine Ch.step (v := (.d (.int .i64 ((ixF p xs) + 1)))) rfl (.pure (.int _ _ _ _ _ rfl rfl rfl (intV_add (by first | omega | (simp only [List.length_map, List.length_append, List.length_take, List.length_drop, List.length_cons, List.length_nil]; omega) | (simp; omega) | (simp; done)) (by first | omega | (simp only [List.length_map, List.length_append, List.length_take, List.length_drop, List.length_cons, List.length_nil]; omega) | (simp; omega) | (simp; done))))) rfl rfl ?_
    refine Ch.step (v := (.d (.int .i64 ((ixF p xs) + 1)))) rfl (.pure (.assign _ rfl rfl)) rfl rfl ?_
    refine Ch.nil ?_
    refine T_block ?_
    refine T_take 1 (ixF p xs).toNat 7900000 7900001 rfl (get_map intsU (dl_start (u := default) h1).2.2.2) rfl rfl (fun u0 => ?_)
    refine T_loop (ι := Nat × List Value) (fun q => { n := 42, sl := [(0, (.row 1)), (1, (.d (.fn f caps))), (5, (.d (.int .i64 (((keepTo p xs q.1).length : Nat) : Int)))), (6, (.d (.int .i64 ((q.1 : Nat) : Int))))], hp := [(1, (some (.row 1 (dlRow p xs q.1 q.2))))], pin := [1] }) (fun q => DlInv p xs q.1 q.2) (fun q => xs.length - q.1) ⟨((ixF p xs).toNat + 1, [u0]), ((dl_start h1).2.1), (Wk.of rfl rfl (And.intro rfl (And.intro rfl (And.intro (vI (by first | (have e := (dl_start (u := u0) h1).2.2.1; dsimp only; omega) | (have e := keepTo_yes (by omega) (by assumption : p (xs.getD q.1 default) = false); dsimp only; rw [e, List.length_append, List.length_singleton]; omega) | (have e := keepTo_no (by omega) (by assumption : p (xs.getD q.1 default) = true); dsimp only; rw [e]; done))) (And.intro (vI (by first | rfl | omega | (simp; done) | (simp; omega))) trivial)))) (And.intro (oR (by first | exact (dl_start h1).1 | exact (dl_keep hp0 (by omega) (by assumption)).1 | exact (dl_skip hp0 (by omega) (by assumption)).1)) trivial))⟩ (fun q hp0 => ?_)
    have hq1 := dl_len hp0; have hq2 := hp0.len; have hq3 := hp0.le; have hq4 := hp0.pos
    refine T_seq ?_
    refine T_seq ?_
    refine T_region hc ?_
    refine Ch.step (v := (.d (.int .i64 ((q.1 : Nat) : Int)))) rfl (.pure (.move _ rfl rfl)) rfl rfl ?_
    refine Ch.step (v := (.row 1)) rfl (.pure (.move _ rfl rfl)) rfl rfl ?_
    refine Ch.step (v := (.d (.int .i64 (((dlRow p xs q.1 q.2).length : Nat) : Int)))) rfl (.pure (.len _ _ 43 rfl Try.underlying28 (.row rfl) rfl)) rfl rfl ?_
    refine Ch.step (v := (.d (.bool (decide (((q.1 : Nat) : Int) < (((dlRow p xs q.1 q.2).length : Nat) : Int)))))) rfl (.pure (.int _ _ _ _ _ rfl rfl rfl rfl)) rfl rfl ?_
    refine Ch.nil ?_
    refine T_cond (b := (decide (((q.1 : Nat) : Int) < (((dlRow p xs q.1 q.2).length : Nat) : Int)))) rfl (fun h2 => ?_) (fun h2 => ?_)
    · replace h2 := of_decide_eq_true h2
      refine T_skip ?_
      refine T_seq ?_
      refine T_block ?_
      refine T_seq ?_
      refine T_take 1 q.1 7000002 7000003 rfl (dl_at hp0 (by omega)) rfl rfl (fun u1 => ?_)
      refine T_region hc ?_
      refine Ch.step (v := (.row 1)) rfl (.pure (.move _ rfl rfl)) rfl rfl ?_
      refine Ch.step (v := (.d (.int .i64 ((q.1 : Nat) : Int)))) rfl (.pure (.move _ rfl rfl)) rfl rfl ?_
      refine Ch.step (v := (.el 1 1 q.1 0)) rfl (.pure (.idxRow _ _ _ 43 (q.1) rfl Try.underlying28 sz43 rfl rfl rfl rfl (by first | omega | (simp only [List.length_map, List.length_set]; omega) | (simp; omega)))) rfl rfl ?_
      refine Ch.step (v := (.row 7000002)) rfl (.pure (.loadHole (n := 7000002) (m := 7000003) (u := u1) _ _ rfl ag43 rfl rfl (get_set (by first | omega | (simp only [List.length_map, List.length_set]; omega) | (simp; omega))) rfl rfl)) rfl rfl ?_
      refine Ch.step (v := (.row 7000002)) rfl (.pure (.assign _ rfl rfl)) rfl rfl ?_
      refine Ch.nil ?_
      refine T_seq ?_
      refine T_region hc ?_
      refine Ch.step (v := (.d (.fn f caps))) rfl (.pure (.move _ rfl rfl)) rfl rfl ?_
      refine Ch.step (v := (.row 7000002)) rfl (.pure (.move _ rfl rfl)) rfl rfl ?_
      refine Ch.step (v := (.d (.bool (p (xs.getD q.1 default))))) rfl (.call 28000 f _ #[.tmp 27] _ hf rfl (.inr ⟨caps, rfl, rfl⟩) (.cons (.lend (.row rfl (frozs_map (fun _ => rfl) _))) (exps_ds caps)) rfl (sol rfl (anys_one (anys_sol caps))) (hp _ (getD_mem (by omega))) (.skip _ _ (back_anys caps)) rfl) rfl rfl ?_
      refine Ch.step (v := (.d (.bool (!(p (xs.getD q.1 default)))))) rfl (.pure (.not _ _ rfl rfl)) rfl rfl ?_
      refine Ch.nil ?_
      refine T_cond (b := (!(p (xs.getD q.1 default)))) rfl (fun h3 => ?_) (fun h3 => ?_)
      · replace h3 := nott h3
        refine T_seq ?_
        refine T_region hc ?_
        refine Ch.step (v := (.row 1)) rfl (.pure (.move _ rfl rfl)) rfl rfl ?_
        refine Ch.step (v := (.d (.int .i64 (((keepTo p xs q.1).length : Nat) : Int)))) rfl (.pure (.move _ rfl rfl)) rfl rfl ?_
        refine Ch.step (v := (.row 7000002)) rfl (.pure (.move _ rfl rfl)) rfl rfl ?_
        refine Ch.step (v := (.el 1 1 ((keepTo p xs q.1).length) 0)) rfl (.pure (.idxRow _ _ _ 43 ((keepTo p xs q.1).length) rfl Try.underlying28 sz43 rfl rfl rfl rfl (by first | omega | (simp only [List.length_map, List.length_set]; omega) | (simp; omega)))) rfl rfl ?_
        refine Ch.step (v := .junk) rfl (.storeElK (y' := (.slice true 1 ((xs.getD q.1 default).map (fun n : Int => D.int .i64 n)))) _ _ _ rfl rfl rfl (.row rfl) rfl rfl rfl sz43 rfl (dl_hole hp0 (by omega)) rfl rfl) rfl rfl ?_
        refine Ch.nil ?_
        refine T_region hc ?_
        refine Ch.step (v := (.d (.int .i64 (((keepTo p xs q.1).length : Nat) : Int)))) rfl (.pure (.move _ rfl rfl)) rfl rfl ?_
        refine Ch.step (v := (.d (.int .i64 ((((keepTo p xs q.1).length : Nat) : Int) + 1)))) rfl (.pure (.int _ _ _ _ _ rfl rfl rfl (intV_add (by first | omega | (simp only [List.length_map, List.length_append, List.length_take, List.length_drop, List.length_cons, List.length_nil]; omega) | (simp; omega) | (simp; done)) (by first | omega | (simp only [List.length_map, List.length_append, List.length_take, List.length_drop, List.length_cons, List.length_nil]; omega) | (simp; omega) | (simp; done))))) rfl rfl ?_
        refine Ch.step (v := (.d (.int .i64 ((((keepTo p xs q.1).length : Nat) : Int) + 1)))) rfl (.pure (.assign _ rfl rfl)) rfl rfl ?_
        refine Ch.nil ?_
        refine T_region hc ?_
        refine Ch.step (v := (.d (.int .i64 ((q.1 : Nat) : Int)))) rfl (.pure (.move _ rfl rfl)) rfl rfl ?_
        refine Ch.step (v := (.d (.int .i64 (((q.1 : Nat) : Int) + 1)))) rfl (.pure (.int _ _ _ _ _ rfl rfl rfl (intV_add (by first | omega | (simp only [List.length_map, List.length_append, List.length_take, List.length_drop, List.length_cons, List.length_nil]; omega) | (simp; omega) | (simp; done)) (by first | omega | (simp only [List.length_map, List.length_append, List.length_take, List.length_drop, List.length_cons, List.length_nil]; omega) | (simp; omega) | (simp; done))))) rfl rfl ?_
        refine Ch.step (v := (.d (.int .i64 (((q.1 : Nat) : Int) + 1)))) rfl (.pure (.assign _ rfl rfl)) rfl rfl ?_
        refine Ch.nil ?_
        refine Exists.intro ((q.1 + 1, q.2.tail ++ [u1])) (And.intro (by first | exact (dl_keep (u := default) hp0 (by omega) (by assumption)).2 | exact (dl_skip (u := default) hp0 (by omega) (by assumption)).2 | exact (dl_keep hp0 (by omega) (by assumption)).2 | exact (dl_skip hp0 (by omega) (by assumption)).2) (And.intro (by first | omega | (dsimp only; omega)) (Wk.of rfl rfl (And.intro rfl (And.intro rfl (And.intro (vI (by first | (have e := (dl_start (u := u0) h1).2.2.1; dsimp only; omega) | (have e := keepTo_yes (by omega) (by assumption : p (xs.getD q.1 default) = false); dsimp only; rw [e, List.length_append, List.length_singleton]; omega) | (have e := keepTo_no (by omega) (by assumption : p (xs.getD q.1 default) = true); dsimp only; rw [e]; done))) (And.intro (vI (by first | rfl | omega | (simp; done) | (simp; omega))) trivial)))) (And.intro (oR (by first | exact (dl_start h1).1 | exact (dl_keep hp0 (by omega) (by assumption)).1 | exact (dl_skip hp0 (by omega) (by assumption)).1)) trivial))))
      · replace h3 := notf h3
        refine T_skip ?_
        refine T_region hc ?_
        refine Ch.step (v := (.d (.int .i64 ((q.1 : Nat) : Int)))) rfl (.pure (.move _ rfl rfl)) rfl rfl ?_
        refine Ch.step (v := (.d (.int .i64 (((q.1 : Nat) : Int) + 1)))) rfl (.pure (.int _ _ _ _ _ rfl rfl rfl (intV_add (by first | omega | (simp only [List.length_map, List.length_append, List.length_take, List.length_drop, List.length_cons, List.length_nil]; omega) | (simp; omega) | (simp; done)) (by first | omega | (simp only [List.length_map, List.length_append, List.length_take, List.length_drop, List.length_cons, List.length_nil]; omega) | (simp; omega) | (simp; done))))) rfl rfl ?_
        refine Ch.step (v := (.d (.int .i64 (((q.1 : Nat) : Int) + 1)))) rfl (.pure (.assign _ rfl rfl)) rfl rfl ?_
        refine Ch.nil ?_
        refine Exists.intro ((q.1 + 1, q.2 ++ [u1])) (And.intro (by first | exact (dl_keep (u := default) hp0 (by omega) (by assumption)).2 | exact (dl_skip (u := default) hp0 (by omega) (by assumption)).2 | exact (dl_keep hp0 (by omega) (by assumption)).2 | exact (dl_skip hp0 (by omega) (by assumption)).2) (And.intro (by first | omega | (dsimp only; omega)) (Wk.of rfl rfl (And.intro rfl (And.intro rfl (And.intro (vI (by first | (have e := (dl_start (u := u0) h1).2.2.1; dsimp only; omega) | (have e := keepTo_yes (by omega) (by assumption : p (xs.getD q.1 default) = false); dsimp only; rw [e, List.length_append, List.length_singleton]; omega) | (have e := keepTo_no (by omega) (by assumption : p (xs.getD q.1 default) = true); dsimp only; rw [e]; done))) (And.intro (vI (by first | rfl | omega | (simp; done) | (simp; omega))) trivial)))) (And.intro (oR (by first | exact (dl_start h1).1 | exact (dl_keep hp0 (by omega) (by assumption)).1 | exact (dl_skip hp0 (by omega) (by assumption)).1)) trivial))))
    · replace h2 := of_decide_eq_false h2
      refine T_exit ?_
      refine T_seq ?_
      refine T_region hc ?_
      refine Ch.step (v := (.row 1)) rfl (.pure (.move _ rfl rfl)) rfl rfl ?_
      refine Ch.step (v := (.d (.int .i64 (((keepTo p xs q.1).length : Nat) : Int)))) rfl (.pure (.move _ rfl rfl)) rfl rfl ?_
      refine Ch.step (v := (.sub 1 1 ((keepTo p xs q.1).length) ((dlRow p xs q.1 q.2).length))) rfl (.pure (.subRow _ _ _ _ 43 ((keepTo p xs q.1).length) ((dlRow p xs q.1 q.2).length) rfl Try.underlying28 sz43 rfl rfl (bndS rfl rfl) (bndN rfl) (by first | omega | (simp only [List.length_map, List.length_append, List.length_take, List.length_drop, List.length_cons, List.length_nil]; omega) | (simp; omega) | (simp; done)) (by first | omega | (simp only [List.length_map, List.length_append, List.length_take, List.length_drop, List.length_cons, List.length_nil]; omega) | (simp; omega) | (simp; done)))) rfl rfl ?_
      refine Ch.step (v := .junk) rfl (.clearK _ _ 43 rfl sty28 rfl rfl (by first | omega | (simp only [List.length_map, List.length_append, List.length_take, List.length_drop, List.length_cons, List.length_nil]; omega) | (simp; omega) | (simp; done)) (dl_clear hp0 (by omega)) (zeroD_mk (zd := (.slice true 1 [])) zr43 (by intro S w; exact nil_reads true 1) rfl)) rfl rfl ?_
      refine Ch.nil ?_
      refine T_seq ?_
      refine T_region hc ?_
      refine Ch.step (v := (.row 1)) rfl (.pure (.move _ rfl rfl)) rfl rfl ?_
      refine Ch.step (v := (.d (.int .i64 (((keepTo p xs q.1).length : Nat) : Int)))) rfl (.pure (.move _ rfl rfl)) rfl rfl ?_
      refine Ch.step (v := (.row 41000)) rfl (.cut 41000 _ _ _ 43 ((keepTo p xs q.1).length) rfl Try.underlying28 sz43 rfl rfl (bndS rfl rfl) (by first | omega | (simp only [List.length_map, List.length_append, List.length_take, List.length_drop, List.length_cons, List.length_nil]; omega) | (simp; omega) | (simp; done)) rfl) rfl rfl ?_
      refine Ch.step (v := (.row 41000)) rfl (.pure (.assign _ rfl rfl)) rfl rfl ?_
      refine Ch.nil ?_
      refine T_ret ?_
      refine And.intro (.inr rfl) ?_
      exact Exists.intro [(.row 41000)] (Exists.intro [] (Exists.intro [41000] (And.intro (.cons (.tmp 4 rfl) .nil) (And.intro (.cons (.any _) (.cons (.any _) .nil)) (And.intro (Exp.of (congrArg (D.slice true 1) (by first | (rw [ixF_all h1]; done) | (exact dl_end hp0 (by omega)))) (.row rfl)) (And.intro rfl rfl))))))

def prIn (P : Nat → Nat → Bool) (i m : Nat) : List (List Int) := selTo m (fun k => decide (i < k) && P i k) fun k => [(i : Int), (k : Int)]

def prTo (P : Nat → Nat → Bool) (n k : Nat) : List (List Int) := (List.range k).flatMap fun i => prIn P i n

def prM (P : Nat → Nat → Bool) (n k m : Nat) : List (List Int) := prTo P n k ++ prIn P k m

theorem prIn_none (P : Nat → Nat → Bool) (i : Nat) {m : Nat} (h : m ≤ i + 1) : prIn P i m = [] := by
  unfold prIn selTo
  rw [List.map_eq_nil_iff, List.filter_eq_nil_iff]
  intro k hk
  have := List.mem_range.1 hk
  rw [decide_eq_false (by omega)]
  simp

theorem prM_start (P : Nat → Nat → Bool) (n k : Nat) : prTo P n k = prM P n k (k + 1) := by rw [prM, prIn_none P k (Nat.le_refl _), List.append_nil]

theorem prIn_all {P : Nat → Nat → Bool} {i n m : Nat} (h : n ≤ m) (h2 : m = n ∨ m ≤ i + 1) : prIn P i m = prIn P i n := by
  rcases h2 with rfl | h2
  · rfl
  · rw [prIn_none P i h2, prIn_none P i (by omega)]

theorem prM_end {P : Nat → Nat → Bool} {n k m : Nat} (h : n ≤ m) (h2 : m = n ∨ m ≤ k + 1) : prM P n k m = prTo P n (k + 1) := by
  rw [prM, prIn_all h h2]
  unfold prTo
  rw [List.range_succ, List.flatMap_append]
  simp

theorem prM_yes {P : Nat → Nat → Bool} {n k m : Nat} (hk : k < m) (h : P k m = true) : prM P n k m ++ [[(k : Int), (m : Int)]] = prM P n k (m + 1) := by
  have : prIn P k m ++ [[(k : Int), (m : Int)]] = prIn P k (m + 1) := selTo_yes (by rw [h, decide_eq_true hk]; rfl)
  rw [prM, List.append_assoc, this]; rfl

theorem prM_no {P : Nat → Nat → Bool} {n k m : Nat} (h : P k m = false) : prM P n k m = prM P n k (m + 1) := by
  have : prIn P k m = prIn P k (m + 1) := selTo_no (by rw [h, Bool.and_false])
  rw [prM, this]; rfl

theorem prIn_le (P : Nat → Nat → Bool) (i m : Nat) : (prIn P i m).length ≤ m := selTo_le _ _ _

theorem prTo_le (P : Nat → Nat → Bool) {n : Nat} (hn : n ≤ 300) : ∀ k, (prTo P n k).length ≤ k * 300
  | 0 => Nat.le_refl 0
  | k + 1 => by
    have h1 := prTo_le P hn k
    have h2 := prIn_le P k n
    have e : (prTo P n (k + 1)).length = (prTo P n k).length + (prIn P k n).length := by
      unfold prTo
      rw [List.range_succ, List.flatMap_append, List.length_append]; simp
    omega

theorem prM_le (P : Nat → Nat → Bool) {n k m : Nat} (hn : n ≤ 300) (hk : k ≤ 300) (hm : m ≤ 301) : (prM P n k m).length ≤ 100000 := by
  have h1 := prTo_le P hn k
  have h2 := prIn_le P k m
  rw [prM, List.length_append]
  omega

theorem prTo_in {P : Nat → Nat → Bool} {n k : Nat} (hk : k ≤ n) : ∀ pr ∈ prTo P n k, pr.length = 2 ∧ (0 ≤ pr.getD 0 default ∧ (pr.getD 0 default).toNat < n) ∧ (0 ≤ pr.getD 1 default ∧ (pr.getD 1 default).toNat < n) := by
  intro pr hpr
  obtain ⟨i, hi, hp⟩ := List.mem_flatMap.1 hpr
  obtain ⟨j, hj, rfl⟩ := List.mem_map.1 hp
  have h1 := List.mem_range.1 hi
  have h2 := List.mem_range.1 (List.mem_filter.1 hj).1
  refine ⟨rfl, ?_, ?_⟩
  · show (0 : Int) ≤ (i : Int) ∧ ((i : Int)).toNat < n
    omega
  · show (0 : Int) ≤ (j : Int) ∧ ((j : Int)).toNat < n
    omega

theorem selTo_filter {τ : Type} (n : Nat) (p : Nat → Bool) (f : Nat → τ) (q : τ → Bool) : (selTo n p f).filter q = selTo n (fun j => p j && q (f j)) f := by
  unfold selTo
  rw [List.filter_map, List.filter_filter]
  congr 1
  apply List.filter_congr
  intro j _
  simp [Bool.and_comm]

theorem prTo_filter (P : Nat → Nat → Bool) (Q : List Int → Bool) (n k : Nat) : (prTo P n k).filter Q = prTo (fun i j => P i j && Q [(i : Int), (j : Int)]) n k := by
  unfold prTo
  rw [List.filter_flatMap]
  congr 1
  funext i
  unfold prIn
  rw [selTo_filter]
  congr 1
  funext j
  rw [Bool.and_assoc]

theorem flatMap_cong {σ τ : Type} {f g : σ → List τ} : ∀ {l : List σ}, (∀ a ∈ l, f a = g a) → l.flatMap f = l.flatMap g
  | [], _ => rfl
  | a :: l, h => by rw [List.flatMap_cons, List.flatMap_cons, h a List.mem_cons_self, flatMap_cong fun b hb => h b (List.mem_cons_of_mem _ hb)]

theorem prTo_congr {P Q : Nat → Nat → Bool} {n k : Nat} (hk : k ≤ n) (h : ∀ i j, i < n → j < n → P i j = Q i j) : prTo P n k = prTo Q n k := by
  unfold prTo
  apply flatMap_cong
  intro i hi
  have h1 := List.mem_range.1 hi
  unfold prIn selTo
  congr 1
  apply List.filter_congr
  intro j hj
  have h2 := List.mem_range.1 hj
  rw [h i j (by omega) h2]

def eqP (x : Sgr) (i k : Nat) : Bool := decide (x.codes.getD i default = x.codes.getD k default)

def cfS (x : Sgr) (pr : List Int) (s : Int) : Bool := !decide ((!excB x (pr.getD 0 default) s) = (!excB x (pr.getD 1 default) s))

def cfD (x : Sgr) (i k : Nat) : Bool := (outsL x.sigs).any fun s => excB x (i : Int) s != excB x (k : Int) s

def cfP (x : Sgr) (i k : Nat) : Bool := eqP x i k && cfD x i k

def cfL (x : Sgr) : List (List Int) := prTo (cfP x) x.codes.length x.codes.length

theorem cf_filter (x : Sgr) : (prTo (eqP x) x.codes.length x.codes.length).filter (fun u => !(fun pr => !(outsL x.sigs).any (cfS x pr)) u) = cfL x := by
  rw [prTo_filter]
  unfold cfL
  apply prTo_congr (Nat.le_refl _)
  intro i j _ _
  unfold cfP cfD
  rw [Bool.not_not]
  congr 1
  congr 1
  funext s
  unfold cfS
  show (!decide ((!excB x (i : Int) s) = (!excB x (j : Int) s))) = _
  cases excB x (i : Int) s <;> cases excB x (j : Int) s <;> rfl

theorem cfS_eq {x : Sgr} {pr : List Int} {s : Int} (hx : SgOk x) (h0 : 0 ≤ pr.getD 0 default ∧ (pr.getD 0 default).toNat < x.codes.length) (h1 : 0 ≤ pr.getD 1 default ∧ (pr.getD 1 default).toNat < x.codes.length) (hs : 0 ≤ s) :
    (!decide (decide (((two ((masksL x).getD (pr.getD 0 default).toNat default) (2 * s).toNat : Nat) : Int) = 0) = decide (((two ((masksL x).getD (pr.getD 1 default).toNat default) (2 * s).toNat : Nat) : Int) = 0))) = cfS x pr s := by
  rw [two_exc hx hs h0, two_exc hx hs h1]; rfl

def actP (x : Sgr) (k : Nat) (s : Nat) : Bool := outP x.sigs s && excB x (k : Int) (s : Int)

def actTo (x : Sgr) (k m : Nat) : List UInt8 := ((List.range m).filter (actP x k)).flatMap fun s => [UInt8.ofNat (48 + s), 44]

theorem actTo_len (x : Sgr) (k : Nat) : ∀ m, (actTo x k m).length ≤ 2 * m
  | 0 => Nat.le_refl 0
  | m + 1 => by
    have h1 := actTo_len x k m
    have e : (actTo x k (m + 1)).length ≤ (actTo x k m).length + 2 := by
      unfold actTo
      rw [List.range_succ, List.filter_append, List.flatMap_append, List.length_append]
      rw [List.filter_cons]
      split <;> simp
    omega

theorem actTo_yes {x : Sgr} {k m : Nat} (h : actP x k m = true) : actTo x k m ++ ([UInt8.ofNat (48 + m)] ++ [44]) = actTo x k (m + 1) := by
  unfold actTo
  rw [List.range_succ, List.filter_append, List.flatMap_append, List.filter_cons, h]
  simp

theorem actTo_no {x : Sgr} {k m : Nat} (h : actP x k m = false) : actTo x k m = actTo x k (m + 1) := by
  unfold actTo
  rw [List.range_succ, List.filter_append, List.filter_cons, h]
  simp

theorem act_inj : ∀ {l m : List Nat}, (∀ s ∈ l, s < 8) → (∀ s ∈ m, s < 8) → (l.flatMap fun s => [UInt8.ofNat (48 + s), (44 : UInt8)]) = (m.flatMap fun s => [UInt8.ofNat (48 + s), 44]) → l = m
  | [], [], _, _, _ => rfl
  | [], b :: m, _, _, h => by simp at h
  | a :: l, [], _, _, h => by simp at h
  | a :: l, b :: m, hl, hm, h => by
    have ha := hl a List.mem_cons_self
    have hb := hm b List.mem_cons_self
    simp only [List.flatMap_cons, List.cons_append, List.nil_append, List.cons.injEq, true_and] at h
    have e : a = b := by
      have := congrArg UInt8.toNat h.1
      rw [UInt8.toNat_ofNat', UInt8.toNat_ofNat'] at this
      omega
    subst e
    congr 1
    exact act_inj (fun s hs => hl s (List.mem_cons_of_mem _ hs)) (fun s hs => hm s (List.mem_cons_of_mem _ hs)) h.2

theorem act_diff {x : Sgr} (h8 : x.sigs.length ≤ 8) (i k : Nat) : (!decide (actTo x i x.sigs.length = actTo x k x.sigs.length)) = cfD x i k := by
  have hm : ∀ q, ∀ s ∈ (List.range x.sigs.length).filter (actP x q), s < 8 := by
    intro q s hs
    have := List.mem_range.1 (List.mem_filter.1 hs).1
    omega
  have e : (actTo x i x.sigs.length = actTo x k x.sigs.length) ↔ ∀ s, s < x.sigs.length → actP x i s = actP x k s := by
    constructor
    · intro h s hs
      have := act_inj (hm i) (hm k) h
      have h1 : s ∈ (List.range x.sigs.length).filter (actP x i) ↔ s ∈ (List.range x.sigs.length).filter (actP x k) := by rw [this]
      rw [List.mem_filter, List.mem_filter] at h1
      have h2 := List.mem_range.2 hs
      rw [Bool.eq_iff_iff]
      exact ⟨fun h => (h1.1 ⟨h2, h⟩).2, fun h => (h1.2 ⟨h2, h⟩).2⟩
    · intro h
      unfold actTo
      congr 1
      apply List.filter_congr
      intro s hs
      exact h s (List.mem_range.1 hs)
  rw [Bool.eq_iff_iff, Bool.not_eq_true', decide_eq_false_iff_not, e, cfD, List.any_eq_true]
  constructor
  · intro h
    apply Classical.byContradiction
    intro hc
    apply h
    intro s hs
    unfold actP
    cases ho : outP x.sigs s with
    | false => rfl
    | true =>
      rw [Bool.true_and, Bool.true_and]
      apply Classical.byContradiction
      intro hne
      apply hc
      exact ⟨(s : Int), List.mem_map.2 ⟨s, List.mem_filter.2 ⟨List.mem_range.2 hs, ho⟩, rfl⟩, by simpa using hne⟩
  · rintro ⟨s, hs, hne⟩ h
    obtain ⟨j, hj, rfl⟩ := List.mem_map.1 hs
    rw [List.mem_filter] at hj
    have := h j (List.mem_range.1 hj.1)
    unfold actP at this
    rw [hj.2, Bool.true_and, Bool.true_and] at this
    rw [this] at hne
    simp at hne

theorem cfP_act {x : Sgr} (h8 : x.sigs.length ≤ 8) {i k : Nat} {b c : Bool} (hb : eqP x i k = b) (hc : (!decide (actTo x i x.sigs.length = actTo x k x.sigs.length)) = c) : cfP x i k = (b && c) := by
  rw [cfP, hb, ← act_diff h8, hc]

set_option maxHeartbeats 1000000 in
theorem sp_impl_equalCodes (x : Sgr) (hb : x.bulk ≤ 1048576) (hx : SgOk x) : Sp Try.prog 120 [(.agg [(.slice false 2 (x.sigs.map Sgn.d)), (.slice false 1 (x.codes.map D.str)), (.slice false 4 (x.arcs.map Arc.d))])] [.any] (.slice true 1 ((prTo (eqP x) x.codes.length x.codes.length).map intsU)) := by
  refine Sp_intro (lend := true) Try.func120 rfl rfl rfl (fun _ => rfl) (fun c hc hX => ?_)
  obtain ⟨hp0, hp1, hp2⟩ := Sgr.parts hb
  have hn0 := bulkF_len hp0
  have hn1 := bulk_len hp1
  have hx1 := bulk_mem hp1
  have hn2 := bulkF_len hp2; have hx8 := hx.eight; have hxl := hx.len; have hxf := hx.few
  refine T_seq ?_
  refine T_region hc ?_
  refine Ch.step (v := (.ptr 1000 0)) rfl (.box 1000 _ _ rfl (.aggD _)) rfl rfl ?_
  refine Ch.step (v := (.c (.slice none 0 0))) rfl (.pure (.assign _ rfl rfl)) rfl rfl ?_
  refine Ch.nil ?_
  refine T_seq ?_
  refine T_region hc ?_
  refine Ch.step (v := (.row 7000)) rfl (.slice 7000 _ 43 _ rfl sty28 (xs := []) rfl rfl .nil rfl rfl (by decide)) rfl rfl ?_
  refine Ch.step (v := (.row 7000)) rfl (.pure (.assign _ rfl rfl)) rfl rfl ?_
  refine Ch.nil ?_
  refine T_seq ?_
  refine T_seq ?_
  refine T_region hc ?_
  refine Ch.step (v := (.ptr 1000 1)) rfl (.pure (.fldPtr _ _ _ rfl fld34_1 rfl)) rfl rfl ?_
  refine Ch.step (v := (.d (.slice false 1 (x.codes.map D.str)))) rfl (.pure (.loadPtr1 _ _ rfl ag23 rfl rfl rfl)) rfl rfl ?_
  refine Ch.step (v := (.d (.int .i64 ((x.codes.length : Nat) : Int)))) rfl (.pure (.len _ _ 9 rfl Try.underlying23 (.sh _ _) (by simp))) rfl rfl ?_
  refine Ch.step (v := (.d (.int .i64 0))) rfl (.pure (.move _ rfl rfl)) rfl rfl ?_
  refine Ch.nil ?_
  refine T_block ?_
  refine T_loop (ι := Nat) (fun k => { n := 40, sl := [(1, (.ptr 1000 0)), (3, (.row 3)), (9, (.d (.slice false 1 (x.codes.map D.str)))), (10, (.d (.int .i64 ((x.codes.length : Nat) : Int)))), (11, (.d (.int .i64 ((k : Nat) : Int))))], hp := [(3, (some (.row 1 ((prTo (eqP x) x.codes.length k).map intsU)))), (1000, (some (.box [(.d (.slice false 2 (x.sigs.map Sgn.d))), (.d (.slice false 1 (x.codes.map D.str))), (.d (.slice false 4 (x.arcs.map Arc.d)))])))], pin := [] }) (fun k => k ≤ x.codes.length) (fun k => x.codes.length - k) ⟨0, (by omega), (Wk.ren [(3, 7000)] rfl rfl rfl rfl (And.intro rfl (And.intro rfl (And.intro rfl (And.intro rfl (And.intro (vI (by first | rfl | omega | (simp; done) | (simp; omega))) trivial))))) (And.intro (oR (by first | rfl | (rw [prM_end (by omega) (by omega)]; done))) (And.intro rfl trivial)))⟩ (fun k hp0 => ?_)
  refine T_seq ?_
  refine T_region hc ?_
  refine Ch.step (v := (.d (.bool (decide (((k : Nat) : Int) < ((x.codes.length : Nat) : Int)))))) rfl (.pure (.int _ _ _ _ _ rfl rfl rfl rfl)) rfl rfl ?_
  refine Ch.nil ?_
  refine T_seq ?_
  refine T_cond (b := (decide (((k : Nat) : Int) < ((x.codes.length : Nat) : Int)))) rfl (fun h1 => ?_) (fun h1 => ?_)
  · replace h1 := of_decide_eq_true h1
    refine T_skip ?_
    refine T_seq ?_
    refine T_block ?_
    refine T_seq ?_
    refine T_region hc ?_
    refine Ch.step (v := (.d (.int .i64 ((k : Nat) : Int)))) rfl (.pure (.move _ rfl rfl)) rfl rfl ?_
    refine Ch.step (v := (.d (.ref (.str (x.codes.getD k default))))) rfl (.pure (.idx _ _ _ 9 (k) rfl Try.underlying23 sz9 rfl rfl rfl (get_map _ (by first | omega | (simp only [List.length_map, List.length_append, List.length_take, List.length_drop, List.length_cons, List.length_nil]; omega) | (simp; omega) | (simp; done))))) rfl rfl ?_
    refine Ch.step (v := (.d (.str (x.codes.getD k default)))) rfl (.pure (.loadRef1 _ _ rfl ag9 rfl rfl)) rfl rfl ?_
    refine Ch.step (v := (.d (.int .i64 ((k : Nat) : Int)))) rfl (.pure (.assign _ rfl rfl)) rfl rfl ?_
    refine Ch.step (v := (.d (.str (x.codes.getD k default)))) rfl (.pure (.assign _ rfl rfl)) rfl rfl ?_
    refine Ch.nil ?_
    refine T_seq ?_
    refine T_region hc ?_
    refine Ch.step (v := (.d (.int .i64 ((k : Nat) : Int)))) rfl (.pure (.move _ rfl rfl)) rfl rfl ?_
    refine Ch.step (v := (.d (.int .i64 (((k : Nat) : Int) + 1)))) rfl (.pure (.int _ _ _ _ _ rfl rfl rfl (intV_add (by first | omega | (simp only [List.length_map, List.length_append, List.length_take, List.length_drop, List.length_cons, List.length_nil]; omega) | (simp; omega) | (simp; done)) (by first | omega | (simp only [List.length_map, List.length_append, List.length_take, List.length_drop, List.length_cons, List.length_nil]; omega) | (simp; omega) | (simp; done))))) rfl rfl ?_
    refine Ch.step (v := (.d (.int .i64 (((k : Nat) : Int) + 1)))) rfl (.pure (.assign _ rfl rfl)) rfl rfl ?_
    refine Ch.nil ?_
    refine T_block ?_
    refine T_loop (ι := Nat) (fun m => { n := 40, sl := [(1, (.ptr 1000 0)), (3, (.row 3)), (4, (.d (.int .i64 ((k : Nat) : Int)))), (5, (.d (.str (x.codes.getD k default)))), (6, (.d (.int .i64 ((m : Nat) : Int)))), (9, (.d (.slice false 1 (x.codes.map D.str)))), (10, (.d (.int .i64 ((x.codes.length : Nat) : Int)))), (11, (.d (.int .i64 ((k : Nat) : Int))))], hp := [(3, (some (.row 1 ((prM (eqP x) x.codes.length k m).map intsU)))), (1000, (some (.box [(.d (.slice false 2 (x.sigs.map Sgn.d))), (.d (.slice false 1 (x.codes.map D.str))), (.d (.slice false 4 (x.arcs.map Arc.d)))])))], pin := [] }) (fun m => k < m ∧ m ≤ x.codes.length) (fun m => x.codes.length - m) ⟨k + 1, ⟨by omega, by omega⟩, (Wk.of rfl rfl (And.intro rfl (And.intro rfl (And.intro rfl (And.intro rfl (And.intro (vI (by first | rfl | omega | (simp; done) | (simp; omega))) (And.intro rfl (And.intro rfl (And.intro rfl trivial)))))))) (And.intro (oR (by first | (exact congrArg (List.map _) (prM_start _ _ _)) | (exact push rfl (prM_yes (by omega) (by first | exact decide_eq_true (by assumption) | exact decide_eq_true (Eq.symm (by assumption))))) | (exact congrArg (List.map _) (prM_no (by first | exact decide_eq_false (by assumption) | exact decide_eq_false (fun e => (by assumption : ¬ _) e.symm)))))) (And.intro rfl trivial)))⟩ (fun m hp1 => ?_)
    have hq := prM_le (eqP x) (n := x.codes.length) (k := k) (m := m) (by omega) (by omega) (by omega)
    refine T_seq ?_
    refine T_seq ?_
    refine T_region hc ?_
    refine Ch.step (v := (.d (.int .i64 ((m : Nat) : Int)))) rfl (.pure (.move _ rfl rfl)) rfl rfl ?_
    refine Ch.step (v := (.ptr 1000 1)) rfl (.pure (.fldPtr _ _ _ rfl fld34_1 rfl)) rfl rfl ?_
    refine Ch.step (v := (.d (.slice false 1 (x.codes.map D.str)))) rfl (.pure (.loadPtr1 _ _ rfl ag23 rfl rfl rfl)) rfl rfl ?_
    refine Ch.step (v := (.d (.int .i64 ((x.codes.length : Nat) : Int)))) rfl (.pure (.len _ _ 9 rfl Try.underlying23 (.sh _ _) (by simp))) rfl rfl ?_
    refine Ch.step (v := (.d (.bool (decide (((m : Nat) : Int) < ((x.codes.length : Nat) : Int)))))) rfl (.pure (.int _ _ _ _ _ rfl rfl rfl rfl)) rfl rfl ?_
    refine Ch.nil ?_
    refine T_cond (b := (decide (((m : Nat) : Int) < ((x.codes.length : Nat) : Int)))) rfl (fun h2 => ?_) (fun h2 => ?_)
    · replace h2 := of_decide_eq_true h2
      refine T_skip ?_
      refine T_seq ?_
      refine T_block ?_
      refine T_seq ?_
      refine T_region hc ?_
      refine Ch.step (v := (.ptr 1000 1)) rfl (.pure (.fldPtr _ _ _ rfl fld34_1 rfl)) rfl rfl ?_
      refine Ch.step (v := (.d (.slice false 1 (x.codes.map D.str)))) rfl (.pure (.loadPtr1 _ _ rfl ag23 rfl rfl rfl)) rfl rfl ?_
      refine Ch.step (v := (.d (.int .i64 ((m : Nat) : Int)))) rfl (.pure (.move _ rfl rfl)) rfl rfl ?_
      refine Ch.step (v := (.d (.ref (.str (x.codes.getD m default))))) rfl (.pure (.idx _ _ _ 9 (m) rfl Try.underlying23 sz9 rfl rfl rfl (get_map _ (by first | omega | (simp only [List.length_map, List.length_append, List.length_take, List.length_drop, List.length_cons, List.length_nil]; omega) | (simp; omega) | (simp; done))))) rfl rfl ?_
      refine Ch.step (v := (.d (.str (x.codes.getD m default)))) rfl (.pure (.loadRef1 _ _ rfl ag9 rfl rfl)) rfl rfl ?_
      refine Ch.step (v := (.d (.str (x.codes.getD k default)))) rfl (.pure (.move _ rfl rfl)) rfl rfl ?_
      refine Ch.step (v := (.d (.bool (decide ((x.codes.getD m default) = (x.codes.getD k default)))))) rfl (.pure (.str _ _ _ _ _ rfl rfl rfl rfl)) rfl rfl ?_
      refine Ch.nil ?_
      refine T_cond (b := (decide ((x.codes.getD m default) = (x.codes.getD k default)))) rfl (fun h3 => ?_) (fun h3 => ?_)
      · replace h3 := of_decide_eq_true h3
        refine T_region hc ?_
        refine Ch.step (v := (.row 3)) rfl (.pure (.move _ rfl rfl)) rfl rfl ?_
        refine Ch.step (v := (.d (.int .i64 ((k : Nat) : Int)))) rfl (.pure (.move _ rfl rfl)) rfl rfl ?_
        refine Ch.step (v := (.d (.int .i64 ((m : Nat) : Int)))) rfl (.pure (.move _ rfl rfl)) rfl rfl ?_
        refine Ch.step (v := (.row 35000)) rfl (.slice 35000 _ 3 _ rfl sty43 (xs := [.tmp 33, .tmp 34]) rfl rfl (.cons (.d _) (.cons (.d _) .nil)) rfl rfl (by decide)) rfl rfl ?_
        refine Ch.step (v := (.row 36000)) rfl (.slice 36000 _ 43 _ rfl sty28 (xs := [.tmp 35]) rfl rfl (.cons (.row rfl) .nil) rfl rfl (by decide)) rfl rfl ?_
        refine Ch.step (v := (.row 37000)) rfl (.append 37000 _ _ _ 43 rfl sty28 (by decide) (.rowK rfl) (.inr ⟨_, rfl, rfl⟩) (.rowK rfl) rfl (by first | omega | (simp only [List.length_append, List.length_map, List.length_cons, List.length_nil]; omega) | (simp; omega) | (simp; done))) rfl rfl ?_
        refine Ch.step (v := (.row 37000)) rfl (.pure (.assign _ rfl rfl)) rfl rfl ?_
        refine Ch.nil ?_
        refine T_region hc ?_
        refine Ch.step (v := (.d (.int .i64 ((m : Nat) : Int)))) rfl (.pure (.move _ rfl rfl)) rfl rfl ?_
        refine Ch.step (v := (.d (.int .i64 (((m : Nat) : Int) + 1)))) rfl (.pure (.int _ _ _ _ _ rfl rfl rfl (intV_add (by first | omega | (simp only [List.length_map, List.length_append, List.length_take, List.length_drop, List.length_cons, List.length_nil]; omega) | (simp; omega) | (simp; done)) (by first | omega | (simp only [List.length_map, List.length_append, List.length_take, List.length_drop, List.length_cons, List.length_nil]; omega) | (simp; omega) | (simp; done))))) rfl rfl ?_
        refine Ch.step (v := (.d (.int .i64 (((m : Nat) : Int) + 1)))) rfl (.pure (.assign _ rfl rfl)) rfl rfl ?_
        refine Ch.nil ?_
        refine Exists.intro (m + 1) (And.intro ⟨by omega, by omega⟩ (And.intro (by first | omega | (dsimp only; omega)) (Wk.ren [(3, 37000)] rfl rfl rfl rfl (And.intro rfl (And.intro rfl (And.intro rfl (And.intro rfl (And.intro (vI (by first | rfl | omega | (simp; done) | (simp; omega))) (And.intro rfl (And.intro rfl (And.intro rfl trivial)))))))) (And.intro (oR (by first | (exact congrArg (List.map _) (prM_start _ _ _)) | (exact push rfl (prM_yes (by omega) (by first | exact decide_eq_true (by assumption) | exact decide_eq_true (Eq.symm (by assumption))))) | (exact congrArg (List.map _) (prM_no (by first | exact decide_eq_false (by assumption) | exact decide_eq_false (fun e => (by assumption : ¬ _) e.symm)))))) (And.intro rfl trivial)))))
      · replace h3 := of_decide_eq_false h3
        refine T_skip ?_
        refine T_region hc ?_
        refine Ch.step (v := (.d (.int .i64 ((m : Nat) : Int)))) rfl (.pure (.move _ rfl rfl)) rfl rfl ?_
        refine Ch.step (v := (.d (.int .i64 (((m : Nat) : Int) + 1)))) rfl (.pure (.int _ _ _ _ _ rfl rfl rfl (intV_add (by first | omega | (simp only [List.length_map, List.length_append, List.length_take, List.length_drop, List.length_cons, List.length_nil]; omega) | (simp; omega) | (simp; done)) (by first | omega | (simp only [List.length_map, List.length_append, List.length_take, List.length_drop, List.length_cons, List.length_nil]; omega) | (simp; omega) | (simp; done))))) rfl rfl ?_
        refine Ch.step (v := (.d (.int .i64 (((m : Nat) : Int) + 1)))) rfl (.pure (.assign _ rfl rfl)) rfl rfl ?_
        refine Ch.nil ?_
        refine Exists.intro (m + 1) (And.intro ⟨by omega, by omega⟩ (And.intro (by first | omega | (dsimp only; omega)) (Wk.of rfl rfl (And.intro rfl (And.intro rfl (And.intro rfl (And.intro rfl (And.intro (vI (by first | rfl | omega | (simp; done) | (simp; omega))) (And.intro rfl (And.intro rfl (And.intro rfl trivial)))))))) (And.intro (oR (by first | (exact congrArg (List.map _) (prM_start _ _ _)) | (exact push rfl (prM_yes (by omega) (by first | exact decide_eq_true (by assumption) | exact decide_eq_true (Eq.symm (by assumption))))) | (exact congrArg (List.map _) (prM_no (by first | exact decide_eq_false (by assumption) | exact decide_eq_false (fun e => (by assumption : ¬ _) e.symm)))))) (And.intro rfl trivial)))))
    · replace h2 := of_decide_eq_false h2
      refine T_exit ?_
      refine T_region hc ?_
      refine Ch.step (v := (.d (.int .i64 (((k : Nat) : Int) + 1)))) rfl (.pure (.int _ _ _ _ _ rfl rfl rfl (intV_add (by first | omega | (simp only [List.length_map, List.length_append, List.length_take, List.length_drop, List.length_cons, List.length_nil]; omega) | (simp; omega) | (simp; done)) (by first | omega | (simp only [List.length_map, List.length_append, List.length_take, List.length_drop, List.length_cons, List.length_nil]; omega) | (simp; omega) | (simp; done))))) rfl rfl ?_
      refine Ch.step (v := (.d (.int .i64 (((k : Nat) : Int) + 1)))) rfl (.pure (.move _ rfl rfl)) rfl rfl ?_
      refine Ch.nil ?_
      refine Exists.intro (k + 1) (And.intro (by omega) (And.intro (by first | omega | (dsimp only; omega)) (Wk.of rfl rfl (And.intro rfl (And.intro rfl (And.intro rfl (And.intro rfl (And.intro (vI (by first | rfl | omega | (simp; done) | (simp; omega))) trivial))))) (And.intro (oR (by first | rfl | (rw [prM_end (by omega) (by omega)]; done))) (And.intro rfl trivial)))))
  · replace h1 := of_decide_eq_false h1
    refine T_exit ?_
    refine T_seq ?_
    refine T_region hc ?_
    refine Ch.step (v := (.row 3)) rfl (.pure (.move _ rfl rfl)) rfl rfl ?_
    refine Ch.step (v := (.row 3)) rfl (.pure (.assign _ rfl rfl)) rfl rfl ?_
    refine Ch.nil ?_
    refine T_ret ?_
    refine And.intro (.inr rfl) ?_
    exact Exists.intro [(.row 3)] (Exists.intro [] (Exists.intro [3] (And.intro (.cons (.tmp 2 rfl) .nil) (And.intro (.cons (.any _) .nil) (And.intro (Exp.of (congrArg (D.slice true 1) (by rw [show x.codes.length = k by omega])) (.row rfl)) (And.intro rfl rfl))))))

theorem sp_conflicts_in (s : Int) (x : Sgr) (pr : List Int) (hs : 0 ≤ s ∧ s.toNat < x.sigs.length) (hx : SgOk x) (hpr : pr.length = 2 ∧ (0 ≤ pr.getD 0 default ∧ (pr.getD 0 default).toNat < x.codes.length) ∧ (0 ≤ pr.getD 1 default ∧ (pr.getD 1 default).toNat < x.codes.length)) : Sp Try.prog 123 [(.int .i64 s), (.ref (.slice false 1 ((masksL x).map (fun n : Nat => D.int .i64 (n : Int))))), (.ref (.slice false 1 (pr.map (fun n : Int => D.int .i64 n))))] [.any, .any, .any] (.bool (cfS x pr s)) := by
  refine Sp_intro (lend := true) Try.func123 rfl rfl rfl (fun _ => rfl) (fun c hc hX => ?_)
  have hx8 := hx.eight; have hml : (masksL x).length = x.codes.length := masksTo_len x _
  refine T_seq ?_
  refine T_region hc ?_
  refine Ch.step (v := (.d (.bool false))) rfl (.pure (.assign _ rfl rfl)) rfl rfl ?_
  refine Ch.nil ?_
  refine T_seq ?_
  refine T_regionD hc (by kernel_rfl) ?_
  refine ChD.step (v := (.d (.slice false 1 ((masksL x).map (fun n : Nat => D.int .i64 (n : Int)))))) [] rfl (.pure (.loadRef1 _ _ rfl ag43 rfl rfl)) rfl rfl ?_
  refine ChD.step (v := (.d (.slice false 1 (pr.map (fun n : Int => D.int .i64 n))))) [] rfl (.pure (.loadRef1 _ _ rfl ag43 rfl rfl)) rfl rfl ?_
  refine ChD.step (v := (.d (.ref (.int .i64 (pr.getD 0 default))))) [] rfl (.pure (.idx _ _ _ 3 (0) rfl Try.underlying43 sz3 rfl rfl rfl (get_map _ (by first | omega | (simp only [List.length_map, List.length_append, List.length_take, List.length_drop, List.length_cons, List.length_nil]; omega) | (simp; omega) | (simp; done))))) rfl rfl ?_
  refine ChD.step (v := (.d (.int .i64 (pr.getD 0 default)))) [] rfl (.pure (.loadRef1 _ _ rfl ag3 rfl rfl)) rfl rfl ?_
  refine ChD.step (v := (.d (.ref (.int .i64 ((((masksL x).getD (((pr.getD 0 default)).toNat) default) : Nat) : Int))))) [] rfl (.pure (.idx _ _ _ 3 (((pr.getD 0 default)).toNat) rfl Try.underlying43 sz3 rfl rfl (by omega) (get_map _ (by first | omega | (simp only [List.length_map, List.length_append, List.length_take, List.length_drop, List.length_cons, List.length_nil]; omega) | (simp; omega) | (simp; done))))) rfl rfl ?_
  refine ChD.step (v := (.d (.int .i64 ((((masksL x).getD (((pr.getD 0 default)).toNat) default) : Nat) : Int)))) [] rfl (.pure (.loadRef1 _ _ rfl ag3 rfl rfl)) rfl rfl ?_
  refine ChD.step (v := (.d (.int .i64 s))) [] rfl (.pure (.move _ rfl rfl)) rfl rfl ?_
  refine ChD.step (v := (.d (.int .i64 (2 * s)))) [] rfl (.pure (.int _ _ _ _ _ rfl rfl rfl (intV_mul (by first | omega | (simp only [List.length_map, List.length_append, List.length_take, List.length_drop, List.length_cons, List.length_nil]; omega) | (simp; omega) | (simp; done)) (by first | omega | (simp only [List.length_map, List.length_append, List.length_take, List.length_drop, List.length_cons, List.length_nil]; omega) | (simp; omega) | (simp; done))))) rfl rfl ?_
  refine ChD.step (v := (.d (.int .i64 ((((masksL x).getD (((pr.getD 0 default)).toNat) default) >>> (((2 * s)).toNat) : Nat) : Int)))) [] rfl (.pure (.shift _ _ _ _ _ rfl rfl rfl (i64_shr (m := ((masksL x).getD (((pr.getD 0 default)).toNat) default)) (n := ((2 * s)).toNat) (by omega) (by first | omega | (simp only [List.length_map, List.length_append, List.length_take, List.length_drop, List.length_cons, List.length_nil]; omega) | (simp; omega) | (simp; done))))) rfl rfl ?_
  refine ChD.step (v := (.d (.int .i64 ((two ((masksL x).getD (((pr.getD 0 default)).toNat) default) (((2 * s)).toNat) : Nat) : Int)))) [] rfl (.pure (.int _ _ _ _ _ rfl rfl rfl (i64_and3 (((masksL x).getD (((pr.getD 0 default)).toNat) default) >>> (((2 * s)).toNat))))) rfl rfl ?_
  refine ChD.step (v := (.d (.bool (decide (((two ((masksL x).getD (((pr.getD 0 default)).toNat) default) (((2 * s)).toNat) : Nat) : Int) = 0))))) [] rfl (.pure (.int _ _ _ _ _ rfl rfl rfl rfl)) rfl rfl ?_
  refine ChD.step (v := (.d (.slice false 1 ((masksL x).map (fun n : Nat => D.int .i64 (n : Int)))))) [] rfl (.pure (.loadRef1 _ _ rfl ag43 rfl rfl)) rfl rfl ?_
  refine ChD.step (v := (.d (.slice false 1 (pr.map (fun n : Int => D.int .i64 n))))) [] rfl (.pure (.loadRef1 _ _ rfl ag43 rfl rfl)) rfl rfl ?_
  refine ChD.step (v := (.d (.ref (.int .i64 (pr.getD 1 default))))) [] rfl (.pure (.idx _ _ _ 3 (1) rfl Try.underlying43 sz3 rfl rfl rfl (get_map _ (by first | omega | (simp only [List.length_map, List.length_append, List.length_take, List.length_drop, List.length_cons, List.length_nil]; omega) | (simp; omega) | (simp; done))))) rfl rfl ?_
  refine ChD.step (v := (.d (.int .i64 (pr.getD 1 default)))) [] rfl (.pure (.loadRef1 _ _ rfl ag3 rfl rfl)) rfl rfl ?_
  refine ChD.step (v := (.d (.ref (.int .i64 ((((masksL x).getD (((pr.getD 1 default)).toNat) default) : Nat) : Int))))) [] rfl (.pure (.idx _ _ _ 3 (((pr.getD 1 default)).toNat) rfl Try.underlying43 sz3 rfl rfl (by omega) (get_map _ (by first | omega | (simp only [List.length_map, List.length_append, List.length_take, List.length_drop, List.length_cons, List.length_nil]; omega) | (simp; omega) | (simp; done))))) rfl rfl ?_
  refine ChD.step (v := (.d (.int .i64 ((((masksL x).getD (((pr.getD 1 default)).toNat) default) : Nat) : Int)))) [] rfl (.pure (.loadRef1 _ _ rfl ag3 rfl rfl)) rfl rfl ?_
  refine ChD.step (v := (.d (.int .i64 s))) [] rfl (.pure (.move _ rfl rfl)) rfl rfl ?_
  refine ChD.step (v := (.d (.int .i64 (2 * s)))) [] rfl (.pure (.int _ _ _ _ _ rfl rfl rfl (intV_mul (by first | omega | (simp only [List.length_map, List.length_append, List.length_take, List.length_drop, List.length_cons, List.length_nil]; omega) | (simp; omega) | (simp; done)) (by first | omega | (simp only [List.length_map, List.length_append, List.length_take, List.length_drop, List.length_cons, List.length_nil]; omega) | (simp; omega) | (simp; done))))) rfl rfl ?_
  refine ChD.step (v := (.d (.int .i64 ((((masksL x).getD (((pr.getD 1 default)).toNat) default) >>> (((2 * s)).toNat) : Nat) : Int)))) [] rfl (.pure (.shift _ _ _ _ _ rfl rfl rfl (i64_shr (m := ((masksL x).getD (((pr.getD 1 default)).toNat) default)) (n := ((2 * s)).toNat) (by omega) (by first | omega | (simp only [List.length_map, List.length_append, List.length_take, List.length_drop, List.length_cons, List.length_nil]; omega) | (simp; omega) | (simp; done))))) rfl rfl ?_
  refine ChD.step (v := (.d (.int .i64 ((two ((masksL x).getD (((pr.getD 1 default)).toNat) default) (((2 * s)).toNat) : Nat) : Int)))) [] rfl (.pure (.int _ _ _ _ _ rfl rfl rfl (i64_and3 (((masksL x).getD (((pr.getD 1 default)).toNat) default) >>> (((2 * s)).toNat))))) rfl rfl ?_
  refine ChD.step (v := (.d (.bool (decide (((two ((masksL x).getD (((pr.getD 1 default)).toNat) default) (((2 * s)).toNat) : Nat) : Int) = 0))))) [] rfl (.pure (.int _ _ _ _ _ rfl rfl rfl rfl)) rfl rfl ?_
  refine ChD.step (v := (.d (.bool (!(decide ((decide (((two ((masksL x).getD (((pr.getD 0 default)).toNat) default) (((2 * s)).toNat) : Nat) : Int) = 0)) = (decide (((two ((masksL x).getD (((pr.getD 1 default)).toNat) default) (((2 * s)).toNat) : Nat) : Int) = 0)))))))) [] rfl (.pure (.neB _ _ _ _ rfl Try.underlying4 rfl rfl)) rfl rfl ?_
  refine ChD.step (v := (.d (.bool (!(decide ((decide (((two ((masksL x).getD (((pr.getD 0 default)).toNat) default) (((2 * s)).toNat) : Nat) : Int) = 0)) = (decide (((two ((masksL x).getD (((pr.getD 1 default)).toNat) default) (((2 * s)).toNat) : Nat) : Int) = 0)))))))) [] rfl (.pure (.assign _ rfl rfl)) rfl rfl ?_
  refine ChD.nil (And.intro ?_ (by kernel_rfl))
  refine T_ret ?_
  refine And.intro (.inr rfl) ?_
  exact Exists.intro [(.d (.bool (!(decide ((decide (((two ((masksL x).getD (((pr.getD 0 default)).toNat) default) (((2 * s)).toNat) : Nat) : Int) = 0)) = (decide (((two ((masksL x).getD (((pr.getD 1 default)).toNat) default) (((2 * s)).toNat) : Nat) : Int) = 0)))))))] (Exists.intro [] (Exists.intro [] (And.intro (.cons (.tmp 4 rfl) .nil) (And.intro (.cons (.any _) (.cons (.any _) (.cons (.any _) .nil))) (And.intro (Exp.of (congrArg D.bool (by exact cfS_eq hx hpr.2.1 hpr.2.2 hs.1)) (.d _)) (And.intro rfl rfl))))))

theorem sp_conflicts_1 (x : Sgr) (pr : List Int) (hx : SgOk x) (hpr : pr.length = 2 ∧ (0 ≤ pr.getD 0 default ∧ (pr.getD 0 default).toNat < x.codes.length) ∧ (0 ≤ pr.getD 1 default ∧ (pr.getD 1 default).toNat < x.codes.length)) : Sp Try.prog 121 [(.slice false 1 (pr.map (fun n : Int => D.int .i64 n))), (.ref (.slice false 1 ((outsL x.sigs).map (fun n : Int => D.int .i64 n)))), (.ref (.slice false 1 ((masksL x).map (fun n : Nat => D.int .i64 (n : Int)))))] [.any, .any, .any] (.bool (!(outsL x.sigs).any (cfS x pr))) := by
  refine Sp_intro (lend := true) Try.func121 rfl rfl rfl (fun _ => rfl) (fun c hc hX => ?_)
  have hx8 := hx.eight; have hml : (masksL x).length = x.codes.length := masksTo_len x _; have hol := outs_len x.sigs
  refine T_seq ?_
  refine T_region hc ?_
  refine Ch.step (v := (.ptr 3000 0)) rfl (.box 3000 _ _ rfl (.one _ rfl)) rfl rfl ?_
  refine Ch.step (v := (.d (.bool false))) rfl (.pure (.assign _ rfl rfl)) rfl rfl ?_
  refine Ch.nil ?_
  refine T_seq ?_
  refine T_region hc ?_
  refine Ch.step (v := (.d (.slice false 1 ((outsL x.sigs).map (fun n : Int => D.int .i64 n))))) rfl (.pure (.loadRef1 _ _ rfl ag43 rfl rfl)) rfl rfl ?_
  refine Ch.step (v := (.fn 123 [(.d (.ref (.slice false 1 ((masksL x).map (fun n : Nat => D.int .i64 (n : Int)))))), (.ptr 3000 0)])) rfl (.pure (.func _ _ rfl rfl)) rfl rfl ?_
  refine Ch.step (v := (.d (.bool ((outsL x.sigs).any (cfS x pr))))) rfl (.call 7000 122 _ _ _ en122 rfl (.inl rfl) (.cons (.d _) (.cons (.lend (.fn (.cons (.d _) (.cons (.ptr rfl (.one (.d _) rfl)) .nil)))) .nil)) rfl rfl (sp_ContainsFunc_int (outsL x.sigs) 123 [(.ref (.slice false 1 ((masksL x).map (fun n : Nat => D.int .i64 (n : Int))))), (.ref (.slice false 1 (pr.map (fun n : Int => D.int .i64 n))))] (cfS x pr) en123 (fun s hs => sp_conflicts_in s x pr (outs_in s hs) hx hpr) (by first | assumption | omega | (rw [List.length_take]; omega) | (have := bulkF_mem hb _ (getD_mem (d := default) (by omega)); assumption) | (unfold bulkS at *; omega) | (simp_all; done))) (.skip _ _ (.skip _ _ .nil)) rfl) rfl rfl ?_
  refine Ch.step (v := (.d (.bool (!((outsL x.sigs).any (cfS x pr)))))) rfl (.pure (.not _ _ rfl rfl)) rfl rfl ?_
  refine Ch.step (v := (.d (.bool (!((outsL x.sigs).any (cfS x pr)))))) rfl (.pure (.assign _ rfl rfl)) rfl rfl ?_
  refine Ch.nil ?_
  refine T_ret ?_
  refine And.intro (.inr rfl) ?_
  exact Exists.intro [(.d (.bool (!((outsL x.sigs).any (cfS x pr)))))] (Exists.intro [] (Exists.intro [] (And.intro (.cons (.tmp 4 rfl) .nil) (And.intro (.cons (.any _) (.cons (.any _) (.cons (.any _) .nil))) (And.intro (Exp.of (congrArg D.bool (by rfl)) (.d _)) (And.intro rfl rfl))))))

theorem sp_impl_conflicts (x : Sgr) (hb : x.bulk ≤ 1048576) (hx : SgOk x) : Sp Try.prog 76 [(.agg [(.slice false 2 (x.sigs.map Sgn.d)), (.slice false 1 (x.codes.map D.str)), (.slice false 4 (x.arcs.map Arc.d))])] [.any] (.slice true 1 ((cfL x).map intsU)) := by
  refine Sp_intro (lend := true) Try.func76 rfl rfl rfl (fun _ => rfl) (fun c hc hX => ?_)
  obtain ⟨hp0, hp1, hp2⟩ := Sgr.parts hb
  have hn0 := bulkF_len hp0
  have hn1 := bulk_len hp1
  have hx1 := bulk_mem hp1
  have hn2 := bulkF_len hp2; have hx8 := hx.eight; have hxl := hx.len; have hxf := hx.few; have hpl := prTo_le (eqP x) (n := x.codes.length) (by omega) x.codes.length
  refine T_seq ?_
  refine T_region hc ?_
  refine Ch.step (v := (.ptr 1000 0)) rfl (.box 1000 _ _ rfl (.aggD _)) rfl rfl ?_
  refine Ch.step (v := (.c (.slice none 0 0))) rfl (.pure (.assign _ rfl rfl)) rfl rfl ?_
  refine Ch.nil ?_
  refine T_seq ?_
  refine T_regionD hc (by kernel_rfl) ?_
  refine ChD.step (v := (.agg [(.d (.slice false 2 (x.sigs.map Sgn.d))), (.d (.slice false 1 (x.codes.map D.str))), (.d (.slice false 4 (x.arcs.map Arc.d)))])) [1000] rfl (.pure (.loadPtrA _ _ rfl ag34 sz34 rfl rfl (Nat.le_of_ble_eq_true rfl) rfl)) rfl rfl ?_
  refine ChD.step (v := (.row 6000)) [] rfl (.call 6000 117 _ _ _ en117 rfl (.inl rfl) (.cons (.lend (.agg (.cons (.d _) (.cons (.d _) (.cons (.d _) .nil))) rfl)) .nil) rfl (sol (solid_row (fun _ => rfl) _) rfl) (sp_impl_labelMasks x (by first | assumption | omega | (rw [List.length_take]; omega) | (have := bulkF_mem hb _ (getD_mem (d := default) (by omega)); assumption) | (unfold bulkS at *; omega) | (simp_all; done)) (by assumption)) (.skip _ _ .nil) rfl) rfl rfl ?_
  refine ChD.step (v := (.agg [(.d (.slice false 2 (x.sigs.map Sgn.d))), (.d (.slice false 1 (x.codes.map D.str))), (.d (.slice false 4 (x.arcs.map Arc.d)))])) [1000] rfl (.pure (.loadPtrA _ _ rfl ag34 sz34 rfl rfl (Nat.le_of_ble_eq_true rfl) rfl)) rfl rfl ?_
  refine ChD.step (v := (.row 8000)) [] rfl (.call 8000 118 _ _ _ en118 rfl (.inl rfl) (.cons (.lend (.agg (.cons (.d _) (.cons (.d _) (.cons (.d _) .nil))) rfl)) .nil) rfl (sol (solid_row (fun _ => rfl) _) rfl) (sp_impl_outputs x (by first | assumption | (show Sgr.bulk (Sgr.mk _ [] []) ≤ 1048576; unfold Sgr.bulk bulkS bulkF; simp only [List.length_nil, List.map_nil, List.sum_nil]; unfold bulkF at *; omega))) (.skip _ _ .nil) rfl) rfl rfl ?_
  refine ChD.step (v := (.ptr 3000 0)) [] rfl (.alloc 3000 _ rfl zer43) rfl rfl ?_
  refine ChD.step (v := (.ptr 4000 0)) [] rfl (.alloc 4000 _ rfl zer43) rfl rfl ?_
  refine ChD.step (v := .junk) [3000, 6000] rfl (.storePtr _ _ _ rfl rfl rfl (.one _ rfl) sz43 (Nat.le_of_ble_eq_true rfl)) rfl rfl ?_
  refine ChD.step (v := .junk) [4000, 8000] rfl (.storePtr _ _ _ rfl rfl rfl (.one _ rfl) sz43 (Nat.le_of_ble_eq_true rfl)) rfl rfl ?_
  refine ChD.nil (And.intro ?_ (by kernel_rfl))
  refine T_seq ?_
  refine T_region hc ?_
  refine Ch.step (v := (.agg [(.d (.slice false 2 (x.sigs.map Sgn.d))), (.d (.slice false 1 (x.codes.map D.str))), (.d (.slice false 4 (x.arcs.map Arc.d)))])) rfl (.pure (.loadPtrA _ _ rfl ag34 sz34 rfl rfl (Nat.le_of_ble_eq_true rfl) rfl)) rfl rfl ?_
  refine Ch.step (v := (.row 10000)) rfl (.call 10000 120 _ _ _ en120 rfl (.inl rfl) (.cons (.lend (.agg (.cons (.d _) (.cons (.d _) (.cons (.d _) .nil))) rfl)) .nil) rfl (sol (solid_row intsU_sol _) rfl) (sp_impl_equalCodes x (by first | assumption | omega | (rw [List.length_take]; omega) | (have := bulkF_mem hb _ (getD_mem (d := default) (by omega)); assumption) | (unfold bulkS at *; omega) | (simp_all; done)) (by assumption)) (.skip _ _ .nil) rfl) rfl rfl ?_
  refine Ch.step (v := (.fn 121 [(.ptr 4000 0), (.ptr 3000 0)])) rfl (.pure (.func _ _ rfl rfl)) rfl rfl ?_
  refine Ch.step (v := (.row 12000)) rfl (.call 12000 119 _ _ _ en119 rfl (.inl rfl) (.cons (.row rfl) (.cons (.lend (.fn (.cons (.ptr rfl (.one (.row rfl (frozs_map (fun _ => rfl) _)) rfl)) (.cons (.ptr rfl (.one (.row rfl (frozs_map (fun _ => rfl) _)) rfl)) .nil)))) .nil)) rfl (sol (solid_row intsU_sol _) rfl) (sp_DeleteFunc_ints (prTo (eqP x) x.codes.length x.codes.length) 121 [(.ref (.slice false 1 ((outsL x.sigs).map (fun n : Int => D.int .i64 n)))), (.ref (.slice false 1 ((masksL x).map (fun n : Nat => D.int .i64 (n : Int)))))] (fun pr => !(outsL x.sigs).any (cfS x pr)) en121 (fun pr hpr => sp_conflicts_1 x pr hx (prTo_in (Nat.le_refl _) pr hpr)) (by first | assumption | omega | (rw [List.length_take]; omega) | (have := bulkF_mem hb _ (getD_mem (d := default) (by omega)); assumption) | (unfold bulkS at *; omega) | (simp_all; done))) (.skip _ _ (.skip _ _ .nil)) rfl) rfl rfl ?_
  refine Ch.step (v := (.row 12000)) rfl (.pure (.assign _ rfl rfl)) rfl rfl ?_
  refine Ch.nil ?_
  refine T_ret ?_
  refine And.intro (.inr rfl) ?_
  exact Exists.intro [(.row 12000)] (Exists.intro [] (Exists.intro [12000] (And.intro (.cons (.tmp 2 rfl) .nil) (And.intro (.cons (.any _) .nil) (And.intro (Exp.of (congrArg (D.slice true 1) (by first | (rw [cf_filter]; done) | (exact congrArg (List.map _) (cf_filter x)))) (.row rfl)) (And.intro rfl rfl))))))

theorem sp_spec_l1Num (k : Nat) (hk : k < 10) : Sp Try.prog 109 [(.int .i64 ((k : Nat) : Int))] [.any] (.str ([UInt8.ofNat (48 + k)])) := by
  refine Sp_intro (lend := true) Try.func109 rfl rfl rfl (fun _ => rfl) (fun c hc hX => ?_)
  refine T_seq ?_
  refine T_region hc ?_
  refine Ch.step (v := (.d (.str []))) rfl (.pure (.assign _ rfl rfl)) rfl rfl ?_
  refine Ch.nil ?_
  refine T_seq ?_
  refine T_seq ?_
  refine T_region hc ?_
  refine Ch.step (v := (.d (.int .i64 ((k : Nat) : Int)))) rfl (.pure (.move _ rfl rfl)) rfl rfl ?_
  refine Ch.step (v := (.d (.bool (decide (((k : Nat) : Int) < 10))))) rfl (.pure (.int _ _ _ _ _ rfl rfl rfl rfl)) rfl rfl ?_
  refine Ch.nil ?_
  refine T_cond (b := (decide (((k : Nat) : Int) < 10))) rfl (fun h1 => ?_) (fun h1 => ?_)
  · replace h1 := of_decide_eq_true h1
    refine T_seq ?_
    refine T_region hc ?_
    refine Ch.step (v := (.d (.int .i64 ((k : Nat) : Int)))) rfl (.pure (.move _ rfl rfl)) rfl rfl ?_
    refine Ch.step (v := (.d (.int .i64 (48 + ((k : Nat) : Int))))) rfl (.pure (.int _ _ _ _ _ rfl rfl rfl (intV_add (by first | omega | (simp only [List.length_map, List.length_append, List.length_take, List.length_drop, List.length_cons, List.length_nil]; omega) | (simp; omega) | (simp; done)) (by first | omega | (simp only [List.length_map, List.length_append, List.length_take, List.length_drop, List.length_cons, List.length_nil]; omega) | (simp; omega) | (simp; done))))) rfl rfl ?_
    refine Ch.step (v := (.d (.int .u8 ((UInt8.ofNat (48 + k)).toNat : Int)))) rfl (.pure (EvP.of (convU8 (n := (48 + k)) (by omega) (by first | omega | (simp only [List.length_map, List.length_append, List.length_take, List.length_drop, List.length_cons, List.length_nil]; omega) | (simp; omega) | (simp; done))) (.convInt _ _ _ rfl (isSome_of Try.underlying3) Try.underlying5 rfl))) rfl rfl ?_
    refine Ch.step (v := (.row 8000)) rfl (.slice 8000 _ 5 _ rfl sty102 (xs := [.tmp 7]) rfl rfl (.cons (.d _) .nil) rfl rfl (by decide)) rfl rfl ?_
    refine Ch.step (v := (.d (.str [(UInt8.ofNat (48 + k))]))) rfl (.string (l := [(UInt8.ofNat (48 + k))]) _ _ _ _ rfl Try.underlying102 Try.underlying5 Try.underlying9 (by first | exact (.row rfl rfl) | exact (.row rfl rfl))) rfl rfl ?_
    refine Ch.step (v := (.d (.str [(UInt8.ofNat (48 + k))]))) rfl (.pure (.assign _ rfl rfl)) rfl rfl ?_
    refine Ch.nil ?_
    refine T_ret ?_
    refine And.intro (.inr rfl) ?_
    exact Exists.intro [(.d (.str [(UInt8.ofNat (48 + k))]))] (Exists.intro [] (Exists.intro [] (And.intro (.cons (.tmp 2 rfl) .nil) (And.intro (.cons (.any _) .nil) (And.intro (Exp.of (congrArg D.str (by rfl)) (.d _)) (And.intro rfl rfl))))))
  · replace h1 := of_decide_eq_false h1
    refine T_skip ?_
    refine T_seq ?_
    exfalso; omega

theorem sp_spec_l12Active (x : Sgr) (k : Nat) (hb : x.bulk ≤ 1048576) (hx : SgOk x) : Sp Try.prog 72 [(.agg [(.slice false 2 (x.sigs.map Sgn.d)), (.slice false 1 (x.codes.map D.str)), (.slice false 4 (x.arcs.map Arc.d))]), (.int .i64 ((k : Nat) : Int))] [.any, .any] (.str (actTo x k x.sigs.length)) := by
  refine Sp_intro (lend := true) Try.func72 rfl rfl rfl (fun _ => rfl) (fun c hc hX => ?_)
  obtain ⟨hp0, hp1, hp2⟩ := Sgr.parts hb
  have hn0 := bulkF_len hp0
  have hn1 := bulk_len hp1
  have hx1 := bulk_mem hp1
  have hn2 := bulkF_len hp2; have hx8 := hx.eight; have hxl := hx.len; have hxf := hx.few
  refine T_seq ?_
  refine T_region hc ?_
  refine Ch.step (v := (.ptr 2000 0)) rfl (.box 2000 _ _ rfl (.aggD _)) rfl rfl ?_
  refine Ch.step (v := (.d (.str []))) rfl (.pure (.assign _ rfl rfl)) rfl rfl ?_
  refine Ch.nil ?_
  refine T_seq ?_
  refine T_region hc ?_
  refine Ch.step (v := (.d (.str []))) rfl (.pure (.assign _ rfl rfl)) rfl rfl ?_
  refine Ch.nil ?_
  refine T_seq ?_
  refine T_seq ?_
  refine T_region hc ?_
  refine Ch.step (v := (.ptr 2000 0)) rfl (.pure (.fldPtr _ _ _ rfl fld34_0 rfl)) rfl rfl ?_
  refine Ch.step (v := (.d (.slice false 2 (x.sigs.map Sgn.d)))) rfl (.pure (.loadPtr1 _ _ rfl ag31 rfl rfl rfl)) rfl rfl ?_
  refine Ch.step (v := (.d (.int .i64 ((x.sigs.length : Nat) : Int)))) rfl (.pure (.len _ _ 88 rfl Try.underlying31 (.sh _ _) (by simp))) rfl rfl ?_
  refine Ch.step (v := (.d (.int .i64 0))) rfl (.pure (.move _ rfl rfl)) rfl rfl ?_
  refine Ch.nil ?_
  refine T_block ?_
  refine T_loop (ι := Nat) (fun m => { n := 32, sl := [(1, (.d (.int .i64 ((k : Nat) : Int)))), (2, (.ptr 2000 0)), (5, (.d (.str (actTo x k m)))), (9, (.d (.slice false 2 (x.sigs.map Sgn.d)))), (10, (.d (.int .i64 ((x.sigs.length : Nat) : Int)))), (11, (.d (.int .i64 ((m : Nat) : Int))))], hp := [(2000, (some (.box [(.d (.slice false 2 (x.sigs.map Sgn.d))), (.d (.slice false 1 (x.codes.map D.str))), (.d (.slice false 4 (x.arcs.map Arc.d)))])))], pin := [] }) (fun m => m ≤ x.sigs.length) (fun m => x.sigs.length - m) ⟨0, (by omega), (Wk.of rfl rfl (And.intro rfl (And.intro rfl (And.intro (vS (by first | rfl | (exact actTo_yes (by unfold actP outP; simp only [*, decide_true, decide_false, Bool.true_and, Bool.false_and, Bool.and_false, Bool.not_true, Bool.not_false])) | (exact actTo_no (by unfold actP outP; simp only [*, decide_true, decide_false, Bool.true_and, Bool.false_and, Bool.and_false, Bool.not_true, Bool.not_false])))) (And.intro rfl (And.intro rfl (And.intro (vI (by first | rfl | omega | (simp; done) | (simp; omega))) trivial)))))) (And.intro rfl trivial))⟩ (fun m hp0 => ?_)
  have hal := actTo_len x k m
  refine T_seq ?_
  refine T_region hc ?_
  refine Ch.step (v := (.d (.bool (decide (((m : Nat) : Int) < ((x.sigs.length : Nat) : Int)))))) rfl (.pure (.int _ _ _ _ _ rfl rfl rfl rfl)) rfl rfl ?_
  refine Ch.nil ?_
  refine T_seq ?_
  refine T_cond (b := (decide (((m : Nat) : Int) < ((x.sigs.length : Nat) : Int)))) rfl (fun h1 => ?_) (fun h1 => ?_)
  · replace h1 := of_decide_eq_true h1
    refine T_skip ?_
    refine T_seq ?_
    refine T_block ?_
    refine T_seq ?_
    refine T_region hc ?_
    refine Ch.step (v := (.d (.int .i64 ((m : Nat) : Int)))) rfl (.pure (.move _ rfl rfl)) rfl rfl ?_
    refine Ch.step (v := (.d (.ref (.agg [(.str ((x.sigs.getD m default).name)), (.int .i64 ((x.sigs.getD m default).kind))])))) rfl (.pure (.idx _ _ _ 88 (m) rfl Try.underlying31 sz88 rfl rfl rfl (get_map _ (by first | omega | (simp only [List.length_map, List.length_append, List.length_take, List.length_drop, List.length_cons, List.length_nil]; omega) | (simp; omega) | (simp; done))))) rfl rfl ?_
    refine Ch.step (v := (.d (.agg [(.str ((x.sigs.getD m default).name)), (.int .i64 ((x.sigs.getD m default).kind))]))) rfl (.pure (.loadRefA _ _ rfl ag88 sz88 rfl)) rfl rfl ?_
    refine Ch.step (v := (.ptr 7000 0)) rfl (.alloc 7000 _ rfl zer88) rfl rfl ?_
    refine Ch.step (v := (.d (.int .i64 ((m : Nat) : Int)))) rfl (.pure (.assign _ rfl rfl)) rfl rfl ?_
    refine Ch.step (v := .junk) rfl (.storePtr _ _ _ rfl rfl rfl (.aggD _) sz88 (Nat.le_of_ble_eq_true rfl)) rfl rfl ?_
    refine Ch.nil ?_
    refine T_seq ?_
    refine T_region hc ?_
    refine Ch.step (v := (.ptr 7000 1)) rfl (.pure (.fldPtr _ _ _ rfl fld88_1 rfl)) rfl rfl ?_
    refine Ch.step (v := (.d (.int .i64 ((x.sigs.getD m default).kind)))) rfl (.pure (.loadPtr1 _ _ rfl ag3 rfl rfl rfl)) rfl rfl ?_
    refine Ch.step (v := (.d (.bool (!(decide (((x.sigs.getD m default).kind) = 1)))))) rfl (.pure (.int _ _ _ _ _ rfl rfl rfl rfl)) rfl rfl ?_
    refine Ch.step (v := (.d (.bool (!(decide (((x.sigs.getD m default).kind) = 1)))))) rfl (.pure (.move _ rfl rfl)) rfl rfl ?_
    cases h2 : (decide (((x.sigs.getD m default).kind) = 1)) with
    | true =>
      replace h2 := of_decide_eq_true h2
      refine Ch.skip rfl rfl ?_
      refine Ch.skip rfl rfl ?_
      refine Ch.skip rfl rfl ?_
      refine Ch.skip rfl rfl ?_
      refine Ch.step (v := (.d (.bool false))) rfl (.pure (.pickF _ _ _ rfl rfl rfl)) rfl rfl ?_
      refine Ch.nil ?_
      refine T_cond (b := false) rfl (fun h => nomatch h) (fun _ => ?_)
      refine T_skip ?_
      refine T_region hc ?_
      refine Ch.step (v := (.d (.int .i64 (((m : Nat) : Int) + 1)))) rfl (.pure (.int _ _ _ _ _ rfl rfl rfl (intV_add (by first | omega | (simp only [List.length_map, List.length_append, List.length_take, List.length_drop, List.length_cons, List.length_nil]; omega) | (simp; omega) | (simp; done)) (by first | omega | (simp only [List.length_map, List.length_append, List.length_take, List.length_drop, List.length_cons, List.length_nil]; omega) | (simp; omega) | (simp; done))))) rfl rfl ?_
      refine Ch.step (v := (.d (.int .i64 (((m : Nat) : Int) + 1)))) rfl (.pure (.move _ rfl rfl)) rfl rfl ?_
      refine Ch.nil ?_
      refine Exists.intro (m + 1) (And.intro (by omega) (And.intro (by first | omega | (dsimp only; omega)) (Wk.of rfl rfl (And.intro rfl (And.intro rfl (And.intro (vS (by first | rfl | (exact actTo_yes (by unfold actP outP; simp only [*, decide_true, decide_false, Bool.true_and, Bool.false_and, Bool.and_false, Bool.not_true, Bool.not_false])) | (exact actTo_no (by unfold actP outP; simp only [*, decide_true, decide_false, Bool.true_and, Bool.false_and, Bool.and_false, Bool.not_true, Bool.not_false])))) (And.intro rfl (And.intro rfl (And.intro (vI (by first | rfl | omega | (simp; done) | (simp; omega))) trivial)))))) (And.intro rfl trivial))))
    | false =>
      replace h2 := of_decide_eq_false h2
      refine Ch.step (v := (.agg [(.d (.slice false 2 (x.sigs.map Sgn.d))), (.d (.slice false 1 (x.codes.map D.str))), (.d (.slice false 4 (x.arcs.map Arc.d)))])) rfl (.pure (.loadPtrA _ _ rfl ag34 sz34 rfl rfl (Nat.le_of_ble_eq_true rfl) rfl)) rfl rfl ?_
      refine Ch.step (v := (.d (.int .i64 ((k : Nat) : Int)))) rfl (.pure (.move _ rfl rfl)) rfl rfl ?_
      refine Ch.step (v := (.d (.int .i64 ((m : Nat) : Int)))) rfl (.pure (.move _ rfl rfl)) rfl rfl ?_
      refine Ch.step (v := (.d (.bool (excB x ((k : Nat) : Int) ((m : Nat) : Int))))) rfl (.call 23000 108 _ _ _ en108 rfl (.inl rfl) (.cons (.lend (.agg (.cons (.d _) (.cons (.d _) (.cons (.d _) .nil))) rfl)) (.cons (.d _) (.cons (.d _) .nil))) rfl rfl (sp_spec_l5Excited x ((k : Nat) : Int) ((m : Nat) : Int) (by first | assumption | omega | (rw [List.length_take]; omega) | (have := bulkF_mem hb _ (getD_mem (d := default) (by omega)); assumption) | (unfold bulkS at *; omega) | (simp_all; done))) (.skip _ _ (.skip _ _ (.skip _ _ .nil))) rfl) rfl rfl ?_
      refine Ch.step (v := (.d (.bool (excB x ((k : Nat) : Int) ((m : Nat) : Int))))) rfl (.pure (.pickT _ _ _ rfl rfl rfl)) rfl rfl ?_
      refine Ch.nil ?_
      refine T_cond (b := (excB x ((k : Nat) : Int) ((m : Nat) : Int))) rfl (fun h3 => ?_) (fun h3 => ?_)
      · refine T_region hc ?_
        refine Ch.step (v := (.d (.str (actTo x k m)))) rfl (.pure (.move _ rfl rfl)) rfl rfl ?_
        refine Ch.step (v := (.d (.int .i64 ((m : Nat) : Int)))) rfl (.pure (.move _ rfl rfl)) rfl rfl ?_
        refine Ch.step (v := (.d (.str ([UInt8.ofNat (48 + m)])))) rfl (.call 27000 109 _ _ _ en109 rfl (.inl rfl) (.cons (.d _) .nil) rfl rfl (sp_spec_l1Num m (by first | assumption | omega | (rw [List.length_take]; omega) | (have := bulkF_mem hb _ (getD_mem (d := default) (by omega)); assumption) | (unfold bulkS at *; omega) | (simp_all; done))) (.skip _ _ .nil) rfl) rfl rfl ?_
        refine Ch.step (v := (.d (.str (([UInt8.ofNat (48 + m)]) ++ [44])))) rfl (.pure (.str _ _ _ _ _ rfl rfl rfl (strV_add (by first | omega | (simp only [List.length_map, List.length_append, List.length_take, List.length_drop, List.length_cons, List.length_nil]; omega) | (simp; omega) | (simp; done))))) rfl rfl ?_
        refine Ch.step (v := (.d (.str ((actTo x k m) ++ (([UInt8.ofNat (48 + m)]) ++ [44]))))) rfl (.pure (.str _ _ _ _ _ rfl rfl rfl (strV_add (by first | omega | (simp only [List.length_map, List.length_append, List.length_take, List.length_drop, List.length_cons, List.length_nil]; omega) | (simp; omega) | (simp; done))))) rfl rfl ?_
        refine Ch.step (v := (.d (.str ((actTo x k m) ++ (([UInt8.ofNat (48 + m)]) ++ [44]))))) rfl (.pure (.assign _ rfl rfl)) rfl rfl ?_
        refine Ch.nil ?_
        refine T_region hc ?_
        refine Ch.step (v := (.d (.int .i64 (((m : Nat) : Int) + 1)))) rfl (.pure (.int _ _ _ _ _ rfl rfl rfl (intV_add (by first | omega | (simp only [List.length_map, List.length_append, List.length_take, List.length_drop, List.length_cons, List.length_nil]; omega) | (simp; omega) | (simp; done)) (by first | omega | (simp only [List.length_map, List.length_append, List.length_take, List.length_drop, List.length_cons, List.length_nil]; omega) | (simp; omega) | (simp; done))))) rfl rfl ?_
        refine Ch.step (v := (.d (.int .i64 (((m : Nat) : Int) + 1)))) rfl (.pure (.move _ rfl rfl)) rfl rfl ?_
        refine Ch.nil ?_
        refine Exists.intro (m + 1) (And.intro (by omega) (And.intro (by first | omega | (dsimp only; omega)) (Wk.of rfl rfl (And.intro rfl (And.intro rfl (And.intro (vS (by first | rfl | (exact actTo_yes (by unfold actP outP; simp only [*, decide_true, decide_false, Bool.true_and, Bool.false_and, Bool.and_false, Bool.not_true, Bool.not_false])) | (exact actTo_no (by unfold actP outP; simp only [*, decide_true, decide_false, Bool.true_and, Bool.false_and, Bool.and_false, Bool.not_true, Bool.not_false])))) (And.intro rfl (And.intro rfl (And.intro (vI (by first | rfl | omega | (simp; done) | (simp; omega))) trivial)))))) (And.intro rfl trivial))))
      · refine T_skip ?_
        refine T_region hc ?_
        refine Ch.step (v := (.d (.int .i64 (((m : Nat) : Int) + 1)))) rfl (.pure (.int _ _ _ _ _ rfl rfl rfl (intV_add (by first | omega | (simp only [List.length_map, List.length_append, List.length_take, List.length_drop, List.length_cons, List.length_nil]; omega) | (simp; omega) | (simp; done)) (by first | omega | (simp only [List.length_map, List.length_append, List.length_take, List.length_drop, List.length_cons, List.length_nil]; omega) | (simp; omega) | (simp; done))))) rfl rfl ?_
        refine Ch.step (v := (.d (.int .i64 (((m : Nat) : Int) + 1)))) rfl (.pure (.move _ rfl rfl)) rfl rfl ?_
        refine Ch.nil ?_
        refine Exists.intro (m + 1) (And.intro (by omega) (And.intro (by first | omega | (dsimp only; omega)) (Wk.of rfl rfl (And.intro rfl (And.intro rfl (And.intro (vS (by first | rfl | (exact actTo_yes (by unfold actP outP; simp only [*, decide_true, decide_false, Bool.true_and, Bool.false_and, Bool.and_false, Bool.not_true, Bool.not_false])) | (exact actTo_no (by unfold actP outP; simp only [*, decide_true, decide_false, Bool.true_and, Bool.false_and, Bool.and_false, Bool.not_true, Bool.not_false])))) (And.intro rfl (And.intro rfl (And.intro (vI (by first | rfl | omega | (simp; done) | (simp; omega))) trivial)))))) (And.intro rfl trivial))))
  · replace h1 := of_decide_eq_false h1
    refine T_exit ?_
    refine T_seq ?_
    refine T_region hc ?_
    refine Ch.step (v := (.d (.str (actTo x k m)))) rfl (.pure (.move _ rfl rfl)) rfl rfl ?_
    refine Ch.step (v := (.d (.str (actTo x k m)))) rfl (.pure (.assign _ rfl rfl)) rfl rfl ?_
    refine Ch.nil ?_
    refine T_ret ?_
    refine And.intro (.inr rfl) ?_
    exact Exists.intro [(.d (.str (actTo x k m)))] (Exists.intro [] (Exists.intro [] (And.intro (.cons (.tmp 4 rfl) .nil) (And.intro (.cons (.any _) (.cons (.any _) .nil)) (And.intro (Exp.of (congrArg D.str (by rw [show x.sigs.length = m by omega])) (.d _)) (And.intro rfl rfl))))))

set_option maxHeartbeats 1000000 in
theorem sp_spec_l12Clashes (x : Sgr) (hb : x.bulk ≤ 1048576) (hx : SgOk x) : Sp Try.prog 37 [(.agg [(.slice false 2 (x.sigs.map Sgn.d)), (.slice false 1 (x.codes.map D.str)), (.slice false 4 (x.arcs.map Arc.d))])] [.any] (.slice true 1 ((cfL x).map intsU)) := by
  refine Sp_intro (lend := true) Try.func37 rfl rfl rfl (fun _ => rfl) (fun c hc hX => ?_)
  obtain ⟨hp0, hp1, hp2⟩ := Sgr.parts hb
  have hn0 := bulkF_len hp0
  have hn1 := bulk_len hp1
  have hx1 := bulk_mem hp1
  have hn2 := bulkF_len hp2; have hx8 := hx.eight; have hxl := hx.len; have hxf := hx.few
  refine T_seq ?_
  refine T_region hc ?_
  refine Ch.step (v := (.ptr 1000 0)) rfl (.box 1000 _ _ rfl (.aggD _)) rfl rfl ?_
  refine Ch.step (v := (.c (.slice none 0 0))) rfl (.pure (.assign _ rfl rfl)) rfl rfl ?_
  refine Ch.nil ?_
  refine T_seq ?_
  refine T_region hc ?_
  refine Ch.step (v := (.c (.slice none 0 0))) rfl (.pure (.assign _ rfl rfl)) rfl rfl ?_
  refine Ch.nil ?_
  refine T_seq ?_
  refine T_seq ?_
  refine T_region hc ?_
  refine Ch.step (v := (.ptr 1000 1)) rfl (.pure (.fldPtr _ _ _ rfl fld34_1 rfl)) rfl rfl ?_
  refine Ch.step (v := (.d (.slice false 1 (x.codes.map D.str)))) rfl (.pure (.loadPtr1 _ _ rfl ag23 rfl rfl rfl)) rfl rfl ?_
  refine Ch.step (v := (.d (.int .i64 ((x.codes.length : Nat) : Int)))) rfl (.pure (.len _ _ 9 rfl Try.underlying23 (.sh _ _) (by simp))) rfl rfl ?_
  refine Ch.step (v := (.d (.int .i64 0))) rfl (.pure (.move _ rfl rfl)) rfl rfl ?_
  refine Ch.nil ?_
  refine T_block ?_
  refine T_loop (ι := Nat) (fun k => { n := 49, sl := [(1, (.ptr 1000 0)), (3, (.row 3)), (8, (.d (.int .i64 ((x.codes.length : Nat) : Int)))), (9, (.d (.int .i64 ((k : Nat) : Int))))], hp := [(3, (some (.row 1 ((prTo (cfP x) x.codes.length k).map intsU)))), (1000, (some (.box [(.d (.slice false 2 (x.sigs.map Sgn.d))), (.d (.slice false 1 (x.codes.map D.str))), (.d (.slice false 4 (x.arcs.map Arc.d)))])))], pin := [] }) (fun k => k ≤ x.codes.length) (fun k => x.codes.length - k) ⟨0, (by omega), (Wk.trans (Wk.nilrow 3 900003 1 rfl rfl rfl) (Wk.ren [(3, 900003)] rfl rfl rfl rfl (And.intro rfl (And.intro rfl (And.intro rfl (And.intro (vI (by first | rfl | omega | (simp; done) | (simp; omega))) trivial)))) (And.intro (oR (by first | rfl | (rw [prM_end (by omega) (by omega)]; done))) (And.intro rfl trivial))))⟩ (fun k hp0 => ?_)
  refine T_seq ?_
  refine T_region hc ?_
  refine Ch.step (v := (.d (.bool (decide (((k : Nat) : Int) < ((x.codes.length : Nat) : Int)))))) rfl (.pure (.int _ _ _ _ _ rfl rfl rfl rfl)) rfl rfl ?_
  refine Ch.nil ?_
  refine T_seq ?_
  refine T_cond (b := (decide (((k : Nat) : Int) < ((x.codes.length : Nat) : Int)))) rfl (fun h1 => ?_) (fun h1 => ?_)
  · replace h1 := of_decide_eq_true h1
    refine T_skip ?_
    refine T_seq ?_
    refine T_block ?_
    refine T_seq ?_
    refine T_region hc ?_
    refine Ch.step (v := (.d (.int .i64 ((k : Nat) : Int)))) rfl (.pure (.move _ rfl rfl)) rfl rfl ?_
    refine Ch.step (v := (.d (.int .i64 ((k : Nat) : Int)))) rfl (.pure (.assign _ rfl rfl)) rfl rfl ?_
    refine Ch.nil ?_
    refine T_seq ?_
    refine T_region hc ?_
    refine Ch.step (v := (.d (.int .i64 ((k : Nat) : Int)))) rfl (.pure (.move _ rfl rfl)) rfl rfl ?_
    refine Ch.step (v := (.d (.int .i64 (((k : Nat) : Int) + 1)))) rfl (.pure (.int _ _ _ _ _ rfl rfl rfl (intV_add (by first | omega | (simp only [List.length_map, List.length_append, List.length_take, List.length_drop, List.length_cons, List.length_nil]; omega) | (simp; omega) | (simp; done)) (by first | omega | (simp only [List.length_map, List.length_append, List.length_take, List.length_drop, List.length_cons, List.length_nil]; omega) | (simp; omega) | (simp; done))))) rfl rfl ?_
    refine Ch.step (v := (.d (.int .i64 (((k : Nat) : Int) + 1)))) rfl (.pure (.assign _ rfl rfl)) rfl rfl ?_
    refine Ch.nil ?_
    refine T_block ?_
    refine T_loop (ι := Nat) (fun m => { n := 49, sl := [(1, (.ptr 1000 0)), (3, (.row 3)), (4, (.d (.int .i64 ((k : Nat) : Int)))), (5, (.d (.int .i64 ((m : Nat) : Int)))), (8, (.d (.int .i64 ((x.codes.length : Nat) : Int)))), (9, (.d (.int .i64 ((k : Nat) : Int))))], hp := [(3, (some (.row 1 ((prM (cfP x) x.codes.length k m).map intsU)))), (1000, (some (.box [(.d (.slice false 2 (x.sigs.map Sgn.d))), (.d (.slice false 1 (x.codes.map D.str))), (.d (.slice false 4 (x.arcs.map Arc.d)))])))], pin := [] }) (fun m => k < m ∧ m ≤ x.codes.length) (fun m => x.codes.length - m) ⟨k + 1, ⟨by omega, by omega⟩, (Wk.of rfl rfl (And.intro rfl (And.intro rfl (And.intro rfl (And.intro (vI (by first | rfl | omega | (simp; done) | (simp; omega))) (And.intro rfl (And.intro rfl trivial)))))) (And.intro (oR (by first | (exact congrArg (List.map _) (prM_start _ _ _)) | (exact push rfl (prM_yes (by omega) (by first | exact cfP_act hx8.2 (decide_eq_true (by assumption)) (by first | (rw [decide_eq_false (by assumption)]; rfl) | (rw [decide_eq_true (by assumption)]; rfl)) | (rw [cfP, show eqP x k m = false from decide_eq_false (by assumption)]; rfl)))) | (exact congrArg (List.map _) (prM_no (by first | exact cfP_act hx8.2 (decide_eq_true (by assumption)) (by first | (rw [decide_eq_false (by assumption)]; rfl) | (rw [decide_eq_true (by assumption)]; rfl)) | (rw [cfP, show eqP x k m = false from decide_eq_false (by assumption)]; rfl)))))) (And.intro rfl trivial)))⟩ (fun m hp1 => ?_)
    have hq := prM_le (cfP x) (n := x.codes.length) (k := k) (m := m) (by omega) (by omega) (by omega)
    refine T_seq ?_
    refine T_seq ?_
    refine T_region hc ?_
    refine Ch.step (v := (.d (.int .i64 ((m : Nat) : Int)))) rfl (.pure (.move _ rfl rfl)) rfl rfl ?_
    refine Ch.step (v := (.ptr 1000 1)) rfl (.pure (.fldPtr _ _ _ rfl fld34_1 rfl)) rfl rfl ?_
    refine Ch.step (v := (.d (.slice false 1 (x.codes.map D.str)))) rfl (.pure (.loadPtr1 _ _ rfl ag23 rfl rfl rfl)) rfl rfl ?_
    refine Ch.step (v := (.d (.int .i64 ((x.codes.length : Nat) : Int)))) rfl (.pure (.len _ _ 9 rfl Try.underlying23 (.sh _ _) (by simp))) rfl rfl ?_
    refine Ch.step (v := (.d (.bool (decide (((m : Nat) : Int) < ((x.codes.length : Nat) : Int)))))) rfl (.pure (.int _ _ _ _ _ rfl rfl rfl rfl)) rfl rfl ?_
    refine Ch.nil ?_
    refine T_cond (b := (decide (((m : Nat) : Int) < ((x.codes.length : Nat) : Int)))) rfl (fun h2 => ?_) (fun h2 => ?_)
    · replace h2 := of_decide_eq_true h2
      refine T_skip ?_
      refine T_seq ?_
      refine T_block ?_
      refine T_seq ?_
      refine T_regionD hc (by kernel_rfl) ?_
      refine ChD.step (v := (.ptr 1000 1)) [] rfl (.pure (.fldPtr _ _ _ rfl fld34_1 rfl)) rfl rfl ?_
      refine ChD.step (v := (.d (.slice false 1 (x.codes.map D.str)))) [1000] rfl (.pure (.loadPtr1 _ _ rfl ag23 rfl rfl rfl)) rfl rfl ?_
      refine ChD.step (v := (.d (.int .i64 ((k : Nat) : Int)))) [] rfl (.pure (.move _ rfl rfl)) rfl rfl ?_
      refine ChD.step (v := (.d (.ref (.str (x.codes.getD k default))))) [] rfl (.pure (.idx _ _ _ 9 (k) rfl Try.underlying23 sz9 rfl rfl rfl (get_map _ (by first | omega | (simp only [List.length_map, List.length_append, List.length_take, List.length_drop, List.length_cons, List.length_nil]; omega) | (simp; omega) | (simp; done))))) rfl rfl ?_
      refine ChD.step (v := (.d (.str (x.codes.getD k default)))) [] rfl (.pure (.loadRef1 _ _ rfl ag9 rfl rfl)) rfl rfl ?_
      refine ChD.step (v := (.ptr 1000 1)) [] rfl (.pure (.fldPtr _ _ _ rfl fld34_1 rfl)) rfl rfl ?_
      refine ChD.step (v := (.d (.slice false 1 (x.codes.map D.str)))) [1000] rfl (.pure (.loadPtr1 _ _ rfl ag23 rfl rfl rfl)) rfl rfl ?_
      refine ChD.step (v := (.d (.int .i64 ((m : Nat) : Int)))) [] rfl (.pure (.move _ rfl rfl)) rfl rfl ?_
      refine ChD.step (v := (.d (.ref (.str (x.codes.getD m default))))) [] rfl (.pure (.idx _ _ _ 9 (m) rfl Try.underlying23 sz9 rfl rfl rfl (get_map _ (by first | omega | (simp only [List.length_map, List.length_append, List.length_take, List.length_drop, List.length_cons, List.length_nil]; omega) | (simp; omega) | (simp; done))))) rfl rfl ?_
      refine ChD.step (v := (.d (.str (x.codes.getD m default)))) [] rfl (.pure (.loadRef1 _ _ rfl ag9 rfl rfl)) rfl rfl ?_
      refine ChD.step (v := (.d (.bool (decide ((x.codes.getD k default) = (x.codes.getD m default)))))) [] rfl (.pure (.str _ _ _ _ _ rfl rfl rfl rfl)) rfl rfl ?_
      refine ChD.step (v := (.d (.bool (decide ((x.codes.getD k default) = (x.codes.getD m default)))))) [] rfl (.pure (.move _ rfl rfl)) rfl rfl ?_
      cases h3 : (decide ((x.codes.getD k default) = (x.codes.getD m default))) with
      | true =>
        replace h3 := of_decide_eq_true h3
        refine ChD.step (v := (.agg [(.d (.slice false 2 (x.sigs.map Sgn.d))), (.d (.slice false 1 (x.codes.map D.str))), (.d (.slice false 4 (x.arcs.map Arc.d)))])) [1000] rfl (.pure (.loadPtrA _ _ rfl ag34 sz34 rfl rfl (Nat.le_of_ble_eq_true rfl) rfl)) rfl rfl ?_
        refine ChD.step (v := (.d (.int .i64 ((k : Nat) : Int)))) [] rfl (.pure (.move _ rfl rfl)) rfl rfl ?_
        refine ChD.step (v := (.d (.str (actTo x k x.sigs.length)))) [] rfl (.call 35000 72 _ _ _ en72 rfl (.inl rfl) (.cons (.lend (.agg (.cons (.d _) (.cons (.d _) (.cons (.d _) .nil))) rfl)) (.cons (.d _) .nil)) rfl rfl (sp_spec_l12Active x k (by first | assumption | omega | (rw [List.length_take]; omega) | (have := bulkF_mem hb _ (getD_mem (d := default) (by omega)); assumption) | (unfold bulkS at *; omega) | (simp_all; done)) (by assumption)) (.skip _ _ (.skip _ _ .nil)) rfl) rfl rfl ?_
        refine ChD.step (v := (.agg [(.d (.slice false 2 (x.sigs.map Sgn.d))), (.d (.slice false 1 (x.codes.map D.str))), (.d (.slice false 4 (x.arcs.map Arc.d)))])) [1000] rfl (.pure (.loadPtrA _ _ rfl ag34 sz34 rfl rfl (Nat.le_of_ble_eq_true rfl) rfl)) rfl rfl ?_
        refine ChD.step (v := (.d (.int .i64 ((m : Nat) : Int)))) [] rfl (.pure (.move _ rfl rfl)) rfl rfl ?_
        refine ChD.step (v := (.d (.str (actTo x m x.sigs.length)))) [] rfl (.call 38000 72 _ _ _ en72 rfl (.inl rfl) (.cons (.lend (.agg (.cons (.d _) (.cons (.d _) (.cons (.d _) .nil))) rfl)) (.cons (.d _) .nil)) rfl rfl (sp_spec_l12Active x m (by first | assumption | omega | (rw [List.length_take]; omega) | (have := bulkF_mem hb _ (getD_mem (d := default) (by omega)); assumption) | (unfold bulkS at *; omega) | (simp_all; done)) (by assumption)) (.skip _ _ (.skip _ _ .nil)) rfl) rfl rfl ?_
        refine ChD.step (v := (.d (.bool (!(decide ((actTo x k x.sigs.length) = (actTo x m x.sigs.length))))))) [] rfl (.pure (.str _ _ _ _ _ rfl rfl rfl rfl)) rfl rfl ?_
        refine ChD.step (v := (.d (.bool (!(decide ((actTo x k x.sigs.length) = (actTo x m x.sigs.length))))))) [] rfl (.pure (.pickT _ _ _ rfl rfl rfl)) rfl rfl ?_
        refine ChD.nil (And.intro ?_ (by kernel_rfl))
        refine T_cond (b := (!(decide ((actTo x k x.sigs.length) = (actTo x m x.sigs.length))))) rfl (fun h4 => ?_) (fun h4 => ?_)
        · replace h4 := nott h4
          replace h4 := of_decide_eq_false h4
          refine T_region hc ?_
          refine Ch.step (v := (.row 3)) rfl (.pure (.move _ rfl rfl)) rfl rfl ?_
          refine Ch.step (v := (.d (.int .i64 ((k : Nat) : Int)))) rfl (.pure (.move _ rfl rfl)) rfl rfl ?_
          refine Ch.step (v := (.d (.int .i64 ((m : Nat) : Int)))) rfl (.pure (.move _ rfl rfl)) rfl rfl ?_
          refine Ch.step (v := (.row 44000)) rfl (.slice 44000 _ 3 _ rfl sty43 (xs := [.tmp 42, .tmp 43]) rfl rfl (.cons (.d _) (.cons (.d _) .nil)) rfl rfl (by decide)) rfl rfl ?_
          refine Ch.step (v := (.row 45000)) rfl (.slice 45000 _ 43 _ rfl sty28 (xs := [.tmp 44]) rfl rfl (.cons (.row rfl) .nil) rfl rfl (by decide)) rfl rfl ?_
          refine Ch.step (v := (.row 46000)) rfl (.append 46000 _ _ _ 43 rfl sty28 (by decide) (.rowK rfl) (.inr ⟨_, rfl, rfl⟩) (.rowK rfl) rfl (by first | omega | (simp only [List.length_append, List.length_map, List.length_cons, List.length_nil]; omega) | (simp; omega) | (simp; done))) rfl rfl ?_
          refine Ch.step (v := (.row 46000)) rfl (.pure (.assign _ rfl rfl)) rfl rfl ?_
          refine Ch.nil ?_
          refine T_region hc ?_
          refine Ch.step (v := (.d (.int .i64 ((m : Nat) : Int)))) rfl (.pure (.move _ rfl rfl)) rfl rfl ?_
          refine Ch.step (v := (.d (.int .i64 (((m : Nat) : Int) + 1)))) rfl (.pure (.int _ _ _ _ _ rfl rfl rfl (intV_add (by first | omega | (simp only [List.length_map, List.length_append, List.length_take, List.length_drop, List.length_cons, List.length_nil]; omega) | (simp; omega) | (simp; done)) (by first | omega | (simp only [List.length_map, List.length_append, List.length_take, List.length_drop, List.length_cons, List.length_nil]; omega) | (simp; omega) | (simp; done))))) rfl rfl ?_
          refine Ch.step (v := (.d (.int .i64 (((m : Nat) : Int) + 1)))) rfl (.pure (.assign _ rfl rfl)) rfl rfl ?_
          refine Ch.nil ?_
          refine Exists.intro (m + 1) (And.intro ⟨by omega, by omega⟩ (And.intro (by first | omega | (dsimp only; omega)) (Wk.ren [(3, 46000)] rfl rfl rfl rfl (And.intro rfl (And.intro rfl (And.intro rfl (And.intro (vI (by first | rfl | omega | (simp; done) | (simp; omega))) (And.intro rfl (And.intro rfl trivial)))))) (And.intro (oR (by first | (exact congrArg (List.map _) (prM_start _ _ _)) | (exact push rfl (prM_yes (by omega) (by first | exact cfP_act hx8.2 (decide_eq_true (by assumption)) (by first | (rw [decide_eq_false (by assumption)]; rfl) | (rw [decide_eq_true (by assumption)]; rfl)) | (rw [cfP, show eqP x k m = false from decide_eq_false (by assumption)]; rfl)))) | (exact congrArg (List.map _) (prM_no (by first | exact cfP_act hx8.2 (decide_eq_true (by assumption)) (by first | (rw [decide_eq_false (by assumption)]; rfl) | (rw [decide_eq_true (by assumption)]; rfl)) | (rw [cfP, show eqP x k m = false from decide_eq_false (by assumption)]; rfl)))))) (And.intro rfl trivial)))))
        · replace h4 := notf h4
          replace h4 := of_decide_eq_true h4
          refine T_skip ?_
          refine T_region hc ?_
          refine Ch.step (v := (.d (.int .i64 ((m : Nat) : Int)))) rfl (.pure (.move _ rfl rfl)) rfl rfl ?_
          refine Ch.step (v := (.d (.int .i64 (((m : Nat) : Int) + 1)))) rfl (.pure (.int _ _ _ _ _ rfl rfl rfl (intV_add (by first | omega | (simp only [List.length_map, List.length_append, List.length_take, List.length_drop, List.length_cons, List.length_nil]; omega) | (simp; omega) | (simp; done)) (by first | omega | (simp only [List.length_map, List.length_append, List.length_take, List.length_drop, List.length_cons, List.length_nil]; omega) | (simp; omega) | (simp; done))))) rfl rfl ?_
          refine Ch.step (v := (.d (.int .i64 (((m : Nat) : Int) + 1)))) rfl (.pure (.assign _ rfl rfl)) rfl rfl ?_
          refine Ch.nil ?_
          refine Exists.intro (m + 1) (And.intro ⟨by omega, by omega⟩ (And.intro (by first | omega | (dsimp only; omega)) (Wk.of rfl rfl (And.intro rfl (And.intro rfl (And.intro rfl (And.intro (vI (by first | rfl | omega | (simp; done) | (simp; omega))) (And.intro rfl (And.intro rfl trivial)))))) (And.intro (oR (by first | (exact congrArg (List.map _) (prM_start _ _ _)) | (exact push rfl (prM_yes (by omega) (by first | exact cfP_act hx8.2 (decide_eq_true (by assumption)) (by first | (rw [decide_eq_false (by assumption)]; rfl) | (rw [decide_eq_true (by assumption)]; rfl)) | (rw [cfP, show eqP x k m = false from decide_eq_false (by assumption)]; rfl)))) | (exact congrArg (List.map _) (prM_no (by first | exact cfP_act hx8.2 (decide_eq_true (by assumption)) (by first | (rw [decide_eq_false (by assumption)]; rfl) | (rw [decide_eq_true (by assumption)]; rfl)) | (rw [cfP, show eqP x k m = false from decide_eq_false (by assumption)]; rfl)))))) (And.intro rfl trivial)))))
      | false =>
        replace h3 := of_decide_eq_false h3
        refine ChD.skip rfl rfl ?_
        refine ChD.skip rfl rfl ?_
        refine ChD.skip rfl rfl ?_
        refine ChD.skip rfl rfl ?_
        refine ChD.skip rfl rfl ?_
        refine ChD.skip rfl rfl ?_
        refine ChD.skip rfl rfl ?_
        refine ChD.step (v := (.d (.bool false))) [] rfl (.pure (.pickF _ _ _ rfl rfl rfl)) rfl rfl ?_
        refine ChD.nil (And.intro ?_ (by kernel_rfl))
        refine T_cond (b := false) rfl (fun h => nomatch h) (fun _ => ?_)
        refine T_skip ?_
        refine T_region hc ?_
        refine Ch.step (v := (.d (.int .i64 ((m : Nat) : Int)))) rfl (.pure (.move _ rfl rfl)) rfl rfl ?_
        refine Ch.step (v := (.d (.int .i64 (((m : Nat) : Int) + 1)))) rfl (.pure (.int _ _ _ _ _ rfl rfl rfl (intV_add (by first | omega | (simp only [List.length_map, List.length_append, List.length_take, List.length_drop, List.length_cons, List.length_nil]; omega) | (simp; omega) | (simp; done)) (by first | omega | (simp only [List.length_map, List.length_append, List.length_take, List.length_drop, List.length_cons, List.length_nil]; omega) | (simp; omega) | (simp; done))))) rfl rfl ?_
        refine Ch.step (v := (.d (.int .i64 (((m : Nat) : Int) + 1)))) rfl (.pure (.assign _ rfl rfl)) rfl rfl ?_
        refine Ch.nil ?_
        refine Exists.intro (m + 1) (And.intro ⟨by omega, by omega⟩ (And.intro (by first | omega | (dsimp only; omega)) (Wk.of rfl rfl (And.intro rfl (And.intro rfl (And.intro rfl (And.intro (vI (by first | rfl | omega | (simp; done) | (simp; omega))) (And.intro rfl (And.intro rfl trivial)))))) (And.intro (oR (by first | (exact congrArg (List.map _) (prM_start _ _ _)) | (exact push rfl (prM_yes (by omega) (by first | exact cfP_act hx8.2 (decide_eq_true (by assumption)) (by first | (rw [decide_eq_false (by assumption)]; rfl) | (rw [decide_eq_true (by assumption)]; rfl)) | (rw [cfP, show eqP x k m = false from decide_eq_false (by assumption)]; rfl)))) | (exact congrArg (List.map _) (prM_no (by first | exact cfP_act hx8.2 (decide_eq_true (by assumption)) (by first | (rw [decide_eq_false (by assumption)]; rfl) | (rw [decide_eq_true (by assumption)]; rfl)) | (rw [cfP, show eqP x k m = false from decide_eq_false (by assumption)]; rfl)))))) (And.intro rfl trivial)))))
    · replace h2 := of_decide_eq_false h2
      refine T_exit ?_
      refine T_region hc ?_
      refine Ch.step (v := (.d (.int .i64 (((k : Nat) : Int) + 1)))) rfl (.pure (.int _ _ _ _ _ rfl rfl rfl (intV_add (by first | omega | (simp only [List.length_map, List.length_append, List.length_take, List.length_drop, List.length_cons, List.length_nil]; omega) | (simp; omega) | (simp; done)) (by first | omega | (simp only [List.length_map, List.length_append, List.length_take, List.length_drop, List.length_cons, List.length_nil]; omega) | (simp; omega) | (simp; done))))) rfl rfl ?_
      refine Ch.step (v := (.d (.int .i64 (((k : Nat) : Int) + 1)))) rfl (.pure (.move _ rfl rfl)) rfl rfl ?_
      refine Ch.nil ?_
      refine Exists.intro (k + 1) (And.intro (by omega) (And.intro (by first | omega | (dsimp only; omega)) (Wk.of rfl rfl (And.intro rfl (And.intro rfl (And.intro rfl (And.intro (vI (by first | rfl | omega | (simp; done) | (simp; omega))) trivial)))) (And.intro (oR (by first | rfl | (rw [prM_end (by omega) (by omega)]; done))) (And.intro rfl trivial)))))
  · replace h1 := of_decide_eq_false h1
    refine T_exit ?_
    refine T_seq ?_
    refine T_region hc ?_
    refine Ch.step (v := (.row 3)) rfl (.pure (.move _ rfl rfl)) rfl rfl ?_
    refine Ch.step (v := (.row 3)) rfl (.pure (.assign _ rfl rfl)) rfl rfl ?_
    refine Ch.nil ?_
    refine T_ret ?_
    refine And.intro (.inr rfl) ?_
    exact Exists.intro [(.row 3)] (Exists.intro [] (Exists.intro [3] (And.intro (.cons (.tmp 2 rfl) .nil) (And.intro (.cons (.any _) .nil) (And.intro (Exp.of (congrArg (D.slice true 1) (by rw [cfL, show x.codes.length = k by omega])) (.row rfl)) (And.intro rfl rfl))))))

theorem en36 : Enters Try.prog 36 := ⟨_, Try.func36, by kernel_rfl, rfl⟩

theorem ag26 : AggIs Try.prog 26 true := by unfold AggIs; kernel_rfl

theorem sz26 : SizeIs Try.prog 26 3 := by unfold SizeIs; kernel_rfl

theorem en8 : Enters Try.prog 8 := ⟨_, Try.func8, by kernel_rfl, rfl⟩

theorem en10 : Enters Try.prog 10 := ⟨_, Try.func10, by kernel_rfl, rfl⟩

theorem en20 : Enters Try.prog 20 := ⟨_, Try.func20, by kernel_rfl, rfl⟩

theorem en13 : Enters Try.prog 13 := ⟨_, Try.func13, by kernel_rfl, rfl⟩

theorem en14 : Enters Try.prog 14 := ⟨_, Try.func14, by kernel_rfl, rfl⟩

theorem en21 : Enters Try.prog 21 := ⟨_, Try.func21, by kernel_rfl, rfl⟩

theorem en22 : Enters Try.prog 22 := ⟨_, Try.func22, by kernel_rfl, rfl⟩

theorem en76 : Enters Try.prog 76 := ⟨_, Try.func76, by kernel_rfl, rfl⟩

theorem en40 : Enters Try.prog 40 := ⟨_, Try.func40, by kernel_rfl, rfl⟩

theorem en37 : Enters Try.prog 37 := ⟨_, Try.func37, by kernel_rfl, rfl⟩

theorem en9 : Enters Try.prog 9 := ⟨_, Try.func9, by kernel_rfl, rfl⟩

theorem en11 : Enters Try.prog 11 := ⟨_, Try.func11, by kernel_rfl, rfl⟩

theorem en12 : Enters Try.prog 12 := ⟨_, Try.func12, by kernel_rfl, rfl⟩

theorem en15 : Enters Try.prog 15 := ⟨_, Try.func15, by kernel_rfl, rfl⟩

theorem en16 : Enters Try.prog 16 := ⟨_, Try.func16, by kernel_rfl, rfl⟩

def ccV (x : Sgr) : List (List Int) := if sgB x then cfL x else []

theorem ccV_le (x : Sgr) : (ccV x).length ≤ 1048576 := by
  unfold ccV; split
  · rename_i h
    have hx := sg_has h
    have h1 := prTo_le (cfP x) (n := x.codes.length) hx.len.2 x.codes.length
    have h2 := hx.len
    unfold cfL
    omega
  · exact Nat.zero_le _

theorem ccV_two (x : Sgr) : ∀ pr ∈ ccV x, pr.length = 2 := by
  unfold ccV
  intro pr hpr
  split at hpr
  · exact (prTo_in (Nat.le_refl _) pr hpr).1
  · cases hpr

theorem sp_impl_CSCConflicts (x : Sgr) (hb : x.bulk ≤ 1048576) : Sp Try.prog 40 [(.agg [(.slice false 2 (x.sigs.map Sgn.d)), (.slice false 1 (x.codes.map D.str)), (.slice false 4 (x.arcs.map Arc.d))])] [.any] (.tup [(.slice true 1 ((ccV x).map intsU)), (.bool (sgB x))]) := by
  refine Sp_intro (lend := true) Try.func40 rfl rfl rfl (fun _ => rfl) (fun c hc hX => ?_)
  obtain ⟨hp0, hp1, hp2⟩ := Sgr.parts hb
  have hn0 := bulkF_len hp0
  have hn1 := bulk_len hp1
  have hx1 := bulk_mem hp1
  have hn2 := bulkF_len hp2
  refine T_seq ?_
  refine T_region hc ?_
  refine Ch.step (v := (.ptr 1000 0)) rfl (.box 1000 _ _ rfl (.aggD _)) rfl rfl ?_
  refine Ch.step (v := (.c (.slice none 0 0))) rfl (.pure (.assign _ rfl rfl)) rfl rfl ?_
  refine Ch.step (v := (.d (.bool false))) rfl (.pure (.assign _ rfl rfl)) rfl rfl ?_
  refine Ch.nil ?_
  refine T_seq ?_
  refine T_seq ?_
  refine T_region hc ?_
  refine Ch.step (v := (.agg [(.d (.slice false 2 (x.sigs.map Sgn.d))), (.d (.slice false 1 (x.codes.map D.str))), (.d (.slice false 4 (x.arcs.map Arc.d)))])) rfl (.pure (.loadPtrA _ _ rfl ag34 sz34 rfl rfl (Nat.le_of_ble_eq_true rfl) rfl)) rfl rfl ?_
  refine Ch.step (v := (.d (.bool (sgB x)))) rfl (.call 5000 75 _ _ _ en75 rfl (.inl rfl) (.cons (.lend (.agg (.cons (.d _) (.cons (.d _) (.cons (.d _) .nil))) rfl)) .nil) rfl rfl (sp_impl_IsValidStateGraph x (by first | assumption | omega | (rw [List.length_take]; omega) | (have := bulkF_mem hb _ (getD_mem (d := default) (by omega)); assumption) | (unfold bulkS at *; omega) | (simp_all; done))) (.skip _ _ .nil) rfl) rfl rfl ?_
  refine Ch.step (v := (.d (.bool (!(sgB x))))) rfl (.pure (.not _ _ rfl rfl)) rfl rfl ?_
  refine Ch.nil ?_
  refine T_cond (b := (!(sgB x))) rfl (fun h1 => ?_) (fun h1 => ?_)
  · replace h1 := nott h1
    try have hx := sg_has h1
    try have hx8 := hx.eight
    try have hxf := hx.few
    try have hxl := hx.len
    refine T_seq ?_
    refine T_region hc ?_
    refine Ch.step (v := (.c (.slice none 0 0))) rfl (.pure (.assign _ rfl rfl)) rfl rfl ?_
    refine Ch.step (v := (.d (.bool false))) rfl (.pure (.assign _ rfl rfl)) rfl rfl ?_
    refine Ch.nil ?_
    refine T_ret ?_
    refine And.intro (.inr rfl) ?_
    exact Exists.intro [(.c (.slice none 0 0)), (.d (.bool false))] (Exists.intro [] (Exists.intro [] (And.intro (.cons (.tmp 2 rfl) (.cons (.tmp 3 rfl) .nil)) (And.intro (.cons (.any _) .nil) (And.intro (.tup (.cons (Exp.of (congrArg (D.slice true 1) (by first | rfl | (rw [ccV, h1]; rfl) | (rw [h1]; done))) (.nil true 1)) (.cons (Exp.of (congrArg D.bool (by first | rfl | (rw [ccV, h1]; rfl) | (rw [h1]; done))) (.d _)) .nil))) (And.intro rfl rfl))))))
  · replace h1 := notf h1
    try have hx := sg_has h1
    try have hx8 := hx.eight
    try have hxf := hx.few
    try have hxl := hx.len
    refine T_skip ?_
    refine T_seq ?_
    refine T_region hc ?_
    refine Ch.step (v := (.agg [(.d (.slice false 2 (x.sigs.map Sgn.d))), (.d (.slice false 1 (x.codes.map D.str))), (.d (.slice false 4 (x.arcs.map Arc.d)))])) rfl (.pure (.loadPtrA _ _ rfl ag34 sz34 rfl rfl (Nat.le_of_ble_eq_true rfl) rfl)) rfl rfl ?_
    refine Ch.step (v := (.row 8000)) rfl (.call 8000 76 _ _ _ en76 rfl (.inl rfl) (.cons (.lend (.agg (.cons (.d _) (.cons (.d _) (.cons (.d _) .nil))) rfl)) .nil) rfl (sol (solid_row intsU_sol _) rfl) (sp_impl_conflicts x (by first | assumption | omega | (rw [List.length_take]; omega) | (have := bulkF_mem hb _ (getD_mem (d := default) (by omega)); assumption) | (unfold bulkS at *; omega) | (simp_all; done)) (by assumption)) (.skip _ _ .nil) rfl) rfl rfl ?_
    refine Ch.step (v := (.row 8000)) rfl (.pure (.assign _ rfl rfl)) rfl rfl ?_
    refine Ch.step (v := (.d (.bool true))) rfl (.pure (.assign _ rfl rfl)) rfl rfl ?_
    refine Ch.nil ?_
    refine T_ret ?_
    refine And.intro (.inr rfl) ?_
    exact Exists.intro [(.row 8000), (.d (.bool true))] (Exists.intro [] (Exists.intro [8000] (And.intro (.cons (.tmp 2 rfl) (.cons (.tmp 3 rfl) .nil)) (And.intro (.cons (.any _) .nil) (And.intro (.tup (.cons (Exp.of (congrArg (D.slice true 1) (by first | rfl | (rw [ccV, h1]; rfl) | (rw [h1]; done))) (.row rfl)) (.cons (Exp.of (congrArg D.bool (by first | rfl | (rw [ccV, h1]; rfl) | (rw [h1]; done))) (.d _)) .nil))) (And.intro rfl rfl))))))

theorem sp_impl_CodingConflicts (x : Sgr) (hb : x.bulk ≤ 1048576) : Sp Try.prog 11 [(.agg [(.slice false 2 (x.sigs.map Sgn.d)), (.slice false 1 (x.codes.map D.str)), (.slice false 4 (x.arcs.map Arc.d))])] [.any] (.tup [(.slice true 1 ((ccV x).map intsU)), (.bool (sgB x))]) := by
  refine Sp_intro (lend := true) Try.func11 rfl rfl rfl (fun _ => rfl) (fun c hc hX => ?_)
  obtain ⟨hp0, hp1, hp2⟩ := Sgr.parts hb
  have hn0 := bulkF_len hp0
  have hn1 := bulk_len hp1
  have hx1 := bulk_mem hp1
  have hn2 := bulkF_len hp2
  refine T_seq ?_
  refine T_region hc ?_
  refine Ch.step (v := (.ptr 1000 0)) rfl (.box 1000 _ _ rfl (.aggD _)) rfl rfl ?_
  refine Ch.step (v := (.c (.slice none 0 0))) rfl (.pure (.assign _ rfl rfl)) rfl rfl ?_
  refine Ch.step (v := (.d (.bool false))) rfl (.pure (.assign _ rfl rfl)) rfl rfl ?_
  refine Ch.nil ?_
  refine T_seq ?_
  refine T_region hc ?_
  refine Ch.step (v := (.agg [(.d (.slice false 2 (x.sigs.map Sgn.d))), (.d (.slice false 1 (x.codes.map D.str))), (.d (.slice false 4 (x.arcs.map Arc.d)))])) rfl (.pure (.loadPtrA _ _ rfl ag34 sz34 rfl rfl (Nat.le_of_ble_eq_true rfl) rfl)) rfl rfl ?_
  refine Ch.step (v := (.tup [(.row 5000), (.d (.bool (sgB x)))])) rfl (.call 5000 40 _ _ _ en40 rfl (.inl rfl) (.cons (.lend (.agg (.cons (.d _) (.cons (.d _) (.cons (.d _) .nil))) rfl)) .nil) rfl (sol (by rw [D.solid]; exact solids_c (solid_row intsU_sol _) rfl) rfl) (sp_impl_CSCConflicts x (by first | assumption | omega | (rw [List.length_take]; omega) | (have := bulkF_mem hb _ (getD_mem (d := default) (by omega)); assumption) | (unfold bulkS at *; omega) | (simp_all; done))) (.skip _ _ .nil) rfl) rfl rfl ?_
  refine Ch.step (v := (.row 5000)) rfl (.pure (.extract _ rfl rfl rfl)) rfl rfl ?_
  refine Ch.step (v := (.d (.bool (sgB x)))) rfl (.pure (.extract _ rfl rfl rfl)) rfl rfl ?_
  refine Ch.step (v := (.row 5000)) rfl (.pure (.assign _ rfl rfl)) rfl rfl ?_
  refine Ch.step (v := (.d (.bool (sgB x)))) rfl (.pure (.assign _ rfl rfl)) rfl rfl ?_
  refine Ch.nil ?_
  refine T_ret ?_
  refine And.intro (.inr rfl) ?_
  exact Exists.intro [(.row 5000), (.d (.bool (sgB x)))] (Exists.intro [] (Exists.intro [5000] (And.intro (.cons (.tmp 2 rfl) (.cons (.tmp 3 rfl) .nil)) (And.intro (.cons (.any _) .nil) (And.intro (.tup (.cons (.row rfl) (.cons (.d _) .nil))) (And.intro rfl rfl))))))

end Go.AM
