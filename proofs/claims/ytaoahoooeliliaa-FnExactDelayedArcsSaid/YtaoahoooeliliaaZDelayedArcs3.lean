/-
  The contracts that the law FnExactDelayedArcs needs.
-/
import Derived.Test.YtaoahoooeliliaaZDelayedArcs2
namespace Go.AM
open Go.Proofs
set_option linter.unusedVariables false
set_option linter.unusedSimpArgs false

set_option maxHeartbeats 2000000 in
theorem sp_spec_l5Arc (x : Sgr) (a : Arc) (hb : x.bulk ≤ 1048576) (h8 : x.sigs.length ≤ 8) (hcl : allOf x.codes (fun u => codeN u (x.sigs.length : Int)) = true) : Sp Try.prog 128 [(.agg [(.slice false 2 (x.sigs.map Sgn.d)), (.slice false 1 (x.codes.map D.str)), (.slice false 4 (x.arcs.map Arc.d))]), (.agg [(.int .i64 a.src), (.int .i64 a.sig), (.bool (a.up)), (.int .i64 a.dst)])] [.any, .any] (.bool (arcB x a)) := by
  refine Sp_intro (lend := true) Try.func128 rfl rfl rfl (fun _ => rfl) (fun c hc hX => ?_)
  obtain ⟨hp0, hp1, hp2⟩ := Sgr.parts hb
  have hn0 := bulkF_len hp0
  have hn1 := bulk_len hp1
  have hx1 := bulk_mem hp1
  have hn2 := bulkF_len hp2; have hca := codes_at hcl
  refine T_seq ?_
  refine T_region hc ?_
  refine Ch.step (v := (.ptr 2000 0)) rfl (.box 2000 _ _ rfl (.aggD _)) rfl rfl ?_
  refine Ch.step (v := (.ptr 3000 0)) rfl (.box 3000 _ _ rfl (.aggD _)) rfl rfl ?_
  refine Ch.step (v := (.d (.bool false))) rfl (.pure (.assign _ rfl rfl)) rfl rfl ?_
  refine Ch.nil ?_
  refine T_seq ?_
  refine T_seq ?_
  refine T_region hc ?_
  refine Ch.step (v := (.ptr 3000 0)) rfl (.pure (.fldPtr _ _ _ rfl fld102_0 rfl)) rfl rfl ?_
  refine Ch.step (v := (.d (.int .i64 a.src))) rfl (.pure (.loadPtr1 _ _ rfl ag3 rfl rfl rfl)) rfl rfl ?_
  refine Ch.step (v := (.ptr 2000 1)) rfl (.pure (.fldPtr _ _ _ rfl fld52_1 rfl)) rfl rfl ?_
  refine Ch.step (v := (.d (.slice false 1 (x.codes.map D.str)))) rfl (.pure (.loadPtr1 _ _ rfl ag43 rfl rfl rfl)) rfl rfl ?_
  refine Ch.step (v := (.d (.int .i64 ((x.codes.length : Nat) : Int)))) rfl (.pure (.len _ _ 9 rfl Try.underlying43 (.sh _ _) (by simp))) rfl rfl ?_
  refine Ch.step (v := (.d (.int .i64 (((x.codes.length : Nat) : Int) - 1)))) rfl (.pure (.int _ _ _ _ _ rfl rfl rfl (intV_sub (by first | omega | (simp only [List.length_map, List.length_append, List.length_take, List.length_drop, List.length_cons, List.length_nil]; omega) | (simp; omega) | (simp; done)) (by first | omega | (simp only [List.length_map, List.length_append, List.length_take, List.length_drop, List.length_cons, List.length_nil]; omega) | (simp; omega) | (simp; done))))) rfl rfl ?_
  refine Ch.step (v := (.d (.bool (withinB a.src 0 (((x.codes.length : Nat) : Int) - 1))))) rfl (.call 13000 51 _ _ _ en51 rfl (.inl rfl) (.cons (.d _) (.cons (.d _) (.cons (.d _) .nil))) rfl rfl (sp_spec_l1In a.src 0 (((x.codes.length : Nat) : Int) - 1)) (.skip _ _ (.skip _ _ (.skip _ _ .nil))) rfl) rfl rfl ?_
  refine Ch.step (v := (.d (.bool (!(withinB a.src 0 (((x.codes.length : Nat) : Int) - 1)))))) rfl (.pure (.not _ _ rfl rfl)) rfl rfl ?_
  refine Ch.step (v := (.d (.bool (!(withinB a.src 0 (((x.codes.length : Nat) : Int) - 1)))))) rfl (.pure (.move _ rfl rfl)) rfl rfl ?_
  cases h1 : (withinB a.src 0 (((x.codes.length : Nat) : Int) - 1)) with
  | true =>
    try have hw1 := within_two h1
    refine Ch.step (v := (.ptr 3000 3)) rfl (.pure (.fldPtr _ _ _ rfl fld102_3 rfl)) rfl rfl ?_
    refine Ch.step (v := (.d (.int .i64 a.dst))) rfl (.pure (.loadPtr1 _ _ rfl ag3 rfl rfl rfl)) rfl rfl ?_
    refine Ch.step (v := (.ptr 2000 1)) rfl (.pure (.fldPtr _ _ _ rfl fld52_1 rfl)) rfl rfl ?_
    refine Ch.step (v := (.d (.slice false 1 (x.codes.map D.str)))) rfl (.pure (.loadPtr1 _ _ rfl ag43 rfl rfl rfl)) rfl rfl ?_
    refine Ch.step (v := (.d (.int .i64 ((x.codes.length : Nat) : Int)))) rfl (.pure (.len _ _ 9 rfl Try.underlying43 (.sh _ _) (by simp))) rfl rfl ?_
    refine Ch.step (v := (.d (.int .i64 (((x.codes.length : Nat) : Int) - 1)))) rfl (.pure (.int _ _ _ _ _ rfl rfl rfl (intV_sub (by first | omega | (simp only [List.length_map, List.length_append, List.length_take, List.length_drop, List.length_cons, List.length_nil]; omega) | (simp; omega) | (simp; done)) (by first | omega | (simp only [List.length_map, List.length_append, List.length_take, List.length_drop, List.length_cons, List.length_nil]; omega) | (simp; omega) | (simp; done))))) rfl rfl ?_
    refine Ch.step (v := (.d (.bool (withinB a.dst 0 (((x.codes.length : Nat) : Int) - 1))))) rfl (.call 22000 51 _ _ _ en51 rfl (.inl rfl) (.cons (.d _) (.cons (.d _) (.cons (.d _) .nil))) rfl rfl (sp_spec_l1In a.dst 0 (((x.codes.length : Nat) : Int) - 1)) (.skip _ _ (.skip _ _ (.skip _ _ .nil))) rfl) rfl rfl ?_
    refine Ch.step (v := (.d (.bool (!(withinB a.dst 0 (((x.codes.length : Nat) : Int) - 1)))))) rfl (.pure (.not _ _ rfl rfl)) rfl rfl ?_
    refine Ch.step (v := (.d (.bool (!(withinB a.dst 0 (((x.codes.length : Nat) : Int) - 1)))))) rfl (.pure (.pickF _ _ _ rfl rfl rfl)) rfl rfl ?_
    refine Ch.step (v := (.d (.bool (!(withinB a.dst 0 (((x.codes.length : Nat) : Int) - 1)))))) rfl (.pure (.move _ rfl rfl)) rfl rfl ?_
    cases h2 : (withinB a.dst 0 (((x.codes.length : Nat) : Int) - 1)) with
    | true =>
      try have hw2 := within_two h2
      try have hl1 := hca a.src (by omega) (by omega)
      try have hl2 := hca a.dst (by omega) (by omega)
      try have hl3 := hl1.2
      try have hl4 := hl2.2
      try unfold codeAt at hl3 hl4
      refine Ch.step (v := (.ptr 3000 1)) rfl (.pure (.fldPtr _ _ _ rfl fld102_1 rfl)) rfl rfl ?_
      refine Ch.step (v := (.d (.int .i64 a.sig))) rfl (.pure (.loadPtr1 _ _ rfl ag3 rfl rfl rfl)) rfl rfl ?_
      refine Ch.step (v := (.ptr 3000 2)) rfl (.pure (.fldPtr _ _ _ rfl fld102_2 rfl)) rfl rfl ?_
      refine Ch.step (v := (.d (.bool (a.up)))) rfl (.pure (.loadPtr1 _ _ rfl ag4 rfl rfl rfl)) rfl rfl ?_
      refine Ch.step (v := (.agg [(.d (.int .i64 a.sig)), (.d (.bool (a.up)))])) rfl (.build _ _ rfl stru139 (.cons (.one _ rfl) (.cons (.one _ rfl) .nil)) rfl) rfl rfl ?_
      refine Ch.step (v := (.ptr 2000 0)) rfl (.pure (.fldPtr _ _ _ rfl fld52_0 rfl)) rfl rfl ?_
      refine Ch.step (v := (.d (.slice false 2 (x.sigs.map Sgn.d)))) rfl (.pure (.loadPtr1 _ _ rfl ag29 rfl rfl rfl)) rfl rfl ?_
      refine Ch.step (v := (.d (.int .i64 ((x.sigs.length : Nat) : Int)))) rfl (.pure (.len _ _ 97 rfl Try.underlying29 (.sh _ _) (by simp))) rfl rfl ?_
      refine Ch.step (v := (.d (.bool (edgeB (Lab.mk a.sig a.up) ((x.sigs.length : Nat) : Int))))) rfl (.call 34000 163 _ _ _ en163 rfl (.inl rfl) (.cons (.lend (.agg (.cons (.d _) (.cons (.d _) .nil)) rfl)) (.cons (.d _) .nil)) rfl rfl (sp_spec_l2Label (Lab.mk a.sig a.up) ((x.sigs.length : Nat) : Int) (by first | assumption | omega | (rw [List.length_take]; omega) | (have := bulkF_mem hb _ (getD_mem (d := default) (by omega)); assumption) | (unfold bulkS at *; omega) | (simp_all; done)) (by first | assumption | omega | (rw [List.length_take]; omega) | (have := bulkF_mem hb _ (getD_mem (d := default) (by omega)); assumption) | (unfold bulkS at *; omega) | (simp_all; done))) (.skip _ _ (.skip _ _ .nil)) rfl) rfl rfl ?_
      refine Ch.step (v := (.d (.bool (!(edgeB (Lab.mk a.sig a.up) ((x.sigs.length : Nat) : Int)))))) rfl (.pure (.not _ _ rfl rfl)) rfl rfl ?_
      refine Ch.step (v := (.d (.bool (!(edgeB (Lab.mk a.sig a.up) ((x.sigs.length : Nat) : Int)))))) rfl (.pure (.pickF _ _ _ rfl rfl rfl)) rfl rfl ?_
      refine Ch.nil ?_
      refine T_cond (b := (!(edgeB (Lab.mk a.sig a.up) ((x.sigs.length : Nat) : Int)))) rfl (fun h3 => ?_) (fun h3 => ?_)
      · replace h3 := nott h3
        refine T_seq ?_
        refine T_region hc ?_
        refine Ch.step (v := (.d (.bool false))) rfl (.pure (.assign _ rfl rfl)) rfl rfl ?_
        refine Ch.nil ?_
        refine T_ret ?_
        refine And.intro (.inr rfl) ?_
        exact Exists.intro [(.d (.bool false))] (Exists.intro [] (Exists.intro [] (And.intro (.cons (.tmp 4 rfl) .nil) (And.intro (.cons (.any _) (.cons (.any _) .nil)) (And.intro (Exp.of (congrArg D.bool (by first | (rw [arcB, h1]; rfl) | (rw [arcB, h1, h2]; rfl) | (rw [arcB, h1, h2, h3]; rfl) | (rw [arcB, h1, h2, h3, hf4]; rfl) | (rw [arcB, h1, h2, h3, hf5]; unfold codeAt setCh; simp only [*, decide_true, decide_false, Bool.true_and, Bool.false_and]; done) | (rw [arcB, h1, h2, h3, hf5]; unfold codeAt setCh; rw [decide_eq_true h5]; rfl) | (rw [arcB, h1, h2, h3, hf5]; unfold codeAt setCh; rw [decide_eq_false h5]; rfl))) (.d _)) (And.intro rfl rfl))))))
      · replace h3 := notf h3
        refine T_skip ?_
        refine T_seq ?_
        refine T_regionD hc (by kernel_rfl) ?_
        refine ChD.step (v := (.ptr 2000 1)) [] rfl (.pure (.fldPtr _ _ _ rfl fld52_1 rfl)) rfl rfl ?_
        refine ChD.step (v := (.d (.slice false 1 (x.codes.map D.str)))) [2000] rfl (.pure (.loadPtr1 _ _ rfl ag43 rfl rfl rfl)) rfl rfl ?_
        refine ChD.step (v := (.ptr 3000 0)) [] rfl (.pure (.fldPtr _ _ _ rfl fld102_0 rfl)) rfl rfl ?_
        refine ChD.step (v := (.d (.int .i64 a.src))) [3000] rfl (.pure (.loadPtr1 _ _ rfl ag3 rfl rfl rfl)) rfl rfl ?_
        refine ChD.step (v := (.d (.ref (.str (x.codes.getD ((a.src).toNat) default))))) [] rfl (.pure (.idx _ _ _ 9 ((a.src).toNat) rfl Try.underlying43 sz9 rfl rfl (by omega) (get_map _ (by first | omega | (simp only [List.length_map, List.length_append, List.length_take, List.length_drop, List.length_cons, List.length_nil]; omega) | (simp; omega) | (simp; done))))) rfl rfl ?_
        refine ChD.step (v := (.d (.str (x.codes.getD ((a.src).toNat) default)))) [] rfl (.pure (.loadRef1 _ _ rfl ag9 rfl rfl)) rfl rfl ?_
        refine ChD.step (v := (.ptr 2000 1)) [] rfl (.pure (.fldPtr _ _ _ rfl fld52_1 rfl)) rfl rfl ?_
        refine ChD.step (v := (.d (.slice false 1 (x.codes.map D.str)))) [2000] rfl (.pure (.loadPtr1 _ _ rfl ag43 rfl rfl rfl)) rfl rfl ?_
        refine ChD.step (v := (.ptr 3000 3)) [] rfl (.pure (.fldPtr _ _ _ rfl fld102_3 rfl)) rfl rfl ?_
        refine ChD.step (v := (.d (.int .i64 a.dst))) [3000] rfl (.pure (.loadPtr1 _ _ rfl ag3 rfl rfl rfl)) rfl rfl ?_
        refine ChD.step (v := (.d (.ref (.str (x.codes.getD ((a.dst).toNat) default))))) [] rfl (.pure (.idx _ _ _ 9 ((a.dst).toNat) rfl Try.underlying43 sz9 rfl rfl (by omega) (get_map _ (by first | omega | (simp only [List.length_map, List.length_append, List.length_take, List.length_drop, List.length_cons, List.length_nil]; omega) | (simp; omega) | (simp; done))))) rfl rfl ?_
        refine ChD.step (v := (.d (.str (x.codes.getD ((a.dst).toNat) default)))) [] rfl (.pure (.loadRef1 _ _ rfl ag9 rfl rfl)) rfl rfl ?_
        refine ChD.step (v := (.d (.str (x.codes.getD ((a.src).toNat) default)))) [] rfl (.pure (.assign _ rfl rfl)) rfl rfl ?_
        refine ChD.step (v := (.d (.str (x.codes.getD ((a.dst).toNat) default)))) [] rfl (.pure (.assign _ rfl rfl)) rfl rfl ?_
        refine ChD.nil (And.intro ?_ (by kernel_rfl))
        refine T_seq ?_
        refine T_seq ?_
        refine T_region hc ?_
        refine Ch.step (v := (.ptr 3000 1)) rfl (.pure (.fldPtr _ _ _ rfl fld102_1 rfl)) rfl rfl ?_
        refine Ch.step (v := (.d (.int .i64 a.sig))) rfl (.pure (.loadPtr1 _ _ rfl ag3 rfl rfl rfl)) rfl rfl ?_
        refine Ch.step (v := (.d (.bool (decide (a.sig < 0))))) rfl (.pure (.int _ _ _ _ _ rfl rfl rfl rfl)) rfl rfl ?_
        refine Ch.nil ?_
        refine T_cond (b := (decide (a.sig < 0))) rfl (fun h4 => ?_) (fun h4 => ?_)
        · replace h4 := of_decide_eq_true h4
          try have hf4 := fit_neg (a := a) (u := codeAt x a.src) (v := codeAt x a.dst) (by omega) (by omega)
          try have hf5 := fit_pos (a := a) hl1.1 hl2.1 (by omega) (by have := edge_lt h3; omega)
          try have hlt := edge_lt h3
          refine T_seq ?_
          refine T_region hc ?_
          refine Ch.step (v := (.d (.str (x.codes.getD ((a.src).toNat) default)))) rfl (.pure (.move _ rfl rfl)) rfl rfl ?_
          refine Ch.step (v := (.d (.str (x.codes.getD ((a.dst).toNat) default)))) rfl (.pure (.move _ rfl rfl)) rfl rfl ?_
          refine Ch.step (v := (.d (.bool (decide ((x.codes.getD ((a.src).toNat) default) = (x.codes.getD ((a.dst).toNat) default)))))) rfl (.pure (.str _ _ _ _ _ rfl rfl rfl rfl)) rfl rfl ?_
          refine Ch.step (v := (.d (.bool (decide ((x.codes.getD ((a.src).toNat) default) = (x.codes.getD ((a.dst).toNat) default)))))) rfl (.pure (.assign _ rfl rfl)) rfl rfl ?_
          refine Ch.nil ?_
          refine T_ret ?_
          refine And.intro (.inr rfl) ?_
          exact Exists.intro [(.d (.bool (decide ((x.codes.getD ((a.src).toNat) default) = (x.codes.getD ((a.dst).toNat) default)))))] (Exists.intro [] (Exists.intro [] (And.intro (.cons (.tmp 4 rfl) .nil) (And.intro (.cons (.any _) (.cons (.any _) .nil)) (And.intro (Exp.of (congrArg D.bool (by first | (rw [arcB, h1]; rfl) | (rw [arcB, h1, h2]; rfl) | (rw [arcB, h1, h2, h3]; rfl) | (rw [arcB, h1, h2, h3, hf4]; rfl) | (rw [arcB, h1, h2, h3, hf5]; unfold codeAt setCh; simp only [*, decide_true, decide_false, Bool.true_and, Bool.false_and]; done) | (rw [arcB, h1, h2, h3, hf5]; unfold codeAt setCh; rw [decide_eq_true h5]; rfl) | (rw [arcB, h1, h2, h3, hf5]; unfold codeAt setCh; rw [decide_eq_false h5]; rfl))) (.d _)) (And.intro rfl rfl))))))
        · replace h4 := of_decide_eq_false h4
          try have hf4 := fit_neg (a := a) (u := codeAt x a.src) (v := codeAt x a.dst) (by omega) (by omega)
          try have hf5 := fit_pos (a := a) hl1.1 hl2.1 (by omega) (by have := edge_lt h3; omega)
          try have hlt := edge_lt h3
          refine T_skip ?_
          refine T_seq ?_
          refine T_regionD hc (by kernel_rfl) ?_
          refine ChD.step (v := (.d (.str (x.codes.getD ((a.src).toNat) default)))) [] rfl (.pure (.move _ rfl rfl)) rfl rfl ?_
          refine ChD.step (v := (.d (.str (x.codes.getD ((a.dst).toNat) default)))) [] rfl (.pure (.move _ rfl rfl)) rfl rfl ?_
          refine ChD.step (v := (.ptr 3000 1)) [] rfl (.pure (.fldPtr _ _ _ rfl fld102_1 rfl)) rfl rfl ?_
          refine ChD.step (v := (.d (.int .i64 a.sig))) [3000] rfl (.pure (.loadPtr1 _ _ rfl ag3 rfl rfl rfl)) rfl rfl ?_
          refine ChD.step (v := (.ptr 3000 2)) [] rfl (.pure (.fldPtr _ _ _ rfl fld102_2 rfl)) rfl rfl ?_
          refine ChD.step (v := (.d (.bool (a.up)))) [3000] rfl (.pure (.loadPtr1 _ _ rfl ag4 rfl rfl rfl)) rfl rfl ?_
          refine ChD.step (v := (.d (.bool (!(a.up))))) [] rfl (.pure (.not _ _ rfl rfl)) rfl rfl ?_
          refine ChD.step (v := (.d (.str ([bitN (!(a.up))])))) [] rfl (.call 62000 165 _ _ _ en165 rfl (.inl rfl) (.cons (.d _) .nil) rfl rfl (sp_spec_l5Bit (!(a.up))) (.skip _ _ .nil) rfl) rfl rfl ?_
          refine ChD.step (v := (.d (.str ((x.codes.getD ((a.dst).toNat) default).take a.sig.toNat ++ ([bitN (!(a.up))]) ++ (x.codes.getD ((a.dst).toNat) default).drop (a.sig + 1).toNat)))) [] rfl (.call 63000 164 _ _ _ en164 rfl (.inl rfl) (.cons (.d _) (.cons (.d _) (.cons (.d _) .nil))) rfl rfl (sp_spec_l5Set (x.codes.getD ((a.dst).toNat) default) a.sig ([bitN (!(a.up))]) (by first | omega | assumption | (exact hx _ (getD_mem (by omega))) | (exact hx _ (by assumption)) | (exact Nat.le_trans (hx _ (by assumption)) (by omega)) | (simp only [List.length_append, List.length_take, List.length_drop, List.length_cons, List.length_nil]; omega) | (simp_all; done)) (by first | omega | (simp; done) | assumption) (by first | omega | assumption | (exact hx _ (getD_mem (by omega))) | (exact hx _ (by assumption)) | (exact Nat.le_trans (hx _ (by assumption)) (by omega)) | (simp only [List.length_append, List.length_take, List.length_drop, List.length_cons, List.length_nil]; omega) | (simp_all; done)) (by first | omega | assumption | (exact hx _ (getD_mem (by omega))) | (exact hx _ (by assumption)) | (exact Nat.le_trans (hx _ (by assumption)) (by omega)) | (simp only [List.length_append, List.length_take, List.length_drop, List.length_cons, List.length_nil]; omega) | (simp_all; done))) (.skip _ _ (.skip _ _ (.skip _ _ .nil))) rfl) rfl rfl ?_
          refine ChD.step (v := (.d (.bool (decide ((x.codes.getD ((a.src).toNat) default) = ((x.codes.getD ((a.dst).toNat) default).take a.sig.toNat ++ ([bitN (!(a.up))]) ++ (x.codes.getD ((a.dst).toNat) default).drop (a.sig + 1).toNat)))))) [] rfl (.pure (.str _ _ _ _ _ rfl rfl rfl rfl)) rfl rfl ?_
          refine ChD.step (v := (.d (.bool (decide ((x.codes.getD ((a.src).toNat) default) = ((x.codes.getD ((a.dst).toNat) default).take a.sig.toNat ++ ([bitN (!(a.up))]) ++ (x.codes.getD ((a.dst).toNat) default).drop (a.sig + 1).toNat)))))) [] rfl (.pure (.move _ rfl rfl)) rfl rfl ?_
          cases h5 : (decide ((x.codes.getD ((a.src).toNat) default) = ((x.codes.getD ((a.dst).toNat) default).take a.sig.toNat ++ ([bitN (!(a.up))]) ++ (x.codes.getD ((a.dst).toNat) default).drop (a.sig + 1).toNat))) with
          | true =>
            replace h5 := of_decide_eq_true h5
            refine ChD.step (v := (.d (.str (x.codes.getD ((a.dst).toNat) default)))) [] rfl (.pure (.move _ rfl rfl)) rfl rfl ?_
            refine ChD.step (v := (.d (.str (x.codes.getD ((a.src).toNat) default)))) [] rfl (.pure (.move _ rfl rfl)) rfl rfl ?_
            refine ChD.step (v := (.ptr 3000 1)) [] rfl (.pure (.fldPtr _ _ _ rfl fld102_1 rfl)) rfl rfl ?_
            refine ChD.step (v := (.d (.int .i64 a.sig))) [3000] rfl (.pure (.loadPtr1 _ _ rfl ag3 rfl rfl rfl)) rfl rfl ?_
            refine ChD.step (v := (.ptr 3000 2)) [] rfl (.pure (.fldPtr _ _ _ rfl fld102_2 rfl)) rfl rfl ?_
            refine ChD.step (v := (.d (.bool (a.up)))) [3000] rfl (.pure (.loadPtr1 _ _ rfl ag4 rfl rfl rfl)) rfl rfl ?_
            refine ChD.step (v := (.d (.str ([bitN (a.up)])))) [] rfl (.call 72000 165 _ _ _ en165 rfl (.inl rfl) (.cons (.d _) .nil) rfl rfl (sp_spec_l5Bit (a.up)) (.skip _ _ .nil) rfl) rfl rfl ?_
            refine ChD.step (v := (.d (.str ((x.codes.getD ((a.src).toNat) default).take a.sig.toNat ++ ([bitN (a.up)]) ++ (x.codes.getD ((a.src).toNat) default).drop (a.sig + 1).toNat)))) [] rfl (.call 73000 164 _ _ _ en164 rfl (.inl rfl) (.cons (.d _) (.cons (.d _) (.cons (.d _) .nil))) rfl rfl (sp_spec_l5Set (x.codes.getD ((a.src).toNat) default) a.sig ([bitN (a.up)]) (by first | omega | assumption | (exact hx _ (getD_mem (by omega))) | (exact hx _ (by assumption)) | (exact Nat.le_trans (hx _ (by assumption)) (by omega)) | (simp only [List.length_append, List.length_take, List.length_drop, List.length_cons, List.length_nil]; omega) | (simp_all; done)) (by first | omega | (simp; done) | assumption) (by first | omega | assumption | (exact hx _ (getD_mem (by omega))) | (exact hx _ (by assumption)) | (exact Nat.le_trans (hx _ (by assumption)) (by omega)) | (simp only [List.length_append, List.length_take, List.length_drop, List.length_cons, List.length_nil]; omega) | (simp_all; done)) (by first | omega | assumption | (exact hx _ (getD_mem (by omega))) | (exact hx _ (by assumption)) | (exact Nat.le_trans (hx _ (by assumption)) (by omega)) | (simp only [List.length_append, List.length_take, List.length_drop, List.length_cons, List.length_nil]; omega) | (simp_all; done))) (.skip _ _ (.skip _ _ (.skip _ _ .nil))) rfl) rfl rfl ?_
            refine ChD.step (v := (.d (.bool (decide ((x.codes.getD ((a.dst).toNat) default) = ((x.codes.getD ((a.src).toNat) default).take a.sig.toNat ++ ([bitN (a.up)]) ++ (x.codes.getD ((a.src).toNat) default).drop (a.sig + 1).toNat)))))) [] rfl (.pure (.str _ _ _ _ _ rfl rfl rfl rfl)) rfl rfl ?_
            refine ChD.step (v := (.d (.bool (decide ((x.codes.getD ((a.dst).toNat) default) = ((x.codes.getD ((a.src).toNat) default).take a.sig.toNat ++ ([bitN (a.up)]) ++ (x.codes.getD ((a.src).toNat) default).drop (a.sig + 1).toNat)))))) [] rfl (.pure (.pickT _ _ _ rfl rfl rfl)) rfl rfl ?_
            refine ChD.step (v := (.d (.bool (decide ((x.codes.getD ((a.dst).toNat) default) = ((x.codes.getD ((a.src).toNat) default).take a.sig.toNat ++ ([bitN (a.up)]) ++ (x.codes.getD ((a.src).toNat) default).drop (a.sig + 1).toNat)))))) [] rfl (.pure (.assign _ rfl rfl)) rfl rfl ?_
            refine ChD.nil (And.intro ?_ (by kernel_rfl))
            refine T_ret ?_
            refine And.intro (.inr rfl) ?_
            exact Exists.intro [(.d (.bool (decide ((x.codes.getD ((a.dst).toNat) default) = ((x.codes.getD ((a.src).toNat) default).take a.sig.toNat ++ ([bitN (a.up)]) ++ (x.codes.getD ((a.src).toNat) default).drop (a.sig + 1).toNat)))))] (Exists.intro [] (Exists.intro [] (And.intro (.cons (.tmp 4 rfl) .nil) (And.intro (.cons (.any _) (.cons (.any _) .nil)) (And.intro (Exp.of (congrArg D.bool (by first | (rw [arcB, h1]; rfl) | (rw [arcB, h1, h2]; rfl) | (rw [arcB, h1, h2, h3]; rfl) | (rw [arcB, h1, h2, h3, hf4]; rfl) | (rw [arcB, h1, h2, h3, hf5]; unfold codeAt setCh; simp only [*, decide_true, decide_false, Bool.true_and, Bool.false_and]; done) | (rw [arcB, h1, h2, h3, hf5]; unfold codeAt setCh; rw [decide_eq_true h5]; rfl) | (rw [arcB, h1, h2, h3, hf5]; unfold codeAt setCh; rw [decide_eq_false h5]; rfl))) (.d _)) (And.intro rfl rfl))))))
          | false =>
            replace h5 := of_decide_eq_false h5
            refine ChD.skip rfl rfl ?_
            refine ChD.skip rfl rfl ?_
            refine ChD.skip rfl rfl ?_
            refine ChD.skip rfl rfl ?_
            refine ChD.skip rfl rfl ?_
            refine ChD.skip rfl rfl ?_
            refine ChD.skip rfl rfl ?_
            refine ChD.skip rfl rfl ?_
            refine ChD.skip rfl rfl ?_
            refine ChD.step (v := (.d (.bool false))) [] rfl (.pure (.pickF _ _ _ rfl rfl rfl)) rfl rfl ?_
            refine ChD.step (v := (.d (.bool false))) [] rfl (.pure (.assign _ rfl rfl)) rfl rfl ?_
            refine ChD.nil (And.intro ?_ (by kernel_rfl))
            refine T_ret ?_
            refine And.intro (.inr rfl) ?_
            exact Exists.intro [(.d (.bool false))] (Exists.intro [] (Exists.intro [] (And.intro (.cons (.tmp 4 rfl) .nil) (And.intro (.cons (.any _) (.cons (.any _) .nil)) (And.intro (Exp.of (congrArg D.bool (by first | (rw [arcB, h1]; rfl) | (rw [arcB, h1, h2]; rfl) | (rw [arcB, h1, h2, h3]; rfl) | (rw [arcB, h1, h2, h3, hf4]; rfl) | (rw [arcB, h1, h2, h3, hf5]; unfold codeAt setCh; simp only [*, decide_true, decide_false, Bool.true_and, Bool.false_and]; done) | (rw [arcB, h1, h2, h3, hf5]; unfold codeAt setCh; rw [decide_eq_true h5]; rfl) | (rw [arcB, h1, h2, h3, hf5]; unfold codeAt setCh; rw [decide_eq_false h5]; rfl))) (.d _)) (And.intro rfl rfl))))))
    | false =>
      try have hw2 := within_two h2
      try have hl1 := hca a.src (by omega) (by omega)
      try have hl2 := hca a.dst (by omega) (by omega)
      try have hl3 := hl1.2
      try have hl4 := hl2.2
      try unfold codeAt at hl3 hl4
      refine Ch.skip rfl rfl ?_
      refine Ch.skip rfl rfl ?_
      refine Ch.skip rfl rfl ?_
      refine Ch.skip rfl rfl ?_
      refine Ch.skip rfl rfl ?_
      refine Ch.skip rfl rfl ?_
      refine Ch.skip rfl rfl ?_
      refine Ch.skip rfl rfl ?_
      refine Ch.skip rfl rfl ?_
      refine Ch.skip rfl rfl ?_
      refine Ch.step (v := (.d (.bool true))) rfl (.pure (.pickT _ _ _ rfl rfl rfl)) rfl rfl ?_
      refine Ch.nil ?_
      refine T_cond (b := true) rfl (fun _ => ?_) (fun h => nomatch h)
      refine T_seq ?_
      refine T_region hc ?_
      refine Ch.step (v := (.d (.bool false))) rfl (.pure (.assign _ rfl rfl)) rfl rfl ?_
      refine Ch.nil ?_
      refine T_ret ?_
      refine And.intro (.inr rfl) ?_
      exact Exists.intro [(.d (.bool false))] (Exists.intro [] (Exists.intro [] (And.intro (.cons (.tmp 4 rfl) .nil) (And.intro (.cons (.any _) (.cons (.any _) .nil)) (And.intro (Exp.of (congrArg D.bool (by first | (rw [arcB, h1]; rfl) | (rw [arcB, h1, h2]; rfl) | (rw [arcB, h1, h2, h3]; rfl) | (rw [arcB, h1, h2, h3, hf4]; rfl) | (rw [arcB, h1, h2, h3, hf5]; unfold codeAt setCh; simp only [*, decide_true, decide_false, Bool.true_and, Bool.false_and]; done) | (rw [arcB, h1, h2, h3, hf5]; unfold codeAt setCh; rw [decide_eq_true h5]; rfl) | (rw [arcB, h1, h2, h3, hf5]; unfold codeAt setCh; rw [decide_eq_false h5]; rfl))) (.d _)) (And.intro rfl rfl))))))
  | false =>
    try have hw1 := within_two h1
    refine Ch.skip rfl rfl ?_
    refine Ch.skip rfl rfl ?_
    refine Ch.skip rfl rfl ?_
    refine Ch.skip rfl rfl ?_
    refine Ch.skip rfl rfl ?_
    refine Ch.skip rfl rfl ?_
    refine Ch.skip rfl rfl ?_
    refine Ch.skip rfl rfl ?_
    refine Ch.step (v := (.d (.bool true))) rfl (.pure (.pickT _ _ _ rfl rfl rfl)) rfl rfl ?_
    refine Ch.step (v := (.d (.bool true))) rfl (.pure (.move _ rfl rfl)) rfl rfl ?_
    refine Ch.skip rfl rfl ?_
    refine Ch.skip rfl rfl ?_
    refine Ch.skip rfl rfl ?_
    refine Ch.skip rfl rfl ?_
    refine Ch.skip rfl rfl ?_
    refine Ch.skip rfl rfl ?_
    refine Ch.skip rfl rfl ?_
    refine Ch.skip rfl rfl ?_
    refine Ch.skip rfl rfl ?_
    refine Ch.skip rfl rfl ?_
    refine Ch.step (v := (.d (.bool true))) rfl (.pure (.pickT _ _ _ rfl rfl rfl)) rfl rfl ?_
    refine Ch.nil ?_
    refine T_cond (b := true) rfl (fun _ => ?_) (fun h => nomatch h)
    refine T_seq ?_
    refine T_region hc ?_
    refine Ch.step (v := (.d (.bool false))) rfl (.pure (.assign _ rfl rfl)) rfl rfl ?_
    refine Ch.nil ?_
    refine T_ret ?_
    refine And.intro (.inr rfl) ?_
    exact Exists.intro [(.d (.bool false))] (Exists.intro [] (Exists.intro [] (And.intro (.cons (.tmp 4 rfl) .nil) (And.intro (.cons (.any _) (.cons (.any _) .nil)) (And.intro (Exp.of (congrArg D.bool (by first | (rw [arcB, h1]; rfl) | (rw [arcB, h1, h2]; rfl) | (rw [arcB, h1, h2, h3]; rfl) | (rw [arcB, h1, h2, h3, hf4]; rfl) | (rw [arcB, h1, h2, h3, hf5]; unfold codeAt setCh; simp only [*, decide_true, decide_false, Bool.true_and, Bool.false_and]; done) | (rw [arcB, h1, h2, h3, hf5]; unfold codeAt setCh; rw [decide_eq_true h5]; rfl) | (rw [arcB, h1, h2, h3, hf5]; unfold codeAt setCh; rw [decide_eq_false h5]; rfl))) (.d _)) (And.intro rfl rfl))))))

set_option maxHeartbeats 2000000 in
theorem sp_spec_l5All (x : Sgr) (hb : x.bulk ≤ 1048576) (hn : 1 ≤ x.codes.length) (hen : ends x.codes.length x.arcs) : Sp Try.prog 129 [(.agg [(.slice false 2 (x.sigs.map Sgn.d)), (.slice false 1 (x.codes.map D.str)), (.slice false 4 (x.arcs.map Arc.d))])] [.any] (.bool (!hasI (distF x.codes.length (stepsOf x.arcs) 0) (-1))) := by
  refine Sp_intro (lend := true) Try.func129 rfl rfl rfl (fun _ => rfl) (fun c hc hX => ?_)
  obtain ⟨hp0, hp1, hp2⟩ := Sgr.parts hb
  have hn0 := bulkF_len hp0
  have hn1 := bulk_len hp1
  have hx1 := bulk_mem hp1
  have hn2 := bulkF_len hp2
  refine T_seq ?_
  refine T_region hc ?_
  refine Ch.step (v := (.ptr 1000 0)) rfl (.box 1000 _ _ rfl (.aggD _)) rfl rfl ?_
  refine Ch.step (v := (.d (.bool false))) rfl (.pure (.assign _ rfl rfl)) rfl rfl ?_
  refine Ch.nil ?_
  refine T_seq ?_
  refine T_region hc ?_
  refine Ch.step (v := (.ptr 1000 1)) rfl (.pure (.fldPtr _ _ _ rfl fld52_1 rfl)) rfl rfl ?_
  refine Ch.step (v := (.d (.slice false 1 (x.codes.map D.str)))) rfl (.pure (.loadPtr1 _ _ rfl ag43 rfl rfl rfl)) rfl rfl ?_
  refine Ch.step (v := (.d (.int .i64 ((x.codes.length : Nat) : Int)))) rfl (.pure (.len _ _ 9 rfl Try.underlying43 (.sh _ _) (by simp))) rfl rfl ?_
  refine Ch.step (v := (.row 11000)) rfl (.make 11000 _ 4 _ _ (x.codes.length) (x.codes.length) rfl sty147 rfl rfl rfl rfl (by first | omega | (simp only [List.length_map, List.length_append, List.length_take, List.length_drop, List.length_cons, List.length_nil]; omega) | (simp; omega) | (simp; done)) (by first | omega | (simp only [List.length_map, List.length_append, List.length_take, List.length_drop, List.length_cons, List.length_nil]; omega) | (simp; omega) | (simp; done)) (by first | omega | (simp only [List.length_map, List.length_append, List.length_take, List.length_drop, List.length_cons, List.length_nil]; omega) | (simp; omega) | (simp; done)) (zeroD_mk (zd := (.bool false)) zr4 (by intro S w; rw [DR]; exact ⟨rfl, rfl⟩) rfl)) rfl rfl ?_
  refine Ch.step (v := (.row 11000)) rfl (.pure (.assign _ rfl rfl)) rfl rfl ?_
  refine Ch.nil ?_
  refine T_seq ?_
  refine T_region hc ?_
  refine Ch.step (v := (.row 11000)) rfl (.pure (.move _ rfl rfl)) rfl rfl ?_
  refine Ch.step (v := (.el 11000 1 0 0)) rfl (.pure (.idxRow _ _ _ 4 (0) rfl Try.underlying147 sz4 rfl rfl rfl rfl (by first | omega | (simp only [List.length_map, List.length_set]; omega) | (simp; omega)))) rfl rfl ?_
  refine Ch.step (v := .junk) rfl (.storeEl (y' := (.bool true)) _ _ _ rfl rfl rfl (.d _) rfl sz4 rfl (by rw [List.getElem?_replicate, if_pos (by omega)]) rfl rfl) rfl rfl ?_
  refine Ch.nil ?_
  refine T_seq ?_
  refine T_seq ?_
  refine T_region hc ?_
  refine Ch.step (v := (.ptr 1000 1)) rfl (.pure (.fldPtr _ _ _ rfl fld52_1 rfl)) rfl rfl ?_
  refine Ch.step (v := (.d (.slice false 1 (x.codes.map D.str)))) rfl (.pure (.loadPtr1 _ _ rfl ag43 rfl rfl rfl)) rfl rfl ?_
  refine Ch.step (v := (.d (.int .i64 ((x.codes.length : Nat) : Int)))) rfl (.pure (.len _ _ 9 rfl Try.underlying43 (.sh _ _) (by simp))) rfl rfl ?_
  refine Ch.step (v := (.d (.int .i64 0))) rfl (.pure (.move _ rfl rfl)) rfl rfl ?_
  refine Ch.nil ?_
  refine T_block ?_
  refine T_loop (ι := Nat) (fun k => { n := 46, sl := [(1, (.ptr 1000 0)), (3, (.row 3)), (16, (.d (.int .i64 ((x.codes.length : Nat) : Int)))), (17, (.d (.int .i64 ((k : Nat) : Int))))], hp := [(3, (some (.row 1 ((metIt x k).map D.bool)))), (1000, (some (.box [(.d (.slice false 2 (x.sigs.map Sgn.d))), (.d (.slice false 1 (x.codes.map D.str))), (.d (.slice false 4 (x.arcs.map Arc.d)))])))], pin := [] }) (fun k => k ≤ x.codes.length) (fun k => x.codes.length - k) ⟨0, (by omega), (Wk.ren [(3, 11000)] rfl rfl rfl rfl (And.intro rfl (And.intro rfl (And.intro rfl (And.intro (vI (by first | rfl | omega | (simp; done) | (simp; omega))) trivial)))) (And.intro (oR (by first | (exact metIt_start x) | (rw [metTo_all x k (by omega)]; done))) (And.intro rfl trivial)))⟩ (fun k hp0 => ?_)
  have hml := metIt_len x k
  refine T_seq ?_
  refine T_region hc ?_
  refine Ch.step (v := (.d (.bool (decide (((k : Nat) : Int) < ((x.codes.length : Nat) : Int)))))) rfl (.pure (.int _ _ _ _ _ rfl rfl rfl rfl)) rfl rfl ?_
  refine Ch.nil ?_
  refine T_seq ?_
  refine T_cond (b := (decide (((k : Nat) : Int) < ((x.codes.length : Nat) : Int)))) rfl (fun h1 => ?_) (fun h1 => ?_)
  · replace h1 := of_decide_eq_true h1
    refine T_skip ?_
    refine T_seq ?_
    refine T_block ?_
    refine T_seq ?_
    refine T_region hc ?_
    refine Ch.step (v := (.ptr 1000 2)) rfl (.pure (.fldPtr _ _ _ rfl fld52_2 rfl)) rfl rfl ?_
    refine Ch.step (v := (.d (.slice false 4 (x.arcs.map Arc.d)))) rfl (.pure (.loadPtr1 _ _ rfl ag50 rfl rfl rfl)) rfl rfl ?_
    refine Ch.step (v := (.d (.int .i64 ((x.arcs.length : Nat) : Int)))) rfl (.pure (.len _ _ 102 rfl Try.underlying50 (.sh _ _) (by simp))) rfl rfl ?_
    refine Ch.step (v := (.d (.int .i64 0))) rfl (.pure (.move _ rfl rfl)) rfl rfl ?_
    refine Ch.nil ?_
    refine T_block ?_
    refine T_loop (ι := Nat) (fun m => { n := 46, sl := [(1, (.ptr 1000 0)), (3, (.row 3)), (16, (.d (.int .i64 ((x.codes.length : Nat) : Int)))), (17, (.d (.int .i64 ((k : Nat) : Int)))), (20, (.d (.slice false 4 (x.arcs.map Arc.d)))), (21, (.d (.int .i64 ((x.arcs.length : Nat) : Int)))), (22, (.d (.int .i64 ((m : Nat) : Int))))], hp := [(3, (some (.row 1 ((metTo x k m).map D.bool)))), (1000, (some (.box [(.d (.slice false 2 (x.sigs.map Sgn.d))), (.d (.slice false 1 (x.codes.map D.str))), (.d (.slice false 4 (x.arcs.map Arc.d)))])))], pin := [] }) (fun m => m ≤ x.arcs.length) (fun m => x.arcs.length - m) ⟨0, (by omega), (Wk.of rfl rfl (And.intro rfl (And.intro rfl (And.intro rfl (And.intro rfl (And.intro rfl (And.intro rfl (And.intro (vI (by first | rfl | omega | (simp; done) | (simp; omega))) trivial))))))) (And.intro (oR (by first | rfl | (exact metTo_yes (by omega) (by assumption)) | (exact congrArg (List.map _) (metTo_no (by omega) (by assumption))))) (And.intro rfl trivial)))⟩ (fun m hp1 => ?_)
    have hmt := metTo_len x k m
    refine T_seq ?_
    refine T_region hc ?_
    refine Ch.step (v := (.d (.bool (decide (((m : Nat) : Int) < ((x.arcs.length : Nat) : Int)))))) rfl (.pure (.int _ _ _ _ _ rfl rfl rfl rfl)) rfl rfl ?_
    refine Ch.nil ?_
    refine T_seq ?_
    refine T_cond (b := (decide (((m : Nat) : Int) < ((x.arcs.length : Nat) : Int)))) rfl (fun h2 => ?_) (fun h2 => ?_)
    · replace h2 := of_decide_eq_true h2
      try have hee := hen _ (getD_mem (l := x.arcs) (j := m) (d := default) (by omega))
      refine T_skip ?_
      refine T_seq ?_
      refine T_block ?_
      refine T_seq ?_
      refine T_region hc ?_
      refine Ch.step (v := (.d (.ref (.agg [(.int .i64 ((x.arcs.getD m default).src)), (.int .i64 ((x.arcs.getD m default).sig)), (.bool ((x.arcs.getD m default).up)), (.int .i64 ((x.arcs.getD m default).dst))])))) rfl (.pure (.idx _ _ _ 102 (m) rfl Try.underlying50 sz102 rfl rfl rfl (get_map _ (by first | omega | (simp only [List.length_map, List.length_append, List.length_take, List.length_drop, List.length_cons, List.length_nil]; omega) | (simp; omega) | (simp; done))))) rfl rfl ?_
      refine Ch.step (v := (.d (.agg [(.int .i64 ((x.arcs.getD m default).src)), (.int .i64 ((x.arcs.getD m default).sig)), (.bool ((x.arcs.getD m default).up)), (.int .i64 ((x.arcs.getD m default).dst))]))) rfl (.pure (.loadRefA _ _ rfl ag102 sz102 rfl)) rfl rfl ?_
      refine Ch.step (v := (.ptr 5000 0)) rfl (.alloc 5000 _ rfl zer102) rfl rfl ?_
      refine Ch.step (v := .junk) rfl (.storePtr _ _ _ rfl rfl rfl (.aggD _) sz102 (Nat.le_of_ble_eq_true rfl)) rfl rfl ?_
      refine Ch.nil ?_
      refine T_seq ?_
      refine T_region hc ?_
      refine Ch.step (v := (.row 3)) rfl (.pure (.move _ rfl rfl)) rfl rfl ?_
      refine Ch.step (v := (.ptr 5000 0)) rfl (.pure (.fldPtr _ _ _ rfl fld102_0 rfl)) rfl rfl ?_
      refine Ch.step (v := (.d (.int .i64 ((x.arcs.getD m default).src)))) rfl (.pure (.loadPtr1 _ _ rfl ag3 rfl rfl rfl)) rfl rfl ?_
      refine Ch.step (v := (.el 3 1 ((((x.arcs.getD m default).src)).toNat) 0)) rfl (.pure (.idxRow _ _ _ 4 ((((x.arcs.getD m default).src)).toNat) rfl Try.underlying147 sz4 rfl rfl rfl (by omega) (by first | omega | (simp only [List.length_map, List.length_set]; omega) | (simp; omega)))) rfl rfl ?_
      refine Ch.step (v := (.d (.bool (((metTo x k m).getD ((((x.arcs.getD m default).src)).toNat) default))))) rfl (.pure (.loadEl1 _ _ rfl ag4 rfl rfl (get_map _ (by first | omega | (simp only [List.length_map, List.length_append, List.length_take, List.length_drop, List.length_cons, List.length_nil]; omega) | (simp; omega) | (simp; done))) rfl rfl rfl)) rfl rfl ?_
      refine Ch.nil ?_
      refine T_cond (b := (((metTo x k m).getD ((((x.arcs.getD m default).src)).toNat) default))) rfl (fun h3 => ?_) (fun h3 => ?_)
      · refine T_region hc ?_
        refine Ch.step (v := (.row 3)) rfl (.pure (.move _ rfl rfl)) rfl rfl ?_
        refine Ch.step (v := (.ptr 5000 3)) rfl (.pure (.fldPtr _ _ _ rfl fld102_3 rfl)) rfl rfl ?_
        refine Ch.step (v := (.d (.int .i64 ((x.arcs.getD m default).dst)))) rfl (.pure (.loadPtr1 _ _ rfl ag3 rfl rfl rfl)) rfl rfl ?_
        refine Ch.step (v := (.el 3 1 ((((x.arcs.getD m default).dst)).toNat) 0)) rfl (.pure (.idxRow _ _ _ 4 ((((x.arcs.getD m default).dst)).toNat) rfl Try.underlying147 sz4 rfl rfl rfl (by omega) (by first | omega | (simp only [List.length_map, List.length_set]; omega) | (simp; omega)))) rfl rfl ?_
        refine Ch.step (v := .junk) rfl (.storeEl (y' := (.bool true)) _ _ _ rfl rfl rfl (.d _) rfl sz4 rfl (get_map _ (by first | omega | (simp only [List.length_map, List.length_append, List.length_take, List.length_drop, List.length_cons, List.length_nil]; omega) | (simp; omega) | (simp; done))) rfl rfl) rfl rfl ?_
        refine Ch.nil ?_
        refine T_region hc ?_
        refine Ch.step (v := (.d (.int .i64 (((m : Nat) : Int) + 1)))) rfl (.pure (.int _ _ _ _ _ rfl rfl rfl (intV_add (by first | omega | (simp only [List.length_map, List.length_append, List.length_take, List.length_drop, List.length_cons, List.length_nil]; omega) | (simp; omega) | (simp; done)) (by first | omega | (simp only [List.length_map, List.length_append, List.length_take, List.length_drop, List.length_cons, List.length_nil]; omega) | (simp; omega) | (simp; done))))) rfl rfl ?_
        refine Ch.step (v := (.d (.int .i64 (((m : Nat) : Int) + 1)))) rfl (.pure (.move _ rfl rfl)) rfl rfl ?_
        refine Ch.nil ?_
        refine Exists.intro (m + 1) (And.intro (by omega) (And.intro (by first | omega | (dsimp only; omega)) (Wk.of rfl rfl (And.intro rfl (And.intro rfl (And.intro rfl (And.intro rfl (And.intro rfl (And.intro rfl (And.intro (vI (by first | rfl | omega | (simp; done) | (simp; omega))) trivial))))))) (And.intro (oR (by first | rfl | (exact metTo_yes (by omega) (by assumption)) | (exact congrArg (List.map _) (metTo_no (by omega) (by assumption))))) (And.intro rfl trivial)))))
      · refine T_skip ?_
        refine T_region hc ?_
        refine Ch.step (v := (.d (.int .i64 (((m : Nat) : Int) + 1)))) rfl (.pure (.int _ _ _ _ _ rfl rfl rfl (intV_add (by first | omega | (simp only [List.length_map, List.length_append, List.length_take, List.length_drop, List.length_cons, List.length_nil]; omega) | (simp; omega) | (simp; done)) (by first | omega | (simp only [List.length_map, List.length_append, List.length_take, List.length_drop, List.length_cons, List.length_nil]; omega) | (simp; omega) | (simp; done))))) rfl rfl ?_
        refine Ch.step (v := (.d (.int .i64 (((m : Nat) : Int) + 1)))) rfl (.pure (.move _ rfl rfl)) rfl rfl ?_
        refine Ch.nil ?_
        refine Exists.intro (m + 1) (And.intro (by omega) (And.intro (by first | omega | (dsimp only; omega)) (Wk.of rfl rfl (And.intro rfl (And.intro rfl (And.intro rfl (And.intro rfl (And.intro rfl (And.intro rfl (And.intro (vI (by first | rfl | omega | (simp; done) | (simp; omega))) trivial))))))) (And.intro (oR (by first | rfl | (exact metTo_yes (by omega) (by assumption)) | (exact congrArg (List.map _) (metTo_no (by omega) (by assumption))))) (And.intro rfl trivial)))))
    · replace h2 := of_decide_eq_false h2
      try have hee := hen _ (getD_mem (l := x.arcs) (j := m) (d := default) (by omega))
      refine T_exit ?_
      refine T_region hc ?_
      refine Ch.step (v := (.d (.int .i64 (((k : Nat) : Int) + 1)))) rfl (.pure (.int _ _ _ _ _ rfl rfl rfl (intV_add (by first | omega | (simp only [List.length_map, List.length_append, List.length_take, List.length_drop, List.length_cons, List.length_nil]; omega) | (simp; omega) | (simp; done)) (by first | omega | (simp only [List.length_map, List.length_append, List.length_take, List.length_drop, List.length_cons, List.length_nil]; omega) | (simp; omega) | (simp; done))))) rfl rfl ?_
      refine Ch.step (v := (.d (.int .i64 (((k : Nat) : Int) + 1)))) rfl (.pure (.move _ rfl rfl)) rfl rfl ?_
      refine Ch.nil ?_
      refine Exists.intro (k + 1) (And.intro (by omega) (And.intro (by first | omega | (dsimp only; omega)) (Wk.of rfl rfl (And.intro rfl (And.intro rfl (And.intro rfl (And.intro (vI (by first | rfl | omega | (simp; done) | (simp; omega))) trivial)))) (And.intro (oR (by first | (exact metIt_start x) | (rw [metTo_all x k (by omega)]; done))) (And.intro rfl trivial)))))
  · replace h1 := of_decide_eq_false h1
    refine T_exit ?_
    refine T_seq ?_
    refine T_seq ?_
    refine T_region hc ?_
    refine Ch.step (v := (.row 3)) rfl (.pure (.move _ rfl rfl)) rfl rfl ?_
    refine Ch.step (v := (.d (.int .i64 (((metIt x k).length : Nat) : Int)))) rfl (.pure (.len _ _ 4 rfl Try.underlying147 (.row rfl) (by simp))) rfl rfl ?_
    refine Ch.step (v := (.d (.int .i64 0))) rfl (.pure (.move _ rfl rfl)) rfl rfl ?_
    refine Ch.nil ?_
    refine T_block ?_
    refine T_loop (ι := Nat) (fun m => { n := 46, sl := [(37, (.row 3)), (38, (.d (.int .i64 (((metIt x k).length : Nat) : Int)))), (39, (.d (.int .i64 ((m : Nat) : Int))))], hp := [(3, (some (.row 1 ((metIt x k).map D.bool))))], pin := [] }) (fun m => m ≤ x.codes.length ∧ ∀ j, j < m → (metIt x k).getD j default = true) (fun m => x.codes.length - m) ⟨0, ⟨by omega, fun j hj => by omega⟩, (Wk.of rfl rfl (And.intro rfl (And.intro rfl (And.intro (vI (by first | rfl | omega | (simp; done) | (simp; omega))) trivial))) (And.intro rfl trivial))⟩ (fun m hp2 => ?_)
    refine T_seq ?_
    refine T_region hc ?_
    refine Ch.step (v := (.d (.bool (decide (((m : Nat) : Int) < (((metIt x k).length : Nat) : Int)))))) rfl (.pure (.int _ _ _ _ _ rfl rfl rfl rfl)) rfl rfl ?_
    refine Ch.nil ?_
    refine T_seq ?_
    refine T_cond (b := (decide (((m : Nat) : Int) < (((metIt x k).length : Nat) : Int)))) rfl (fun h4 => ?_) (fun h4 => ?_)
    · replace h4 := of_decide_eq_true h4
      refine T_skip ?_
      refine T_seq ?_
      refine T_block ?_
      refine T_seq ?_
      refine T_region hc ?_
      refine Ch.step (v := (.el 3 1 m 0)) rfl (.pure (.idxRow _ _ _ 4 (m) rfl Try.underlying147 sz4 rfl rfl rfl rfl (by first | omega | (simp only [List.length_map, List.length_set]; omega) | (simp; omega)))) rfl rfl ?_
      refine Ch.step (v := (.d (.bool (((metIt x k).getD m default))))) rfl (.pure (.loadEl1 _ _ rfl ag4 rfl rfl (get_map _ (by first | omega | (simp only [List.length_map, List.length_append, List.length_take, List.length_drop, List.length_cons, List.length_nil]; omega) | (simp; omega) | (simp; done))) rfl rfl rfl)) rfl rfl ?_
      refine Ch.step (v := (.d (.bool (((metIt x k).getD m default))))) rfl (.pure (.assign _ rfl rfl)) rfl rfl ?_
      refine Ch.nil ?_
      refine T_seq ?_
      refine T_region hc ?_
      refine Ch.step (v := (.d (.bool (((metIt x k).getD m default))))) rfl (.pure (.move _ rfl rfl)) rfl rfl ?_
      refine Ch.step (v := (.d (.bool (!(((metIt x k).getD m default)))))) rfl (.pure (.not _ _ rfl rfl)) rfl rfl ?_
      refine Ch.nil ?_
      refine T_cond (b := (!(((metIt x k).getD m default)))) rfl (fun h5 => ?_) (fun h5 => ?_)
      · replace h5 := nott h5
        refine T_seq ?_
        refine T_region hc ?_
        refine Ch.step (v := (.d (.bool false))) rfl (.pure (.assign _ rfl rfl)) rfl rfl ?_
        refine Ch.nil ?_
        refine T_ret ?_
        refine And.intro (.inr rfl) ?_
        exact Exists.intro [(.d (.bool false))] (Exists.intro [] (Exists.intro [] (And.intro (.cons (.tmp 2 rfl) .nil) (And.intro (.cons (.any _) .nil) (And.intro (Exp.of (congrArg D.bool (by first | (exact met_no hn hen (k := k) (by omega) m (by omega) (by assumption)) | (exact met_yes hn hen (k := k) (by omega) (fun j hj => hp2.2 j (by clear hp2; omega))) | (have hge : x.codes.length ≤ m := (by omega); exact met_yes hn hen (k := k) (by omega) (fun j hj => hp2.2 j (Nat.lt_of_lt_of_le hj hge))))) (.d _)) (And.intro rfl rfl))))))
      · replace h5 := notf h5
        refine T_skip ?_
        refine T_region hc ?_
        refine Ch.step (v := (.d (.int .i64 (((m : Nat) : Int) + 1)))) rfl (.pure (.int _ _ _ _ _ rfl rfl rfl (intV_add (by first | omega | (simp only [List.length_map, List.length_append, List.length_take, List.length_drop, List.length_cons, List.length_nil]; omega) | (simp; omega) | (simp; done)) (by first | omega | (simp only [List.length_map, List.length_append, List.length_take, List.length_drop, List.length_cons, List.length_nil]; omega) | (simp; omega) | (simp; done))))) rfl rfl ?_
        refine Ch.step (v := (.d (.int .i64 (((m : Nat) : Int) + 1)))) rfl (.pure (.move _ rfl rfl)) rfl rfl ?_
        refine Ch.nil ?_
        refine Exists.intro (m + 1) (And.intro ⟨by omega, upto_succ hp2.2 (by assumption)⟩ (And.intro (by first | omega | (dsimp only; omega)) (Wk.of rfl rfl (And.intro rfl (And.intro rfl (And.intro (vI (by first | rfl | omega | (simp; done) | (simp; omega))) trivial))) (And.intro rfl trivial))))
    · replace h4 := of_decide_eq_false h4
      refine T_exit ?_
      refine T_seq ?_
      refine T_region hc ?_
      refine Ch.step (v := (.d (.bool true))) rfl (.pure (.assign _ rfl rfl)) rfl rfl ?_
      refine Ch.nil ?_
      refine T_ret ?_
      refine And.intro (.inr rfl) ?_
      exact Exists.intro [(.d (.bool true))] (Exists.intro [] (Exists.intro [] (And.intro (.cons (.tmp 2 rfl) .nil) (And.intro (.cons (.any _) .nil) (And.intro (Exp.of (congrArg D.bool (by first | (exact met_no hn hen (k := k) (by omega) m (by omega) (by assumption)) | (exact met_yes hn hen (k := k) (by omega) (fun j hj => hp2.2 j (by clear hp2; omega))) | (have hge : x.codes.length ≤ m := (by omega); exact met_yes hn hen (k := k) (by omega) (fun j hj => hp2.2 j (Nat.lt_of_lt_of_le hj hge))))) (.d _)) (And.intro rfl rfl))))))

set_option maxHeartbeats 2000000 in
theorem sp_spec_l5Good (x : Sgr) (hb : x.bulk ≤ 1048576) : Sp Try.prog 78 [(.agg [(.slice false 2 (x.sigs.map Sgn.d)), (.slice false 1 (x.codes.map D.str)), (.slice false 4 (x.arcs.map Arc.d))])] [.any] (.bool (sgB x)) := by
  refine Sp_intro (lend := true) Try.func78 rfl rfl rfl (fun _ => rfl) (fun c hc hX => ?_)
  obtain ⟨hp0, hp1, hp2⟩ := Sgr.parts hb
  have hn0 := bulkF_len hp0
  have hn1 := bulk_len hp1
  have hx1 := bulk_mem hp1
  have hn2 := bulkF_len hp2
  refine T_seq ?_
  refine T_region hc ?_
  refine Ch.step (v := (.ptr 1000 0)) rfl (.box 1000 _ _ rfl (.aggD _)) rfl rfl ?_
  refine Ch.step (v := (.d (.bool false))) rfl (.pure (.assign _ rfl rfl)) rfl rfl ?_
  refine Ch.nil ?_
  refine T_seq ?_
  refine T_seq ?_
  refine T_region hc ?_
  refine Ch.step (v := (.ptr 1000 0)) rfl (.pure (.fldPtr _ _ _ rfl fld52_0 rfl)) rfl rfl ?_
  refine Ch.step (v := (.d (.slice false 2 (x.sigs.map Sgn.d)))) rfl (.pure (.loadPtr1 _ _ rfl ag29 rfl rfl rfl)) rfl rfl ?_
  refine Ch.step (v := (.d (.bool (sigsB x.sigs)))) rfl (.call 9000 104 _ _ _ en104 rfl (.inl rfl) (.cons (.d _) .nil) rfl rfl (sp_spec_l2Signals x.sigs (by first | assumption | omega | (rw [List.length_take]; omega) | (have := bulkF_mem hb _ (getD_mem (d := default) (by omega)); assumption) | (unfold bulkS at *; omega) | (simp_all; done))) (.skip _ _ .nil) rfl) rfl rfl ?_
  refine Ch.step (v := (.d (.bool (!(sigsB x.sigs))))) rfl (.pure (.not _ _ rfl rfl)) rfl rfl ?_
  refine Ch.step (v := (.d (.bool (!(sigsB x.sigs))))) rfl (.pure (.move _ rfl rfl)) rfl rfl ?_
  cases h1 : (sigsB x.sigs) with
  | true =>
    try have hs8 := within_two (sigsB_len h1)
    refine Ch.step (v := (.ptr 1000 1)) rfl (.pure (.fldPtr _ _ _ rfl fld52_1 rfl)) rfl rfl ?_
    refine Ch.step (v := (.d (.slice false 1 (x.codes.map D.str)))) rfl (.pure (.loadPtr1 _ _ rfl ag43 rfl rfl rfl)) rfl rfl ?_
    refine Ch.step (v := (.d (.int .i64 ((x.codes.length : Nat) : Int)))) rfl (.pure (.len _ _ 9 rfl Try.underlying43 (.sh _ _) (by simp))) rfl rfl ?_
    refine Ch.step (v := (.d (.bool (withinB ((x.codes.length : Nat) : Int) 1 300)))) rfl (.call 15000 51 _ _ _ en51 rfl (.inl rfl) (.cons (.d _) (.cons (.d _) (.cons (.d _) .nil))) rfl rfl (sp_spec_l1In ((x.codes.length : Nat) : Int) 1 300) (.skip _ _ (.skip _ _ (.skip _ _ .nil))) rfl) rfl rfl ?_
    refine Ch.step (v := (.d (.bool (!(withinB ((x.codes.length : Nat) : Int) 1 300))))) rfl (.pure (.not _ _ rfl rfl)) rfl rfl ?_
    refine Ch.step (v := (.d (.bool (!(withinB ((x.codes.length : Nat) : Int) 1 300))))) rfl (.pure (.pickF _ _ _ rfl rfl rfl)) rfl rfl ?_
    refine Ch.step (v := (.d (.bool (!(withinB ((x.codes.length : Nat) : Int) 1 300))))) rfl (.pure (.move _ rfl rfl)) rfl rfl ?_
    cases h2 : (withinB ((x.codes.length : Nat) : Int) 1 300) with
    | true =>
      try have hw2 := within_two h2
      refine Ch.step (v := (.ptr 1000 2)) rfl (.pure (.fldPtr _ _ _ rfl fld52_2 rfl)) rfl rfl ?_
      refine Ch.step (v := (.d (.slice false 4 (x.arcs.map Arc.d)))) rfl (.pure (.loadPtr1 _ _ rfl ag50 rfl rfl rfl)) rfl rfl ?_
      refine Ch.step (v := (.d (.int .i64 ((x.arcs.length : Nat) : Int)))) rfl (.pure (.len _ _ 102 rfl Try.underlying50 (.sh _ _) (by simp))) rfl rfl ?_
      refine Ch.step (v := (.d (.bool (decide (4000 < ((x.arcs.length : Nat) : Int)))))) rfl (.pure (.int _ _ _ _ _ rfl rfl rfl rfl)) rfl rfl ?_
      refine Ch.step (v := (.d (.bool (decide (4000 < ((x.arcs.length : Nat) : Int)))))) rfl (.pure (.pickF _ _ _ rfl rfl rfl)) rfl rfl ?_
      refine Ch.nil ?_
      refine T_cond (b := (decide (4000 < ((x.arcs.length : Nat) : Int)))) rfl (fun h3 => ?_) (fun h3 => ?_)
      · replace h3 := of_decide_eq_true h3
        refine T_seq ?_
        refine T_region hc ?_
        refine Ch.step (v := (.d (.bool false))) rfl (.pure (.assign _ rfl rfl)) rfl rfl ?_
        refine Ch.nil ?_
        refine T_ret ?_
        refine And.intro (.inr rfl) ?_
        exact Exists.intro [(.d (.bool false))] (Exists.intro [] (Exists.intro [] (And.intro (.cons (.tmp 2 rfl) .nil) (And.intro (.cons (.any _) .nil) (And.intro (Exp.of (congrArg D.bool (by first | (rw [sgB, h1]; rfl) | (rw [sgB, h1, h2]; rfl) | (rw [sgB, h1, h2, decide_eq_true (by omega)]; rfl) | (exact (sg_no_code (k := k) (by omega) (by assumption)).symm) | (exact (sg_no_arc (k := m) (by omega) (by first | assumption | (unfold arcB codeAt; simp_all; done))).symm) | (rw [← sg_end h1 h2 (by omega) hcl hal]; done) | (exact sg_end h1 h2 (by omega) hcl hal))) (.d _)) (And.intro rfl rfl))))))
      · replace h3 := of_decide_eq_false h3
        refine T_skip ?_
        refine T_seq ?_
        refine T_seq ?_
        refine T_region hc ?_
        refine Ch.step (v := (.ptr 1000 1)) rfl (.pure (.fldPtr _ _ _ rfl fld52_1 rfl)) rfl rfl ?_
        refine Ch.step (v := (.d (.slice false 1 (x.codes.map D.str)))) rfl (.pure (.loadPtr1 _ _ rfl ag43 rfl rfl rfl)) rfl rfl ?_
        refine Ch.step (v := (.d (.int .i64 ((x.codes.length : Nat) : Int)))) rfl (.pure (.len _ _ 9 rfl Try.underlying43 (.sh _ _) (by simp))) rfl rfl ?_
        refine Ch.step (v := (.d (.int .i64 0))) rfl (.pure (.move _ rfl rfl)) rfl rfl ?_
        refine Ch.nil ?_
        refine T_block ?_
        refine T_loop (ι := Nat) (fun k => { n := 52, sl := [(1, (.ptr 1000 0)), (25, (.d (.slice false 1 (x.codes.map D.str)))), (26, (.d (.int .i64 ((x.codes.length : Nat) : Int)))), (27, (.d (.int .i64 ((k : Nat) : Int))))], hp := [(1000, (some (.box [(.d (.slice false 2 (x.sigs.map Sgn.d))), (.d (.slice false 1 (x.codes.map D.str))), (.d (.slice false 4 (x.arcs.map Arc.d)))])))], pin := [] }) (fun k => k ≤ x.codes.length ∧ ∀ j, j < k → codeN (x.codes.getD j default) (x.sigs.length : Int) = true) (fun k => x.codes.length - k) ⟨0, ⟨by omega, fun j hj => by omega⟩, (Wk.of rfl rfl (And.intro rfl (And.intro rfl (And.intro rfl (And.intro (vI (by first | rfl | omega | (simp; done) | (simp; omega))) trivial)))) (And.intro rfl trivial))⟩ (fun k hp0 => ?_)
        refine T_seq ?_
        refine T_region hc ?_
        refine Ch.step (v := (.d (.bool (decide (((k : Nat) : Int) < ((x.codes.length : Nat) : Int)))))) rfl (.pure (.int _ _ _ _ _ rfl rfl rfl rfl)) rfl rfl ?_
        refine Ch.nil ?_
        refine T_seq ?_
        refine T_cond (b := (decide (((k : Nat) : Int) < ((x.codes.length : Nat) : Int)))) rfl (fun h4 => ?_) (fun h4 => ?_)
        · replace h4 := of_decide_eq_true h4
          try have hcl := sg_codes (x := x) (k := k) (by omega) hp0.2
          try have hca := codes_at hcl
          refine T_skip ?_
          refine T_seq ?_
          refine T_block ?_
          refine T_seq ?_
          refine T_region hc ?_
          refine Ch.step (v := (.d (.ref (.str (x.codes.getD k default))))) rfl (.pure (.idx _ _ _ 9 (k) rfl Try.underlying43 sz9 rfl rfl rfl (get_map _ (by first | omega | (simp only [List.length_map, List.length_append, List.length_take, List.length_drop, List.length_cons, List.length_nil]; omega) | (simp; omega) | (simp; done))))) rfl rfl ?_
          refine Ch.step (v := (.d (.str (x.codes.getD k default)))) rfl (.pure (.loadRef1 _ _ rfl ag9 rfl rfl)) rfl rfl ?_
          refine Ch.step (v := (.d (.str (x.codes.getD k default)))) rfl (.pure (.assign _ rfl rfl)) rfl rfl ?_
          refine Ch.nil ?_
          refine T_seq ?_
          refine T_region hc ?_
          refine Ch.step (v := (.d (.str (x.codes.getD k default)))) rfl (.pure (.move _ rfl rfl)) rfl rfl ?_
          refine Ch.step (v := (.ptr 1000 0)) rfl (.pure (.fldPtr _ _ _ rfl fld52_0 rfl)) rfl rfl ?_
          refine Ch.step (v := (.d (.slice false 2 (x.sigs.map Sgn.d)))) rfl (.pure (.loadPtr1 _ _ rfl ag29 rfl rfl rfl)) rfl rfl ?_
          refine Ch.step (v := (.d (.int .i64 ((x.sigs.length : Nat) : Int)))) rfl (.pure (.len _ _ 97 rfl Try.underlying29 (.sh _ _) (by simp))) rfl rfl ?_
          refine Ch.step (v := (.d (.bool (codeN (x.codes.getD k default) ((x.sigs.length : Nat) : Int))))) rfl (.call 35000 50 _ _ _ en50 rfl (.inl rfl) (.cons (.d _) (.cons (.d _) .nil)) rfl rfl (sp_spec_l5Code (x.codes.getD k default) ((x.sigs.length : Nat) : Int) (by first | omega | assumption | (exact hx _ (getD_mem (by omega))) | (exact hx _ (by assumption)) | (exact Nat.le_trans (hx _ (by assumption)) (by omega)) | (simp only [List.length_append, List.length_take, List.length_drop, List.length_cons, List.length_nil]; omega) | (simp_all; done))) (.skip _ _ (.skip _ _ .nil)) rfl) rfl rfl ?_
          refine Ch.step (v := (.d (.bool (!(codeN (x.codes.getD k default) ((x.sigs.length : Nat) : Int)))))) rfl (.pure (.not _ _ rfl rfl)) rfl rfl ?_
          refine Ch.nil ?_
          refine T_cond (b := (!(codeN (x.codes.getD k default) ((x.sigs.length : Nat) : Int)))) rfl (fun h5 => ?_) (fun h5 => ?_)
          · replace h5 := nott h5
            refine T_seq ?_
            refine T_region hc ?_
            refine Ch.step (v := (.d (.bool false))) rfl (.pure (.assign _ rfl rfl)) rfl rfl ?_
            refine Ch.nil ?_
            refine T_ret ?_
            refine And.intro (.inr rfl) ?_
            exact Exists.intro [(.d (.bool false))] (Exists.intro [] (Exists.intro [] (And.intro (.cons (.tmp 2 rfl) .nil) (And.intro (.cons (.any _) .nil) (And.intro (Exp.of (congrArg D.bool (by first | (rw [sgB, h1]; rfl) | (rw [sgB, h1, h2]; rfl) | (rw [sgB, h1, h2, decide_eq_true (by omega)]; rfl) | (exact (sg_no_code (k := k) (by omega) (by assumption)).symm) | (exact (sg_no_arc (k := m) (by omega) (by first | assumption | (unfold arcB codeAt; simp_all; done))).symm) | (rw [← sg_end h1 h2 (by omega) hcl hal]; done) | (exact sg_end h1 h2 (by omega) hcl hal))) (.d _)) (And.intro rfl rfl))))))
          · replace h5 := notf h5
            refine T_skip ?_
            refine T_region hc ?_
            refine Ch.step (v := (.d (.int .i64 (((k : Nat) : Int) + 1)))) rfl (.pure (.int _ _ _ _ _ rfl rfl rfl (intV_add (by first | omega | (simp only [List.length_map, List.length_append, List.length_take, List.length_drop, List.length_cons, List.length_nil]; omega) | (simp; omega) | (simp; done)) (by first | omega | (simp only [List.length_map, List.length_append, List.length_take, List.length_drop, List.length_cons, List.length_nil]; omega) | (simp; omega) | (simp; done))))) rfl rfl ?_
            refine Ch.step (v := (.d (.int .i64 (((k : Nat) : Int) + 1)))) rfl (.pure (.move _ rfl rfl)) rfl rfl ?_
            refine Ch.nil ?_
            refine Exists.intro (k + 1) (And.intro ⟨by omega, upto_succ hp0.2 (by assumption)⟩ (And.intro (by first | omega | (dsimp only; omega)) (Wk.of rfl rfl (And.intro rfl (And.intro rfl (And.intro rfl (And.intro (vI (by first | rfl | omega | (simp; done) | (simp; omega))) trivial)))) (And.intro rfl trivial))))
        · replace h4 := of_decide_eq_false h4
          try have hcl := sg_codes (x := x) (k := k) (by omega) hp0.2
          try have hca := codes_at hcl
          refine T_exit ?_
          refine T_seq ?_
          refine T_seq ?_
          refine T_region hc ?_
          refine Ch.step (v := (.ptr 1000 2)) rfl (.pure (.fldPtr _ _ _ rfl fld52_2 rfl)) rfl rfl ?_
          refine Ch.step (v := (.d (.slice false 4 (x.arcs.map Arc.d)))) rfl (.pure (.loadPtr1 _ _ rfl ag50 rfl rfl rfl)) rfl rfl ?_
          refine Ch.step (v := (.d (.int .i64 ((x.arcs.length : Nat) : Int)))) rfl (.pure (.len _ _ 102 rfl Try.underlying50 (.sh _ _) (by simp))) rfl rfl ?_
          refine Ch.step (v := (.d (.int .i64 0))) rfl (.pure (.move _ rfl rfl)) rfl rfl ?_
          refine Ch.nil ?_
          refine T_block ?_
          refine T_loop (ι := Nat) (fun m => { n := 52, sl := [(1, (.ptr 1000 0)), (39, (.d (.slice false 4 (x.arcs.map Arc.d)))), (40, (.d (.int .i64 ((x.arcs.length : Nat) : Int)))), (41, (.d (.int .i64 ((m : Nat) : Int))))], hp := [(1000, (some (.box [(.d (.slice false 2 (x.sigs.map Sgn.d))), (.d (.slice false 1 (x.codes.map D.str))), (.d (.slice false 4 (x.arcs.map Arc.d)))])))], pin := [] }) (fun m => m ≤ x.arcs.length ∧ ∀ j, j < m → arcB x (x.arcs.getD j default) = true) (fun m => x.arcs.length - m) ⟨0, ⟨by omega, fun j hj => by omega⟩, (Wk.of rfl rfl (And.intro rfl (And.intro rfl (And.intro rfl (And.intro (vI (by first | rfl | omega | (simp; done) | (simp; omega))) trivial)))) (And.intro rfl trivial))⟩ (fun m hp1 => ?_)
          refine T_seq ?_
          refine T_region hc ?_
          refine Ch.step (v := (.d (.bool (decide (((m : Nat) : Int) < ((x.arcs.length : Nat) : Int)))))) rfl (.pure (.int _ _ _ _ _ rfl rfl rfl rfl)) rfl rfl ?_
          refine Ch.nil ?_
          refine T_seq ?_
          refine T_cond (b := (decide (((m : Nat) : Int) < ((x.arcs.length : Nat) : Int)))) rfl (fun h6 => ?_) (fun h6 => ?_)
          · replace h6 := of_decide_eq_true h6
            try have hal := sg_arcs (x := x) (k := m) (by omega) hp1.2
            try have hen := arc_ends hal
            try have hse := steps_ends hen
            try have hsl := stepsOf_len x.arcs
            try have hdl := distF_len (n := x.codes.length) (s := 0) (by omega) hse
            refine T_skip ?_
            refine T_seq ?_
            refine T_block ?_
            refine T_seq ?_
            refine T_region hc ?_
            refine Ch.step (v := (.d (.ref (.agg [(.int .i64 ((x.arcs.getD m default).src)), (.int .i64 ((x.arcs.getD m default).sig)), (.bool ((x.arcs.getD m default).up)), (.int .i64 ((x.arcs.getD m default).dst))])))) rfl (.pure (.idx _ _ _ 102 (m) rfl Try.underlying50 sz102 rfl rfl rfl (get_map _ (by first | omega | (simp only [List.length_map, List.length_append, List.length_take, List.length_drop, List.length_cons, List.length_nil]; omega) | (simp; omega) | (simp; done))))) rfl rfl ?_
            refine Ch.step (v := (.d (.agg [(.int .i64 ((x.arcs.getD m default).src)), (.int .i64 ((x.arcs.getD m default).sig)), (.bool ((x.arcs.getD m default).up)), (.int .i64 ((x.arcs.getD m default).dst))]))) rfl (.pure (.loadRefA _ _ rfl ag102 sz102 rfl)) rfl rfl ?_
            refine Ch.step (v := (.ptr 6000 0)) rfl (.alloc 6000 _ rfl zer102) rfl rfl ?_
            refine Ch.step (v := .junk) rfl (.storePtr _ _ _ rfl rfl rfl (.aggD _) sz102 (Nat.le_of_ble_eq_true rfl)) rfl rfl ?_
            refine Ch.nil ?_
            refine T_seq ?_
            refine T_region hc ?_
            refine Ch.step (v := (.agg [(.d (.slice false 2 (x.sigs.map Sgn.d))), (.d (.slice false 1 (x.codes.map D.str))), (.d (.slice false 4 (x.arcs.map Arc.d)))])) rfl (.pure (.loadPtrA _ _ rfl ag52 sz52 rfl rfl (Nat.le_of_ble_eq_true rfl) rfl)) rfl rfl ?_
            refine Ch.step (v := (.agg [(.d (.int .i64 ((x.arcs.getD m default).src))), (.d (.int .i64 ((x.arcs.getD m default).sig))), (.d (.bool ((x.arcs.getD m default).up))), (.d (.int .i64 ((x.arcs.getD m default).dst)))])) rfl (.pure (.loadPtrA _ _ rfl ag102 sz102 rfl rfl (Nat.le_of_ble_eq_true rfl) rfl)) rfl rfl ?_
            refine Ch.step (v := (.d (.bool (arcB x (x.arcs.getD m default))))) rfl (.call 47000 128 _ _ _ en128 rfl (.inl rfl) (.cons (.lend (.agg (.cons (.d _) (.cons (.d _) (.cons (.d _) .nil))) rfl)) (.cons (.lend (.agg (.cons (.d _) (.cons (.d _) (.cons (.d _) (.cons (.d _) .nil)))) rfl)) .nil)) rfl rfl (sp_spec_l5Arc x (x.arcs.getD m default) (by first | assumption | omega | (rw [List.length_take]; omega) | (have := bulkF_mem hb _ (getD_mem (d := default) (by omega)); assumption) | (unfold bulkS at *; omega) | (simp_all; done)) (by first | assumption | omega | (rw [List.length_take]; omega) | (have := bulkF_mem hb _ (getD_mem (d := default) (by omega)); assumption) | (unfold bulkS at *; omega) | (simp_all; done)) (by assumption)) (.skip _ _ (.skip _ _ .nil)) rfl) rfl rfl ?_
            refine Ch.step (v := (.d (.bool (!(arcB x (x.arcs.getD m default)))))) rfl (.pure (.not _ _ rfl rfl)) rfl rfl ?_
            refine Ch.nil ?_
            refine T_cond (b := (!(arcB x (x.arcs.getD m default)))) rfl (fun h7 => ?_) (fun h7 => ?_)
            · replace h7 := nott h7
              refine T_seq ?_
              refine T_region hc ?_
              refine Ch.step (v := (.d (.bool false))) rfl (.pure (.assign _ rfl rfl)) rfl rfl ?_
              refine Ch.nil ?_
              refine T_ret ?_
              refine And.intro (.inr rfl) ?_
              exact Exists.intro [(.d (.bool false))] (Exists.intro [] (Exists.intro [] (And.intro (.cons (.tmp 2 rfl) .nil) (And.intro (.cons (.any _) .nil) (And.intro (Exp.of (congrArg D.bool (by first | (rw [sgB, h1]; rfl) | (rw [sgB, h1, h2]; rfl) | (rw [sgB, h1, h2, decide_eq_true (by omega)]; rfl) | (exact (sg_no_code (k := k) (by omega) (by assumption)).symm) | (exact (sg_no_arc (k := m) (by omega) (by first | assumption | (unfold arcB codeAt; simp_all; done))).symm) | (rw [← sg_end h1 h2 (by omega) hcl hal]; done) | (exact sg_end h1 h2 (by omega) hcl hal))) (.d _)) (And.intro rfl rfl))))))
            · replace h7 := notf h7
              refine T_skip ?_
              refine T_region hc ?_
              refine Ch.step (v := (.d (.int .i64 (((m : Nat) : Int) + 1)))) rfl (.pure (.int _ _ _ _ _ rfl rfl rfl (intV_add (by first | omega | (simp only [List.length_map, List.length_append, List.length_take, List.length_drop, List.length_cons, List.length_nil]; omega) | (simp; omega) | (simp; done)) (by first | omega | (simp only [List.length_map, List.length_append, List.length_take, List.length_drop, List.length_cons, List.length_nil]; omega) | (simp; omega) | (simp; done))))) rfl rfl ?_
              refine Ch.step (v := (.d (.int .i64 (((m : Nat) : Int) + 1)))) rfl (.pure (.move _ rfl rfl)) rfl rfl ?_
              refine Ch.nil ?_
              refine Exists.intro (m + 1) (And.intro ⟨by omega, upto_succ hp1.2 (by first | assumption | (unfold arcB codeAt; simp_all; done))⟩ (And.intro (by first | omega | (dsimp only; omega)) (Wk.of rfl rfl (And.intro rfl (And.intro rfl (And.intro rfl (And.intro (vI (by first | rfl | omega | (simp; done) | (simp; omega))) trivial)))) (And.intro rfl trivial))))
          · replace h6 := of_decide_eq_false h6
            try have hal := sg_arcs (x := x) (k := m) (by omega) hp1.2
            try have hen := arc_ends hal
            try have hse := steps_ends hen
            try have hsl := stepsOf_len x.arcs
            try have hdl := distF_len (n := x.codes.length) (s := 0) (by omega) hse
            refine T_exit ?_
            refine T_seq ?_
            refine T_region hc ?_
            refine Ch.step (v := (.agg [(.d (.slice false 2 (x.sigs.map Sgn.d))), (.d (.slice false 1 (x.codes.map D.str))), (.d (.slice false 4 (x.arcs.map Arc.d)))])) rfl (.pure (.loadPtrA _ _ rfl ag52 sz52 rfl rfl (Nat.le_of_ble_eq_true rfl) rfl)) rfl rfl ?_
            refine Ch.step (v := (.d (.bool (!hasI (distF x.codes.length (stepsOf x.arcs) 0) (-1))))) rfl (.call 51000 129 _ _ _ en129 rfl (.inl rfl) (.cons (.lend (.agg (.cons (.d _) (.cons (.d _) (.cons (.d _) .nil))) rfl)) .nil) rfl rfl (sp_spec_l5All x (by first | assumption | omega | (rw [List.length_take]; omega) | (have := bulkF_mem hb _ (getD_mem (d := default) (by omega)); assumption) | (unfold bulkS at *; omega) | (simp_all; done)) (by first | assumption | omega | (rw [List.length_take]; omega) | (have := bulkF_mem hb _ (getD_mem (d := default) (by omega)); assumption) | (unfold bulkS at *; omega) | (simp_all; done)) (by assumption)) (.skip _ _ .nil) rfl) rfl rfl ?_
            refine Ch.step (v := (.d (.bool (!hasI (distF x.codes.length (stepsOf x.arcs) 0) (-1))))) rfl (.pure (.assign _ rfl rfl)) rfl rfl ?_
            refine Ch.nil ?_
            refine T_ret ?_
            refine And.intro (.inr rfl) ?_
            exact Exists.intro [(.d (.bool (!hasI (distF x.codes.length (stepsOf x.arcs) 0) (-1))))] (Exists.intro [] (Exists.intro [] (And.intro (.cons (.tmp 2 rfl) .nil) (And.intro (.cons (.any _) .nil) (And.intro (Exp.of (congrArg D.bool (by first | (rw [sgB, h1]; rfl) | (rw [sgB, h1, h2]; rfl) | (rw [sgB, h1, h2, decide_eq_true (by omega)]; rfl) | (exact (sg_no_code (k := k) (by omega) (by assumption)).symm) | (exact (sg_no_arc (k := m) (by omega) (by first | assumption | (unfold arcB codeAt; simp_all; done))).symm) | (rw [← sg_end h1 h2 (by omega) hcl hal]; done) | (exact sg_end h1 h2 (by omega) hcl hal))) (.d _)) (And.intro rfl rfl))))))
    | false =>
      try have hw2 := within_two h2
      refine Ch.skip rfl rfl ?_
      refine Ch.skip rfl rfl ?_
      refine Ch.skip rfl rfl ?_
      refine Ch.skip rfl rfl ?_
      refine Ch.step (v := (.d (.bool true))) rfl (.pure (.pickT _ _ _ rfl rfl rfl)) rfl rfl ?_
      refine Ch.nil ?_
      refine T_cond (b := true) rfl (fun _ => ?_) (fun h => nomatch h)
      refine T_seq ?_
      refine T_region hc ?_
      refine Ch.step (v := (.d (.bool false))) rfl (.pure (.assign _ rfl rfl)) rfl rfl ?_
      refine Ch.nil ?_
      refine T_ret ?_
      refine And.intro (.inr rfl) ?_
      exact Exists.intro [(.d (.bool false))] (Exists.intro [] (Exists.intro [] (And.intro (.cons (.tmp 2 rfl) .nil) (And.intro (.cons (.any _) .nil) (And.intro (Exp.of (congrArg D.bool (by first | (rw [sgB, h1]; rfl) | (rw [sgB, h1, h2]; rfl) | (rw [sgB, h1, h2, decide_eq_true (by omega)]; rfl) | (exact (sg_no_code (k := k) (by omega) (by assumption)).symm) | (exact (sg_no_arc (k := m) (by omega) (by first | assumption | (unfold arcB codeAt; simp_all; done))).symm) | (rw [← sg_end h1 h2 (by omega) hcl hal]; done) | (exact sg_end h1 h2 (by omega) hcl hal))) (.d _)) (And.intro rfl rfl))))))
  | false =>
    try have hs8 := within_two (sigsB_len h1)
    refine Ch.skip rfl rfl ?_
    refine Ch.skip rfl rfl ?_
    refine Ch.skip rfl rfl ?_
    refine Ch.skip rfl rfl ?_
    refine Ch.skip rfl rfl ?_
    refine Ch.step (v := (.d (.bool true))) rfl (.pure (.pickT _ _ _ rfl rfl rfl)) rfl rfl ?_
    refine Ch.step (v := (.d (.bool true))) rfl (.pure (.move _ rfl rfl)) rfl rfl ?_
    refine Ch.skip rfl rfl ?_
    refine Ch.skip rfl rfl ?_
    refine Ch.skip rfl rfl ?_
    refine Ch.skip rfl rfl ?_
    refine Ch.step (v := (.d (.bool true))) rfl (.pure (.pickT _ _ _ rfl rfl rfl)) rfl rfl ?_
    refine Ch.nil ?_
    refine T_cond (b := true) rfl (fun _ => ?_) (fun h => nomatch h)
    refine T_seq ?_
    refine T_region hc ?_
    refine Ch.step (v := (.d (.bool false))) rfl (.pure (.assign _ rfl rfl)) rfl rfl ?_
    refine Ch.nil ?_
    refine T_ret ?_
    refine And.intro (.inr rfl) ?_
    exact Exists.intro [(.d (.bool false))] (Exists.intro [] (Exists.intro [] (And.intro (.cons (.tmp 2 rfl) .nil) (And.intro (.cons (.any _) .nil) (And.intro (Exp.of (congrArg D.bool (by first | (rw [sgB, h1]; rfl) | (rw [sgB, h1, h2]; rfl) | (rw [sgB, h1, h2, decide_eq_true (by omega)]; rfl) | (exact (sg_no_code (k := k) (by omega) (by assumption)).symm) | (exact (sg_no_arc (k := m) (by omega) (by first | assumption | (unfold arcB codeAt; simp_all; done))).symm) | (rw [← sg_end h1 h2 (by omega) hcl hal]; done) | (exact sg_end h1 h2 (by omega) hcl hal))) (.d _)) (And.intro rfl rfl))))))

theorem en63 : Enters Try.prog 63 := ⟨_, Try.func63, by kernel_rfl, rfl⟩

theorem en41 : Enters Try.prog 41 := ⟨_, Try.func41, by kernel_rfl, rfl⟩

theorem en95 : Enters Try.prog 95 := ⟨_, Try.func95, by kernel_rfl, rfl⟩

theorem en80 : Enters Try.prog 80 := ⟨_, Try.func80, by kernel_rfl, rfl⟩

theorem en78 : Enters Try.prog 78 := ⟨_, Try.func78, by kernel_rfl, rfl⟩

theorem en122 : Enters Try.prog 122 := ⟨_, Try.func122, by kernel_rfl, rfl⟩

theorem ag46 : AggIs Try.prog 46 true := by unfold AggIs; kernel_rfl

theorem sz46 : SizeIs Try.prog 46 3 := by unfold SizeIs; kernel_rfl

theorem en24 : Enters Try.prog 24 := ⟨_, Try.func24, by kernel_rfl, rfl⟩

theorem en26 : Enters Try.prog 26 := ⟨_, Try.func26, by kernel_rfl, rfl⟩

theorem en28 : Enters Try.prog 28 := ⟨_, Try.func28, by kernel_rfl, rfl⟩

theorem sp_laws_markSignalS (xs : List Sgn) (k : Nat) (hn : xs.length ≤ 1048576) (hk : k ≤ 2097152) : Sp Try.prog 63 [(.slice true 2 (xs.map Sgn.d)), (.int .i64 ((k : Nat) : Int))] [.any, .any] (.int .i64 ((k + 2 * xs.length : Nat) : Int)) := by
  refine Sp_intro (lend := false) Try.func63 rfl rfl rfl (fun h => nomatch h) (fun c hc hX => ?_)
  refine T_seq ?_
  refine T_region hc ?_
  refine Ch.step (v := (.d (.int .i64 0))) rfl (.pure (.assign _ rfl rfl)) rfl rfl ?_
  refine Ch.nil ?_
  refine T_seq ?_
  refine T_seq ?_
  refine T_region hc ?_
  refine Ch.step (v := (.d (.int .i64 0))) rfl (.pure (.assign _ rfl rfl)) rfl rfl ?_
  refine Ch.nil ?_
  refine T_block ?_
  refine T_loop (ι := Nat × List Sgn) (fun p => { n := 28, sl := [(0, (.row 1)), (1, (.d (.int .i64 ((k + 2 * p.1 : Nat) : Int)))), (5, (.d (.int .i64 ((p.1 : Nat) : Int))))], hp := [(1, (some (.row 2 (p.2.map Sgn.d))))], pin := [1] }) (fun p => p.1 ≤ xs.length ∧ p.2.length = xs.length) (fun p => xs.length - p.1) ⟨(0, xs), ⟨by dsimp only; omega, rfl⟩, (Wk.of rfl rfl (And.intro rfl (And.intro (vI (by first | rfl | omega | (simp; done) | (simp; omega))) (And.intro (vI (by first | rfl | omega | (simp; done) | (simp; omega))) trivial))) (And.intro (oR (by first | rfl | (rw [List.set_set, List.map_set]; rfl) | (rw [List.set_set, List.set_set, List.map_set]; rfl) | (rw [List.set_set, List.set_set, List.set_set, List.map_set]; rfl))) trivial))⟩ (fun p hp0 => ?_)
  have hql := hp0.2
  refine T_seq ?_
  refine T_seq ?_
  refine T_region hc ?_
  refine Ch.step (v := (.d (.int .i64 ((p.1 : Nat) : Int)))) rfl (.pure (.move _ rfl rfl)) rfl rfl ?_
  refine Ch.step (v := (.row 1)) rfl (.pure (.move _ rfl rfl)) rfl rfl ?_
  refine Ch.step (v := (.d (.int .i64 ((p.2.length : Nat) : Int)))) rfl (.pure (.len _ _ 97 rfl Try.underlying29 (.row rfl) (by simp))) rfl rfl ?_
  refine Ch.step (v := (.d (.bool (decide (((p.1 : Nat) : Int) < ((p.2.length : Nat) : Int)))))) rfl (.pure (.int _ _ _ _ _ rfl rfl rfl rfl)) rfl rfl ?_
  refine Ch.nil ?_
  refine T_cond (b := (decide (((p.1 : Nat) : Int) < ((p.2.length : Nat) : Int)))) rfl (fun h1 => ?_) (fun h1 => ?_)
  · replace h1 := of_decide_eq_true h1
    refine T_skip ?_
    refine T_seq ?_
    refine T_block ?_
    refine T_seq ?_
    refine T_region hc ?_
    refine Ch.step (v := (.row 1)) rfl (.pure (.move _ rfl rfl)) rfl rfl ?_
    refine Ch.step (v := (.d (.int .i64 ((p.1 : Nat) : Int)))) rfl (.pure (.move _ rfl rfl)) rfl rfl ?_
    refine Ch.step (v := (.d (.int .i64 ((k + 2 * p.1 : Nat) : Int)))) rfl (.pure (.move _ rfl rfl)) rfl rfl ?_
    refine Ch.step (v := (.d (.str (mtext (k + 2 * p.1))))) rfl (.call 15000 96 _ _ _ en96 rfl (.inl rfl) (.cons (.d _) .nil) rfl rfl (sp_laws_markText (k + 2 * p.1) (by first | omega | assumption | (exact hx _ (getD_mem (by omega))) | (exact hx _ (by assumption)) | (exact Nat.le_trans (hx _ (by assumption)) (by omega)) | (simp only [List.length_append, List.length_take, List.length_drop, List.length_cons, List.length_nil]; omega) | (simp_all; done))) (.skip _ _ .nil) rfl) rfl rfl ?_
    refine Ch.step (v := (.el 1 2 p.1 0)) rfl (.pure (.idxRow _ _ _ 97 (p.1) rfl Try.underlying29 sz97 rfl rfl rfl rfl (by first | omega | (simp only [List.length_map, List.length_set]; omega) | (simp; omega)))) rfl rfl ?_
    refine Ch.step (v := (.el 1 2 p.1 0)) rfl (.pure (.fldEl _ _ _ rfl fld97_0 rfl)) rfl rfl ?_
    refine Ch.step (v := .junk) rfl (.storeEl (y' := (.agg [(.str (mtext (k + 2 * p.1))), (.int .i64 ((p.2.getD p.1 default).kind))])) _ _ _ rfl rfl rfl (.d _) rfl sz9 rfl (get_map _ (by first | omega | (simp only [List.length_map, List.length_append, List.length_take, List.length_drop, List.length_cons, List.length_nil]; omega) | (simp; omega) | (simp; done))) rfl rfl) rfl rfl ?_
    refine Ch.nil ?_
    refine T_seq ?_
    refine T_region hc ?_
    refine Ch.step (v := (.d (.int .i64 ((k + 2 * p.1 : Nat) : Int)))) rfl (.pure (.move _ rfl rfl)) rfl rfl ?_
    refine Ch.step (v := (.d (.int .i64 (((k + 2 * p.1 : Nat) : Int) + 1)))) rfl (.pure (.int _ _ _ _ _ rfl rfl rfl (intV_add (by first | omega | (simp only [List.length_map, List.length_append, List.length_take, List.length_drop, List.length_cons, List.length_nil]; omega) | (simp; omega) | (simp; done)) (by first | omega | (simp only [List.length_map, List.length_append, List.length_take, List.length_drop, List.length_cons, List.length_nil]; omega) | (simp; omega) | (simp; done))))) rfl rfl ?_
    refine Ch.step (v := (.d (.int .i64 (((k + 2 * p.1 : Nat) : Int) + 1)))) rfl (.pure (.assign _ rfl rfl)) rfl rfl ?_
    refine Ch.nil ?_
    refine T_seq ?_
    refine T_region hc ?_
    refine Ch.step (v := (.row 1)) rfl (.pure (.move _ rfl rfl)) rfl rfl ?_
    refine Ch.step (v := (.d (.int .i64 ((p.1 : Nat) : Int)))) rfl (.pure (.move _ rfl rfl)) rfl rfl ?_
    refine Ch.step (v := (.d (.int .i64 (((k + 2 * p.1 : Nat) : Int) + 1)))) rfl (.pure (.move _ rfl rfl)) rfl rfl ?_
    refine Ch.step (v := (.el 1 2 p.1 0)) rfl (.pure (.idxRow _ _ _ 97 (p.1) rfl Try.underlying29 sz97 rfl rfl rfl rfl (by first | omega | (simp only [List.length_map, List.length_set]; omega) | (simp; omega)))) rfl rfl ?_
    refine Ch.step (v := (.el 1 2 p.1 1)) rfl (.pure (.fldEl _ _ _ rfl fld97_1 rfl)) rfl rfl ?_
    refine Ch.step (v := .junk) rfl (.storeEl (y' := (.agg [(.str (mtext (k + 2 * p.1))), (.int .i64 (((k + 2 * p.1 : Nat) : Int) + 1))])) _ _ _ rfl rfl rfl (.d _) rfl sz3 rfl (get_set (by first | omega | (simp only [List.length_map, List.length_set]; omega) | (simp; omega))) rfl rfl) rfl rfl ?_
    refine Ch.nil ?_
    refine T_region hc ?_
    refine Ch.step (v := (.d (.int .i64 (((k + 2 * p.1 : Nat) : Int) + 1)))) rfl (.pure (.move _ rfl rfl)) rfl rfl ?_
    refine Ch.step (v := (.d (.int .i64 ((((k + 2 * p.1 : Nat) : Int) + 1) + 1)))) rfl (.pure (.int _ _ _ _ _ rfl rfl rfl (intV_add (by first | omega | (simp only [List.length_map, List.length_append, List.length_take, List.length_drop, List.length_cons, List.length_nil]; omega) | (simp; omega) | (simp; done)) (by first | omega | (simp only [List.length_map, List.length_append, List.length_take, List.length_drop, List.length_cons, List.length_nil]; omega) | (simp; omega) | (simp; done))))) rfl rfl ?_
    refine Ch.step (v := (.d (.int .i64 ((((k + 2 * p.1 : Nat) : Int) + 1) + 1)))) rfl (.pure (.assign _ rfl rfl)) rfl rfl ?_
    refine Ch.nil ?_
    refine T_region hc ?_
    refine Ch.step (v := (.d (.int .i64 ((p.1 : Nat) : Int)))) rfl (.pure (.move _ rfl rfl)) rfl rfl ?_
    refine Ch.step (v := (.d (.int .i64 (((p.1 : Nat) : Int) + 1)))) rfl (.pure (.int _ _ _ _ _ rfl rfl rfl (intV_add (by first | omega | (simp only [List.length_map, List.length_append, List.length_take, List.length_drop, List.length_cons, List.length_nil]; omega) | (simp; omega) | (simp; done)) (by first | omega | (simp only [List.length_map, List.length_append, List.length_take, List.length_drop, List.length_cons, List.length_nil]; omega) | (simp; omega) | (simp; done))))) rfl rfl ?_
    refine Ch.step (v := (.d (.int .i64 (((p.1 : Nat) : Int) + 1)))) rfl (.pure (.assign _ rfl rfl)) rfl rfl ?_
    refine Ch.nil ?_
    refine Exists.intro ((p.1 + 1, p.2.set p.1 (Sgn.mk (mtext (k + 2 * p.1)) ((k + 2 * p.1 + 1 : Nat) : Int)))) (And.intro ⟨by dsimp only; omega, by dsimp only; rw [List.length_set]; exact hp0.2⟩ (And.intro (by first | omega | (dsimp only; omega)) (Wk.of rfl rfl (And.intro rfl (And.intro (vI (by first | rfl | omega | (simp; done) | (simp; omega))) (And.intro (vI (by first | rfl | omega | (simp; done) | (simp; omega))) trivial))) (And.intro (oR (by first | rfl | (rw [List.set_set, List.map_set]; rfl) | (rw [List.set_set, List.set_set, List.map_set]; rfl) | (rw [List.set_set, List.set_set, List.set_set, List.map_set]; rfl))) trivial))))
  · replace h1 := of_decide_eq_false h1
    refine T_exit ?_
    refine T_seq ?_
    refine T_region hc ?_
    refine Ch.step (v := (.d (.int .i64 ((k + 2 * p.1 : Nat) : Int)))) rfl (.pure (.move _ rfl rfl)) rfl rfl ?_
    refine Ch.step (v := (.d (.int .i64 ((k + 2 * p.1 : Nat) : Int)))) rfl (.pure (.assign _ rfl rfl)) rfl rfl ?_
    refine Ch.nil ?_
    refine T_ret ?_
    refine And.intro (.inr rfl) ?_
    exact Exists.intro [(.d (.int .i64 ((k + 2 * p.1 : Nat) : Int)))] (Exists.intro [] (Exists.intro [] (And.intro (.cons (.tmp 4 rfl) .nil) (And.intro (.cons (.any _) (.cons (.any _) .nil)) (And.intro (Exp.of (congrArg (D.int .i64) (by omega)) (.d _)) (And.intro rfl rfl))))))

theorem sp_laws_markArcS (xs : List Arc) (k : Nat) (hn : xs.length ≤ 1048576) (hk : k ≤ 4194304) : Sp Try.prog 95 [(.slice true 4 (xs.map Arc.d)), (.int .i64 ((k : Nat) : Int))] [.any, .any] (.int .i64 ((k + 4 * xs.length : Nat) : Int)) := by
  refine Sp_intro (lend := false) Try.func95 rfl rfl rfl (fun h => nomatch h) (fun c hc hX => ?_)
  refine T_seq ?_
  refine T_region hc ?_
  refine Ch.step (v := (.d (.int .i64 0))) rfl (.pure (.assign _ rfl rfl)) rfl rfl ?_
  refine Ch.nil ?_
  refine T_seq ?_
  refine T_seq ?_
  refine T_region hc ?_
  refine Ch.step (v := (.d (.int .i64 0))) rfl (.pure (.assign _ rfl rfl)) rfl rfl ?_
  refine Ch.nil ?_
  refine T_block ?_
  refine T_loop (ι := Nat × List Arc) (fun p => { n := 43, sl := [(0, (.row 1)), (1, (.d (.int .i64 ((k + 4 * p.1 : Nat) : Int)))), (5, (.d (.int .i64 ((p.1 : Nat) : Int))))], hp := [(1, (some (.row 4 (p.2.map Arc.d))))], pin := [1] }) (fun p => p.1 ≤ xs.length ∧ p.2.length = xs.length) (fun p => xs.length - p.1) ⟨(0, xs), ⟨by dsimp only; omega, rfl⟩, (Wk.of rfl rfl (And.intro rfl (And.intro (vI (by first | rfl | omega | (simp; done) | (simp; omega))) (And.intro (vI (by first | rfl | omega | (simp; done) | (simp; omega))) trivial))) (And.intro (oR (by first | rfl | (rw [List.set_set, List.map_set]; rfl) | (rw [List.set_set, List.set_set, List.map_set]; rfl) | (rw [List.set_set, List.set_set, List.set_set, List.map_set]; rfl))) trivial))⟩ (fun p hp0 => ?_)
  have hql := hp0.2
  refine T_seq ?_
  refine T_seq ?_
  refine T_region hc ?_
  refine Ch.step (v := (.d (.int .i64 ((p.1 : Nat) : Int)))) rfl (.pure (.move _ rfl rfl)) rfl rfl ?_
  refine Ch.step (v := (.row 1)) rfl (.pure (.move _ rfl rfl)) rfl rfl ?_
  refine Ch.step (v := (.d (.int .i64 ((p.2.length : Nat) : Int)))) rfl (.pure (.len _ _ 102 rfl Try.underlying50 (.row rfl) (by simp))) rfl rfl ?_
  refine Ch.step (v := (.d (.bool (decide (((p.1 : Nat) : Int) < ((p.2.length : Nat) : Int)))))) rfl (.pure (.int _ _ _ _ _ rfl rfl rfl rfl)) rfl rfl ?_
  refine Ch.nil ?_
  refine T_cond (b := (decide (((p.1 : Nat) : Int) < ((p.2.length : Nat) : Int)))) rfl (fun h1 => ?_) (fun h1 => ?_)
  · replace h1 := of_decide_eq_true h1
    refine T_skip ?_
    refine T_seq ?_
    refine T_block ?_
    refine T_seq ?_
    refine T_region hc ?_
    refine Ch.step (v := (.row 1)) rfl (.pure (.move _ rfl rfl)) rfl rfl ?_
    refine Ch.step (v := (.d (.int .i64 ((p.1 : Nat) : Int)))) rfl (.pure (.move _ rfl rfl)) rfl rfl ?_
    refine Ch.step (v := (.d (.int .i64 ((k + 4 * p.1 : Nat) : Int)))) rfl (.pure (.move _ rfl rfl)) rfl rfl ?_
    refine Ch.step (v := (.el 1 4 p.1 0)) rfl (.pure (.idxRow _ _ _ 102 (p.1) rfl Try.underlying50 sz102 rfl rfl rfl rfl (by first | omega | (simp only [List.length_map, List.length_set]; omega) | (simp; omega)))) rfl rfl ?_
    refine Ch.step (v := (.el 1 4 p.1 0)) rfl (.pure (.fldEl _ _ _ rfl fld102_0 rfl)) rfl rfl ?_
    refine Ch.step (v := .junk) rfl (.storeEl (y' := (.agg [(.int .i64 ((k + 4 * p.1 : Nat) : Int)), (.int .i64 ((p.2.getD p.1 default).sig)), (.bool ((p.2.getD p.1 default).up)), (.int .i64 ((p.2.getD p.1 default).dst))])) _ _ _ rfl rfl rfl (.d _) rfl sz3 rfl (get_map _ (by first | omega | (simp only [List.length_map, List.length_append, List.length_take, List.length_drop, List.length_cons, List.length_nil]; omega) | (simp; omega) | (simp; done))) rfl rfl) rfl rfl ?_
    refine Ch.nil ?_
    refine T_seq ?_
    refine T_region hc ?_
    refine Ch.step (v := (.d (.int .i64 ((k + 4 * p.1 : Nat) : Int)))) rfl (.pure (.move _ rfl rfl)) rfl rfl ?_
    refine Ch.step (v := (.d (.int .i64 (((k + 4 * p.1 : Nat) : Int) + 1)))) rfl (.pure (.int _ _ _ _ _ rfl rfl rfl (intV_add (by first | omega | (simp only [List.length_map, List.length_append, List.length_take, List.length_drop, List.length_cons, List.length_nil]; omega) | (simp; omega) | (simp; done)) (by first | omega | (simp only [List.length_map, List.length_append, List.length_take, List.length_drop, List.length_cons, List.length_nil]; omega) | (simp; omega) | (simp; done))))) rfl rfl ?_
    refine Ch.step (v := (.d (.int .i64 (((k + 4 * p.1 : Nat) : Int) + 1)))) rfl (.pure (.assign _ rfl rfl)) rfl rfl ?_
    refine Ch.nil ?_
    refine T_seq ?_
    refine T_region hc ?_
    refine Ch.step (v := (.row 1)) rfl (.pure (.move _ rfl rfl)) rfl rfl ?_
    refine Ch.step (v := (.d (.int .i64 ((p.1 : Nat) : Int)))) rfl (.pure (.move _ rfl rfl)) rfl rfl ?_
    refine Ch.step (v := (.d (.int .i64 (((k + 4 * p.1 : Nat) : Int) + 1)))) rfl (.pure (.move _ rfl rfl)) rfl rfl ?_
    refine Ch.step (v := (.el 1 4 p.1 0)) rfl (.pure (.idxRow _ _ _ 102 (p.1) rfl Try.underlying50 sz102 rfl rfl rfl rfl (by first | omega | (simp only [List.length_map, List.length_set]; omega) | (simp; omega)))) rfl rfl ?_
    refine Ch.step (v := (.el 1 4 p.1 1)) rfl (.pure (.fldEl _ _ _ rfl fld102_1 rfl)) rfl rfl ?_
    refine Ch.step (v := .junk) rfl (.storeEl (y' := (.agg [(.int .i64 ((k + 4 * p.1 : Nat) : Int)), (.int .i64 (((k + 4 * p.1 : Nat) : Int) + 1)), (.bool ((p.2.getD p.1 default).up)), (.int .i64 ((p.2.getD p.1 default).dst))])) _ _ _ rfl rfl rfl (.d _) rfl sz3 rfl (get_set (by first | omega | (simp only [List.length_map, List.length_set]; omega) | (simp; omega))) rfl rfl) rfl rfl ?_
    refine Ch.nil ?_
    refine T_seq ?_
    refine T_region hc ?_
    refine Ch.step (v := (.d (.int .i64 (((k + 4 * p.1 : Nat) : Int) + 1)))) rfl (.pure (.move _ rfl rfl)) rfl rfl ?_
    refine Ch.step (v := (.d (.int .i64 ((((k + 4 * p.1 : Nat) : Int) + 1) + 1)))) rfl (.pure (.int _ _ _ _ _ rfl rfl rfl (intV_add (by first | omega | (simp only [List.length_map, List.length_append, List.length_take, List.length_drop, List.length_cons, List.length_nil]; omega) | (simp; omega) | (simp; done)) (by first | omega | (simp only [List.length_map, List.length_append, List.length_take, List.length_drop, List.length_cons, List.length_nil]; omega) | (simp; omega) | (simp; done))))) rfl rfl ?_
    refine Ch.step (v := (.d (.int .i64 ((((k + 4 * p.1 : Nat) : Int) + 1) + 1)))) rfl (.pure (.assign _ rfl rfl)) rfl rfl ?_
    refine Ch.nil ?_
    refine T_seq ?_
    refine T_region hc ?_
    refine Ch.step (v := (.row 1)) rfl (.pure (.move _ rfl rfl)) rfl rfl ?_
    refine Ch.step (v := (.d (.int .i64 ((p.1 : Nat) : Int)))) rfl (.pure (.move _ rfl rfl)) rfl rfl ?_
    refine Ch.step (v := (.d (.int .i64 ((((k + 4 * p.1 : Nat) : Int) + 1) + 1)))) rfl (.pure (.move _ rfl rfl)) rfl rfl ?_
    refine Ch.step (v := (.d (.int .i64 ((((k + 4 * p.1 + 1) + 1) % 3 : Nat) : Int)))) rfl (.pure (.int _ _ _ _ _ rfl rfl rfl (remN (n := ((k + 4 * p.1 + 1) + 1)) (d := 3) (by omega) rfl (by decide)))) rfl rfl ?_
    refine Ch.step (v := (.d (.bool (decide (((((k + 4 * p.1 + 1) + 1) % 3 : Nat) : Int) = 0))))) rfl (.pure (.int _ _ _ _ _ rfl rfl rfl rfl)) rfl rfl ?_
    refine Ch.step (v := (.el 1 4 p.1 0)) rfl (.pure (.idxRow _ _ _ 102 (p.1) rfl Try.underlying50 sz102 rfl rfl rfl rfl (by first | omega | (simp only [List.length_map, List.length_set]; omega) | (simp; omega)))) rfl rfl ?_
    refine Ch.step (v := (.el 1 4 p.1 2)) rfl (.pure (.fldEl _ _ _ rfl fld102_2 rfl)) rfl rfl ?_
    refine Ch.step (v := .junk) rfl (.storeEl (y' := (.agg [(.int .i64 ((k + 4 * p.1 : Nat) : Int)), (.int .i64 (((k + 4 * p.1 : Nat) : Int) + 1)), (.bool (decide (((((k + 4 * p.1 + 1) + 1) % 3 : Nat) : Int) = 0))), (.int .i64 ((p.2.getD p.1 default).dst))])) _ _ _ rfl rfl rfl (.d _) rfl sz4 rfl (get_set (by first | omega | (simp only [List.length_map, List.length_set]; omega) | (simp; omega))) rfl rfl) rfl rfl ?_
    refine Ch.nil ?_
    refine T_seq ?_
    refine T_region hc ?_
    refine Ch.step (v := (.d (.int .i64 ((((k + 4 * p.1 : Nat) : Int) + 1) + 1)))) rfl (.pure (.move _ rfl rfl)) rfl rfl ?_
    refine Ch.step (v := (.d (.int .i64 (((((k + 4 * p.1 : Nat) : Int) + 1) + 1) + 1)))) rfl (.pure (.int _ _ _ _ _ rfl rfl rfl (intV_add (by first | omega | (simp only [List.length_map, List.length_append, List.length_take, List.length_drop, List.length_cons, List.length_nil]; omega) | (simp; omega) | (simp; done)) (by first | omega | (simp only [List.length_map, List.length_append, List.length_take, List.length_drop, List.length_cons, List.length_nil]; omega) | (simp; omega) | (simp; done))))) rfl rfl ?_
    refine Ch.step (v := (.d (.int .i64 (((((k + 4 * p.1 : Nat) : Int) + 1) + 1) + 1)))) rfl (.pure (.assign _ rfl rfl)) rfl rfl ?_
    refine Ch.nil ?_
    refine T_seq ?_
    refine T_region hc ?_
    refine Ch.step (v := (.row 1)) rfl (.pure (.move _ rfl rfl)) rfl rfl ?_
    refine Ch.step (v := (.d (.int .i64 ((p.1 : Nat) : Int)))) rfl (.pure (.move _ rfl rfl)) rfl rfl ?_
    refine Ch.step (v := (.d (.int .i64 (((((k + 4 * p.1 : Nat) : Int) + 1) + 1) + 1)))) rfl (.pure (.move _ rfl rfl)) rfl rfl ?_
    refine Ch.step (v := (.el 1 4 p.1 0)) rfl (.pure (.idxRow _ _ _ 102 (p.1) rfl Try.underlying50 sz102 rfl rfl rfl rfl (by first | omega | (simp only [List.length_map, List.length_set]; omega) | (simp; omega)))) rfl rfl ?_
    refine Ch.step (v := (.el 1 4 p.1 3)) rfl (.pure (.fldEl _ _ _ rfl fld102_3 rfl)) rfl rfl ?_
    refine Ch.step (v := .junk) rfl (.storeEl (y' := (.agg [(.int .i64 ((k + 4 * p.1 : Nat) : Int)), (.int .i64 (((k + 4 * p.1 : Nat) : Int) + 1)), (.bool (decide (((((k + 4 * p.1 + 1) + 1) % 3 : Nat) : Int) = 0))), (.int .i64 (((((k + 4 * p.1 : Nat) : Int) + 1) + 1) + 1))])) _ _ _ rfl rfl rfl (.d _) rfl sz3 rfl (get_set (by first | omega | (simp only [List.length_map, List.length_set]; omega) | (simp; omega))) rfl rfl) rfl rfl ?_
    refine Ch.nil ?_
    refine T_region hc ?_
    refine Ch.step (v := (.d (.int .i64 (((((k + 4 * p.1 : Nat) : Int) + 1) + 1) + 1)))) rfl (.pure (.move _ rfl rfl)) rfl rfl ?_
    refine Ch.step (v := (.d (.int .i64 ((((((k + 4 * p.1 : Nat) : Int) + 1) + 1) + 1) + 1)))) rfl (.pure (.int _ _ _ _ _ rfl rfl rfl (intV_add (by first | omega | (simp only [List.length_map, List.length_append, List.length_take, List.length_drop, List.length_cons, List.length_nil]; omega) | (simp; omega) | (simp; done)) (by first | omega | (simp only [List.length_map, List.length_append, List.length_take, List.length_drop, List.length_cons, List.length_nil]; omega) | (simp; omega) | (simp; done))))) rfl rfl ?_
    refine Ch.step (v := (.d (.int .i64 ((((((k + 4 * p.1 : Nat) : Int) + 1) + 1) + 1) + 1)))) rfl (.pure (.assign _ rfl rfl)) rfl rfl ?_
    refine Ch.nil ?_
    refine T_region hc ?_
    refine Ch.step (v := (.d (.int .i64 ((p.1 : Nat) : Int)))) rfl (.pure (.move _ rfl rfl)) rfl rfl ?_
    refine Ch.step (v := (.d (.int .i64 (((p.1 : Nat) : Int) + 1)))) rfl (.pure (.int _ _ _ _ _ rfl rfl rfl (intV_add (by first | omega | (simp only [List.length_map, List.length_append, List.length_take, List.length_drop, List.length_cons, List.length_nil]; omega) | (simp; omega) | (simp; done)) (by first | omega | (simp only [List.length_map, List.length_append, List.length_take, List.length_drop, List.length_cons, List.length_nil]; omega) | (simp; omega) | (simp; done))))) rfl rfl ?_
    refine Ch.step (v := (.d (.int .i64 (((p.1 : Nat) : Int) + 1)))) rfl (.pure (.assign _ rfl rfl)) rfl rfl ?_
    refine Ch.nil ?_
    refine Exists.intro ((p.1 + 1, p.2.set p.1 (Arc.mk ((k + 4 * p.1 : Nat) : Int) ((k + 4 * p.1 + 1 : Nat) : Int) (decide ((((k + 4 * p.1 + 1 + 1) % 3 : Nat) : Int) = 0)) ((k + 4 * p.1 + 1 + 1 + 1 : Nat) : Int)))) (And.intro ⟨by dsimp only; omega, by dsimp only; rw [List.length_set]; exact hp0.2⟩ (And.intro (by first | omega | (dsimp only; omega)) (Wk.of rfl rfl (And.intro rfl (And.intro (vI (by first | rfl | omega | (simp; done) | (simp; omega))) (And.intro (vI (by first | rfl | omega | (simp; done) | (simp; omega))) trivial))) (And.intro (oR (by first | rfl | (rw [List.set_set, List.map_set]; rfl) | (rw [List.set_set, List.set_set, List.map_set]; rfl) | (rw [List.set_set, List.set_set, List.set_set, List.map_set]; rfl))) trivial))))
  · replace h1 := of_decide_eq_false h1
    refine T_exit ?_
    refine T_seq ?_
    refine T_region hc ?_
    refine Ch.step (v := (.d (.int .i64 ((k + 4 * p.1 : Nat) : Int)))) rfl (.pure (.move _ rfl rfl)) rfl rfl ?_
    refine Ch.step (v := (.d (.int .i64 ((k + 4 * p.1 : Nat) : Int)))) rfl (.pure (.assign _ rfl rfl)) rfl rfl ?_
    refine Ch.nil ?_
    refine T_ret ?_
    refine And.intro (.inr rfl) ?_
    exact Exists.intro [(.d (.int .i64 ((k + 4 * p.1 : Nat) : Int)))] (Exists.intro [] (Exists.intro [] (And.intro (.cons (.tmp 4 rfl) .nil) (And.intro (.cons (.any _) (.cons (.any _) .nil)) (And.intro (Exp.of (congrArg (D.int .i64) (by omega)) (.d _)) (And.intro rfl rfl))))))

theorem sp_laws_markStateGraph (x : Sgr) (k : Nat) (hb : x.bulk ≤ 1048576) (hk : k ≤ 1) : Sp Try.prog 40 [(.agg [(.slice true 2 (x.sigs.map Sgn.d)), (.slice true 1 (x.codes.map D.str)), (.slice true 4 (x.arcs.map Arc.d))]), (.int .i64 ((k : Nat) : Int))] [.any, .any] (.int .i64 ((k + 2 * x.sigs.length + x.codes.length + 4 * x.arcs.length : Nat) : Int)) := by
  refine Sp_intro (lend := false) Try.func40 rfl rfl rfl (fun h => nomatch h) (fun c hc hX => ?_)
  obtain ⟨hp0, hp1, hp2⟩ := Sgr.parts hb
  have hn0 := bulkF_len hp0
  have hn1 := bulk_len hp1
  have hx1 := bulk_mem hp1
  have hn2 := bulkF_len hp2
  refine T_seq ?_
  refine T_region hc ?_
  refine Ch.step (v := (.ptr 2000 0)) rfl (.box 2000 _ _ rfl (.agg _ rfl)) rfl rfl ?_
  refine Ch.step (v := (.d (.int .i64 0))) rfl (.pure (.assign _ rfl rfl)) rfl rfl ?_
  refine Ch.nil ?_
  refine T_seq ?_
  refine T_region hc ?_
  refine Ch.step (v := (.ptr 2000 0)) rfl (.pure (.fldPtr _ _ _ rfl fld52_0 rfl)) rfl rfl ?_
  refine Ch.step (v := (.row 1)) rfl (.pure (.loadPtr1 _ _ rfl ag29 rfl rfl rfl)) rfl rfl ?_
  refine Ch.step (v := (.d (.int .i64 ((k : Nat) : Int)))) rfl (.pure (.move _ rfl rfl)) rfl rfl ?_
  refine Ch.step (v := (.d (.int .i64 ((k + 2 * x.sigs.length : Nat) : Int)))) rfl (.call 8000 63 _ _ _ en63 rfl (.inl rfl) (.cons (.row rfl) (.cons (.d _) .nil)) rfl rfl (sp_laws_markSignalS x.sigs k (by first | assumption | omega | (rw [List.length_take]; omega) | (have := bulkF_mem hb _ (getD_mem (d := default) (by omega)); assumption) | (unfold bulkS at *; omega) | (simp_all; done)) (by first | assumption | omega | (rw [List.length_take]; omega) | (have := bulkF_mem hb _ (getD_mem (d := default) (by omega)); assumption) | (unfold bulkS at *; omega) | (simp_all; done))) (.skip _ _ (.skip _ _ .nil)) rfl) rfl rfl ?_
  refine Ch.step (v := (.d (.int .i64 ((k + 2 * x.sigs.length : Nat) : Int)))) rfl (.pure (.assign _ rfl rfl)) rfl rfl ?_
  refine Ch.nil ?_
  refine T_seq ?_
  refine T_region hc ?_
  refine Ch.step (v := (.ptr 2000 1)) rfl (.pure (.fldPtr _ _ _ rfl fld52_1 rfl)) rfl rfl ?_
  refine Ch.step (v := (.row 2)) rfl (.pure (.loadPtr1 _ _ rfl ag43 rfl rfl rfl)) rfl rfl ?_
  refine Ch.step (v := (.d (.int .i64 ((k + 2 * x.sigs.length : Nat) : Int)))) rfl (.pure (.move _ rfl rfl)) rfl rfl ?_
  refine Ch.step (v := (.d (.int .i64 (((k + 2 * x.sigs.length) + x.codes.length : Nat) : Int)))) rfl (.call 12000 41 _ _ _ en41 rfl (.inl rfl) (.cons (.row rfl) (.cons (.d _) .nil)) rfl (sol rfl (solids_c (solid_row (fun _ => rfl) _) rfl)) (sp_laws_markStringS x.codes (k + 2 * x.sigs.length) (by first | omega | assumption | (exact hx _ (getD_mem (by omega))) | (exact hx _ (by assumption)) | (exact Nat.le_trans (hx _ (by assumption)) (by omega)) | (simp only [List.length_append, List.length_take, List.length_drop, List.length_cons, List.length_nil]; omega) | (simp_all; done)) (by first | omega | assumption | (exact hx _ (getD_mem (by omega))) | (exact hx _ (by assumption)) | (exact Nat.le_trans (hx _ (by assumption)) (by omega)) | (simp only [List.length_append, List.length_take, List.length_drop, List.length_cons, List.length_nil]; omega) | (simp_all; done))) (.row _ _ _ (.skip _ _ .nil)) rfl) rfl rfl ?_
  refine Ch.step (v := (.d (.int .i64 (((k + 2 * x.sigs.length) + x.codes.length : Nat) : Int)))) rfl (.pure (.assign _ rfl rfl)) rfl rfl ?_
  refine Ch.nil ?_
  refine T_seq ?_
  refine T_region hc ?_
  refine Ch.step (v := (.ptr 2000 2)) rfl (.pure (.fldPtr _ _ _ rfl fld52_2 rfl)) rfl rfl ?_
  refine Ch.step (v := (.row 3)) rfl (.pure (.loadPtr1 _ _ rfl ag50 rfl rfl rfl)) rfl rfl ?_
  refine Ch.step (v := (.d (.int .i64 (((k + 2 * x.sigs.length) + x.codes.length : Nat) : Int)))) rfl (.pure (.move _ rfl rfl)) rfl rfl ?_
  refine Ch.step (v := (.d (.int .i64 ((((k + 2 * x.sigs.length) + x.codes.length) + 4 * x.arcs.length : Nat) : Int)))) rfl (.call 16000 95 _ _ _ en95 rfl (.inl rfl) (.cons (.row rfl) (.cons (.d _) .nil)) rfl rfl (sp_laws_markArcS x.arcs ((k + 2 * x.sigs.length) + x.codes.length) (by first | assumption | omega | (rw [List.length_take]; omega) | (have := bulkF_mem hb _ (getD_mem (d := default) (by omega)); assumption) | (unfold bulkS at *; omega) | (simp_all; done)) (by first | assumption | omega | (rw [List.length_take]; omega) | (have := bulkF_mem hb _ (getD_mem (d := default) (by omega)); assumption) | (unfold bulkS at *; omega) | (simp_all; done))) (.skip _ _ (.skip _ _ .nil)) rfl) rfl rfl ?_
  refine Ch.step (v := (.d (.int .i64 ((((k + 2 * x.sigs.length) + x.codes.length) + 4 * x.arcs.length : Nat) : Int)))) rfl (.pure (.assign _ rfl rfl)) rfl rfl ?_
  refine Ch.nil ?_
  refine T_seq ?_
  refine T_region hc ?_
  refine Ch.step (v := (.d (.int .i64 ((((k + 2 * x.sigs.length) + x.codes.length) + 4 * x.arcs.length : Nat) : Int)))) rfl (.pure (.move _ rfl rfl)) rfl rfl ?_
  refine Ch.step (v := (.d (.int .i64 ((((k + 2 * x.sigs.length) + x.codes.length) + 4 * x.arcs.length : Nat) : Int)))) rfl (.pure (.assign _ rfl rfl)) rfl rfl ?_
  refine Ch.nil ?_
  refine T_ret ?_
  refine And.intro (.inr rfl) ?_
  exact Exists.intro [(.d (.int .i64 ((((k + 2 * x.sigs.length) + x.codes.length) + 4 * x.arcs.length : Nat) : Int)))] (Exists.intro [] (Exists.intro [] (And.intro (.cons (.tmp 4 rfl) .nil) (And.intro (.cons (.any _) (.cons (.any _) .nil)) (And.intro (Exp.of (congrArg (D.int .i64) (by omega)) (.d _)) (And.intro rfl rfl))))))

structure SgOk (x : Sgr) : Prop where
  sigs : sigsB x.sigs = true
  eight : 1 ≤ x.sigs.length ∧ x.sigs.length ≤ 8
  len : 1 ≤ x.codes.length ∧ x.codes.length ≤ 300
  few : x.arcs.length ≤ 4000
  codes : allOf x.codes (fun u => codeN u (x.sigs.length : Int)) = true
  arcs : allOf x.arcs (arcB x) = true
  ends : ends x.codes.length x.arcs

theorem sg_has {x : Sgr} (h : sgB x = true) : SgOk x := by
  unfold sgB at h
  simp only [Bool.and_eq_true] at h
  obtain ⟨h1, h2, h3, h4, h5, _⟩ := h
  have h6 := within_iff h2
  have h7 := within_iff (sigsB_len h1)
  have h8 : ¬ (4000 : Int) < (x.arcs.length : Int) := by simpa using h3
  exact ⟨h1, by omega, by omega, by omega, h4, h5, arc_ends h5⟩

theorem SgOk.sig {x : Sgr} (h : SgOk x) : ∀ a ∈ x.arcs, a.sig < (x.sigs.length : Int) ∧ (0 ≤ a.sig ∨ a.sig = -1) := by
  intro a ha
  obtain ⟨j, hj, rfl⟩ := List.mem_iff_getElem.1 ha
  have := allB_true.1 h.arcs j hj
  rw [show x.arcs.getD j default = x.arcs[j] by simp [hj]] at this
  unfold arcB at this
  simp only [Bool.and_eq_true] at this
  have h2 := this.2.2.1
  unfold edgeB at h2
  simp only [Bool.or_eq_true, Bool.and_eq_true, decide_eq_true_iff] at h2
  have h8 := h.eight
  rcases h2 with h2 | h2
  · have := within_iff h2
    omega
  · have := h2.1
    omega

theorem en127 : Enters Try.prog 127 := ⟨_, Try.func127, by kernel_rfl, rfl⟩

theorem en126 : Enters Try.prog 126 := ⟨_, Try.func126, by kernel_rfl, rfl⟩

theorem en125 : Enters Try.prog 125 := ⟨_, Try.func125, by kernel_rfl, rfl⟩

theorem en76 : Enters Try.prog 76 := ⟨_, Try.func76, by kernel_rfl, rfl⟩

theorem en77 : Enters Try.prog 77 := ⟨_, Try.func77, by kernel_rfl, rfl⟩

theorem en74 : Enters Try.prog 74 := ⟨_, Try.func74, by kernel_rfl, rfl⟩

theorem en75 : Enters Try.prog 75 := ⟨_, Try.func75, by kernel_rfl, rfl⟩

theorem en30 : Enters Try.prog 30 := ⟨_, Try.func30, by kernel_rfl, rfl⟩

theorem en149 : Enters Try.prog 149 := ⟨_, Try.func149, by kernel_rfl, rfl⟩

theorem en98 : Enters Try.prog 98 := ⟨_, Try.func98, by kernel_rfl, rfl⟩

theorem en84 : Enters Try.prog 84 := ⟨_, Try.func84, by kernel_rfl, rfl⟩

theorem en97 : Enters Try.prog 97 := ⟨_, Try.func97, by kernel_rfl, rfl⟩

theorem en43 : Enters Try.prog 43 := ⟨_, Try.func43, by kernel_rfl, rfl⟩

theorem en44 : Enters Try.prog 44 := ⟨_, Try.func44, by kernel_rfl, rfl⟩

theorem en20 : Enters Try.prog 20 := ⟨_, Try.func20, by kernel_rfl, rfl⟩

theorem en40 : Enters Try.prog 40 := ⟨_, Try.func40, by kernel_rfl, rfl⟩

theorem en22 : Enters Try.prog 22 := ⟨_, Try.func22, by kernel_rfl, rfl⟩

theorem en23 : Enters Try.prog 23 := ⟨_, Try.func23, by kernel_rfl, rfl⟩

def nextCh (a b : UInt8) : Bool := decide ([a, b] = [48, 43]) || (decide ([a, b] = [43, 49]) || (decide ([a, b] = [49, 45]) || (decide ([a, b] = [45, 48]) || (decide ([a, b] = [43, 45]) || (decide ([a, b] = [45, 43]) || decide (a = b))))))

def roundAt (a b : UInt8) (j : Nat) : Bool := decide (([48, 43, 49, 45, 48] : List UInt8).getD j 0 = a) && decide (([48, 43, 49, 45, 48] : List UInt8).getD (j + 1) 0 = b)

theorem next_flip {a b : UInt8} (h : (a = 43 ∧ b = 45) ∨ (a = 45 ∧ b = 43)) : nextCh a b = true := by
  rcases h with ⟨rfl, rfl⟩ | ⟨rfl, rfl⟩ <;> decide

theorem next_round {a b : UInt8} (j : Nat) (hj : j < 4) (h : roundAt a b j = true) : nextCh a b = true := by
  unfold roundAt at h
  rw [Bool.and_eq_true, decide_eq_true_iff, decide_eq_true_iff] at h
  obtain ⟨rfl, rfl⟩ := h
  match j, hj with
  | 0, _ => rfl
  | 1, _ => rfl
  | 2, _ => rfl
  | 3, _ => rfl

theorem duo_eq {a b c d : UInt8} : [a, b] = [c, d] ↔ a = c ∧ b = d := by simp

theorem next_end {a b : UInt8} (h1 : ¬ (a = 43 ∧ b = 45)) (h2 : ¬ (a = 45 ∧ b = 43)) (h : ∀ j, j < 4 → roundAt a b j = false) : decide (a = b) = nextCh a b := by
  have n : ∀ j, j < 4 → ¬ (([48, 43, 49, 45, 48] : List UInt8).getD j 0 = a ∧ ([48, 43, 49, 45, 48] : List UInt8).getD (j + 1) 0 = b) := by
    intro j hj hc
    have := h j hj
    unfold roundAt at this
    rw [decide_eq_true hc.1, decide_eq_true hc.2] at this
    cases this
  have e0 := n 0 (by omega)
  have e1 := n 1 (by omega)
  have e2 := n 2 (by omega)
  have e3 := n 3 (by omega)
  have fe0 : decide ([a, b] = [48, 43]) = false := decide_eq_false (fun e => e0 ⟨(duo_eq.1 e).1.symm, (duo_eq.1 e).2.symm⟩)
  have fe1 : decide ([a, b] = [43, 49]) = false := decide_eq_false (fun e => e1 ⟨(duo_eq.1 e).1.symm, (duo_eq.1 e).2.symm⟩)
  have fe2 : decide ([a, b] = [49, 45]) = false := decide_eq_false (fun e => e2 ⟨(duo_eq.1 e).1.symm, (duo_eq.1 e).2.symm⟩)
  have fe3 : decide ([a, b] = [45, 48]) = false := decide_eq_false (fun e => e3 ⟨(duo_eq.1 e).1.symm, (duo_eq.1 e).2.symm⟩)
  have f4 : decide ([a, b] = [43, 45]) = false := decide_eq_false (fun e => h1 (duo_eq.1 e))
  have f5 : decide ([a, b] = [45, 43]) = false := decide_eq_false (fun e => h2 (duo_eq.1 e))
  unfold nextCh
  rw [fe0, fe1, fe2, fe3, f4, f5]
  rfl

theorem round_no1 {a b : UInt8} {j : Nat} (h : ¬ ([48, 43, 49, 45, 48] : List UInt8).getD j 0 = a) : roundAt a b j = false := by rw [roundAt, decide_eq_false h, Bool.false_and]

theorem round_no2 {a b : UInt8} {j : Nat} (h : ¬ ([48, 43, 49, 45, 48] : List UInt8).getD (j + 1) 0 = b) : roundAt a b j = false := by rw [roundAt, decide_eq_false h, Bool.and_false]

theorem round_yes {a b : UInt8} {j : Nat} (h1 : ([48, 43, 49, 45, 48] : List UInt8).getD j 0 = a) (h2 : ([48, 43, 49, 45, 48] : List UInt8).getD (j + 1) 0 = b) : roundAt a b j = true := by rw [roundAt, decide_eq_true h1, decide_eq_true h2]; rfl

def signOk (c : UInt8) : Bool := decide (c = 48) || (decide (c = 43) || (decide (c = 49) || decide (c = 45)))

def formB (x : Sgr) (u : List UInt8) : Bool := allB u.length (fun j => signOk (u.getD j 0)) && (decide ((u.length : Int) = (x.codes.length : Int)) && sgB x)

def goArc (u : List UInt8) (a : Arc) : Bool := nextCh (u.getD a.src.toNat 0) (u.getD a.dst.toNat 0)

def partB (x : Sgr) (u : List UInt8) : Bool := allOf x.arcs (goArc u)

def ivB (x : Sgr) (u : List UInt8) : Bool := formB x u && partB x u

def waitB (u : List UInt8) (a : Arc) : Bool := (decide (u.getD a.src.toNat 0 = 43) && (decide (u.getD a.dst.toNat 0 = 49) || decide (u.getD a.dst.toNat 0 = 45))) || (decide (u.getD a.src.toNat 0 = 45) && (decide (u.getD a.dst.toNat 0 = 48) || decide (u.getD a.dst.toNat 0 = 43)))

def delP (x : Sgr) (u : List UInt8) (j : Nat) : Bool := waitB u (x.arcs.getD j default)

def delK (x : Sgr) (u : List UInt8) (k : Nat) : List Int := selTo k (delP x u) fun j => (j : Int)

def delL (x : Sgr) (u : List UInt8) : List Int := delK x u x.arcs.length

theorem delK_le (x : Sgr) (u : List UInt8) (k : Nat) : (delK x u k).length ≤ k := selTo_le _ _ _

theorem delL_le (x : Sgr) (u : List UInt8) : (delL x u).length ≤ x.arcs.length := delK_le x u _

def delV (x : Sgr) (u : List UInt8) : List Int := if ivB x u then delL x u else []

theorem form_has {x : Sgr} {u : List UInt8} (h : formB x u = true) : sgB x = true ∧ u.length = x.codes.length := by
  unfold formB at h
  simp only [Bool.and_eq_true, decide_eq_true_iff] at h
  exact ⟨h.2.2, by omega⟩

theorem iv_has {x : Sgr} {u : List UInt8} (h : ivB x u = true) : sgB x = true ∧ u.length = x.codes.length := by
  unfold ivB at h
  rw [Bool.and_eq_true] at h
  exact form_has h.1

theorem part_any (x : Sgr) (u : List UInt8) : (!x.arcs.any fun a => !goArc u a) = partB x u := by rw [any_not, Bool.not_not]; rfl

theorem delV_le (x : Sgr) (u : List UInt8) : (delV x u).length ≤ x.arcs.length := by
  unfold delV; split
  · exact delL_le x u
  · exact Nat.zero_le _

theorem delV_no {x : Sgr} {u : List UInt8} (h : ivB x u = false) : delV x u = [] := by rw [delV, h]; rfl

theorem ivB_no {x : Sgr} {u : List UInt8} (h : formB x u = false) : ivB x u = false := by rw [ivB, h]; rfl

theorem sp_impl_mayFollow (a b : UInt8) : Sp Try.prog 127 [(.int .u8 (a.toNat : Int)), (.int .u8 (b.toNat : Int))] [.any, .any] (.bool (nextCh a b)) := by
  refine Sp_intro (lend := true) Try.func127 rfl rfl rfl (fun _ => rfl) (fun c hc hX => ?_)
  refine T_seq ?_
  refine T_region hc ?_
  refine Ch.step (v := (.d (.bool false))) rfl (.pure (.assign _ rfl rfl)) rfl rfl ?_
  refine Ch.nil ?_
  refine T_seq ?_
  refine T_seq ?_
  refine T_region hc ?_
  refine Ch.step (v := (.d (.int .u8 (a.toNat : Int)))) rfl (.pure (.move _ rfl rfl)) rfl rfl ?_
  refine Ch.step (v := (.d (.int .u8 (b.toNat : Int)))) rfl (.pure (.move _ rfl rfl)) rfl rfl ?_
  refine Ch.step (v := (.row 7000)) rfl (.slice 7000 _ 5 _ rfl sty90 (xs := [.tmp 5, .tmp 6]) rfl rfl (.cons (.d _) (.cons (.d _) .nil)) rfl rfl (by decide)) rfl rfl ?_
  refine Ch.step (v := (.d (.str [a, b]))) rfl (.string (l := [a, b]) _ _ _ _ rfl Try.underlying90 Try.underlying5 Try.underlying9 (by first | exact (.row rfl rfl) | exact (.row rfl rfl))) rfl rfl ?_
  refine Ch.nil ?_
  refine T_block ?_
  refine T_seq ?_
  refine T_seq ?_
  refine T_region hc ?_
  refine Ch.step (v := (.d (.bool (decide ([a, b] = [48, 43]))))) rfl (.pure (.str _ _ _ _ _ rfl rfl rfl rfl)) rfl rfl ?_
  refine Ch.step (v := (.d (.bool (decide ([a, b] = [48, 43]))))) rfl (.pure (.assign _ rfl rfl)) rfl rfl ?_
  refine Ch.nil ?_
  refine T_cond (b := (decide ([a, b] = [48, 43]))) rfl (fun h1 => ?_) (fun h1 => ?_)
  · replace h1 := of_decide_eq_true h1
    refine T_skip ?_
    refine T_cond (b := (decide ([a, b] = [48, 43]))) rfl (fun h2 => ?_) (fun h2 => ?_)
    · replace h2 := of_decide_eq_true h2
      refine T_seq ?_
      refine T_region hc ?_
      refine Ch.step (v := (.d (.bool true))) rfl (.pure (.assign _ rfl rfl)) rfl rfl ?_
      refine Ch.nil ?_
      refine T_ret ?_
      refine And.intro (.inr rfl) ?_
      exact Exists.intro [(.d (.bool true))] (Exists.intro [] (Exists.intro [] (And.intro (.cons (.tmp 4 rfl) .nil) (And.intro (.cons (.any _) (.cons (.any _) .nil)) (And.intro (Exp.of (congrArg D.bool (by first | contradiction | (unfold nextCh; simp only [*, decide_true, decide_false, Bool.true_or, Bool.false_or, Bool.or_true]; done))) (.d _)) (And.intro rfl rfl))))))
    · replace h2 := of_decide_eq_false h2
      refine T_skip ?_
      refine T_seq ?_
      refine T_region hc ?_
      refine Ch.step (v := (.d (.int .u8 (a.toNat : Int)))) rfl (.pure (.move _ rfl rfl)) rfl rfl ?_
      refine Ch.step (v := (.d (.int .u8 (b.toNat : Int)))) rfl (.pure (.move _ rfl rfl)) rfl rfl ?_
      refine Ch.step (v := (.d (.bool (decide ((a : UInt8) = b))))) rfl (.pure (.int _ _ _ _ _ rfl rfl rfl (u8_eql (a : UInt8) b rfl rfl))) rfl rfl ?_
      refine Ch.step (v := (.d (.bool (decide ((a : UInt8) = b))))) rfl (.pure (.assign _ rfl rfl)) rfl rfl ?_
      refine Ch.nil ?_
      refine T_ret ?_
      refine And.intro (.inr rfl) ?_
      exact Exists.intro [(.d (.bool (decide ((a : UInt8) = b))))] (Exists.intro [] (Exists.intro [] (And.intro (.cons (.tmp 4 rfl) .nil) (And.intro (.cons (.any _) (.cons (.any _) .nil)) (And.intro (Exp.of (congrArg D.bool (by first | contradiction | (unfold nextCh; simp only [*, decide_true, decide_false, Bool.true_or, Bool.false_or, Bool.or_true]; done))) (.d _)) (And.intro rfl rfl))))))
  · replace h1 := of_decide_eq_false h1
    refine T_seq ?_
    refine T_region hc ?_
    refine Ch.step (v := (.d (.bool (decide ([a, b] = [43, 49]))))) rfl (.pure (.str _ _ _ _ _ rfl rfl rfl rfl)) rfl rfl ?_
    refine Ch.step (v := (.d (.bool (decide ([a, b] = [43, 49]))))) rfl (.pure (.assign _ rfl rfl)) rfl rfl ?_
    refine Ch.nil ?_
    refine T_cond (b := (decide ([a, b] = [43, 49]))) rfl (fun h3 => ?_) (fun h3 => ?_)
    · replace h3 := of_decide_eq_true h3
      refine T_skip ?_
      refine T_cond (b := (decide ([a, b] = [43, 49]))) rfl (fun h4 => ?_) (fun h4 => ?_)
      · replace h4 := of_decide_eq_true h4
        refine T_seq ?_
        refine T_region hc ?_
        refine Ch.step (v := (.d (.bool true))) rfl (.pure (.assign _ rfl rfl)) rfl rfl ?_
        refine Ch.nil ?_
        refine T_ret ?_
        refine And.intro (.inr rfl) ?_
        exact Exists.intro [(.d (.bool true))] (Exists.intro [] (Exists.intro [] (And.intro (.cons (.tmp 4 rfl) .nil) (And.intro (.cons (.any _) (.cons (.any _) .nil)) (And.intro (Exp.of (congrArg D.bool (by first | contradiction | (unfold nextCh; simp only [*, decide_true, decide_false, Bool.true_or, Bool.false_or, Bool.or_true]; done))) (.d _)) (And.intro rfl rfl))))))
      · replace h4 := of_decide_eq_false h4
        refine T_skip ?_
        refine T_seq ?_
        refine T_region hc ?_
        refine Ch.step (v := (.d (.int .u8 (a.toNat : Int)))) rfl (.pure (.move _ rfl rfl)) rfl rfl ?_
        refine Ch.step (v := (.d (.int .u8 (b.toNat : Int)))) rfl (.pure (.move _ rfl rfl)) rfl rfl ?_
        refine Ch.step (v := (.d (.bool (decide ((a : UInt8) = b))))) rfl (.pure (.int _ _ _ _ _ rfl rfl rfl (u8_eql (a : UInt8) b rfl rfl))) rfl rfl ?_
        refine Ch.step (v := (.d (.bool (decide ((a : UInt8) = b))))) rfl (.pure (.assign _ rfl rfl)) rfl rfl ?_
        refine Ch.nil ?_
        refine T_ret ?_
        refine And.intro (.inr rfl) ?_
        exact Exists.intro [(.d (.bool (decide ((a : UInt8) = b))))] (Exists.intro [] (Exists.intro [] (And.intro (.cons (.tmp 4 rfl) .nil) (And.intro (.cons (.any _) (.cons (.any _) .nil)) (And.intro (Exp.of (congrArg D.bool (by first | contradiction | (unfold nextCh; simp only [*, decide_true, decide_false, Bool.true_or, Bool.false_or, Bool.or_true]; done))) (.d _)) (And.intro rfl rfl))))))
    · replace h3 := of_decide_eq_false h3
      refine T_seq ?_
      refine T_region hc ?_
      refine Ch.step (v := (.d (.bool (decide ([a, b] = [49, 45]))))) rfl (.pure (.str _ _ _ _ _ rfl rfl rfl rfl)) rfl rfl ?_
      refine Ch.step (v := (.d (.bool (decide ([a, b] = [49, 45]))))) rfl (.pure (.assign _ rfl rfl)) rfl rfl ?_
      refine Ch.nil ?_
      refine T_cond (b := (decide ([a, b] = [49, 45]))) rfl (fun h5 => ?_) (fun h5 => ?_)
      · replace h5 := of_decide_eq_true h5
        refine T_skip ?_
        refine T_cond (b := (decide ([a, b] = [49, 45]))) rfl (fun h6 => ?_) (fun h6 => ?_)
        · replace h6 := of_decide_eq_true h6
          refine T_seq ?_
          refine T_region hc ?_
          refine Ch.step (v := (.d (.bool true))) rfl (.pure (.assign _ rfl rfl)) rfl rfl ?_
          refine Ch.nil ?_
          refine T_ret ?_
          refine And.intro (.inr rfl) ?_
          exact Exists.intro [(.d (.bool true))] (Exists.intro [] (Exists.intro [] (And.intro (.cons (.tmp 4 rfl) .nil) (And.intro (.cons (.any _) (.cons (.any _) .nil)) (And.intro (Exp.of (congrArg D.bool (by first | contradiction | (unfold nextCh; simp only [*, decide_true, decide_false, Bool.true_or, Bool.false_or, Bool.or_true]; done))) (.d _)) (And.intro rfl rfl))))))
        · replace h6 := of_decide_eq_false h6
          refine T_skip ?_
          refine T_seq ?_
          refine T_region hc ?_
          refine Ch.step (v := (.d (.int .u8 (a.toNat : Int)))) rfl (.pure (.move _ rfl rfl)) rfl rfl ?_
          refine Ch.step (v := (.d (.int .u8 (b.toNat : Int)))) rfl (.pure (.move _ rfl rfl)) rfl rfl ?_
          refine Ch.step (v := (.d (.bool (decide ((a : UInt8) = b))))) rfl (.pure (.int _ _ _ _ _ rfl rfl rfl (u8_eql (a : UInt8) b rfl rfl))) rfl rfl ?_
          refine Ch.step (v := (.d (.bool (decide ((a : UInt8) = b))))) rfl (.pure (.assign _ rfl rfl)) rfl rfl ?_
          refine Ch.nil ?_
          refine T_ret ?_
          refine And.intro (.inr rfl) ?_
          exact Exists.intro [(.d (.bool (decide ((a : UInt8) = b))))] (Exists.intro [] (Exists.intro [] (And.intro (.cons (.tmp 4 rfl) .nil) (And.intro (.cons (.any _) (.cons (.any _) .nil)) (And.intro (Exp.of (congrArg D.bool (by first | contradiction | (unfold nextCh; simp only [*, decide_true, decide_false, Bool.true_or, Bool.false_or, Bool.or_true]; done))) (.d _)) (And.intro rfl rfl))))))
      · replace h5 := of_decide_eq_false h5
        refine T_seq ?_
        refine T_region hc ?_
        refine Ch.step (v := (.d (.bool (decide ([a, b] = [45, 48]))))) rfl (.pure (.str _ _ _ _ _ rfl rfl rfl rfl)) rfl rfl ?_
        refine Ch.step (v := (.d (.bool (decide ([a, b] = [45, 48]))))) rfl (.pure (.assign _ rfl rfl)) rfl rfl ?_
        refine Ch.nil ?_
        refine T_cond (b := (decide ([a, b] = [45, 48]))) rfl (fun h7 => ?_) (fun h7 => ?_)
        · replace h7 := of_decide_eq_true h7
          refine T_skip ?_
          refine T_cond (b := (decide ([a, b] = [45, 48]))) rfl (fun h8 => ?_) (fun h8 => ?_)
          · replace h8 := of_decide_eq_true h8
            refine T_seq ?_
            refine T_region hc ?_
            refine Ch.step (v := (.d (.bool true))) rfl (.pure (.assign _ rfl rfl)) rfl rfl ?_
            refine Ch.nil ?_
            refine T_ret ?_
            refine And.intro (.inr rfl) ?_
            exact Exists.intro [(.d (.bool true))] (Exists.intro [] (Exists.intro [] (And.intro (.cons (.tmp 4 rfl) .nil) (And.intro (.cons (.any _) (.cons (.any _) .nil)) (And.intro (Exp.of (congrArg D.bool (by first | contradiction | (unfold nextCh; simp only [*, decide_true, decide_false, Bool.true_or, Bool.false_or, Bool.or_true]; done))) (.d _)) (And.intro rfl rfl))))))
          · replace h8 := of_decide_eq_false h8
            refine T_skip ?_
            refine T_seq ?_
            refine T_region hc ?_
            refine Ch.step (v := (.d (.int .u8 (a.toNat : Int)))) rfl (.pure (.move _ rfl rfl)) rfl rfl ?_
            refine Ch.step (v := (.d (.int .u8 (b.toNat : Int)))) rfl (.pure (.move _ rfl rfl)) rfl rfl ?_
            refine Ch.step (v := (.d (.bool (decide ((a : UInt8) = b))))) rfl (.pure (.int _ _ _ _ _ rfl rfl rfl (u8_eql (a : UInt8) b rfl rfl))) rfl rfl ?_
            refine Ch.step (v := (.d (.bool (decide ((a : UInt8) = b))))) rfl (.pure (.assign _ rfl rfl)) rfl rfl ?_
            refine Ch.nil ?_
            refine T_ret ?_
            refine And.intro (.inr rfl) ?_
            exact Exists.intro [(.d (.bool (decide ((a : UInt8) = b))))] (Exists.intro [] (Exists.intro [] (And.intro (.cons (.tmp 4 rfl) .nil) (And.intro (.cons (.any _) (.cons (.any _) .nil)) (And.intro (Exp.of (congrArg D.bool (by first | contradiction | (unfold nextCh; simp only [*, decide_true, decide_false, Bool.true_or, Bool.false_or, Bool.or_true]; done))) (.d _)) (And.intro rfl rfl))))))
        · replace h7 := of_decide_eq_false h7
          refine T_seq ?_
          refine T_region hc ?_
          refine Ch.step (v := (.d (.bool (decide ([a, b] = [43, 45]))))) rfl (.pure (.str _ _ _ _ _ rfl rfl rfl rfl)) rfl rfl ?_
          refine Ch.step (v := (.d (.bool (decide ([a, b] = [43, 45]))))) rfl (.pure (.assign _ rfl rfl)) rfl rfl ?_
          refine Ch.nil ?_
          refine T_cond (b := (decide ([a, b] = [43, 45]))) rfl (fun h9 => ?_) (fun h9 => ?_)
          · replace h9 := of_decide_eq_true h9
            refine T_skip ?_
            refine T_cond (b := (decide ([a, b] = [43, 45]))) rfl (fun h10 => ?_) (fun h10 => ?_)
            · replace h10 := of_decide_eq_true h10
              refine T_seq ?_
              refine T_region hc ?_
              refine Ch.step (v := (.d (.bool true))) rfl (.pure (.assign _ rfl rfl)) rfl rfl ?_
              refine Ch.nil ?_
              refine T_ret ?_
              refine And.intro (.inr rfl) ?_
              exact Exists.intro [(.d (.bool true))] (Exists.intro [] (Exists.intro [] (And.intro (.cons (.tmp 4 rfl) .nil) (And.intro (.cons (.any _) (.cons (.any _) .nil)) (And.intro (Exp.of (congrArg D.bool (by first | contradiction | (unfold nextCh; simp only [*, decide_true, decide_false, Bool.true_or, Bool.false_or, Bool.or_true]; done))) (.d _)) (And.intro rfl rfl))))))
            · replace h10 := of_decide_eq_false h10
              refine T_skip ?_
              refine T_seq ?_
              refine T_region hc ?_
              refine Ch.step (v := (.d (.int .u8 (a.toNat : Int)))) rfl (.pure (.move _ rfl rfl)) rfl rfl ?_
              refine Ch.step (v := (.d (.int .u8 (b.toNat : Int)))) rfl (.pure (.move _ rfl rfl)) rfl rfl ?_
              refine Ch.step (v := (.d (.bool (decide ((a : UInt8) = b))))) rfl (.pure (.int _ _ _ _ _ rfl rfl rfl (u8_eql (a : UInt8) b rfl rfl))) rfl rfl ?_
              refine Ch.step (v := (.d (.bool (decide ((a : UInt8) = b))))) rfl (.pure (.assign _ rfl rfl)) rfl rfl ?_
              refine Ch.nil ?_
              refine T_ret ?_
              refine And.intro (.inr rfl) ?_
              exact Exists.intro [(.d (.bool (decide ((a : UInt8) = b))))] (Exists.intro [] (Exists.intro [] (And.intro (.cons (.tmp 4 rfl) .nil) (And.intro (.cons (.any _) (.cons (.any _) .nil)) (And.intro (Exp.of (congrArg D.bool (by first | contradiction | (unfold nextCh; simp only [*, decide_true, decide_false, Bool.true_or, Bool.false_or, Bool.or_true]; done))) (.d _)) (And.intro rfl rfl))))))
          · replace h9 := of_decide_eq_false h9
            refine T_region hc ?_
            refine Ch.step (v := (.d (.bool (decide ([a, b] = [45, 43]))))) rfl (.pure (.str _ _ _ _ _ rfl rfl rfl rfl)) rfl rfl ?_
            refine Ch.step (v := (.d (.bool (decide ([a, b] = [45, 43]))))) rfl (.pure (.assign _ rfl rfl)) rfl rfl ?_
            refine Ch.nil ?_
            refine T_cond (b := (decide ([a, b] = [45, 43]))) rfl (fun h11 => ?_) (fun h11 => ?_)
            · replace h11 := of_decide_eq_true h11
              refine T_seq ?_
              refine T_region hc ?_
              refine Ch.step (v := (.d (.bool true))) rfl (.pure (.assign _ rfl rfl)) rfl rfl ?_
              refine Ch.nil ?_
              refine T_ret ?_
              refine And.intro (.inr rfl) ?_
              exact Exists.intro [(.d (.bool true))] (Exists.intro [] (Exists.intro [] (And.intro (.cons (.tmp 4 rfl) .nil) (And.intro (.cons (.any _) (.cons (.any _) .nil)) (And.intro (Exp.of (congrArg D.bool (by first | contradiction | (unfold nextCh; simp only [*, decide_true, decide_false, Bool.true_or, Bool.false_or, Bool.or_true]; done))) (.d _)) (And.intro rfl rfl))))))
            · replace h11 := of_decide_eq_false h11
              refine T_skip ?_
              refine T_seq ?_
              refine T_region hc ?_
              refine Ch.step (v := (.d (.int .u8 (a.toNat : Int)))) rfl (.pure (.move _ rfl rfl)) rfl rfl ?_
              refine Ch.step (v := (.d (.int .u8 (b.toNat : Int)))) rfl (.pure (.move _ rfl rfl)) rfl rfl ?_
              refine Ch.step (v := (.d (.bool (decide ((a : UInt8) = b))))) rfl (.pure (.int _ _ _ _ _ rfl rfl rfl (u8_eql (a : UInt8) b rfl rfl))) rfl rfl ?_
              refine Ch.step (v := (.d (.bool (decide ((a : UInt8) = b))))) rfl (.pure (.assign _ rfl rfl)) rfl rfl ?_
              refine Ch.nil ?_
              refine T_ret ?_
              refine And.intro (.inr rfl) ?_
              exact Exists.intro [(.d (.bool (decide ((a : UInt8) = b))))] (Exists.intro [] (Exists.intro [] (And.intro (.cons (.tmp 4 rfl) .nil) (And.intro (.cons (.any _) (.cons (.any _) .nil)) (And.intro (Exp.of (congrArg D.bool (by first | contradiction | (unfold nextCh; simp only [*, decide_true, decide_false, Bool.true_or, Bool.false_or, Bool.or_true]; done))) (.d _)) (And.intro rfl rfl))))))

theorem sp_spec_l11Next (a b : UInt8) : Sp Try.prog 125 [(.int .u8 (a.toNat : Int)), (.int .u8 (b.toNat : Int))] [.any, .any] (.bool (nextCh a b)) := by
  refine Sp_intro (lend := true) Try.func125 rfl rfl rfl (fun _ => rfl) (fun c hc hX => ?_)
  refine T_seq ?_
  refine T_region hc ?_
  refine Ch.step (v := (.d (.bool false))) rfl (.pure (.assign _ rfl rfl)) rfl rfl ?_
  refine Ch.nil ?_
  refine T_seq ?_
  refine T_region hc ?_
  refine Ch.step (v := (.d (.str [48, 43, 49, 45, 48]))) rfl (.pure (.assign _ rfl rfl)) rfl rfl ?_
  refine Ch.nil ?_
  refine T_seq ?_
  refine T_seq ?_
  refine T_region hc ?_
  refine Ch.step (v := (.d (.int .u8 (a.toNat : Int)))) rfl (.pure (.move _ rfl rfl)) rfl rfl ?_
  refine Ch.step (v := (.d (.bool (decide ((a : UInt8) = 43))))) rfl (.pure (.int _ _ _ _ _ rfl rfl rfl (u8_eql (a : UInt8) 43 rfl rfl))) rfl rfl ?_
  refine Ch.step (v := (.d (.bool (decide ((a : UInt8) = 43))))) rfl (.pure (.move _ rfl rfl)) rfl rfl ?_
  cases h1 : (decide ((a : UInt8) = 43)) with
  | true =>
    replace h1 := of_decide_eq_true h1
    refine Ch.step (v := (.d (.int .u8 (b.toNat : Int)))) rfl (.pure (.move _ rfl rfl)) rfl rfl ?_
    refine Ch.step (v := (.d (.bool (decide ((b : UInt8) = 45))))) rfl (.pure (.int _ _ _ _ _ rfl rfl rfl (u8_eql (b : UInt8) 45 rfl rfl))) rfl rfl ?_
    refine Ch.step (v := (.d (.bool (decide ((b : UInt8) = 45))))) rfl (.pure (.pickT _ _ _ rfl rfl rfl)) rfl rfl ?_
    refine Ch.step (v := (.d (.bool (decide ((b : UInt8) = 45))))) rfl (.pure (.move _ rfl rfl)) rfl rfl ?_
    cases h2 : (decide ((b : UInt8) = 45)) with
    | true =>
      replace h2 := of_decide_eq_true h2
      refine Ch.skip rfl rfl ?_
      refine Ch.skip rfl rfl ?_
      refine Ch.skip rfl rfl ?_
      refine Ch.skip rfl rfl ?_
      refine Ch.skip rfl rfl ?_
      refine Ch.skip rfl rfl ?_
      refine Ch.step (v := (.d (.bool true))) rfl (.pure (.pickT _ _ _ rfl rfl rfl)) rfl rfl ?_
      refine Ch.nil ?_
      refine T_cond (b := true) rfl (fun _ => ?_) (fun h => nomatch h)
      refine T_seq ?_
      refine T_region hc ?_
      refine Ch.step (v := (.d (.bool true))) rfl (.pure (.assign _ rfl rfl)) rfl rfl ?_
      refine Ch.nil ?_
      refine T_ret ?_
      refine And.intro (.inr rfl) ?_
      exact Exists.intro [(.d (.bool true))] (Exists.intro [] (Exists.intro [] (And.intro (.cons (.tmp 4 rfl) .nil) (And.intro (.cons (.any _) (.cons (.any _) .nil)) (And.intro (Exp.of (congrArg D.bool (by exact (next_flip (.inl ⟨by assumption, by assumption⟩)).symm)) (.d _)) (And.intro rfl rfl))))))
    | false =>
      replace h2 := of_decide_eq_false h2
      refine Ch.step (v := (.d (.int .u8 (a.toNat : Int)))) rfl (.pure (.move _ rfl rfl)) rfl rfl ?_
      refine Ch.step (v := (.d (.bool (decide ((a : UInt8) = 45))))) rfl (.pure (.int _ _ _ _ _ rfl rfl rfl (u8_eql (a : UInt8) 45 rfl rfl))) rfl rfl ?_
      refine Ch.step (v := (.d (.bool (decide ((a : UInt8) = 45))))) rfl (.pure (.move _ rfl rfl)) rfl rfl ?_
      cases h3 : (decide ((a : UInt8) = 45)) with
      | true =>
        replace h3 := of_decide_eq_true h3
        refine Ch.step (v := (.d (.int .u8 (b.toNat : Int)))) rfl (.pure (.move _ rfl rfl)) rfl rfl ?_
        refine Ch.step (v := (.d (.bool (decide ((b : UInt8) = 43))))) rfl (.pure (.int _ _ _ _ _ rfl rfl rfl (u8_eql (b : UInt8) 43 rfl rfl))) rfl rfl ?_
        refine Ch.step (v := (.d (.bool (decide ((b : UInt8) = 43))))) rfl (.pure (.pickT _ _ _ rfl rfl rfl)) rfl rfl ?_
        refine Ch.step (v := (.d (.bool (decide ((b : UInt8) = 43))))) rfl (.pure (.pickF _ _ _ rfl rfl rfl)) rfl rfl ?_
        refine Ch.nil ?_
        refine T_cond (b := (decide ((b : UInt8) = 43))) rfl (fun h4 => ?_) (fun h4 => ?_)
        · replace h4 := of_decide_eq_true h4
          refine T_seq ?_
          refine T_region hc ?_
          refine Ch.step (v := (.d (.bool true))) rfl (.pure (.assign _ rfl rfl)) rfl rfl ?_
          refine Ch.nil ?_
          refine T_ret ?_
          refine And.intro (.inr rfl) ?_
          exact Exists.intro [(.d (.bool true))] (Exists.intro [] (Exists.intro [] (And.intro (.cons (.tmp 4 rfl) .nil) (And.intro (.cons (.any _) (.cons (.any _) .nil)) (And.intro (Exp.of (congrArg D.bool (by first | (exact (next_flip (.inr ⟨by assumption, by assumption⟩)).symm) | (exact (next_round k (by omega) (round_yes (by assumption) (by assumption))).symm) | (exact next_end (fun e => by simp_all; done) (fun e => by simp_all; done) (fun j hj => hp0.2 j (by omega))))) (.d _)) (And.intro rfl rfl))))))
        · replace h4 := of_decide_eq_false h4
          refine T_skip ?_
          refine T_seq ?_
          refine T_seq ?_
          refine T_region hc ?_
          refine Ch.step (v := (.d (.int .i64 0))) rfl (.pure (.assign _ rfl rfl)) rfl rfl ?_
          refine Ch.nil ?_
          refine T_block ?_
          refine T_loop (ι := Nat) (fun k => { n := 44, sl := [(0, (.d (.int .u8 (a.toNat : Int)))), (1, (.d (.int .u8 (b.toNat : Int)))), (5, (.d (.str [48, 43, 49, 45, 48]))), (6, (.d (.int .i64 ((k : Nat) : Int))))], hp := [], pin := [] }) (fun k => k ≤ 4 ∧ ∀ j, j < k → roundAt a b j = false) (fun k => 4 - k) ⟨0, ⟨by omega, fun j hj => by omega⟩, (Wk.of rfl rfl (And.intro rfl (And.intro rfl (And.intro rfl (And.intro (vI (by first | rfl | omega | (simp; done) | (simp; omega))) trivial)))) trivial)⟩ (fun k hp0 => ?_)
          refine T_seq ?_
          refine T_seq ?_
          refine T_region hc ?_
          refine Ch.step (v := (.d (.int .i64 ((k : Nat) : Int)))) rfl (.pure (.move _ rfl rfl)) rfl rfl ?_
          refine Ch.step (v := (.d (.int .i64 (((k : Nat) : Int) + 1)))) rfl (.pure (.int _ _ _ _ _ rfl rfl rfl (intV_add (by first | omega | (simp only [List.length_map, List.length_append, List.length_take, List.length_drop, List.length_cons, List.length_nil]; omega) | (simp; omega) | (simp; done)) (by first | omega | (simp only [List.length_map, List.length_append, List.length_take, List.length_drop, List.length_cons, List.length_nil]; omega) | (simp; omega) | (simp; done))))) rfl rfl ?_
          refine Ch.step (v := (.d (.str [48, 43, 49, 45, 48]))) rfl (.pure (.move _ rfl rfl)) rfl rfl ?_
          refine Ch.step (v := (.d (.int .i64 5))) rfl (.pure (.lenStr (s := [48, 43, 49, 45, 48]) _ _ rfl Try.underlying9 rfl)) rfl rfl ?_
          refine Ch.step (v := (.d (.bool (decide ((((k : Nat) : Int) + 1) < 5))))) rfl (.pure (.int _ _ _ _ _ rfl rfl rfl rfl)) rfl rfl ?_
          refine Ch.nil ?_
          refine T_cond (b := (decide ((((k : Nat) : Int) + 1) < 5))) rfl (fun h5 => ?_) (fun h5 => ?_)
          · replace h5 := of_decide_eq_true h5
            refine T_skip ?_
            refine T_seq ?_
            refine T_block ?_
            refine T_seq ?_
            refine T_region hc ?_
            refine Ch.step (v := (.d (.str [48, 43, 49, 45, 48]))) rfl (.pure (.move _ rfl rfl)) rfl rfl ?_
            refine Ch.step (v := (.d (.int .i64 ((k : Nat) : Int)))) rfl (.pure (.move _ rfl rfl)) rfl rfl ?_
            refine Ch.step (v := (.d (.int .u8 ((([48, 43, 49, 45, 48] : List UInt8).getD k 0).toNat : Int)))) rfl (.pure (.idxStr _ _ _ (k) rfl Try.underlying9 rfl rfl rfl (get_str (by first | omega | (simp only [List.length_map, List.length_append, List.length_take, List.length_drop, List.length_cons, List.length_nil]; omega) | (simp; omega) | (simp; done))))) rfl rfl ?_
            refine Ch.step (v := (.d (.int .u8 (a.toNat : Int)))) rfl (.pure (.move _ rfl rfl)) rfl rfl ?_
            refine Ch.step (v := (.d (.bool (decide (((([48, 43, 49, 45, 48] : List UInt8).getD k 0) : UInt8) = a))))) rfl (.pure (.int _ _ _ _ _ rfl rfl rfl (u8_eql ((([48, 43, 49, 45, 48] : List UInt8).getD k 0) : UInt8) a rfl rfl))) rfl rfl ?_
            refine Ch.step (v := (.d (.bool (decide (((([48, 43, 49, 45, 48] : List UInt8).getD k 0) : UInt8) = a))))) rfl (.pure (.move _ rfl rfl)) rfl rfl ?_
            cases h6 : (decide (((([48, 43, 49, 45, 48] : List UInt8).getD k 0) : UInt8) = a)) with
            | true =>
              replace h6 := of_decide_eq_true h6
              refine Ch.step (v := (.d (.str [48, 43, 49, 45, 48]))) rfl (.pure (.move _ rfl rfl)) rfl rfl ?_
              refine Ch.step (v := (.d (.int .i64 ((k : Nat) : Int)))) rfl (.pure (.move _ rfl rfl)) rfl rfl ?_
              refine Ch.step (v := (.d (.int .i64 (((k : Nat) : Int) + 1)))) rfl (.pure (.int _ _ _ _ _ rfl rfl rfl (intV_add (by first | omega | (simp only [List.length_map, List.length_append, List.length_take, List.length_drop, List.length_cons, List.length_nil]; omega) | (simp; omega) | (simp; done)) (by first | omega | (simp only [List.length_map, List.length_append, List.length_take, List.length_drop, List.length_cons, List.length_nil]; omega) | (simp; omega) | (simp; done))))) rfl rfl ?_
              refine Ch.step (v := (.d (.int .u8 ((([48, 43, 49, 45, 48] : List UInt8).getD (k + 1) 0).toNat : Int)))) rfl (.pure (.idxStr _ _ _ ((k + 1)) rfl Try.underlying9 rfl rfl (by omega) (get_str (by first | omega | (simp only [List.length_map, List.length_append, List.length_take, List.length_drop, List.length_cons, List.length_nil]; omega) | (simp; omega) | (simp; done))))) rfl rfl ?_
              refine Ch.step (v := (.d (.int .u8 (b.toNat : Int)))) rfl (.pure (.move _ rfl rfl)) rfl rfl ?_
              refine Ch.step (v := (.d (.bool (decide (((([48, 43, 49, 45, 48] : List UInt8).getD (k + 1) 0) : UInt8) = b))))) rfl (.pure (.int _ _ _ _ _ rfl rfl rfl (u8_eql ((([48, 43, 49, 45, 48] : List UInt8).getD (k + 1) 0) : UInt8) b rfl rfl))) rfl rfl ?_
              refine Ch.step (v := (.d (.bool (decide (((([48, 43, 49, 45, 48] : List UInt8).getD (k + 1) 0) : UInt8) = b))))) rfl (.pure (.pickT _ _ _ rfl rfl rfl)) rfl rfl ?_
              refine Ch.nil ?_
              refine T_cond (b := (decide (((([48, 43, 49, 45, 48] : List UInt8).getD (k + 1) 0) : UInt8) = b))) rfl (fun h7 => ?_) (fun h7 => ?_)
              · replace h7 := of_decide_eq_true h7
                refine T_seq ?_
                refine T_region hc ?_
                refine Ch.step (v := (.d (.bool true))) rfl (.pure (.assign _ rfl rfl)) rfl rfl ?_
                refine Ch.nil ?_
                refine T_ret ?_
                refine And.intro (.inr rfl) ?_
                exact Exists.intro [(.d (.bool true))] (Exists.intro [] (Exists.intro [] (And.intro (.cons (.tmp 4 rfl) .nil) (And.intro (.cons (.any _) (.cons (.any _) .nil)) (And.intro (Exp.of (congrArg D.bool (by first | (exact (next_flip (.inr ⟨by assumption, by assumption⟩)).symm) | (exact (next_round k (by omega) (round_yes (by assumption) (by assumption))).symm) | (exact next_end (fun e => by simp_all; done) (fun e => by simp_all; done) (fun j hj => hp0.2 j (by omega))))) (.d _)) (And.intro rfl rfl))))))
              · replace h7 := of_decide_eq_false h7
                refine T_skip ?_
                refine T_region hc ?_
                refine Ch.step (v := (.d (.int .i64 ((k : Nat) : Int)))) rfl (.pure (.move _ rfl rfl)) rfl rfl ?_
                refine Ch.step (v := (.d (.int .i64 (((k : Nat) : Int) + 1)))) rfl (.pure (.int _ _ _ _ _ rfl rfl rfl (intV_add (by first | omega | (simp only [List.length_map, List.length_append, List.length_take, List.length_drop, List.length_cons, List.length_nil]; omega) | (simp; omega) | (simp; done)) (by first | omega | (simp only [List.length_map, List.length_append, List.length_take, List.length_drop, List.length_cons, List.length_nil]; omega) | (simp; omega) | (simp; done))))) rfl rfl ?_
                refine Ch.step (v := (.d (.int .i64 (((k : Nat) : Int) + 1)))) rfl (.pure (.assign _ rfl rfl)) rfl rfl ?_
                refine Ch.nil ?_
                refine Exists.intro (k + 1) (And.intro ⟨by omega, upto_succ hp0.2 (by first | exact round_no1 (by assumption) | exact round_no2 (by assumption))⟩ (And.intro (by first | omega | (dsimp only; omega)) (Wk.of rfl rfl (And.intro rfl (And.intro rfl (And.intro rfl (And.intro (vI (by first | rfl | omega | (simp; done) | (simp; omega))) trivial)))) trivial)))
            | false =>
              replace h6 := of_decide_eq_false h6
              refine Ch.skip rfl rfl ?_
              refine Ch.skip rfl rfl ?_
              refine Ch.skip rfl rfl ?_
              refine Ch.skip rfl rfl ?_
              refine Ch.skip rfl rfl ?_
              refine Ch.skip rfl rfl ?_
              refine Ch.step (v := (.d (.bool false))) rfl (.pure (.pickF _ _ _ rfl rfl rfl)) rfl rfl ?_
              refine Ch.nil ?_
              refine T_cond (b := false) rfl (fun h => nomatch h) (fun _ => ?_)
              refine T_skip ?_
              refine T_region hc ?_
              refine Ch.step (v := (.d (.int .i64 ((k : Nat) : Int)))) rfl (.pure (.move _ rfl rfl)) rfl rfl ?_
              refine Ch.step (v := (.d (.int .i64 (((k : Nat) : Int) + 1)))) rfl (.pure (.int _ _ _ _ _ rfl rfl rfl (intV_add (by first | omega | (simp only [List.length_map, List.length_append, List.length_take, List.length_drop, List.length_cons, List.length_nil]; omega) | (simp; omega) | (simp; done)) (by first | omega | (simp only [List.length_map, List.length_append, List.length_take, List.length_drop, List.length_cons, List.length_nil]; omega) | (simp; omega) | (simp; done))))) rfl rfl ?_
              refine Ch.step (v := (.d (.int .i64 (((k : Nat) : Int) + 1)))) rfl (.pure (.assign _ rfl rfl)) rfl rfl ?_
              refine Ch.nil ?_
              refine Exists.intro (k + 1) (And.intro ⟨by omega, upto_succ hp0.2 (by first | exact round_no1 (by assumption) | exact round_no2 (by assumption))⟩ (And.intro (by first | omega | (dsimp only; omega)) (Wk.of rfl rfl (And.intro rfl (And.intro rfl (And.intro rfl (And.intro (vI (by first | rfl | omega | (simp; done) | (simp; omega))) trivial)))) trivial)))
          · replace h5 := of_decide_eq_false h5
            refine T_exit ?_
            refine T_seq ?_
            refine T_region hc ?_
            refine Ch.step (v := (.d (.int .u8 (a.toNat : Int)))) rfl (.pure (.move _ rfl rfl)) rfl rfl ?_
            refine Ch.step (v := (.d (.int .u8 (b.toNat : Int)))) rfl (.pure (.move _ rfl rfl)) rfl rfl ?_
            refine Ch.step (v := (.d (.bool (decide ((a : UInt8) = b))))) rfl (.pure (.int _ _ _ _ _ rfl rfl rfl (u8_eql (a : UInt8) b rfl rfl))) rfl rfl ?_
            refine Ch.step (v := (.d (.bool (decide ((a : UInt8) = b))))) rfl (.pure (.assign _ rfl rfl)) rfl rfl ?_
            refine Ch.nil ?_
            refine T_ret ?_
            refine And.intro (.inr rfl) ?_
            exact Exists.intro [(.d (.bool (decide ((a : UInt8) = b))))] (Exists.intro [] (Exists.intro [] (And.intro (.cons (.tmp 4 rfl) .nil) (And.intro (.cons (.any _) (.cons (.any _) .nil)) (And.intro (Exp.of (congrArg D.bool (by first | (exact (next_flip (.inr ⟨by assumption, by assumption⟩)).symm) | (exact (next_round k (by omega) (round_yes (by assumption) (by assumption))).symm) | (exact next_end (fun e => by simp_all; done) (fun e => by simp_all; done) (fun j hj => hp0.2 j (by omega))))) (.d _)) (And.intro rfl rfl))))))
      | false =>
        replace h3 := of_decide_eq_false h3
        refine Ch.skip rfl rfl ?_
        refine Ch.skip rfl rfl ?_
        refine Ch.step (v := (.d (.bool false))) rfl (.pure (.pickF _ _ _ rfl rfl rfl)) rfl rfl ?_
        refine Ch.step (v := (.d (.bool false))) rfl (.pure (.pickF _ _ _ rfl rfl rfl)) rfl rfl ?_
        refine Ch.nil ?_
        refine T_cond (b := false) rfl (fun h => nomatch h) (fun _ => ?_)
        refine T_skip ?_
        refine T_seq ?_
        refine T_seq ?_
        refine T_region hc ?_
        refine Ch.step (v := (.d (.int .i64 0))) rfl (.pure (.assign _ rfl rfl)) rfl rfl ?_
        refine Ch.nil ?_
        refine T_block ?_
        refine T_loop (ι := Nat) (fun k => { n := 44, sl := [(0, (.d (.int .u8 (a.toNat : Int)))), (1, (.d (.int .u8 (b.toNat : Int)))), (5, (.d (.str [48, 43, 49, 45, 48]))), (6, (.d (.int .i64 ((k : Nat) : Int))))], hp := [], pin := [] }) (fun k => k ≤ 4 ∧ ∀ j, j < k → roundAt a b j = false) (fun k => 4 - k) ⟨0, ⟨by omega, fun j hj => by omega⟩, (Wk.of rfl rfl (And.intro rfl (And.intro rfl (And.intro rfl (And.intro (vI (by first | rfl | omega | (simp; done) | (simp; omega))) trivial)))) trivial)⟩ (fun k hp0 => ?_)
        refine T_seq ?_
        refine T_seq ?_
        refine T_region hc ?_
        refine Ch.step (v := (.d (.int .i64 ((k : Nat) : Int)))) rfl (.pure (.move _ rfl rfl)) rfl rfl ?_
        refine Ch.step (v := (.d (.int .i64 (((k : Nat) : Int) + 1)))) rfl (.pure (.int _ _ _ _ _ rfl rfl rfl (intV_add (by first | omega | (simp only [List.length_map, List.length_append, List.length_take, List.length_drop, List.length_cons, List.length_nil]; omega) | (simp; omega) | (simp; done)) (by first | omega | (simp only [List.length_map, List.length_append, List.length_take, List.length_drop, List.length_cons, List.length_nil]; omega) | (simp; omega) | (simp; done))))) rfl rfl ?_
        refine Ch.step (v := (.d (.str [48, 43, 49, 45, 48]))) rfl (.pure (.move _ rfl rfl)) rfl rfl ?_
        refine Ch.step (v := (.d (.int .i64 5))) rfl (.pure (.lenStr (s := [48, 43, 49, 45, 48]) _ _ rfl Try.underlying9 rfl)) rfl rfl ?_
        refine Ch.step (v := (.d (.bool (decide ((((k : Nat) : Int) + 1) < 5))))) rfl (.pure (.int _ _ _ _ _ rfl rfl rfl rfl)) rfl rfl ?_
        refine Ch.nil ?_
        refine T_cond (b := (decide ((((k : Nat) : Int) + 1) < 5))) rfl (fun h8 => ?_) (fun h8 => ?_)
        · replace h8 := of_decide_eq_true h8
          refine T_skip ?_
          refine T_seq ?_
          refine T_block ?_
          refine T_seq ?_
          refine T_region hc ?_
          refine Ch.step (v := (.d (.str [48, 43, 49, 45, 48]))) rfl (.pure (.move _ rfl rfl)) rfl rfl ?_
          refine Ch.step (v := (.d (.int .i64 ((k : Nat) : Int)))) rfl (.pure (.move _ rfl rfl)) rfl rfl ?_
          refine Ch.step (v := (.d (.int .u8 ((([48, 43, 49, 45, 48] : List UInt8).getD k 0).toNat : Int)))) rfl (.pure (.idxStr _ _ _ (k) rfl Try.underlying9 rfl rfl rfl (get_str (by first | omega | (simp only [List.length_map, List.length_append, List.length_take, List.length_drop, List.length_cons, List.length_nil]; omega) | (simp; omega) | (simp; done))))) rfl rfl ?_
          refine Ch.step (v := (.d (.int .u8 (a.toNat : Int)))) rfl (.pure (.move _ rfl rfl)) rfl rfl ?_
          refine Ch.step (v := (.d (.bool (decide (((([48, 43, 49, 45, 48] : List UInt8).getD k 0) : UInt8) = a))))) rfl (.pure (.int _ _ _ _ _ rfl rfl rfl (u8_eql ((([48, 43, 49, 45, 48] : List UInt8).getD k 0) : UInt8) a rfl rfl))) rfl rfl ?_
          refine Ch.step (v := (.d (.bool (decide (((([48, 43, 49, 45, 48] : List UInt8).getD k 0) : UInt8) = a))))) rfl (.pure (.move _ rfl rfl)) rfl rfl ?_
          cases h9 : (decide (((([48, 43, 49, 45, 48] : List UInt8).getD k 0) : UInt8) = a)) with
          | true =>
            replace h9 := of_decide_eq_true h9
            refine Ch.step (v := (.d (.str [48, 43, 49, 45, 48]))) rfl (.pure (.move _ rfl rfl)) rfl rfl ?_
            refine Ch.step (v := (.d (.int .i64 ((k : Nat) : Int)))) rfl (.pure (.move _ rfl rfl)) rfl rfl ?_
            refine Ch.step (v := (.d (.int .i64 (((k : Nat) : Int) + 1)))) rfl (.pure (.int _ _ _ _ _ rfl rfl rfl (intV_add (by first | omega | (simp only [List.length_map, List.length_append, List.length_take, List.length_drop, List.length_cons, List.length_nil]; omega) | (simp; omega) | (simp; done)) (by first | omega | (simp only [List.length_map, List.length_append, List.length_take, List.length_drop, List.length_cons, List.length_nil]; omega) | (simp; omega) | (simp; done))))) rfl rfl ?_
            refine Ch.step (v := (.d (.int .u8 ((([48, 43, 49, 45, 48] : List UInt8).getD (k + 1) 0).toNat : Int)))) rfl (.pure (.idxStr _ _ _ ((k + 1)) rfl Try.underlying9 rfl rfl (by omega) (get_str (by first | omega | (simp only [List.length_map, List.length_append, List.length_take, List.length_drop, List.length_cons, List.length_nil]; omega) | (simp; omega) | (simp; done))))) rfl rfl ?_
            refine Ch.step (v := (.d (.int .u8 (b.toNat : Int)))) rfl (.pure (.move _ rfl rfl)) rfl rfl ?_
            refine Ch.step (v := (.d (.bool (decide (((([48, 43, 49, 45, 48] : List UInt8).getD (k + 1) 0) : UInt8) = b))))) rfl (.pure (.int _ _ _ _ _ rfl rfl rfl (u8_eql ((([48, 43, 49, 45, 48] : List UInt8).getD (k + 1) 0) : UInt8) b rfl rfl))) rfl rfl ?_
            refine Ch.step (v := (.d (.bool (decide (((([48, 43, 49, 45, 48] : List UInt8).getD (k + 1) 0) : UInt8) = b))))) rfl (.pure (.pickT _ _ _ rfl rfl rfl)) rfl rfl ?_
            refine Ch.nil ?_
            refine T_cond (b := (decide (((([48, 43, 49, 45, 48] : List UInt8).getD (k + 1) 0) : UInt8) = b))) rfl (fun h10 => ?_) (fun h10 => ?_)
            · replace h10 := of_decide_eq_true h10
              refine T_seq ?_
              refine T_region hc ?_
              refine Ch.step (v := (.d (.bool true))) rfl (.pure (.assign _ rfl rfl)) rfl rfl ?_
              refine Ch.nil ?_
              refine T_ret ?_
              refine And.intro (.inr rfl) ?_
              exact Exists.intro [(.d (.bool true))] (Exists.intro [] (Exists.intro [] (And.intro (.cons (.tmp 4 rfl) .nil) (And.intro (.cons (.any _) (.cons (.any _) .nil)) (And.intro (Exp.of (congrArg D.bool (by first | (exact (next_flip (.inr ⟨by assumption, by assumption⟩)).symm) | (exact (next_round k (by omega) (round_yes (by assumption) (by assumption))).symm) | (exact next_end (fun e => by simp_all; done) (fun e => by simp_all; done) (fun j hj => hp0.2 j (by omega))))) (.d _)) (And.intro rfl rfl))))))
            · replace h10 := of_decide_eq_false h10
              refine T_skip ?_
              refine T_region hc ?_
              refine Ch.step (v := (.d (.int .i64 ((k : Nat) : Int)))) rfl (.pure (.move _ rfl rfl)) rfl rfl ?_
              refine Ch.step (v := (.d (.int .i64 (((k : Nat) : Int) + 1)))) rfl (.pure (.int _ _ _ _ _ rfl rfl rfl (intV_add (by first | omega | (simp only [List.length_map, List.length_append, List.length_take, List.length_drop, List.length_cons, List.length_nil]; omega) | (simp; omega) | (simp; done)) (by first | omega | (simp only [List.length_map, List.length_append, List.length_take, List.length_drop, List.length_cons, List.length_nil]; omega) | (simp; omega) | (simp; done))))) rfl rfl ?_
              refine Ch.step (v := (.d (.int .i64 (((k : Nat) : Int) + 1)))) rfl (.pure (.assign _ rfl rfl)) rfl rfl ?_
              refine Ch.nil ?_
              refine Exists.intro (k + 1) (And.intro ⟨by omega, upto_succ hp0.2 (by first | exact round_no1 (by assumption) | exact round_no2 (by assumption))⟩ (And.intro (by first | omega | (dsimp only; omega)) (Wk.of rfl rfl (And.intro rfl (And.intro rfl (And.intro rfl (And.intro (vI (by first | rfl | omega | (simp; done) | (simp; omega))) trivial)))) trivial)))
          | false =>
            replace h9 := of_decide_eq_false h9
            refine Ch.skip rfl rfl ?_
            refine Ch.skip rfl rfl ?_
            refine Ch.skip rfl rfl ?_
            refine Ch.skip rfl rfl ?_
            refine Ch.skip rfl rfl ?_
            refine Ch.skip rfl rfl ?_
            refine Ch.step (v := (.d (.bool false))) rfl (.pure (.pickF _ _ _ rfl rfl rfl)) rfl rfl ?_
            refine Ch.nil ?_
            refine T_cond (b := false) rfl (fun h => nomatch h) (fun _ => ?_)
            refine T_skip ?_
            refine T_region hc ?_
            refine Ch.step (v := (.d (.int .i64 ((k : Nat) : Int)))) rfl (.pure (.move _ rfl rfl)) rfl rfl ?_
            refine Ch.step (v := (.d (.int .i64 (((k : Nat) : Int) + 1)))) rfl (.pure (.int _ _ _ _ _ rfl rfl rfl (intV_add (by first | omega | (simp only [List.length_map, List.length_append, List.length_take, List.length_drop, List.length_cons, List.length_nil]; omega) | (simp; omega) | (simp; done)) (by first | omega | (simp only [List.length_map, List.length_append, List.length_take, List.length_drop, List.length_cons, List.length_nil]; omega) | (simp; omega) | (simp; done))))) rfl rfl ?_
            refine Ch.step (v := (.d (.int .i64 (((k : Nat) : Int) + 1)))) rfl (.pure (.assign _ rfl rfl)) rfl rfl ?_
            refine Ch.nil ?_
            refine Exists.intro (k + 1) (And.intro ⟨by omega, upto_succ hp0.2 (by first | exact round_no1 (by assumption) | exact round_no2 (by assumption))⟩ (And.intro (by first | omega | (dsimp only; omega)) (Wk.of rfl rfl (And.intro rfl (And.intro rfl (And.intro rfl (And.intro (vI (by first | rfl | omega | (simp; done) | (simp; omega))) trivial)))) trivial)))
        · replace h8 := of_decide_eq_false h8
          refine T_exit ?_
          refine T_seq ?_
          refine T_region hc ?_
          refine Ch.step (v := (.d (.int .u8 (a.toNat : Int)))) rfl (.pure (.move _ rfl rfl)) rfl rfl ?_
          refine Ch.step (v := (.d (.int .u8 (b.toNat : Int)))) rfl (.pure (.move _ rfl rfl)) rfl rfl ?_
          refine Ch.step (v := (.d (.bool (decide ((a : UInt8) = b))))) rfl (.pure (.int _ _ _ _ _ rfl rfl rfl (u8_eql (a : UInt8) b rfl rfl))) rfl rfl ?_
          refine Ch.step (v := (.d (.bool (decide ((a : UInt8) = b))))) rfl (.pure (.assign _ rfl rfl)) rfl rfl ?_
          refine Ch.nil ?_
          refine T_ret ?_
          refine And.intro (.inr rfl) ?_
          exact Exists.intro [(.d (.bool (decide ((a : UInt8) = b))))] (Exists.intro [] (Exists.intro [] (And.intro (.cons (.tmp 4 rfl) .nil) (And.intro (.cons (.any _) (.cons (.any _) .nil)) (And.intro (Exp.of (congrArg D.bool (by first | (exact (next_flip (.inr ⟨by assumption, by assumption⟩)).symm) | (exact (next_round k (by omega) (round_yes (by assumption) (by assumption))).symm) | (exact next_end (fun e => by simp_all; done) (fun e => by simp_all; done) (fun j hj => hp0.2 j (by omega))))) (.d _)) (And.intro rfl rfl))))))
  | false =>
    replace h1 := of_decide_eq_false h1
    refine Ch.skip rfl rfl ?_
    refine Ch.skip rfl rfl ?_
    refine Ch.step (v := (.d (.bool false))) rfl (.pure (.pickF _ _ _ rfl rfl rfl)) rfl rfl ?_
    refine Ch.step (v := (.d (.bool false))) rfl (.pure (.move _ rfl rfl)) rfl rfl ?_
    refine Ch.step (v := (.d (.int .u8 (a.toNat : Int)))) rfl (.pure (.move _ rfl rfl)) rfl rfl ?_
    refine Ch.step (v := (.d (.bool (decide ((a : UInt8) = 45))))) rfl (.pure (.int _ _ _ _ _ rfl rfl rfl (u8_eql (a : UInt8) 45 rfl rfl))) rfl rfl ?_
    refine Ch.step (v := (.d (.bool (decide ((a : UInt8) = 45))))) rfl (.pure (.move _ rfl rfl)) rfl rfl ?_
    cases h11 : (decide ((a : UInt8) = 45)) with
    | true =>
      replace h11 := of_decide_eq_true h11
      refine Ch.step (v := (.d (.int .u8 (b.toNat : Int)))) rfl (.pure (.move _ rfl rfl)) rfl rfl ?_
      refine Ch.step (v := (.d (.bool (decide ((b : UInt8) = 43))))) rfl (.pure (.int _ _ _ _ _ rfl rfl rfl (u8_eql (b : UInt8) 43 rfl rfl))) rfl rfl ?_
      refine Ch.step (v := (.d (.bool (decide ((b : UInt8) = 43))))) rfl (.pure (.pickT _ _ _ rfl rfl rfl)) rfl rfl ?_
      refine Ch.step (v := (.d (.bool (decide ((b : UInt8) = 43))))) rfl (.pure (.pickF _ _ _ rfl rfl rfl)) rfl rfl ?_
      refine Ch.nil ?_
      refine T_cond (b := (decide ((b : UInt8) = 43))) rfl (fun h12 => ?_) (fun h12 => ?_)
      · replace h12 := of_decide_eq_true h12
        refine T_seq ?_
        refine T_region hc ?_
        refine Ch.step (v := (.d (.bool true))) rfl (.pure (.assign _ rfl rfl)) rfl rfl ?_
        refine Ch.nil ?_
        refine T_ret ?_
        refine And.intro (.inr rfl) ?_
        exact Exists.intro [(.d (.bool true))] (Exists.intro [] (Exists.intro [] (And.intro (.cons (.tmp 4 rfl) .nil) (And.intro (.cons (.any _) (.cons (.any _) .nil)) (And.intro (Exp.of (congrArg D.bool (by first | (exact (next_flip (.inr ⟨by assumption, by assumption⟩)).symm) | (exact (next_round k (by omega) (round_yes (by assumption) (by assumption))).symm) | (exact next_end (fun e => by simp_all; done) (fun e => by simp_all; done) (fun j hj => hp0.2 j (by omega))))) (.d _)) (And.intro rfl rfl))))))
      · replace h12 := of_decide_eq_false h12
        refine T_skip ?_
        refine T_seq ?_
        refine T_seq ?_
        refine T_region hc ?_
        refine Ch.step (v := (.d (.int .i64 0))) rfl (.pure (.assign _ rfl rfl)) rfl rfl ?_
        refine Ch.nil ?_
        refine T_block ?_
        refine T_loop (ι := Nat) (fun k => { n := 44, sl := [(0, (.d (.int .u8 (a.toNat : Int)))), (1, (.d (.int .u8 (b.toNat : Int)))), (5, (.d (.str [48, 43, 49, 45, 48]))), (6, (.d (.int .i64 ((k : Nat) : Int))))], hp := [], pin := [] }) (fun k => k ≤ 4 ∧ ∀ j, j < k → roundAt a b j = false) (fun k => 4 - k) ⟨0, ⟨by omega, fun j hj => by omega⟩, (Wk.of rfl rfl (And.intro rfl (And.intro rfl (And.intro rfl (And.intro (vI (by first | rfl | omega | (simp; done) | (simp; omega))) trivial)))) trivial)⟩ (fun k hp0 => ?_)
        refine T_seq ?_
        refine T_seq ?_
        refine T_region hc ?_
        refine Ch.step (v := (.d (.int .i64 ((k : Nat) : Int)))) rfl (.pure (.move _ rfl rfl)) rfl rfl ?_
        refine Ch.step (v := (.d (.int .i64 (((k : Nat) : Int) + 1)))) rfl (.pure (.int _ _ _ _ _ rfl rfl rfl (intV_add (by first | omega | (simp only [List.length_map, List.length_append, List.length_take, List.length_drop, List.length_cons, List.length_nil]; omega) | (simp; omega) | (simp; done)) (by first | omega | (simp only [List.length_map, List.length_append, List.length_take, List.length_drop, List.length_cons, List.length_nil]; omega) | (simp; omega) | (simp; done))))) rfl rfl ?_
        refine Ch.step (v := (.d (.str [48, 43, 49, 45, 48]))) rfl (.pure (.move _ rfl rfl)) rfl rfl ?_
        refine Ch.step (v := (.d (.int .i64 5))) rfl (.pure (.lenStr (s := [48, 43, 49, 45, 48]) _ _ rfl Try.underlying9 rfl)) rfl rfl ?_
        refine Ch.step (v := (.d (.bool (decide ((((k : Nat) : Int) + 1) < 5))))) rfl (.pure (.int _ _ _ _ _ rfl rfl rfl rfl)) rfl rfl ?_
        refine Ch.nil ?_
        refine T_cond (b := (decide ((((k : Nat) : Int) + 1) < 5))) rfl (fun h13 => ?_) (fun h13 => ?_)
        · replace h13 := of_decide_eq_true h13
          refine T_skip ?_
          refine T_seq ?_
          refine T_block ?_
          refine T_seq ?_
          refine T_region hc ?_
          refine Ch.step (v := (.d (.str [48, 43, 49, 45, 48]))) rfl (.pure (.move _ rfl rfl)) rfl rfl ?_
          refine Ch.step (v := (.d (.int .i64 ((k : Nat) : Int)))) rfl (.pure (.move _ rfl rfl)) rfl rfl ?_
          refine Ch.step (v := (.d (.int .u8 ((([48, 43, 49, 45, 48] : List UInt8).getD k 0).toNat : Int)))) rfl (.pure (.idxStr _ _ _ (k) rfl Try.underlying9 rfl rfl rfl (get_str (by first | omega | (simp only [List.length_map, List.length_append, List.length_take, List.length_drop, List.length_cons, List.length_nil]; omega) | (simp; omega) | (simp; done))))) rfl rfl ?_
          refine Ch.step (v := (.d (.int .u8 (a.toNat : Int)))) rfl (.pure (.move _ rfl rfl)) rfl rfl ?_
          refine Ch.step (v := (.d (.bool (decide (((([48, 43, 49, 45, 48] : List UInt8).getD k 0) : UInt8) = a))))) rfl (.pure (.int _ _ _ _ _ rfl rfl rfl (u8_eql ((([48, 43, 49, 45, 48] : List UInt8).getD k 0) : UInt8) a rfl rfl))) rfl rfl ?_
          refine Ch.step (v := (.d (.bool (decide (((([48, 43, 49, 45, 48] : List UInt8).getD k 0) : UInt8) = a))))) rfl (.pure (.move _ rfl rfl)) rfl rfl ?_
          cases h14 : (decide (((([48, 43, 49, 45, 48] : List UInt8).getD k 0) : UInt8) = a)) with
          | true =>
            replace h14 := of_decide_eq_true h14
            refine Ch.step (v := (.d (.str [48, 43, 49, 45, 48]))) rfl (.pure (.move _ rfl rfl)) rfl rfl ?_
            refine Ch.step (v := (.d (.int .i64 ((k : Nat) : Int)))) rfl (.pure (.move _ rfl rfl)) rfl rfl ?_
            refine Ch.step (v := (.d (.int .i64 (((k : Nat) : Int) + 1)))) rfl (.pure (.int _ _ _ _ _ rfl rfl rfl (intV_add (by first | omega | (simp only [List.length_map, List.length_append, List.length_take, List.length_drop, List.length_cons, List.length_nil]; omega) | (simp; omega) | (simp; done)) (by first | omega | (simp only [List.length_map, List.length_append, List.length_take, List.length_drop, List.length_cons, List.length_nil]; omega) | (simp; omega) | (simp; done))))) rfl rfl ?_
            refine Ch.step (v := (.d (.int .u8 ((([48, 43, 49, 45, 48] : List UInt8).getD (k + 1) 0).toNat : Int)))) rfl (.pure (.idxStr _ _ _ ((k + 1)) rfl Try.underlying9 rfl rfl (by omega) (get_str (by first | omega | (simp only [List.length_map, List.length_append, List.length_take, List.length_drop, List.length_cons, List.length_nil]; omega) | (simp; omega) | (simp; done))))) rfl rfl ?_
            refine Ch.step (v := (.d (.int .u8 (b.toNat : Int)))) rfl (.pure (.move _ rfl rfl)) rfl rfl ?_
            refine Ch.step (v := (.d (.bool (decide (((([48, 43, 49, 45, 48] : List UInt8).getD (k + 1) 0) : UInt8) = b))))) rfl (.pure (.int _ _ _ _ _ rfl rfl rfl (u8_eql ((([48, 43, 49, 45, 48] : List UInt8).getD (k + 1) 0) : UInt8) b rfl rfl))) rfl rfl ?_
            refine Ch.step (v := (.d (.bool (decide (((([48, 43, 49, 45, 48] : List UInt8).getD (k + 1) 0) : UInt8) = b))))) rfl (.pure (.pickT _ _ _ rfl rfl rfl)) rfl rfl ?_
            refine Ch.nil ?_
            refine T_cond (b := (decide (((([48, 43, 49, 45, 48] : List UInt8).getD (k + 1) 0) : UInt8) = b))) rfl (fun h15 => ?_) (fun h15 => ?_)
            · replace h15 := of_decide_eq_true h15
              refine T_seq ?_
              refine T_region hc ?_
              refine Ch.step (v := (.d (.bool true))) rfl (.pure (.assign _ rfl rfl)) rfl rfl ?_
              refine Ch.nil ?_
              refine T_ret ?_
              refine And.intro (.inr rfl) ?_
              exact Exists.intro [(.d (.bool true))] (Exists.intro [] (Exists.intro [] (And.intro (.cons (.tmp 4 rfl) .nil) (And.intro (.cons (.any _) (.cons (.any _) .nil)) (And.intro (Exp.of (congrArg D.bool (by first | (exact (next_flip (.inr ⟨by assumption, by assumption⟩)).symm) | (exact (next_round k (by omega) (round_yes (by assumption) (by assumption))).symm) | (exact next_end (fun e => by simp_all; done) (fun e => by simp_all; done) (fun j hj => hp0.2 j (by omega))))) (.d _)) (And.intro rfl rfl))))))
            · replace h15 := of_decide_eq_false h15
              refine T_skip ?_
              refine T_region hc ?_
              refine Ch.step (v := (.d (.int .i64 ((k : Nat) : Int)))) rfl (.pure (.move _ rfl rfl)) rfl rfl ?_
              refine Ch.step (v := (.d (.int .i64 (((k : Nat) : Int) + 1)))) rfl (.pure (.int _ _ _ _ _ rfl rfl rfl (intV_add (by first | omega | (simp only [List.length_map, List.length_append, List.length_take, List.length_drop, List.length_cons, List.length_nil]; omega) | (simp; omega) | (simp; done)) (by first | omega | (simp only [List.length_map, List.length_append, List.length_take, List.length_drop, List.length_cons, List.length_nil]; omega) | (simp; omega) | (simp; done))))) rfl rfl ?_
              refine Ch.step (v := (.d (.int .i64 (((k : Nat) : Int) + 1)))) rfl (.pure (.assign _ rfl rfl)) rfl rfl ?_
              refine Ch.nil ?_
              refine Exists.intro (k + 1) (And.intro ⟨by omega, upto_succ hp0.2 (by first | exact round_no1 (by assumption) | exact round_no2 (by assumption))⟩ (And.intro (by first | omega | (dsimp only; omega)) (Wk.of rfl rfl (And.intro rfl (And.intro rfl (And.intro rfl (And.intro (vI (by first | rfl | omega | (simp; done) | (simp; omega))) trivial)))) trivial)))
          | false =>
            replace h14 := of_decide_eq_false h14
            refine Ch.skip rfl rfl ?_
            refine Ch.skip rfl rfl ?_
            refine Ch.skip rfl rfl ?_
            refine Ch.skip rfl rfl ?_
            refine Ch.skip rfl rfl ?_
            refine Ch.skip rfl rfl ?_
            refine Ch.step (v := (.d (.bool false))) rfl (.pure (.pickF _ _ _ rfl rfl rfl)) rfl rfl ?_
            refine Ch.nil ?_
            refine T_cond (b := false) rfl (fun h => nomatch h) (fun _ => ?_)
            refine T_skip ?_
            refine T_region hc ?_
            refine Ch.step (v := (.d (.int .i64 ((k : Nat) : Int)))) rfl (.pure (.move _ rfl rfl)) rfl rfl ?_
            refine Ch.step (v := (.d (.int .i64 (((k : Nat) : Int) + 1)))) rfl (.pure (.int _ _ _ _ _ rfl rfl rfl (intV_add (by first | omega | (simp only [List.length_map, List.length_append, List.length_take, List.length_drop, List.length_cons, List.length_nil]; omega) | (simp; omega) | (simp; done)) (by first | omega | (simp only [List.length_map, List.length_append, List.length_take, List.length_drop, List.length_cons, List.length_nil]; omega) | (simp; omega) | (simp; done))))) rfl rfl ?_
            refine Ch.step (v := (.d (.int .i64 (((k : Nat) : Int) + 1)))) rfl (.pure (.assign _ rfl rfl)) rfl rfl ?_
            refine Ch.nil ?_
            refine Exists.intro (k + 1) (And.intro ⟨by omega, upto_succ hp0.2 (by first | exact round_no1 (by assumption) | exact round_no2 (by assumption))⟩ (And.intro (by first | omega | (dsimp only; omega)) (Wk.of rfl rfl (And.intro rfl (And.intro rfl (And.intro rfl (And.intro (vI (by first | rfl | omega | (simp; done) | (simp; omega))) trivial)))) trivial)))
        · replace h13 := of_decide_eq_false h13
          refine T_exit ?_
          refine T_seq ?_
          refine T_region hc ?_
          refine Ch.step (v := (.d (.int .u8 (a.toNat : Int)))) rfl (.pure (.move _ rfl rfl)) rfl rfl ?_
          refine Ch.step (v := (.d (.int .u8 (b.toNat : Int)))) rfl (.pure (.move _ rfl rfl)) rfl rfl ?_
          refine Ch.step (v := (.d (.bool (decide ((a : UInt8) = b))))) rfl (.pure (.int _ _ _ _ _ rfl rfl rfl (u8_eql (a : UInt8) b rfl rfl))) rfl rfl ?_
          refine Ch.step (v := (.d (.bool (decide ((a : UInt8) = b))))) rfl (.pure (.assign _ rfl rfl)) rfl rfl ?_
          refine Ch.nil ?_
          refine T_ret ?_
          refine And.intro (.inr rfl) ?_
          exact Exists.intro [(.d (.bool (decide ((a : UInt8) = b))))] (Exists.intro [] (Exists.intro [] (And.intro (.cons (.tmp 4 rfl) .nil) (And.intro (.cons (.any _) (.cons (.any _) .nil)) (And.intro (Exp.of (congrArg D.bool (by first | (exact (next_flip (.inr ⟨by assumption, by assumption⟩)).symm) | (exact (next_round k (by omega) (round_yes (by assumption) (by assumption))).symm) | (exact next_end (fun e => by simp_all; done) (fun e => by simp_all; done) (fun j hj => hp0.2 j (by omega))))) (.d _)) (And.intro rfl rfl))))))
    | false =>
      replace h11 := of_decide_eq_false h11
      refine Ch.skip rfl rfl ?_
      refine Ch.skip rfl rfl ?_
      refine Ch.step (v := (.d (.bool false))) rfl (.pure (.pickF _ _ _ rfl rfl rfl)) rfl rfl ?_
      refine Ch.step (v := (.d (.bool false))) rfl (.pure (.pickF _ _ _ rfl rfl rfl)) rfl rfl ?_
      refine Ch.nil ?_
      refine T_cond (b := false) rfl (fun h => nomatch h) (fun _ => ?_)
      refine T_skip ?_
      refine T_seq ?_
      refine T_seq ?_
      refine T_region hc ?_
      refine Ch.step (v := (.d (.int .i64 0))) rfl (.pure (.assign _ rfl rfl)) rfl rfl ?_
      refine Ch.nil ?_
      refine T_block ?_
      refine T_loop (ι := Nat) (fun k => { n := 44, sl := [(0, (.d (.int .u8 (a.toNat : Int)))), (1, (.d (.int .u8 (b.toNat : Int)))), (5, (.d (.str [48, 43, 49, 45, 48]))), (6, (.d (.int .i64 ((k : Nat) : Int))))], hp := [], pin := [] }) (fun k => k ≤ 4 ∧ ∀ j, j < k → roundAt a b j = false) (fun k => 4 - k) ⟨0, ⟨by omega, fun j hj => by omega⟩, (Wk.of rfl rfl (And.intro rfl (And.intro rfl (And.intro rfl (And.intro (vI (by first | rfl | omega | (simp; done) | (simp; omega))) trivial)))) trivial)⟩ (fun k hp0 => ?_)
      refine T_seq ?_
      refine T_seq ?_
      refine T_region hc ?_
      refine Ch.step (v := (.d (.int .i64 ((k : Nat) : Int)))) rfl (.pure (.move _ rfl rfl)) rfl rfl ?_
      refine Ch.step (v := (.d (.int .i64 (((k : Nat) : Int) + 1)))) rfl (.pure (.int _ _ _ _ _ rfl rfl rfl (intV_add (by first | omega | (simp only [List.length_map, List.length_append, List.length_take, List.length_drop, List.length_cons, List.length_nil]; omega) | (simp; omega) | (simp; done)) (by first | omega | (simp only [List.length_map, List.length_append, List.length_take, List.length_drop, List.length_cons, List.length_nil]; omega) | (simp; omega) | (simp; done))))) rfl rfl ?_
      refine Ch.step (v := (.d (.str [48, 43, 49, 45, 48]))) rfl (.pure (.move _ rfl rfl)) rfl rfl ?_
      refine Ch.step (v := (.d (.int .i64 5))) rfl (.pure (.lenStr (s := [48, 43, 49, 45, 48]) _ _ rfl Try.underlying9 rfl)) rfl rfl ?_
      refine Ch.step (v := (.d (.bool (decide ((((k : Nat) : Int) + 1) < 5))))) rfl (.pure (.int _ _ _ _ _ rfl rfl rfl rfl)) rfl rfl ?_
      refine Ch.nil ?_
      refine T_cond (b := (decide ((((k : Nat) : Int) + 1) < 5))) rfl (fun h16 => ?_) (fun h16 => ?_)
      · replace h16 := of_decide_eq_true h16
        refine T_skip ?_
        refine T_seq ?_
        refine T_block ?_
        refine T_seq ?_
        refine T_region hc ?_
        refine Ch.step (v := (.d (.str [48, 43, 49, 45, 48]))) rfl (.pure (.move _ rfl rfl)) rfl rfl ?_
        refine Ch.step (v := (.d (.int .i64 ((k : Nat) : Int)))) rfl (.pure (.move _ rfl rfl)) rfl rfl ?_
        refine Ch.step (v := (.d (.int .u8 ((([48, 43, 49, 45, 48] : List UInt8).getD k 0).toNat : Int)))) rfl (.pure (.idxStr _ _ _ (k) rfl Try.underlying9 rfl rfl rfl (get_str (by first | omega | (simp only [List.length_map, List.length_append, List.length_take, List.length_drop, List.length_cons, List.length_nil]; omega) | (simp; omega) | (simp; done))))) rfl rfl ?_
        refine Ch.step (v := (.d (.int .u8 (a.toNat : Int)))) rfl (.pure (.move _ rfl rfl)) rfl rfl ?_
        refine Ch.step (v := (.d (.bool (decide (((([48, 43, 49, 45, 48] : List UInt8).getD k 0) : UInt8) = a))))) rfl (.pure (.int _ _ _ _ _ rfl rfl rfl (u8_eql ((([48, 43, 49, 45, 48] : List UInt8).getD k 0) : UInt8) a rfl rfl))) rfl rfl ?_
        refine Ch.step (v := (.d (.bool (decide (((([48, 43, 49, 45, 48] : List UInt8).getD k 0) : UInt8) = a))))) rfl (.pure (.move _ rfl rfl)) rfl rfl ?_
        cases h17 : (decide (((([48, 43, 49, 45, 48] : List UInt8).getD k 0) : UInt8) = a)) with
        | true =>
          replace h17 := of_decide_eq_true h17
          refine Ch.step (v := (.d (.str [48, 43, 49, 45, 48]))) rfl (.pure (.move _ rfl rfl)) rfl rfl ?_
          refine Ch.step (v := (.d (.int .i64 ((k : Nat) : Int)))) rfl (.pure (.move _ rfl rfl)) rfl rfl ?_
          refine Ch.step (v := (.d (.int .i64 (((k : Nat) : Int) + 1)))) rfl (.pure (.int _ _ _ _ _ rfl rfl rfl (intV_add (by first | omega | (simp only [List.length_map, List.length_append, List.length_take, List.length_drop, List.length_cons, List.length_nil]; omega) | (simp; omega) | (simp; done)) (by first | omega | (simp only [List.length_map, List.length_append, List.length_take, List.length_drop, List.length_cons, List.length_nil]; omega) | (simp; omega) | (simp; done))))) rfl rfl ?_
          refine Ch.step (v := (.d (.int .u8 ((([48, 43, 49, 45, 48] : List UInt8).getD (k + 1) 0).toNat : Int)))) rfl (.pure (.idxStr _ _ _ ((k + 1)) rfl Try.underlying9 rfl rfl (by omega) (get_str (by first | omega | (simp only [List.length_map, List.length_append, List.length_take, List.length_drop, List.length_cons, List.length_nil]; omega) | (simp; omega) | (simp; done))))) rfl rfl ?_
          refine Ch.step (v := (.d (.int .u8 (b.toNat : Int)))) rfl (.pure (.move _ rfl rfl)) rfl rfl ?_
          refine Ch.step (v := (.d (.bool (decide (((([48, 43, 49, 45, 48] : List UInt8).getD (k + 1) 0) : UInt8) = b))))) rfl (.pure (.int _ _ _ _ _ rfl rfl rfl (u8_eql ((([48, 43, 49, 45, 48] : List UInt8).getD (k + 1) 0) : UInt8) b rfl rfl))) rfl rfl ?_
          refine Ch.step (v := (.d (.bool (decide (((([48, 43, 49, 45, 48] : List UInt8).getD (k + 1) 0) : UInt8) = b))))) rfl (.pure (.pickT _ _ _ rfl rfl rfl)) rfl rfl ?_
          refine Ch.nil ?_
          refine T_cond (b := (decide (((([48, 43, 49, 45, 48] : List UInt8).getD (k + 1) 0) : UInt8) = b))) rfl (fun h18 => ?_) (fun h18 => ?_)
          · replace h18 := of_decide_eq_true h18
            refine T_seq ?_
            refine T_region hc ?_
            refine Ch.step (v := (.d (.bool true))) rfl (.pure (.assign _ rfl rfl)) rfl rfl ?_
            refine Ch.nil ?_
            refine T_ret ?_
            refine And.intro (.inr rfl) ?_
            exact Exists.intro [(.d (.bool true))] (Exists.intro [] (Exists.intro [] (And.intro (.cons (.tmp 4 rfl) .nil) (And.intro (.cons (.any _) (.cons (.any _) .nil)) (And.intro (Exp.of (congrArg D.bool (by first | (exact (next_flip (.inr ⟨by assumption, by assumption⟩)).symm) | (exact (next_round k (by omega) (round_yes (by assumption) (by assumption))).symm) | (exact next_end (fun e => by simp_all; done) (fun e => by simp_all; done) (fun j hj => hp0.2 j (by omega))))) (.d _)) (And.intro rfl rfl))))))
          · replace h18 := of_decide_eq_false h18
            refine T_skip ?_
            refine T_region hc ?_
            refine Ch.step (v := (.d (.int .i64 ((k : Nat) : Int)))) rfl (.pure (.move _ rfl rfl)) rfl rfl ?_
            refine Ch.step (v := (.d (.int .i64 (((k : Nat) : Int) + 1)))) rfl (.pure (.int _ _ _ _ _ rfl rfl rfl (intV_add (by first | omega | (simp only [List.length_map, List.length_append, List.length_take, List.length_drop, List.length_cons, List.length_nil]; omega) | (simp; omega) | (simp; done)) (by first | omega | (simp only [List.length_map, List.length_append, List.length_take, List.length_drop, List.length_cons, List.length_nil]; omega) | (simp; omega) | (simp; done))))) rfl rfl ?_
            refine Ch.step (v := (.d (.int .i64 (((k : Nat) : Int) + 1)))) rfl (.pure (.assign _ rfl rfl)) rfl rfl ?_
            refine Ch.nil ?_
            refine Exists.intro (k + 1) (And.intro ⟨by omega, upto_succ hp0.2 (by first | exact round_no1 (by assumption) | exact round_no2 (by assumption))⟩ (And.intro (by first | omega | (dsimp only; omega)) (Wk.of rfl rfl (And.intro rfl (And.intro rfl (And.intro rfl (And.intro (vI (by first | rfl | omega | (simp; done) | (simp; omega))) trivial)))) trivial)))
        | false =>
          replace h17 := of_decide_eq_false h17
          refine Ch.skip rfl rfl ?_
          refine Ch.skip rfl rfl ?_
          refine Ch.skip rfl rfl ?_
          refine Ch.skip rfl rfl ?_
          refine Ch.skip rfl rfl ?_
          refine Ch.skip rfl rfl ?_
          refine Ch.step (v := (.d (.bool false))) rfl (.pure (.pickF _ _ _ rfl rfl rfl)) rfl rfl ?_
          refine Ch.nil ?_
          refine T_cond (b := false) rfl (fun h => nomatch h) (fun _ => ?_)
          refine T_skip ?_
          refine T_region hc ?_
          refine Ch.step (v := (.d (.int .i64 ((k : Nat) : Int)))) rfl (.pure (.move _ rfl rfl)) rfl rfl ?_
          refine Ch.step (v := (.d (.int .i64 (((k : Nat) : Int) + 1)))) rfl (.pure (.int _ _ _ _ _ rfl rfl rfl (intV_add (by first | omega | (simp only [List.length_map, List.length_append, List.length_take, List.length_drop, List.length_cons, List.length_nil]; omega) | (simp; omega) | (simp; done)) (by first | omega | (simp only [List.length_map, List.length_append, List.length_take, List.length_drop, List.length_cons, List.length_nil]; omega) | (simp; omega) | (simp; done))))) rfl rfl ?_
          refine Ch.step (v := (.d (.int .i64 (((k : Nat) : Int) + 1)))) rfl (.pure (.assign _ rfl rfl)) rfl rfl ?_
          refine Ch.nil ?_
          refine Exists.intro (k + 1) (And.intro ⟨by omega, upto_succ hp0.2 (by first | exact round_no1 (by assumption) | exact round_no2 (by assumption))⟩ (And.intro (by first | omega | (dsimp only; omega)) (Wk.of rfl rfl (And.intro rfl (And.intro rfl (And.intro rfl (And.intro (vI (by first | rfl | omega | (simp; done) | (simp; omega))) trivial)))) trivial)))
      · replace h16 := of_decide_eq_false h16
        refine T_exit ?_
        refine T_seq ?_
        refine T_region hc ?_
        refine Ch.step (v := (.d (.int .u8 (a.toNat : Int)))) rfl (.pure (.move _ rfl rfl)) rfl rfl ?_
        refine Ch.step (v := (.d (.int .u8 (b.toNat : Int)))) rfl (.pure (.move _ rfl rfl)) rfl rfl ?_
        refine Ch.step (v := (.d (.bool (decide ((a : UInt8) = b))))) rfl (.pure (.int _ _ _ _ _ rfl rfl rfl (u8_eql (a : UInt8) b rfl rfl))) rfl rfl ?_
        refine Ch.step (v := (.d (.bool (decide ((a : UInt8) = b))))) rfl (.pure (.assign _ rfl rfl)) rfl rfl ?_
        refine Ch.nil ?_
        refine T_ret ?_
        refine And.intro (.inr rfl) ?_
        exact Exists.intro [(.d (.bool (decide ((a : UInt8) = b))))] (Exists.intro [] (Exists.intro [] (And.intro (.cons (.tmp 4 rfl) .nil) (And.intro (.cons (.any _) (.cons (.any _) .nil)) (And.intro (Exp.of (congrArg D.bool (by first | (exact (next_flip (.inr ⟨by assumption, by assumption⟩)).symm) | (exact (next_round k (by omega) (round_yes (by assumption) (by assumption))).symm) | (exact next_end (fun e => by simp_all; done) (fun e => by simp_all; done) (fun j hj => hp0.2 j (by omega))))) (.d _)) (And.intro rfl rfl))))))

set_option maxHeartbeats 1000000 in
theorem sp_impl_areSigns (x : Sgr) (u : List UInt8) (hb : x.bulk ≤ 1048576) (hu : u.length ≤ 1048576) : Sp Try.prog 76 [(.agg [(.slice false 2 (x.sigs.map Sgn.d)), (.slice false 1 (x.codes.map D.str)), (.slice false 4 (x.arcs.map Arc.d))]), (.str u)] [.any, .any] (.bool (formB x u)) := by
  refine Sp_intro (lend := true) Try.func76 rfl rfl rfl (fun _ => rfl) (fun c hc hX => ?_)
  obtain ⟨hp0, hp1, hp2⟩ := Sgr.parts hb
  have hn0 := bulkF_len hp0
  have hn1 := bulk_len hp1
  have hx1 := bulk_mem hp1
  have hn2 := bulkF_len hp2
  refine T_seq ?_
  refine T_region hc ?_
  refine Ch.step (v := (.ptr 2000 0)) rfl (.box 2000 _ _ rfl (.aggD _)) rfl rfl ?_
  refine Ch.step (v := (.d (.bool false))) rfl (.pure (.assign _ rfl rfl)) rfl rfl ?_
  refine Ch.nil ?_
  refine T_seq ?_
  refine T_seq ?_
  refine T_region hc ?_
  refine Ch.step (v := (.d (.int .i64 0))) rfl (.pure (.assign _ rfl rfl)) rfl rfl ?_
  refine Ch.nil ?_
  refine T_block ?_
  refine T_loop (ι := Nat) (fun k => { n := 40, sl := [(1, (.d (.str u))), (2, (.ptr 2000 0)), (5, (.d (.int .i64 ((k : Nat) : Int))))], hp := [(2000, (some (.box [(.d (.slice false 2 (x.sigs.map Sgn.d))), (.d (.slice false 1 (x.codes.map D.str))), (.d (.slice false 4 (x.arcs.map Arc.d)))])))], pin := [] }) (fun k => k ≤ u.length ∧ ∀ j, j < k → signOk (u.getD j 0) = true) (fun k => u.length - k) ⟨0, ⟨by omega, fun j hj => by omega⟩, (Wk.of rfl rfl (And.intro rfl (And.intro rfl (And.intro (vI (by first | rfl | omega | (simp; done) | (simp; omega))) trivial))) (And.intro rfl trivial))⟩ (fun k hp0 => ?_)
  refine T_seq ?_
  refine T_seq ?_
  refine T_region hc ?_
  refine Ch.step (v := (.d (.int .i64 ((k : Nat) : Int)))) rfl (.pure (.move _ rfl rfl)) rfl rfl ?_
  refine Ch.step (v := (.d (.str u))) rfl (.pure (.move _ rfl rfl)) rfl rfl ?_
  refine Ch.step (v := (.d (.int .i64 ((u.length : Nat) : Int)))) rfl (.pure (.lenStr _ _ rfl Try.underlying9 rfl)) rfl rfl ?_
  refine Ch.step (v := (.d (.bool (decide (((k : Nat) : Int) < ((u.length : Nat) : Int)))))) rfl (.pure (.int _ _ _ _ _ rfl rfl rfl rfl)) rfl rfl ?_
  refine Ch.nil ?_
  refine T_cond (b := (decide (((k : Nat) : Int) < ((u.length : Nat) : Int)))) rfl (fun h1 => ?_) (fun h1 => ?_)
  · replace h1 := of_decide_eq_true h1
    refine T_skip ?_
    refine T_seq ?_
    refine T_block ?_
    refine T_seq ?_
    refine T_region hc ?_
    refine Ch.step (v := (.d (.str u))) rfl (.pure (.move _ rfl rfl)) rfl rfl ?_
    refine Ch.step (v := (.d (.int .i64 ((k : Nat) : Int)))) rfl (.pure (.move _ rfl rfl)) rfl rfl ?_
    refine Ch.step (v := (.d (.int .u8 ((u.getD k 0).toNat : Int)))) rfl (.pure (.idxStr _ _ _ (k) rfl Try.underlying9 rfl rfl rfl (get_str (by first | omega | (simp only [List.length_map, List.length_append, List.length_take, List.length_drop, List.length_cons, List.length_nil]; omega) | (simp; omega) | (simp; done))))) rfl rfl ?_
    refine Ch.step (v := (.d (.int .u8 ((u.getD k 0).toNat : Int)))) rfl (.pure (.assign _ rfl rfl)) rfl rfl ?_
    refine Ch.nil ?_
    refine T_seq ?_
    refine T_region hc ?_
    refine Ch.step (v := (.d (.int .u8 ((u.getD k 0).toNat : Int)))) rfl (.pure (.move _ rfl rfl)) rfl rfl ?_
    refine Ch.step (v := (.d (.bool (!(decide (((u.getD k 0) : UInt8) = 48)))))) rfl (.pure (.int _ _ _ _ _ rfl rfl rfl (u8_neq ((u.getD k 0) : UInt8) 48 rfl rfl))) rfl rfl ?_
    refine Ch.step (v := (.d (.bool (!(decide (((u.getD k 0) : UInt8) = 48)))))) rfl (.pure (.move _ rfl rfl)) rfl rfl ?_
    cases h2 : (decide (((u.getD k 0) : UInt8) = 48)) with
    | true =>
      replace h2 := of_decide_eq_true h2
      refine Ch.skip rfl rfl ?_
      refine Ch.skip rfl rfl ?_
      refine Ch.step (v := (.d (.bool false))) rfl (.pure (.pickF _ _ _ rfl rfl rfl)) rfl rfl ?_
      refine Ch.step (v := (.d (.bool false))) rfl (.pure (.move _ rfl rfl)) rfl rfl ?_
      refine Ch.skip rfl rfl ?_
      refine Ch.skip rfl rfl ?_
      refine Ch.step (v := (.d (.bool false))) rfl (.pure (.pickF _ _ _ rfl rfl rfl)) rfl rfl ?_
      refine Ch.step (v := (.d (.bool false))) rfl (.pure (.move _ rfl rfl)) rfl rfl ?_
      refine Ch.skip rfl rfl ?_
      refine Ch.skip rfl rfl ?_
      refine Ch.step (v := (.d (.bool false))) rfl (.pure (.pickF _ _ _ rfl rfl rfl)) rfl rfl ?_
      refine Ch.nil ?_
      refine T_cond (b := false) rfl (fun h => nomatch h) (fun _ => ?_)
      refine T_skip ?_
      refine T_region hc ?_
      refine Ch.step (v := (.d (.int .i64 ((k : Nat) : Int)))) rfl (.pure (.move _ rfl rfl)) rfl rfl ?_
      refine Ch.step (v := (.d (.int .i64 (((k : Nat) : Int) + 1)))) rfl (.pure (.int _ _ _ _ _ rfl rfl rfl (intV_add (by first | omega | (simp only [List.length_map, List.length_append, List.length_take, List.length_drop, List.length_cons, List.length_nil]; omega) | (simp; omega) | (simp; done)) (by first | omega | (simp only [List.length_map, List.length_append, List.length_take, List.length_drop, List.length_cons, List.length_nil]; omega) | (simp; omega) | (simp; done))))) rfl rfl ?_
      refine Ch.step (v := (.d (.int .i64 (((k : Nat) : Int) + 1)))) rfl (.pure (.assign _ rfl rfl)) rfl rfl ?_
      refine Ch.nil ?_
      refine Exists.intro (k + 1) (And.intro ⟨by omega, upto_succ hp0.2 (by simp_all [signOk])⟩ (And.intro (by first | omega | (dsimp only; omega)) (Wk.of rfl rfl (And.intro rfl (And.intro rfl (And.intro (vI (by first | rfl | omega | (simp; done) | (simp; omega))) trivial))) (And.intro rfl trivial))))
    | false =>
      replace h2 := of_decide_eq_false h2
      refine Ch.step (v := (.d (.int .u8 ((u.getD k 0).toNat : Int)))) rfl (.pure (.move _ rfl rfl)) rfl rfl ?_
      refine Ch.step (v := (.d (.bool (!(decide (((u.getD k 0) : UInt8) = 43)))))) rfl (.pure (.int _ _ _ _ _ rfl rfl rfl (u8_neq ((u.getD k 0) : UInt8) 43 rfl rfl))) rfl rfl ?_
      refine Ch.step (v := (.d (.bool (!(decide (((u.getD k 0) : UInt8) = 43)))))) rfl (.pure (.pickT _ _ _ rfl rfl rfl)) rfl rfl ?_
      refine Ch.step (v := (.d (.bool (!(decide (((u.getD k 0) : UInt8) = 43)))))) rfl (.pure (.move _ rfl rfl)) rfl rfl ?_
      cases h3 : (decide (((u.getD k 0) : UInt8) = 43)) with
      | true =>
        replace h3 := of_decide_eq_true h3
        refine Ch.skip rfl rfl ?_
        refine Ch.skip rfl rfl ?_
        refine Ch.step (v := (.d (.bool false))) rfl (.pure (.pickF _ _ _ rfl rfl rfl)) rfl rfl ?_
        refine Ch.step (v := (.d (.bool false))) rfl (.pure (.move _ rfl rfl)) rfl rfl ?_
        refine Ch.skip rfl rfl ?_
        refine Ch.skip rfl rfl ?_
        refine Ch.step (v := (.d (.bool false))) rfl (.pure (.pickF _ _ _ rfl rfl rfl)) rfl rfl ?_
        refine Ch.nil ?_
        refine T_cond (b := false) rfl (fun h => nomatch h) (fun _ => ?_)
        refine T_skip ?_
        refine T_region hc ?_
        refine Ch.step (v := (.d (.int .i64 ((k : Nat) : Int)))) rfl (.pure (.move _ rfl rfl)) rfl rfl ?_
        refine Ch.step (v := (.d (.int .i64 (((k : Nat) : Int) + 1)))) rfl (.pure (.int _ _ _ _ _ rfl rfl rfl (intV_add (by first | omega | (simp only [List.length_map, List.length_append, List.length_take, List.length_drop, List.length_cons, List.length_nil]; omega) | (simp; omega) | (simp; done)) (by first | omega | (simp only [List.length_map, List.length_append, List.length_take, List.length_drop, List.length_cons, List.length_nil]; omega) | (simp; omega) | (simp; done))))) rfl rfl ?_
        refine Ch.step (v := (.d (.int .i64 (((k : Nat) : Int) + 1)))) rfl (.pure (.assign _ rfl rfl)) rfl rfl ?_
        refine Ch.nil ?_
        refine Exists.intro (k + 1) (And.intro ⟨by omega, upto_succ hp0.2 (by simp_all [signOk])⟩ (And.intro (by first | omega | (dsimp only; omega)) (Wk.of rfl rfl (And.intro rfl (And.intro rfl (And.intro (vI (by first | rfl | omega | (simp; done) | (simp; omega))) trivial))) (And.intro rfl trivial))))
      | false =>
        replace h3 := of_decide_eq_false h3
        refine Ch.step (v := (.d (.int .u8 ((u.getD k 0).toNat : Int)))) rfl (.pure (.move _ rfl rfl)) rfl rfl ?_
        refine Ch.step (v := (.d (.bool (!(decide (((u.getD k 0) : UInt8) = 49)))))) rfl (.pure (.int _ _ _ _ _ rfl rfl rfl (u8_neq ((u.getD k 0) : UInt8) 49 rfl rfl))) rfl rfl ?_
        refine Ch.step (v := (.d (.bool (!(decide (((u.getD k 0) : UInt8) = 49)))))) rfl (.pure (.pickT _ _ _ rfl rfl rfl)) rfl rfl ?_
        refine Ch.step (v := (.d (.bool (!(decide (((u.getD k 0) : UInt8) = 49)))))) rfl (.pure (.move _ rfl rfl)) rfl rfl ?_
        cases h4 : (decide (((u.getD k 0) : UInt8) = 49)) with
        | true =>
          replace h4 := of_decide_eq_true h4
          refine Ch.skip rfl rfl ?_
          refine Ch.skip rfl rfl ?_
          refine Ch.step (v := (.d (.bool false))) rfl (.pure (.pickF _ _ _ rfl rfl rfl)) rfl rfl ?_
          refine Ch.nil ?_
          refine T_cond (b := false) rfl (fun h => nomatch h) (fun _ => ?_)
          refine T_skip ?_
          refine T_region hc ?_
          refine Ch.step (v := (.d (.int .i64 ((k : Nat) : Int)))) rfl (.pure (.move _ rfl rfl)) rfl rfl ?_
          refine Ch.step (v := (.d (.int .i64 (((k : Nat) : Int) + 1)))) rfl (.pure (.int _ _ _ _ _ rfl rfl rfl (intV_add (by first | omega | (simp only [List.length_map, List.length_append, List.length_take, List.length_drop, List.length_cons, List.length_nil]; omega) | (simp; omega) | (simp; done)) (by first | omega | (simp only [List.length_map, List.length_append, List.length_take, List.length_drop, List.length_cons, List.length_nil]; omega) | (simp; omega) | (simp; done))))) rfl rfl ?_
          refine Ch.step (v := (.d (.int .i64 (((k : Nat) : Int) + 1)))) rfl (.pure (.assign _ rfl rfl)) rfl rfl ?_
          refine Ch.nil ?_
          refine Exists.intro (k + 1) (And.intro ⟨by omega, upto_succ hp0.2 (by simp_all [signOk])⟩ (And.intro (by first | omega | (dsimp only; omega)) (Wk.of rfl rfl (And.intro rfl (And.intro rfl (And.intro (vI (by first | rfl | omega | (simp; done) | (simp; omega))) trivial))) (And.intro rfl trivial))))
        | false =>
          replace h4 := of_decide_eq_false h4
          refine Ch.step (v := (.d (.int .u8 ((u.getD k 0).toNat : Int)))) rfl (.pure (.move _ rfl rfl)) rfl rfl ?_
          refine Ch.step (v := (.d (.bool (!(decide (((u.getD k 0) : UInt8) = 45)))))) rfl (.pure (.int _ _ _ _ _ rfl rfl rfl (u8_neq ((u.getD k 0) : UInt8) 45 rfl rfl))) rfl rfl ?_
          refine Ch.step (v := (.d (.bool (!(decide (((u.getD k 0) : UInt8) = 45)))))) rfl (.pure (.pickT _ _ _ rfl rfl rfl)) rfl rfl ?_
          refine Ch.nil ?_
          refine T_cond (b := (!(decide (((u.getD k 0) : UInt8) = 45)))) rfl (fun h5 => ?_) (fun h5 => ?_)
          · replace h5 := nott h5
            replace h5 := of_decide_eq_false h5
            refine T_seq ?_
            refine T_region hc ?_
            refine Ch.step (v := (.d (.bool false))) rfl (.pure (.assign _ rfl rfl)) rfl rfl ?_
            refine Ch.nil ?_
            refine T_ret ?_
            refine And.intro (.inr rfl) ?_
            exact Exists.intro [(.d (.bool false))] (Exists.intro [] (Exists.intro [] (And.intro (.cons (.tmp 4 rfl) .nil) (And.intro (.cons (.any _) (.cons (.any _) .nil)) (And.intro (Exp.of (congrArg D.bool (by first | (rw [formB, allB_no k (by omega) (by simp_all [signOk])]; rfl) | (rw [formB, allB_of (fun j hj => hp0.2 j (by omega))]; simp_all; done))) (.d _)) (And.intro rfl rfl))))))
          · replace h5 := notf h5
            replace h5 := of_decide_eq_true h5
            refine T_skip ?_
            refine T_region hc ?_
            refine Ch.step (v := (.d (.int .i64 ((k : Nat) : Int)))) rfl (.pure (.move _ rfl rfl)) rfl rfl ?_
            refine Ch.step (v := (.d (.int .i64 (((k : Nat) : Int) + 1)))) rfl (.pure (.int _ _ _ _ _ rfl rfl rfl (intV_add (by first | omega | (simp only [List.length_map, List.length_append, List.length_take, List.length_drop, List.length_cons, List.length_nil]; omega) | (simp; omega) | (simp; done)) (by first | omega | (simp only [List.length_map, List.length_append, List.length_take, List.length_drop, List.length_cons, List.length_nil]; omega) | (simp; omega) | (simp; done))))) rfl rfl ?_
            refine Ch.step (v := (.d (.int .i64 (((k : Nat) : Int) + 1)))) rfl (.pure (.assign _ rfl rfl)) rfl rfl ?_
            refine Ch.nil ?_
            refine Exists.intro (k + 1) (And.intro ⟨by omega, upto_succ hp0.2 (by simp_all [signOk])⟩ (And.intro (by first | omega | (dsimp only; omega)) (Wk.of rfl rfl (And.intro rfl (And.intro rfl (And.intro (vI (by first | rfl | omega | (simp; done) | (simp; omega))) trivial))) (And.intro rfl trivial))))
  · replace h1 := of_decide_eq_false h1
    refine T_exit ?_
    refine T_seq ?_
    refine T_region hc ?_
    refine Ch.step (v := (.d (.str u))) rfl (.pure (.move _ rfl rfl)) rfl rfl ?_
    refine Ch.step (v := (.d (.int .i64 ((u.length : Nat) : Int)))) rfl (.pure (.lenStr _ _ rfl Try.underlying9 rfl)) rfl rfl ?_
    refine Ch.step (v := (.ptr 2000 1)) rfl (.pure (.fldPtr _ _ _ rfl fld52_1 rfl)) rfl rfl ?_
    refine Ch.step (v := (.d (.slice false 1 (x.codes.map D.str)))) rfl (.pure (.loadPtr1 _ _ rfl ag43 rfl rfl rfl)) rfl rfl ?_
    refine Ch.step (v := (.d (.int .i64 ((x.codes.length : Nat) : Int)))) rfl (.pure (.len _ _ 9 rfl Try.underlying43 (.sh _ _) (by simp))) rfl rfl ?_
    refine Ch.step (v := (.d (.bool (decide (((u.length : Nat) : Int) = ((x.codes.length : Nat) : Int)))))) rfl (.pure (.int _ _ _ _ _ rfl rfl rfl rfl)) rfl rfl ?_
    refine Ch.step (v := (.d (.bool (decide (((u.length : Nat) : Int) = ((x.codes.length : Nat) : Int)))))) rfl (.pure (.move _ rfl rfl)) rfl rfl ?_
    cases h6 : (decide (((u.length : Nat) : Int) = ((x.codes.length : Nat) : Int))) with
    | true =>
      replace h6 := of_decide_eq_true h6
      refine Ch.step (v := (.agg [(.d (.slice false 2 (x.sigs.map Sgn.d))), (.d (.slice false 1 (x.codes.map D.str))), (.d (.slice false 4 (x.arcs.map Arc.d)))])) rfl (.pure (.loadPtrA _ _ rfl ag52 sz52 rfl rfl (Nat.le_of_ble_eq_true rfl) rfl)) rfl rfl ?_
      refine Ch.step (v := (.d (.bool (sgB x)))) rfl (.call 38000 80 _ _ _ en80 rfl (.inl rfl) (.cons (.lend (.agg (.cons (.d _) (.cons (.d _) (.cons (.d _) .nil))) rfl)) .nil) rfl rfl (sp_impl_IsValidStateGraph x (by first | assumption | omega | (rw [List.length_take]; omega) | (have := bulkF_mem hb _ (getD_mem (d := default) (by omega)); assumption) | (unfold bulkS at *; omega) | (simp_all; done))) (.skip _ _ .nil) rfl) rfl rfl ?_
      refine Ch.step (v := (.d (.bool (sgB x)))) rfl (.pure (.pickT _ _ _ rfl rfl rfl)) rfl rfl ?_
      refine Ch.step (v := (.d (.bool (sgB x)))) rfl (.pure (.assign _ rfl rfl)) rfl rfl ?_
      refine Ch.nil ?_
      refine T_ret ?_
      refine And.intro (.inr rfl) ?_
      exact Exists.intro [(.d (.bool (sgB x)))] (Exists.intro [] (Exists.intro [] (And.intro (.cons (.tmp 4 rfl) .nil) (And.intro (.cons (.any _) (.cons (.any _) .nil)) (And.intro (Exp.of (congrArg D.bool (by first | (rw [formB, allB_no k (by omega) (by simp_all [signOk])]; rfl) | (rw [formB, allB_of (fun j hj => hp0.2 j (by omega))]; simp_all; done))) (.d _)) (And.intro rfl rfl))))))
    | false =>
      replace h6 := of_decide_eq_false h6
      refine Ch.skip rfl rfl ?_
      refine Ch.skip rfl rfl ?_
      refine Ch.step (v := (.d (.bool false))) rfl (.pure (.pickF _ _ _ rfl rfl rfl)) rfl rfl ?_
      refine Ch.step (v := (.d (.bool false))) rfl (.pure (.assign _ rfl rfl)) rfl rfl ?_
      refine Ch.nil ?_
      refine T_ret ?_
      refine And.intro (.inr rfl) ?_
      exact Exists.intro [(.d (.bool false))] (Exists.intro [] (Exists.intro [] (And.intro (.cons (.tmp 4 rfl) .nil) (And.intro (.cons (.any _) (.cons (.any _) .nil)) (And.intro (Exp.of (congrArg D.bool (by first | (rw [formB, allB_no k (by omega) (by simp_all [signOk])]; rfl) | (rw [formB, allB_of (fun j hj => hp0.2 j (by omega))]; simp_all; done))) (.d _)) (And.intro rfl rfl))))))

set_option maxHeartbeats 1000000 in
theorem sp_spec_l11Form (x : Sgr) (u : List UInt8) (hb : x.bulk ≤ 1048576) (hu : u.length ≤ 1048576) : Sp Try.prog 74 [(.agg [(.slice false 2 (x.sigs.map Sgn.d)), (.slice false 1 (x.codes.map D.str)), (.slice false 4 (x.arcs.map Arc.d))]), (.str u)] [.any, .any] (.bool (formB x u)) := by
  refine Sp_intro (lend := true) Try.func74 rfl rfl rfl (fun _ => rfl) (fun c hc hX => ?_)
  obtain ⟨hp0, hp1, hp2⟩ := Sgr.parts hb
  have hn0 := bulkF_len hp0
  have hn1 := bulk_len hp1
  have hx1 := bulk_mem hp1
  have hn2 := bulkF_len hp2
  refine T_seq ?_
  refine T_region hc ?_
  refine Ch.step (v := (.ptr 2000 0)) rfl (.box 2000 _ _ rfl (.aggD _)) rfl rfl ?_
  refine Ch.step (v := (.d (.bool false))) rfl (.pure (.assign _ rfl rfl)) rfl rfl ?_
  refine Ch.nil ?_
  refine T_seq ?_
  refine T_seq ?_
  refine T_region hc ?_
  refine Ch.step (v := (.d (.int .i64 0))) rfl (.pure (.assign _ rfl rfl)) rfl rfl ?_
  refine Ch.nil ?_
  refine T_block ?_
  refine T_loop (ι := Nat) (fun k => { n := 44, sl := [(1, (.d (.str u))), (2, (.ptr 2000 0)), (5, (.d (.int .i64 ((k : Nat) : Int))))], hp := [(2000, (some (.box [(.d (.slice false 2 (x.sigs.map Sgn.d))), (.d (.slice false 1 (x.codes.map D.str))), (.d (.slice false 4 (x.arcs.map Arc.d)))])))], pin := [] }) (fun k => k ≤ u.length ∧ ∀ j, j < k → signOk (u.getD j 0) = true) (fun k => u.length - k) ⟨0, ⟨by omega, fun j hj => by omega⟩, (Wk.of rfl rfl (And.intro rfl (And.intro rfl (And.intro (vI (by first | rfl | omega | (simp; done) | (simp; omega))) trivial))) (And.intro rfl trivial))⟩ (fun k hp0 => ?_)
  refine T_seq ?_
  refine T_seq ?_
  refine T_region hc ?_
  refine Ch.step (v := (.d (.int .i64 ((k : Nat) : Int)))) rfl (.pure (.move _ rfl rfl)) rfl rfl ?_
  refine Ch.step (v := (.d (.str u))) rfl (.pure (.move _ rfl rfl)) rfl rfl ?_
  refine Ch.step (v := (.d (.int .i64 ((u.length : Nat) : Int)))) rfl (.pure (.lenStr _ _ rfl Try.underlying9 rfl)) rfl rfl ?_
  refine Ch.step (v := (.d (.bool (decide (((k : Nat) : Int) < ((u.length : Nat) : Int)))))) rfl (.pure (.int _ _ _ _ _ rfl rfl rfl rfl)) rfl rfl ?_
  refine Ch.nil ?_
  refine T_cond (b := (decide (((k : Nat) : Int) < ((u.length : Nat) : Int)))) rfl (fun h1 => ?_) (fun h1 => ?_)
  · replace h1 := of_decide_eq_true h1
    refine T_skip ?_
    refine T_seq ?_
    refine T_block ?_
    refine T_seq ?_
    refine T_region hc ?_
    refine Ch.step (v := (.d (.str u))) rfl (.pure (.move _ rfl rfl)) rfl rfl ?_
    refine Ch.step (v := (.d (.int .i64 ((k : Nat) : Int)))) rfl (.pure (.move _ rfl rfl)) rfl rfl ?_
    refine Ch.step (v := (.d (.int .u8 ((u.getD k 0).toNat : Int)))) rfl (.pure (.idxStr _ _ _ (k) rfl Try.underlying9 rfl rfl rfl (get_str (by first | omega | (simp only [List.length_map, List.length_append, List.length_take, List.length_drop, List.length_cons, List.length_nil]; omega) | (simp; omega) | (simp; done))))) rfl rfl ?_
    refine Ch.step (v := (.d (.bool (!(decide (((u.getD k 0) : UInt8) = 48)))))) rfl (.pure (.int _ _ _ _ _ rfl rfl rfl (u8_neq ((u.getD k 0) : UInt8) 48 rfl rfl))) rfl rfl ?_
    refine Ch.step (v := (.d (.bool (!(decide (((u.getD k 0) : UInt8) = 48)))))) rfl (.pure (.move _ rfl rfl)) rfl rfl ?_
    cases h2 : (decide (((u.getD k 0) : UInt8) = 48)) with
    | true =>
      replace h2 := of_decide_eq_true h2
      refine Ch.skip rfl rfl ?_
      refine Ch.skip rfl rfl ?_
      refine Ch.skip rfl rfl ?_
      refine Ch.skip rfl rfl ?_
      refine Ch.step (v := (.d (.bool false))) rfl (.pure (.pickF _ _ _ rfl rfl rfl)) rfl rfl ?_
      refine Ch.step (v := (.d (.bool false))) rfl (.pure (.move _ rfl rfl)) rfl rfl ?_
      refine Ch.skip rfl rfl ?_
      refine Ch.skip rfl rfl ?_
      refine Ch.skip rfl rfl ?_
      refine Ch.skip rfl rfl ?_
      refine Ch.step (v := (.d (.bool false))) rfl (.pure (.pickF _ _ _ rfl rfl rfl)) rfl rfl ?_
      refine Ch.step (v := (.d (.bool false))) rfl (.pure (.move _ rfl rfl)) rfl rfl ?_
      refine Ch.skip rfl rfl ?_
      refine Ch.skip rfl rfl ?_
      refine Ch.skip rfl rfl ?_
      refine Ch.skip rfl rfl ?_
      refine Ch.step (v := (.d (.bool false))) rfl (.pure (.pickF _ _ _ rfl rfl rfl)) rfl rfl ?_
      refine Ch.nil ?_
      refine T_cond (b := false) rfl (fun h => nomatch h) (fun _ => ?_)
      refine T_skip ?_
      refine T_region hc ?_
      refine Ch.step (v := (.d (.int .i64 ((k : Nat) : Int)))) rfl (.pure (.move _ rfl rfl)) rfl rfl ?_
      refine Ch.step (v := (.d (.int .i64 (((k : Nat) : Int) + 1)))) rfl (.pure (.int _ _ _ _ _ rfl rfl rfl (intV_add (by first | omega | (simp only [List.length_map, List.length_append, List.length_take, List.length_drop, List.length_cons, List.length_nil]; omega) | (simp; omega) | (simp; done)) (by first | omega | (simp only [List.length_map, List.length_append, List.length_take, List.length_drop, List.length_cons, List.length_nil]; omega) | (simp; omega) | (simp; done))))) rfl rfl ?_
      refine Ch.step (v := (.d (.int .i64 (((k : Nat) : Int) + 1)))) rfl (.pure (.assign _ rfl rfl)) rfl rfl ?_
      refine Ch.nil ?_
      refine Exists.intro (k + 1) (And.intro ⟨by omega, upto_succ hp0.2 (by simp_all [signOk])⟩ (And.intro (by first | omega | (dsimp only; omega)) (Wk.of rfl rfl (And.intro rfl (And.intro rfl (And.intro (vI (by first | rfl | omega | (simp; done) | (simp; omega))) trivial))) (And.intro rfl trivial))))
    | false =>
      replace h2 := of_decide_eq_false h2
      refine Ch.step (v := (.d (.str u))) rfl (.pure (.move _ rfl rfl)) rfl rfl ?_
      refine Ch.step (v := (.d (.int .i64 ((k : Nat) : Int)))) rfl (.pure (.move _ rfl rfl)) rfl rfl ?_
      refine Ch.step (v := (.d (.int .u8 ((u.getD k 0).toNat : Int)))) rfl (.pure (.idxStr _ _ _ (k) rfl Try.underlying9 rfl rfl rfl (get_str (by first | omega | (simp only [List.length_map, List.length_append, List.length_take, List.length_drop, List.length_cons, List.length_nil]; omega) | (simp; omega) | (simp; done))))) rfl rfl ?_
      refine Ch.step (v := (.d (.bool (!(decide (((u.getD k 0) : UInt8) = 43)))))) rfl (.pure (.int _ _ _ _ _ rfl rfl rfl (u8_neq ((u.getD k 0) : UInt8) 43 rfl rfl))) rfl rfl ?_
      refine Ch.step (v := (.d (.bool (!(decide (((u.getD k 0) : UInt8) = 43)))))) rfl (.pure (.pickT _ _ _ rfl rfl rfl)) rfl rfl ?_
      refine Ch.step (v := (.d (.bool (!(decide (((u.getD k 0) : UInt8) = 43)))))) rfl (.pure (.move _ rfl rfl)) rfl rfl ?_
      cases h3 : (decide (((u.getD k 0) : UInt8) = 43)) with
      | true =>
        replace h3 := of_decide_eq_true h3
        refine Ch.skip rfl rfl ?_
        refine Ch.skip rfl rfl ?_
        refine Ch.skip rfl rfl ?_
        refine Ch.skip rfl rfl ?_
        refine Ch.step (v := (.d (.bool false))) rfl (.pure (.pickF _ _ _ rfl rfl rfl)) rfl rfl ?_
        refine Ch.step (v := (.d (.bool false))) rfl (.pure (.move _ rfl rfl)) rfl rfl ?_
        refine Ch.skip rfl rfl ?_
        refine Ch.skip rfl rfl ?_
        refine Ch.skip rfl rfl ?_
        refine Ch.skip rfl rfl ?_
        refine Ch.step (v := (.d (.bool false))) rfl (.pure (.pickF _ _ _ rfl rfl rfl)) rfl rfl ?_
        refine Ch.nil ?_
        refine T_cond (b := false) rfl (fun h => nomatch h) (fun _ => ?_)
        refine T_skip ?_
        refine T_region hc ?_
        refine Ch.step (v := (.d (.int .i64 ((k : Nat) : Int)))) rfl (.pure (.move _ rfl rfl)) rfl rfl ?_
        refine Ch.step (v := (.d (.int .i64 (((k : Nat) : Int) + 1)))) rfl (.pure (.int _ _ _ _ _ rfl rfl rfl (intV_add (by first | omega | (simp only [List.length_map, List.length_append, List.length_take, List.length_drop, List.length_cons, List.length_nil]; omega) | (simp; omega) | (simp; done)) (by first | omega | (simp only [List.length_map, List.length_append, List.length_take, List.length_drop, List.length_cons, List.length_nil]; omega) | (simp; omega) | (simp; done))))) rfl rfl ?_
        refine Ch.step (v := (.d (.int .i64 (((k : Nat) : Int) + 1)))) rfl (.pure (.assign _ rfl rfl)) rfl rfl ?_
        refine Ch.nil ?_
        refine Exists.intro (k + 1) (And.intro ⟨by omega, upto_succ hp0.2 (by simp_all [signOk])⟩ (And.intro (by first | omega | (dsimp only; omega)) (Wk.of rfl rfl (And.intro rfl (And.intro rfl (And.intro (vI (by first | rfl | omega | (simp; done) | (simp; omega))) trivial))) (And.intro rfl trivial))))
      | false =>
        replace h3 := of_decide_eq_false h3
        refine Ch.step (v := (.d (.str u))) rfl (.pure (.move _ rfl rfl)) rfl rfl ?_
        refine Ch.step (v := (.d (.int .i64 ((k : Nat) : Int)))) rfl (.pure (.move _ rfl rfl)) rfl rfl ?_
        refine Ch.step (v := (.d (.int .u8 ((u.getD k 0).toNat : Int)))) rfl (.pure (.idxStr _ _ _ (k) rfl Try.underlying9 rfl rfl rfl (get_str (by first | omega | (simp only [List.length_map, List.length_append, List.length_take, List.length_drop, List.length_cons, List.length_nil]; omega) | (simp; omega) | (simp; done))))) rfl rfl ?_
        refine Ch.step (v := (.d (.bool (!(decide (((u.getD k 0) : UInt8) = 49)))))) rfl (.pure (.int _ _ _ _ _ rfl rfl rfl (u8_neq ((u.getD k 0) : UInt8) 49 rfl rfl))) rfl rfl ?_
        refine Ch.step (v := (.d (.bool (!(decide (((u.getD k 0) : UInt8) = 49)))))) rfl (.pure (.pickT _ _ _ rfl rfl rfl)) rfl rfl ?_
        refine Ch.step (v := (.d (.bool (!(decide (((u.getD k 0) : UInt8) = 49)))))) rfl (.pure (.move _ rfl rfl)) rfl rfl ?_
        cases h4 : (decide (((u.getD k 0) : UInt8) = 49)) with
        | true =>
          replace h4 := of_decide_eq_true h4
          refine Ch.skip rfl rfl ?_
          refine Ch.skip rfl rfl ?_
          refine Ch.skip rfl rfl ?_
          refine Ch.skip rfl rfl ?_
          refine Ch.step (v := (.d (.bool false))) rfl (.pure (.pickF _ _ _ rfl rfl rfl)) rfl rfl ?_
          refine Ch.nil ?_
          refine T_cond (b := false) rfl (fun h => nomatch h) (fun _ => ?_)
          refine T_skip ?_
          refine T_region hc ?_
          refine Ch.step (v := (.d (.int .i64 ((k : Nat) : Int)))) rfl (.pure (.move _ rfl rfl)) rfl rfl ?_
          refine Ch.step (v := (.d (.int .i64 (((k : Nat) : Int) + 1)))) rfl (.pure (.int _ _ _ _ _ rfl rfl rfl (intV_add (by first | omega | (simp only [List.length_map, List.length_append, List.length_take, List.length_drop, List.length_cons, List.length_nil]; omega) | (simp; omega) | (simp; done)) (by first | omega | (simp only [List.length_map, List.length_append, List.length_take, List.length_drop, List.length_cons, List.length_nil]; omega) | (simp; omega) | (simp; done))))) rfl rfl ?_
          refine Ch.step (v := (.d (.int .i64 (((k : Nat) : Int) + 1)))) rfl (.pure (.assign _ rfl rfl)) rfl rfl ?_
          refine Ch.nil ?_
          refine Exists.intro (k + 1) (And.intro ⟨by omega, upto_succ hp0.2 (by simp_all [signOk])⟩ (And.intro (by first | omega | (dsimp only; omega)) (Wk.of rfl rfl (And.intro rfl (And.intro rfl (And.intro (vI (by first | rfl | omega | (simp; done) | (simp; omega))) trivial))) (And.intro rfl trivial))))
        | false =>
          replace h4 := of_decide_eq_false h4
          refine Ch.step (v := (.d (.str u))) rfl (.pure (.move _ rfl rfl)) rfl rfl ?_
          refine Ch.step (v := (.d (.int .i64 ((k : Nat) : Int)))) rfl (.pure (.move _ rfl rfl)) rfl rfl ?_
          refine Ch.step (v := (.d (.int .u8 ((u.getD k 0).toNat : Int)))) rfl (.pure (.idxStr _ _ _ (k) rfl Try.underlying9 rfl rfl rfl (get_str (by first | omega | (simp only [List.length_map, List.length_append, List.length_take, List.length_drop, List.length_cons, List.length_nil]; omega) | (simp; omega) | (simp; done))))) rfl rfl ?_
          refine Ch.step (v := (.d (.bool (!(decide (((u.getD k 0) : UInt8) = 45)))))) rfl (.pure (.int _ _ _ _ _ rfl rfl rfl (u8_neq ((u.getD k 0) : UInt8) 45 rfl rfl))) rfl rfl ?_
          refine Ch.step (v := (.d (.bool (!(decide (((u.getD k 0) : UInt8) = 45)))))) rfl (.pure (.pickT _ _ _ rfl rfl rfl)) rfl rfl ?_
          refine Ch.nil ?_
          refine T_cond (b := (!(decide (((u.getD k 0) : UInt8) = 45)))) rfl (fun h5 => ?_) (fun h5 => ?_)
          · replace h5 := nott h5
            replace h5 := of_decide_eq_false h5
            refine T_seq ?_
            refine T_region hc ?_
            refine Ch.step (v := (.d (.bool false))) rfl (.pure (.assign _ rfl rfl)) rfl rfl ?_
            refine Ch.nil ?_
            refine T_ret ?_
            refine And.intro (.inr rfl) ?_
            exact Exists.intro [(.d (.bool false))] (Exists.intro [] (Exists.intro [] (And.intro (.cons (.tmp 4 rfl) .nil) (And.intro (.cons (.any _) (.cons (.any _) .nil)) (And.intro (Exp.of (congrArg D.bool (by first | (rw [formB, allB_no k (by omega) (by simp_all [signOk])]; rfl) | (rw [formB, allB_of (fun j hj => hp0.2 j (by omega))]; simp_all; done))) (.d _)) (And.intro rfl rfl))))))
          · replace h5 := notf h5
            replace h5 := of_decide_eq_true h5
            refine T_skip ?_
            refine T_region hc ?_
            refine Ch.step (v := (.d (.int .i64 ((k : Nat) : Int)))) rfl (.pure (.move _ rfl rfl)) rfl rfl ?_
            refine Ch.step (v := (.d (.int .i64 (((k : Nat) : Int) + 1)))) rfl (.pure (.int _ _ _ _ _ rfl rfl rfl (intV_add (by first | omega | (simp only [List.length_map, List.length_append, List.length_take, List.length_drop, List.length_cons, List.length_nil]; omega) | (simp; omega) | (simp; done)) (by first | omega | (simp only [List.length_map, List.length_append, List.length_take, List.length_drop, List.length_cons, List.length_nil]; omega) | (simp; omega) | (simp; done))))) rfl rfl ?_
            refine Ch.step (v := (.d (.int .i64 (((k : Nat) : Int) + 1)))) rfl (.pure (.assign _ rfl rfl)) rfl rfl ?_
            refine Ch.nil ?_
            refine Exists.intro (k + 1) (And.intro ⟨by omega, upto_succ hp0.2 (by simp_all [signOk])⟩ (And.intro (by first | omega | (dsimp only; omega)) (Wk.of rfl rfl (And.intro rfl (And.intro rfl (And.intro (vI (by first | rfl | omega | (simp; done) | (simp; omega))) trivial))) (And.intro rfl trivial))))
  · replace h1 := of_decide_eq_false h1
    refine T_exit ?_
    refine T_seq ?_
    refine T_region hc ?_
    refine Ch.step (v := (.agg [(.d (.slice false 2 (x.sigs.map Sgn.d))), (.d (.slice false 1 (x.codes.map D.str))), (.d (.slice false 4 (x.arcs.map Arc.d)))])) rfl (.pure (.loadPtrA _ _ rfl ag52 sz52 rfl rfl (Nat.le_of_ble_eq_true rfl) rfl)) rfl rfl ?_
    refine Ch.step (v := (.d (.bool (sgB x)))) rfl (.call 35000 78 _ _ _ en78 rfl (.inl rfl) (.cons (.lend (.agg (.cons (.d _) (.cons (.d _) (.cons (.d _) .nil))) rfl)) .nil) rfl rfl (sp_spec_l5Good x (by first | assumption | omega | (rw [List.length_take]; omega) | (have := bulkF_mem hb _ (getD_mem (d := default) (by omega)); assumption) | (unfold bulkS at *; omega) | (simp_all; done))) (.skip _ _ .nil) rfl) rfl rfl ?_
    refine Ch.step (v := (.d (.bool (sgB x)))) rfl (.pure (.move _ rfl rfl)) rfl rfl ?_
    cases h6 : (sgB x) with
    | true =>
      refine Ch.step (v := (.d (.str u))) rfl (.pure (.move _ rfl rfl)) rfl rfl ?_
      refine Ch.step (v := (.d (.int .i64 ((u.length : Nat) : Int)))) rfl (.pure (.lenStr _ _ rfl Try.underlying9 rfl)) rfl rfl ?_
      refine Ch.step (v := (.ptr 2000 1)) rfl (.pure (.fldPtr _ _ _ rfl fld52_1 rfl)) rfl rfl ?_
      refine Ch.step (v := (.d (.slice false 1 (x.codes.map D.str)))) rfl (.pure (.loadPtr1 _ _ rfl ag43 rfl rfl rfl)) rfl rfl ?_
      refine Ch.step (v := (.d (.int .i64 ((x.codes.length : Nat) : Int)))) rfl (.pure (.len _ _ 9 rfl Try.underlying43 (.sh _ _) (by simp))) rfl rfl ?_
      refine Ch.step (v := (.d (.bool (decide (((u.length : Nat) : Int) = ((x.codes.length : Nat) : Int)))))) rfl (.pure (.int _ _ _ _ _ rfl rfl rfl rfl)) rfl rfl ?_
      refine Ch.step (v := (.d (.bool (decide (((u.length : Nat) : Int) = ((x.codes.length : Nat) : Int)))))) rfl (.pure (.pickT _ _ _ rfl rfl rfl)) rfl rfl ?_
      refine Ch.step (v := (.d (.bool (decide (((u.length : Nat) : Int) = ((x.codes.length : Nat) : Int)))))) rfl (.pure (.assign _ rfl rfl)) rfl rfl ?_
      refine Ch.nil ?_
      refine T_ret ?_
      refine And.intro (.inr rfl) ?_
      exact Exists.intro [(.d (.bool (decide (((u.length : Nat) : Int) = ((x.codes.length : Nat) : Int)))))] (Exists.intro [] (Exists.intro [] (And.intro (.cons (.tmp 4 rfl) .nil) (And.intro (.cons (.any _) (.cons (.any _) .nil)) (And.intro (Exp.of (congrArg D.bool (by first | (rw [formB, allB_no k (by omega) (by simp_all [signOk])]; rfl) | (rw [formB, allB_of (fun j hj => hp0.2 j (by omega))]; simp_all; done))) (.d _)) (And.intro rfl rfl))))))
    | false =>
      refine Ch.skip rfl rfl ?_
      refine Ch.skip rfl rfl ?_
      refine Ch.skip rfl rfl ?_
      refine Ch.skip rfl rfl ?_
      refine Ch.skip rfl rfl ?_
      refine Ch.skip rfl rfl ?_
      refine Ch.step (v := (.d (.bool false))) rfl (.pure (.pickF _ _ _ rfl rfl rfl)) rfl rfl ?_
      refine Ch.step (v := (.d (.bool false))) rfl (.pure (.assign _ rfl rfl)) rfl rfl ?_
      refine Ch.nil ?_
      refine T_ret ?_
      refine And.intro (.inr rfl) ?_
      exact Exists.intro [(.d (.bool false))] (Exists.intro [] (Exists.intro [] (And.intro (.cons (.tmp 4 rfl) .nil) (And.intro (.cons (.any _) (.cons (.any _) .nil)) (And.intro (Exp.of (congrArg D.bool (by first | (rw [formB, allB_no k (by omega) (by simp_all [signOk])]; rfl) | (rw [formB, allB_of (fun j hj => hp0.2 j (by omega))]; simp_all; done))) (.d _)) (And.intro rfl rfl))))))

theorem sp_impl_isPartition_1 (a : Arc) (u : List UInt8) (he : (0 ≤ a.src ∧ a.src.toNat < u.length) ∧ (0 ≤ a.dst ∧ a.dst.toNat < u.length)) : Sp Try.prog 126 [(.agg [(.int .i64 a.src), (.int .i64 a.sig), (.bool (a.up)), (.int .i64 a.dst)]), (.ref (.str u))] [.any, .any] (.bool (!goArc u a)) := by
  refine Sp_intro (lend := true) Try.func126 rfl rfl rfl (fun _ => rfl) (fun c hc hX => ?_)
  refine T_seq ?_
  refine T_region hc ?_
  refine Ch.step (v := (.ptr 2000 0)) rfl (.box 2000 _ _ rfl (.aggD _)) rfl rfl ?_
  refine Ch.step (v := (.d (.bool false))) rfl (.pure (.assign _ rfl rfl)) rfl rfl ?_
  refine Ch.nil ?_
  refine T_seq ?_
  refine T_regionD hc (by kernel_rfl) ?_
  refine ChD.step (v := (.d (.str u))) [] rfl (.pure (.loadRef1 _ _ rfl ag9 rfl rfl)) rfl rfl ?_
  refine ChD.step (v := (.ptr 2000 0)) [] rfl (.pure (.fldPtr _ _ _ rfl fld102_0 rfl)) rfl rfl ?_
  refine ChD.step (v := (.d (.int .i64 a.src))) [2000] rfl (.pure (.loadPtr1 _ _ rfl ag3 rfl rfl rfl)) rfl rfl ?_
  refine ChD.step (v := (.d (.int .u8 ((u.getD ((a.src).toNat) 0).toNat : Int)))) [] rfl (.pure (.idxStr _ _ _ ((a.src).toNat) rfl Try.underlying9 rfl rfl (by omega) (get_str (by first | omega | (simp only [List.length_map, List.length_append, List.length_take, List.length_drop, List.length_cons, List.length_nil]; omega) | (simp; omega) | (simp; done))))) rfl rfl ?_
  refine ChD.step (v := (.d (.str u))) [] rfl (.pure (.loadRef1 _ _ rfl ag9 rfl rfl)) rfl rfl ?_
  refine ChD.step (v := (.ptr 2000 3)) [] rfl (.pure (.fldPtr _ _ _ rfl fld102_3 rfl)) rfl rfl ?_
  refine ChD.step (v := (.d (.int .i64 a.dst))) [2000] rfl (.pure (.loadPtr1 _ _ rfl ag3 rfl rfl rfl)) rfl rfl ?_
  refine ChD.step (v := (.d (.int .u8 ((u.getD ((a.dst).toNat) 0).toNat : Int)))) [] rfl (.pure (.idxStr _ _ _ ((a.dst).toNat) rfl Try.underlying9 rfl rfl (by omega) (get_str (by first | omega | (simp only [List.length_map, List.length_append, List.length_take, List.length_drop, List.length_cons, List.length_nil]; omega) | (simp; omega) | (simp; done))))) rfl rfl ?_
  refine ChD.step (v := (.d (.bool (nextCh (u.getD ((a.src).toNat) 0) (u.getD ((a.dst).toNat) 0))))) [] rfl (.call 12000 127 _ _ _ en127 rfl (.inl rfl) (.cons (.d _) (.cons (.d _) .nil)) rfl rfl (sp_impl_mayFollow (u.getD ((a.src).toNat) 0) (u.getD ((a.dst).toNat) 0)) (.skip _ _ (.skip _ _ .nil)) rfl) rfl rfl ?_
  refine ChD.step (v := (.d (.bool (!(nextCh (u.getD ((a.src).toNat) 0) (u.getD ((a.dst).toNat) 0)))))) [] rfl (.pure (.not _ _ rfl rfl)) rfl rfl ?_
  refine ChD.step (v := (.d (.bool (!(nextCh (u.getD ((a.src).toNat) 0) (u.getD ((a.dst).toNat) 0)))))) [] rfl (.pure (.assign _ rfl rfl)) rfl rfl ?_
  refine ChD.nil (And.intro ?_ (by kernel_rfl))
  refine T_ret ?_
  refine And.intro (.inr rfl) ?_
  exact Exists.intro [(.d (.bool (!(nextCh (u.getD ((a.src).toNat) 0) (u.getD ((a.dst).toNat) 0)))))] (Exists.intro [] (Exists.intro [] (And.intro (.cons (.tmp 3 rfl) .nil) (And.intro (.cons (.any _) (.cons (.any _) .nil)) (And.intro (Exp.of (congrArg D.bool (by rfl)) (.d _)) (And.intro rfl rfl))))))

theorem sp_impl_isPartition (x : Sgr) (u : List UInt8) (hb : x.bulk ≤ 1048576) (hu : u.length ≤ 1048576) (hen : ends u.length x.arcs) : Sp Try.prog 77 [(.agg [(.slice false 2 (x.sigs.map Sgn.d)), (.slice false 1 (x.codes.map D.str)), (.slice false 4 (x.arcs.map Arc.d))]), (.str u)] [.any, .any] (.bool (partB x u)) := by
  refine Sp_intro (lend := true) Try.func77 rfl rfl rfl (fun _ => rfl) (fun c hc hX => ?_)
  obtain ⟨hp0, hp1, hp2⟩ := Sgr.parts hb
  have hn0 := bulkF_len hp0
  have hn1 := bulk_len hp1
  have hx1 := bulk_mem hp1
  have hn2 := bulkF_len hp2
  refine T_seq ?_
  refine T_region hc ?_
  refine Ch.step (v := (.ptr 2000 0)) rfl (.box 2000 _ _ rfl (.aggD _)) rfl rfl ?_
  refine Ch.step (v := (.ptr 3000 0)) rfl (.box 3000 _ _ rfl (.one _ rfl)) rfl rfl ?_
  refine Ch.step (v := (.d (.bool false))) rfl (.pure (.assign _ rfl rfl)) rfl rfl ?_
  refine Ch.nil ?_
  refine T_seq ?_
  refine T_region hc ?_
  refine Ch.step (v := (.ptr 2000 2)) rfl (.pure (.fldPtr _ _ _ rfl fld52_2 rfl)) rfl rfl ?_
  refine Ch.step (v := (.d (.slice false 4 (x.arcs.map Arc.d)))) rfl (.pure (.loadPtr1 _ _ rfl ag50 rfl rfl rfl)) rfl rfl ?_
  refine Ch.step (v := (.fn 126 [(.ptr 3000 0)])) rfl (.pure (.func _ _ rfl rfl)) rfl rfl ?_
  refine Ch.step (v := (.d (.bool (x.arcs.any (fun a => !goArc u a))))) rfl (.call 8000 122 _ _ _ en122 rfl (.inl rfl) (.cons (.d _) (.cons (.lend (.fn (.cons (.ptr rfl (.one (.d _) rfl)) .nil))) .nil)) rfl rfl (sp_ContainsFunc_arc x.arcs 126 [(.ref (.str u))] (fun a => !goArc u a) en126 (fun a ha => sp_impl_isPartition_1 a u (hen a ha)) (by first | omega | assumption | (exact hx _ (getD_mem (by omega))) | (exact hx _ (by assumption)) | (exact Nat.le_trans (hx _ (by assumption)) (by omega)) | (simp only [List.length_append, List.length_take, List.length_drop, List.length_cons, List.length_nil]; omega) | (simp_all; done))) (.skip _ _ (.skip _ _ .nil)) rfl) rfl rfl ?_
  refine Ch.step (v := (.d (.bool (!(x.arcs.any (fun a => !goArc u a)))))) rfl (.pure (.not _ _ rfl rfl)) rfl rfl ?_
  refine Ch.step (v := (.d (.bool (!(x.arcs.any (fun a => !goArc u a)))))) rfl (.pure (.assign _ rfl rfl)) rfl rfl ?_
  refine Ch.nil ?_
  refine T_ret ?_
  refine And.intro (.inr rfl) ?_
  exact Exists.intro [(.d (.bool (!(x.arcs.any (fun a => !goArc u a)))))] (Exists.intro [] (Exists.intro [] (And.intro (.cons (.tmp 4 rfl) .nil) (And.intro (.cons (.any _) (.cons (.any _) .nil)) (And.intro (Exp.of (congrArg D.bool (by exact part_any x u)) (.d _)) (And.intro rfl rfl))))))

theorem sp_spec_l11Good (x : Sgr) (u : List UInt8) (hb : x.bulk ≤ 1048576) (hu : u.length ≤ 1048576) (hen : ends u.length x.arcs) : Sp Try.prog 75 [(.agg [(.slice false 2 (x.sigs.map Sgn.d)), (.slice false 1 (x.codes.map D.str)), (.slice false 4 (x.arcs.map Arc.d))]), (.str u)] [.any, .any] (.bool (partB x u)) := by
  refine Sp_intro (lend := true) Try.func75 rfl rfl rfl (fun _ => rfl) (fun c hc hX => ?_)
  obtain ⟨hp0, hp1, hp2⟩ := Sgr.parts hb
  have hn0 := bulkF_len hp0
  have hn1 := bulk_len hp1
  have hx1 := bulk_mem hp1
  have hn2 := bulkF_len hp2
  refine T_seq ?_
  refine T_region hc ?_
  refine Ch.step (v := (.ptr 2000 0)) rfl (.box 2000 _ _ rfl (.aggD _)) rfl rfl ?_
  refine Ch.step (v := (.d (.bool false))) rfl (.pure (.assign _ rfl rfl)) rfl rfl ?_
  refine Ch.nil ?_
  refine T_seq ?_
  refine T_seq ?_
  refine T_region hc ?_
  refine Ch.step (v := (.ptr 2000 2)) rfl (.pure (.fldPtr _ _ _ rfl fld52_2 rfl)) rfl rfl ?_
  refine Ch.step (v := (.d (.slice false 4 (x.arcs.map Arc.d)))) rfl (.pure (.loadPtr1 _ _ rfl ag50 rfl rfl rfl)) rfl rfl ?_
  refine Ch.step (v := (.d (.int .i64 ((x.arcs.length : Nat) : Int)))) rfl (.pure (.len _ _ 102 rfl Try.underlying50 (.sh _ _) (by simp))) rfl rfl ?_
  refine Ch.step (v := (.d (.int .i64 0))) rfl (.pure (.move _ rfl rfl)) rfl rfl ?_
  refine Ch.nil ?_
  refine T_block ?_
  refine T_loop (ι := Nat) (fun k => { n := 25, sl := [(1, (.d (.str u))), (8, (.d (.slice false 4 (x.arcs.map Arc.d)))), (9, (.d (.int .i64 ((x.arcs.length : Nat) : Int)))), (10, (.d (.int .i64 ((k : Nat) : Int))))], hp := [], pin := [] }) (fun k => k ≤ x.arcs.length ∧ ∀ j, j < k → goArc u (x.arcs.getD j default) = true) (fun k => x.arcs.length - k) ⟨0, ⟨by omega, fun j hj => by omega⟩, (Wk.of rfl rfl (And.intro rfl (And.intro rfl (And.intro rfl (And.intro (vI (by first | rfl | omega | (simp; done) | (simp; omega))) trivial)))) trivial)⟩ (fun k hp0 => ?_)
  refine T_seq ?_
  refine T_region hc ?_
  refine Ch.step (v := (.d (.bool (decide (((k : Nat) : Int) < ((x.arcs.length : Nat) : Int)))))) rfl (.pure (.int _ _ _ _ _ rfl rfl rfl rfl)) rfl rfl ?_
  refine Ch.nil ?_
  refine T_seq ?_
  refine T_cond (b := (decide (((k : Nat) : Int) < ((x.arcs.length : Nat) : Int)))) rfl (fun h1 => ?_) (fun h1 => ?_)
  · replace h1 := of_decide_eq_true h1
    try have hek := hen _ (getD_mem (l := x.arcs) (j := k) (d := default) (by omega))
    refine T_skip ?_
    refine T_seq ?_
    refine T_block ?_
    refine T_seq ?_
    refine T_region hc ?_
    refine Ch.step (v := (.d (.ref (.agg [(.int .i64 ((x.arcs.getD k default).src)), (.int .i64 ((x.arcs.getD k default).sig)), (.bool ((x.arcs.getD k default).up)), (.int .i64 ((x.arcs.getD k default).dst))])))) rfl (.pure (.idx _ _ _ 102 (k) rfl Try.underlying50 sz102 rfl rfl rfl (get_map _ (by first | omega | (simp only [List.length_map, List.length_append, List.length_take, List.length_drop, List.length_cons, List.length_nil]; omega) | (simp; omega) | (simp; done))))) rfl rfl ?_
    refine Ch.step (v := (.d (.agg [(.int .i64 ((x.arcs.getD k default).src)), (.int .i64 ((x.arcs.getD k default).sig)), (.bool ((x.arcs.getD k default).up)), (.int .i64 ((x.arcs.getD k default).dst))]))) rfl (.pure (.loadRefA _ _ rfl ag102 sz102 rfl)) rfl rfl ?_
    refine Ch.step (v := (.ptr 6000 0)) rfl (.alloc 6000 _ rfl zer102) rfl rfl ?_
    refine Ch.step (v := .junk) rfl (.storePtr _ _ _ rfl rfl rfl (.aggD _) sz102 (Nat.le_of_ble_eq_true rfl)) rfl rfl ?_
    refine Ch.nil ?_
    refine T_seq ?_
    refine T_regionD hc (by kernel_rfl) ?_
    refine ChD.step (v := (.d (.str u))) [] rfl (.pure (.move _ rfl rfl)) rfl rfl ?_
    refine ChD.step (v := (.ptr 6000 0)) [] rfl (.pure (.fldPtr _ _ _ rfl fld102_0 rfl)) rfl rfl ?_
    refine ChD.step (v := (.d (.int .i64 ((x.arcs.getD k default).src)))) [6000] rfl (.pure (.loadPtr1 _ _ rfl ag3 rfl rfl rfl)) rfl rfl ?_
    refine ChD.step (v := (.d (.int .u8 ((u.getD ((((x.arcs.getD k default).src)).toNat) 0).toNat : Int)))) [] rfl (.pure (.idxStr _ _ _ ((((x.arcs.getD k default).src)).toNat) rfl Try.underlying9 rfl rfl (by omega) (get_str (by first | omega | (simp only [List.length_map, List.length_append, List.length_take, List.length_drop, List.length_cons, List.length_nil]; omega) | (simp; omega) | (simp; done))))) rfl rfl ?_
    refine ChD.step (v := (.d (.str u))) [] rfl (.pure (.move _ rfl rfl)) rfl rfl ?_
    refine ChD.step (v := (.ptr 6000 3)) [] rfl (.pure (.fldPtr _ _ _ rfl fld102_3 rfl)) rfl rfl ?_
    refine ChD.step (v := (.d (.int .i64 ((x.arcs.getD k default).dst)))) [6000] rfl (.pure (.loadPtr1 _ _ rfl ag3 rfl rfl rfl)) rfl rfl ?_
    refine ChD.step (v := (.d (.int .u8 ((u.getD ((((x.arcs.getD k default).dst)).toNat) 0).toNat : Int)))) [] rfl (.pure (.idxStr _ _ _ ((((x.arcs.getD k default).dst)).toNat) rfl Try.underlying9 rfl rfl (by omega) (get_str (by first | omega | (simp only [List.length_map, List.length_append, List.length_take, List.length_drop, List.length_cons, List.length_nil]; omega) | (simp; omega) | (simp; done))))) rfl rfl ?_
    refine ChD.step (v := (.d (.bool (nextCh (u.getD ((((x.arcs.getD k default).src)).toNat) 0) (u.getD ((((x.arcs.getD k default).dst)).toNat) 0))))) [] rfl (.call 22000 125 _ _ _ en125 rfl (.inl rfl) (.cons (.d _) (.cons (.d _) .nil)) rfl rfl (sp_spec_l11Next (u.getD ((((x.arcs.getD k default).src)).toNat) 0) (u.getD ((((x.arcs.getD k default).dst)).toNat) 0)) (.skip _ _ (.skip _ _ .nil)) rfl) rfl rfl ?_
    refine ChD.step (v := (.d (.bool (!(nextCh (u.getD ((((x.arcs.getD k default).src)).toNat) 0) (u.getD ((((x.arcs.getD k default).dst)).toNat) 0)))))) [] rfl (.pure (.not _ _ rfl rfl)) rfl rfl ?_
    refine ChD.nil (And.intro ?_ (by kernel_rfl))
    refine T_cond (b := (!(nextCh (u.getD ((((x.arcs.getD k default).src)).toNat) 0) (u.getD ((((x.arcs.getD k default).dst)).toNat) 0)))) rfl (fun h2 => ?_) (fun h2 => ?_)
    · replace h2 := nott h2
      refine T_seq ?_
      refine T_region hc ?_
      refine Ch.step (v := (.d (.bool false))) rfl (.pure (.assign _ rfl rfl)) rfl rfl ?_
      refine Ch.nil ?_
      refine T_ret ?_
      refine And.intro (.inr rfl) ?_
      exact Exists.intro [(.d (.bool false))] (Exists.intro [] (Exists.intro [] (And.intro (.cons (.tmp 4 rfl) .nil) (And.intro (.cons (.any _) (.cons (.any _) .nil)) (And.intro (Exp.of (congrArg D.bool (by exact (allB_no k (by omega) (by assumption)).symm)) (.d _)) (And.intro rfl rfl))))))
    · replace h2 := notf h2
      refine T_skip ?_
      refine T_region hc ?_
      refine Ch.step (v := (.d (.int .i64 (((k : Nat) : Int) + 1)))) rfl (.pure (.int _ _ _ _ _ rfl rfl rfl (intV_add (by first | omega | (simp only [List.length_map, List.length_append, List.length_take, List.length_drop, List.length_cons, List.length_nil]; omega) | (simp; omega) | (simp; done)) (by first | omega | (simp only [List.length_map, List.length_append, List.length_take, List.length_drop, List.length_cons, List.length_nil]; omega) | (simp; omega) | (simp; done))))) rfl rfl ?_
      refine Ch.step (v := (.d (.int .i64 (((k : Nat) : Int) + 1)))) rfl (.pure (.move _ rfl rfl)) rfl rfl ?_
      refine Ch.nil ?_
      refine Exists.intro (k + 1) (And.intro ⟨by omega, upto_succ hp0.2 (by assumption)⟩ (And.intro (by first | omega | (dsimp only; omega)) (Wk.of rfl rfl (And.intro rfl (And.intro rfl (And.intro rfl (And.intro (vI (by first | rfl | omega | (simp; done) | (simp; omega))) trivial)))) trivial)))
  · replace h1 := of_decide_eq_false h1
    try have hek := hen _ (getD_mem (l := x.arcs) (j := k) (d := default) (by omega))
    refine T_exit ?_
    refine T_seq ?_
    refine T_region hc ?_
    refine Ch.step (v := (.d (.bool true))) rfl (.pure (.assign _ rfl rfl)) rfl rfl ?_
    refine Ch.nil ?_
    refine T_ret ?_
    refine And.intro (.inr rfl) ?_
    exact Exists.intro [(.d (.bool true))] (Exists.intro [] (Exists.intro [] (And.intro (.cons (.tmp 4 rfl) .nil) (And.intro (.cons (.any _) (.cons (.any _) .nil)) (And.intro (Exp.of (congrArg D.bool (by exact (allB_of (fun j hj => hp0.2 j (by omega))).symm)) (.d _)) (And.intro rfl rfl))))))

theorem sp_impl_IsValidPartition (x : Sgr) (u : List UInt8) (hb : x.bulk ≤ 1048576) (hu : u.length ≤ 1048576) : Sp Try.prog 30 [(.agg [(.slice false 2 (x.sigs.map Sgn.d)), (.slice false 1 (x.codes.map D.str)), (.slice false 4 (x.arcs.map Arc.d))]), (.str u)] [.any, .any] (.tup [(.bool (ivB x u)), (.bool (formB x u))]) := by
  refine Sp_intro (lend := true) Try.func30 rfl rfl rfl (fun _ => rfl) (fun c hc hX => ?_)
  obtain ⟨hp0, hp1, hp2⟩ := Sgr.parts hb
  have hn0 := bulkF_len hp0
  have hn1 := bulk_len hp1
  have hx1 := bulk_mem hp1
  have hn2 := bulkF_len hp2
  refine T_seq ?_
  refine T_region hc ?_
  refine Ch.step (v := (.ptr 2000 0)) rfl (.box 2000 _ _ rfl (.aggD _)) rfl rfl ?_
  refine Ch.step (v := (.d (.bool false))) rfl (.pure (.assign _ rfl rfl)) rfl rfl ?_
  refine Ch.step (v := (.d (.bool false))) rfl (.pure (.assign _ rfl rfl)) rfl rfl ?_
  refine Ch.nil ?_
  refine T_seq ?_
  refine T_seq ?_
  refine T_region hc ?_
  refine Ch.step (v := (.agg [(.d (.slice false 2 (x.sigs.map Sgn.d))), (.d (.slice false 1 (x.codes.map D.str))), (.d (.slice false 4 (x.arcs.map Arc.d)))])) rfl (.pure (.loadPtrA _ _ rfl ag52 sz52 rfl rfl (Nat.le_of_ble_eq_true rfl) rfl)) rfl rfl ?_
  refine Ch.step (v := (.d (.str u))) rfl (.pure (.move _ rfl rfl)) rfl rfl ?_
  refine Ch.step (v := (.d (.bool (formB x u)))) rfl (.call 8000 76 _ _ _ en76 rfl (.inl rfl) (.cons (.lend (.agg (.cons (.d _) (.cons (.d _) (.cons (.d _) .nil))) rfl)) (.cons (.d _) .nil)) rfl rfl (sp_impl_areSigns x u (by first | assumption | omega | (rw [List.length_take]; omega) | (have := bulkF_mem hb _ (getD_mem (d := default) (by omega)); assumption) | (unfold bulkS at *; omega) | (simp_all; done)) (by first | assumption | omega | (rw [List.length_take]; omega) | (have := bulkF_mem hb _ (getD_mem (d := default) (by omega)); assumption) | (unfold bulkS at *; omega) | (simp_all; done))) (.skip _ _ (.skip _ _ .nil)) rfl) rfl rfl ?_
  refine Ch.step (v := (.d (.bool (!(formB x u))))) rfl (.pure (.not _ _ rfl rfl)) rfl rfl ?_
  refine Ch.nil ?_
  refine T_cond (b := (!(formB x u))) rfl (fun h1 => ?_) (fun h1 => ?_)
  · replace h1 := nott h1
    try have hfh := form_has h1
    try have hen : ends u.length x.arcs := by (rw [hfh.2]; exact (sg_has hfh.1).ends)
    refine T_seq ?_
    refine T_region hc ?_
    refine Ch.step (v := (.d (.bool false))) rfl (.pure (.assign _ rfl rfl)) rfl rfl ?_
    refine Ch.step (v := (.d (.bool false))) rfl (.pure (.assign _ rfl rfl)) rfl rfl ?_
    refine Ch.nil ?_
    refine T_ret ?_
    refine And.intro (.inr rfl) ?_
    exact Exists.intro [(.d (.bool false)), (.d (.bool false))] (Exists.intro [] (Exists.intro [] (And.intro (.cons (.tmp 4 rfl) (.cons (.tmp 5 rfl) .nil)) (And.intro (.cons (.any _) (.cons (.any _) .nil)) (And.intro (.tup (.cons (Exp.of (congrArg D.bool (by first | (rw [ivB, h1]; rfl) | (rw [h1]; done))) (.d _)) (.cons (Exp.of (congrArg D.bool (by first | (rw [ivB, h1]; rfl) | (rw [h1]; done))) (.d _)) .nil))) (And.intro rfl rfl))))))
  · replace h1 := notf h1
    try have hfh := form_has h1
    try have hen : ends u.length x.arcs := by (rw [hfh.2]; exact (sg_has hfh.1).ends)
    refine T_skip ?_
    refine T_seq ?_
    refine T_region hc ?_
    refine Ch.step (v := (.agg [(.d (.slice false 2 (x.sigs.map Sgn.d))), (.d (.slice false 1 (x.codes.map D.str))), (.d (.slice false 4 (x.arcs.map Arc.d)))])) rfl (.pure (.loadPtrA _ _ rfl ag52 sz52 rfl rfl (Nat.le_of_ble_eq_true rfl) rfl)) rfl rfl ?_
    refine Ch.step (v := (.d (.str u))) rfl (.pure (.move _ rfl rfl)) rfl rfl ?_
    refine Ch.step (v := (.d (.bool (partB x u)))) rfl (.call 12000 77 _ _ _ en77 rfl (.inl rfl) (.cons (.lend (.agg (.cons (.d _) (.cons (.d _) (.cons (.d _) .nil))) rfl)) (.cons (.d _) .nil)) rfl rfl (sp_impl_isPartition x u (by first | assumption | omega | (rw [List.length_take]; omega) | (have := bulkF_mem hb _ (getD_mem (d := default) (by omega)); assumption) | (unfold bulkS at *; omega) | (simp_all; done)) (by first | assumption | omega | (rw [List.length_take]; omega) | (have := bulkF_mem hb _ (getD_mem (d := default) (by omega)); assumption) | (unfold bulkS at *; omega) | (simp_all; done)) (by assumption)) (.skip _ _ (.skip _ _ .nil)) rfl) rfl rfl ?_
    refine Ch.step (v := (.d (.bool (partB x u)))) rfl (.pure (.assign _ rfl rfl)) rfl rfl ?_
    refine Ch.step (v := (.d (.bool true))) rfl (.pure (.assign _ rfl rfl)) rfl rfl ?_
    refine Ch.nil ?_
    refine T_ret ?_
    refine And.intro (.inr rfl) ?_
    exact Exists.intro [(.d (.bool (partB x u))), (.d (.bool true))] (Exists.intro [] (Exists.intro [] (And.intro (.cons (.tmp 4 rfl) (.cons (.tmp 5 rfl) .nil)) (And.intro (.cons (.any _) (.cons (.any _) .nil)) (And.intro (.tup (.cons (Exp.of (congrArg D.bool (by first | (rw [ivB, h1]; rfl) | (rw [h1]; done))) (.d _)) (.cons (Exp.of (congrArg D.bool (by first | (rw [ivB, h1]; rfl) | (rw [h1]; done))) (.d _)) .nil))) (And.intro rfl rfl))))))

theorem sp_spec_l11Asked (x : Sgr) (u : List UInt8) (hb : x.bulk ≤ 1048576) (hu : u.length ≤ 1048576) : Sp Try.prog 84 [(.agg [(.slice false 2 (x.sigs.map Sgn.d)), (.slice false 1 (x.codes.map D.str)), (.slice false 4 (x.arcs.map Arc.d))]), (.str u)] [.any, .any] (.bool (ivB x u)) := by
  refine Sp_intro (lend := true) Try.func84 rfl rfl rfl (fun _ => rfl) (fun c hc hX => ?_)
  obtain ⟨hp0, hp1, hp2⟩ := Sgr.parts hb
  have hn0 := bulkF_len hp0
  have hn1 := bulk_len hp1
  have hx1 := bulk_mem hp1
  have hn2 := bulkF_len hp2
  refine T_seq ?_
  refine T_region hc ?_
  refine Ch.step (v := (.ptr 2000 0)) rfl (.box 2000 _ _ rfl (.aggD _)) rfl rfl ?_
  refine Ch.step (v := (.d (.bool false))) rfl (.pure (.assign _ rfl rfl)) rfl rfl ?_
  refine Ch.nil ?_
  refine T_seq ?_
  refine T_region hc ?_
  refine Ch.step (v := (.agg [(.d (.slice false 2 (x.sigs.map Sgn.d))), (.d (.slice false 1 (x.codes.map D.str))), (.d (.slice false 4 (x.arcs.map Arc.d)))])) rfl (.pure (.loadPtrA _ _ rfl ag52 sz52 rfl rfl (Nat.le_of_ble_eq_true rfl) rfl)) rfl rfl ?_
  refine Ch.step (v := (.d (.str u))) rfl (.pure (.move _ rfl rfl)) rfl rfl ?_
  refine Ch.step (v := (.d (.bool (formB x u)))) rfl (.call 7000 74 _ _ _ en74 rfl (.inl rfl) (.cons (.lend (.agg (.cons (.d _) (.cons (.d _) (.cons (.d _) .nil))) rfl)) (.cons (.d _) .nil)) rfl rfl (sp_spec_l11Form x u (by first | assumption | omega | (rw [List.length_take]; omega) | (have := bulkF_mem hb _ (getD_mem (d := default) (by omega)); assumption) | (unfold bulkS at *; omega) | (simp_all; done)) (by first | assumption | omega | (rw [List.length_take]; omega) | (have := bulkF_mem hb _ (getD_mem (d := default) (by omega)); assumption) | (unfold bulkS at *; omega) | (simp_all; done))) (.skip _ _ (.skip _ _ .nil)) rfl) rfl rfl ?_
  refine Ch.step (v := (.d (.bool (formB x u)))) rfl (.pure (.move _ rfl rfl)) rfl rfl ?_
  cases h1 : (formB x u) with
  | true =>
    try have hfh := form_has h1
    try have hen : ends u.length x.arcs := by (rw [hfh.2]; exact (sg_has hfh.1).ends)
    refine Ch.step (v := (.agg [(.d (.slice false 2 (x.sigs.map Sgn.d))), (.d (.slice false 1 (x.codes.map D.str))), (.d (.slice false 4 (x.arcs.map Arc.d)))])) rfl (.pure (.loadPtrA _ _ rfl ag52 sz52 rfl rfl (Nat.le_of_ble_eq_true rfl) rfl)) rfl rfl ?_
    refine Ch.step (v := (.d (.str u))) rfl (.pure (.move _ rfl rfl)) rfl rfl ?_
    refine Ch.step (v := (.d (.bool (partB x u)))) rfl (.call 11000 75 _ _ _ en75 rfl (.inl rfl) (.cons (.lend (.agg (.cons (.d _) (.cons (.d _) (.cons (.d _) .nil))) rfl)) (.cons (.d _) .nil)) rfl rfl (sp_spec_l11Good x u (by first | assumption | omega | (rw [List.length_take]; omega) | (have := bulkF_mem hb _ (getD_mem (d := default) (by omega)); assumption) | (unfold bulkS at *; omega) | (simp_all; done)) (by first | assumption | omega | (rw [List.length_take]; omega) | (have := bulkF_mem hb _ (getD_mem (d := default) (by omega)); assumption) | (unfold bulkS at *; omega) | (simp_all; done)) (by assumption)) (.skip _ _ (.skip _ _ .nil)) rfl) rfl rfl ?_
    refine Ch.step (v := (.d (.bool (partB x u)))) rfl (.pure (.pickT _ _ _ rfl rfl rfl)) rfl rfl ?_
    refine Ch.step (v := (.d (.bool (partB x u)))) rfl (.pure (.assign _ rfl rfl)) rfl rfl ?_
    refine Ch.nil ?_
    refine T_ret ?_
    refine And.intro (.inr rfl) ?_
    exact Exists.intro [(.d (.bool (partB x u)))] (Exists.intro [] (Exists.intro [] (And.intro (.cons (.tmp 4 rfl) .nil) (And.intro (.cons (.any _) (.cons (.any _) .nil)) (And.intro (Exp.of (congrArg D.bool (by first | (rw [ivB, h1]; rfl) | (rw [ivB]; simp_all; done))) (.d _)) (And.intro rfl rfl))))))
  | false =>
    try have hfh := form_has h1
    try have hen : ends u.length x.arcs := by (rw [hfh.2]; exact (sg_has hfh.1).ends)
    refine Ch.skip rfl rfl ?_
    refine Ch.skip rfl rfl ?_
    refine Ch.skip rfl rfl ?_
    refine Ch.step (v := (.d (.bool false))) rfl (.pure (.pickF _ _ _ rfl rfl rfl)) rfl rfl ?_
    refine Ch.step (v := (.d (.bool false))) rfl (.pure (.assign _ rfl rfl)) rfl rfl ?_
    refine Ch.nil ?_
    refine T_ret ?_
    refine And.intro (.inr rfl) ?_
    exact Exists.intro [(.d (.bool false))] (Exists.intro [] (Exists.intro [] (And.intro (.cons (.tmp 4 rfl) .nil) (And.intro (.cons (.any _) (.cons (.any _) .nil)) (And.intro (Exp.of (congrArg D.bool (by first | (rw [ivB, h1]; rfl) | (rw [ivB]; simp_all; done))) (.d _)) (And.intro rfl rfl))))))

theorem sp_impl_isDelayed (a : Arc) (u : List UInt8) (he : (0 ≤ a.src ∧ a.src.toNat < u.length) ∧ (0 ≤ a.dst ∧ a.dst.toNat < u.length)) : Sp Try.prog 98 [(.agg [(.int .i64 a.src), (.int .i64 a.sig), (.bool (a.up)), (.int .i64 a.dst)]), (.str u)] [.any, .any] (.bool (waitB u a)) := by
  refine Sp_intro (lend := true) Try.func98 rfl rfl rfl (fun _ => rfl) (fun c hc hX => ?_)
  refine T_seq ?_
  refine T_region hc ?_
  refine Ch.step (v := (.ptr 2000 0)) rfl (.box 2000 _ _ rfl (.aggD _)) rfl rfl ?_
  refine Ch.step (v := (.d (.bool false))) rfl (.pure (.assign _ rfl rfl)) rfl rfl ?_
  refine Ch.nil ?_
  refine T_seq ?_
  refine T_regionD hc (by kernel_rfl) ?_
  refine ChD.step (v := (.d (.str u))) [] rfl (.pure (.move _ rfl rfl)) rfl rfl ?_
  refine ChD.step (v := (.ptr 2000 0)) [] rfl (.pure (.fldPtr _ _ _ rfl fld102_0 rfl)) rfl rfl ?_
  refine ChD.step (v := (.d (.int .i64 a.src))) [2000] rfl (.pure (.loadPtr1 _ _ rfl ag3 rfl rfl rfl)) rfl rfl ?_
  refine ChD.step (v := (.d (.int .u8 ((u.getD ((a.src).toNat) 0).toNat : Int)))) [] rfl (.pure (.idxStr _ _ _ ((a.src).toNat) rfl Try.underlying9 rfl rfl (by omega) (get_str (by first | omega | (simp only [List.length_map, List.length_append, List.length_take, List.length_drop, List.length_cons, List.length_nil]; omega) | (simp; omega) | (simp; done))))) rfl rfl ?_
  refine ChD.step (v := (.d (.str u))) [] rfl (.pure (.move _ rfl rfl)) rfl rfl ?_
  refine ChD.step (v := (.ptr 2000 3)) [] rfl (.pure (.fldPtr _ _ _ rfl fld102_3 rfl)) rfl rfl ?_
  refine ChD.step (v := (.d (.int .i64 a.dst))) [2000] rfl (.pure (.loadPtr1 _ _ rfl ag3 rfl rfl rfl)) rfl rfl ?_
  refine ChD.step (v := (.d (.int .u8 ((u.getD ((a.dst).toNat) 0).toNat : Int)))) [] rfl (.pure (.idxStr _ _ _ ((a.dst).toNat) rfl Try.underlying9 rfl rfl (by omega) (get_str (by first | omega | (simp only [List.length_map, List.length_append, List.length_take, List.length_drop, List.length_cons, List.length_nil]; omega) | (simp; omega) | (simp; done))))) rfl rfl ?_
  refine ChD.step (v := (.d (.int .u8 ((u.getD ((a.src).toNat) 0).toNat : Int)))) [] rfl (.pure (.assign _ rfl rfl)) rfl rfl ?_
  refine ChD.step (v := (.d (.int .u8 ((u.getD ((a.dst).toNat) 0).toNat : Int)))) [] rfl (.pure (.assign _ rfl rfl)) rfl rfl ?_
  refine ChD.nil (And.intro ?_ (by kernel_rfl))
  refine T_seq ?_
  refine T_region hc ?_
  refine Ch.step (v := (.d (.int .u8 ((u.getD ((a.src).toNat) 0).toNat : Int)))) rfl (.pure (.move _ rfl rfl)) rfl rfl ?_
  refine Ch.step (v := (.d (.bool (decide (((u.getD ((a.src).toNat) 0) : UInt8) = 43))))) rfl (.pure (.int _ _ _ _ _ rfl rfl rfl (u8_eql ((u.getD ((a.src).toNat) 0) : UInt8) 43 rfl rfl))) rfl rfl ?_
  refine Ch.step (v := (.d (.bool (decide (((u.getD ((a.src).toNat) 0) : UInt8) = 43))))) rfl (.pure (.move _ rfl rfl)) rfl rfl ?_
  cases h1 : (decide (((u.getD ((a.src).toNat) 0) : UInt8) = 43)) with
  | true =>
    replace h1 := of_decide_eq_true h1
    refine Ch.step (v := (.d (.int .u8 ((u.getD ((a.dst).toNat) 0).toNat : Int)))) rfl (.pure (.move _ rfl rfl)) rfl rfl ?_
    refine Ch.step (v := (.d (.bool (decide (((u.getD ((a.dst).toNat) 0) : UInt8) = 49))))) rfl (.pure (.int _ _ _ _ _ rfl rfl rfl (u8_eql ((u.getD ((a.dst).toNat) 0) : UInt8) 49 rfl rfl))) rfl rfl ?_
    refine Ch.step (v := (.d (.bool (decide (((u.getD ((a.dst).toNat) 0) : UInt8) = 49))))) rfl (.pure (.move _ rfl rfl)) rfl rfl ?_
    cases h2 : (decide (((u.getD ((a.dst).toNat) 0) : UInt8) = 49)) with
    | true =>
      replace h2 := of_decide_eq_true h2
      refine Ch.skip rfl rfl ?_
      refine Ch.skip rfl rfl ?_
      refine Ch.step (v := (.d (.bool true))) rfl (.pure (.pickT _ _ _ rfl rfl rfl)) rfl rfl ?_
      refine Ch.step (v := (.d (.bool true))) rfl (.pure (.pickT _ _ _ rfl rfl rfl)) rfl rfl ?_
      refine Ch.step (v := (.d (.bool true))) rfl (.pure (.move _ rfl rfl)) rfl rfl ?_
      refine Ch.skip rfl rfl ?_
      refine Ch.skip rfl rfl ?_
      refine Ch.skip rfl rfl ?_
      refine Ch.skip rfl rfl ?_
      refine Ch.skip rfl rfl ?_
      refine Ch.skip rfl rfl ?_
      refine Ch.skip rfl rfl ?_
      refine Ch.skip rfl rfl ?_
      refine Ch.skip rfl rfl ?_
      refine Ch.skip rfl rfl ?_
      refine Ch.step (v := (.d (.bool true))) rfl (.pure (.pickT _ _ _ rfl rfl rfl)) rfl rfl ?_
      refine Ch.step (v := (.d (.bool true))) rfl (.pure (.assign _ rfl rfl)) rfl rfl ?_
      refine Ch.nil ?_
      refine T_ret ?_
      refine And.intro (.inr rfl) ?_
      exact Exists.intro [(.d (.bool true))] (Exists.intro [] (Exists.intro [] (And.intro (.cons (.tmp 4 rfl) .nil) (And.intro (.cons (.any _) (.cons (.any _) .nil)) (And.intro (Exp.of (congrArg D.bool (by first | (unfold waitB; simp only [*, decide_true, decide_false, Bool.true_or, Bool.false_or, Bool.or_true, Bool.and_true, Bool.true_and, Bool.false_and, Bool.or_false, Bool.and_false]; done) | (unfold waitB; simp_all; done))) (.d _)) (And.intro rfl rfl))))))
    | false =>
      replace h2 := of_decide_eq_false h2
      refine Ch.step (v := (.d (.int .u8 ((u.getD ((a.dst).toNat) 0).toNat : Int)))) rfl (.pure (.move _ rfl rfl)) rfl rfl ?_
      refine Ch.step (v := (.d (.bool (decide (((u.getD ((a.dst).toNat) 0) : UInt8) = 45))))) rfl (.pure (.int _ _ _ _ _ rfl rfl rfl (u8_eql ((u.getD ((a.dst).toNat) 0) : UInt8) 45 rfl rfl))) rfl rfl ?_
      refine Ch.step (v := (.d (.bool (decide (((u.getD ((a.dst).toNat) 0) : UInt8) = 45))))) rfl (.pure (.pickF _ _ _ rfl rfl rfl)) rfl rfl ?_
      refine Ch.step (v := (.d (.bool (decide (((u.getD ((a.dst).toNat) 0) : UInt8) = 45))))) rfl (.pure (.pickT _ _ _ rfl rfl rfl)) rfl rfl ?_
      refine Ch.step (v := (.d (.bool (decide (((u.getD ((a.dst).toNat) 0) : UInt8) = 45))))) rfl (.pure (.move _ rfl rfl)) rfl rfl ?_
      cases h3 : (decide (((u.getD ((a.dst).toNat) 0) : UInt8) = 45)) with
      | true =>
        replace h3 := of_decide_eq_true h3
        refine Ch.skip rfl rfl ?_
        refine Ch.skip rfl rfl ?_
        refine Ch.skip rfl rfl ?_
        refine Ch.skip rfl rfl ?_
        refine Ch.skip rfl rfl ?_
        refine Ch.skip rfl rfl ?_
        refine Ch.skip rfl rfl ?_
        refine Ch.skip rfl rfl ?_
        refine Ch.skip rfl rfl ?_
        refine Ch.skip rfl rfl ?_
        refine Ch.step (v := (.d (.bool true))) rfl (.pure (.pickT _ _ _ rfl rfl rfl)) rfl rfl ?_
        refine Ch.step (v := (.d (.bool true))) rfl (.pure (.assign _ rfl rfl)) rfl rfl ?_
        refine Ch.nil ?_
        refine T_ret ?_
        refine And.intro (.inr rfl) ?_
        exact Exists.intro [(.d (.bool true))] (Exists.intro [] (Exists.intro [] (And.intro (.cons (.tmp 4 rfl) .nil) (And.intro (.cons (.any _) (.cons (.any _) .nil)) (And.intro (Exp.of (congrArg D.bool (by first | (unfold waitB; simp only [*, decide_true, decide_false, Bool.true_or, Bool.false_or, Bool.or_true, Bool.and_true, Bool.true_and, Bool.false_and, Bool.or_false, Bool.and_false]; done) | (unfold waitB; simp_all; done))) (.d _)) (And.intro rfl rfl))))))
      | false =>
        replace h3 := of_decide_eq_false h3
        refine Ch.step (v := (.d (.int .u8 ((u.getD ((a.src).toNat) 0).toNat : Int)))) rfl (.pure (.move _ rfl rfl)) rfl rfl ?_
        refine Ch.step (v := (.d (.bool (decide (((u.getD ((a.src).toNat) 0) : UInt8) = 45))))) rfl (.pure (.int _ _ _ _ _ rfl rfl rfl (u8_eql ((u.getD ((a.src).toNat) 0) : UInt8) 45 rfl rfl))) rfl rfl ?_
        refine Ch.step (v := (.d (.bool (decide (((u.getD ((a.src).toNat) 0) : UInt8) = 45))))) rfl (.pure (.move _ rfl rfl)) rfl rfl ?_
        cases h4 : (decide (((u.getD ((a.src).toNat) 0) : UInt8) = 45)) with
        | true =>
          replace h4 := of_decide_eq_true h4
          refine Ch.step (v := (.d (.int .u8 ((u.getD ((a.dst).toNat) 0).toNat : Int)))) rfl (.pure (.move _ rfl rfl)) rfl rfl ?_
          refine Ch.step (v := (.d (.bool (decide (((u.getD ((a.dst).toNat) 0) : UInt8) = 48))))) rfl (.pure (.int _ _ _ _ _ rfl rfl rfl (u8_eql ((u.getD ((a.dst).toNat) 0) : UInt8) 48 rfl rfl))) rfl rfl ?_
          refine Ch.step (v := (.d (.bool (decide (((u.getD ((a.dst).toNat) 0) : UInt8) = 48))))) rfl (.pure (.move _ rfl rfl)) rfl rfl ?_
          cases h5 : (decide (((u.getD ((a.dst).toNat) 0) : UInt8) = 48)) with
          | true =>
            replace h5 := of_decide_eq_true h5
            refine Ch.skip rfl rfl ?_
            refine Ch.skip rfl rfl ?_
            refine Ch.step (v := (.d (.bool true))) rfl (.pure (.pickT _ _ _ rfl rfl rfl)) rfl rfl ?_
            refine Ch.step (v := (.d (.bool true))) rfl (.pure (.pickT _ _ _ rfl rfl rfl)) rfl rfl ?_
            refine Ch.step (v := (.d (.bool true))) rfl (.pure (.pickF _ _ _ rfl rfl rfl)) rfl rfl ?_
            refine Ch.step (v := (.d (.bool true))) rfl (.pure (.assign _ rfl rfl)) rfl rfl ?_
            refine Ch.nil ?_
            refine T_ret ?_
            refine And.intro (.inr rfl) ?_
            exact Exists.intro [(.d (.bool true))] (Exists.intro [] (Exists.intro [] (And.intro (.cons (.tmp 4 rfl) .nil) (And.intro (.cons (.any _) (.cons (.any _) .nil)) (And.intro (Exp.of (congrArg D.bool (by first | (unfold waitB; simp only [*, decide_true, decide_false, Bool.true_or, Bool.false_or, Bool.or_true, Bool.and_true, Bool.true_and, Bool.false_and, Bool.or_false, Bool.and_false]; done) | (unfold waitB; simp_all; done))) (.d _)) (And.intro rfl rfl))))))
          | false =>
            replace h5 := of_decide_eq_false h5
            refine Ch.step (v := (.d (.int .u8 ((u.getD ((a.dst).toNat) 0).toNat : Int)))) rfl (.pure (.move _ rfl rfl)) rfl rfl ?_
            refine Ch.step (v := (.d (.bool (decide (((u.getD ((a.dst).toNat) 0) : UInt8) = 43))))) rfl (.pure (.int _ _ _ _ _ rfl rfl rfl (u8_eql ((u.getD ((a.dst).toNat) 0) : UInt8) 43 rfl rfl))) rfl rfl ?_
            refine Ch.step (v := (.d (.bool (decide (((u.getD ((a.dst).toNat) 0) : UInt8) = 43))))) rfl (.pure (.pickF _ _ _ rfl rfl rfl)) rfl rfl ?_
            refine Ch.step (v := (.d (.bool (decide (((u.getD ((a.dst).toNat) 0) : UInt8) = 43))))) rfl (.pure (.pickT _ _ _ rfl rfl rfl)) rfl rfl ?_
            refine Ch.step (v := (.d (.bool (decide (((u.getD ((a.dst).toNat) 0) : UInt8) = 43))))) rfl (.pure (.pickF _ _ _ rfl rfl rfl)) rfl rfl ?_
            refine Ch.step (v := (.d (.bool (decide (((u.getD ((a.dst).toNat) 0) : UInt8) = 43))))) rfl (.pure (.assign _ rfl rfl)) rfl rfl ?_
            refine Ch.nil ?_
            refine T_ret ?_
            refine And.intro (.inr rfl) ?_
            exact Exists.intro [(.d (.bool (decide (((u.getD ((a.dst).toNat) 0) : UInt8) = 43))))] (Exists.intro [] (Exists.intro [] (And.intro (.cons (.tmp 4 rfl) .nil) (And.intro (.cons (.any _) (.cons (.any _) .nil)) (And.intro (Exp.of (congrArg D.bool (by first | (unfold waitB; simp only [*, decide_true, decide_false, Bool.true_or, Bool.false_or, Bool.or_true, Bool.and_true, Bool.true_and, Bool.false_and, Bool.or_false, Bool.and_false]; done) | (unfold waitB; simp_all; done))) (.d _)) (And.intro rfl rfl))))))
        | false =>
          replace h4 := of_decide_eq_false h4
          refine Ch.skip rfl rfl ?_
          refine Ch.skip rfl rfl ?_
          refine Ch.skip rfl rfl ?_
          refine Ch.skip rfl rfl ?_
          refine Ch.skip rfl rfl ?_
          refine Ch.skip rfl rfl ?_
          refine Ch.step (v := (.d (.bool false))) rfl (.pure (.pickF _ _ _ rfl rfl rfl)) rfl rfl ?_
          refine Ch.step (v := (.d (.bool false))) rfl (.pure (.pickF _ _ _ rfl rfl rfl)) rfl rfl ?_
          refine Ch.step (v := (.d (.bool false))) rfl (.pure (.assign _ rfl rfl)) rfl rfl ?_
          refine Ch.nil ?_
          refine T_ret ?_
          refine And.intro (.inr rfl) ?_
          exact Exists.intro [(.d (.bool false))] (Exists.intro [] (Exists.intro [] (And.intro (.cons (.tmp 4 rfl) .nil) (And.intro (.cons (.any _) (.cons (.any _) .nil)) (And.intro (Exp.of (congrArg D.bool (by first | (unfold waitB; simp only [*, decide_true, decide_false, Bool.true_or, Bool.false_or, Bool.or_true, Bool.and_true, Bool.true_and, Bool.false_and, Bool.or_false, Bool.and_false]; done) | (unfold waitB; simp_all; done))) (.d _)) (And.intro rfl rfl))))))
  | false =>
    replace h1 := of_decide_eq_false h1
    refine Ch.skip rfl rfl ?_
    refine Ch.skip rfl rfl ?_
    refine Ch.skip rfl rfl ?_
    refine Ch.skip rfl rfl ?_
    refine Ch.skip rfl rfl ?_
    refine Ch.skip rfl rfl ?_
    refine Ch.step (v := (.d (.bool false))) rfl (.pure (.pickF _ _ _ rfl rfl rfl)) rfl rfl ?_
    refine Ch.step (v := (.d (.bool false))) rfl (.pure (.move _ rfl rfl)) rfl rfl ?_
    refine Ch.step (v := (.d (.int .u8 ((u.getD ((a.src).toNat) 0).toNat : Int)))) rfl (.pure (.move _ rfl rfl)) rfl rfl ?_
    refine Ch.step (v := (.d (.bool (decide (((u.getD ((a.src).toNat) 0) : UInt8) = 45))))) rfl (.pure (.int _ _ _ _ _ rfl rfl rfl (u8_eql ((u.getD ((a.src).toNat) 0) : UInt8) 45 rfl rfl))) rfl rfl ?_
    refine Ch.step (v := (.d (.bool (decide (((u.getD ((a.src).toNat) 0) : UInt8) = 45))))) rfl (.pure (.move _ rfl rfl)) rfl rfl ?_
    cases h6 : (decide (((u.getD ((a.src).toNat) 0) : UInt8) = 45)) with
    | true =>
      replace h6 := of_decide_eq_true h6
      refine Ch.step (v := (.d (.int .u8 ((u.getD ((a.dst).toNat) 0).toNat : Int)))) rfl (.pure (.move _ rfl rfl)) rfl rfl ?_
      refine Ch.step (v := (.d (.bool (decide (((u.getD ((a.dst).toNat) 0) : UInt8) = 48))))) rfl (.pure (.int _ _ _ _ _ rfl rfl rfl (u8_eql ((u.getD ((a.dst).toNat) 0) : UInt8) 48 rfl rfl))) rfl rfl ?_
      refine Ch.step (v := (.d (.bool (decide (((u.getD ((a.dst).toNat) 0) : UInt8) = 48))))) rfl (.pure (.move _ rfl rfl)) rfl rfl ?_
      cases h7 : (decide (((u.getD ((a.dst).toNat) 0) : UInt8) = 48)) with
      | true =>
        replace h7 := of_decide_eq_true h7
        refine Ch.skip rfl rfl ?_
        refine Ch.skip rfl rfl ?_
        refine Ch.step (v := (.d (.bool true))) rfl (.pure (.pickT _ _ _ rfl rfl rfl)) rfl rfl ?_
        refine Ch.step (v := (.d (.bool true))) rfl (.pure (.pickT _ _ _ rfl rfl rfl)) rfl rfl ?_
        refine Ch.step (v := (.d (.bool true))) rfl (.pure (.pickF _ _ _ rfl rfl rfl)) rfl rfl ?_
        refine Ch.step (v := (.d (.bool true))) rfl (.pure (.assign _ rfl rfl)) rfl rfl ?_
        refine Ch.nil ?_
        refine T_ret ?_
        refine And.intro (.inr rfl) ?_
        exact Exists.intro [(.d (.bool true))] (Exists.intro [] (Exists.intro [] (And.intro (.cons (.tmp 4 rfl) .nil) (And.intro (.cons (.any _) (.cons (.any _) .nil)) (And.intro (Exp.of (congrArg D.bool (by first | (unfold waitB; simp only [*, decide_true, decide_false, Bool.true_or, Bool.false_or, Bool.or_true, Bool.and_true, Bool.true_and, Bool.false_and, Bool.or_false, Bool.and_false]; done) | (unfold waitB; simp_all; done))) (.d _)) (And.intro rfl rfl))))))
      | false =>
        replace h7 := of_decide_eq_false h7
        refine Ch.step (v := (.d (.int .u8 ((u.getD ((a.dst).toNat) 0).toNat : Int)))) rfl (.pure (.move _ rfl rfl)) rfl rfl ?_
        refine Ch.step (v := (.d (.bool (decide (((u.getD ((a.dst).toNat) 0) : UInt8) = 43))))) rfl (.pure (.int _ _ _ _ _ rfl rfl rfl (u8_eql ((u.getD ((a.dst).toNat) 0) : UInt8) 43 rfl rfl))) rfl rfl ?_
        refine Ch.step (v := (.d (.bool (decide (((u.getD ((a.dst).toNat) 0) : UInt8) = 43))))) rfl (.pure (.pickF _ _ _ rfl rfl rfl)) rfl rfl ?_
        refine Ch.step (v := (.d (.bool (decide (((u.getD ((a.dst).toNat) 0) : UInt8) = 43))))) rfl (.pure (.pickT _ _ _ rfl rfl rfl)) rfl rfl ?_
        refine Ch.step (v := (.d (.bool (decide (((u.getD ((a.dst).toNat) 0) : UInt8) = 43))))) rfl (.pure (.pickF _ _ _ rfl rfl rfl)) rfl rfl ?_
        refine Ch.step (v := (.d (.bool (decide (((u.getD ((a.dst).toNat) 0) : UInt8) = 43))))) rfl (.pure (.assign _ rfl rfl)) rfl rfl ?_
        refine Ch.nil ?_
        refine T_ret ?_
        refine And.intro (.inr rfl) ?_
        exact Exists.intro [(.d (.bool (decide (((u.getD ((a.dst).toNat) 0) : UInt8) = 43))))] (Exists.intro [] (Exists.intro [] (And.intro (.cons (.tmp 4 rfl) .nil) (And.intro (.cons (.any _) (.cons (.any _) .nil)) (And.intro (Exp.of (congrArg D.bool (by first | (unfold waitB; simp only [*, decide_true, decide_false, Bool.true_or, Bool.false_or, Bool.or_true, Bool.and_true, Bool.true_and, Bool.false_and, Bool.or_false, Bool.and_false]; done) | (unfold waitB; simp_all; done))) (.d _)) (And.intro rfl rfl))))))
    | false =>
      replace h6 := of_decide_eq_false h6
      refine Ch.skip rfl rfl ?_
      refine Ch.skip rfl rfl ?_
      refine Ch.skip rfl rfl ?_
      refine Ch.skip rfl rfl ?_
      refine Ch.skip rfl rfl ?_
      refine Ch.skip rfl rfl ?_
      refine Ch.step (v := (.d (.bool false))) rfl (.pure (.pickF _ _ _ rfl rfl rfl)) rfl rfl ?_
      refine Ch.step (v := (.d (.bool false))) rfl (.pure (.pickF _ _ _ rfl rfl rfl)) rfl rfl ?_
      refine Ch.step (v := (.d (.bool false))) rfl (.pure (.assign _ rfl rfl)) rfl rfl ?_
      refine Ch.nil ?_
      refine T_ret ?_
      refine And.intro (.inr rfl) ?_
      exact Exists.intro [(.d (.bool false))] (Exists.intro [] (Exists.intro [] (And.intro (.cons (.tmp 4 rfl) .nil) (And.intro (.cons (.any _) (.cons (.any _) .nil)) (And.intro (Exp.of (congrArg D.bool (by first | (unfold waitB; simp only [*, decide_true, decide_false, Bool.true_or, Bool.false_or, Bool.or_true, Bool.and_true, Bool.true_and, Bool.false_and, Bool.or_false, Bool.and_false]; done) | (unfold waitB; simp_all; done))) (.d _)) (And.intro rfl rfl))))))

end Go.AM
