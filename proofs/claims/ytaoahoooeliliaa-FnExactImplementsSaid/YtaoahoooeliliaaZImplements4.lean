/-
  The contracts that the law FnExactImplements needs.
-/
import Derived.Test.YtaoahoooeliliaaZImplements3
namespace Go.AM
open Go.Proofs
set_option linter.unusedVariables false
set_option linter.unusedSimpArgs false

set_option maxHeartbeats 2000000 in
theorem sp_spec_l5Arc (x : Sgr) (a : Arc) (hb : x.bulk ≤ 1048576) (h8 : x.sigs.length ≤ 8) (hcl : allOf x.codes (fun u => codeN u (x.sigs.length : Int)) = true) : Sp Try.prog 128 [(.agg [(.slice false 2 (x.sigs.map Sgn.d)), (.slice false 1 (x.codes.map D.str)), (.slice false 4 (x.arcs.map Arc.d))]), (.agg [(.int .i64 a.src), (.int .i64 a.sig), (.bool (a.up)), (.int .i64 a.dst)])] [.any, .any] (.bool (arcB x a)) := by
  refine Sp_intro (lend := true) Try.func128 rfl rfl rfl (fun _ => rfl) (fun c hc hX => ?_)
  obtain ⟨hp0, hp1, hp2⟩ := Sgr.parts hb
  have hn0 := bulkF_len hp0
  have hn1 := bulk_len hp1
  have hx1 := bulk_mem hp1
  have hn2 := bulkF_len hp2; have hca := codes_at hcl
  refine T_seq ?_
  refine T_region hc ?_
  refine Ch.step (v := (.ptr 2000 0)) rfl (.box 2000 _ _ rfl (.aggD _)) rfl rfl ?_
  refine Ch.step (v := (.ptr 3000 0)) rfl (.box 3000 _ _ rfl (.aggD _)) rfl rfl ?_
  refine Ch.step (v := (.d (.bool false))) rfl (.pure (.assign _ rfl rfl)) rfl rfl ?_
  refine Ch.nil ?_
  refine T_seq ?_
  refine T_seq ?_
  refine T_region hc ?_
  refine Ch.step (v := (.ptr 3000 0)) rfl (.pure (.fldPtr _ _ _ rfl fld102_0 rfl)) rfl rfl ?_
  refine Ch.step (v := (.d (.int .i64 a.src))) rfl (.pure (.loadPtr1 _ _ rfl ag3 rfl rfl rfl)) rfl rfl ?_
  refine Ch.step (v := (.ptr 2000 1)) rfl (.pure (.fldPtr _ _ _ rfl fld52_1 rfl)) rfl rfl ?_
  refine Ch.step (v := (.d (.slice false 1 (x.codes.map D.str)))) rfl (.pure (.loadPtr1 _ _ rfl ag43 rfl rfl rfl)) rfl rfl ?_
  refine Ch.step (v := (.d (.int .i64 ((x.codes.length : Nat) : Int)))) rfl (.pure (.len _ _ 9 rfl Try.underlying43 (.sh _ _) (by simp))) rfl rfl ?_
  refine Ch.step (v := (.d (.int .i64 (((x.codes.length : Nat) : Int) - 1)))) rfl (.pure (.int _ _ _ _ _ rfl rfl rfl (intV_sub (by first | omega | (simp only [List.length_map, List.length_append, List.length_take, List.length_drop, List.length_cons, List.length_nil]; omega) | (simp; omega) | (simp; done)) (by first | omega | (simp only [List.length_map, List.length_append, List.length_take, List.length_drop, List.length_cons, List.length_nil]; omega) | (simp; omega) | (simp; done))))) rfl rfl ?_
  refine Ch.step (v := (.d (.bool (withinB a.src 0 (((x.codes.length : Nat) : Int) - 1))))) rfl (.call 13000 51 _ _ _ en51 rfl (.inl rfl) (.cons (.d _) (.cons (.d _) (.cons (.d _) .nil))) rfl rfl (sp_spec_l1In a.src 0 (((x.codes.length : Nat) : Int) - 1)) (.skip _ _ (.skip _ _ (.skip _ _ .nil))) rfl) rfl rfl ?_
  refine Ch.step (v := (.d (.bool (!(withinB a.src 0 (((x.codes.length : Nat) : Int) - 1)))))) rfl (.pure (.not _ _ rfl rfl)) rfl rfl ?_
  refine Ch.step (v := (.d (.bool (!(withinB a.src 0 (((x.codes.length : Nat) : Int) - 1)))))) rfl (.pure (.move _ rfl rfl)) rfl rfl ?_
  cases h1 : (withinB a.src 0 (((x.codes.length : Nat) : Int) - 1)) with
  | true =>
    try have hw1 := within_two h1
    refine Ch.step (v := (.ptr 3000 3)) rfl (.pure (.fldPtr _ _ _ rfl fld102_3 rfl)) rfl rfl ?_
    refine Ch.step (v := (.d (.int .i64 a.dst))) rfl (.pure (.loadPtr1 _ _ rfl ag3 rfl rfl rfl)) rfl rfl ?_
    refine Ch.step (v := (.ptr 2000 1)) rfl (.pure (.fldPtr _ _ _ rfl fld52_1 rfl)) rfl rfl ?_
    refine Ch.step (v := (.d (.slice false 1 (x.codes.map D.str)))) rfl (.pure (.loadPtr1 _ _ rfl ag43 rfl rfl rfl)) rfl rfl ?_
    refine Ch.step (v := (.d (.int .i64 ((x.codes.length : Nat) : Int)))) rfl (.pure (.len _ _ 9 rfl Try.underlying43 (.sh _ _) (by simp))) rfl rfl ?_
    refine Ch.step (v := (.d (.int .i64 (((x.codes.length : Nat) : Int) - 1)))) rfl (.pure (.int _ _ _ _ _ rfl rfl rfl (intV_sub (by first | omega | (simp only [List.length_map, List.length_append, List.length_take, List.length_drop, List.length_cons, List.length_nil]; omega) | (simp; omega) | (simp; done)) (by first | omega | (simp only [List.length_map, List.length_append, List.length_take, List.length_drop, List.length_cons, List.length_nil]; omega) | (simp; omega) | (simp; done))))) rfl rfl ?_
    refine Ch.step (v := (.d (.bool (withinB a.dst 0 (((x.codes.length : Nat) : Int) - 1))))) rfl (.call 22000 51 _ _ _ en51 rfl (.inl rfl) (.cons (.d _) (.cons (.d _) (.cons (.d _) .nil))) rfl rfl (sp_spec_l1In a.dst 0 (((x.codes.length : Nat) : Int) - 1)) (.skip _ _ (.skip _ _ (.skip _ _ .nil))) rfl) rfl rfl ?_
    refine Ch.step (v := (.d (.bool (!(withinB a.dst 0 (((x.codes.length : Nat) : Int) - 1)))))) rfl (.pure (.not _ _ rfl rfl)) rfl rfl ?_
    refine Ch.step (v := (.d (.bool (!(withinB a.dst 0 (((x.codes.length : Nat) : Int) - 1)))))) rfl (.pure (.pickF _ _ _ rfl rfl rfl)) rfl rfl ?_
    refine Ch.step (v := (.d (.bool (!(withinB a.dst 0 (((x.codes.length : Nat) : Int) - 1)))))) rfl (.pure (.move _ rfl rfl)) rfl rfl ?_
    cases h2 : (withinB a.dst 0 (((x.codes.length : Nat) : Int) - 1)) with
    | true =>
      try have hw2 := within_two h2
      try have hl1 := hca a.src (by omega) (by omega)
      try have hl2 := hca a.dst (by omega) (by omega)
      try have hl3 := hl1.2
      try have hl4 := hl2.2
      try unfold codeAt at hl3 hl4
      refine Ch.step (v := (.ptr 3000 1)) rfl (.pure (.fldPtr _ _ _ rfl fld102_1 rfl)) rfl rfl ?_
      refine Ch.step (v := (.d (.int .i64 a.sig))) rfl (.pure (.loadPtr1 _ _ rfl ag3 rfl rfl rfl)) rfl rfl ?_
      refine Ch.step (v := (.ptr 3000 2)) rfl (.pure (.fldPtr _ _ _ rfl fld102_2 rfl)) rfl rfl ?_
      refine Ch.step (v := (.d (.bool (a.up)))) rfl (.pure (.loadPtr1 _ _ rfl ag4 rfl rfl rfl)) rfl rfl ?_
      refine Ch.step (v := (.agg [(.d (.int .i64 a.sig)), (.d (.bool (a.up)))])) rfl (.build _ _ rfl stru139 (.cons (.one _ rfl) (.cons (.one _ rfl) .nil)) rfl) rfl rfl ?_
      refine Ch.step (v := (.ptr 2000 0)) rfl (.pure (.fldPtr _ _ _ rfl fld52_0 rfl)) rfl rfl ?_
      refine Ch.step (v := (.d (.slice false 2 (x.sigs.map Sgn.d)))) rfl (.pure (.loadPtr1 _ _ rfl ag29 rfl rfl rfl)) rfl rfl ?_
      refine Ch.step (v := (.d (.int .i64 ((x.sigs.length : Nat) : Int)))) rfl (.pure (.len _ _ 97 rfl Try.underlying29 (.sh _ _) (by simp))) rfl rfl ?_
      refine Ch.step (v := (.d (.bool (edgeB (Lab.mk a.sig a.up) ((x.sigs.length : Nat) : Int))))) rfl (.call 34000 163 _ _ _ en163 rfl (.inl rfl) (.cons (.lend (.agg (.cons (.d _) (.cons (.d _) .nil)) rfl)) (.cons (.d _) .nil)) rfl rfl (sp_spec_l2Label (Lab.mk a.sig a.up) ((x.sigs.length : Nat) : Int) (by first | assumption | omega | (rw [List.length_take]; omega) | (have := bulkF_mem hb _ (getD_mem (d := default) (by omega)); assumption) | (unfold bulkS at *; omega) | (simp_all; done)) (by first | assumption | omega | (rw [List.length_take]; omega) | (have := bulkF_mem hb _ (getD_mem (d := default) (by omega)); assumption) | (unfold bulkS at *; omega) | (simp_all; done))) (.skip _ _ (.skip _ _ .nil)) rfl) rfl rfl ?_
      refine Ch.step (v := (.d (.bool (!(edgeB (Lab.mk a.sig a.up) ((x.sigs.length : Nat) : Int)))))) rfl (.pure (.not _ _ rfl rfl)) rfl rfl ?_
      refine Ch.step (v := (.d (.bool (!(edgeB (Lab.mk a.sig a.up) ((x.sigs.length : Nat) : Int)))))) rfl (.pure (.pickF _ _ _ rfl rfl rfl)) rfl rfl ?_
      refine Ch.nil ?_
      refine T_cond (b := (!(edgeB (Lab.mk a.sig a.up) ((x.sigs.length : Nat) : Int)))) rfl (fun h3 => ?_) (fun h3 => ?_)
      · replace h3 := nott h3
        refine T_seq ?_
        refine T_region hc ?_
        refine Ch.step (v := (.d (.bool false))) rfl (.pure (.assign _ rfl rfl)) rfl rfl ?_
        refine Ch.nil ?_
        refine T_ret ?_
        refine And.intro (.inr rfl) ?_
        exact Exists.intro [(.d (.bool false))] (Exists.intro [] (Exists.intro [] (And.intro (.cons (.tmp 4 rfl) .nil) (And.intro (.cons (.any _) (.cons (.any _) .nil)) (And.intro (Exp.of (congrArg D.bool (by first | (rw [arcB, h1]; rfl) | (rw [arcB, h1, h2]; rfl) | (rw [arcB, h1, h2, h3]; rfl) | (rw [arcB, h1, h2, h3, hf4]; rfl) | (rw [arcB, h1, h2, h3, hf5]; unfold codeAt setCh; simp only [*, decide_true, decide_false, Bool.true_and, Bool.false_and]; done) | (rw [arcB, h1, h2, h3, hf5]; unfold codeAt setCh; rw [decide_eq_true h5]; rfl) | (rw [arcB, h1, h2, h3, hf5]; unfold codeAt setCh; rw [decide_eq_false h5]; rfl))) (.d _)) (And.intro rfl rfl))))))
      · replace h3 := notf h3
        refine T_skip ?_
        refine T_seq ?_
        refine T_regionD hc (by kernel_rfl) ?_
        refine ChD.step (v := (.ptr 2000 1)) [] rfl (.pure (.fldPtr _ _ _ rfl fld52_1 rfl)) rfl rfl ?_
        refine ChD.step (v := (.d (.slice false 1 (x.codes.map D.str)))) [2000] rfl (.pure (.loadPtr1 _ _ rfl ag43 rfl rfl rfl)) rfl rfl ?_
        refine ChD.step (v := (.ptr 3000 0)) [] rfl (.pure (.fldPtr _ _ _ rfl fld102_0 rfl)) rfl rfl ?_
        refine ChD.step (v := (.d (.int .i64 a.src))) [3000] rfl (.pure (.loadPtr1 _ _ rfl ag3 rfl rfl rfl)) rfl rfl ?_
        refine ChD.step (v := (.d (.ref (.str (x.codes.getD ((a.src).toNat) default))))) [] rfl (.pure (.idx _ _ _ 9 ((a.src).toNat) rfl Try.underlying43 sz9 rfl rfl (by omega) (get_map _ (by first | omega | (simp only [List.length_map, List.length_append, List.length_take, List.length_drop, List.length_cons, List.length_nil]; omega) | (simp; omega) | (simp; done))))) rfl rfl ?_
        refine ChD.step (v := (.d (.str (x.codes.getD ((a.src).toNat) default)))) [] rfl (.pure (.loadRef1 _ _ rfl ag9 rfl rfl)) rfl rfl ?_
        refine ChD.step (v := (.ptr 2000 1)) [] rfl (.pure (.fldPtr _ _ _ rfl fld52_1 rfl)) rfl rfl ?_
        refine ChD.step (v := (.d (.slice false 1 (x.codes.map D.str)))) [2000] rfl (.pure (.loadPtr1 _ _ rfl ag43 rfl rfl rfl)) rfl rfl ?_
        refine ChD.step (v := (.ptr 3000 3)) [] rfl (.pure (.fldPtr _ _ _ rfl fld102_3 rfl)) rfl rfl ?_
        refine ChD.step (v := (.d (.int .i64 a.dst))) [3000] rfl (.pure (.loadPtr1 _ _ rfl ag3 rfl rfl rfl)) rfl rfl ?_
        refine ChD.step (v := (.d (.ref (.str (x.codes.getD ((a.dst).toNat) default))))) [] rfl (.pure (.idx _ _ _ 9 ((a.dst).toNat) rfl Try.underlying43 sz9 rfl rfl (by omega) (get_map _ (by first | omega | (simp only [List.length_map, List.length_append, List.length_take, List.length_drop, List.length_cons, List.length_nil]; omega) | (simp; omega) | (simp; done))))) rfl rfl ?_
        refine ChD.step (v := (.d (.str (x.codes.getD ((a.dst).toNat) default)))) [] rfl (.pure (.loadRef1 _ _ rfl ag9 rfl rfl)) rfl rfl ?_
        refine ChD.step (v := (.d (.str (x.codes.getD ((a.src).toNat) default)))) [] rfl (.pure (.assign _ rfl rfl)) rfl rfl ?_
        refine ChD.step (v := (.d (.str (x.codes.getD ((a.dst).toNat) default)))) [] rfl (.pure (.assign _ rfl rfl)) rfl rfl ?_
        refine ChD.nil (And.intro ?_ (by kernel_rfl))
        refine T_seq ?_
        refine T_seq ?_
        refine T_region hc ?_
        refine Ch.step (v := (.ptr 3000 1)) rfl (.pure (.fldPtr _ _ _ rfl fld102_1 rfl)) rfl rfl ?_
        refine Ch.step (v := (.d (.int .i64 a.sig))) rfl (.pure (.loadPtr1 _ _ rfl ag3 rfl rfl rfl)) rfl rfl ?_
        refine Ch.step (v := (.d (.bool (decide (a.sig < 0))))) rfl (.pure (.int _ _ _ _ _ rfl rfl rfl rfl)) rfl rfl ?_
        refine Ch.nil ?_
        refine T_cond (b := (decide (a.sig < 0))) rfl (fun h4 => ?_) (fun h4 => ?_)
        · replace h4 := of_decide_eq_true h4
          try have hf4 := fit_neg (a := a) (u := codeAt x a.src) (v := codeAt x a.dst) (by omega) (by omega)
          try have hf5 := fit_pos (a := a) hl1.1 hl2.1 (by omega) (by have := edge_lt h3; omega)
          try have hlt := edge_lt h3
          refine T_seq ?_
          refine T_region hc ?_
          refine Ch.step (v := (.d (.str (x.codes.getD ((a.src).toNat) default)))) rfl (.pure (.move _ rfl rfl)) rfl rfl ?_
          refine Ch.step (v := (.d (.str (x.codes.getD ((a.dst).toNat) default)))) rfl (.pure (.move _ rfl rfl)) rfl rfl ?_
          refine Ch.step (v := (.d (.bool (decide ((x.codes.getD ((a.src).toNat) default) = (x.codes.getD ((a.dst).toNat) default)))))) rfl (.pure (.str _ _ _ _ _ rfl rfl rfl rfl)) rfl rfl ?_
          refine Ch.step (v := (.d (.bool (decide ((x.codes.getD ((a.src).toNat) default) = (x.codes.getD ((a.dst).toNat) default)))))) rfl (.pure (.assign _ rfl rfl)) rfl rfl ?_
          refine Ch.nil ?_
          refine T_ret ?_
          refine And.intro (.inr rfl) ?_
          exact Exists.intro [(.d (.bool (decide ((x.codes.getD ((a.src).toNat) default) = (x.codes.getD ((a.dst).toNat) default)))))] (Exists.intro [] (Exists.intro [] (And.intro (.cons (.tmp 4 rfl) .nil) (And.intro (.cons (.any _) (.cons (.any _) .nil)) (And.intro (Exp.of (congrArg D.bool (by first | (rw [arcB, h1]; rfl) | (rw [arcB, h1, h2]; rfl) | (rw [arcB, h1, h2, h3]; rfl) | (rw [arcB, h1, h2, h3, hf4]; rfl) | (rw [arcB, h1, h2, h3, hf5]; unfold codeAt setCh; simp only [*, decide_true, decide_false, Bool.true_and, Bool.false_and]; done) | (rw [arcB, h1, h2, h3, hf5]; unfold codeAt setCh; rw [decide_eq_true h5]; rfl) | (rw [arcB, h1, h2, h3, hf5]; unfold codeAt setCh; rw [decide_eq_false h5]; rfl))) (.d _)) (And.intro rfl rfl))))))
        · replace h4 := of_decide_eq_false h4
          try have hf4 := fit_neg (a := a) (u := codeAt x a.src) (v := codeAt x a.dst) (by omega) (by omega)
          try have hf5 := fit_pos (a := a) hl1.1 hl2.1 (by omega) (by have := edge_lt h3; omega)
          try have hlt := edge_lt h3
          refine T_skip ?_
          refine T_seq ?_
          refine T_regionD hc (by kernel_rfl) ?_
          refine ChD.step (v := (.d (.str (x.codes.getD ((a.src).toNat) default)))) [] rfl (.pure (.move _ rfl rfl)) rfl rfl ?_
          refine ChD.step (v := (.d (.str (x.codes.getD ((a.dst).toNat) default)))) [] rfl (.pure (.move _ rfl rfl)) rfl rfl ?_
          refine ChD.step (v := (.ptr 3000 1)) [] rfl (.pure (.fldPtr _ _ _ rfl fld102_1 rfl)) rfl rfl ?_
          refine ChD.step (v := (.d (.int .i64 a.sig))) [3000] rfl (.pure (.loadPtr1 _ _ rfl ag3 rfl rfl rfl)) rfl rfl ?_
          refine ChD.step (v := (.ptr 3000 2)) [] rfl (.pure (.fldPtr _ _ _ rfl fld102_2 rfl)) rfl rfl ?_
          refine ChD.step (v := (.d (.bool (a.up)))) [3000] rfl (.pure (.loadPtr1 _ _ rfl ag4 rfl rfl rfl)) rfl rfl ?_
          refine ChD.step (v := (.d (.bool (!(a.up))))) [] rfl (.pure (.not _ _ rfl rfl)) rfl rfl ?_
          refine ChD.step (v := (.d (.str ([bitN (!(a.up))])))) [] rfl (.call 62000 165 _ _ _ en165 rfl (.inl rfl) (.cons (.d _) .nil) rfl rfl (sp_spec_l5Bit (!(a.up))) (.skip _ _ .nil) rfl) rfl rfl ?_
          refine ChD.step (v := (.d (.str ((x.codes.getD ((a.dst).toNat) default).take a.sig.toNat ++ ([bitN (!(a.up))]) ++ (x.codes.getD ((a.dst).toNat) default).drop (a.sig + 1).toNat)))) [] rfl (.call 63000 164 _ _ _ en164 rfl (.inl rfl) (.cons (.d _) (.cons (.d _) (.cons (.d _) .nil))) rfl rfl (sp_spec_l5Set (x.codes.getD ((a.dst).toNat) default) a.sig ([bitN (!(a.up))]) (by first | omega | assumption | (exact hx _ (getD_mem (by omega))) | (exact hx _ (by assumption)) | (exact Nat.le_trans (hx _ (by assumption)) (by omega)) | (simp only [List.length_append, List.length_take, List.length_drop, List.length_cons, List.length_nil]; omega) | (simp_all; done)) (by first | omega | (simp; done) | assumption) (by first | omega | assumption | (exact hx _ (getD_mem (by omega))) | (exact hx _ (by assumption)) | (exact Nat.le_trans (hx _ (by assumption)) (by omega)) | (simp only [List.length_append, List.length_take, List.length_drop, List.length_cons, List.length_nil]; omega) | (simp_all; done)) (by first | omega | assumption | (exact hx _ (getD_mem (by omega))) | (exact hx _ (by assumption)) | (exact Nat.le_trans (hx _ (by assumption)) (by omega)) | (simp only [List.length_append, List.length_take, List.length_drop, List.length_cons, List.length_nil]; omega) | (simp_all; done))) (.skip _ _ (.skip _ _ (.skip _ _ .nil))) rfl) rfl rfl ?_
          refine ChD.step (v := (.d (.bool (decide ((x.codes.getD ((a.src).toNat) default) = ((x.codes.getD ((a.dst).toNat) default).take a.sig.toNat ++ ([bitN (!(a.up))]) ++ (x.codes.getD ((a.dst).toNat) default).drop (a.sig + 1).toNat)))))) [] rfl (.pure (.str _ _ _ _ _ rfl rfl rfl rfl)) rfl rfl ?_
          refine ChD.step (v := (.d (.bool (decide ((x.codes.getD ((a.src).toNat) default) = ((x.codes.getD ((a.dst).toNat) default).take a.sig.toNat ++ ([bitN (!(a.up))]) ++ (x.codes.getD ((a.dst).toNat) default).drop (a.sig + 1).toNat)))))) [] rfl (.pure (.move _ rfl rfl)) rfl rfl ?_
          cases h5 : (decide ((x.codes.getD ((a.src).toNat) default) = ((x.codes.getD ((a.dst).toNat) default).take a.sig.toNat ++ ([bitN (!(a.up))]) ++ (x.codes.getD ((a.dst).toNat) default).drop (a.sig + 1).toNat))) with
          | true =>
            replace h5 := of_decide_eq_true h5
            refine ChD.step (v := (.d (.str (x.codes.getD ((a.dst).toNat) default)))) [] rfl (.pure (.move _ rfl rfl)) rfl rfl ?_
            refine ChD.step (v := (.d (.str (x.codes.getD ((a.src).toNat) default)))) [] rfl (.pure (.move _ rfl rfl)) rfl rfl ?_
            refine ChD.step (v := (.ptr 3000 1)) [] rfl (.pure (.fldPtr _ _ _ rfl fld102_1 rfl)) rfl rfl ?_
            refine ChD.step (v := (.d (.int .i64 a.sig))) [3000] rfl (.pure (.loadPtr1 _ _ rfl ag3 rfl rfl rfl)) rfl rfl ?_
            refine ChD.step (v := (.ptr 3000 2)) [] rfl (.pure (.fldPtr _ _ _ rfl fld102_2 rfl)) rfl rfl ?_
            refine ChD.step (v := (.d (.bool (a.up)))) [3000] rfl (.pure (.loadPtr1 _ _ rfl ag4 rfl rfl rfl)) rfl rfl ?_
            refine ChD.step (v := (.d (.str ([bitN (a.up)])))) [] rfl (.call 72000 165 _ _ _ en165 rfl (.inl rfl) (.cons (.d _) .nil) rfl rfl (sp_spec_l5Bit (a.up)) (.skip _ _ .nil) rfl) rfl rfl ?_
            refine ChD.step (v := (.d (.str ((x.codes.getD ((a.src).toNat) default).take a.sig.toNat ++ ([bitN (a.up)]) ++ (x.codes.getD ((a.src).toNat) default).drop (a.sig + 1).toNat)))) [] rfl (.call 73000 164 _ _ _ en164 rfl (.inl rfl) (.cons (.d _) (.cons (.d _) (.cons (.d _) .nil))) rfl rfl (sp_spec_l5Set (x.codes.getD ((a.src).toNat) default) a.sig ([bitN (a.up)]) (by first | omega | assumption | (exact hx _ (getD_mem (by omega))) | (exact hx _ (by assumption)) | (exact Nat.le_trans (hx _ (by assumption)) (by omega)) | (simp only [List.length_append, List.length_take, List.length_drop, List.length_cons, List.length_nil]; omega) | (simp_all; done)) (by first | omega | (simp; done) | assumption) (by first | omega | assumption | (exact hx _ (getD_mem (by omega))) | (exact hx _ (by assumption)) | (exact Nat.le_trans (hx _ (by assumption)) (by omega)) | (simp only [List.length_append, List.length_take, List.length_drop, List.length_cons, List.length_nil]; omega) | (simp_all; done)) (by first | omega | assumption | (exact hx _ (getD_mem (by omega))) | (exact hx _ (by assumption)) | (exact Nat.le_trans (hx _ (by assumption)) (by omega)) | (simp only [List.length_append, List.length_take, List.length_drop, List.length_cons, List.length_nil]; omega) | (simp_all; done))) (.skip _ _ (.skip _ _ (.skip _ _ .nil))) rfl) rfl rfl ?_
            refine ChD.step (v := (.d (.bool (decide ((x.codes.getD ((a.dst).toNat) default) = ((x.codes.getD ((a.src).toNat) default).take a.sig.toNat ++ ([bitN (a.up)]) ++ (x.codes.getD ((a.src).toNat) default).drop (a.sig + 1).toNat)))))) [] rfl (.pure (.str _ _ _ _ _ rfl rfl rfl rfl)) rfl rfl ?_
            refine ChD.step (v := (.d (.bool (decide ((x.codes.getD ((a.dst).toNat) default) = ((x.codes.getD ((a.src).toNat) default).take a.sig.toNat ++ ([bitN (a.up)]) ++ (x.codes.getD ((a.src).toNat) default).drop (a.sig + 1).toNat)))))) [] rfl (.pure (.pickT _ _ _ rfl rfl rfl)) rfl rfl ?_
            refine ChD.step (v := (.d (.bool (decide ((x.codes.getD ((a.dst).toNat) default) = ((x.codes.getD ((a.src).toNat) default).take a.sig.toNat ++ ([bitN (a.up)]) ++ (x.codes.getD ((a.src).toNat) default).drop (a.sig + 1).toNat)))))) [] rfl (.pure (.assign _ rfl rfl)) rfl rfl ?_
            refine ChD.nil (And.intro ?_ (by kernel_rfl))
            refine T_ret ?_
            refine And.intro (.inr rfl) ?_
            exact Exists.intro [(.d (.bool (decide ((x.codes.getD ((a.dst).toNat) default) = ((x.codes.getD ((a.src).toNat) default).take a.sig.toNat ++ ([bitN (a.up)]) ++ (x.codes.getD ((a.src).toNat) default).drop (a.sig + 1).toNat)))))] (Exists.intro [] (Exists.intro [] (And.intro (.cons (.tmp 4 rfl) .nil) (And.intro (.cons (.any _) (.cons (.any _) .nil)) (And.intro (Exp.of (congrArg D.bool (by first | (rw [arcB, h1]; rfl) | (rw [arcB, h1, h2]; rfl) | (rw [arcB, h1, h2, h3]; rfl) | (rw [arcB, h1, h2, h3, hf4]; rfl) | (rw [arcB, h1, h2, h3, hf5]; unfold codeAt setCh; simp only [*, decide_true, decide_false, Bool.true_and, Bool.false_and]; done) | (rw [arcB, h1, h2, h3, hf5]; unfold codeAt setCh; rw [decide_eq_true h5]; rfl) | (rw [arcB, h1, h2, h3, hf5]; unfold codeAt setCh; rw [decide_eq_false h5]; rfl))) (.d _)) (And.intro rfl rfl))))))
          | false =>
            replace h5 := of_decide_eq_false h5
            refine ChD.skip rfl rfl ?_
            refine ChD.skip rfl rfl ?_
            refine ChD.skip rfl rfl ?_
            refine ChD.skip rfl rfl ?_
            refine ChD.skip rfl rfl ?_
            refine ChD.skip rfl rfl ?_
            refine ChD.skip rfl rfl ?_
            refine ChD.skip rfl rfl ?_
            refine ChD.skip rfl rfl ?_
            refine ChD.step (v := (.d (.bool false))) [] rfl (.pure (.pickF _ _ _ rfl rfl rfl)) rfl rfl ?_
            refine ChD.step (v := (.d (.bool false))) [] rfl (.pure (.assign _ rfl rfl)) rfl rfl ?_
            refine ChD.nil (And.intro ?_ (by kernel_rfl))
            refine T_ret ?_
            refine And.intro (.inr rfl) ?_
            exact Exists.intro [(.d (.bool false))] (Exists.intro [] (Exists.intro [] (And.intro (.cons (.tmp 4 rfl) .nil) (And.intro (.cons (.any _) (.cons (.any _) .nil)) (And.intro (Exp.of (congrArg D.bool (by first | (rw [arcB, h1]; rfl) | (rw [arcB, h1, h2]; rfl) | (rw [arcB, h1, h2, h3]; rfl) | (rw [arcB, h1, h2, h3, hf4]; rfl) | (rw [arcB, h1, h2, h3, hf5]; unfold codeAt setCh; simp only [*, decide_true, decide_false, Bool.true_and, Bool.false_and]; done) | (rw [arcB, h1, h2, h3, hf5]; unfold codeAt setCh; rw [decide_eq_true h5]; rfl) | (rw [arcB, h1, h2, h3, hf5]; unfold codeAt setCh; rw [decide_eq_false h5]; rfl))) (.d _)) (And.intro rfl rfl))))))
    | false =>
      try have hw2 := within_two h2
      try have hl1 := hca a.src (by omega) (by omega)
      try have hl2 := hca a.dst (by omega) (by omega)
      try have hl3 := hl1.2
      try have hl4 := hl2.2
      try unfold codeAt at hl3 hl4
      refine Ch.skip rfl rfl ?_
      refine Ch.skip rfl rfl ?_
      refine Ch.skip rfl rfl ?_
      refine Ch.skip rfl rfl ?_
      refine Ch.skip rfl rfl ?_
      refine Ch.skip rfl rfl ?_
      refine Ch.skip rfl rfl ?_
      refine Ch.skip rfl rfl ?_
      refine Ch.skip rfl rfl ?_
      refine Ch.skip rfl rfl ?_
      refine Ch.step (v := (.d (.bool true))) rfl (.pure (.pickT _ _ _ rfl rfl rfl)) rfl rfl ?_
      refine Ch.nil ?_
      refine T_cond (b := true) rfl (fun _ => ?_) (fun h => nomatch h)
      refine T_seq ?_
      refine T_region hc ?_
      refine Ch.step (v := (.d (.bool false))) rfl (.pure (.assign _ rfl rfl)) rfl rfl ?_
      refine Ch.nil ?_
      refine T_ret ?_
      refine And.intro (.inr rfl) ?_
      exact Exists.intro [(.d (.bool false))] (Exists.intro [] (Exists.intro [] (And.intro (.cons (.tmp 4 rfl) .nil) (And.intro (.cons (.any _) (.cons (.any _) .nil)) (And.intro (Exp.of (congrArg D.bool (by first | (rw [arcB, h1]; rfl) | (rw [arcB, h1, h2]; rfl) | (rw [arcB, h1, h2, h3]; rfl) | (rw [arcB, h1, h2, h3, hf4]; rfl) | (rw [arcB, h1, h2, h3, hf5]; unfold codeAt setCh; simp only [*, decide_true, decide_false, Bool.true_and, Bool.false_and]; done) | (rw [arcB, h1, h2, h3, hf5]; unfold codeAt setCh; rw [decide_eq_true h5]; rfl) | (rw [arcB, h1, h2, h3, hf5]; unfold codeAt setCh; rw [decide_eq_false h5]; rfl))) (.d _)) (And.intro rfl rfl))))))
  | false =>
    try have hw1 := within_two h1
    refine Ch.skip rfl rfl ?_
    refine Ch.skip rfl rfl ?_
    refine Ch.skip rfl rfl ?_
    refine Ch.skip rfl rfl ?_
    refine Ch.skip rfl rfl ?_
    refine Ch.skip rfl rfl ?_
    refine Ch.skip rfl rfl ?_
    refine Ch.skip rfl rfl ?_
    refine Ch.step (v := (.d (.bool true))) rfl (.pure (.pickT _ _ _ rfl rfl rfl)) rfl rfl ?_
    refine Ch.step (v := (.d (.bool true))) rfl (.pure (.move _ rfl rfl)) rfl rfl ?_
    refine Ch.skip rfl rfl ?_
    refine Ch.skip rfl rfl ?_
    refine Ch.skip rfl rfl ?_
    refine Ch.skip rfl rfl ?_
    refine Ch.skip rfl rfl ?_
    refine Ch.skip rfl rfl ?_
    refine Ch.skip rfl rfl ?_
    refine Ch.skip rfl rfl ?_
    refine Ch.skip rfl rfl ?_
    refine Ch.skip rfl rfl ?_
    refine Ch.step (v := (.d (.bool true))) rfl (.pure (.pickT _ _ _ rfl rfl rfl)) rfl rfl ?_
    refine Ch.nil ?_
    refine T_cond (b := true) rfl (fun _ => ?_) (fun h => nomatch h)
    refine T_seq ?_
    refine T_region hc ?_
    refine Ch.step (v := (.d (.bool false))) rfl (.pure (.assign _ rfl rfl)) rfl rfl ?_
    refine Ch.nil ?_
    refine T_ret ?_
    refine And.intro (.inr rfl) ?_
    exact Exists.intro [(.d (.bool false))] (Exists.intro [] (Exists.intro [] (And.intro (.cons (.tmp 4 rfl) .nil) (And.intro (.cons (.any _) (.cons (.any _) .nil)) (And.intro (Exp.of (congrArg D.bool (by first | (rw [arcB, h1]; rfl) | (rw [arcB, h1, h2]; rfl) | (rw [arcB, h1, h2, h3]; rfl) | (rw [arcB, h1, h2, h3, hf4]; rfl) | (rw [arcB, h1, h2, h3, hf5]; unfold codeAt setCh; simp only [*, decide_true, decide_false, Bool.true_and, Bool.false_and]; done) | (rw [arcB, h1, h2, h3, hf5]; unfold codeAt setCh; rw [decide_eq_true h5]; rfl) | (rw [arcB, h1, h2, h3, hf5]; unfold codeAt setCh; rw [decide_eq_false h5]; rfl))) (.d _)) (And.intro rfl rfl))))))

set_option maxHeartbeats 2000000 in
theorem sp_spec_l5All (x : Sgr) (hb : x.bulk ≤ 1048576) (hn : 1 ≤ x.codes.length) (hen : ends x.codes.length x.arcs) : Sp Try.prog 129 [(.agg [(.slice false 2 (x.sigs.map Sgn.d)), (.slice false 1 (x.codes.map D.str)), (.slice false 4 (x.arcs.map Arc.d))])] [.any] (.bool (!hasI (distF x.codes.length (stepsOf x.arcs) 0) (-1))) := by
  refine Sp_intro (lend := true) Try.func129 rfl rfl rfl (fun _ => rfl) (fun c hc hX => ?_)
  obtain ⟨hp0, hp1, hp2⟩ := Sgr.parts hb
  have hn0 := bulkF_len hp0
  have hn1 := bulk_len hp1
  have hx1 := bulk_mem hp1
  have hn2 := bulkF_len hp2
  refine T_seq ?_
  refine T_region hc ?_
  refine Ch.step (v := (.ptr 1000 0)) rfl (.box 1000 _ _ rfl (.aggD _)) rfl rfl ?_
  refine Ch.step (v := (.d (.bool false))) rfl (.pure (.assign _ rfl rfl)) rfl rfl ?_
  refine Ch.nil ?_
  refine T_seq ?_
  refine T_region hc ?_
  refine Ch.step (v := (.ptr 1000 1)) rfl (.pure (.fldPtr _ _ _ rfl fld52_1 rfl)) rfl rfl ?_
  refine Ch.step (v := (.d (.slice false 1 (x.codes.map D.str)))) rfl (.pure (.loadPtr1 _ _ rfl ag43 rfl rfl rfl)) rfl rfl ?_
  refine Ch.step (v := (.d (.int .i64 ((x.codes.length : Nat) : Int)))) rfl (.pure (.len _ _ 9 rfl Try.underlying43 (.sh _ _) (by simp))) rfl rfl ?_
  refine Ch.step (v := (.row 11000)) rfl (.make 11000 _ 4 _ _ (x.codes.length) (x.codes.length) rfl sty147 rfl rfl rfl rfl (by first | omega | (simp only [List.length_map, List.length_append, List.length_take, List.length_drop, List.length_cons, List.length_nil]; omega) | (simp; omega) | (simp; done)) (by first | omega | (simp only [List.length_map, List.length_append, List.length_take, List.length_drop, List.length_cons, List.length_nil]; omega) | (simp; omega) | (simp; done)) (by first | omega | (simp only [List.length_map, List.length_append, List.length_take, List.length_drop, List.length_cons, List.length_nil]; omega) | (simp; omega) | (simp; done)) (zeroD_mk (zd := (.bool false)) zr4 (by intro S w; rw [DR]; exact ⟨rfl, rfl⟩) rfl)) rfl rfl ?_
  refine Ch.step (v := (.row 11000)) rfl (.pure (.assign _ rfl rfl)) rfl rfl ?_
  refine Ch.nil ?_
  refine T_seq ?_
  refine T_region hc ?_
  refine Ch.step (v := (.row 11000)) rfl (.pure (.move _ rfl rfl)) rfl rfl ?_
  refine Ch.step (v := (.el 11000 1 0 0)) rfl (.pure (.idxRow _ _ _ 4 (0) rfl Try.underlying147 sz4 rfl rfl rfl rfl (by first | omega | (simp only [List.length_map, List.length_set]; omega) | (simp; omega)))) rfl rfl ?_
  refine Ch.step (v := .junk) rfl (.storeEl (y' := (.bool true)) _ _ _ rfl rfl rfl (.d _) rfl sz4 rfl (by rw [List.getElem?_replicate, if_pos (by omega)]) rfl rfl) rfl rfl ?_
  refine Ch.nil ?_
  refine T_seq ?_
  refine T_seq ?_
  refine T_region hc ?_
  refine Ch.step (v := (.ptr 1000 1)) rfl (.pure (.fldPtr _ _ _ rfl fld52_1 rfl)) rfl rfl ?_
  refine Ch.step (v := (.d (.slice false 1 (x.codes.map D.str)))) rfl (.pure (.loadPtr1 _ _ rfl ag43 rfl rfl rfl)) rfl rfl ?_
  refine Ch.step (v := (.d (.int .i64 ((x.codes.length : Nat) : Int)))) rfl (.pure (.len _ _ 9 rfl Try.underlying43 (.sh _ _) (by simp))) rfl rfl ?_
  refine Ch.step (v := (.d (.int .i64 0))) rfl (.pure (.move _ rfl rfl)) rfl rfl ?_
  refine Ch.nil ?_
  refine T_block ?_
  refine T_loop (ι := Nat) (fun k => { n := 46, sl := [(1, (.ptr 1000 0)), (3, (.row 3)), (16, (.d (.int .i64 ((x.codes.length : Nat) : Int)))), (17, (.d (.int .i64 ((k : Nat) : Int))))], hp := [(3, (some (.row 1 ((metIt x k).map D.bool)))), (1000, (some (.box [(.d (.slice false 2 (x.sigs.map Sgn.d))), (.d (.slice false 1 (x.codes.map D.str))), (.d (.slice false 4 (x.arcs.map Arc.d)))])))], pin := [] }) (fun k => k ≤ x.codes.length) (fun k => x.codes.length - k) ⟨0, (by omega), (Wk.ren [(3, 11000)] rfl rfl rfl rfl (And.intro rfl (And.intro rfl (And.intro rfl (And.intro (vI (by first | rfl | omega | (simp; done) | (simp; omega))) trivial)))) (And.intro (oR (by first | (exact metIt_start x) | (rw [metTo_all x k (by omega)]; done))) (And.intro rfl trivial)))⟩ (fun k hp0 => ?_)
  have hml := metIt_len x k
  refine T_seq ?_
  refine T_region hc ?_
  refine Ch.step (v := (.d (.bool (decide (((k : Nat) : Int) < ((x.codes.length : Nat) : Int)))))) rfl (.pure (.int _ _ _ _ _ rfl rfl rfl rfl)) rfl rfl ?_
  refine Ch.nil ?_
  refine T_seq ?_
  refine T_cond (b := (decide (((k : Nat) : Int) < ((x.codes.length : Nat) : Int)))) rfl (fun h1 => ?_) (fun h1 => ?_)
  · replace h1 := of_decide_eq_true h1
    refine T_skip ?_
    refine T_seq ?_
    refine T_block ?_
    refine T_seq ?_
    refine T_region hc ?_
    refine Ch.step (v := (.ptr 1000 2)) rfl (.pure (.fldPtr _ _ _ rfl fld52_2 rfl)) rfl rfl ?_
    refine Ch.step (v := (.d (.slice false 4 (x.arcs.map Arc.d)))) rfl (.pure (.loadPtr1 _ _ rfl ag50 rfl rfl rfl)) rfl rfl ?_
    refine Ch.step (v := (.d (.int .i64 ((x.arcs.length : Nat) : Int)))) rfl (.pure (.len _ _ 102 rfl Try.underlying50 (.sh _ _) (by simp))) rfl rfl ?_
    refine Ch.step (v := (.d (.int .i64 0))) rfl (.pure (.move _ rfl rfl)) rfl rfl ?_
    refine Ch.nil ?_
    refine T_block ?_
    refine T_loop (ι := Nat) (fun m => { n := 46, sl := [(1, (.ptr 1000 0)), (3, (.row 3)), (16, (.d (.int .i64 ((x.codes.length : Nat) : Int)))), (17, (.d (.int .i64 ((k : Nat) : Int)))), (20, (.d (.slice false 4 (x.arcs.map Arc.d)))), (21, (.d (.int .i64 ((x.arcs.length : Nat) : Int)))), (22, (.d (.int .i64 ((m : Nat) : Int))))], hp := [(3, (some (.row 1 ((metTo x k m).map D.bool)))), (1000, (some (.box [(.d (.slice false 2 (x.sigs.map Sgn.d))), (.d (.slice false 1 (x.codes.map D.str))), (.d (.slice false 4 (x.arcs.map Arc.d)))])))], pin := [] }) (fun m => m ≤ x.arcs.length) (fun m => x.arcs.length - m) ⟨0, (by omega), (Wk.of rfl rfl (And.intro rfl (And.intro rfl (And.intro rfl (And.intro rfl (And.intro rfl (And.intro rfl (And.intro (vI (by first | rfl | omega | (simp; done) | (simp; omega))) trivial))))))) (And.intro (oR (by first | rfl | (exact metTo_yes (by omega) (by assumption)) | (exact congrArg (List.map _) (metTo_no (by omega) (by assumption))))) (And.intro rfl trivial)))⟩ (fun m hp1 => ?_)
    have hmt := metTo_len x k m
    refine T_seq ?_
    refine T_region hc ?_
    refine Ch.step (v := (.d (.bool (decide (((m : Nat) : Int) < ((x.arcs.length : Nat) : Int)))))) rfl (.pure (.int _ _ _ _ _ rfl rfl rfl rfl)) rfl rfl ?_
    refine Ch.nil ?_
    refine T_seq ?_
    refine T_cond (b := (decide (((m : Nat) : Int) < ((x.arcs.length : Nat) : Int)))) rfl (fun h2 => ?_) (fun h2 => ?_)
    · replace h2 := of_decide_eq_true h2
      try have hee := hen _ (getD_mem (l := x.arcs) (j := m) (d := default) (by omega))
      refine T_skip ?_
      refine T_seq ?_
      refine T_block ?_
      refine T_seq ?_
      refine T_region hc ?_
      refine Ch.step (v := (.d (.ref (.agg [(.int .i64 ((x.arcs.getD m default).src)), (.int .i64 ((x.arcs.getD m default).sig)), (.bool ((x.arcs.getD m default).up)), (.int .i64 ((x.arcs.getD m default).dst))])))) rfl (.pure (.idx _ _ _ 102 (m) rfl Try.underlying50 sz102 rfl rfl rfl (get_map _ (by first | omega | (simp only [List.length_map, List.length_append, List.length_take, List.length_drop, List.length_cons, List.length_nil]; omega) | (simp; omega) | (simp; done))))) rfl rfl ?_
      refine Ch.step (v := (.d (.agg [(.int .i64 ((x.arcs.getD m default).src)), (.int .i64 ((x.arcs.getD m default).sig)), (.bool ((x.arcs.getD m default).up)), (.int .i64 ((x.arcs.getD m default).dst))]))) rfl (.pure (.loadRefA _ _ rfl ag102 sz102 rfl)) rfl rfl ?_
      refine Ch.step (v := (.ptr 5000 0)) rfl (.alloc 5000 _ rfl zer102) rfl rfl ?_
      refine Ch.step (v := .junk) rfl (.storePtr _ _ _ rfl rfl rfl (.aggD _) sz102 (Nat.le_of_ble_eq_true rfl)) rfl rfl ?_
      refine Ch.nil ?_
      refine T_seq ?_
      refine T_region hc ?_
      refine Ch.step (v := (.row 3)) rfl (.pure (.move _ rfl rfl)) rfl rfl ?_
      refine Ch.step (v := (.ptr 5000 0)) rfl (.pure (.fldPtr _ _ _ rfl fld102_0 rfl)) rfl rfl ?_
      refine Ch.step (v := (.d (.int .i64 ((x.arcs.getD m default).src)))) rfl (.pure (.loadPtr1 _ _ rfl ag3 rfl rfl rfl)) rfl rfl ?_
      refine Ch.step (v := (.el 3 1 ((((x.arcs.getD m default).src)).toNat) 0)) rfl (.pure (.idxRow _ _ _ 4 ((((x.arcs.getD m default).src)).toNat) rfl Try.underlying147 sz4 rfl rfl rfl (by omega) (by first | omega | (simp only [List.length_map, List.length_set]; omega) | (simp; omega)))) rfl rfl ?_
      refine Ch.step (v := (.d (.bool (((metTo x k m).getD ((((x.arcs.getD m default).src)).toNat) default))))) rfl (.pure (.loadEl1 _ _ rfl ag4 rfl rfl (get_map _ (by first | omega | (simp only [List.length_map, List.length_append, List.length_take, List.length_drop, List.length_cons, List.length_nil]; omega) | (simp; omega) | (simp; done))) rfl rfl rfl)) rfl rfl ?_
      refine Ch.nil ?_
      refine T_cond (b := (((metTo x k m).getD ((((x.arcs.getD m default).src)).toNat) default))) rfl (fun h3 => ?_) (fun h3 => ?_)
      · refine T_region hc ?_
        refine Ch.step (v := (.row 3)) rfl (.pure (.move _ rfl rfl)) rfl rfl ?_
        refine Ch.step (v := (.ptr 5000 3)) rfl (.pure (.fldPtr _ _ _ rfl fld102_3 rfl)) rfl rfl ?_
        refine Ch.step (v := (.d (.int .i64 ((x.arcs.getD m default).dst)))) rfl (.pure (.loadPtr1 _ _ rfl ag3 rfl rfl rfl)) rfl rfl ?_
        refine Ch.step (v := (.el 3 1 ((((x.arcs.getD m default).dst)).toNat) 0)) rfl (.pure (.idxRow _ _ _ 4 ((((x.arcs.getD m default).dst)).toNat) rfl Try.underlying147 sz4 rfl rfl rfl (by omega) (by first | omega | (simp only [List.length_map, List.length_set]; omega) | (simp; omega)))) rfl rfl ?_
        refine Ch.step (v := .junk) rfl (.storeEl (y' := (.bool true)) _ _ _ rfl rfl rfl (.d _) rfl sz4 rfl (get_map _ (by first | omega | (simp only [List.length_map, List.length_append, List.length_take, List.length_drop, List.length_cons, List.length_nil]; omega) | (simp; omega) | (simp; done))) rfl rfl) rfl rfl ?_
        refine Ch.nil ?_
        refine T_region hc ?_
        refine Ch.step (v := (.d (.int .i64 (((m : Nat) : Int) + 1)))) rfl (.pure (.int _ _ _ _ _ rfl rfl rfl (intV_add (by first | omega | (simp only [List.length_map, List.length_append, List.length_take, List.length_drop, List.length_cons, List.length_nil]; omega) | (simp; omega) | (simp; done)) (by first | omega | (simp only [List.length_map, List.length_append, List.length_take, List.length_drop, List.length_cons, List.length_nil]; omega) | (simp; omega) | (simp; done))))) rfl rfl ?_
        refine Ch.step (v := (.d (.int .i64 (((m : Nat) : Int) + 1)))) rfl (.pure (.move _ rfl rfl)) rfl rfl ?_
        refine Ch.nil ?_
        refine Exists.intro (m + 1) (And.intro (by omega) (And.intro (by first | omega | (dsimp only; omega)) (Wk.of rfl rfl (And.intro rfl (And.intro rfl (And.intro rfl (And.intro rfl (And.intro rfl (And.intro rfl (And.intro (vI (by first | rfl | omega | (simp; done) | (simp; omega))) trivial))))))) (And.intro (oR (by first | rfl | (exact metTo_yes (by omega) (by assumption)) | (exact congrArg (List.map _) (metTo_no (by omega) (by assumption))))) (And.intro rfl trivial)))))
      · refine T_skip ?_
        refine T_region hc ?_
        refine Ch.step (v := (.d (.int .i64 (((m : Nat) : Int) + 1)))) rfl (.pure (.int _ _ _ _ _ rfl rfl rfl (intV_add (by first | omega | (simp only [List.length_map, List.length_append, List.length_take, List.length_drop, List.length_cons, List.length_nil]; omega) | (simp; omega) | (simp; done)) (by first | omega | (simp only [List.length_map, List.length_append, List.length_take, List.length_drop, List.length_cons, List.length_nil]; omega) | (simp; omega) | (simp; done))))) rfl rfl ?_
        refine Ch.step (v := (.d (.int .i64 (((m : Nat) : Int) + 1)))) rfl (.pure (.move _ rfl rfl)) rfl rfl ?_
        refine Ch.nil ?_
        refine Exists.intro (m + 1) (And.intro (by omega) (And.intro (by first | omega | (dsimp only; omega)) (Wk.of rfl rfl (And.intro rfl (And.intro rfl (And.intro rfl (And.intro rfl (And.intro rfl (And.intro rfl (And.intro (vI (by first | rfl | omega | (simp; done) | (simp; omega))) trivial))))))) (And.intro (oR (by first | rfl | (exact metTo_yes (by omega) (by assumption)) | (exact congrArg (List.map _) (metTo_no (by omega) (by assumption))))) (And.intro rfl trivial)))))
    · replace h2 := of_decide_eq_false h2
      try have hee := hen _ (getD_mem (l := x.arcs) (j := m) (d := default) (by omega))
      refine T_exit ?_
      refine T_region hc ?_
      refine Ch.step (v := (.d (.int .i64 (((k : Nat) : Int) + 1)))) rfl (.pure (.int _ _ _ _ _ rfl rfl rfl (intV_add (by first | omega | (simp only [List.length_map, List.length_append, List.length_take, List.length_drop, List.length_cons, List.length_nil]; omega) | (simp; omega) | (simp; done)) (by first | omega | (simp only [List.length_map, List.length_append, List.length_take, List.length_drop, List.length_cons, List.length_nil]; omega) | (simp; omega) | (simp; done))))) rfl rfl ?_
      refine Ch.step (v := (.d (.int .i64 (((k : Nat) : Int) + 1)))) rfl (.pure (.move _ rfl rfl)) rfl rfl ?_
      refine Ch.nil ?_
      refine Exists.intro (k + 1) (And.intro (by omega) (And.intro (by first | omega | (dsimp only; omega)) (Wk.of rfl rfl (And.intro rfl (And.intro rfl (And.intro rfl (And.intro (vI (by first | rfl | omega | (simp; done) | (simp; omega))) trivial)))) (And.intro (oR (by first | (exact metIt_start x) | (rw [metTo_all x k (by omega)]; done))) (And.intro rfl trivial)))))
  · replace h1 := of_decide_eq_false h1
    refine T_exit ?_
    refine T_seq ?_
    refine T_seq ?_
    refine T_region hc ?_
    refine Ch.step (v := (.row 3)) rfl (.pure (.move _ rfl rfl)) rfl rfl ?_
    refine Ch.step (v := (.d (.int .i64 (((metIt x k).length : Nat) : Int)))) rfl (.pure (.len _ _ 4 rfl Try.underlying147 (.row rfl) (by simp))) rfl rfl ?_
    refine Ch.step (v := (.d (.int .i64 0))) rfl (.pure (.move _ rfl rfl)) rfl rfl ?_
    refine Ch.nil ?_
    refine T_block ?_
    refine T_loop (ι := Nat) (fun m => { n := 46, sl := [(37, (.row 3)), (38, (.d (.int .i64 (((metIt x k).length : Nat) : Int)))), (39, (.d (.int .i64 ((m : Nat) : Int))))], hp := [(3, (some (.row 1 ((metIt x k).map D.bool))))], pin := [] }) (fun m => m ≤ x.codes.length ∧ ∀ j, j < m → (metIt x k).getD j default = true) (fun m => x.codes.length - m) ⟨0, ⟨by omega, fun j hj => by omega⟩, (Wk.of rfl rfl (And.intro rfl (And.intro rfl (And.intro (vI (by first | rfl | omega | (simp; done) | (simp; omega))) trivial))) (And.intro rfl trivial))⟩ (fun m hp2 => ?_)
    refine T_seq ?_
    refine T_region hc ?_
    refine Ch.step (v := (.d (.bool (decide (((m : Nat) : Int) < (((metIt x k).length : Nat) : Int)))))) rfl (.pure (.int _ _ _ _ _ rfl rfl rfl rfl)) rfl rfl ?_
    refine Ch.nil ?_
    refine T_seq ?_
    refine T_cond (b := (decide (((m : Nat) : Int) < (((metIt x k).length : Nat) : Int)))) rfl (fun h4 => ?_) (fun h4 => ?_)
    · replace h4 := of_decide_eq_true h4
      refine T_skip ?_
      refine T_seq ?_
      refine T_block ?_
      refine T_seq ?_
      refine T_region hc ?_
      refine Ch.step (v := (.el 3 1 m 0)) rfl (.pure (.idxRow _ _ _ 4 (m) rfl Try.underlying147 sz4 rfl rfl rfl rfl (by first | omega | (simp only [List.length_map, List.length_set]; omega) | (simp; omega)))) rfl rfl ?_
      refine Ch.step (v := (.d (.bool (((metIt x k).getD m default))))) rfl (.pure (.loadEl1 _ _ rfl ag4 rfl rfl (get_map _ (by first | omega | (simp only [List.length_map, List.length_append, List.length_take, List.length_drop, List.length_cons, List.length_nil]; omega) | (simp; omega) | (simp; done))) rfl rfl rfl)) rfl rfl ?_
      refine Ch.step (v := (.d (.bool (((metIt x k).getD m default))))) rfl (.pure (.assign _ rfl rfl)) rfl rfl ?_
      refine Ch.nil ?_
      refine T_seq ?_
      refine T_region hc ?_
      refine Ch.step (v := (.d (.bool (((metIt x k).getD m default))))) rfl (.pure (.move _ rfl rfl)) rfl rfl ?_
      refine Ch.step (v := (.d (.bool (!(((metIt x k).getD m default)))))) rfl (.pure (.not _ _ rfl rfl)) rfl rfl ?_
      refine Ch.nil ?_
      refine T_cond (b := (!(((metIt x k).getD m default)))) rfl (fun h5 => ?_) (fun h5 => ?_)
      · replace h5 := nott h5
        refine T_seq ?_
        refine T_region hc ?_
        refine Ch.step (v := (.d (.bool false))) rfl (.pure (.assign _ rfl rfl)) rfl rfl ?_
        refine Ch.nil ?_
        refine T_ret ?_
        refine And.intro (.inr rfl) ?_
        exact Exists.intro [(.d (.bool false))] (Exists.intro [] (Exists.intro [] (And.intro (.cons (.tmp 2 rfl) .nil) (And.intro (.cons (.any _) .nil) (And.intro (Exp.of (congrArg D.bool (by first | (exact met_no hn hen (k := k) (by omega) m (by omega) (by assumption)) | (exact met_yes hn hen (k := k) (by omega) (fun j hj => hp2.2 j (by clear hp2; omega))) | (have hge : x.codes.length ≤ m := (by omega); exact met_yes hn hen (k := k) (by omega) (fun j hj => hp2.2 j (Nat.lt_of_lt_of_le hj hge))))) (.d _)) (And.intro rfl rfl))))))
      · replace h5 := notf h5
        refine T_skip ?_
        refine T_region hc ?_
        refine Ch.step (v := (.d (.int .i64 (((m : Nat) : Int) + 1)))) rfl (.pure (.int _ _ _ _ _ rfl rfl rfl (intV_add (by first | omega | (simp only [List.length_map, List.length_append, List.length_take, List.length_drop, List.length_cons, List.length_nil]; omega) | (simp; omega) | (simp; done)) (by first | omega | (simp only [List.length_map, List.length_append, List.length_take, List.length_drop, List.length_cons, List.length_nil]; omega) | (simp; omega) | (simp; done))))) rfl rfl ?_
        refine Ch.step (v := (.d (.int .i64 (((m : Nat) : Int) + 1)))) rfl (.pure (.move _ rfl rfl)) rfl rfl ?_
        refine Ch.nil ?_
        refine Exists.intro (m + 1) (And.intro ⟨by omega, upto_succ hp2.2 (by assumption)⟩ (And.intro (by first | omega | (dsimp only; omega)) (Wk.of rfl rfl (And.intro rfl (And.intro rfl (And.intro (vI (by first | rfl | omega | (simp; done) | (simp; omega))) trivial))) (And.intro rfl trivial))))
    · replace h4 := of_decide_eq_false h4
      refine T_exit ?_
      refine T_seq ?_
      refine T_region hc ?_
      refine Ch.step (v := (.d (.bool true))) rfl (.pure (.assign _ rfl rfl)) rfl rfl ?_
      refine Ch.nil ?_
      refine T_ret ?_
      refine And.intro (.inr rfl) ?_
      exact Exists.intro [(.d (.bool true))] (Exists.intro [] (Exists.intro [] (And.intro (.cons (.tmp 2 rfl) .nil) (And.intro (.cons (.any _) .nil) (And.intro (Exp.of (congrArg D.bool (by first | (exact met_no hn hen (k := k) (by omega) m (by omega) (by assumption)) | (exact met_yes hn hen (k := k) (by omega) (fun j hj => hp2.2 j (by clear hp2; omega))) | (have hge : x.codes.length ≤ m := (by omega); exact met_yes hn hen (k := k) (by omega) (fun j hj => hp2.2 j (Nat.lt_of_lt_of_le hj hge))))) (.d _)) (And.intro rfl rfl))))))

set_option maxHeartbeats 2000000 in
theorem sp_spec_l5Good (x : Sgr) (hb : x.bulk ≤ 1048576) : Sp Try.prog 78 [(.agg [(.slice false 2 (x.sigs.map Sgn.d)), (.slice false 1 (x.codes.map D.str)), (.slice false 4 (x.arcs.map Arc.d))])] [.any] (.bool (sgB x)) := by
  refine Sp_intro (lend := true) Try.func78 rfl rfl rfl (fun _ => rfl) (fun c hc hX => ?_)
  obtain ⟨hp0, hp1, hp2⟩ := Sgr.parts hb
  have hn0 := bulkF_len hp0
  have hn1 := bulk_len hp1
  have hx1 := bulk_mem hp1
  have hn2 := bulkF_len hp2
  refine T_seq ?_
  refine T_region hc ?_
  refine Ch.step (v := (.ptr 1000 0)) rfl (.box 1000 _ _ rfl (.aggD _)) rfl rfl ?_
  refine Ch.step (v := (.d (.bool false))) rfl (.pure (.assign _ rfl rfl)) rfl rfl ?_
  refine Ch.nil ?_
  refine T_seq ?_
  refine T_seq ?_
  refine T_region hc ?_
  refine Ch.step (v := (.ptr 1000 0)) rfl (.pure (.fldPtr _ _ _ rfl fld52_0 rfl)) rfl rfl ?_
  refine Ch.step (v := (.d (.slice false 2 (x.sigs.map Sgn.d)))) rfl (.pure (.loadPtr1 _ _ rfl ag29 rfl rfl rfl)) rfl rfl ?_
  refine Ch.step (v := (.d (.bool (sigsB x.sigs)))) rfl (.call 9000 104 _ _ _ en104 rfl (.inl rfl) (.cons (.d _) .nil) rfl rfl (sp_spec_l2Signals x.sigs (by first | assumption | omega | (rw [List.length_take]; omega) | (have := bulkF_mem hb _ (getD_mem (d := default) (by omega)); assumption) | (unfold bulkS at *; omega) | (simp_all; done))) (.skip _ _ .nil) rfl) rfl rfl ?_
  refine Ch.step (v := (.d (.bool (!(sigsB x.sigs))))) rfl (.pure (.not _ _ rfl rfl)) rfl rfl ?_
  refine Ch.step (v := (.d (.bool (!(sigsB x.sigs))))) rfl (.pure (.move _ rfl rfl)) rfl rfl ?_
  cases h1 : (sigsB x.sigs) with
  | true =>
    try have hs8 := within_two (sigsB_len h1)
    refine Ch.step (v := (.ptr 1000 1)) rfl (.pure (.fldPtr _ _ _ rfl fld52_1 rfl)) rfl rfl ?_
    refine Ch.step (v := (.d (.slice false 1 (x.codes.map D.str)))) rfl (.pure (.loadPtr1 _ _ rfl ag43 rfl rfl rfl)) rfl rfl ?_
    refine Ch.step (v := (.d (.int .i64 ((x.codes.length : Nat) : Int)))) rfl (.pure (.len _ _ 9 rfl Try.underlying43 (.sh _ _) (by simp))) rfl rfl ?_
    refine Ch.step (v := (.d (.bool (withinB ((x.codes.length : Nat) : Int) 1 300)))) rfl (.call 15000 51 _ _ _ en51 rfl (.inl rfl) (.cons (.d _) (.cons (.d _) (.cons (.d _) .nil))) rfl rfl (sp_spec_l1In ((x.codes.length : Nat) : Int) 1 300) (.skip _ _ (.skip _ _ (.skip _ _ .nil))) rfl) rfl rfl ?_
    refine Ch.step (v := (.d (.bool (!(withinB ((x.codes.length : Nat) : Int) 1 300))))) rfl (.pure (.not _ _ rfl rfl)) rfl rfl ?_
    refine Ch.step (v := (.d (.bool (!(withinB ((x.codes.length : Nat) : Int) 1 300))))) rfl (.pure (.pickF _ _ _ rfl rfl rfl)) rfl rfl ?_
    refine Ch.step (v := (.d (.bool (!(withinB ((x.codes.length : Nat) : Int) 1 300))))) rfl (.pure (.move _ rfl rfl)) rfl rfl ?_
    cases h2 : (withinB ((x.codes.length : Nat) : Int) 1 300) with
    | true =>
      try have hw2 := within_two h2
      refine Ch.step (v := (.ptr 1000 2)) rfl (.pure (.fldPtr _ _ _ rfl fld52_2 rfl)) rfl rfl ?_
      refine Ch.step (v := (.d (.slice false 4 (x.arcs.map Arc.d)))) rfl (.pure (.loadPtr1 _ _ rfl ag50 rfl rfl rfl)) rfl rfl ?_
      refine Ch.step (v := (.d (.int .i64 ((x.arcs.length : Nat) : Int)))) rfl (.pure (.len _ _ 102 rfl Try.underlying50 (.sh _ _) (by simp))) rfl rfl ?_
      refine Ch.step (v := (.d (.bool (decide (4000 < ((x.arcs.length : Nat) : Int)))))) rfl (.pure (.int _ _ _ _ _ rfl rfl rfl rfl)) rfl rfl ?_
      refine Ch.step (v := (.d (.bool (decide (4000 < ((x.arcs.length : Nat) : Int)))))) rfl (.pure (.pickF _ _ _ rfl rfl rfl)) rfl rfl ?_
      refine Ch.nil ?_
      refine T_cond (b := (decide (4000 < ((x.arcs.length : Nat) : Int)))) rfl (fun h3 => ?_) (fun h3 => ?_)
      · replace h3 := of_decide_eq_true h3
        refine T_seq ?_
        refine T_region hc ?_
        refine Ch.step (v := (.d (.bool false))) rfl (.pure (.assign _ rfl rfl)) rfl rfl ?_
        refine Ch.nil ?_
        refine T_ret ?_
        refine And.intro (.inr rfl) ?_
        exact Exists.intro [(.d (.bool false))] (Exists.intro [] (Exists.intro [] (And.intro (.cons (.tmp 2 rfl) .nil) (And.intro (.cons (.any _) .nil) (And.intro (Exp.of (congrArg D.bool (by first | (rw [sgB, h1]; rfl) | (rw [sgB, h1, h2]; rfl) | (rw [sgB, h1, h2, decide_eq_true (by omega)]; rfl) | (exact (sg_no_code (k := k) (by omega) (by assumption)).symm) | (exact (sg_no_arc (k := m) (by omega) (by first | assumption | (unfold arcB codeAt; simp_all; done))).symm) | (rw [← sg_end h1 h2 (by omega) hcl hal]; done) | (exact sg_end h1 h2 (by omega) hcl hal))) (.d _)) (And.intro rfl rfl))))))
      · replace h3 := of_decide_eq_false h3
        refine T_skip ?_
        refine T_seq ?_
        refine T_seq ?_
        refine T_region hc ?_
        refine Ch.step (v := (.ptr 1000 1)) rfl (.pure (.fldPtr _ _ _ rfl fld52_1 rfl)) rfl rfl ?_
        refine Ch.step (v := (.d (.slice false 1 (x.codes.map D.str)))) rfl (.pure (.loadPtr1 _ _ rfl ag43 rfl rfl rfl)) rfl rfl ?_
        refine Ch.step (v := (.d (.int .i64 ((x.codes.length : Nat) : Int)))) rfl (.pure (.len _ _ 9 rfl Try.underlying43 (.sh _ _) (by simp))) rfl rfl ?_
        refine Ch.step (v := (.d (.int .i64 0))) rfl (.pure (.move _ rfl rfl)) rfl rfl ?_
        refine Ch.nil ?_
        refine T_block ?_
        refine T_loop (ι := Nat) (fun k => { n := 52, sl := [(1, (.ptr 1000 0)), (25, (.d (.slice false 1 (x.codes.map D.str)))), (26, (.d (.int .i64 ((x.codes.length : Nat) : Int)))), (27, (.d (.int .i64 ((k : Nat) : Int))))], hp := [(1000, (some (.box [(.d (.slice false 2 (x.sigs.map Sgn.d))), (.d (.slice false 1 (x.codes.map D.str))), (.d (.slice false 4 (x.arcs.map Arc.d)))])))], pin := [] }) (fun k => k ≤ x.codes.length ∧ ∀ j, j < k → codeN (x.codes.getD j default) (x.sigs.length : Int) = true) (fun k => x.codes.length - k) ⟨0, ⟨by omega, fun j hj => by omega⟩, (Wk.of rfl rfl (And.intro rfl (And.intro rfl (And.intro rfl (And.intro (vI (by first | rfl | omega | (simp; done) | (simp; omega))) trivial)))) (And.intro rfl trivial))⟩ (fun k hp0 => ?_)
        refine T_seq ?_
        refine T_region hc ?_
        refine Ch.step (v := (.d (.bool (decide (((k : Nat) : Int) < ((x.codes.length : Nat) : Int)))))) rfl (.pure (.int _ _ _ _ _ rfl rfl rfl rfl)) rfl rfl ?_
        refine Ch.nil ?_
        refine T_seq ?_
        refine T_cond (b := (decide (((k : Nat) : Int) < ((x.codes.length : Nat) : Int)))) rfl (fun h4 => ?_) (fun h4 => ?_)
        · replace h4 := of_decide_eq_true h4
          try have hcl := sg_codes (x := x) (k := k) (by omega) hp0.2
          try have hca := codes_at hcl
          refine T_skip ?_
          refine T_seq ?_
          refine T_block ?_
          refine T_seq ?_
          refine T_region hc ?_
          refine Ch.step (v := (.d (.ref (.str (x.codes.getD k default))))) rfl (.pure (.idx _ _ _ 9 (k) rfl Try.underlying43 sz9 rfl rfl rfl (get_map _ (by first | omega | (simp only [List.length_map, List.length_append, List.length_take, List.length_drop, List.length_cons, List.length_nil]; omega) | (simp; omega) | (simp; done))))) rfl rfl ?_
          refine Ch.step (v := (.d (.str (x.codes.getD k default)))) rfl (.pure (.loadRef1 _ _ rfl ag9 rfl rfl)) rfl rfl ?_
          refine Ch.step (v := (.d (.str (x.codes.getD k default)))) rfl (.pure (.assign _ rfl rfl)) rfl rfl ?_
          refine Ch.nil ?_
          refine T_seq ?_
          refine T_region hc ?_
          refine Ch.step (v := (.d (.str (x.codes.getD k default)))) rfl (.pure (.move _ rfl rfl)) rfl rfl ?_
          refine Ch.step (v := (.ptr 1000 0)) rfl (.pure (.fldPtr _ _ _ rfl fld52_0 rfl)) rfl rfl ?_
          refine Ch.step (v := (.d (.slice false 2 (x.sigs.map Sgn.d)))) rfl (.pure (.loadPtr1 _ _ rfl ag29 rfl rfl rfl)) rfl rfl ?_
          refine Ch.step (v := (.d (.int .i64 ((x.sigs.length : Nat) : Int)))) rfl (.pure (.len _ _ 97 rfl Try.underlying29 (.sh _ _) (by simp))) rfl rfl ?_
          refine Ch.step (v := (.d (.bool (codeN (x.codes.getD k default) ((x.sigs.length : Nat) : Int))))) rfl (.call 35000 50 _ _ _ en50 rfl (.inl rfl) (.cons (.d _) (.cons (.d _) .nil)) rfl rfl (sp_spec_l5Code (x.codes.getD k default) ((x.sigs.length : Nat) : Int) (by first | omega | assumption | (exact hx _ (getD_mem (by omega))) | (exact hx _ (by assumption)) | (exact Nat.le_trans (hx _ (by assumption)) (by omega)) | (simp only [List.length_append, List.length_take, List.length_drop, List.length_cons, List.length_nil]; omega) | (simp_all; done))) (.skip _ _ (.skip _ _ .nil)) rfl) rfl rfl ?_
          refine Ch.step (v := (.d (.bool (!(codeN (x.codes.getD k default) ((x.sigs.length : Nat) : Int)))))) rfl (.pure (.not _ _ rfl rfl)) rfl rfl ?_
          refine Ch.nil ?_
          refine T_cond (b := (!(codeN (x.codes.getD k default) ((x.sigs.length : Nat) : Int)))) rfl (fun h5 => ?_) (fun h5 => ?_)
          · replace h5 := nott h5
            refine T_seq ?_
            refine T_region hc ?_
            refine Ch.step (v := (.d (.bool false))) rfl (.pure (.assign _ rfl rfl)) rfl rfl ?_
            refine Ch.nil ?_
            refine T_ret ?_
            refine And.intro (.inr rfl) ?_
            exact Exists.intro [(.d (.bool false))] (Exists.intro [] (Exists.intro [] (And.intro (.cons (.tmp 2 rfl) .nil) (And.intro (.cons (.any _) .nil) (And.intro (Exp.of (congrArg D.bool (by first | (rw [sgB, h1]; rfl) | (rw [sgB, h1, h2]; rfl) | (rw [sgB, h1, h2, decide_eq_true (by omega)]; rfl) | (exact (sg_no_code (k := k) (by omega) (by assumption)).symm) | (exact (sg_no_arc (k := m) (by omega) (by first | assumption | (unfold arcB codeAt; simp_all; done))).symm) | (rw [← sg_end h1 h2 (by omega) hcl hal]; done) | (exact sg_end h1 h2 (by omega) hcl hal))) (.d _)) (And.intro rfl rfl))))))
          · replace h5 := notf h5
            refine T_skip ?_
            refine T_region hc ?_
            refine Ch.step (v := (.d (.int .i64 (((k : Nat) : Int) + 1)))) rfl (.pure (.int _ _ _ _ _ rfl rfl rfl (intV_add (by first | omega | (simp only [List.length_map, List.length_append, List.length_take, List.length_drop, List.length_cons, List.length_nil]; omega) | (simp; omega) | (simp; done)) (by first | omega | (simp only [List.length_map, List.length_append, List.length_take, List.length_drop, List.length_cons, List.length_nil]; omega) | (simp; omega) | (simp; done))))) rfl rfl ?_
            refine Ch.step (v := (.d (.int .i64 (((k : Nat) : Int) + 1)))) rfl (.pure (.move _ rfl rfl)) rfl rfl ?_
            refine Ch.nil ?_
            refine Exists.intro (k + 1) (And.intro ⟨by omega, upto_succ hp0.2 (by assumption)⟩ (And.intro (by first | omega | (dsimp only; omega)) (Wk.of rfl rfl (And.intro rfl (And.intro rfl (And.intro rfl (And.intro (vI (by first | rfl | omega | (simp; done) | (simp; omega))) trivial)))) (And.intro rfl trivial))))
        · replace h4 := of_decide_eq_false h4
          try have hcl := sg_codes (x := x) (k := k) (by omega) hp0.2
          try have hca := codes_at hcl
          refine T_exit ?_
          refine T_seq ?_
          refine T_seq ?_
          refine T_region hc ?_
          refine Ch.step (v := (.ptr 1000 2)) rfl (.pure (.fldPtr _ _ _ rfl fld52_2 rfl)) rfl rfl ?_
          refine Ch.step (v := (.d (.slice false 4 (x.arcs.map Arc.d)))) rfl (.pure (.loadPtr1 _ _ rfl ag50 rfl rfl rfl)) rfl rfl ?_
          refine Ch.step (v := (.d (.int .i64 ((x.arcs.length : Nat) : Int)))) rfl (.pure (.len _ _ 102 rfl Try.underlying50 (.sh _ _) (by simp))) rfl rfl ?_
          refine Ch.step (v := (.d (.int .i64 0))) rfl (.pure (.move _ rfl rfl)) rfl rfl ?_
          refine Ch.nil ?_
          refine T_block ?_
          refine T_loop (ι := Nat) (fun m => { n := 52, sl := [(1, (.ptr 1000 0)), (39, (.d (.slice false 4 (x.arcs.map Arc.d)))), (40, (.d (.int .i64 ((x.arcs.length : Nat) : Int)))), (41, (.d (.int .i64 ((m : Nat) : Int))))], hp := [(1000, (some (.box [(.d (.slice false 2 (x.sigs.map Sgn.d))), (.d (.slice false 1 (x.codes.map D.str))), (.d (.slice false 4 (x.arcs.map Arc.d)))])))], pin := [] }) (fun m => m ≤ x.arcs.length ∧ ∀ j, j < m → arcB x (x.arcs.getD j default) = true) (fun m => x.arcs.length - m) ⟨0, ⟨by omega, fun j hj => by omega⟩, (Wk.of rfl rfl (And.intro rfl (And.intro rfl (And.intro rfl (And.intro (vI (by first | rfl | omega | (simp; done) | (simp; omega))) trivial)))) (And.intro rfl trivial))⟩ (fun m hp1 => ?_)
          refine T_seq ?_
          refine T_region hc ?_
          refine Ch.step (v := (.d (.bool (decide (((m : Nat) : Int) < ((x.arcs.length : Nat) : Int)))))) rfl (.pure (.int _ _ _ _ _ rfl rfl rfl rfl)) rfl rfl ?_
          refine Ch.nil ?_
          refine T_seq ?_
          refine T_cond (b := (decide (((m : Nat) : Int) < ((x.arcs.length : Nat) : Int)))) rfl (fun h6 => ?_) (fun h6 => ?_)
          · replace h6 := of_decide_eq_true h6
            try have hal := sg_arcs (x := x) (k := m) (by omega) hp1.2
            try have hen := arc_ends hal
            try have hse := steps_ends hen
            try have hsl := stepsOf_len x.arcs
            try have hdl := distF_len (n := x.codes.length) (s := 0) (by omega) hse
            refine T_skip ?_
            refine T_seq ?_
            refine T_block ?_
            refine T_seq ?_
            refine T_region hc ?_
            refine Ch.step (v := (.d (.ref (.agg [(.int .i64 ((x.arcs.getD m default).src)), (.int .i64 ((x.arcs.getD m default).sig)), (.bool ((x.arcs.getD m default).up)), (.int .i64 ((x.arcs.getD m default).dst))])))) rfl (.pure (.idx _ _ _ 102 (m) rfl Try.underlying50 sz102 rfl rfl rfl (get_map _ (by first | omega | (simp only [List.length_map, List.length_append, List.length_take, List.length_drop, List.length_cons, List.length_nil]; omega) | (simp; omega) | (simp; done))))) rfl rfl ?_
            refine Ch.step (v := (.d (.agg [(.int .i64 ((x.arcs.getD m default).src)), (.int .i64 ((x.arcs.getD m default).sig)), (.bool ((x.arcs.getD m default).up)), (.int .i64 ((x.arcs.getD m default).dst))]))) rfl (.pure (.loadRefA _ _ rfl ag102 sz102 rfl)) rfl rfl ?_
            refine Ch.step (v := (.ptr 6000 0)) rfl (.alloc 6000 _ rfl zer102) rfl rfl ?_
            refine Ch.step (v := .junk) rfl (.storePtr _ _ _ rfl rfl rfl (.aggD _) sz102 (Nat.le_of_ble_eq_true rfl)) rfl rfl ?_
            refine Ch.nil ?_
            refine T_seq ?_
            refine T_region hc ?_
            refine Ch.step (v := (.agg [(.d (.slice false 2 (x.sigs.map Sgn.d))), (.d (.slice false 1 (x.codes.map D.str))), (.d (.slice false 4 (x.arcs.map Arc.d)))])) rfl (.pure (.loadPtrA _ _ rfl ag52 sz52 rfl rfl (Nat.le_of_ble_eq_true rfl) rfl)) rfl rfl ?_
            refine Ch.step (v := (.agg [(.d (.int .i64 ((x.arcs.getD m default).src))), (.d (.int .i64 ((x.arcs.getD m default).sig))), (.d (.bool ((x.arcs.getD m default).up))), (.d (.int .i64 ((x.arcs.getD m default).dst)))])) rfl (.pure (.loadPtrA _ _ rfl ag102 sz102 rfl rfl (Nat.le_of_ble_eq_true rfl) rfl)) rfl rfl ?_
            refine Ch.step (v := (.d (.bool (arcB x (x.arcs.getD m default))))) rfl (.call 47000 128 _ _ _ en128 rfl (.inl rfl) (.cons (.lend (.agg (.cons (.d _) (.cons (.d _) (.cons (.d _) .nil))) rfl)) (.cons (.lend (.agg (.cons (.d _) (.cons (.d _) (.cons (.d _) (.cons (.d _) .nil)))) rfl)) .nil)) rfl rfl (sp_spec_l5Arc x (x.arcs.getD m default) (by first | assumption | omega | (rw [List.length_take]; omega) | (have := bulkF_mem hb _ (getD_mem (d := default) (by omega)); assumption) | (unfold bulkS at *; omega) | (simp_all; done)) (by first | assumption | omega | (rw [List.length_take]; omega) | (have := bulkF_mem hb _ (getD_mem (d := default) (by omega)); assumption) | (unfold bulkS at *; omega) | (simp_all; done)) (by assumption)) (.skip _ _ (.skip _ _ .nil)) rfl) rfl rfl ?_
            refine Ch.step (v := (.d (.bool (!(arcB x (x.arcs.getD m default)))))) rfl (.pure (.not _ _ rfl rfl)) rfl rfl ?_
            refine Ch.nil ?_
            refine T_cond (b := (!(arcB x (x.arcs.getD m default)))) rfl (fun h7 => ?_) (fun h7 => ?_)
            · replace h7 := nott h7
              refine T_seq ?_
              refine T_region hc ?_
              refine Ch.step (v := (.d (.bool false))) rfl (.pure (.assign _ rfl rfl)) rfl rfl ?_
              refine Ch.nil ?_
              refine T_ret ?_
              refine And.intro (.inr rfl) ?_
              exact Exists.intro [(.d (.bool false))] (Exists.intro [] (Exists.intro [] (And.intro (.cons (.tmp 2 rfl) .nil) (And.intro (.cons (.any _) .nil) (And.intro (Exp.of (congrArg D.bool (by first | (rw [sgB, h1]; rfl) | (rw [sgB, h1, h2]; rfl) | (rw [sgB, h1, h2, decide_eq_true (by omega)]; rfl) | (exact (sg_no_code (k := k) (by omega) (by assumption)).symm) | (exact (sg_no_arc (k := m) (by omega) (by first | assumption | (unfold arcB codeAt; simp_all; done))).symm) | (rw [← sg_end h1 h2 (by omega) hcl hal]; done) | (exact sg_end h1 h2 (by omega) hcl hal))) (.d _)) (And.intro rfl rfl))))))
            · replace h7 := notf h7
              refine T_skip ?_
              refine T_region hc ?_
              refine Ch.step (v := (.d (.int .i64 (((m : Nat) : Int) + 1)))) rfl (.pure (.int _ _ _ _ _ rfl rfl rfl (intV_add (by first | omega | (simp only [List.length_map, List.length_append, List.length_take, List.length_drop, List.length_cons, List.length_nil]; omega) | (simp; omega) | (simp; done)) (by first | omega | (simp only [List.length_map, List.length_append, List.length_take, List.length_drop, List.length_cons, List.length_nil]; omega) | (simp; omega) | (simp; done))))) rfl rfl ?_
              refine Ch.step (v := (.d (.int .i64 (((m : Nat) : Int) + 1)))) rfl (.pure (.move _ rfl rfl)) rfl rfl ?_
              refine Ch.nil ?_
              refine Exists.intro (m + 1) (And.intro ⟨by omega, upto_succ hp1.2 (by first | assumption | (unfold arcB codeAt; simp_all; done))⟩ (And.intro (by first | omega | (dsimp only; omega)) (Wk.of rfl rfl (And.intro rfl (And.intro rfl (And.intro rfl (And.intro (vI (by first | rfl | omega | (simp; done) | (simp; omega))) trivial)))) (And.intro rfl trivial))))
          · replace h6 := of_decide_eq_false h6
            try have hal := sg_arcs (x := x) (k := m) (by omega) hp1.2
            try have hen := arc_ends hal
            try have hse := steps_ends hen
            try have hsl := stepsOf_len x.arcs
            try have hdl := distF_len (n := x.codes.length) (s := 0) (by omega) hse
            refine T_exit ?_
            refine T_seq ?_
            refine T_region hc ?_
            refine Ch.step (v := (.agg [(.d (.slice false 2 (x.sigs.map Sgn.d))), (.d (.slice false 1 (x.codes.map D.str))), (.d (.slice false 4 (x.arcs.map Arc.d)))])) rfl (.pure (.loadPtrA _ _ rfl ag52 sz52 rfl rfl (Nat.le_of_ble_eq_true rfl) rfl)) rfl rfl ?_
            refine Ch.step (v := (.d (.bool (!hasI (distF x.codes.length (stepsOf x.arcs) 0) (-1))))) rfl (.call 51000 129 _ _ _ en129 rfl (.inl rfl) (.cons (.lend (.agg (.cons (.d _) (.cons (.d _) (.cons (.d _) .nil))) rfl)) .nil) rfl rfl (sp_spec_l5All x (by first | assumption | omega | (rw [List.length_take]; omega) | (have := bulkF_mem hb _ (getD_mem (d := default) (by omega)); assumption) | (unfold bulkS at *; omega) | (simp_all; done)) (by first | assumption | omega | (rw [List.length_take]; omega) | (have := bulkF_mem hb _ (getD_mem (d := default) (by omega)); assumption) | (unfold bulkS at *; omega) | (simp_all; done)) (by assumption)) (.skip _ _ .nil) rfl) rfl rfl ?_
            refine Ch.step (v := (.d (.bool (!hasI (distF x.codes.length (stepsOf x.arcs) 0) (-1))))) rfl (.pure (.assign _ rfl rfl)) rfl rfl ?_
            refine Ch.nil ?_
            refine T_ret ?_
            refine And.intro (.inr rfl) ?_
            exact Exists.intro [(.d (.bool (!hasI (distF x.codes.length (stepsOf x.arcs) 0) (-1))))] (Exists.intro [] (Exists.intro [] (And.intro (.cons (.tmp 2 rfl) .nil) (And.intro (.cons (.any _) .nil) (And.intro (Exp.of (congrArg D.bool (by first | (rw [sgB, h1]; rfl) | (rw [sgB, h1, h2]; rfl) | (rw [sgB, h1, h2, decide_eq_true (by omega)]; rfl) | (exact (sg_no_code (k := k) (by omega) (by assumption)).symm) | (exact (sg_no_arc (k := m) (by omega) (by first | assumption | (unfold arcB codeAt; simp_all; done))).symm) | (rw [← sg_end h1 h2 (by omega) hcl hal]; done) | (exact sg_end h1 h2 (by omega) hcl hal))) (.d _)) (And.intro rfl rfl))))))
    | false =>
      try have hw2 := within_two h2
      refine Ch.skip rfl rfl ?_
      refine Ch.skip rfl rfl ?_
      refine Ch.skip rfl rfl ?_
      refine Ch.skip rfl rfl ?_
      refine Ch.step (v := (.d (.bool true))) rfl (.pure (.pickT _ _ _ rfl rfl rfl)) rfl rfl ?_
      refine Ch.nil ?_
      refine T_cond (b := true) rfl (fun _ => ?_) (fun h => nomatch h)
      refine T_seq ?_
      refine T_region hc ?_
      refine Ch.step (v := (.d (.bool false))) rfl (.pure (.assign _ rfl rfl)) rfl rfl ?_
      refine Ch.nil ?_
      refine T_ret ?_
      refine And.intro (.inr rfl) ?_
      exact Exists.intro [(.d (.bool false))] (Exists.intro [] (Exists.intro [] (And.intro (.cons (.tmp 2 rfl) .nil) (And.intro (.cons (.any _) .nil) (And.intro (Exp.of (congrArg D.bool (by first | (rw [sgB, h1]; rfl) | (rw [sgB, h1, h2]; rfl) | (rw [sgB, h1, h2, decide_eq_true (by omega)]; rfl) | (exact (sg_no_code (k := k) (by omega) (by assumption)).symm) | (exact (sg_no_arc (k := m) (by omega) (by first | assumption | (unfold arcB codeAt; simp_all; done))).symm) | (rw [← sg_end h1 h2 (by omega) hcl hal]; done) | (exact sg_end h1 h2 (by omega) hcl hal))) (.d _)) (And.intro rfl rfl))))))
  | false =>
    try have hs8 := within_two (sigsB_len h1)
    refine Ch.skip rfl rfl ?_
    refine Ch.skip rfl rfl ?_
    refine Ch.skip rfl rfl ?_
    refine Ch.skip rfl rfl ?_
    refine Ch.skip rfl rfl ?_
    refine Ch.step (v := (.d (.bool true))) rfl (.pure (.pickT _ _ _ rfl rfl rfl)) rfl rfl ?_
    refine Ch.step (v := (.d (.bool true))) rfl (.pure (.move _ rfl rfl)) rfl rfl ?_
    refine Ch.skip rfl rfl ?_
    refine Ch.skip rfl rfl ?_
    refine Ch.skip rfl rfl ?_
    refine Ch.skip rfl rfl ?_
    refine Ch.step (v := (.d (.bool true))) rfl (.pure (.pickT _ _ _ rfl rfl rfl)) rfl rfl ?_
    refine Ch.nil ?_
    refine T_cond (b := true) rfl (fun _ => ?_) (fun h => nomatch h)
    refine T_seq ?_
    refine T_region hc ?_
    refine Ch.step (v := (.d (.bool false))) rfl (.pure (.assign _ rfl rfl)) rfl rfl ?_
    refine Ch.nil ?_
    refine T_ret ?_
    refine And.intro (.inr rfl) ?_
    exact Exists.intro [(.d (.bool false))] (Exists.intro [] (Exists.intro [] (And.intro (.cons (.tmp 2 rfl) .nil) (And.intro (.cons (.any _) .nil) (And.intro (Exp.of (congrArg D.bool (by first | (rw [sgB, h1]; rfl) | (rw [sgB, h1, h2]; rfl) | (rw [sgB, h1, h2, decide_eq_true (by omega)]; rfl) | (exact (sg_no_code (k := k) (by omega) (by assumption)).symm) | (exact (sg_no_arc (k := m) (by omega) (by first | assumption | (unfold arcB codeAt; simp_all; done))).symm) | (rw [← sg_end h1 h2 (by omega) hcl hal]; done) | (exact sg_end h1 h2 (by omega) hcl hal))) (.d _)) (And.intro rfl rfl))))))

theorem en80 : Enters Try.prog 80 := ⟨_, Try.func80, by kernel_rfl, rfl⟩

theorem en78 : Enters Try.prog 78 := ⟨_, Try.func78, by kernel_rfl, rfl⟩

theorem en123 : Enters Try.prog 123 := ⟨_, Try.func123, by kernel_rfl, rfl⟩

theorem en122 : Enters Try.prog 122 := ⟨_, Try.func122, by kernel_rfl, rfl⟩

theorem en72 : Enters Try.prog 72 := ⟨_, Try.func72, by kernel_rfl, rfl⟩

theorem en68 : Enters Try.prog 68 := ⟨_, Try.func68, by kernel_rfl, rfl⟩

theorem ag46 : AggIs Try.prog 46 true := by unfold AggIs; kernel_rfl

theorem sz46 : SizeIs Try.prog 46 3 := by unfold SizeIs; kernel_rfl

theorem en24 : Enters Try.prog 24 := ⟨_, Try.func24, by kernel_rfl, rfl⟩

theorem en26 : Enters Try.prog 26 := ⟨_, Try.func26, by kernel_rfl, rfl⟩

theorem en28 : Enters Try.prog 28 := ⟨_, Try.func28, by kernel_rfl, rfl⟩

structure SgOk (x : Sgr) : Prop where
  sigs : sigsB x.sigs = true
  eight : 1 ≤ x.sigs.length ∧ x.sigs.length ≤ 8
  len : 1 ≤ x.codes.length ∧ x.codes.length ≤ 300
  few : x.arcs.length ≤ 4000
  codes : allOf x.codes (fun u => codeN u (x.sigs.length : Int)) = true
  arcs : allOf x.arcs (arcB x) = true
  ends : ends x.codes.length x.arcs

theorem sg_has {x : Sgr} (h : sgB x = true) : SgOk x := by
  unfold sgB at h
  simp only [Bool.and_eq_true] at h
  obtain ⟨h1, h2, h3, h4, h5, _⟩ := h
  have h6 := within_iff h2
  have h7 := within_iff (sigsB_len h1)
  have h8 : ¬ (4000 : Int) < (x.arcs.length : Int) := by simpa using h3
  exact ⟨h1, by omega, by omega, by omega, h4, h5, arc_ends h5⟩

theorem SgOk.sig {x : Sgr} (h : SgOk x) : ∀ a ∈ x.arcs, a.sig < (x.sigs.length : Int) ∧ (0 ≤ a.sig ∨ a.sig = -1) := by
  intro a ha
  obtain ⟨j, hj, rfl⟩ := List.mem_iff_getElem.1 ha
  have := allB_true.1 h.arcs j hj
  rw [show x.arcs.getD j default = x.arcs[j] by simp [hj]] at this
  unfold arcB at this
  simp only [Bool.and_eq_true] at this
  have h2 := this.2.2.1
  unfold edgeB at h2
  simp only [Bool.or_eq_true, Bool.and_eq_true, decide_eq_true_iff] at h2
  have h8 := h.eight
  rcases h2 with h2 | h2
  · have := within_iff h2
    omega
  · have := h2.1
    omega

def isArc (k sig : Int) (a : Arc) : Bool := decide (a.src = k) && decide (a.sig = sig)

def excB (x : Sgr) (k sig : Int) : Bool := x.arcs.any (isArc k sig)

theorem sp_impl_isExcited_1 (a : Arc) (k sig : Int) : Sp Try.prog 123 [(.agg [(.int .i64 a.src), (.int .i64 a.sig), (.bool (a.up)), (.int .i64 a.dst)]), (.ref (.int .i64 k)), (.ref (.int .i64 sig))] [.any, .any, .any] (.bool (isArc k sig a)) := by
  refine Sp_intro (lend := true) Try.func123 rfl rfl rfl (fun _ => rfl) (fun c hc hX => ?_)
  refine T_seq ?_
  refine T_region hc ?_
  refine Ch.step (v := (.ptr 3000 0)) rfl (.box 3000 _ _ rfl (.aggD _)) rfl rfl ?_
  refine Ch.step (v := (.d (.bool false))) rfl (.pure (.assign _ rfl rfl)) rfl rfl ?_
  refine Ch.nil ?_
  refine T_seq ?_
  refine T_region hc ?_
  refine Ch.step (v := (.ptr 3000 0)) rfl (.pure (.fldPtr _ _ _ rfl fld102_0 rfl)) rfl rfl ?_
  refine Ch.step (v := (.d (.int .i64 a.src))) rfl (.pure (.loadPtr1 _ _ rfl ag3 rfl rfl rfl)) rfl rfl ?_
  refine Ch.step (v := (.d (.int .i64 k))) rfl (.pure (.loadRef1 _ _ rfl ag3 rfl rfl)) rfl rfl ?_
  refine Ch.step (v := (.d (.bool (decide (a.src = k))))) rfl (.pure (.int _ _ _ _ _ rfl rfl rfl rfl)) rfl rfl ?_
  refine Ch.step (v := (.d (.bool (decide (a.src = k))))) rfl (.pure (.move _ rfl rfl)) rfl rfl ?_
  cases h1 : (decide (a.src = k)) with
  | true =>
    replace h1 := of_decide_eq_true h1
    refine Ch.step (v := (.ptr 3000 1)) rfl (.pure (.fldPtr _ _ _ rfl fld102_1 rfl)) rfl rfl ?_
    refine Ch.step (v := (.d (.int .i64 a.sig))) rfl (.pure (.loadPtr1 _ _ rfl ag3 rfl rfl rfl)) rfl rfl ?_
    refine Ch.step (v := (.d (.int .i64 sig))) rfl (.pure (.loadRef1 _ _ rfl ag3 rfl rfl)) rfl rfl ?_
    refine Ch.step (v := (.d (.bool (decide (a.sig = sig))))) rfl (.pure (.int _ _ _ _ _ rfl rfl rfl rfl)) rfl rfl ?_
    refine Ch.step (v := (.d (.bool (decide (a.sig = sig))))) rfl (.pure (.pickT _ _ _ rfl rfl rfl)) rfl rfl ?_
    refine Ch.step (v := (.d (.bool (decide (a.sig = sig))))) rfl (.pure (.assign _ rfl rfl)) rfl rfl ?_
    refine Ch.nil ?_
    refine T_ret ?_
    refine And.intro (.inr rfl) ?_
    exact Exists.intro [(.d (.bool (decide (a.sig = sig))))] (Exists.intro [] (Exists.intro [] (And.intro (.cons (.tmp 4 rfl) .nil) (And.intro (.cons (.any _) (.cons (.any _) (.cons (.any _) .nil))) (And.intro (Exp.of (congrArg D.bool (by first | (simp only [isArc, *, decide_true, decide_false, Bool.and_true, Bool.true_and, Bool.and_false, Bool.false_and, Bool.or_false, Bool.false_or, Bool.or_true, Bool.true_or, Bool.not_true, Bool.not_false, not_false_eq_true, Bool.false_eq_true, if_true, if_false, reduceIte, ite_true, ite_false]; done) | (simp_all [isArc]; done))) (.d _)) (And.intro rfl rfl))))))
  | false =>
    replace h1 := of_decide_eq_false h1
    refine Ch.skip rfl rfl ?_
    refine Ch.skip rfl rfl ?_
    refine Ch.skip rfl rfl ?_
    refine Ch.skip rfl rfl ?_
    refine Ch.step (v := (.d (.bool false))) rfl (.pure (.pickF _ _ _ rfl rfl rfl)) rfl rfl ?_
    refine Ch.step (v := (.d (.bool false))) rfl (.pure (.assign _ rfl rfl)) rfl rfl ?_
    refine Ch.nil ?_
    refine T_ret ?_
    refine And.intro (.inr rfl) ?_
    exact Exists.intro [(.d (.bool false))] (Exists.intro [] (Exists.intro [] (And.intro (.cons (.tmp 4 rfl) .nil) (And.intro (.cons (.any _) (.cons (.any _) (.cons (.any _) .nil))) (And.intro (Exp.of (congrArg D.bool (by first | (simp only [isArc, *, decide_true, decide_false, Bool.and_true, Bool.true_and, Bool.and_false, Bool.false_and, Bool.or_false, Bool.false_or, Bool.or_true, Bool.true_or, Bool.not_true, Bool.not_false, not_false_eq_true, Bool.false_eq_true, if_true, if_false, reduceIte, ite_true, ite_false]; done) | (simp_all [isArc]; done))) (.d _)) (And.intro rfl rfl))))))

theorem sp_impl_isExcited (x : Sgr) (k sig : Int) (hb : x.bulk ≤ 1048576) : Sp Try.prog 72 [(.agg [(.slice false 2 (x.sigs.map Sgn.d)), (.slice false 1 (x.codes.map D.str)), (.slice false 4 (x.arcs.map Arc.d))]), (.int .i64 k), (.int .i64 sig)] [.any, .any, .any] (.bool (excB x k sig)) := by
  refine Sp_intro (lend := true) Try.func72 rfl rfl rfl (fun _ => rfl) (fun c hc hX => ?_)
  obtain ⟨hp0, hp1, hp2⟩ := Sgr.parts hb
  have hn0 := bulkF_len hp0
  have hn1 := bulk_len hp1
  have hx1 := bulk_mem hp1
  have hn2 := bulkF_len hp2
  refine T_seq ?_
  refine T_region hc ?_
  refine Ch.step (v := (.ptr 3000 0)) rfl (.box 3000 _ _ rfl (.aggD _)) rfl rfl ?_
  refine Ch.step (v := (.ptr 4000 0)) rfl (.box 4000 _ _ rfl (.one _ rfl)) rfl rfl ?_
  refine Ch.step (v := (.ptr 5000 0)) rfl (.box 5000 _ _ rfl (.one _ rfl)) rfl rfl ?_
  refine Ch.step (v := (.d (.bool false))) rfl (.pure (.assign _ rfl rfl)) rfl rfl ?_
  refine Ch.nil ?_
  refine T_seq ?_
  refine T_region hc ?_
  refine Ch.step (v := (.ptr 3000 2)) rfl (.pure (.fldPtr _ _ _ rfl fld52_2 rfl)) rfl rfl ?_
  refine Ch.step (v := (.d (.slice false 4 (x.arcs.map Arc.d)))) rfl (.pure (.loadPtr1 _ _ rfl ag50 rfl rfl rfl)) rfl rfl ?_
  refine Ch.step (v := (.fn 123 [(.ptr 4000 0), (.ptr 5000 0)])) rfl (.pure (.func _ _ rfl rfl)) rfl rfl ?_
  refine Ch.step (v := (.d (.bool (x.arcs.any (isArc k sig))))) rfl (.call 10000 122 _ _ _ en122 rfl (.inl rfl) (.cons (.d _) (.cons (.lend (.fn (.cons (.ptr rfl (.one (.d _) rfl)) (.cons (.ptr rfl (.one (.d _) rfl)) .nil)))) .nil)) rfl rfl (sp_ContainsFunc_arc x.arcs 123 [(.ref (.int .i64 k)), (.ref (.int .i64 sig))] (isArc k sig) en123 (fun a ha => sp_impl_isExcited_1 a k sig) (by first | omega | assumption | (exact hx _ (getD_mem (by omega))) | (exact hx _ (by assumption)) | (exact Nat.le_trans (hx _ (by assumption)) (by omega)) | (simp only [List.length_append, List.length_take, List.length_drop, List.length_cons, List.length_nil]; omega) | (simp_all; done))) (.skip _ _ (.skip _ _ .nil)) rfl) rfl rfl ?_
  refine Ch.step (v := (.d (.bool (x.arcs.any (isArc k sig))))) rfl (.pure (.assign _ rfl rfl)) rfl rfl ?_
  refine Ch.nil ?_
  refine T_ret ?_
  refine And.intro (.inr rfl) ?_
  exact Exists.intro [(.d (.bool (x.arcs.any (isArc k sig))))] (Exists.intro [] (Exists.intro [] (And.intro (.cons (.tmp 6 rfl) .nil) (And.intro (.cons (.any _) (.cons (.any _) (.cons (.any _) .nil))) (And.intro (Exp.of (congrArg D.bool (by rfl)) (.d _)) (And.intro rfl rfl))))))

theorem sp_spec_l5Excited (x : Sgr) (k sig : Int) (hb : x.bulk ≤ 1048576) : Sp Try.prog 68 [(.agg [(.slice false 2 (x.sigs.map Sgn.d)), (.slice false 1 (x.codes.map D.str)), (.slice false 4 (x.arcs.map Arc.d))]), (.int .i64 k), (.int .i64 sig)] [.any, .any, .any] (.bool (excB x k sig)) := by
  refine Sp_intro (lend := true) Try.func68 rfl rfl rfl (fun _ => rfl) (fun c hc hX => ?_)
  obtain ⟨hp0, hp1, hp2⟩ := Sgr.parts hb
  have hn0 := bulkF_len hp0
  have hn1 := bulk_len hp1
  have hx1 := bulk_mem hp1
  have hn2 := bulkF_len hp2
  refine T_seq ?_
  refine T_region hc ?_
  refine Ch.step (v := (.ptr 3000 0)) rfl (.box 3000 _ _ rfl (.aggD _)) rfl rfl ?_
  refine Ch.step (v := (.d (.bool false))) rfl (.pure (.assign _ rfl rfl)) rfl rfl ?_
  refine Ch.nil ?_
  refine T_seq ?_
  refine T_seq ?_
  refine T_region hc ?_
  refine Ch.step (v := (.ptr 3000 2)) rfl (.pure (.fldPtr _ _ _ rfl fld52_2 rfl)) rfl rfl ?_
  refine Ch.step (v := (.d (.slice false 4 (x.arcs.map Arc.d)))) rfl (.pure (.loadPtr1 _ _ rfl ag50 rfl rfl rfl)) rfl rfl ?_
  refine Ch.step (v := (.d (.int .i64 ((x.arcs.length : Nat) : Int)))) rfl (.pure (.len _ _ 102 rfl Try.underlying50 (.sh _ _) (by simp))) rfl rfl ?_
  refine Ch.step (v := (.d (.int .i64 0))) rfl (.pure (.move _ rfl rfl)) rfl rfl ?_
  refine Ch.nil ?_
  refine T_block ?_
  refine T_loop (ι := Nat) (fun m => { n := 27, sl := [(1, (.d (.int .i64 k))), (2, (.d (.int .i64 sig))), (10, (.d (.slice false 4 (x.arcs.map Arc.d)))), (11, (.d (.int .i64 ((x.arcs.length : Nat) : Int)))), (12, (.d (.int .i64 ((m : Nat) : Int))))], hp := [], pin := [] }) (fun m => m ≤ x.arcs.length ∧ ∀ j, j < m → isArc k sig (x.arcs.getD j default) = false) (fun m => x.arcs.length - m) ⟨0, ⟨by omega, fun j hj => by omega⟩, (Wk.of rfl rfl (And.intro rfl (And.intro rfl (And.intro rfl (And.intro rfl (And.intro (vI (by first | rfl | omega | (simp; done) | (simp; omega))) trivial))))) trivial)⟩ (fun m hp0 => ?_)
  refine T_seq ?_
  refine T_region hc ?_
  refine Ch.step (v := (.d (.bool (decide (((m : Nat) : Int) < ((x.arcs.length : Nat) : Int)))))) rfl (.pure (.int _ _ _ _ _ rfl rfl rfl rfl)) rfl rfl ?_
  refine Ch.nil ?_
  refine T_seq ?_
  refine T_cond (b := (decide (((m : Nat) : Int) < ((x.arcs.length : Nat) : Int)))) rfl (fun h1 => ?_) (fun h1 => ?_)
  · replace h1 := of_decide_eq_true h1
    refine T_skip ?_
    refine T_seq ?_
    refine T_block ?_
    refine T_seq ?_
    refine T_region hc ?_
    refine Ch.step (v := (.d (.ref (.agg [(.int .i64 ((x.arcs.getD m default).src)), (.int .i64 ((x.arcs.getD m default).sig)), (.bool ((x.arcs.getD m default).up)), (.int .i64 ((x.arcs.getD m default).dst))])))) rfl (.pure (.idx _ _ _ 102 (m) rfl Try.underlying50 sz102 rfl rfl rfl (get_map _ (by first | omega | (simp only [List.length_map, List.length_append, List.length_take, List.length_drop, List.length_cons, List.length_nil]; omega) | (simp; omega) | (simp; done))))) rfl rfl ?_
    refine Ch.step (v := (.d (.agg [(.int .i64 ((x.arcs.getD m default).src)), (.int .i64 ((x.arcs.getD m default).sig)), (.bool ((x.arcs.getD m default).up)), (.int .i64 ((x.arcs.getD m default).dst))]))) rfl (.pure (.loadRefA _ _ rfl ag102 sz102 rfl)) rfl rfl ?_
    refine Ch.step (v := (.ptr 8000 0)) rfl (.alloc 8000 _ rfl zer102) rfl rfl ?_
    refine Ch.step (v := .junk) rfl (.storePtr _ _ _ rfl rfl rfl (.aggD _) sz102 (Nat.le_of_ble_eq_true rfl)) rfl rfl ?_
    refine Ch.nil ?_
    refine T_seq ?_
    refine T_region hc ?_
    refine Ch.step (v := (.ptr 8000 0)) rfl (.pure (.fldPtr _ _ _ rfl fld102_0 rfl)) rfl rfl ?_
    refine Ch.step (v := (.d (.int .i64 ((x.arcs.getD m default).src)))) rfl (.pure (.loadPtr1 _ _ rfl ag3 rfl rfl rfl)) rfl rfl ?_
    refine Ch.step (v := (.d (.int .i64 k))) rfl (.pure (.move _ rfl rfl)) rfl rfl ?_
    refine Ch.step (v := (.d (.bool (decide (((x.arcs.getD m default).src) = k))))) rfl (.pure (.int _ _ _ _ _ rfl rfl rfl rfl)) rfl rfl ?_
    refine Ch.step (v := (.d (.bool (decide (((x.arcs.getD m default).src) = k))))) rfl (.pure (.move _ rfl rfl)) rfl rfl ?_
    cases h2 : (decide (((x.arcs.getD m default).src) = k)) with
    | true =>
      replace h2 := of_decide_eq_true h2
      refine Ch.step (v := (.ptr 8000 1)) rfl (.pure (.fldPtr _ _ _ rfl fld102_1 rfl)) rfl rfl ?_
      refine Ch.step (v := (.d (.int .i64 ((x.arcs.getD m default).sig)))) rfl (.pure (.loadPtr1 _ _ rfl ag3 rfl rfl rfl)) rfl rfl ?_
      refine Ch.step (v := (.d (.int .i64 sig))) rfl (.pure (.move _ rfl rfl)) rfl rfl ?_
      refine Ch.step (v := (.d (.bool (decide (((x.arcs.getD m default).sig) = sig))))) rfl (.pure (.int _ _ _ _ _ rfl rfl rfl rfl)) rfl rfl ?_
      refine Ch.step (v := (.d (.bool (decide (((x.arcs.getD m default).sig) = sig))))) rfl (.pure (.pickT _ _ _ rfl rfl rfl)) rfl rfl ?_
      refine Ch.nil ?_
      refine T_cond (b := (decide (((x.arcs.getD m default).sig) = sig))) rfl (fun h3 => ?_) (fun h3 => ?_)
      · replace h3 := of_decide_eq_true h3
        refine T_seq ?_
        refine T_region hc ?_
        refine Ch.step (v := (.d (.bool true))) rfl (.pure (.assign _ rfl rfl)) rfl rfl ?_
        refine Ch.nil ?_
        refine T_ret ?_
        refine And.intro (.inr rfl) ?_
        exact Exists.intro [(.d (.bool true))] (Exists.intro [] (Exists.intro [] (And.intro (.cons (.tmp 6 rfl) .nil) (And.intro (.cons (.any _) (.cons (.any _) (.cons (.any _) .nil))) (And.intro (Exp.of (congrArg D.bool (by exact any_yes default m (by omega) (by simp_all [isArc]))) (.d _)) (And.intro rfl rfl))))))
      · replace h3 := of_decide_eq_false h3
        refine T_skip ?_
        refine T_region hc ?_
        refine Ch.step (v := (.d (.int .i64 (((m : Nat) : Int) + 1)))) rfl (.pure (.int _ _ _ _ _ rfl rfl rfl (intV_add (by first | omega | (simp only [List.length_map, List.length_append, List.length_take, List.length_drop, List.length_cons, List.length_nil]; omega) | (simp; omega) | (simp; done)) (by first | omega | (simp only [List.length_map, List.length_append, List.length_take, List.length_drop, List.length_cons, List.length_nil]; omega) | (simp; omega) | (simp; done))))) rfl rfl ?_
        refine Ch.step (v := (.d (.int .i64 (((m : Nat) : Int) + 1)))) rfl (.pure (.move _ rfl rfl)) rfl rfl ?_
        refine Ch.nil ?_
        refine Exists.intro (m + 1) (And.intro ⟨by omega, upto_succ hp0.2 (by simp_all [isArc])⟩ (And.intro (by first | omega | (dsimp only; omega)) (Wk.of rfl rfl (And.intro rfl (And.intro rfl (And.intro rfl (And.intro rfl (And.intro (vI (by first | rfl | omega | (simp; done) | (simp; omega))) trivial))))) trivial)))
    | false =>
      replace h2 := of_decide_eq_false h2
      refine Ch.skip rfl rfl ?_
      refine Ch.skip rfl rfl ?_
      refine Ch.skip rfl rfl ?_
      refine Ch.skip rfl rfl ?_
      refine Ch.step (v := (.d (.bool false))) rfl (.pure (.pickF _ _ _ rfl rfl rfl)) rfl rfl ?_
      refine Ch.nil ?_
      refine T_cond (b := false) rfl (fun h => nomatch h) (fun _ => ?_)
      refine T_skip ?_
      refine T_region hc ?_
      refine Ch.step (v := (.d (.int .i64 (((m : Nat) : Int) + 1)))) rfl (.pure (.int _ _ _ _ _ rfl rfl rfl (intV_add (by first | omega | (simp only [List.length_map, List.length_append, List.length_take, List.length_drop, List.length_cons, List.length_nil]; omega) | (simp; omega) | (simp; done)) (by first | omega | (simp only [List.length_map, List.length_append, List.length_take, List.length_drop, List.length_cons, List.length_nil]; omega) | (simp; omega) | (simp; done))))) rfl rfl ?_
      refine Ch.step (v := (.d (.int .i64 (((m : Nat) : Int) + 1)))) rfl (.pure (.move _ rfl rfl)) rfl rfl ?_
      refine Ch.nil ?_
      refine Exists.intro (m + 1) (And.intro ⟨by omega, upto_succ hp0.2 (by simp_all [isArc])⟩ (And.intro (by first | omega | (dsimp only; omega)) (Wk.of rfl rfl (And.intro rfl (And.intro rfl (And.intro rfl (And.intro rfl (And.intro (vI (by first | rfl | omega | (simp; done) | (simp; omega))) trivial))))) trivial)))
  · replace h1 := of_decide_eq_false h1
    refine T_exit ?_
    refine T_seq ?_
    refine T_region hc ?_
    refine Ch.step (v := (.d (.bool false))) rfl (.pure (.assign _ rfl rfl)) rfl rfl ?_
    refine Ch.nil ?_
    refine T_ret ?_
    refine And.intro (.inr rfl) ?_
    exact Exists.intro [(.d (.bool false))] (Exists.intro [] (Exists.intro [] (And.intro (.cons (.tmp 6 rfl) .nil) (And.intro (.cons (.any _) (.cons (.any _) (.cons (.any _) .nil))) (And.intro (Exp.of (congrArg D.bool (by exact any_no default (fun j hj => hp0.2 j (by omega)))) (.d _)) (And.intro rfl rfl))))))

def two (m s : Nat) : Nat := m >>> s &&& 3

theorem en100 : Enters Try.prog 100 := ⟨_, Try.func100, by kernel_rfl, rfl⟩

theorem en101 : Enters Try.prog 101 := ⟨_, Try.func101, by kernel_rfl, rfl⟩

theorem en99 : Enters Try.prog 99 := ⟨_, Try.func99, by kernel_rfl, rfl⟩

theorem en45 : Enters Try.prog 45 := ⟨_, Try.func45, by kernel_rfl, rfl⟩

theorem en46 : Enters Try.prog 46 := ⟨_, Try.func46, by kernel_rfl, rfl⟩

def fireB (a : Gat) (u : List UInt8) : Bool := !decide (nextB a u = decide (u.getD a.sig.toNat 0 = 49))

theorem fire_bit {a : Gat} {u : List UInt8} {n : Nat} (hf : gateFit n a) (hu : codeFit n u) : (!decide (bitN (nextB a u) = u.getD a.sig.toNat 0)) = fireB a u := by
  unfold fireB
  congr 1
  rcases hu.2 a.sig.toNat hf.2.1.2 with h | h <;> rw [h] <;> cases nextB a u <;> rfl

theorem fire_bitN {a : Gat} {u : List UInt8} {n : Nat} (hf : gateFit n a) (hu : codeFit n u) : decide (bitN (nextB a u) = u.getD a.sig.toNat 0) = !fireB a u := by
  rw [← fire_bit hf hu, Bool.not_not]

def badG (x : Sgr) (k : Nat) (a : Gat) : Bool := !decide (fireB a (x.codes.getD k default) = excB x (k : Int) a.sig)

def impB (x : Sgr) (y : Cir) : Bool := sgB x && (circB y && decide (x.sigs = y.sigs))

def rowOk (x : Sgr) (y : Cir) (k : Nat) : Bool := allB y.gates.length fun m => !badG x k (y.gates.getD m default)

def impV (x : Sgr) (y : Cir) : Bool := impB x y && allB x.codes.length (rowOk x y)

theorem impV_no {x : Sgr} {y : Cir} {k m : Nat} (hk : k < x.codes.length) (hm : m < y.gates.length) (h : badG x k (y.gates.getD m default) = true) : impV x y = false := by
  have : rowOk x y k = false := allB_no m hm (by rw [h]; rfl)
  rw [impV, allB_no k hk this, Bool.and_false]

theorem impB_yes {x : Sgr} {y : Cir} (h1 : sgB x = true) (h2 : circB y = true) (h3 : x.sigs = y.sigs) : impB x y = true := by rw [impB, h1, h2, decide_eq_true h3]; rfl

theorem impV_yes {x : Sgr} {y : Cir} (h1 : sgB x = true) (h2 : circB y = true) (h3 : x.sigs = y.sigs) {k : Nat} (hk : x.codes.length ≤ k) (h : ∀ j, j < k → rowOk x y j = true) : impV x y = true := by
  rw [impV, impB_yes h1 h2 h3, allB_of fun j hj => h j (by omega)]; rfl

theorem bad_of {x : Sgr} {k : Nat} {a : Gat} {b c d : Bool} (hb : fireB a (x.codes.getD k default) = b) (hc : excB x (k : Int) a.sig = c) (hd : (!decide (b = c)) = d) : badG x k a = d := by
  rw [badG, hb, hc, hd]

set_option maxHeartbeats 2000000 in
theorem sp_impl_Implements (x : Sgr) (y : Cir) (hb : x.bulk ≤ 1048576) (hc2 : y.bulk ≤ 1048576) : Sp Try.prog 46 [(.agg [(.slice false 2 (x.sigs.map Sgn.d)), (.slice false 1 (x.codes.map D.str)), (.slice false 4 (x.arcs.map Arc.d))]), (.agg [(.slice false 2 (y.sigs.map Sgn.d)), (.slice false 4 (y.gates.map Gat.d))])] [.any, .any] (.tup [(.bool (impV x y)), (.bool (impB x y))]) := by
  refine Sp_intro (lend := true) Try.func46 rfl rfl rfl (fun _ => rfl) (fun c hc hX => ?_)
  obtain ⟨hp0, hp1, hp2⟩ := Sgr.parts hb
  have hn0 := bulkF_len hp0
  have hn1 := bulk_len hp1
  have hx1 := bulk_mem hp1
  have hn2 := bulkF_len hp2
  obtain ⟨hr0, hr1⟩ := Cir.parts hc2
  have hm0 := bulkF_len hr0
  have hm1 := bulkF_len hr1
  refine T_seq ?_
  refine T_region hc ?_
  refine Ch.step (v := (.ptr 2000 0)) rfl (.box 2000 _ _ rfl (.aggD _)) rfl rfl ?_
  refine Ch.step (v := (.ptr 3000 0)) rfl (.box 3000 _ _ rfl (.aggD _)) rfl rfl ?_
  refine Ch.step (v := (.d (.bool false))) rfl (.pure (.assign _ rfl rfl)) rfl rfl ?_
  refine Ch.step (v := (.d (.bool false))) rfl (.pure (.assign _ rfl rfl)) rfl rfl ?_
  refine Ch.nil ?_
  refine T_seq ?_
  refine T_seq ?_
  refine T_region hc ?_
  refine Ch.step (v := (.agg [(.d (.slice false 2 (x.sigs.map Sgn.d))), (.d (.slice false 1 (x.codes.map D.str))), (.d (.slice false 4 (x.arcs.map Arc.d)))])) rfl (.pure (.loadPtrA _ _ rfl ag52 sz52 rfl rfl (Nat.le_of_ble_eq_true rfl) rfl)) rfl rfl ?_
  refine Ch.step (v := (.d (.bool (sgB x)))) rfl (.call 11000 80 _ _ _ en80 rfl (.inl rfl) (.cons (.lend (.agg (.cons (.d _) (.cons (.d _) (.cons (.d _) .nil))) rfl)) .nil) rfl rfl (sp_impl_IsValidStateGraph x (by first | assumption | omega | (rw [List.length_take]; omega) | (have := bulkF_mem hb _ (getD_mem (d := default) (by omega)); assumption) | (unfold bulkS at *; omega) | (simp_all; done))) (.skip _ _ .nil) rfl) rfl rfl ?_
  refine Ch.step (v := (.d (.bool (!(sgB x))))) rfl (.pure (.not _ _ rfl rfl)) rfl rfl ?_
  refine Ch.step (v := (.d (.bool (!(sgB x))))) rfl (.pure (.move _ rfl rfl)) rfl rfl ?_
  cases h1 : (sgB x) with
  | true =>
    try have hx := sg_has h1
    try have hx8 := hx.eight
    try have hxf := hx.few
    try have hxl := hx.len
    try have hck := codes_at hx.codes
    refine Ch.step (v := (.agg [(.d (.slice false 2 (y.sigs.map Sgn.d))), (.d (.slice false 4 (y.gates.map Gat.d)))])) rfl (.pure (.loadPtrA _ _ rfl ag32 sz32 rfl rfl (Nat.le_of_ble_eq_true rfl) rfl)) rfl rfl ?_
    refine Ch.step (v := (.d (.bool (circB y)))) rfl (.call 15000 55 _ _ _ en55 rfl (.inl rfl) (.cons (.lend (.agg (.cons (.d _) (.cons (.d _) .nil)) rfl)) .nil) rfl rfl (sp_impl_IsValidCircuit y (by first | assumption | omega | (rw [List.length_take]; omega) | (have := bulkF_mem hb _ (getD_mem (d := default) (by omega)); assumption) | (unfold bulkS at *; omega) | (simp_all; done))) (.skip _ _ .nil) rfl) rfl rfl ?_
    refine Ch.step (v := (.d (.bool (!(circB y))))) rfl (.pure (.not _ _ rfl rfl)) rfl rfl ?_
    refine Ch.step (v := (.d (.bool (!(circB y))))) rfl (.pure (.pickF _ _ _ rfl rfl rfl)) rfl rfl ?_
    refine Ch.step (v := (.d (.bool (!(circB y))))) rfl (.pure (.move _ rfl rfl)) rfl rfl ?_
    cases h2 : (circB y) with
    | true =>
      try have hgf := gateFit_of h2
      refine Ch.step (v := (.ptr 2000 0)) rfl (.pure (.fldPtr _ _ _ rfl fld52_0 rfl)) rfl rfl ?_
      refine Ch.step (v := (.d (.slice false 2 (x.sigs.map Sgn.d)))) rfl (.pure (.loadPtr1 _ _ rfl ag29 rfl rfl rfl)) rfl rfl ?_
      refine Ch.step (v := (.ptr 3000 0)) rfl (.pure (.fldPtr _ _ _ rfl fld32_0 rfl)) rfl rfl ?_
      refine Ch.step (v := (.d (.slice false 2 (y.sigs.map Sgn.d)))) rfl (.pure (.loadPtr1 _ _ rfl ag29 rfl rfl rfl)) rfl rfl ?_
      refine Ch.step (v := (.d (.bool (decide (x.sigs = y.sigs))))) rfl (.call 23000 100 _ _ _ en100 rfl (.inl rfl) (.cons (.d _) (.cons (.d _) .nil)) rfl rfl (sp_Equal_sgn x.sigs y.sigs (by first | assumption | omega | (rw [List.length_take]; omega) | (have := bulkF_mem hb _ (getD_mem (d := default) (by omega)); assumption) | (unfold bulkS at *; omega) | (simp_all; done))) (.skip _ _ (.skip _ _ .nil)) rfl) rfl rfl ?_
      refine Ch.step (v := (.d (.bool (!(decide (x.sigs = y.sigs)))))) rfl (.pure (.not _ _ rfl rfl)) rfl rfl ?_
      refine Ch.step (v := (.d (.bool (!(decide (x.sigs = y.sigs)))))) rfl (.pure (.pickF _ _ _ rfl rfl rfl)) rfl rfl ?_
      refine Ch.nil ?_
      refine T_cond (b := (!(decide (x.sigs = y.sigs)))) rfl (fun h3 => ?_) (fun h3 => ?_)
      · replace h3 := nott h3
        replace h3 := of_decide_eq_false h3
        refine T_seq ?_
        refine T_region hc ?_
        refine Ch.step (v := (.d (.bool false))) rfl (.pure (.assign _ rfl rfl)) rfl rfl ?_
        refine Ch.step (v := (.d (.bool false))) rfl (.pure (.assign _ rfl rfl)) rfl rfl ?_
        refine Ch.nil ?_
        refine T_ret ?_
        refine And.intro (.inr rfl) ?_
        exact Exists.intro [(.d (.bool false)), (.d (.bool false))] (Exists.intro [] (Exists.intro [] (And.intro (.cons (.tmp 4 rfl) (.cons (.tmp 5 rfl) .nil)) (And.intro (.cons (.any _) (.cons (.any _) .nil)) (And.intro (.tup (.cons (Exp.of (congrArg D.bool (by first | (exact (impV_no (k := k) (m := m) (by omega) (by omega) (by first | exact bad_of rfl (by assumption) (by first | (rw [← fire_bit hg6 hcf]; simp only [*, decide_true, decide_false, Bool.not_true, Bool.not_false]; done)) | (unfold badG fireB; simp_all; done) | (unfold badG; rw [← fire_bit hg6 hcf]; simp_all; done))).symm) | (exact (impB_yes h1 h2 (by assumption)).symm) | (exact (impV_yes h1 h2 (by assumption) (k := k) (by omega) hp0.2).symm) | (rw [impB, h1]; rfl) | (rw [impV, impB, h1]; rfl) | (rw [impB, h1, h2]; rfl) | (rw [impV, impB, h1, h2]; rfl) | (rw [impB, h1, h2, decide_eq_false h3]; rfl) | (rw [impV, impB, h1, h2, decide_eq_false h3]; rfl))) (.d _)) (.cons (Exp.of (congrArg D.bool (by first | (exact (impV_no (k := k) (m := m) (by omega) (by omega) (by first | exact bad_of rfl (by assumption) (by first | (rw [← fire_bit hg6 hcf]; simp only [*, decide_true, decide_false, Bool.not_true, Bool.not_false]; done)) | (unfold badG fireB; simp_all; done) | (unfold badG; rw [← fire_bit hg6 hcf]; simp_all; done))).symm) | (exact (impB_yes h1 h2 (by assumption)).symm) | (exact (impV_yes h1 h2 (by assumption) (k := k) (by omega) hp0.2).symm) | (rw [impB, h1]; rfl) | (rw [impV, impB, h1]; rfl) | (rw [impB, h1, h2]; rfl) | (rw [impV, impB, h1, h2]; rfl) | (rw [impB, h1, h2, decide_eq_false h3]; rfl) | (rw [impV, impB, h1, h2, decide_eq_false h3]; rfl))) (.d _)) .nil))) (And.intro rfl rfl))))))
      · replace h3 := notf h3
        replace h3 := of_decide_eq_true h3
        refine T_skip ?_
        refine T_seq ?_
        refine T_seq ?_
        refine T_region hc ?_
        refine Ch.step (v := (.ptr 2000 1)) rfl (.pure (.fldPtr _ _ _ rfl fld52_1 rfl)) rfl rfl ?_
        refine Ch.step (v := (.d (.slice false 1 (x.codes.map D.str)))) rfl (.pure (.loadPtr1 _ _ rfl ag43 rfl rfl rfl)) rfl rfl ?_
        refine Ch.step (v := (.d (.int .i64 ((x.codes.length : Nat) : Int)))) rfl (.pure (.len _ _ 9 rfl Try.underlying43 (.sh _ _) (by simp))) rfl rfl ?_
        refine Ch.step (v := (.d (.int .i64 0))) rfl (.pure (.move _ rfl rfl)) rfl rfl ?_
        refine Ch.nil ?_
        refine T_block ?_
        refine T_loop (ι := Nat) (fun k => { n := 58, sl := [(2, (.ptr 2000 0)), (3, (.ptr 3000 0)), (27, (.d (.slice false 1 (x.codes.map D.str)))), (28, (.d (.int .i64 ((x.codes.length : Nat) : Int)))), (29, (.d (.int .i64 ((k : Nat) : Int))))], hp := [(2000, (some (.box [(.d (.slice false 2 (x.sigs.map Sgn.d))), (.d (.slice false 1 (x.codes.map D.str))), (.d (.slice false 4 (x.arcs.map Arc.d)))]))), (3000, (some (.box [(.d (.slice false 2 (y.sigs.map Sgn.d))), (.d (.slice false 4 (y.gates.map Gat.d)))])))], pin := [] }) (fun k => k ≤ x.codes.length ∧ ∀ j, j < k → rowOk x y j = true) (fun k => x.codes.length - k) ⟨0, ⟨by omega, fun j hj => by omega⟩, (Wk.of rfl rfl (And.intro rfl (And.intro rfl (And.intro rfl (And.intro rfl (And.intro (vI (by first | rfl | omega | (simp; done) | (simp; omega))) trivial))))) (And.intro rfl (And.intro rfl trivial)))⟩ (fun k hp0 => ?_)
        refine T_seq ?_
        refine T_region hc ?_
        refine Ch.step (v := (.d (.bool (decide (((k : Nat) : Int) < ((x.codes.length : Nat) : Int)))))) rfl (.pure (.int _ _ _ _ _ rfl rfl rfl rfl)) rfl rfl ?_
        refine Ch.nil ?_
        refine T_seq ?_
        refine T_cond (b := (decide (((k : Nat) : Int) < ((x.codes.length : Nat) : Int)))) rfl (fun h4 => ?_) (fun h4 => ?_)
        · replace h4 := of_decide_eq_true h4
          try have hcf : codeFit x.sigs.length (x.codes.getD k default) := codeFit_of (hck (k : Int) (by omega) (by omega)).1
          refine T_skip ?_
          refine T_seq ?_
          refine T_block ?_
          refine T_seq ?_
          refine T_region hc ?_
          refine Ch.step (v := (.d (.int .i64 ((k : Nat) : Int)))) rfl (.pure (.move _ rfl rfl)) rfl rfl ?_
          refine Ch.step (v := (.d (.ref (.str (x.codes.getD k default))))) rfl (.pure (.idx _ _ _ 9 (k) rfl Try.underlying43 sz9 rfl rfl rfl (get_map _ (by first | omega | (simp only [List.length_map, List.length_append, List.length_take, List.length_drop, List.length_cons, List.length_nil]; omega) | (simp; omega) | (simp; done))))) rfl rfl ?_
          refine Ch.step (v := (.d (.str (x.codes.getD k default)))) rfl (.pure (.loadRef1 _ _ rfl ag9 rfl rfl)) rfl rfl ?_
          refine Ch.step (v := (.d (.int .i64 ((k : Nat) : Int)))) rfl (.pure (.assign _ rfl rfl)) rfl rfl ?_
          refine Ch.step (v := (.d (.str (x.codes.getD k default)))) rfl (.pure (.assign _ rfl rfl)) rfl rfl ?_
          refine Ch.nil ?_
          refine T_seq ?_
          refine T_region hc ?_
          refine Ch.step (v := (.ptr 3000 1)) rfl (.pure (.fldPtr _ _ _ rfl fld32_1 rfl)) rfl rfl ?_
          refine Ch.step (v := (.d (.slice false 4 (y.gates.map Gat.d)))) rfl (.pure (.loadPtr1 _ _ rfl ag30 rfl rfl rfl)) rfl rfl ?_
          refine Ch.step (v := (.d (.int .i64 ((y.gates.length : Nat) : Int)))) rfl (.pure (.len _ _ 77 rfl Try.underlying30 (.sh _ _) (by simp))) rfl rfl ?_
          refine Ch.step (v := (.d (.int .i64 0))) rfl (.pure (.move _ rfl rfl)) rfl rfl ?_
          refine Ch.nil ?_
          refine T_block ?_
          refine T_loop (ι := Nat) (fun m => { n := 58, sl := [(2, (.ptr 2000 0)), (3, (.ptr 3000 0)), (6, (.d (.int .i64 ((k : Nat) : Int)))), (7, (.d (.str (x.codes.getD k default)))), (27, (.d (.slice false 1 (x.codes.map D.str)))), (28, (.d (.int .i64 ((x.codes.length : Nat) : Int)))), (29, (.d (.int .i64 ((k : Nat) : Int)))), (35, (.d (.slice false 4 (y.gates.map Gat.d)))), (36, (.d (.int .i64 ((y.gates.length : Nat) : Int)))), (37, (.d (.int .i64 ((m : Nat) : Int))))], hp := [(2000, (some (.box [(.d (.slice false 2 (x.sigs.map Sgn.d))), (.d (.slice false 1 (x.codes.map D.str))), (.d (.slice false 4 (x.arcs.map Arc.d)))]))), (3000, (some (.box [(.d (.slice false 2 (y.sigs.map Sgn.d))), (.d (.slice false 4 (y.gates.map Gat.d)))])))], pin := [] }) (fun m => m ≤ y.gates.length ∧ ∀ j, j < m → (!badG x k (y.gates.getD j default)) = true) (fun m => y.gates.length - m) ⟨0, ⟨by omega, fun j hj => by omega⟩, (Wk.of rfl rfl (And.intro rfl (And.intro rfl (And.intro rfl (And.intro rfl (And.intro rfl (And.intro rfl (And.intro rfl (And.intro rfl (And.intro rfl (And.intro (vI (by first | rfl | omega | (simp; done) | (simp; omega))) trivial)))))))))) (And.intro rfl (And.intro rfl trivial)))⟩ (fun m hp1 => ?_)
          refine T_seq ?_
          refine T_region hc ?_
          refine Ch.step (v := (.d (.bool (decide (((m : Nat) : Int) < ((y.gates.length : Nat) : Int)))))) rfl (.pure (.int _ _ _ _ _ rfl rfl rfl rfl)) rfl rfl ?_
          refine Ch.nil ?_
          refine T_seq ?_
          refine T_cond (b := (decide (((m : Nat) : Int) < ((y.gates.length : Nat) : Int)))) rfl (fun h5 => ?_) (fun h5 => ?_)
          · replace h5 := of_decide_eq_true h5
            try have hg5 := hgf _ (getD_mem (l := y.gates) (j := m) (d := default) (by omega))
            try have hg6 : gateFit x.sigs.length (y.gates.getD m default) := by (rw [h3]; exact hg5)
            try have hgs := hg6.2.1
            try have hfb := fire_bitN hg6 hcf
            try have hcfl := hcf.1
            refine T_skip ?_
            refine T_seq ?_
            refine T_block ?_
            refine T_seq ?_
            refine T_region hc ?_
            refine Ch.step (v := (.d (.ref (.agg [(.int .i64 ((y.gates.getD m default).sig)), (.int .i64 ((y.gates.getD m default).kind)), (.slice false 1 (((y.gates.getD m default).ups).map D.str)), (.slice false 1 (((y.gates.getD m default).downs).map D.str))])))) rfl (.pure (.idx _ _ _ 77 (m) rfl Try.underlying30 sz77 rfl rfl rfl (get_map _ (by first | omega | (simp only [List.length_map, List.length_append, List.length_take, List.length_drop, List.length_cons, List.length_nil]; omega) | (simp; omega) | (simp; done))))) rfl rfl ?_
            refine Ch.step (v := (.d (.agg [(.int .i64 ((y.gates.getD m default).sig)), (.int .i64 ((y.gates.getD m default).kind)), (.slice false 1 (((y.gates.getD m default).ups).map D.str)), (.slice false 1 (((y.gates.getD m default).downs).map D.str))]))) rfl (.pure (.loadRefA _ _ rfl ag77 sz77 rfl)) rfl rfl ?_
            refine Ch.step (v := (.ptr 9000 0)) rfl (.alloc 9000 _ rfl zer77) rfl rfl ?_
            refine Ch.step (v := .junk) rfl (.storePtr _ _ _ rfl rfl rfl (.aggD _) sz77 (Nat.le_of_ble_eq_true rfl)) rfl rfl ?_
            refine Ch.nil ?_
            refine T_seq ?_
            refine T_regionD hc (by kernel_rfl) ?_
            refine ChD.step (v := (.agg [(.d (.int .i64 ((y.gates.getD m default).sig))), (.d (.int .i64 ((y.gates.getD m default).kind))), (.d (.slice false 1 (((y.gates.getD m default).ups).map D.str))), (.d (.slice false 1 (((y.gates.getD m default).downs).map D.str)))])) [9000] rfl (.pure (.loadPtrA _ _ rfl ag77 sz77 rfl rfl (Nat.le_of_ble_eq_true rfl) rfl)) rfl rfl ?_
            refine ChD.step (v := (.d (.str (x.codes.getD k default)))) [] rfl (.pure (.move _ rfl rfl)) rfl rfl ?_
            refine ChD.step (v := (.d (.bool (nextB (y.gates.getD m default) (x.codes.getD k default))))) [] rfl (.call 43000 58 _ _ _ en58 rfl (.inl rfl) (.cons (.lend (.agg (.cons (.d _) (.cons (.d _) (.cons (.d _) (.cons (.d _) .nil)))) rfl)) (.cons (.d _) .nil)) rfl rfl (sp_impl_nextOf (y.gates.getD m default) (x.codes.getD k default) _ (by assumption) (by assumption)) (.skip _ _ (.skip _ _ .nil)) rfl) rfl rfl ?_
            refine ChD.step (v := (.d (.int .u8 ((bitN (nextB (y.gates.getD m default) (x.codes.getD k default))).toNat : Int)))) [] rfl (.call 44000 101 _ _ _ en101 rfl (.inl rfl) (.cons (.d _) .nil) rfl rfl (sp_impl_bit (nextB (y.gates.getD m default) (x.codes.getD k default))) (.skip _ _ .nil) rfl) rfl rfl ?_
            refine ChD.step (v := (.d (.str (x.codes.getD k default)))) [] rfl (.pure (.move _ rfl rfl)) rfl rfl ?_
            refine ChD.step (v := (.ptr 9000 0)) [] rfl (.pure (.fldPtr _ _ _ rfl fld77_0 rfl)) rfl rfl ?_
            refine ChD.step (v := (.d (.int .i64 ((y.gates.getD m default).sig)))) [9000] rfl (.pure (.loadPtr1 _ _ rfl ag3 rfl rfl rfl)) rfl rfl ?_
            refine ChD.step (v := (.d (.int .u8 (((x.codes.getD k default).getD ((((y.gates.getD m default).sig)).toNat) 0).toNat : Int)))) [] rfl (.pure (.idxStr _ _ _ ((((y.gates.getD m default).sig)).toNat) rfl Try.underlying9 rfl rfl (by omega) (get_str (by first | omega | (simp only [List.length_map, List.length_append, List.length_take, List.length_drop, List.length_cons, List.length_nil]; omega) | (simp; omega) | (simp; done))))) rfl rfl ?_
            refine ChD.step (v := (.d (.bool (!(decide (((bitN (nextB (y.gates.getD m default) (x.codes.getD k default))) : UInt8) = ((x.codes.getD k default).getD ((((y.gates.getD m default).sig)).toNat) 0))))))) [] rfl (.pure (.int _ _ _ _ _ rfl rfl rfl (u8_neq ((bitN (nextB (y.gates.getD m default) (x.codes.getD k default))) : UInt8) ((x.codes.getD k default).getD ((((y.gates.getD m default).sig)).toNat) 0) rfl rfl))) rfl rfl ?_
            refine ChD.step (v := (.agg [(.d (.slice false 2 (x.sigs.map Sgn.d))), (.d (.slice false 1 (x.codes.map D.str))), (.d (.slice false 4 (x.arcs.map Arc.d)))])) [2000] rfl (.pure (.loadPtrA _ _ rfl ag52 sz52 rfl rfl (Nat.le_of_ble_eq_true rfl) rfl)) rfl rfl ?_
            refine ChD.step (v := (.d (.int .i64 ((k : Nat) : Int)))) [] rfl (.pure (.move _ rfl rfl)) rfl rfl ?_
            refine ChD.step (v := (.ptr 9000 0)) [] rfl (.pure (.fldPtr _ _ _ rfl fld77_0 rfl)) rfl rfl ?_
            refine ChD.step (v := (.d (.int .i64 ((y.gates.getD m default).sig)))) [9000] rfl (.pure (.loadPtr1 _ _ rfl ag3 rfl rfl rfl)) rfl rfl ?_
            refine ChD.step (v := (.d (.bool (excB x ((k : Nat) : Int) ((y.gates.getD m default).sig))))) [] rfl (.call 54000 72 _ _ _ en72 rfl (.inl rfl) (.cons (.lend (.agg (.cons (.d _) (.cons (.d _) (.cons (.d _) .nil))) rfl)) (.cons (.d _) (.cons (.d _) .nil))) rfl rfl (sp_impl_isExcited x ((k : Nat) : Int) ((y.gates.getD m default).sig) (by first | assumption | omega | (rw [List.length_take]; omega) | (have := bulkF_mem hb _ (getD_mem (d := default) (by omega)); assumption) | (unfold bulkS at *; omega) | (simp_all; done))) (.skip _ _ (.skip _ _ (.skip _ _ .nil))) rfl) rfl rfl ?_
            refine ChD.step (v := (.d (.bool (!(decide ((!(decide (((bitN (nextB (y.gates.getD m default) (x.codes.getD k default))) : UInt8) = ((x.codes.getD k default).getD ((((y.gates.getD m default).sig)).toNat) 0)))) = (excB x ((k : Nat) : Int) ((y.gates.getD m default).sig)))))))) [] rfl (.pure (.neB _ _ _ _ rfl Try.underlying4 rfl rfl)) rfl rfl ?_
            refine ChD.nil (And.intro ?_ (by kernel_rfl))
            refine T_cond (b := (!(decide ((!(decide (((bitN (nextB (y.gates.getD m default) (x.codes.getD k default))) : UInt8) = ((x.codes.getD k default).getD ((((y.gates.getD m default).sig)).toNat) 0)))) = (excB x ((k : Nat) : Int) ((y.gates.getD m default).sig)))))) rfl (fun h6 => ?_) (fun h6 => ?_)
            · replace h6 := nott h6
              replace h6 := of_decide_eq_false h6
              refine T_seq ?_
              refine T_region hc ?_
              refine Ch.step (v := (.d (.bool false))) rfl (.pure (.assign _ rfl rfl)) rfl rfl ?_
              refine Ch.step (v := (.d (.bool true))) rfl (.pure (.assign _ rfl rfl)) rfl rfl ?_
              refine Ch.nil ?_
              refine T_ret ?_
              refine And.intro (.inr rfl) ?_
              exact Exists.intro [(.d (.bool false)), (.d (.bool true))] (Exists.intro [] (Exists.intro [] (And.intro (.cons (.tmp 4 rfl) (.cons (.tmp 5 rfl) .nil)) (And.intro (.cons (.any _) (.cons (.any _) .nil)) (And.intro (.tup (.cons (Exp.of (congrArg D.bool (by first | (exact (impV_no (k := k) (m := m) (by omega) (by omega) (by first | exact bad_of rfl (by assumption) (by first | (rw [← fire_bit hg6 hcf]; simp only [*, decide_true, decide_false, Bool.not_true, Bool.not_false]; done)) | (unfold badG fireB; simp_all; done) | (unfold badG; rw [← fire_bit hg6 hcf]; simp_all; done))).symm) | (exact (impB_yes h1 h2 (by assumption)).symm) | (exact (impV_yes h1 h2 (by assumption) (k := k) (by omega) hp0.2).symm) | (rw [impB, h1]; rfl) | (rw [impV, impB, h1]; rfl) | (rw [impB, h1, h2]; rfl) | (rw [impV, impB, h1, h2]; rfl) | (rw [impB, h1, h2, decide_eq_false h3]; rfl) | (rw [impV, impB, h1, h2, decide_eq_false h3]; rfl))) (.d _)) (.cons (Exp.of (congrArg D.bool (by first | (exact (impV_no (k := k) (m := m) (by omega) (by omega) (by first | exact bad_of rfl (by assumption) (by first | (rw [← fire_bit hg6 hcf]; simp only [*, decide_true, decide_false, Bool.not_true, Bool.not_false]; done)) | (unfold badG fireB; simp_all; done) | (unfold badG; rw [← fire_bit hg6 hcf]; simp_all; done))).symm) | (exact (impB_yes h1 h2 (by assumption)).symm) | (exact (impV_yes h1 h2 (by assumption) (k := k) (by omega) hp0.2).symm) | (rw [impB, h1]; rfl) | (rw [impV, impB, h1]; rfl) | (rw [impB, h1, h2]; rfl) | (rw [impV, impB, h1, h2]; rfl) | (rw [impB, h1, h2, decide_eq_false h3]; rfl) | (rw [impV, impB, h1, h2, decide_eq_false h3]; rfl))) (.d _)) .nil))) (And.intro rfl rfl))))))
            · replace h6 := notf h6
              replace h6 := of_decide_eq_true h6
              refine T_skip ?_
              refine T_region hc ?_
              refine Ch.step (v := (.d (.int .i64 (((m : Nat) : Int) + 1)))) rfl (.pure (.int _ _ _ _ _ rfl rfl rfl (intV_add (by first | omega | (simp only [List.length_map, List.length_append, List.length_take, List.length_drop, List.length_cons, List.length_nil]; omega) | (simp; omega) | (simp; done)) (by first | omega | (simp only [List.length_map, List.length_append, List.length_take, List.length_drop, List.length_cons, List.length_nil]; omega) | (simp; omega) | (simp; done))))) rfl rfl ?_
              refine Ch.step (v := (.d (.int .i64 (((m : Nat) : Int) + 1)))) rfl (.pure (.move _ rfl rfl)) rfl rfl ?_
              refine Ch.nil ?_
              refine Exists.intro (m + 1) (And.intro ⟨by omega, upto_succ hp1.2 (by rw [show badG x k (y.gates.getD m default) = false from (by first | exact bad_of rfl (by assumption) (by first | (rw [← fire_bit hg6 hcf]; simp only [*, decide_true, decide_false, Bool.not_true, Bool.not_false]; done)) | (unfold badG fireB; simp_all; done) | (unfold badG; rw [← fire_bit hg6 hcf]; simp_all; done))]; rfl)⟩ (And.intro (by first | omega | (dsimp only; omega)) (Wk.of rfl rfl (And.intro rfl (And.intro rfl (And.intro rfl (And.intro rfl (And.intro rfl (And.intro rfl (And.intro rfl (And.intro rfl (And.intro rfl (And.intro (vI (by first | rfl | omega | (simp; done) | (simp; omega))) trivial)))))))))) (And.intro rfl (And.intro rfl trivial)))))
          · replace h5 := of_decide_eq_false h5
            try have hg5 := hgf _ (getD_mem (l := y.gates) (j := m) (d := default) (by omega))
            try have hg6 : gateFit x.sigs.length (y.gates.getD m default) := by (rw [h3]; exact hg5)
            try have hgs := hg6.2.1
            try have hfb := fire_bitN hg6 hcf
            try have hcfl := hcf.1
            refine T_exit ?_
            refine T_region hc ?_
            refine Ch.step (v := (.d (.int .i64 (((k : Nat) : Int) + 1)))) rfl (.pure (.int _ _ _ _ _ rfl rfl rfl (intV_add (by first | omega | (simp only [List.length_map, List.length_append, List.length_take, List.length_drop, List.length_cons, List.length_nil]; omega) | (simp; omega) | (simp; done)) (by first | omega | (simp only [List.length_map, List.length_append, List.length_take, List.length_drop, List.length_cons, List.length_nil]; omega) | (simp; omega) | (simp; done))))) rfl rfl ?_
            refine Ch.step (v := (.d (.int .i64 (((k : Nat) : Int) + 1)))) rfl (.pure (.move _ rfl rfl)) rfl rfl ?_
            refine Ch.nil ?_
            refine Exists.intro (k + 1) (And.intro ⟨by omega, upto_succ hp0.2 (allB_of fun j hj => hp1.2 j (by omega))⟩ (And.intro (by first | omega | (dsimp only; omega)) (Wk.of rfl rfl (And.intro rfl (And.intro rfl (And.intro rfl (And.intro rfl (And.intro (vI (by first | rfl | omega | (simp; done) | (simp; omega))) trivial))))) (And.intro rfl (And.intro rfl trivial)))))
        · replace h4 := of_decide_eq_false h4
          try have hcf : codeFit x.sigs.length (x.codes.getD k default) := codeFit_of (hck (k : Int) (by omega) (by omega)).1
          refine T_exit ?_
          refine T_seq ?_
          refine T_region hc ?_
          refine Ch.step (v := (.d (.bool true))) rfl (.pure (.assign _ rfl rfl)) rfl rfl ?_
          refine Ch.step (v := (.d (.bool true))) rfl (.pure (.assign _ rfl rfl)) rfl rfl ?_
          refine Ch.nil ?_
          refine T_ret ?_
          refine And.intro (.inr rfl) ?_
          exact Exists.intro [(.d (.bool true)), (.d (.bool true))] (Exists.intro [] (Exists.intro [] (And.intro (.cons (.tmp 4 rfl) (.cons (.tmp 5 rfl) .nil)) (And.intro (.cons (.any _) (.cons (.any _) .nil)) (And.intro (.tup (.cons (Exp.of (congrArg D.bool (by first | (exact (impV_no (k := k) (m := m) (by omega) (by omega) (by first | exact bad_of rfl (by assumption) (by first | (rw [← fire_bit hg6 hcf]; simp only [*, decide_true, decide_false, Bool.not_true, Bool.not_false]; done)) | (unfold badG fireB; simp_all; done) | (unfold badG; rw [← fire_bit hg6 hcf]; simp_all; done))).symm) | (exact (impB_yes h1 h2 (by assumption)).symm) | (exact (impV_yes h1 h2 (by assumption) (k := k) (by omega) hp0.2).symm) | (rw [impB, h1]; rfl) | (rw [impV, impB, h1]; rfl) | (rw [impB, h1, h2]; rfl) | (rw [impV, impB, h1, h2]; rfl) | (rw [impB, h1, h2, decide_eq_false h3]; rfl) | (rw [impV, impB, h1, h2, decide_eq_false h3]; rfl))) (.d _)) (.cons (Exp.of (congrArg D.bool (by first | (exact (impV_no (k := k) (m := m) (by omega) (by omega) (by first | exact bad_of rfl (by assumption) (by first | (rw [← fire_bit hg6 hcf]; simp only [*, decide_true, decide_false, Bool.not_true, Bool.not_false]; done)) | (unfold badG fireB; simp_all; done) | (unfold badG; rw [← fire_bit hg6 hcf]; simp_all; done))).symm) | (exact (impB_yes h1 h2 (by assumption)).symm) | (exact (impV_yes h1 h2 (by assumption) (k := k) (by omega) hp0.2).symm) | (rw [impB, h1]; rfl) | (rw [impV, impB, h1]; rfl) | (rw [impB, h1, h2]; rfl) | (rw [impV, impB, h1, h2]; rfl) | (rw [impB, h1, h2, decide_eq_false h3]; rfl) | (rw [impV, impB, h1, h2, decide_eq_false h3]; rfl))) (.d _)) .nil))) (And.intro rfl rfl))))))
    | false =>
      try have hgf := gateFit_of h2
      refine Ch.skip rfl rfl ?_
      refine Ch.skip rfl rfl ?_
      refine Ch.skip rfl rfl ?_
      refine Ch.skip rfl rfl ?_
      refine Ch.skip rfl rfl ?_
      refine Ch.skip rfl rfl ?_
      refine Ch.step (v := (.d (.bool true))) rfl (.pure (.pickT _ _ _ rfl rfl rfl)) rfl rfl ?_
      refine Ch.nil ?_
      refine T_cond (b := true) rfl (fun _ => ?_) (fun h => nomatch h)
      refine T_seq ?_
      refine T_region hc ?_
      refine Ch.step (v := (.d (.bool false))) rfl (.pure (.assign _ rfl rfl)) rfl rfl ?_
      refine Ch.step (v := (.d (.bool false))) rfl (.pure (.assign _ rfl rfl)) rfl rfl ?_
      refine Ch.nil ?_
      refine T_ret ?_
      refine And.intro (.inr rfl) ?_
      exact Exists.intro [(.d (.bool false)), (.d (.bool false))] (Exists.intro [] (Exists.intro [] (And.intro (.cons (.tmp 4 rfl) (.cons (.tmp 5 rfl) .nil)) (And.intro (.cons (.any _) (.cons (.any _) .nil)) (And.intro (.tup (.cons (Exp.of (congrArg D.bool (by first | (exact (impV_no (k := k) (m := m) (by omega) (by omega) (by first | exact bad_of rfl (by assumption) (by first | (rw [← fire_bit hg6 hcf]; simp only [*, decide_true, decide_false, Bool.not_true, Bool.not_false]; done)) | (unfold badG fireB; simp_all; done) | (unfold badG; rw [← fire_bit hg6 hcf]; simp_all; done))).symm) | (exact (impB_yes h1 h2 (by assumption)).symm) | (exact (impV_yes h1 h2 (by assumption) (k := k) (by omega) hp0.2).symm) | (rw [impB, h1]; rfl) | (rw [impV, impB, h1]; rfl) | (rw [impB, h1, h2]; rfl) | (rw [impV, impB, h1, h2]; rfl) | (rw [impB, h1, h2, decide_eq_false h3]; rfl) | (rw [impV, impB, h1, h2, decide_eq_false h3]; rfl))) (.d _)) (.cons (Exp.of (congrArg D.bool (by first | (exact (impV_no (k := k) (m := m) (by omega) (by omega) (by first | exact bad_of rfl (by assumption) (by first | (rw [← fire_bit hg6 hcf]; simp only [*, decide_true, decide_false, Bool.not_true, Bool.not_false]; done)) | (unfold badG fireB; simp_all; done) | (unfold badG; rw [← fire_bit hg6 hcf]; simp_all; done))).symm) | (exact (impB_yes h1 h2 (by assumption)).symm) | (exact (impV_yes h1 h2 (by assumption) (k := k) (by omega) hp0.2).symm) | (rw [impB, h1]; rfl) | (rw [impV, impB, h1]; rfl) | (rw [impB, h1, h2]; rfl) | (rw [impV, impB, h1, h2]; rfl) | (rw [impB, h1, h2, decide_eq_false h3]; rfl) | (rw [impV, impB, h1, h2, decide_eq_false h3]; rfl))) (.d _)) .nil))) (And.intro rfl rfl))))))
  | false =>
    try have hx := sg_has h1
    try have hx8 := hx.eight
    try have hxf := hx.few
    try have hxl := hx.len
    try have hck := codes_at hx.codes
    refine Ch.skip rfl rfl ?_
    refine Ch.skip rfl rfl ?_
    refine Ch.skip rfl rfl ?_
    refine Ch.step (v := (.d (.bool true))) rfl (.pure (.pickT _ _ _ rfl rfl rfl)) rfl rfl ?_
    refine Ch.step (v := (.d (.bool true))) rfl (.pure (.move _ rfl rfl)) rfl rfl ?_
    refine Ch.skip rfl rfl ?_
    refine Ch.skip rfl rfl ?_
    refine Ch.skip rfl rfl ?_
    refine Ch.skip rfl rfl ?_
    refine Ch.skip rfl rfl ?_
    refine Ch.skip rfl rfl ?_
    refine Ch.step (v := (.d (.bool true))) rfl (.pure (.pickT _ _ _ rfl rfl rfl)) rfl rfl ?_
    refine Ch.nil ?_
    refine T_cond (b := true) rfl (fun _ => ?_) (fun h => nomatch h)
    refine T_seq ?_
    refine T_region hc ?_
    refine Ch.step (v := (.d (.bool false))) rfl (.pure (.assign _ rfl rfl)) rfl rfl ?_
    refine Ch.step (v := (.d (.bool false))) rfl (.pure (.assign _ rfl rfl)) rfl rfl ?_
    refine Ch.nil ?_
    refine T_ret ?_
    refine And.intro (.inr rfl) ?_
    exact Exists.intro [(.d (.bool false)), (.d (.bool false))] (Exists.intro [] (Exists.intro [] (And.intro (.cons (.tmp 4 rfl) (.cons (.tmp 5 rfl) .nil)) (And.intro (.cons (.any _) (.cons (.any _) .nil)) (And.intro (.tup (.cons (Exp.of (congrArg D.bool (by first | (exact (impV_no (k := k) (m := m) (by omega) (by omega) (by first | exact bad_of rfl (by assumption) (by first | (rw [← fire_bit hg6 hcf]; simp only [*, decide_true, decide_false, Bool.not_true, Bool.not_false]; done)) | (unfold badG fireB; simp_all; done) | (unfold badG; rw [← fire_bit hg6 hcf]; simp_all; done))).symm) | (exact (impB_yes h1 h2 (by assumption)).symm) | (exact (impV_yes h1 h2 (by assumption) (k := k) (by omega) hp0.2).symm) | (rw [impB, h1]; rfl) | (rw [impV, impB, h1]; rfl) | (rw [impB, h1, h2]; rfl) | (rw [impV, impB, h1, h2]; rfl) | (rw [impB, h1, h2, decide_eq_false h3]; rfl) | (rw [impV, impB, h1, h2, decide_eq_false h3]; rfl))) (.d _)) (.cons (Exp.of (congrArg D.bool (by first | (exact (impV_no (k := k) (m := m) (by omega) (by omega) (by first | exact bad_of rfl (by assumption) (by first | (rw [← fire_bit hg6 hcf]; simp only [*, decide_true, decide_false, Bool.not_true, Bool.not_false]; done)) | (unfold badG fireB; simp_all; done) | (unfold badG; rw [← fire_bit hg6 hcf]; simp_all; done))).symm) | (exact (impB_yes h1 h2 (by assumption)).symm) | (exact (impV_yes h1 h2 (by assumption) (k := k) (by omega) hp0.2).symm) | (rw [impB, h1]; rfl) | (rw [impV, impB, h1]; rfl) | (rw [impB, h1, h2]; rfl) | (rw [impV, impB, h1, h2]; rfl) | (rw [impB, h1, h2, decide_eq_false h3]; rfl) | (rw [impV, impB, h1, h2, decide_eq_false h3]; rfl))) (.d _)) .nil))) (And.intro rfl rfl))))))

set_option maxHeartbeats 2000000 in
theorem sp_spec_Implements (x : Sgr) (y : Cir) (hb : x.bulk ≤ 1048576) (hc2 : y.bulk ≤ 1048576) : Sp Try.prog 45 [(.agg [(.slice false 2 (x.sigs.map Sgn.d)), (.slice false 1 (x.codes.map D.str)), (.slice false 4 (x.arcs.map Arc.d))]), (.agg [(.slice false 2 (y.sigs.map Sgn.d)), (.slice false 4 (y.gates.map Gat.d))])] [.any, .any] (.tup [(.bool (impV x y)), (.bool (impB x y))]) := by
  refine Sp_intro (lend := true) Try.func45 rfl rfl rfl (fun _ => rfl) (fun c hc hX => ?_)
  obtain ⟨hp0, hp1, hp2⟩ := Sgr.parts hb
  have hn0 := bulkF_len hp0
  have hn1 := bulk_len hp1
  have hx1 := bulk_mem hp1
  have hn2 := bulkF_len hp2
  obtain ⟨hr0, hr1⟩ := Cir.parts hc2
  have hm0 := bulkF_len hr0
  have hm1 := bulkF_len hr1
  refine T_seq ?_
  refine T_region hc ?_
  refine Ch.step (v := (.ptr 2000 0)) rfl (.box 2000 _ _ rfl (.aggD _)) rfl rfl ?_
  refine Ch.step (v := (.ptr 3000 0)) rfl (.box 3000 _ _ rfl (.aggD _)) rfl rfl ?_
  refine Ch.step (v := (.d (.bool false))) rfl (.pure (.assign _ rfl rfl)) rfl rfl ?_
  refine Ch.step (v := (.d (.bool false))) rfl (.pure (.assign _ rfl rfl)) rfl rfl ?_
  refine Ch.nil ?_
  refine T_seq ?_
  refine T_seq ?_
  refine T_region hc ?_
  refine Ch.step (v := (.agg [(.d (.slice false 2 (x.sigs.map Sgn.d))), (.d (.slice false 1 (x.codes.map D.str))), (.d (.slice false 4 (x.arcs.map Arc.d)))])) rfl (.pure (.loadPtrA _ _ rfl ag52 sz52 rfl rfl (Nat.le_of_ble_eq_true rfl) rfl)) rfl rfl ?_
  refine Ch.step (v := (.d (.bool (sgB x)))) rfl (.call 11000 78 _ _ _ en78 rfl (.inl rfl) (.cons (.lend (.agg (.cons (.d _) (.cons (.d _) (.cons (.d _) .nil))) rfl)) .nil) rfl rfl (sp_spec_l5Good x (by first | assumption | omega | (rw [List.length_take]; omega) | (have := bulkF_mem hb _ (getD_mem (d := default) (by omega)); assumption) | (unfold bulkS at *; omega) | (simp_all; done))) (.skip _ _ .nil) rfl) rfl rfl ?_
  refine Ch.step (v := (.d (.bool (!(sgB x))))) rfl (.pure (.not _ _ rfl rfl)) rfl rfl ?_
  refine Ch.step (v := (.d (.bool (!(sgB x))))) rfl (.pure (.move _ rfl rfl)) rfl rfl ?_
  cases h1 : (sgB x) with
  | true =>
    try have hx := sg_has h1
    try have hx8 := hx.eight
    try have hxf := hx.few
    try have hxl := hx.len
    try have hck := codes_at hx.codes
    refine Ch.step (v := (.agg [(.d (.slice false 2 (y.sigs.map Sgn.d))), (.d (.slice false 4 (y.gates.map Gat.d)))])) rfl (.pure (.loadPtrA _ _ rfl ag32 sz32 rfl rfl (Nat.le_of_ble_eq_true rfl) rfl)) rfl rfl ?_
    refine Ch.step (v := (.d (.bool (circB y)))) rfl (.call 15000 49 _ _ _ en49 rfl (.inl rfl) (.cons (.lend (.agg (.cons (.d _) (.cons (.d _) .nil)) rfl)) .nil) rfl rfl (sp_spec_l16Good y (by first | assumption | omega | (rw [List.length_take]; omega) | (have := bulkF_mem hb _ (getD_mem (d := default) (by omega)); assumption) | (unfold bulkS at *; omega) | (simp_all; done))) (.skip _ _ .nil) rfl) rfl rfl ?_
    refine Ch.step (v := (.d (.bool (!(circB y))))) rfl (.pure (.not _ _ rfl rfl)) rfl rfl ?_
    refine Ch.step (v := (.d (.bool (!(circB y))))) rfl (.pure (.pickF _ _ _ rfl rfl rfl)) rfl rfl ?_
    refine Ch.step (v := (.d (.bool (!(circB y))))) rfl (.pure (.move _ rfl rfl)) rfl rfl ?_
    cases h2 : (circB y) with
    | true =>
      try have hgf := gateFit_of h2
      refine Ch.step (v := (.ptr 2000 0)) rfl (.pure (.fldPtr _ _ _ rfl fld52_0 rfl)) rfl rfl ?_
      refine Ch.step (v := (.d (.slice false 2 (x.sigs.map Sgn.d)))) rfl (.pure (.loadPtr1 _ _ rfl ag29 rfl rfl rfl)) rfl rfl ?_
      refine Ch.step (v := (.ptr 3000 0)) rfl (.pure (.fldPtr _ _ _ rfl fld32_0 rfl)) rfl rfl ?_
      refine Ch.step (v := (.d (.slice false 2 (y.sigs.map Sgn.d)))) rfl (.pure (.loadPtr1 _ _ rfl ag29 rfl rfl rfl)) rfl rfl ?_
      refine Ch.step (v := (.d (.bool (decide (x.sigs = y.sigs))))) rfl (.call 23000 99 _ _ _ en99 rfl (.inl rfl) (.cons (.d _) (.cons (.d _) .nil)) rfl rfl (sp_spec_l2SameSignals x.sigs y.sigs (by first | assumption | omega | (rw [List.length_take]; omega) | (have := bulkF_mem hb _ (getD_mem (d := default) (by omega)); assumption) | (unfold bulkS at *; omega) | (simp_all; done))) (.skip _ _ (.skip _ _ .nil)) rfl) rfl rfl ?_
      refine Ch.step (v := (.d (.bool (!(decide (x.sigs = y.sigs)))))) rfl (.pure (.not _ _ rfl rfl)) rfl rfl ?_
      refine Ch.step (v := (.d (.bool (!(decide (x.sigs = y.sigs)))))) rfl (.pure (.pickF _ _ _ rfl rfl rfl)) rfl rfl ?_
      refine Ch.nil ?_
      refine T_cond (b := (!(decide (x.sigs = y.sigs)))) rfl (fun h3 => ?_) (fun h3 => ?_)
      · replace h3 := nott h3
        replace h3 := of_decide_eq_false h3
        refine T_seq ?_
        refine T_region hc ?_
        refine Ch.step (v := (.d (.bool false))) rfl (.pure (.assign _ rfl rfl)) rfl rfl ?_
        refine Ch.step (v := (.d (.bool false))) rfl (.pure (.assign _ rfl rfl)) rfl rfl ?_
        refine Ch.nil ?_
        refine T_ret ?_
        refine And.intro (.inr rfl) ?_
        exact Exists.intro [(.d (.bool false)), (.d (.bool false))] (Exists.intro [] (Exists.intro [] (And.intro (.cons (.tmp 4 rfl) (.cons (.tmp 5 rfl) .nil)) (And.intro (.cons (.any _) (.cons (.any _) .nil)) (And.intro (.tup (.cons (Exp.of (congrArg D.bool (by first | (exact (impV_no (k := k) (m := m) (by omega) (by omega) (by first | exact bad_of rfl (by assumption) (by first | (rw [← fire_bit hg6 hcf]; simp only [*, decide_true, decide_false, Bool.not_true, Bool.not_false]; done)) | (unfold badG fireB; simp_all; done) | (unfold badG; rw [← fire_bit hg6 hcf]; simp_all; done))).symm) | (exact (impB_yes h1 h2 (by assumption)).symm) | (exact (impV_yes h1 h2 (by assumption) (k := k) (by omega) hp0.2).symm) | (rw [impB, h1]; rfl) | (rw [impV, impB, h1]; rfl) | (rw [impB, h1, h2]; rfl) | (rw [impV, impB, h1, h2]; rfl) | (rw [impB, h1, h2, decide_eq_false h3]; rfl) | (rw [impV, impB, h1, h2, decide_eq_false h3]; rfl))) (.d _)) (.cons (Exp.of (congrArg D.bool (by first | (exact (impV_no (k := k) (m := m) (by omega) (by omega) (by first | exact bad_of rfl (by assumption) (by first | (rw [← fire_bit hg6 hcf]; simp only [*, decide_true, decide_false, Bool.not_true, Bool.not_false]; done)) | (unfold badG fireB; simp_all; done) | (unfold badG; rw [← fire_bit hg6 hcf]; simp_all; done))).symm) | (exact (impB_yes h1 h2 (by assumption)).symm) | (exact (impV_yes h1 h2 (by assumption) (k := k) (by omega) hp0.2).symm) | (rw [impB, h1]; rfl) | (rw [impV, impB, h1]; rfl) | (rw [impB, h1, h2]; rfl) | (rw [impV, impB, h1, h2]; rfl) | (rw [impB, h1, h2, decide_eq_false h3]; rfl) | (rw [impV, impB, h1, h2, decide_eq_false h3]; rfl))) (.d _)) .nil))) (And.intro rfl rfl))))))
      · replace h3 := notf h3
        replace h3 := of_decide_eq_true h3
        refine T_skip ?_
        refine T_seq ?_
        refine T_seq ?_
        refine T_region hc ?_
        refine Ch.step (v := (.ptr 2000 1)) rfl (.pure (.fldPtr _ _ _ rfl fld52_1 rfl)) rfl rfl ?_
        refine Ch.step (v := (.d (.slice false 1 (x.codes.map D.str)))) rfl (.pure (.loadPtr1 _ _ rfl ag43 rfl rfl rfl)) rfl rfl ?_
        refine Ch.step (v := (.d (.int .i64 ((x.codes.length : Nat) : Int)))) rfl (.pure (.len _ _ 9 rfl Try.underlying43 (.sh _ _) (by simp))) rfl rfl ?_
        refine Ch.step (v := (.d (.int .i64 0))) rfl (.pure (.move _ rfl rfl)) rfl rfl ?_
        refine Ch.nil ?_
        refine T_block ?_
        refine T_loop (ι := Nat) (fun k => { n := 58, sl := [(2, (.ptr 2000 0)), (3, (.ptr 3000 0)), (27, (.d (.slice false 1 (x.codes.map D.str)))), (28, (.d (.int .i64 ((x.codes.length : Nat) : Int)))), (29, (.d (.int .i64 ((k : Nat) : Int))))], hp := [(2000, (some (.box [(.d (.slice false 2 (x.sigs.map Sgn.d))), (.d (.slice false 1 (x.codes.map D.str))), (.d (.slice false 4 (x.arcs.map Arc.d)))]))), (3000, (some (.box [(.d (.slice false 2 (y.sigs.map Sgn.d))), (.d (.slice false 4 (y.gates.map Gat.d)))])))], pin := [] }) (fun k => k ≤ x.codes.length ∧ ∀ j, j < k → rowOk x y j = true) (fun k => x.codes.length - k) ⟨0, ⟨by omega, fun j hj => by omega⟩, (Wk.of rfl rfl (And.intro rfl (And.intro rfl (And.intro rfl (And.intro rfl (And.intro (vI (by first | rfl | omega | (simp; done) | (simp; omega))) trivial))))) (And.intro rfl (And.intro rfl trivial)))⟩ (fun k hp0 => ?_)
        refine T_seq ?_
        refine T_region hc ?_
        refine Ch.step (v := (.d (.bool (decide (((k : Nat) : Int) < ((x.codes.length : Nat) : Int)))))) rfl (.pure (.int _ _ _ _ _ rfl rfl rfl rfl)) rfl rfl ?_
        refine Ch.nil ?_
        refine T_seq ?_
        refine T_cond (b := (decide (((k : Nat) : Int) < ((x.codes.length : Nat) : Int)))) rfl (fun h4 => ?_) (fun h4 => ?_)
        · replace h4 := of_decide_eq_true h4
          try have hcf : codeFit x.sigs.length (x.codes.getD k default) := codeFit_of (hck (k : Int) (by omega) (by omega)).1
          refine T_skip ?_
          refine T_seq ?_
          refine T_block ?_
          refine T_seq ?_
          refine T_region hc ?_
          refine Ch.step (v := (.d (.int .i64 ((k : Nat) : Int)))) rfl (.pure (.move _ rfl rfl)) rfl rfl ?_
          refine Ch.step (v := (.d (.ref (.str (x.codes.getD k default))))) rfl (.pure (.idx _ _ _ 9 (k) rfl Try.underlying43 sz9 rfl rfl rfl (get_map _ (by first | omega | (simp only [List.length_map, List.length_append, List.length_take, List.length_drop, List.length_cons, List.length_nil]; omega) | (simp; omega) | (simp; done))))) rfl rfl ?_
          refine Ch.step (v := (.d (.str (x.codes.getD k default)))) rfl (.pure (.loadRef1 _ _ rfl ag9 rfl rfl)) rfl rfl ?_
          refine Ch.step (v := (.d (.int .i64 ((k : Nat) : Int)))) rfl (.pure (.assign _ rfl rfl)) rfl rfl ?_
          refine Ch.step (v := (.d (.str (x.codes.getD k default)))) rfl (.pure (.assign _ rfl rfl)) rfl rfl ?_
          refine Ch.nil ?_
          refine T_seq ?_
          refine T_region hc ?_
          refine Ch.step (v := (.ptr 3000 1)) rfl (.pure (.fldPtr _ _ _ rfl fld32_1 rfl)) rfl rfl ?_
          refine Ch.step (v := (.d (.slice false 4 (y.gates.map Gat.d)))) rfl (.pure (.loadPtr1 _ _ rfl ag30 rfl rfl rfl)) rfl rfl ?_
          refine Ch.step (v := (.d (.int .i64 ((y.gates.length : Nat) : Int)))) rfl (.pure (.len _ _ 77 rfl Try.underlying30 (.sh _ _) (by simp))) rfl rfl ?_
          refine Ch.step (v := (.d (.int .i64 0))) rfl (.pure (.move _ rfl rfl)) rfl rfl ?_
          refine Ch.nil ?_
          refine T_block ?_
          refine T_loop (ι := Nat) (fun m => { n := 58, sl := [(2, (.ptr 2000 0)), (3, (.ptr 3000 0)), (6, (.d (.int .i64 ((k : Nat) : Int)))), (7, (.d (.str (x.codes.getD k default)))), (27, (.d (.slice false 1 (x.codes.map D.str)))), (28, (.d (.int .i64 ((x.codes.length : Nat) : Int)))), (29, (.d (.int .i64 ((k : Nat) : Int)))), (35, (.d (.slice false 4 (y.gates.map Gat.d)))), (36, (.d (.int .i64 ((y.gates.length : Nat) : Int)))), (37, (.d (.int .i64 ((m : Nat) : Int))))], hp := [(2000, (some (.box [(.d (.slice false 2 (x.sigs.map Sgn.d))), (.d (.slice false 1 (x.codes.map D.str))), (.d (.slice false 4 (x.arcs.map Arc.d)))]))), (3000, (some (.box [(.d (.slice false 2 (y.sigs.map Sgn.d))), (.d (.slice false 4 (y.gates.map Gat.d)))])))], pin := [] }) (fun m => m ≤ y.gates.length ∧ ∀ j, j < m → (!badG x k (y.gates.getD j default)) = true) (fun m => y.gates.length - m) ⟨0, ⟨by omega, fun j hj => by omega⟩, (Wk.of rfl rfl (And.intro rfl (And.intro rfl (And.intro rfl (And.intro rfl (And.intro rfl (And.intro rfl (And.intro rfl (And.intro rfl (And.intro rfl (And.intro (vI (by first | rfl | omega | (simp; done) | (simp; omega))) trivial)))))))))) (And.intro rfl (And.intro rfl trivial)))⟩ (fun m hp1 => ?_)
          refine T_seq ?_
          refine T_region hc ?_
          refine Ch.step (v := (.d (.bool (decide (((m : Nat) : Int) < ((y.gates.length : Nat) : Int)))))) rfl (.pure (.int _ _ _ _ _ rfl rfl rfl rfl)) rfl rfl ?_
          refine Ch.nil ?_
          refine T_seq ?_
          refine T_cond (b := (decide (((m : Nat) : Int) < ((y.gates.length : Nat) : Int)))) rfl (fun h5 => ?_) (fun h5 => ?_)
          · replace h5 := of_decide_eq_true h5
            try have hg5 := hgf _ (getD_mem (l := y.gates) (j := m) (d := default) (by omega))
            try have hg6 : gateFit x.sigs.length (y.gates.getD m default) := by (rw [h3]; exact hg5)
            try have hgs := hg6.2.1
            try have hfb := fire_bitN hg6 hcf
            try have hcfl := hcf.1
            refine T_skip ?_
            refine T_seq ?_
            refine T_block ?_
            refine T_seq ?_
            refine T_region hc ?_
            refine Ch.step (v := (.d (.ref (.agg [(.int .i64 ((y.gates.getD m default).sig)), (.int .i64 ((y.gates.getD m default).kind)), (.slice false 1 (((y.gates.getD m default).ups).map D.str)), (.slice false 1 (((y.gates.getD m default).downs).map D.str))])))) rfl (.pure (.idx _ _ _ 77 (m) rfl Try.underlying30 sz77 rfl rfl rfl (get_map _ (by first | omega | (simp only [List.length_map, List.length_append, List.length_take, List.length_drop, List.length_cons, List.length_nil]; omega) | (simp; omega) | (simp; done))))) rfl rfl ?_
            refine Ch.step (v := (.d (.agg [(.int .i64 ((y.gates.getD m default).sig)), (.int .i64 ((y.gates.getD m default).kind)), (.slice false 1 (((y.gates.getD m default).ups).map D.str)), (.slice false 1 (((y.gates.getD m default).downs).map D.str))]))) rfl (.pure (.loadRefA _ _ rfl ag77 sz77 rfl)) rfl rfl ?_
            refine Ch.step (v := (.ptr 9000 0)) rfl (.alloc 9000 _ rfl zer77) rfl rfl ?_
            refine Ch.step (v := .junk) rfl (.storePtr _ _ _ rfl rfl rfl (.aggD _) sz77 (Nat.le_of_ble_eq_true rfl)) rfl rfl ?_
            refine Ch.nil ?_
            refine T_seq ?_
            refine T_regionD hc (by kernel_rfl) ?_
            refine ChD.step (v := (.agg [(.d (.int .i64 ((y.gates.getD m default).sig))), (.d (.int .i64 ((y.gates.getD m default).kind))), (.d (.slice false 1 (((y.gates.getD m default).ups).map D.str))), (.d (.slice false 1 (((y.gates.getD m default).downs).map D.str)))])) [9000] rfl (.pure (.loadPtrA _ _ rfl ag77 sz77 rfl rfl (Nat.le_of_ble_eq_true rfl) rfl)) rfl rfl ?_
            refine ChD.step (v := (.d (.str (x.codes.getD k default)))) [] rfl (.pure (.move _ rfl rfl)) rfl rfl ?_
            refine ChD.step (v := (.d (.bool (nextB (y.gates.getD m default) (x.codes.getD k default))))) [] rfl (.call 43000 52 _ _ _ en52 rfl (.inl rfl) (.cons (.lend (.agg (.cons (.d _) (.cons (.d _) (.cons (.d _) (.cons (.d _) .nil)))) rfl)) (.cons (.d _) .nil)) rfl rfl (sp_spec_l16Next (y.gates.getD m default) (x.codes.getD k default) _ (by assumption) (by assumption)) (.skip _ _ (.skip _ _ .nil)) rfl) rfl rfl ?_
            refine ChD.step (v := (.d (.str (x.codes.getD k default)))) [] rfl (.pure (.move _ rfl rfl)) rfl rfl ?_
            refine ChD.step (v := (.ptr 9000 0)) [] rfl (.pure (.fldPtr _ _ _ rfl fld77_0 rfl)) rfl rfl ?_
            refine ChD.step (v := (.d (.int .i64 ((y.gates.getD m default).sig)))) [9000] rfl (.pure (.loadPtr1 _ _ rfl ag3 rfl rfl rfl)) rfl rfl ?_
            refine ChD.step (v := (.d (.int .u8 (((x.codes.getD k default).getD ((((y.gates.getD m default).sig)).toNat) 0).toNat : Int)))) [] rfl (.pure (.idxStr _ _ _ ((((y.gates.getD m default).sig)).toNat) rfl Try.underlying9 rfl rfl (by omega) (get_str (by first | omega | (simp only [List.length_map, List.length_append, List.length_take, List.length_drop, List.length_cons, List.length_nil]; omega) | (simp; omega) | (simp; done))))) rfl rfl ?_
            refine ChD.step (v := (.d (.bool (decide ((((x.codes.getD k default).getD ((((y.gates.getD m default).sig)).toNat) 0) : UInt8) = 49))))) [] rfl (.pure (.int _ _ _ _ _ rfl rfl rfl (u8_eql (((x.codes.getD k default).getD ((((y.gates.getD m default).sig)).toNat) 0) : UInt8) 49 rfl rfl))) rfl rfl ?_
            refine ChD.step (v := (.d (.bool (!(decide ((nextB (y.gates.getD m default) (x.codes.getD k default)) = (decide ((((x.codes.getD k default).getD ((((y.gates.getD m default).sig)).toNat) 0) : UInt8) = 49)))))))) [] rfl (.pure (.neB _ _ _ _ rfl Try.underlying4 rfl rfl)) rfl rfl ?_
            refine ChD.step (v := (.agg [(.d (.slice false 2 (x.sigs.map Sgn.d))), (.d (.slice false 1 (x.codes.map D.str))), (.d (.slice false 4 (x.arcs.map Arc.d)))])) [2000] rfl (.pure (.loadPtrA _ _ rfl ag52 sz52 rfl rfl (Nat.le_of_ble_eq_true rfl) rfl)) rfl rfl ?_
            refine ChD.step (v := (.d (.int .i64 ((k : Nat) : Int)))) [] rfl (.pure (.move _ rfl rfl)) rfl rfl ?_
            refine ChD.step (v := (.ptr 9000 0)) [] rfl (.pure (.fldPtr _ _ _ rfl fld77_0 rfl)) rfl rfl ?_
            refine ChD.step (v := (.d (.int .i64 ((y.gates.getD m default).sig)))) [9000] rfl (.pure (.loadPtr1 _ _ rfl ag3 rfl rfl rfl)) rfl rfl ?_
            refine ChD.step (v := (.d (.bool (excB x ((k : Nat) : Int) ((y.gates.getD m default).sig))))) [] rfl (.call 54000 68 _ _ _ en68 rfl (.inl rfl) (.cons (.lend (.agg (.cons (.d _) (.cons (.d _) (.cons (.d _) .nil))) rfl)) (.cons (.d _) (.cons (.d _) .nil))) rfl rfl (sp_spec_l5Excited x ((k : Nat) : Int) ((y.gates.getD m default).sig) (by first | assumption | omega | (rw [List.length_take]; omega) | (have := bulkF_mem hb _ (getD_mem (d := default) (by omega)); assumption) | (unfold bulkS at *; omega) | (simp_all; done))) (.skip _ _ (.skip _ _ (.skip _ _ .nil))) rfl) rfl rfl ?_
            refine ChD.step (v := (.d (.bool (!(decide ((!(decide ((nextB (y.gates.getD m default) (x.codes.getD k default)) = (decide ((((x.codes.getD k default).getD ((((y.gates.getD m default).sig)).toNat) 0) : UInt8) = 49))))) = (excB x ((k : Nat) : Int) ((y.gates.getD m default).sig)))))))) [] rfl (.pure (.neB _ _ _ _ rfl Try.underlying4 rfl rfl)) rfl rfl ?_
            refine ChD.nil (And.intro ?_ (by kernel_rfl))
            refine T_cond (b := (!(decide ((!(decide ((nextB (y.gates.getD m default) (x.codes.getD k default)) = (decide ((((x.codes.getD k default).getD ((((y.gates.getD m default).sig)).toNat) 0) : UInt8) = 49))))) = (excB x ((k : Nat) : Int) ((y.gates.getD m default).sig)))))) rfl (fun h6 => ?_) (fun h6 => ?_)
            · replace h6 := nott h6
              replace h6 := of_decide_eq_false h6
              refine T_seq ?_
              refine T_region hc ?_
              refine Ch.step (v := (.d (.bool false))) rfl (.pure (.assign _ rfl rfl)) rfl rfl ?_
              refine Ch.step (v := (.d (.bool true))) rfl (.pure (.assign _ rfl rfl)) rfl rfl ?_
              refine Ch.nil ?_
              refine T_ret ?_
              refine And.intro (.inr rfl) ?_
              exact Exists.intro [(.d (.bool false)), (.d (.bool true))] (Exists.intro [] (Exists.intro [] (And.intro (.cons (.tmp 4 rfl) (.cons (.tmp 5 rfl) .nil)) (And.intro (.cons (.any _) (.cons (.any _) .nil)) (And.intro (.tup (.cons (Exp.of (congrArg D.bool (by first | (exact (impV_no (k := k) (m := m) (by omega) (by omega) (by first | exact bad_of rfl (by assumption) (by first | (rw [← fire_bit hg6 hcf]; simp only [*, decide_true, decide_false, Bool.not_true, Bool.not_false]; done)) | (unfold badG fireB; simp_all; done) | (unfold badG; rw [← fire_bit hg6 hcf]; simp_all; done))).symm) | (exact (impB_yes h1 h2 (by assumption)).symm) | (exact (impV_yes h1 h2 (by assumption) (k := k) (by omega) hp0.2).symm) | (rw [impB, h1]; rfl) | (rw [impV, impB, h1]; rfl) | (rw [impB, h1, h2]; rfl) | (rw [impV, impB, h1, h2]; rfl) | (rw [impB, h1, h2, decide_eq_false h3]; rfl) | (rw [impV, impB, h1, h2, decide_eq_false h3]; rfl))) (.d _)) (.cons (Exp.of (congrArg D.bool (by first | (exact (impV_no (k := k) (m := m) (by omega) (by omega) (by first | exact bad_of rfl (by assumption) (by first | (rw [← fire_bit hg6 hcf]; simp only [*, decide_true, decide_false, Bool.not_true, Bool.not_false]; done)) | (unfold badG fireB; simp_all; done) | (unfold badG; rw [← fire_bit hg6 hcf]; simp_all; done))).symm) | (exact (impB_yes h1 h2 (by assumption)).symm) | (exact (impV_yes h1 h2 (by assumption) (k := k) (by omega) hp0.2).symm) | (rw [impB, h1]; rfl) | (rw [impV, impB, h1]; rfl) | (rw [impB, h1, h2]; rfl) | (rw [impV, impB, h1, h2]; rfl) | (rw [impB, h1, h2, decide_eq_false h3]; rfl) | (rw [impV, impB, h1, h2, decide_eq_false h3]; rfl))) (.d _)) .nil))) (And.intro rfl rfl))))))
            · replace h6 := notf h6
              replace h6 := of_decide_eq_true h6
              refine T_skip ?_
              refine T_region hc ?_
              refine Ch.step (v := (.d (.int .i64 (((m : Nat) : Int) + 1)))) rfl (.pure (.int _ _ _ _ _ rfl rfl rfl (intV_add (by first | omega | (simp only [List.length_map, List.length_append, List.length_take, List.length_drop, List.length_cons, List.length_nil]; omega) | (simp; omega) | (simp; done)) (by first | omega | (simp only [List.length_map, List.length_append, List.length_take, List.length_drop, List.length_cons, List.length_nil]; omega) | (simp; omega) | (simp; done))))) rfl rfl ?_
              refine Ch.step (v := (.d (.int .i64 (((m : Nat) : Int) + 1)))) rfl (.pure (.move _ rfl rfl)) rfl rfl ?_
              refine Ch.nil ?_
              refine Exists.intro (m + 1) (And.intro ⟨by omega, upto_succ hp1.2 (by rw [show badG x k (y.gates.getD m default) = false from (by first | exact bad_of rfl (by assumption) (by first | (rw [← fire_bit hg6 hcf]; simp only [*, decide_true, decide_false, Bool.not_true, Bool.not_false]; done)) | (unfold badG fireB; simp_all; done) | (unfold badG; rw [← fire_bit hg6 hcf]; simp_all; done))]; rfl)⟩ (And.intro (by first | omega | (dsimp only; omega)) (Wk.of rfl rfl (And.intro rfl (And.intro rfl (And.intro rfl (And.intro rfl (And.intro rfl (And.intro rfl (And.intro rfl (And.intro rfl (And.intro rfl (And.intro (vI (by first | rfl | omega | (simp; done) | (simp; omega))) trivial)))))))))) (And.intro rfl (And.intro rfl trivial)))))
          · replace h5 := of_decide_eq_false h5
            try have hg5 := hgf _ (getD_mem (l := y.gates) (j := m) (d := default) (by omega))
            try have hg6 : gateFit x.sigs.length (y.gates.getD m default) := by (rw [h3]; exact hg5)
            try have hgs := hg6.2.1
            try have hfb := fire_bitN hg6 hcf
            try have hcfl := hcf.1
            refine T_exit ?_
            refine T_region hc ?_
            refine Ch.step (v := (.d (.int .i64 (((k : Nat) : Int) + 1)))) rfl (.pure (.int _ _ _ _ _ rfl rfl rfl (intV_add (by first | omega | (simp only [List.length_map, List.length_append, List.length_take, List.length_drop, List.length_cons, List.length_nil]; omega) | (simp; omega) | (simp; done)) (by first | omega | (simp only [List.length_map, List.length_append, List.length_take, List.length_drop, List.length_cons, List.length_nil]; omega) | (simp; omega) | (simp; done))))) rfl rfl ?_
            refine Ch.step (v := (.d (.int .i64 (((k : Nat) : Int) + 1)))) rfl (.pure (.move _ rfl rfl)) rfl rfl ?_
            refine Ch.nil ?_
            refine Exists.intro (k + 1) (And.intro ⟨by omega, upto_succ hp0.2 (allB_of fun j hj => hp1.2 j (by omega))⟩ (And.intro (by first | omega | (dsimp only; omega)) (Wk.of rfl rfl (And.intro rfl (And.intro rfl (And.intro rfl (And.intro rfl (And.intro (vI (by first | rfl | omega | (simp; done) | (simp; omega))) trivial))))) (And.intro rfl (And.intro rfl trivial)))))
        · replace h4 := of_decide_eq_false h4
          try have hcf : codeFit x.sigs.length (x.codes.getD k default) := codeFit_of (hck (k : Int) (by omega) (by omega)).1
          refine T_exit ?_
          refine T_seq ?_
          refine T_region hc ?_
          refine Ch.step (v := (.d (.bool true))) rfl (.pure (.assign _ rfl rfl)) rfl rfl ?_
          refine Ch.step (v := (.d (.bool true))) rfl (.pure (.assign _ rfl rfl)) rfl rfl ?_
          refine Ch.nil ?_
          refine T_ret ?_
          refine And.intro (.inr rfl) ?_
          exact Exists.intro [(.d (.bool true)), (.d (.bool true))] (Exists.intro [] (Exists.intro [] (And.intro (.cons (.tmp 4 rfl) (.cons (.tmp 5 rfl) .nil)) (And.intro (.cons (.any _) (.cons (.any _) .nil)) (And.intro (.tup (.cons (Exp.of (congrArg D.bool (by first | (exact (impV_no (k := k) (m := m) (by omega) (by omega) (by first | exact bad_of rfl (by assumption) (by first | (rw [← fire_bit hg6 hcf]; simp only [*, decide_true, decide_false, Bool.not_true, Bool.not_false]; done)) | (unfold badG fireB; simp_all; done) | (unfold badG; rw [← fire_bit hg6 hcf]; simp_all; done))).symm) | (exact (impB_yes h1 h2 (by assumption)).symm) | (exact (impV_yes h1 h2 (by assumption) (k := k) (by omega) hp0.2).symm) | (rw [impB, h1]; rfl) | (rw [impV, impB, h1]; rfl) | (rw [impB, h1, h2]; rfl) | (rw [impV, impB, h1, h2]; rfl) | (rw [impB, h1, h2, decide_eq_false h3]; rfl) | (rw [impV, impB, h1, h2, decide_eq_false h3]; rfl))) (.d _)) (.cons (Exp.of (congrArg D.bool (by first | (exact (impV_no (k := k) (m := m) (by omega) (by omega) (by first | exact bad_of rfl (by assumption) (by first | (rw [← fire_bit hg6 hcf]; simp only [*, decide_true, decide_false, Bool.not_true, Bool.not_false]; done)) | (unfold badG fireB; simp_all; done) | (unfold badG; rw [← fire_bit hg6 hcf]; simp_all; done))).symm) | (exact (impB_yes h1 h2 (by assumption)).symm) | (exact (impV_yes h1 h2 (by assumption) (k := k) (by omega) hp0.2).symm) | (rw [impB, h1]; rfl) | (rw [impV, impB, h1]; rfl) | (rw [impB, h1, h2]; rfl) | (rw [impV, impB, h1, h2]; rfl) | (rw [impB, h1, h2, decide_eq_false h3]; rfl) | (rw [impV, impB, h1, h2, decide_eq_false h3]; rfl))) (.d _)) .nil))) (And.intro rfl rfl))))))
    | false =>
      try have hgf := gateFit_of h2
      refine Ch.skip rfl rfl ?_
      refine Ch.skip rfl rfl ?_
      refine Ch.skip rfl rfl ?_
      refine Ch.skip rfl rfl ?_
      refine Ch.skip rfl rfl ?_
      refine Ch.skip rfl rfl ?_
      refine Ch.step (v := (.d (.bool true))) rfl (.pure (.pickT _ _ _ rfl rfl rfl)) rfl rfl ?_
      refine Ch.nil ?_
      refine T_cond (b := true) rfl (fun _ => ?_) (fun h => nomatch h)
      refine T_seq ?_
      refine T_region hc ?_
      refine Ch.step (v := (.d (.bool false))) rfl (.pure (.assign _ rfl rfl)) rfl rfl ?_
      refine Ch.step (v := (.d (.bool false))) rfl (.pure (.assign _ rfl rfl)) rfl rfl ?_
      refine Ch.nil ?_
      refine T_ret ?_
      refine And.intro (.inr rfl) ?_
      exact Exists.intro [(.d (.bool false)), (.d (.bool false))] (Exists.intro [] (Exists.intro [] (And.intro (.cons (.tmp 4 rfl) (.cons (.tmp 5 rfl) .nil)) (And.intro (.cons (.any _) (.cons (.any _) .nil)) (And.intro (.tup (.cons (Exp.of (congrArg D.bool (by first | (exact (impV_no (k := k) (m := m) (by omega) (by omega) (by first | exact bad_of rfl (by assumption) (by first | (rw [← fire_bit hg6 hcf]; simp only [*, decide_true, decide_false, Bool.not_true, Bool.not_false]; done)) | (unfold badG fireB; simp_all; done) | (unfold badG; rw [← fire_bit hg6 hcf]; simp_all; done))).symm) | (exact (impB_yes h1 h2 (by assumption)).symm) | (exact (impV_yes h1 h2 (by assumption) (k := k) (by omega) hp0.2).symm) | (rw [impB, h1]; rfl) | (rw [impV, impB, h1]; rfl) | (rw [impB, h1, h2]; rfl) | (rw [impV, impB, h1, h2]; rfl) | (rw [impB, h1, h2, decide_eq_false h3]; rfl) | (rw [impV, impB, h1, h2, decide_eq_false h3]; rfl))) (.d _)) (.cons (Exp.of (congrArg D.bool (by first | (exact (impV_no (k := k) (m := m) (by omega) (by omega) (by first | exact bad_of rfl (by assumption) (by first | (rw [← fire_bit hg6 hcf]; simp only [*, decide_true, decide_false, Bool.not_true, Bool.not_false]; done)) | (unfold badG fireB; simp_all; done) | (unfold badG; rw [← fire_bit hg6 hcf]; simp_all; done))).symm) | (exact (impB_yes h1 h2 (by assumption)).symm) | (exact (impV_yes h1 h2 (by assumption) (k := k) (by omega) hp0.2).symm) | (rw [impB, h1]; rfl) | (rw [impV, impB, h1]; rfl) | (rw [impB, h1, h2]; rfl) | (rw [impV, impB, h1, h2]; rfl) | (rw [impB, h1, h2, decide_eq_false h3]; rfl) | (rw [impV, impB, h1, h2, decide_eq_false h3]; rfl))) (.d _)) .nil))) (And.intro rfl rfl))))))
  | false =>
    try have hx := sg_has h1
    try have hx8 := hx.eight
    try have hxf := hx.few
    try have hxl := hx.len
    try have hck := codes_at hx.codes
    refine Ch.skip rfl rfl ?_
    refine Ch.skip rfl rfl ?_
    refine Ch.skip rfl rfl ?_
    refine Ch.step (v := (.d (.bool true))) rfl (.pure (.pickT _ _ _ rfl rfl rfl)) rfl rfl ?_
    refine Ch.step (v := (.d (.bool true))) rfl (.pure (.move _ rfl rfl)) rfl rfl ?_
    refine Ch.skip rfl rfl ?_
    refine Ch.skip rfl rfl ?_
    refine Ch.skip rfl rfl ?_
    refine Ch.skip rfl rfl ?_
    refine Ch.skip rfl rfl ?_
    refine Ch.skip rfl rfl ?_
    refine Ch.step (v := (.d (.bool true))) rfl (.pure (.pickT _ _ _ rfl rfl rfl)) rfl rfl ?_
    refine Ch.nil ?_
    refine T_cond (b := true) rfl (fun _ => ?_) (fun h => nomatch h)
    refine T_seq ?_
    refine T_region hc ?_
    refine Ch.step (v := (.d (.bool false))) rfl (.pure (.assign _ rfl rfl)) rfl rfl ?_
    refine Ch.step (v := (.d (.bool false))) rfl (.pure (.assign _ rfl rfl)) rfl rfl ?_
    refine Ch.nil ?_
    refine T_ret ?_
    refine And.intro (.inr rfl) ?_
    exact Exists.intro [(.d (.bool false)), (.d (.bool false))] (Exists.intro [] (Exists.intro [] (And.intro (.cons (.tmp 4 rfl) (.cons (.tmp 5 rfl) .nil)) (And.intro (.cons (.any _) (.cons (.any _) .nil)) (And.intro (.tup (.cons (Exp.of (congrArg D.bool (by first | (exact (impV_no (k := k) (m := m) (by omega) (by omega) (by first | exact bad_of rfl (by assumption) (by first | (rw [← fire_bit hg6 hcf]; simp only [*, decide_true, decide_false, Bool.not_true, Bool.not_false]; done)) | (unfold badG fireB; simp_all; done) | (unfold badG; rw [← fire_bit hg6 hcf]; simp_all; done))).symm) | (exact (impB_yes h1 h2 (by assumption)).symm) | (exact (impV_yes h1 h2 (by assumption) (k := k) (by omega) hp0.2).symm) | (rw [impB, h1]; rfl) | (rw [impV, impB, h1]; rfl) | (rw [impB, h1, h2]; rfl) | (rw [impV, impB, h1, h2]; rfl) | (rw [impB, h1, h2, decide_eq_false h3]; rfl) | (rw [impV, impB, h1, h2, decide_eq_false h3]; rfl))) (.d _)) (.cons (Exp.of (congrArg D.bool (by first | (exact (impV_no (k := k) (m := m) (by omega) (by omega) (by first | exact bad_of rfl (by assumption) (by first | (rw [← fire_bit hg6 hcf]; simp only [*, decide_true, decide_false, Bool.not_true, Bool.not_false]; done)) | (unfold badG fireB; simp_all; done) | (unfold badG; rw [← fire_bit hg6 hcf]; simp_all; done))).symm) | (exact (impB_yes h1 h2 (by assumption)).symm) | (exact (impV_yes h1 h2 (by assumption) (k := k) (by omega) hp0.2).symm) | (rw [impB, h1]; rfl) | (rw [impV, impB, h1]; rfl) | (rw [impB, h1, h2]; rfl) | (rw [impV, impB, h1, h2]; rfl) | (rw [impB, h1, h2, decide_eq_false h3]; rfl) | (rw [impV, impB, h1, h2, decide_eq_false h3]; rfl))) (.d _)) .nil))) (And.intro rfl rfl))))))

set_option maxHeartbeats 1000000 in
theorem sp_laws_FnExactImplements (x : Sgr) (y : Cir) (hwx : x.wide) (hwy : y.wide) : Sp Try.prog 12 [(.agg [(.slice false 2 (x.sigs.map Sgn.d)), (.slice false 1 (x.codes.map D.str)), (.slice false 4 (x.arcs.map Arc.d))]), (.agg [(.slice false 2 (y.sigs.map Sgn.d)), (.slice false 4 (y.gates.map Gat.d))])] [.any, .any] (.bool true) := by
  refine Sp_intro (lend := true) Try.func12 rfl rfl rfl (fun _ => rfl) (fun c hc hX => ?_)
  refine T_seq ?_
  refine T_region hc ?_
  refine Ch.step (v := (.ptr 2000 0)) rfl (.box 2000 _ _ rfl (.aggD _)) rfl rfl ?_
  refine Ch.step (v := (.ptr 3000 0)) rfl (.box 3000 _ _ rfl (.aggD _)) rfl rfl ?_
  refine Ch.step (v := (.d (.bool false))) rfl (.pure (.assign _ rfl rfl)) rfl rfl ?_
  refine Ch.nil ?_
  refine T_seq ?_
  refine T_region hc ?_
  refine Ch.step (v := (.d (.int .i64 1048576))) rfl (.pure (.assign _ rfl rfl)) rfl rfl ?_
  refine Ch.nil ?_
  refine T_seq ?_
  refine T_region hc ?_
  refine Ch.step (v := (.agg [(.d (.slice false 2 (x.sigs.map Sgn.d))), (.d (.slice false 1 (x.codes.map D.str))), (.d (.slice false 4 (x.arcs.map Arc.d)))])) rfl (.pure (.loadPtrA _ _ rfl ag46 sz46 rfl rfl (Nat.le_of_ble_eq_true rfl) rfl)) rfl rfl ?_
  refine Ch.step (v := (.d (.int .i64 1048576))) rfl (.pure (.move _ rfl rfl)) rfl rfl ?_
  refine Ch.step (v := (.d (.int .i64 (szR x.bulk 1048576)))) rfl (.call 14000 24 _ _ _ en24 rfl (.inl rfl) (.cons (.lend (.agg (.cons (.d _) (.cons (.d _) (.cons (.d _) .nil))) rfl)) (.cons (.d _) .nil)) rfl rfl (sp_laws_szStateGraph x 1048576 (by first | omega | assumption | (exact hx _ (getD_mem (by omega))) | (exact hx _ (by assumption)) | (exact Nat.le_trans (hx _ (by assumption)) (by omega)) | (simp only [List.length_append, List.length_take, List.length_drop, List.length_cons, List.length_nil]; omega) | (simp_all; done)) (by first | omega | assumption | (exact hx _ (getD_mem (by omega))) | (exact hx _ (by assumption)) | (exact Nat.le_trans (hx _ (by assumption)) (by omega)) | (simp only [List.length_append, List.length_take, List.length_drop, List.length_cons, List.length_nil]; omega) | (simp_all; done)) (by first | assumption | omega | trivial | (simp_all; done) | (exact fun _ _ => trivial) | (exact hx _ (by assumption)) | (refine ⟨?_, ?_⟩ <;> first | assumption | omega))) (.skip _ _ (.skip _ _ .nil)) rfl) rfl rfl ?_
  refine Ch.step (v := (.d (.int .i64 (szR x.bulk 1048576)))) rfl (.pure (.assign _ rfl rfl)) rfl rfl ?_
  refine Ch.nil ?_
  refine T_seq ?_
  refine T_seq ?_
  refine T_region hc ?_
  refine Ch.step (v := (.d (.int .i64 (szR x.bulk 1048576)))) rfl (.pure (.move _ rfl rfl)) rfl rfl ?_
  refine Ch.step (v := (.d (.bool (decide ((szR x.bulk 1048576) < 0))))) rfl (.pure (.int _ _ _ _ _ rfl rfl rfl rfl)) rfl rfl ?_
  refine Ch.nil ?_
  refine T_cond (b := (decide ((szR x.bulk 1048576) < 0))) rfl (fun h1 => ?_) (fun h1 => ?_)
  · replace h1 := of_decide_eq_true h1
    try have hz := szR_ok (t := x.bulk) (left := 1048576) h1 (by omega)
    try have hb : x.bulk ≤ 1048576 := by omega
    try have hl := hz.2
    refine T_seq ?_
    refine T_region hc ?_
    refine Ch.step (v := (.d (.bool true))) rfl (.pure (.assign _ rfl rfl)) rfl rfl ?_
    refine Ch.nil ?_
    refine T_ret ?_
    refine And.intro (.inr rfl) ?_
    exact Exists.intro [(.d (.bool true))] (Exists.intro [] (Exists.intro [] (And.intro (.cons (.tmp 4 rfl) .nil) (And.intro (.cons (.any _) (.cons (.any _) .nil)) (And.intro (.d _) (And.intro rfl rfl))))))
  · replace h1 := of_decide_eq_false h1
    try have hz := szR_ok (t := x.bulk) (left := 1048576) h1 (by omega)
    try have hb : x.bulk ≤ 1048576 := by omega
    try have hl := hz.2
    refine T_skip ?_
    refine T_seq ?_
    refine T_region hc ?_
    refine Ch.step (v := (.agg [(.d (.slice false 2 (y.sigs.map Sgn.d))), (.d (.slice false 4 (y.gates.map Gat.d)))])) rfl (.pure (.loadPtrA _ _ rfl ag25 sz25 rfl rfl (Nat.le_of_ble_eq_true rfl) rfl)) rfl rfl ?_
    refine Ch.step (v := (.d (.int .i64 (szR x.bulk 1048576)))) rfl (.pure (.move _ rfl rfl)) rfl rfl ?_
    refine Ch.step (v := (.d (.int .i64 (szR y.bulk (szR x.bulk 1048576))))) rfl (.call 19000 13 _ _ _ en13 rfl (.inl rfl) (.cons (.lend (.agg (.cons (.d _) (.cons (.d _) .nil)) rfl)) (.cons (.d _) .nil)) rfl rfl (sp_laws_szCircuit y (szR x.bulk 1048576) (by first | omega | assumption | (exact hx _ (getD_mem (by omega))) | (exact hx _ (by assumption)) | (exact Nat.le_trans (hx _ (by assumption)) (by omega)) | (simp only [List.length_append, List.length_take, List.length_drop, List.length_cons, List.length_nil]; omega) | (simp_all; done)) (by first | omega | assumption | (exact hx _ (getD_mem (by omega))) | (exact hx _ (by assumption)) | (exact Nat.le_trans (hx _ (by assumption)) (by omega)) | (simp only [List.length_append, List.length_take, List.length_drop, List.length_cons, List.length_nil]; omega) | (simp_all; done)) (by first | assumption | omega | trivial | (simp_all; done) | (exact fun _ _ => trivial) | (exact hx _ (by assumption)) | (refine ⟨?_, ?_⟩ <;> first | assumption | omega))) (.skip _ _ (.skip _ _ .nil)) rfl) rfl rfl ?_
    refine Ch.step (v := (.d (.int .i64 (szR y.bulk (szR x.bulk 1048576))))) rfl (.pure (.assign _ rfl rfl)) rfl rfl ?_
    refine Ch.nil ?_
    refine T_seq ?_
    refine T_seq ?_
    refine T_region hc ?_
    refine Ch.step (v := (.d (.int .i64 (szR y.bulk (szR x.bulk 1048576))))) rfl (.pure (.move _ rfl rfl)) rfl rfl ?_
    refine Ch.step (v := (.d (.bool (decide ((szR y.bulk (szR x.bulk 1048576)) < 0))))) rfl (.pure (.int _ _ _ _ _ rfl rfl rfl rfl)) rfl rfl ?_
    refine Ch.nil ?_
    refine T_cond (b := (decide ((szR y.bulk (szR x.bulk 1048576)) < 0))) rfl (fun h2 => ?_) (fun h2 => ?_)
    · replace h2 := of_decide_eq_true h2
      try have hzy := szR_ok (t := y.bulk) (left := (szR x.bulk 1048576)) h2 (by omega)
      try have hby : y.bulk ≤ 1048576 := by omega
      try have hly := hzy.2
      refine T_seq ?_
      refine T_region hc ?_
      refine Ch.step (v := (.d (.bool true))) rfl (.pure (.assign _ rfl rfl)) rfl rfl ?_
      refine Ch.nil ?_
      refine T_ret ?_
      refine And.intro (.inr rfl) ?_
      exact Exists.intro [(.d (.bool true))] (Exists.intro [] (Exists.intro [] (And.intro (.cons (.tmp 4 rfl) .nil) (And.intro (.cons (.any _) (.cons (.any _) .nil)) (And.intro (.d _) (And.intro rfl rfl))))))
    · replace h2 := of_decide_eq_false h2
      try have hzy := szR_ok (t := y.bulk) (left := (szR x.bulk 1048576)) h2 (by omega)
      try have hby : y.bulk ≤ 1048576 := by omega
      try have hly := hzy.2
      refine T_skip ?_
      refine T_seq ?_
      refine T_regionD hc (by kernel_rfl) ?_
      refine ChD.step (v := (.agg [(.d (.slice false 2 (x.sigs.map Sgn.d))), (.d (.slice false 1 (x.codes.map D.str))), (.d (.slice false 4 (x.arcs.map Arc.d)))])) [2000] rfl (.pure (.loadPtrA _ _ rfl ag46 sz46 rfl rfl (Nat.le_of_ble_eq_true rfl) rfl)) rfl rfl ?_
      refine ChD.step (v := (.agg [(.row 24000), (.row 24001), (.row 24002)])) [] rfl (.call 24000 26 _ _ _ en26 rfl (.inl rfl) (.cons (.lend (.agg (.cons (.d _) (.cons (.d _) (.cons (.d _) .nil))) rfl)) .nil) rfl (sol (Sgr.sol _) rfl) (sp_laws_toStateGraph x (by first | assumption | omega | (rw [List.length_take]; omega) | (have := bulkF_mem hb _ (getD_mem (d := default) (by omega)); assumption) | (unfold bulkS at *; omega) | (simp_all; done))) (.skip _ _ .nil) rfl) rfl rfl ?_
      refine ChD.step (v := (.agg [(.d (.slice false 2 (y.sigs.map Sgn.d))), (.d (.slice false 4 (y.gates.map Gat.d)))])) [3000] rfl (.pure (.loadPtrA _ _ rfl ag25 sz25 rfl rfl (Nat.le_of_ble_eq_true rfl) rfl)) rfl rfl ?_
      refine ChD.step (v := (.agg [(.row 26000), (.row 26001)])) [] rfl (.call 26000 15 _ _ _ en15 rfl (.inl rfl) (.cons (.lend (.agg (.cons (.d _) (.cons (.d _) .nil)) rfl)) .nil) rfl (sol (Cir.sol _) rfl) (sp_laws_toCircuit y (by first | assumption | omega | (rw [List.length_take]; omega) | (have := bulkF_mem hb _ (getD_mem (d := default) (by omega)); assumption) | (unfold bulkS at *; omega) | (simp_all; done))) (.skip _ _ .nil) rfl) rfl rfl ?_
      refine ChD.step (v := (.tup [(.d (.bool (impV x y))), (.d (.bool (impB x y)))])) [24000, 24001, 24002, 26000, 26001] rfl (.call 27000 45 _ _ _ en45 rfl (.inl rfl) (.cons (.lend (.agg (.cons (.row rfl (frozs_map (fun _ => rfl) _)) (.cons (.row rfl (frozs_map (fun _ => rfl) _)) (.cons (.row rfl (frozs_map (fun _ => rfl) _)) .nil))) rfl)) (.cons (.lend (.agg (.cons (.row rfl (frozs_map (fun _ => rfl) _)) (.cons (.row rfl (frozs_to Gat.fz _)) .nil)) rfl)) .nil)) rfl rfl (sp_spec_Implements x y (by first | assumption | omega | (rw [List.length_take]; omega) | (have := bulkF_mem hb _ (getD_mem (d := default) (by omega)); assumption) | (unfold bulkS at *; omega) | (simp_all; done)) (by first | assumption | omega | (rw [List.length_take]; omega) | (have := bulkF_mem hb _ (getD_mem (d := default) (by omega)); assumption) | (unfold bulkS at *; omega) | (simp_all; done))) (.skip _ _ (.skip _ _ .nil)) rfl) rfl rfl ?_
      refine ChD.step (v := (.tup [(.d (.bool (impV x y))), (.d (.bool (impB x y)))])) [] rfl (.pure (.move _ rfl rfl)) rfl rfl ?_
      refine ChD.step (v := (.d (.bool (impV x y)))) [] rfl (.pure (.extract _ rfl rfl rfl)) rfl rfl ?_
      refine ChD.step (v := (.d (.bool (impB x y)))) [] rfl (.pure (.extract _ rfl rfl rfl)) rfl rfl ?_
      refine ChD.step (v := (.d (.bool (impV x y)))) [] rfl (.pure (.assign _ rfl rfl)) rfl rfl ?_
      refine ChD.step (v := (.d (.bool (impB x y)))) [] rfl (.pure (.assign _ rfl rfl)) rfl rfl ?_
      refine ChD.nil (And.intro ?_ (by kernel_rfl))
      refine T_seq ?_
      refine T_region hc ?_
      refine Ch.step (v := (.agg [(.d (.slice false 2 (x.sigs.map Sgn.d))), (.d (.slice false 1 (x.codes.map D.str))), (.d (.slice false 4 (x.arcs.map Arc.d)))])) rfl (.pure (.loadPtrA _ _ rfl ag46 sz46 rfl rfl (Nat.le_of_ble_eq_true rfl) rfl)) rfl rfl ?_
      refine Ch.step (v := (.agg [(.row 31000), (.row 31001), (.row 31002)])) rfl (.call 31000 26 _ _ _ en26 rfl (.inl rfl) (.cons (.lend (.agg (.cons (.d _) (.cons (.d _) (.cons (.d _) .nil))) rfl)) .nil) rfl (sol (Sgr.sol _) rfl) (sp_laws_toStateGraph x (by first | assumption | omega | (rw [List.length_take]; omega) | (have := bulkF_mem hb _ (getD_mem (d := default) (by omega)); assumption) | (unfold bulkS at *; omega) | (simp_all; done))) (.skip _ _ .nil) rfl) rfl rfl ?_
      refine Ch.step (v := (.ptr 8000 0)) rfl (.alloc 8000 _ rfl zer52) rfl rfl ?_
      refine Ch.step (v := .junk) rfl (.storePtr _ _ _ rfl rfl rfl (.agg _ rfl) sz52 (Nat.le_of_ble_eq_true rfl)) rfl rfl ?_
      refine Ch.nil ?_
      refine T_seq ?_
      refine T_region hc ?_
      refine Ch.step (v := (.agg [(.d (.slice false 2 (y.sigs.map Sgn.d))), (.d (.slice false 4 (y.gates.map Gat.d)))])) rfl (.pure (.loadPtrA _ _ rfl ag25 sz25 rfl rfl (Nat.le_of_ble_eq_true rfl) rfl)) rfl rfl ?_
      refine Ch.step (v := (.agg [(.row 33000), (.row 33001)])) rfl (.call 33000 15 _ _ _ en15 rfl (.inl rfl) (.cons (.lend (.agg (.cons (.d _) (.cons (.d _) .nil)) rfl)) .nil) rfl (sol (Cir.sol _) rfl) (sp_laws_toCircuit y (by first | assumption | omega | (rw [List.length_take]; omega) | (have := bulkF_mem hb _ (getD_mem (d := default) (by omega)); assumption) | (unfold bulkS at *; omega) | (simp_all; done))) (.skip _ _ .nil) rfl) rfl rfl ?_
      refine Ch.step (v := (.ptr 9000 0)) rfl (.alloc 9000 _ rfl zer32) rfl rfl ?_
      refine Ch.step (v := .junk) rfl (.storePtr _ _ _ rfl rfl rfl (.agg _ rfl) sz32 (Nat.le_of_ble_eq_true rfl)) rfl rfl ?_
      refine Ch.nil ?_
      refine T_seq ?_
      refine T_region hc ?_
      refine Ch.step (v := (.agg [(.row 31000), (.row 31001), (.row 31002)])) rfl (.pure (.loadPtrA _ _ rfl ag52 sz52 rfl rfl (Nat.le_of_ble_eq_true rfl) rfl)) rfl rfl ?_
      refine Ch.step (v := (.agg [(.row 33000), (.row 33001)])) rfl (.pure (.loadPtrA _ _ rfl ag32 sz32 rfl rfl (Nat.le_of_ble_eq_true rfl) rfl)) rfl rfl ?_
      refine Ch.step (v := (.tup [(.d (.bool (impV x y))), (.d (.bool (impB x y)))])) rfl (.call 37000 46 _ _ _ en46 rfl (.inl rfl) (.cons (.lend (.agg (.cons (.row rfl (frozs_map (fun _ => rfl) _)) (.cons (.row rfl (frozs_map (fun _ => rfl) _)) (.cons (.row rfl (frozs_map (fun _ => rfl) _)) .nil))) rfl)) (.cons (.lend (.agg (.cons (.row rfl (frozs_map (fun _ => rfl) _)) (.cons (.row rfl (frozs_to Gat.fz _)) .nil)) rfl)) .nil)) rfl rfl (sp_impl_Implements x y (by first | assumption | omega | (rw [List.length_take]; omega) | (have := bulkF_mem hb _ (getD_mem (d := default) (by omega)); assumption) | (unfold bulkS at *; omega) | (simp_all; done)) (by first | assumption | omega | (rw [List.length_take]; omega) | (have := bulkF_mem hb _ (getD_mem (d := default) (by omega)); assumption) | (unfold bulkS at *; omega) | (simp_all; done))) (.skip _ _ (.skip _ _ .nil)) rfl) rfl rfl ?_
      refine Ch.step (v := (.tup [(.d (.bool (impV x y))), (.d (.bool (impB x y)))])) rfl (.pure (.move _ rfl rfl)) rfl rfl ?_
      refine Ch.step (v := (.d (.bool (impV x y)))) rfl (.pure (.extract _ rfl rfl rfl)) rfl rfl ?_
      refine Ch.step (v := (.d (.bool (impB x y)))) rfl (.pure (.extract _ rfl rfl rfl)) rfl rfl ?_
      refine Ch.step (v := (.d (.bool (impV x y)))) rfl (.pure (.assign _ rfl rfl)) rfl rfl ?_
      refine Ch.step (v := (.d (.bool (impB x y)))) rfl (.pure (.assign _ rfl rfl)) rfl rfl ?_
      refine Ch.nil ?_
      refine T_seq ?_
      refine T_seq ?_
      refine T_region hc ?_
      refine Ch.step (v := (.d (.bool (impV x y)))) rfl (.pure (.move _ rfl rfl)) rfl rfl ?_
      refine Ch.step (v := (.d (.bool (impV x y)))) rfl (.pure (.move _ rfl rfl)) rfl rfl ?_
      refine Ch.step (v := (.d (.bool (!(decide ((impV x y) = (impV x y))))))) rfl (.pure (.neB _ _ _ _ rfl Try.underlying4 rfl rfl)) rfl rfl ?_
      refine Ch.step (v := (.d (.bool (!(decide ((impV x y) = (impV x y))))))) rfl (.pure (.move _ rfl rfl)) rfl rfl ?_
      cases h3 : (decide ((impV x y) = (impV x y))) with
      | true =>
        replace h3 := of_decide_eq_true h3
        refine Ch.step (v := (.d (.bool (impB x y)))) rfl (.pure (.move _ rfl rfl)) rfl rfl ?_
        refine Ch.step (v := (.d (.bool (impB x y)))) rfl (.pure (.move _ rfl rfl)) rfl rfl ?_
        refine Ch.step (v := (.d (.bool (!(decide ((impB x y) = (impB x y))))))) rfl (.pure (.neB _ _ _ _ rfl Try.underlying4 rfl rfl)) rfl rfl ?_
        refine Ch.step (v := (.d (.bool (!(decide ((impB x y) = (impB x y))))))) rfl (.pure (.pickF _ _ _ rfl rfl rfl)) rfl rfl ?_
        refine Ch.nil ?_
        refine T_cond (b := (!(decide ((impB x y) = (impB x y))))) rfl (fun h4 => ?_) (fun h4 => ?_)
        · replace h4 := nott h4
          replace h4 := of_decide_eq_false h4
          refine T_seq ?_
          refine T_region hc ?_
          refine Ch.step (v := (.d (.bool false))) rfl (.pure (.assign _ rfl rfl)) rfl rfl ?_
          refine Ch.nil ?_
          refine T_ret ?_
          refine And.intro (.inr rfl) ?_
          exact Exists.intro [(.d (.bool false))] (Exists.intro [] (Exists.intro [] (And.intro (.cons (.tmp 4 rfl) .nil) (And.intro (.cons (.any _) (.cons (.any _) .nil)) (And.intro (Exp.of (congrArg D.bool (by first | rfl | contradiction | (exfalso; omega) | (simp_all; done) | (exfalso; simp_all; omega))) (.d _)) (And.intro rfl rfl))))))
        · replace h4 := notf h4
          replace h4 := of_decide_eq_true h4
          refine T_skip ?_
          refine T_seq ?_
          refine T_seq ?_
          refine T_regionD hc (by kernel_rfl) ?_
          refine ChD.step (v := (.agg [(.row 31000), (.row 31001), (.row 31002)])) [8000, 31000, 31001, 31002] rfl (.pure (.loadPtrA _ _ rfl ag52 sz52 rfl rfl (Nat.le_of_ble_eq_true rfl) rfl)) rfl rfl ?_
          refine ChD.step (v := (.agg [(.d (.slice false 2 (x.sigs.map Sgn.d))), (.d (.slice false 1 (x.codes.map D.str))), (.d (.slice false 4 (x.arcs.map Arc.d)))])) [2000] rfl (.pure (.loadPtrA _ _ rfl ag46 sz46 rfl rfl (Nat.le_of_ble_eq_true rfl) rfl)) rfl rfl ?_
          refine ChD.step (v := (.agg [(.row 50000), (.row 50001), (.row 50002)])) [] rfl (.call 50000 26 _ _ _ en26 rfl (.inl rfl) (.cons (.lend (.agg (.cons (.d _) (.cons (.d _) (.cons (.d _) .nil))) rfl)) .nil) rfl (sol (Sgr.sol _) rfl) (sp_laws_toStateGraph x (by first | assumption | omega | (rw [List.length_take]; omega) | (have := bulkF_mem hb _ (getD_mem (d := default) (by omega)); assumption) | (unfold bulkS at *; omega) | (simp_all; done))) (.skip _ _ .nil) rfl) rfl rfl ?_
          refine ChD.step (v := (.d (.bool (decide (x = x))))) [31000, 31001, 31002, 50000, 50001, 50002] rfl (.call 51000 28 _ _ _ en28 rfl (.inl rfl) (.cons (.lend (.agg (.cons (.row rfl (frozs_map (fun _ => rfl) _)) (.cons (.row rfl (frozs_map (fun _ => rfl) _)) (.cons (.row rfl (frozs_map (fun _ => rfl) _)) .nil))) rfl)) (.cons (.lend (.agg (.cons (.row rfl (frozs_map (fun _ => rfl) _)) (.cons (.row rfl (frozs_map (fun _ => rfl) _)) (.cons (.row rfl (frozs_map (fun _ => rfl) _)) .nil))) rfl)) .nil)) rfl rfl (sp_laws_eqStateGraph x x (by first | assumption | omega | (rw [List.length_take]; omega) | (have := bulkF_mem hb _ (getD_mem (d := default) (by omega)); assumption) | (unfold bulkS at *; omega) | (simp_all; done))) (.skip _ _ (.skip _ _ .nil)) rfl) rfl rfl ?_
          refine ChD.step (v := (.d (.bool (!(decide (x = x)))))) [] rfl (.pure (.not _ _ rfl rfl)) rfl rfl ?_
          refine ChD.nil (And.intro ?_ (by kernel_rfl))
          refine T_cond (b := (!(decide (x = x)))) rfl (fun h5 => ?_) (fun h5 => ?_)
          · replace h5 := nott h5
            replace h5 := of_decide_eq_false h5
            refine T_seq ?_
            refine T_region hc ?_
            refine Ch.step (v := (.d (.bool false))) rfl (.pure (.assign _ rfl rfl)) rfl rfl ?_
            refine Ch.nil ?_
            refine T_ret ?_
            refine And.intro (.inr rfl) ?_
            exact Exists.intro [(.d (.bool false))] (Exists.intro [] (Exists.intro [] (And.intro (.cons (.tmp 4 rfl) .nil) (And.intro (.cons (.any _) (.cons (.any _) .nil)) (And.intro (Exp.of (congrArg D.bool (by first | rfl | contradiction | (exfalso; omega) | (simp_all; done) | (exfalso; simp_all; omega))) (.d _)) (And.intro rfl rfl))))))
          · replace h5 := notf h5
            replace h5 := of_decide_eq_true h5
            refine T_skip ?_
            refine T_seq ?_
            refine T_seq ?_
            refine T_regionD hc (by kernel_rfl) ?_
            refine ChD.step (v := (.agg [(.row 33000), (.row 33001)])) [9000, 33000, 33001] rfl (.pure (.loadPtrA _ _ rfl ag32 sz32 rfl rfl (Nat.le_of_ble_eq_true rfl) rfl)) rfl rfl ?_
            refine ChD.step (v := (.agg [(.d (.slice false 2 (y.sigs.map Sgn.d))), (.d (.slice false 4 (y.gates.map Gat.d)))])) [3000] rfl (.pure (.loadPtrA _ _ rfl ag25 sz25 rfl rfl (Nat.le_of_ble_eq_true rfl) rfl)) rfl rfl ?_
            refine ChD.step (v := (.agg [(.row 55000), (.row 55001)])) [] rfl (.call 55000 15 _ _ _ en15 rfl (.inl rfl) (.cons (.lend (.agg (.cons (.d _) (.cons (.d _) .nil)) rfl)) .nil) rfl (sol (Cir.sol _) rfl) (sp_laws_toCircuit y (by first | assumption | omega | (rw [List.length_take]; omega) | (have := bulkF_mem hb _ (getD_mem (d := default) (by omega)); assumption) | (unfold bulkS at *; omega) | (simp_all; done))) (.skip _ _ .nil) rfl) rfl rfl ?_
            refine ChD.step (v := (.d (.bool (decide (y = y))))) [33000, 33001, 55000, 55001] rfl (.call 56000 17 _ _ _ en17 rfl (.inl rfl) (.cons (.lend (.agg (.cons (.row rfl (frozs_map (fun _ => rfl) _)) (.cons (.row rfl (frozs_to Gat.fz _)) .nil)) rfl)) (.cons (.lend (.agg (.cons (.row rfl (frozs_map (fun _ => rfl) _)) (.cons (.row rfl (frozs_to Gat.fz _)) .nil)) rfl)) .nil)) rfl rfl (sp_laws_eqCircuit y y (by first | assumption | omega | (rw [List.length_take]; omega) | (have := bulkF_mem hb _ (getD_mem (d := default) (by omega)); assumption) | (unfold bulkS at *; omega) | (simp_all; done))) (.skip _ _ (.skip _ _ .nil)) rfl) rfl rfl ?_
            refine ChD.step (v := (.d (.bool (!(decide (y = y)))))) [] rfl (.pure (.not _ _ rfl rfl)) rfl rfl ?_
            refine ChD.nil (And.intro ?_ (by kernel_rfl))
            refine T_cond (b := (!(decide (y = y)))) rfl (fun h6 => ?_) (fun h6 => ?_)
            · replace h6 := nott h6
              replace h6 := of_decide_eq_false h6
              refine T_seq ?_
              refine T_region hc ?_
              refine Ch.step (v := (.d (.bool false))) rfl (.pure (.assign _ rfl rfl)) rfl rfl ?_
              refine Ch.nil ?_
              refine T_ret ?_
              refine And.intro (.inr rfl) ?_
              exact Exists.intro [(.d (.bool false))] (Exists.intro [] (Exists.intro [] (And.intro (.cons (.tmp 4 rfl) .nil) (And.intro (.cons (.any _) (.cons (.any _) .nil)) (And.intro (Exp.of (congrArg D.bool (by first | rfl | contradiction | (exfalso; omega) | (simp_all; done) | (exfalso; simp_all; omega))) (.d _)) (And.intro rfl rfl))))))
            · replace h6 := notf h6
              replace h6 := of_decide_eq_true h6
              refine T_skip ?_
              refine T_seq ?_
              refine T_region hc ?_
              refine Ch.step (v := (.d (.bool true))) rfl (.pure (.assign _ rfl rfl)) rfl rfl ?_
              refine Ch.nil ?_
              refine T_ret ?_
              refine And.intro (.inr rfl) ?_
              exact Exists.intro [(.d (.bool true))] (Exists.intro [] (Exists.intro [] (And.intro (.cons (.tmp 4 rfl) .nil) (And.intro (.cons (.any _) (.cons (.any _) .nil)) (And.intro (.d _) (And.intro rfl rfl))))))
      | false =>
        replace h3 := of_decide_eq_false h3
        refine Ch.skip rfl rfl ?_
        refine Ch.skip rfl rfl ?_
        refine Ch.skip rfl rfl ?_
        refine Ch.step (v := (.d (.bool true))) rfl (.pure (.pickT _ _ _ rfl rfl rfl)) rfl rfl ?_
        refine Ch.nil ?_
        refine T_cond (b := true) rfl (fun _ => ?_) (fun h => nomatch h)
        refine T_seq ?_
        refine T_region hc ?_
        refine Ch.step (v := (.d (.bool false))) rfl (.pure (.assign _ rfl rfl)) rfl rfl ?_
        refine Ch.nil ?_
        refine T_ret ?_
        refine And.intro (.inr rfl) ?_
        exact Exists.intro [(.d (.bool false))] (Exists.intro [] (Exists.intro [] (And.intro (.cons (.tmp 4 rfl) .nil) (And.intro (.cons (.any _) (.cons (.any _) .nil)) (And.intro (Exp.of (congrArg D.bool (by first | rfl | contradiction | (exfalso; omega) | (simp_all; done) | (exfalso; simp_all; omega))) (.d _)) (And.intro rfl rfl))))))

end Go.AM
