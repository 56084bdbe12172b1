/-
  The contracts that the law FnExactTraces needs.
-/
import Derived.Test.YtadendfhmagmoaaGreatZTraces1
import Derived.Test.YtadendfhmagmoaaGreatSh
namespace Go.AM
open Go.Proofs
set_option linter.unusedVariables false
set_option linter.unusedSimpArgs false

set_option maxHeartbeats 2000000 in
theorem sp_impl_IsValidStateGraph (x : Sgr) (hb : x.bulk ≤ 1048576) : Sp Tryz.prog 24 [(.agg [(.slice false 2 (x.sigs.map Sgn.d)), (.slice false 1 (x.codes.map D.str)), (.slice false 4 (x.arcs.map Arc.d))])] [.any] (.bool (sgB x)) := by
 refine Sp_intro (lend := true) Tryz.func24 rfl rfl rfl (fun _ => rfl) (fun c hc hX => ?_)
 obtain ⟨hp0, hp1, hp2⟩ := Sgr.parts hb
 have hn0 := bulkF_len hp0
 have hn1 := bulk_len hp1
 have hx1 := bulk_mem hp1
 have hn2 := bulkF_len hp2
 refine Ts hc (Ch.s (.ptr 1000 0) (.box 1000 _ _ rfl (.aggD _)) (Ch.s (dB false) pa (Ch.nil (Tq (Tq (Tz hc ?_))))))
 refine Ch.s (.ptr 1000 0) (fP fld33_0 rfl) (Ch.s (.d (.slice false 2 (x.sigs.map Sgn.d))) (lP ag30 rfl rfl rfl) (Ch.s (dB (sigsB x.sigs)) (.call 10000 47 _ _ _ en47 rfl (.inl rfl) (.cons (.d _) .nil) rfl rfl (sp_impl_areSignals x.sigs a21) (.skip _ _ .nil) rfl) (Ch.s (dB (!(sigsB x.sigs))) (nT rfl) (Ch.s (dB (!(sigsB x.sigs))) pm ?_))))
 cases h1 : (sigsB x.sigs) with
 | true =>
  refine Ch.s (.ptr 1000 1) (fP fld33_1 rfl) (Ch.s (.d (.slice false 1 (x.codes.map D.str))) (lP ag23 rfl rfl rfl) (Ch.s (dI (x.codes.length : Int)) (.pure (.len _ _ 9 rfl Tryz.underlying23 (.sh _ _) (by simp))) (Ch.s (dB (withinB (x.codes.length : Int) 1 300)) (.call 16000 25 _ _ _ en25 rfl (.inl rfl) (.cons (.d _) (.cons (.d _) (.cons (.d _) .nil))) rfl rfl (sp_impl_within (x.codes.length : Int) 1 300) (.skip _ _ (.skip _ _ (.skip _ _ .nil))) rfl) (Ch.s (dB (!(withinB (x.codes.length : Int) 1 300))) (nT rfl) (Ch.s (dB (!(withinB (x.codes.length : Int) 1 300))) (pF rfl) (Ch.s (dB (!(withinB (x.codes.length : Int) 1 300))) pm ?_))))))
  cases h2 : (withinB (x.codes.length : Int) 1 300) with
  | true =>
   try have hw2 := within_two h2
   refine Ch.s (.ptr 1000 2) (fP fld33_2 rfl) (Ch.s (.d (.slice false 4 (x.arcs.map Arc.d))) (lP ag31 rfl rfl rfl) (Ch.s (dI (x.arcs.length : Int)) (.pure (.len _ _ 70 rfl Tryz.underlying31 (.sh _ _) (by simp))) (Ch.s (dB (decide (4000 < (x.arcs.length : Int)))) (iX rfl rfl rfl) (Ch.s (dB (decide (4000 < (x.arcs.length : Int)))) (pF rfl) (Ch.nil ?_)))))
   refine T_condD (p := (4000 < (x.arcs.length : Int))) rfl (fun h3 => ?_) (fun h3 => ?_)
   ·
    refine Ts hc (Ch.s (dB false) pa (Ch.nil (T_ret ?_)))
    exact eR [(dB false)] [] [] (.cons (.tmp 2 rfl) .nil) eA (Exp.of (congrArg D.bool a10) (.d _))
   ·
    refine Tk (Ts hc (Ch.s (.ptr 1000 1) (fP fld33_1 rfl) (Ch.s (.d (.slice false 1 (x.codes.map D.str))) (lP ag23 rfl rfl rfl) (Ch.s (dI (x.codes.length : Int)) (.pure (.len _ _ 9 rfl Tryz.underlying23 (.sh _ _) (by simp))) (Ch.s (dI ((x.codes.length : Int) - 1)) (iX rfl rfl intV_subA) (Ch.s (dI ((x.codes.length : Int) - 1)) pa ?_))))))
    refine Ch.nil (Tq (Ts hc (Ch.s (.ptr 1000 1) (fP fld33_1 rfl) (Ch.s (.d (.slice false 1 (x.codes.map D.str))) (lP ag23 rfl rfl rfl) (Ch.s (dI (x.codes.length : Int)) (.pure (.len _ _ 9 rfl Tryz.underlying23 (.sh _ _) (by simp))) (Ch.s (dI 0) pm ?_))))))
    refine Ch.nil (Tb ?_)
    refine T_loop (ι := Nat) (fun k => { n := 101, sl := [(1, (.ptr 1000 0)), (3, (dI ((x.codes.length : Int) - 1))), (30, (.d (.slice false 1 (x.codes.map D.str)))), (31, (dI (x.codes.length : Int))), (32, (dI (k : Int)))], hp := [(1000, (some (.box (vX x))))], pin := [] }) (fun k => k ≤ x.codes.length ∧ ∀ j, j < k → codeN (x.codes.getD j default) (x.sigs.length : Int) = true) (fun k => x.codes.length - k) ⟨0, ⟨by omega, fun j hj => by omega⟩, (Wk.of rfl rfl (ar (ar (ar (ar (ai (vI a67) trivial))))) (ar trivial))⟩ (fun k hp0 => ?_)
    refine Ts hc (Ch.s (dB (decide ((k : Int) < (x.codes.length : Int)))) (iX rfl rfl rfl) (Ch.nil (Tq ?_)))
    refine T_condD (p := ((k : Int) < (x.codes.length : Int))) rfl (fun h4 => ?_) (fun h4 => ?_)
    ·
     try have hcl := sg_codes (x := x) (k := k) (by omega) hp0.2
     try have hca := codes_at hcl
     refine Tk (Tq (Tb (Ts hc (Ch.s (.d (.ref (.str (x.codes.getD k default)))) (.pure (.idx _ _ _ 9 (k) rfl Tryz.underlying23 sz9 rfl rfl rfl get_mapA)) (Ch.s (dS (x.codes.getD k default)) (rF ag9 rfl rfl) (Ch.s (dS (x.codes.getD k default)) pa ?_))))))
     refine Ch.nil (Ts hc (Ch.s (dS (x.codes.getD k default)) pm (Ch.s (.ptr 1000 0) (fP fld33_0 rfl) (Ch.s (.d (.slice false 2 (x.sigs.map Sgn.d))) (lP ag30 rfl rfl rfl) (Ch.s (dI (x.sigs.length : Int)) (.pure (.len _ _ 76 rfl Tryz.underlying30 (.sh _ _) (by simp))) (Ch.s (dB (codeN (x.codes.getD k default) (x.sigs.length : Int))) (.call 40000 48 _ _ _ en48 rfl (.inl rfl) (.cons (.d _) (.cons (.d _) .nil)) rfl rfl (sp_impl_isBits (x.codes.getD k default) (x.sigs.length : Int) a21) (.skip _ _ (.skip _ _ .nil)) rfl) ?_))))))
     refine Ch.s (dB (!(codeN (x.codes.getD k default) (x.sigs.length : Int)))) (nT rfl) (Ch.nil ?_)
     refine T_condN (b := (codeN (x.codes.getD k default) (x.sigs.length : Int))) rfl (fun h5 => ?_) (fun h5 => ?_)
     ·
      refine Ts hc (Ch.s (dB false) pa (Ch.nil (T_ret ?_)))
      exact eR [(dB false)] [] [] (.cons (.tmp 2 rfl) .nil) eA (Exp.of (congrArg D.bool a10) (.d _))
     ·
      refine Tk (Tz hc (Ch.s (dI ((k : Int) + 1)) (iX rfl rfl intV_addA) (Ch.s (dI ((k : Int) + 1)) pm (Ch.nil ?_))))
      exact nx (k + 1) ⟨by omega, upto_succ hp0.2 (by assumption)⟩ (Wk.of rfl rfl (ar (ar (ar (ar (ai (vI a67) trivial))))) (ar trivial))
    ·
     try have hcl := sg_codes (x := x) (k := k) (by omega) hp0.2
     try have hca := codes_at hcl
     refine T_exit (Tq (Ts hc (Ch.s (.ptr 1000 2) (fP fld33_2 rfl) (Ch.s (.d (.slice false 4 (x.arcs.map Arc.d))) (lP ag31 rfl rfl rfl) (Ch.s (dI (x.arcs.length : Int)) (.pure (.len _ _ 70 rfl Tryz.underlying31 (.sh _ _) (by simp))) (Ch.s (dI 0) pm ?_))))))
     refine Ch.nil (Tb ?_)
     refine T_loop (ι := Nat) (fun m => { n := 101, sl := [(1, (.ptr 1000 0)), (3, (dI ((x.codes.length : Int) - 1))), (44, (.d (.slice false 4 (x.arcs.map Arc.d)))), (45, (dI (x.arcs.length : Int))), (46, (dI (m : Int)))], hp := [(1000, (some (.box (vX x))))], pin := [] }) (fun m => m ≤ x.arcs.length ∧ ∀ j, j < m → arcB x (x.arcs.getD j default) = true) (fun m => x.arcs.length - m) ⟨0, ⟨by omega, fun j hj => by omega⟩, (Wk.of rfl rfl (ar (ar (ar (ar (ai (vI a67) trivial))))) (ar trivial))⟩ (fun m hp1 => ?_)
     refine Ts hc (Ch.s (dB (decide ((m : Int) < (x.arcs.length : Int)))) (iX rfl rfl rfl) (Ch.nil (Tq ?_)))
     refine T_condD (p := ((m : Int) < (x.arcs.length : Int))) rfl (fun h6 => ?_) (fun h6 => ?_)
     ·
      try have hal := sg_arcs (x := x) (k := m) (by omega) hp1.2
      try have hen := arc_ends hal
      try have hse := steps_ends hen
      try have hsl := stepsOf_len x.arcs
      try have hdl := distF_len (n := x.codes.length) (s := 0) (by omega) hse
      refine Tk (Tq (Tb (Ts hc (Ch.s (.d (.ref (.agg [(.int .i64 ((x.arcs.getD m default).src)), (.int .i64 ((x.arcs.getD m default).sig)), (.bool ((x.arcs.getD m default).up)), (.int .i64 ((x.arcs.getD m default).dst))]))) (.pure (.idx _ _ _ 70 (m) rfl Tryz.underlying31 sz70 rfl rfl rfl get_mapA)) (Ch.s (.d (.agg [(.int .i64 ((x.arcs.getD m default).src)), (.int .i64 ((x.arcs.getD m default).sig)), (.bool ((x.arcs.getD m default).up)), (.int .i64 ((x.arcs.getD m default).dst))])) (.pure (.loadRefA _ _ rfl ag70 sz70 rfl)) (Ch.s (.ptr 7000 0) (.alloc 7000 _ rfl zer70) ?_))))))
      refine Ch.s .junk (.storePtr _ _ _ rfl rfl rfl (.aggD _) sz70 (lb rfl)) (Ch.nil (Tq ?_))
      refine T_regionD hc (by kernel_rfl) ?_
      refine ChD.s (.ptr 7000 0) [] (fP fld70_0 rfl) (ChD.s (dI ((x.arcs.getD m default).src)) [7000] (lP ag3 rfl rfl rfl) (ChD.s (dI ((x.codes.length : Int) - 1)) [] pm (ChD.s (dB (withinB ((x.arcs.getD m default).src) 0 ((x.codes.length : Int) - 1))) [] (.call 53000 25 _ _ _ en25 rfl (.inl rfl) (.cons (.d _) (.cons (.d _) (.cons (.d _) .nil))) rfl rfl (sp_impl_within ((x.arcs.getD m default).src) 0 ((x.codes.length : Int) - 1)) (.skip _ _ (.skip _ _ (.skip _ _ .nil))) rfl) (ChD.s (dB (!(withinB ((x.arcs.getD m default).src) 0 ((x.codes.length : Int) - 1)))) [] (nT rfl) (ChD.s (dB (!(withinB ((x.arcs.getD m default).src) 0 ((x.codes.length : Int) - 1)))) [] pm ?_)))))
      cases h7 : (withinB ((x.arcs.getD m default).src) 0 ((x.codes.length : Int) - 1)) with
      | true =>
       try have hw7 := within_two h7
       refine ChD.s (.ptr 7000 3) [] (fP fld70_3 rfl) (ChD.s (dI ((x.arcs.getD m default).dst)) [7000] (lP ag3 rfl rfl rfl) (ChD.s (dI ((x.codes.length : Int) - 1)) [] pm (ChD.s (dB (withinB ((x.arcs.getD m default).dst) 0 ((x.codes.length : Int) - 1))) [] (.call 59000 25 _ _ _ en25 rfl (.inl rfl) (.cons (.d _) (.cons (.d _) (.cons (.d _) .nil))) rfl rfl (sp_impl_within ((x.arcs.getD m default).dst) 0 ((x.codes.length : Int) - 1)) (.skip _ _ (.skip _ _ (.skip _ _ .nil))) rfl) (ChD.s (dB (!(withinB ((x.arcs.getD m default).dst) 0 ((x.codes.length : Int) - 1)))) [] (nT rfl) (ChD.s (dB (!(withinB ((x.arcs.getD m default).dst) 0 ((x.codes.length : Int) - 1)))) [] (pF rfl) (ChD.s (dB (!(withinB ((x.arcs.getD m default).dst) 0 ((x.codes.length : Int) - 1)))) [] pm ?_))))))
       cases h8 : (withinB ((x.arcs.getD m default).dst) 0 ((x.codes.length : Int) - 1)) with
       | true =>
        try have hw8 := within_two h8
        try have hl1 := hca (x.arcs.getD m default).src (by omega) (by omega)
        try have hl2 := hca (x.arcs.getD m default).dst (by omega) (by omega)
        try have hl3 := hl1.2
        try have hl4 := hl2.2
        try unfold codeAt at hl3 hl4
        refine ChD.s (.ptr 7000 1) [] (fP fld70_1 rfl) (ChD.s (dI ((x.arcs.getD m default).sig)) [7000] (lP ag3 rfl rfl rfl) (ChD.s (.ptr 7000 2) [] (fP fld70_2 rfl) (ChD.s (dB ((x.arcs.getD m default).up)) [7000] (lP ag4 rfl rfl rfl) (ChD.s (.agg [(dI ((x.arcs.getD m default).sig)), (dB ((x.arcs.getD m default).up))]) [] (.build _ _ rfl stru82 (.cons (.one _ rfl) (.cons (.one _ rfl) .nil)) rfl) (ChD.s (.ptr 1000 0) [] (fP fld33_0 rfl) (ChD.s (.d (.slice false 2 (x.sigs.map Sgn.d))) [1000] (lP ag30 rfl rfl rfl) (ChD.s (dI (x.sigs.length : Int)) [] (.pure (.len _ _ 76 rfl Tryz.underlying30 (.sh _ _) (by simp))) ?_)))))))
        refine ChD.s (dB (edgeB (Lab.mk ((x.arcs.getD m default).sig) ((x.arcs.getD m default).up)) (x.sigs.length : Int))) [] (.call 71000 49 _ _ _ en49 rfl (.inl rfl) (.cons (.lend (.agg (.cons (.d _) (.cons (.d _) .nil)) rfl)) (.cons (.d _) .nil)) rfl rfl (sp_impl_isEdge (Lab.mk ((x.arcs.getD m default).sig) ((x.arcs.getD m default).up)) (x.sigs.length : Int) a21 a21) (.skip _ _ (.skip _ _ .nil)) rfl) (ChD.s (dB (!(edgeB (Lab.mk ((x.arcs.getD m default).sig) ((x.arcs.getD m default).up)) (x.sigs.length : Int)))) [] (nT rfl) (ChD.s (dB (!(edgeB (Lab.mk ((x.arcs.getD m default).sig) ((x.arcs.getD m default).up)) (x.sigs.length : Int)))) [] (pF rfl) (ChD.s (dB (!(edgeB (Lab.mk ((x.arcs.getD m default).sig) ((x.arcs.getD m default).up)) (x.sigs.length : Int)))) [] pm ?_)))
        cases h9 : (edgeB (Lab.mk ((x.arcs.getD m default).sig) ((x.arcs.getD m default).up)) (x.sigs.length : Int)) with
        | true =>
         refine ChD.s (.agg [(dI ((x.arcs.getD m default).src)), (dI ((x.arcs.getD m default).sig)), (dB ((x.arcs.getD m default).up)), (dI ((x.arcs.getD m default).dst))]) [7000] (lA ag70 sz70 rfl rfl (lb rfl) rfl) (ChD.s (.ptr 1000 1) [] (fP fld33_1 rfl) (ChD.s (.d (.slice false 1 (x.codes.map D.str))) [1000] (lP ag23 rfl rfl rfl) (ChD.s (.ptr 7000 0) [] (fP fld70_0 rfl) (ChD.s (dI ((x.arcs.getD m default).src)) [7000] (lP ag3 rfl rfl rfl) (ChD.s (.d (.ref (.str (x.codes.getD ((((x.arcs.getD m default).src)).toNat) default)))) [] (.pure (.idx _ _ _ 9 ((((x.arcs.getD m default).src)).toNat) rfl Tryz.underlying23 sz9 rfl rfl (by omega) get_mapA)) (ChD.s (dS (x.codes.getD ((((x.arcs.getD m default).src)).toNat) default)) [] (rF ag9 rfl rfl) (ChD.s (.ptr 1000 1) [] (fP fld33_1 rfl) ?_)))))))
         refine ChD.s (.d (.slice false 1 (x.codes.map D.str))) [1000] (lP ag23 rfl rfl rfl) (ChD.s (.ptr 7000 3) [] (fP fld70_3 rfl) (ChD.s (dI ((x.arcs.getD m default).dst)) [7000] (lP ag3 rfl rfl rfl) (ChD.s (.d (.ref (.str (x.codes.getD ((((x.arcs.getD m default).dst)).toNat) default)))) [] (.pure (.idx _ _ _ 9 ((((x.arcs.getD m default).dst)).toNat) rfl Tryz.underlying23 sz9 rfl rfl (by omega) get_mapA)) (ChD.s (dS (x.codes.getD ((((x.arcs.getD m default).dst)).toNat) default)) [] (rF ag9 rfl rfl) (ChD.s (dB (fitB (x.arcs.getD m default) (x.codes.getD ((((x.arcs.getD m default).src)).toNat) default) (x.codes.getD ((((x.arcs.getD m default).dst)).toNat) default))) [] (.call 88000 50 _ _ _ en50 rfl (.inl rfl) (.cons (.lend (.agg (.cons (.d _) (.cons (.d _) (.cons (.d _) (.cons (.d _) .nil)))) rfl)) (.cons (.d _) (.cons (.d _) .nil))) rfl rfl (sp_impl_fitsCodes (x.arcs.getD m default) (x.codes.getD ((((x.arcs.getD m default).src)).toNat) default) (x.codes.getD ((((x.arcs.getD m default).dst)).toNat) default) a21 a21) (.skip _ _ (.skip _ _ (.skip _ _ .nil))) rfl) (ChD.s (dB (!(fitB (x.arcs.getD m default) (x.codes.getD ((((x.arcs.getD m default).src)).toNat) default) (x.codes.getD ((((x.arcs.getD m default).dst)).toNat) default)))) [] (nT rfl) (ChD.s (dB (!(fitB (x.arcs.getD m default) (x.codes.getD ((((x.arcs.getD m default).src)).toNat) default) (x.codes.getD ((((x.arcs.getD m default).dst)).toNat) default)))) [] (pF rfl) ?_)))))))
         refine ChD.nil (And.intro ?_ (by kernel_rfl))
         refine T_condN (b := (fitB (x.arcs.getD m default) (x.codes.getD ((((x.arcs.getD m default).src)).toNat) default) (x.codes.getD ((((x.arcs.getD m default).dst)).toNat) default))) rfl (fun h10 => ?_) (fun h10 => ?_)
         ·
          refine Ts hc (Ch.s (dB false) pa (Ch.nil (T_ret ?_)))
          exact eR [(dB false)] [] [] (.cons (.tmp 2 rfl) .nil) eA (Exp.of (congrArg D.bool a10) (.d _))
         ·
          refine Tk (Tz hc (Ch.s (dI ((m : Int) + 1)) (iX rfl rfl intV_addA) (Ch.s (dI ((m : Int) + 1)) pm (Ch.nil ?_))))
          exact nx (m + 1) ⟨by omega, upto_succ hp1.2 a64⟩ (Wk.of rfl rfl (ar (ar (ar (ar (ai (vI a67) trivial))))) (ar trivial))
        | false =>
         refine ChD.skip rfl rfl (ChD.skip rfl rfl (ChD.skip rfl rfl (ChD.skip rfl rfl (ChD.skip rfl rfl (ChD.skip rfl rfl (ChD.skip rfl rfl (ChD.skip rfl rfl ?_)))))))
         refine ChD.skip rfl rfl (ChD.skip rfl rfl (ChD.skip rfl rfl (ChD.skip rfl rfl (ChD.skip rfl rfl (ChD.skip rfl rfl (ChD.skip rfl rfl (ChD.s (dB true) [] (pT rfl) ?_)))))))
         refine ChD.nil (And.intro ?_ (by kernel_rfl))
         refine T_cond (b := true) rfl (fun _ => ?_) (fun h => nomatch h)
         refine Ts hc (Ch.s (dB false) pa (Ch.nil (T_ret ?_)))
         exact eR [(dB false)] [] [] (.cons (.tmp 2 rfl) .nil) eA (Exp.of (congrArg D.bool a10) (.d _))
       | false =>
        try have hw8 := within_two h8
        try have hl1 := hca (x.arcs.getD m default).src (by omega) (by omega)
        try have hl2 := hca (x.arcs.getD m default).dst (by omega) (by omega)
        try have hl3 := hl1.2
        try have hl4 := hl2.2
        try unfold codeAt at hl3 hl4
        refine ChD.skip rfl rfl (ChD.skip rfl rfl (ChD.skip rfl rfl (ChD.skip rfl rfl (ChD.skip rfl rfl (ChD.skip rfl rfl (ChD.skip rfl rfl (ChD.skip rfl rfl ?_)))))))
        refine ChD.skip rfl rfl (ChD.skip rfl rfl (ChD.s (dB true) [] (pT rfl) (ChD.s (dB true) [] pm (ChD.skip rfl rfl (ChD.skip rfl rfl (ChD.skip rfl rfl (ChD.skip rfl rfl ?_)))))))
        refine ChD.skip rfl rfl (ChD.skip rfl rfl (ChD.skip rfl rfl (ChD.skip rfl rfl (ChD.skip rfl rfl (ChD.skip rfl rfl (ChD.skip rfl rfl (ChD.skip rfl rfl ?_)))))))
        refine ChD.skip rfl rfl (ChD.skip rfl rfl (ChD.skip rfl rfl (ChD.s (dB true) [] (pT rfl) ?_)))
        refine ChD.nil (And.intro ?_ (by kernel_rfl))
        refine T_cond (b := true) rfl (fun _ => ?_) (fun h => nomatch h)
        refine Ts hc (Ch.s (dB false) pa (Ch.nil (T_ret ?_)))
        exact eR [(dB false)] [] [] (.cons (.tmp 2 rfl) .nil) eA (Exp.of (congrArg D.bool a10) (.d _))
      | false =>
       try have hw7 := within_two h7
       refine ChD.skip rfl rfl (ChD.skip rfl rfl (ChD.skip rfl rfl (ChD.skip rfl rfl (ChD.skip rfl rfl (ChD.s (dB true) [] (pT rfl) (ChD.s (dB true) [] pm (ChD.skip rfl rfl ?_)))))))
       refine ChD.skip rfl rfl (ChD.skip rfl rfl (ChD.skip rfl rfl (ChD.skip rfl rfl (ChD.skip rfl rfl (ChD.skip rfl rfl (ChD.skip rfl rfl (ChD.skip rfl rfl ?_)))))))
       refine ChD.skip rfl rfl (ChD.s (dB true) [] (pT rfl) (ChD.s (dB true) [] pm (ChD.skip rfl rfl (ChD.skip rfl rfl (ChD.skip rfl rfl (ChD.skip rfl rfl (ChD.skip rfl rfl ?_)))))))
       refine ChD.skip rfl rfl (ChD.skip rfl rfl (ChD.skip rfl rfl (ChD.skip rfl rfl (ChD.skip rfl rfl (ChD.skip rfl rfl (ChD.skip rfl rfl (ChD.skip rfl rfl ?_)))))))
       refine ChD.skip rfl rfl (ChD.skip rfl rfl (ChD.s (dB true) [] (pT rfl) ?_))
       refine ChD.nil (And.intro ?_ (by kernel_rfl))
       refine T_cond (b := true) rfl (fun _ => ?_) (fun h => nomatch h)
       refine Ts hc (Ch.s (dB false) pa (Ch.nil (T_ret ?_)))
       exact eR [(dB false)] [] [] (.cons (.tmp 2 rfl) .nil) eA (Exp.of (congrArg D.bool a10) (.d _))
     ·
      try have hal := sg_arcs (x := x) (k := m) (by omega) hp1.2
      try have hen := arc_ends hal
      try have hse := steps_ends hen
      try have hsl := stepsOf_len x.arcs
      try have hdl := distF_len (n := x.codes.length) (s := 0) (by omega) hse
      refine T_exit (Tq ?_)
      refine T_regionD hc (by kernel_rfl) ?_
      refine ChD.s (.ptr 1000 1) [] (fP fld33_1 rfl) (ChD.s (.d (.slice false 1 (x.codes.map D.str))) [1000] (lP ag23 rfl rfl rfl) (ChD.s (dI (x.codes.length : Int)) [] (.pure (.len _ _ 9 rfl Tryz.underlying23 (.sh _ _) (by simp))) (ChD.s (.ptr 1000 2) [] (fP fld33_2 rfl) (ChD.s (.d (.slice false 4 (x.arcs.map Arc.d))) [1000] (lP ag31 rfl rfl rfl) (ChD.s (.row 97000) [] (.call 97000 53 _ _ _ en53 rfl (.inl rfl) (.cons (.d _) .nil) rfl (sol (solid_row (fun _ => rfl) _) rfl) (sp_impl_arcSteps x.arcs a21) (.skip _ _ .nil) rfl) (ChD.s (.row 98000) [97000] (.call 98000 52 _ _ _ en52 rfl (.inl rfl) (.cons (.d _) (.cons (.lend (.row rfl (frozs_map (fun _ => rfl) _))) (.cons (.d _) .nil))) rfl (sol (solid_row (fun _ => rfl) _) rfl) (sp_impl_distances x.codes.length (stepsOf x.arcs) 0 a21 a21 a21 (by assumption)) (.skip _ _ (.skip _ _ (.skip _ _ .nil))) rfl) (ChD.s (dB (hasI (distF x.codes.length (stepsOf x.arcs) 0) (-1))) [98000] (.call 99000 51 _ _ _ en51 rfl (.inl rfl) (.cons (.lend (.row rfl (frozs_map (fun _ => rfl) _))) (.cons (.d _) .nil)) rfl rfl (sp_Contains_int (distF x.codes.length (stepsOf x.arcs) 0) (-1) a21) (.skip _ _ (.skip _ _ .nil)) rfl) ?_)))))))
      refine ChD.s (dB (!(hasI (distF x.codes.length (stepsOf x.arcs) 0) (-1)))) [] (nT rfl) (ChD.s (dB (!(hasI (distF x.codes.length (stepsOf x.arcs) 0) (-1)))) [] pa ?_)
      refine ChD.nil (And.intro ?_ (by kernel_rfl))
      refine T_ret ?_
      exact eR [(dB (!(hasI (distF x.codes.length (stepsOf x.arcs) 0) (-1))))] [] [] (.cons (.tmp 2 rfl) .nil) eA (Exp.of (congrArg D.bool a10) (.d _))
  | false =>
   try have hw2 := within_two h2
   refine Ck (Ck (Ck (Ck (Ch.s (dB true) (pT rfl) (Ch.nil ?_)))))
   refine T_cond (b := true) rfl (fun _ => ?_) (fun h => nomatch h)
   refine Ts hc (Ch.s (dB false) pa (Ch.nil (T_ret ?_)))
   exact eR [(dB false)] [] [] (.cons (.tmp 2 rfl) .nil) eA (Exp.of (congrArg D.bool a10) (.d _))
 | false =>
  refine Ck (Ck (Ck (Ck (Ck (Ch.s (dB true) (pT rfl) (Ch.s (dB true) pm (Ch.skip rfl rfl ?_)))))))
  refine Ck (Ck (Ck (Ch.s (dB true) (pT rfl) (Ch.nil ?_))))
  refine T_cond (b := true) rfl (fun _ => ?_) (fun h => nomatch h)
  refine Ts hc (Ch.s (dB false) pa (Ch.nil (T_ret ?_)))
  exact eR [(dB false)] [] [] (.cons (.tmp 2 rfl) .nil) eA (Exp.of (congrArg D.bool a10) (.d _))

set_option maxHeartbeats 2000000 in
theorem sp_spec_l5Arc (x : Sgr) (a : Arc) (hb : x.bulk ≤ 1048576) (h8 : x.sigs.length ≤ 8) (hcl : allOf x.codes (fun u => codeN u (x.sigs.length : Int)) = true) : Sp Tryz.prog 38 [(.agg [(.slice false 2 (x.sigs.map Sgn.d)), (.slice false 1 (x.codes.map D.str)), (.slice false 4 (x.arcs.map Arc.d))]), (.agg [(.int .i64 a.src), (.int .i64 a.sig), (.bool (a.up)), (.int .i64 a.dst)])] [.any, .any] (.bool (arcB x a)) := by
 refine Sp_intro (lend := true) Tryz.func38 rfl rfl rfl (fun _ => rfl) (fun c hc hX => ?_)
 obtain ⟨hp0, hp1, hp2⟩ := Sgr.parts hb
 have hn0 := bulkF_len hp0
 have hn1 := bulk_len hp1
 have hx1 := bulk_mem hp1
 have hn2 := bulkF_len hp2; have hca := codes_at hcl
 refine Ts hc (Ch.s (.ptr 2000 0) (.box 2000 _ _ rfl (.aggD _)) (Ch.s (.ptr 3000 0) (.box 3000 _ _ rfl (.aggD _)) (Ch.s (dB false) pa (Ch.nil (Tq (Tq ?_))))))
 refine Tz hc (Ch.s (.ptr 3000 0) (fP fld70_0 rfl) (Ch.s (dI a.src) (lP ag3 rfl rfl rfl) (Ch.s (.ptr 2000 1) (fP fld33_1 rfl) (Ch.s (.d (.slice false 1 (x.codes.map D.str))) (lP ag23 rfl rfl rfl) (Ch.s (dI (x.codes.length : Int)) (.pure (.len _ _ 9 rfl Tryz.underlying23 (.sh _ _) (by simp))) (Ch.s (dI ((x.codes.length : Int) - 1)) (iX rfl rfl intV_subA) (Ch.s (dB (withinB a.src 0 ((x.codes.length : Int) - 1))) (.call 13000 17 _ _ _ en17 rfl (.inl rfl) (.cons (.d _) (.cons (.d _) (.cons (.d _) .nil))) rfl rfl (sp_spec_l1In a.src 0 ((x.codes.length : Int) - 1)) (.skip _ _ (.skip _ _ (.skip _ _ .nil))) rfl) ?_)))))))
 refine Ch.s (dB (!(withinB a.src 0 ((x.codes.length : Int) - 1)))) (nT rfl) (Ch.s (dB (!(withinB a.src 0 ((x.codes.length : Int) - 1)))) pm ?_)
 cases h1 : (withinB a.src 0 ((x.codes.length : Int) - 1)) with
 | true =>
  try have hw1 := within_two h1
  refine Ch.s (.ptr 3000 3) (fP fld70_3 rfl) (Ch.s (dI a.dst) (lP ag3 rfl rfl rfl) (Ch.s (.ptr 2000 1) (fP fld33_1 rfl) (Ch.s (.d (.slice false 1 (x.codes.map D.str))) (lP ag23 rfl rfl rfl) (Ch.s (dI (x.codes.length : Int)) (.pure (.len _ _ 9 rfl Tryz.underlying23 (.sh _ _) (by simp))) (Ch.s (dI ((x.codes.length : Int) - 1)) (iX rfl rfl intV_subA) (Ch.s (dB (withinB a.dst 0 ((x.codes.length : Int) - 1))) (.call 22000 17 _ _ _ en17 rfl (.inl rfl) (.cons (.d _) (.cons (.d _) (.cons (.d _) .nil))) rfl rfl (sp_spec_l1In a.dst 0 ((x.codes.length : Int) - 1)) (.skip _ _ (.skip _ _ (.skip _ _ .nil))) rfl) (Ch.s (dB (!(withinB a.dst 0 ((x.codes.length : Int) - 1)))) (nT rfl) ?_)))))))
  refine Ch.s (dB (!(withinB a.dst 0 ((x.codes.length : Int) - 1)))) (pF rfl) (Ch.s (dB (!(withinB a.dst 0 ((x.codes.length : Int) - 1)))) pm ?_)
  cases h2 : (withinB a.dst 0 ((x.codes.length : Int) - 1)) with
  | true =>
   try have hw2 := within_two h2
   try have hl1 := hca a.src (by omega) (by omega)
   try have hl2 := hca a.dst (by omega) (by omega)
   try have hl3 := hl1.2
   try have hl4 := hl2.2
   try unfold codeAt at hl3 hl4
   refine Ch.s (.ptr 3000 1) (fP fld70_1 rfl) (Ch.s (dI a.sig) (lP ag3 rfl rfl rfl) (Ch.s (.ptr 3000 2) (fP fld70_2 rfl) (Ch.s (dB (a.up)) (lP ag4 rfl rfl rfl) (Ch.s (.agg [(dI a.sig), (dB (a.up))]) (.build _ _ rfl stru82 (.cons (.one _ rfl) (.cons (.one _ rfl) .nil)) rfl) (Ch.s (.ptr 2000 0) (fP fld33_0 rfl) (Ch.s (.d (.slice false 2 (x.sigs.map Sgn.d))) (lP ag30 rfl rfl rfl) (Ch.s (dI (x.sigs.length : Int)) (.pure (.len _ _ 76 rfl Tryz.underlying30 (.sh _ _) (by simp))) ?_)))))))
   refine Ch.s (dB (edgeB (Lab.mk a.sig a.up) (x.sigs.length : Int))) (.call 34000 64 _ _ _ en64 rfl (.inl rfl) (.cons (.lend (.agg (.cons (.d _) (.cons (.d _) .nil)) rfl)) (.cons (.d _) .nil)) rfl rfl (sp_spec_l2Label (Lab.mk a.sig a.up) (x.sigs.length : Int) a21 a21) (.skip _ _ (.skip _ _ .nil)) rfl) (Ch.s (dB (!(edgeB (Lab.mk a.sig a.up) (x.sigs.length : Int)))) (nT rfl) (Ch.s (dB (!(edgeB (Lab.mk a.sig a.up) (x.sigs.length : Int)))) (pF rfl) (Ch.nil ?_)))
   refine T_condN (b := (edgeB (Lab.mk a.sig a.up) (x.sigs.length : Int))) rfl (fun h3 => ?_) (fun h3 => ?_)
   ·
    refine Ts hc (Ch.s (dB false) pa (Ch.nil (T_ret ?_)))
    exact eR [(dB false)] [] [] (.cons (.tmp 4 rfl) .nil) eB (Exp.of (congrArg D.bool a5) (.d _))
   ·
    refine Tk (Tq ?_)
    refine T_regionD hc (by kernel_rfl) ?_
    refine ChD.s (.ptr 2000 1) [] (fP fld33_1 rfl) (ChD.s (.d (.slice false 1 (x.codes.map D.str))) [2000] (lP ag23 rfl rfl rfl) (ChD.s (.ptr 3000 0) [] (fP fld70_0 rfl) (ChD.s (dI a.src) [3000] (lP ag3 rfl rfl rfl) (ChD.s (.d (.ref (.str (x.codes.getD ((a.src).toNat) default)))) [] (.pure (.idx _ _ _ 9 ((a.src).toNat) rfl Tryz.underlying23 sz9 rfl rfl (by omega) get_mapA)) (ChD.s (dS (x.codes.getD ((a.src).toNat) default)) [] (rF ag9 rfl rfl) (ChD.s (.ptr 2000 1) [] (fP fld33_1 rfl) (ChD.s (.d (.slice false 1 (x.codes.map D.str))) [2000] (lP ag23 rfl rfl rfl) ?_)))))))
    refine ChD.s (.ptr 3000 3) [] (fP fld70_3 rfl) (ChD.s (dI a.dst) [3000] (lP ag3 rfl rfl rfl) (ChD.s (.d (.ref (.str (x.codes.getD ((a.dst).toNat) default)))) [] (.pure (.idx _ _ _ 9 ((a.dst).toNat) rfl Tryz.underlying23 sz9 rfl rfl (by omega) get_mapA)) (ChD.s (dS (x.codes.getD ((a.dst).toNat) default)) [] (rF ag9 rfl rfl) (ChD.s (dS (x.codes.getD ((a.src).toNat) default)) [] pa (ChD.s (dS (x.codes.getD ((a.dst).toNat) default)) [] pa ?_)))))
    refine ChD.nil (And.intro ?_ (by kernel_rfl))
    refine Tq (Ts hc (Ch.s (.ptr 3000 1) (fP fld70_1 rfl) (Ch.s (dI a.sig) (lP ag3 rfl rfl rfl) (Ch.s (dB (decide (a.sig < 0))) (iX rfl rfl rfl) (Ch.nil ?_)))))
    refine T_condD (p := (a.sig < 0)) rfl (fun h4 => ?_) (fun h4 => ?_)
    ·
     try have hf4 := fit_neg (a := a) (u := codeAt x a.src) (v := codeAt x a.dst) (by omega) (by omega)
     try have hf5 := fit_pos (a := a) hl1.1 hl2.1 (by omega) (by have := edge_lt h3; omega)
     try have hlt := edge_lt h3
     refine Ts hc (Ch.s (dS (x.codes.getD ((a.src).toNat) default)) pm (Ch.s (dS (x.codes.getD ((a.dst).toNat) default)) pm (Ch.s (dB (decide ((x.codes.getD ((a.src).toNat) default) = (x.codes.getD ((a.dst).toNat) default)))) (.pure (.str _ _ _ _ _ rfl rfl rfl rfl)) (Ch.s (dB (decide ((x.codes.getD ((a.src).toNat) default) = (x.codes.getD ((a.dst).toNat) default)))) pa (Ch.nil (T_ret ?_))))))
     exact eR [(dB (decide ((x.codes.getD ((a.src).toNat) default) = (x.codes.getD ((a.dst).toNat) default))))] [] [] (.cons (.tmp 4 rfl) .nil) eB (Exp.of (congrArg D.bool a5) (.d _))
    ·
     try have hf4 := fit_neg (a := a) (u := codeAt x a.src) (v := codeAt x a.dst) (by omega) (by omega)
     try have hf5 := fit_pos (a := a) hl1.1 hl2.1 (by omega) (by have := edge_lt h3; omega)
     try have hlt := edge_lt h3
     refine Tk (Tq ?_)
     refine T_regionD hc (by kernel_rfl) ?_
     refine ChD.s (dS (x.codes.getD ((a.src).toNat) default)) [] pm (ChD.s (dS (x.codes.getD ((a.dst).toNat) default)) [] pm (ChD.s (.ptr 3000 1) [] (fP fld70_1 rfl) (ChD.s (dI a.sig) [3000] (lP ag3 rfl rfl rfl) (ChD.s (.ptr 3000 2) [] (fP fld70_2 rfl) (ChD.s (dB (a.up)) [3000] (lP ag4 rfl rfl rfl) (ChD.s (dB (!(a.up))) [] (nT rfl) (ChD.s (dS ([bitN (!(a.up))])) [] (.call 62000 66 _ _ _ en66 rfl (.inl rfl) (.cons (.d _) .nil) rfl rfl (sp_spec_l5Bit (!(a.up))) (.skip _ _ .nil) rfl) ?_)))))))
     refine ChD.s (dS ((x.codes.getD ((a.dst).toNat) default).take a.sig.toNat ++ ([bitN (!(a.up))]) ++ (x.codes.getD ((a.dst).toNat) default).drop (a.sig + 1).toNat)) [] (.call 63000 65 _ _ _ en65 rfl (.inl rfl) (.cons (.d _) (.cons (.d _) (.cons (.d _) .nil))) rfl rfl (sp_spec_l5Set (x.codes.getD ((a.dst).toNat) default) a.sig ([bitN (!(a.up))]) a16 (by first | omega | (simp; done) | assumption) a16 a16) (.skip _ _ (.skip _ _ (.skip _ _ .nil))) rfl) (ChD.s (dB (decide ((x.codes.getD ((a.src).toNat) default) = ((x.codes.getD ((a.dst).toNat) default).take a.sig.toNat ++ ([bitN (!(a.up))]) ++ (x.codes.getD ((a.dst).toNat) default).drop (a.sig + 1).toNat)))) [] (.pure (.str _ _ _ _ _ rfl rfl rfl rfl)) (ChD.s (dB (decide ((x.codes.getD ((a.src).toNat) default) = ((x.codes.getD ((a.dst).toNat) default).take a.sig.toNat ++ ([bitN (!(a.up))]) ++ (x.codes.getD ((a.dst).toNat) default).drop (a.sig + 1).toNat)))) [] pm ?_))
     cases h5 : (decide ((x.codes.getD ((a.src).toNat) default) = ((x.codes.getD ((a.dst).toNat) default).take a.sig.toNat ++ ([bitN (!(a.up))]) ++ (x.codes.getD ((a.dst).toNat) default).drop (a.sig + 1).toNat))) with
     | true =>
      replace h5 := odt h5
      refine ChD.s (dS (x.codes.getD ((a.dst).toNat) default)) [] pm (ChD.s (dS (x.codes.getD ((a.src).toNat) default)) [] pm (ChD.s (.ptr 3000 1) [] (fP fld70_1 rfl) (ChD.s (dI a.sig) [3000] (lP ag3 rfl rfl rfl) (ChD.s (.ptr 3000 2) [] (fP fld70_2 rfl) (ChD.s (dB (a.up)) [3000] (lP ag4 rfl rfl rfl) (ChD.s (dS ([bitN (a.up)])) [] (.call 72000 66 _ _ _ en66 rfl (.inl rfl) (.cons (.d _) .nil) rfl rfl (sp_spec_l5Bit (a.up)) (.skip _ _ .nil) rfl) (ChD.s (dS ((x.codes.getD ((a.src).toNat) default).take a.sig.toNat ++ ([bitN (a.up)]) ++ (x.codes.getD ((a.src).toNat) default).drop (a.sig + 1).toNat)) [] (.call 73000 65 _ _ _ en65 rfl (.inl rfl) (.cons (.d _) (.cons (.d _) (.cons (.d _) .nil))) rfl rfl (sp_spec_l5Set (x.codes.getD ((a.src).toNat) default) a.sig ([bitN (a.up)]) a16 (by first | omega | (simp; done) | assumption) a16 a16) (.skip _ _ (.skip _ _ (.skip _ _ .nil))) rfl) ?_)))))))
      refine ChD.s (dB (decide ((x.codes.getD ((a.dst).toNat) default) = ((x.codes.getD ((a.src).toNat) default).take a.sig.toNat ++ ([bitN (a.up)]) ++ (x.codes.getD ((a.src).toNat) default).drop (a.sig + 1).toNat)))) [] (.pure (.str _ _ _ _ _ rfl rfl rfl rfl)) (ChD.s (dB (decide ((x.codes.getD ((a.dst).toNat) default) = ((x.codes.getD ((a.src).toNat) default).take a.sig.toNat ++ ([bitN (a.up)]) ++ (x.codes.getD ((a.src).toNat) default).drop (a.sig + 1).toNat)))) [] (pT rfl) (ChD.s (dB (decide ((x.codes.getD ((a.dst).toNat) default) = ((x.codes.getD ((a.src).toNat) default).take a.sig.toNat ++ ([bitN (a.up)]) ++ (x.codes.getD ((a.src).toNat) default).drop (a.sig + 1).toNat)))) [] pa ?_))
      refine ChD.nil (And.intro ?_ (by kernel_rfl))
      refine T_ret ?_
      exact eR [(dB (decide ((x.codes.getD ((a.dst).toNat) default) = ((x.codes.getD ((a.src).toNat) default).take a.sig.toNat ++ ([bitN (a.up)]) ++ (x.codes.getD ((a.src).toNat) default).drop (a.sig + 1).toNat))))] [] [] (.cons (.tmp 4 rfl) .nil) eB (Exp.of (congrArg D.bool a5) (.d _))
     | false =>
      replace h5 := odf h5
      refine ChD.skip rfl rfl (ChD.skip rfl rfl (ChD.skip rfl rfl (ChD.skip rfl rfl (ChD.skip rfl rfl (ChD.skip rfl rfl (ChD.skip rfl rfl (ChD.skip rfl rfl ?_)))))))
      refine ChD.skip rfl rfl (ChD.s (dB false) [] (pF rfl) (ChD.s (dB false) [] pa ?_))
      refine ChD.nil (And.intro ?_ (by kernel_rfl))
      refine T_ret ?_
      exact eR [(dB false)] [] [] (.cons (.tmp 4 rfl) .nil) eB (Exp.of (congrArg D.bool a5) (.d _))
  | false =>
   try have hw2 := within_two h2
   try have hl1 := hca a.src (by omega) (by omega)
   try have hl2 := hca a.dst (by omega) (by omega)
   try have hl3 := hl1.2
   try have hl4 := hl2.2
   try unfold codeAt at hl3 hl4
   refine Ck (Ck (Ck (Ck (Ck (Ck (Ck (Ch.skip rfl rfl ?_)))))))
   refine Ck (Ck (Ch.s (dB true) (pT rfl) (Ch.nil ?_)))
   refine T_cond (b := true) rfl (fun _ => ?_) (fun h => nomatch h)
   refine Ts hc (Ch.s (dB false) pa (Ch.nil (T_ret ?_)))
   exact eR [(dB false)] [] [] (.cons (.tmp 4 rfl) .nil) eB (Exp.of (congrArg D.bool a5) (.d _))
 | false =>
  try have hw1 := within_two h1
  refine Ck (Ck (Ck (Ck (Ck (Ck (Ck (Ch.skip rfl rfl ?_)))))))
  refine Ch.s (dB true) (pT rfl) (Ch.s (dB true) pm (Ck (Ck (Ck (Ck (Ck (Ch.skip rfl rfl ?_)))))))
  refine Ck (Ck (Ck (Ck (Ch.s (dB true) (pT rfl) (Ch.nil ?_)))))
  refine T_cond (b := true) rfl (fun _ => ?_) (fun h => nomatch h)
  refine Ts hc (Ch.s (dB false) pa (Ch.nil (T_ret ?_)))
  exact eR [(dB false)] [] [] (.cons (.tmp 4 rfl) .nil) eB (Exp.of (congrArg D.bool a5) (.d _))

set_option maxHeartbeats 2000000 in
theorem sp_spec_l5All (x : Sgr) (hb : x.bulk ≤ 1048576) (hn : 1 ≤ x.codes.length) (hen : ends x.codes.length x.arcs) : Sp Tryz.prog 39 [(.agg [(.slice false 2 (x.sigs.map Sgn.d)), (.slice false 1 (x.codes.map D.str)), (.slice false 4 (x.arcs.map Arc.d))])] [.any] (.bool (!hasI (distF x.codes.length (stepsOf x.arcs) 0) (-1))) := by
 refine Sp_intro (lend := true) Tryz.func39 rfl rfl rfl (fun _ => rfl) (fun c hc hX => ?_)
 obtain ⟨hp0, hp1, hp2⟩ := Sgr.parts hb
 have hn0 := bulkF_len hp0
 have hn1 := bulk_len hp1
 have hx1 := bulk_mem hp1
 have hn2 := bulkF_len hp2
 refine Ts hc (Ch.s (.ptr 1000 0) (.box 1000 _ _ rfl (.aggD _)) (Ch.s (dB false) pa (Ch.nil (Ts hc (Ch.s (.ptr 1000 1) (fP fld33_1 rfl) ?_)))))
 refine Ch.s (.d (.slice false 1 (x.codes.map D.str))) (lP ag23 rfl rfl rfl) (Ch.s (dI (x.codes.length : Int)) (.pure (.len _ _ 9 rfl Tryz.underlying23 (.sh _ _) (by simp))) (Ch.s (.row 11000) (.make 11000 _ 4 _ _ (x.codes.length) (x.codes.length) rfl sty99 rfl rfl rfl rfl a24 a24 a24 (zeroD_mk (zd := (.bool false)) zr4 a70 rfl)) (Ch.s (.row 11000) pa (Ch.nil (Ts hc (Ch.s (.row 11000) pm ?_))))))
 refine Ch.s (.el 11000 1 0 0) (.pure (.idxRow _ _ _ 4 (0) rfl Tryz.underlying99 sz4 rfl rfl rfl rfl a52)) (Ch.s .junk (.storeEl (y' := (.bool true)) _ _ _ rfl rfl rfl (.d _) rfl sz4 rfl (by rw [List.getElem?_replicate, if_pos (by omega)]) rfl rfl) (Ch.nil (Tq (Ts hc (Ch.s (.ptr 1000 1) (fP fld33_1 rfl) (Ch.s (.d (.slice false 1 (x.codes.map D.str))) (lP ag23 rfl rfl rfl) ?_))))))
 refine Ch.s (dI (x.codes.length : Int)) (.pure (.len _ _ 9 rfl Tryz.underlying23 (.sh _ _) (by simp))) (Ch.s (dI 0) pm (Ch.nil (Tb ?_)))
 refine T_loop (ι := Nat) (fun k => { n := 46, sl := [(1, (.ptr 1000 0)), (3, (.row 3)), (16, (dI (x.codes.length : Int))), (17, (dI (k : Int)))], hp := [(3, (some (.row 1 ((metIt x k).map D.bool)))), (1000, (some (.box (vX x))))], pin := [] }) (fun k => k ≤ x.codes.length) (fun k => x.codes.length - k) ⟨0, (by omega), (Wk.ren [(3, 11000)] rfl rfl rfl rfl (ar (ar (ar (ai (vI a67) trivial)))) (ai (oR a61) (ar trivial)))⟩ (fun k hp0 => ?_)
 have hml := metIt_len x k
 refine Ts hc (Ch.s (dB (decide ((k : Int) < (x.codes.length : Int)))) (iX rfl rfl rfl) (Ch.nil (Tq ?_)))
 refine T_condD (p := ((k : Int) < (x.codes.length : Int))) rfl (fun h1 => ?_) (fun h1 => ?_)
 ·
  refine Tk (Tq (Tb (Ts hc (Ch.s (.ptr 1000 2) (fP fld33_2 rfl) (Ch.s (.d (.slice false 4 (x.arcs.map Arc.d))) (lP ag31 rfl rfl rfl) (Ch.s (dI (x.arcs.length : Int)) (.pure (.len _ _ 70 rfl Tryz.underlying31 (.sh _ _) (by simp))) ?_))))))
  refine Ch.s (dI 0) pm (Ch.nil (Tb ?_))
  refine T_loop (ι := Nat) (fun m => { n := 46, sl := [(1, (.ptr 1000 0)), (3, (.row 3)), (16, (dI (x.codes.length : Int))), (17, (dI (k : Int))), (20, (.d (.slice false 4 (x.arcs.map Arc.d)))), (21, (dI (x.arcs.length : Int))), (22, (dI (m : Int)))], hp := [(3, (some (.row 1 ((metTo x k m).map D.bool)))), (1000, (some (.box (vX x))))], pin := [] }) (fun m => m ≤ x.arcs.length) (fun m => x.arcs.length - m) ⟨0, (by omega), (Wk.of rfl rfl (ar (ar (ar (ar (ar (ar (ai (vI a67) trivial))))))) (ai (oR a35) (ar trivial)))⟩ (fun m hp1 => ?_)
  have hmt := metTo_len x k m
  refine Ts hc (Ch.s (dB (decide ((m : Int) < (x.arcs.length : Int)))) (iX rfl rfl rfl) (Ch.nil (Tq ?_)))
  refine T_condD (p := ((m : Int) < (x.arcs.length : Int))) rfl (fun h2 => ?_) (fun h2 => ?_)
  ·
   try have hee := hen _ (getD_mem (l := x.arcs) (j := m) (d := default) (by omega))
   refine Tk (Tq (Tb (Ts hc (Ch.s (.d (.ref (.agg [(.int .i64 ((x.arcs.getD m default).src)), (.int .i64 ((x.arcs.getD m default).sig)), (.bool ((x.arcs.getD m default).up)), (.int .i64 ((x.arcs.getD m default).dst))]))) (.pure (.idx _ _ _ 70 (m) rfl Tryz.underlying31 sz70 rfl rfl rfl get_mapA)) (Ch.s (.d (.agg [(.int .i64 ((x.arcs.getD m default).src)), (.int .i64 ((x.arcs.getD m default).sig)), (.bool ((x.arcs.getD m default).up)), (.int .i64 ((x.arcs.getD m default).dst))])) (.pure (.loadRefA _ _ rfl ag70 sz70 rfl)) (Ch.s (.ptr 5000 0) (.alloc 5000 _ rfl zer70) ?_))))))
   refine Ch.s .junk (.storePtr _ _ _ rfl rfl rfl (.aggD _) sz70 (lb rfl)) (Ch.nil (Ts hc (Ch.s (.row 3) pm (Ch.s (.ptr 5000 0) (fP fld70_0 rfl) (Ch.s (dI ((x.arcs.getD m default).src)) (lP ag3 rfl rfl rfl) (Ch.s (.el 3 1 ((((x.arcs.getD m default).src)).toNat) 0) (.pure (.idxRow _ _ _ 4 ((((x.arcs.getD m default).src)).toNat) rfl Tryz.underlying99 sz4 rfl rfl rfl (by omega) a52)) ?_))))))
   refine Ch.s (dB (((metTo x k m).getD ((((x.arcs.getD m default).src)).toNat) default))) (.pure (.loadEl1 _ _ rfl ag4 rfl rfl get_mapA rfl rfl rfl)) (Ch.nil ?_)
   refine T_cond (b := (((metTo x k m).getD ((((x.arcs.getD m default).src)).toNat) default))) rfl (fun h3 => ?_) (fun h3 => ?_)
   ·
    refine Tz hc (Ch.s (.row 3) pm (Ch.s (.ptr 5000 3) (fP fld70_3 rfl) (Ch.s (dI ((x.arcs.getD m default).dst)) (lP ag3 rfl rfl rfl) (Ch.s (.el 3 1 ((((x.arcs.getD m default).dst)).toNat) 0) (.pure (.idxRow _ _ _ 4 ((((x.arcs.getD m default).dst)).toNat) rfl Tryz.underlying99 sz4 rfl rfl rfl (by omega) a52)) (Ch.s .junk (.storeEl (y' := (.bool true)) _ _ _ rfl rfl rfl (.d _) rfl sz4 rfl get_mapA rfl rfl) (Ch.nil (Tz hc ?_)))))))
    refine Ch.s (dI ((m : Int) + 1)) (iX rfl rfl intV_addA) (Ch.s (dI ((m : Int) + 1)) pm (Ch.nil ?_))
    exact nx (m + 1) (by omega) (Wk.of rfl rfl (ar (ar (ar (ar (ar (ar (ai (vI a67) trivial))))))) (ai (oR a35) (ar trivial)))
   ·
    refine Tk (Tz hc (Ch.s (dI ((m : Int) + 1)) (iX rfl rfl intV_addA) (Ch.s (dI ((m : Int) + 1)) pm (Ch.nil ?_))))
    exact nx (m + 1) (by omega) (Wk.of rfl rfl (ar (ar (ar (ar (ar (ar (ai (vI a67) trivial))))))) (ai (oR a35) (ar trivial)))
  ·
   try have hee := hen _ (getD_mem (l := x.arcs) (j := m) (d := default) (by omega))
   refine T_exit (Tz hc (Ch.s (dI ((k : Int) + 1)) (iX rfl rfl intV_addA) (Ch.s (dI ((k : Int) + 1)) pm (Ch.nil ?_))))
   exact nx (k + 1) (by omega) (Wk.of rfl rfl (ar (ar (ar (ai (vI a67) trivial)))) (ai (oR a61) (ar trivial)))
 ·
  refine T_exit (Tq (Ts hc (Ch.s (.row 3) pm (Ch.s (dI ((metIt x k).length : Int)) (.pure (.len _ _ 4 rfl Tryz.underlying99 (.row rfl) (by simp))) (Ch.s (dI 0) pm (Ch.nil ?_))))))
  refine Tb ?_
  refine T_loop (ι := Nat) (fun m => { n := 46, sl := [(37, (.row 3)), (38, (dI ((metIt x k).length : Int))), (39, (dI (m : Int)))], hp := [(3, (some (.row 1 ((metIt x k).map D.bool))))], pin := [] }) (fun m => m ≤ x.codes.length ∧ ∀ j, j < m → (metIt x k).getD j default = true) (fun m => x.codes.length - m) ⟨0, ⟨by omega, fun j hj => by omega⟩, (Wk.of rfl rfl (ar (ar (ai (vI a67) trivial))) (ar trivial))⟩ (fun m hp2 => ?_)
  refine Ts hc (Ch.s (dB (decide ((m : Int) < ((metIt x k).length : Int)))) (iX rfl rfl rfl) (Ch.nil (Tq ?_)))
  refine T_condD (p := ((m : Int) < ((metIt x k).length : Int))) rfl (fun h4 => ?_) (fun h4 => ?_)
  ·
   refine Tk (Tq (Tb (Ts hc (Ch.s (.el 3 1 m 0) (.pure (.idxRow _ _ _ 4 (m) rfl Tryz.underlying99 sz4 rfl rfl rfl rfl a52)) (Ch.s (dB (((metIt x k).getD m default))) (.pure (.loadEl1 _ _ rfl ag4 rfl rfl get_mapA rfl rfl rfl)) (Ch.s (dB (((metIt x k).getD m default))) pa ?_))))))
   refine Ch.nil (Ts hc (Ch.s (dB (((metIt x k).getD m default))) pm (Ch.s (dB (!(((metIt x k).getD m default)))) (nT rfl) (Ch.nil ?_))))
   refine T_condN (b := (((metIt x k).getD m default))) rfl (fun h5 => ?_) (fun h5 => ?_)
   ·
    refine Ts hc (Ch.s (dB false) pa (Ch.nil (T_ret ?_)))
    exact eR [(dB false)] [] [] (.cons (.tmp 2 rfl) .nil) eA (Exp.of (congrArg D.bool a13) (.d _))
   ·
    refine Tk (Tz hc (Ch.s (dI ((m : Int) + 1)) (iX rfl rfl intV_addA) (Ch.s (dI ((m : Int) + 1)) pm (Ch.nil ?_))))
    exact nx (m + 1) ⟨by omega, upto_succ hp2.2 (by assumption)⟩ (Wk.of rfl rfl (ar (ar (ai (vI a67) trivial))) (ar trivial))
  ·
   refine T_exit (Ts hc (Ch.s (dB true) pa (Ch.nil (T_ret ?_))))
   exact eR [(dB true)] [] [] (.cons (.tmp 2 rfl) .nil) eA (Exp.of (congrArg D.bool a13) (.d _))

set_option maxHeartbeats 2000000 in
theorem sp_spec_l5Good (x : Sgr) (hb : x.bulk ≤ 1048576) : Sp Tryz.prog 16 [(.agg [(.slice false 2 (x.sigs.map Sgn.d)), (.slice false 1 (x.codes.map D.str)), (.slice false 4 (x.arcs.map Arc.d))])] [.any] (.bool (sgB x)) := by
 refine Sp_intro (lend := true) Tryz.func16 rfl rfl rfl (fun _ => rfl) (fun c hc hX => ?_)
 obtain ⟨hp0, hp1, hp2⟩ := Sgr.parts hb
 have hn0 := bulkF_len hp0
 have hn1 := bulk_len hp1
 have hx1 := bulk_mem hp1
 have hn2 := bulkF_len hp2
 refine Ts hc (Ch.s (.ptr 1000 0) (.box 1000 _ _ rfl (.aggD _)) (Ch.s (dB false) pa (Ch.nil (Tq (Tq (Tz hc ?_))))))
 refine Ch.s (.ptr 1000 0) (fP fld33_0 rfl) (Ch.s (.d (.slice false 2 (x.sigs.map Sgn.d))) (lP ag30 rfl rfl rfl) (Ch.s (dB (sigsB x.sigs)) (.call 9000 36 _ _ _ en36 rfl (.inl rfl) (.cons (.d _) .nil) rfl rfl (sp_spec_l2Signals x.sigs a21) (.skip _ _ .nil) rfl) (Ch.s (dB (!(sigsB x.sigs))) (nT rfl) (Ch.s (dB (!(sigsB x.sigs))) pm ?_))))
 cases h1 : (sigsB x.sigs) with
 | true =>
  try have hs8 := within_two (sigsB_len h1)
  refine Ch.s (.ptr 1000 1) (fP fld33_1 rfl) (Ch.s (.d (.slice false 1 (x.codes.map D.str))) (lP ag23 rfl rfl rfl) (Ch.s (dI (x.codes.length : Int)) (.pure (.len _ _ 9 rfl Tryz.underlying23 (.sh _ _) (by simp))) (Ch.s (dB (withinB (x.codes.length : Int) 1 300)) (.call 15000 17 _ _ _ en17 rfl (.inl rfl) (.cons (.d _) (.cons (.d _) (.cons (.d _) .nil))) rfl rfl (sp_spec_l1In (x.codes.length : Int) 1 300) (.skip _ _ (.skip _ _ (.skip _ _ .nil))) rfl) (Ch.s (dB (!(withinB (x.codes.length : Int) 1 300))) (nT rfl) (Ch.s (dB (!(withinB (x.codes.length : Int) 1 300))) (pF rfl) (Ch.s (dB (!(withinB (x.codes.length : Int) 1 300))) pm ?_))))))
  cases h2 : (withinB (x.codes.length : Int) 1 300) with
  | true =>
   try have hw2 := within_two h2
   refine Ch.s (.ptr 1000 2) (fP fld33_2 rfl) (Ch.s (.d (.slice false 4 (x.arcs.map Arc.d))) (lP ag31 rfl rfl rfl) (Ch.s (dI (x.arcs.length : Int)) (.pure (.len _ _ 70 rfl Tryz.underlying31 (.sh _ _) (by simp))) (Ch.s (dB (decide (4000 < (x.arcs.length : Int)))) (iX rfl rfl rfl) (Ch.s (dB (decide (4000 < (x.arcs.length : Int)))) (pF rfl) (Ch.nil ?_)))))
   refine T_condD (p := (4000 < (x.arcs.length : Int))) rfl (fun h3 => ?_) (fun h3 => ?_)
   ·
    refine Ts hc (Ch.s (dB false) pa (Ch.nil (T_ret ?_)))
    exact eR [(dB false)] [] [] (.cons (.tmp 2 rfl) .nil) eA (Exp.of (congrArg D.bool a8) (.d _))
   ·
    refine Tk (Tq (Ts hc (Ch.s (.ptr 1000 1) (fP fld33_1 rfl) (Ch.s (.d (.slice false 1 (x.codes.map D.str))) (lP ag23 rfl rfl rfl) (Ch.s (dI (x.codes.length : Int)) (.pure (.len _ _ 9 rfl Tryz.underlying23 (.sh _ _) (by simp))) (Ch.s (dI 0) pm ?_))))))
    refine Ch.nil (Tb ?_)
    refine T_loop (ι := Nat) (fun k => { n := 52, sl := [(1, (.ptr 1000 0)), (25, (.d (.slice false 1 (x.codes.map D.str)))), (26, (dI (x.codes.length : Int))), (27, (dI (k : Int)))], hp := [(1000, (some (.box (vX x))))], pin := [] }) (fun k => k ≤ x.codes.length ∧ ∀ j, j < k → codeN (x.codes.getD j default) (x.sigs.length : Int) = true) (fun k => x.codes.length - k) ⟨0, ⟨by omega, fun j hj => by omega⟩, (Wk.of rfl rfl (ar (ar (ar (ai (vI a67) trivial)))) (ar trivial))⟩ (fun k hp0 => ?_)
    refine Ts hc (Ch.s (dB (decide ((k : Int) < (x.codes.length : Int)))) (iX rfl rfl rfl) (Ch.nil (Tq ?_)))
    refine T_condD (p := ((k : Int) < (x.codes.length : Int))) rfl (fun h4 => ?_) (fun h4 => ?_)
    ·
     try have hcl := sg_codes (x := x) (k := k) (by omega) hp0.2
     try have hca := codes_at hcl
     refine Tk (Tq (Tb (Ts hc (Ch.s (.d (.ref (.str (x.codes.getD k default)))) (.pure (.idx _ _ _ 9 (k) rfl Tryz.underlying23 sz9 rfl rfl rfl get_mapA)) (Ch.s (dS (x.codes.getD k default)) (rF ag9 rfl rfl) (Ch.s (dS (x.codes.getD k default)) pa ?_))))))
     refine Ch.nil (Ts hc (Ch.s (dS (x.codes.getD k default)) pm (Ch.s (.ptr 1000 0) (fP fld33_0 rfl) (Ch.s (.d (.slice false 2 (x.sigs.map Sgn.d))) (lP ag30 rfl rfl rfl) (Ch.s (dI (x.sigs.length : Int)) (.pure (.len _ _ 76 rfl Tryz.underlying30 (.sh _ _) (by simp))) (Ch.s (dB (codeN (x.codes.getD k default) (x.sigs.length : Int))) (.call 35000 37 _ _ _ en37 rfl (.inl rfl) (.cons (.d _) (.cons (.d _) .nil)) rfl rfl (sp_spec_l5Code (x.codes.getD k default) (x.sigs.length : Int) a16) (.skip _ _ (.skip _ _ .nil)) rfl) ?_))))))
     refine Ch.s (dB (!(codeN (x.codes.getD k default) (x.sigs.length : Int)))) (nT rfl) (Ch.nil ?_)
     refine T_condN (b := (codeN (x.codes.getD k default) (x.sigs.length : Int))) rfl (fun h5 => ?_) (fun h5 => ?_)
     ·
      refine Ts hc (Ch.s (dB false) pa (Ch.nil (T_ret ?_)))
      exact eR [(dB false)] [] [] (.cons (.tmp 2 rfl) .nil) eA (Exp.of (congrArg D.bool a8) (.d _))
     ·
      refine Tk (Tz hc (Ch.s (dI ((k : Int) + 1)) (iX rfl rfl intV_addA) (Ch.s (dI ((k : Int) + 1)) pm (Ch.nil ?_))))
      exact nx (k + 1) ⟨by omega, upto_succ hp0.2 (by assumption)⟩ (Wk.of rfl rfl (ar (ar (ar (ai (vI a67) trivial)))) (ar trivial))
    ·
     try have hcl := sg_codes (x := x) (k := k) (by omega) hp0.2
     try have hca := codes_at hcl
     refine T_exit (Tq (Ts hc (Ch.s (.ptr 1000 2) (fP fld33_2 rfl) (Ch.s (.d (.slice false 4 (x.arcs.map Arc.d))) (lP ag31 rfl rfl rfl) (Ch.s (dI (x.arcs.length : Int)) (.pure (.len _ _ 70 rfl Tryz.underlying31 (.sh _ _) (by simp))) (Ch.s (dI 0) pm ?_))))))
     refine Ch.nil (Tb ?_)
     refine T_loop (ι := Nat) (fun m => { n := 52, sl := [(1, (.ptr 1000 0)), (39, (.d (.slice false 4 (x.arcs.map Arc.d)))), (40, (dI (x.arcs.length : Int))), (41, (dI (m : Int)))], hp := [(1000, (some (.box (vX x))))], pin := [] }) (fun m => m ≤ x.arcs.length ∧ ∀ j, j < m → arcB x (x.arcs.getD j default) = true) (fun m => x.arcs.length - m) ⟨0, ⟨by omega, fun j hj => by omega⟩, (Wk.of rfl rfl (ar (ar (ar (ai (vI a67) trivial)))) (ar trivial))⟩ (fun m hp1 => ?_)
     refine Ts hc (Ch.s (dB (decide ((m : Int) < (x.arcs.length : Int)))) (iX rfl rfl rfl) (Ch.nil (Tq ?_)))
     refine T_condD (p := ((m : Int) < (x.arcs.length : Int))) rfl (fun h6 => ?_) (fun h6 => ?_)
     ·
      try have hal := sg_arcs (x := x) (k := m) (by omega) hp1.2
      try have hen := arc_ends hal
      try have hse := steps_ends hen
      try have hsl := stepsOf_len x.arcs
      try have hdl := distF_len (n := x.codes.length) (s := 0) (by omega) hse
      refine Tk (Tq (Tb (Ts hc (Ch.s (.d (.ref (.agg [(.int .i64 ((x.arcs.getD m default).src)), (.int .i64 ((x.arcs.getD m default).sig)), (.bool ((x.arcs.getD m default).up)), (.int .i64 ((x.arcs.getD m default).dst))]))) (.pure (.idx _ _ _ 70 (m) rfl Tryz.underlying31 sz70 rfl rfl rfl get_mapA)) (Ch.s (.d (.agg [(.int .i64 ((x.arcs.getD m default).src)), (.int .i64 ((x.arcs.getD m default).sig)), (.bool ((x.arcs.getD m default).up)), (.int .i64 ((x.arcs.getD m default).dst))])) (.pure (.loadRefA _ _ rfl ag70 sz70 rfl)) (Ch.s (.ptr 6000 0) (.alloc 6000 _ rfl zer70) ?_))))))
      refine Ch.s .junk (.storePtr _ _ _ rfl rfl rfl (.aggD _) sz70 (lb rfl)) (Ch.nil (Ts hc (Ch.s (.agg (vX x)) (lA ag33 sz33 rfl rfl (lb rfl) rfl) (Ch.s (.agg [(dI ((x.arcs.getD m default).src)), (dI ((x.arcs.getD m default).sig)), (dB ((x.arcs.getD m default).up)), (dI ((x.arcs.getD m default).dst))]) (lA ag70 sz70 rfl rfl (lb rfl) rfl) (Ch.s (dB (arcB x (x.arcs.getD m default))) (.call 47000 38 _ _ _ en38 rfl (.inl rfl) (.cons lX (.cons (.lend (.agg (.cons (.d _) (.cons (.d _) (.cons (.d _) (.cons (.d _) .nil)))) rfl)) .nil)) rfl rfl (sp_spec_l5Arc x (x.arcs.getD m default) a21 a21 (by assumption)) (.skip _ _ (.skip _ _ .nil)) rfl) (Ch.s (dB (!(arcB x (x.arcs.getD m default)))) (nT rfl) ?_))))))
      refine Ch.nil ?_
      refine T_condN (b := (arcB x (x.arcs.getD m default))) rfl (fun h7 => ?_) (fun h7 => ?_)
      ·
       refine Ts hc (Ch.s (dB false) pa (Ch.nil (T_ret ?_)))
       exact eR [(dB false)] [] [] (.cons (.tmp 2 rfl) .nil) eA (Exp.of (congrArg D.bool a8) (.d _))
      ·
       refine Tk (Tz hc (Ch.s (dI ((m : Int) + 1)) (iX rfl rfl intV_addA) (Ch.s (dI ((m : Int) + 1)) pm (Ch.nil ?_))))
       exact nx (m + 1) ⟨by omega, upto_succ hp1.2 a64⟩ (Wk.of rfl rfl (ar (ar (ar (ai (vI a67) trivial)))) (ar trivial))
     ·
      try have hal := sg_arcs (x := x) (k := m) (by omega) hp1.2
      try have hen := arc_ends hal
      try have hse := steps_ends hen
      try have hsl := stepsOf_len x.arcs
      try have hdl := distF_len (n := x.codes.length) (s := 0) (by omega) hse
      refine T_exit (Ts hc (Ch.s (.agg (vX x)) (lA ag33 sz33 rfl rfl (lb rfl) rfl) (Ch.s (dB (!hasI (distF x.codes.length (stepsOf x.arcs) 0) (-1))) (.call 51000 39 _ _ _ en39 rfl (.inl rfl) (.cons lX .nil) rfl rfl (sp_spec_l5All x a21 a21 (by assumption)) (.skip _ _ .nil) rfl) (Ch.s (dB (!hasI (distF x.codes.length (stepsOf x.arcs) 0) (-1))) pa (Ch.nil (T_ret ?_))))))
      exact eR [(dB (!hasI (distF x.codes.length (stepsOf x.arcs) 0) (-1)))] [] [] (.cons (.tmp 2 rfl) .nil) eA (Exp.of (congrArg D.bool a8) (.d _))
  | false =>
   try have hw2 := within_two h2
   refine Ck (Ck (Ck (Ck (Ch.s (dB true) (pT rfl) (Ch.nil ?_)))))
   refine T_cond (b := true) rfl (fun _ => ?_) (fun h => nomatch h)
   refine Ts hc (Ch.s (dB false) pa (Ch.nil (T_ret ?_)))
   exact eR [(dB false)] [] [] (.cons (.tmp 2 rfl) .nil) eA (Exp.of (congrArg D.bool a8) (.d _))
 | false =>
  try have hs8 := within_two (sigsB_len h1)
  refine Ck (Ck (Ck (Ck (Ck (Ch.s (dB true) (pT rfl) (Ch.s (dB true) pm (Ch.skip rfl rfl ?_)))))))
  refine Ck (Ck (Ck (Ch.s (dB true) (pT rfl) (Ch.nil ?_))))
  refine T_cond (b := true) rfl (fun _ => ?_) (fun h => nomatch h)
  refine Ts hc (Ch.s (dB false) pa (Ch.nil (T_ret ?_)))
  exact eR [(dB false)] [] [] (.cons (.tmp 2 rfl) .nil) eA (Exp.of (congrArg D.bool a8) (.d _))

theorem en32 : Enters Tryz.prog 32 := ⟨_, Tryz.func32, by kernel_rfl, rfl⟩

theorem en11 : Enters Tryz.prog 11 := ⟨_, Tryz.func11, by kernel_rfl, rfl⟩

theorem en33 : Enters Tryz.prog 33 := ⟨_, Tryz.func33, by kernel_rfl, rfl⟩

theorem sp_laws_markSignalS (xs : List Sgn) (k : Nat) (hn : xs.length ≤ 1048576) (hk : k ≤ 2097152) : Sp Tryz.prog 32 [(.slice true 2 (xs.map Sgn.d)), (.int .i64 (k : Int))] [.any, .any] (.int .i64 ((k + 2 * xs.length : Nat) : Int)) := by
 refine Sp_intro (lend := false) Tryz.func32 rfl rfl rfl (fun h => nomatch h) (fun c hc hX => ?_)
 refine Ts hc (Ch.s (dI 0) pa (Ch.nil (Tq (Ts hc (Ch.s (dI 0) pa ?_)))))
 refine Ch.nil (Tb ?_)
 refine T_loop (ι := Nat × List Sgn) (fun p => { n := 28, sl := [(0, (.row 1)), (1, (dI ((k + 2 * p.1 : Nat) : Int))), (5, (dI (p.1 : Int)))], hp := [(1, (some (.row 2 (p.2.map Sgn.d))))], pin := [1] }) (fun p => p.1 ≤ xs.length ∧ p.2.length = xs.length) (fun p => xs.length - p.1) ⟨(0, xs), ⟨by dsimp only; omega, rfl⟩, (Wk.of rfl rfl (ar (ai (vI a67) (ai (vI a67) trivial))) (ai (oR a23) trivial))⟩ (fun p hp0 => ?_)
 have hql := hp0.2
 refine Tq (Ts hc (Ch.s (dI (p.1 : Int)) pm (Ch.s (.row 1) pm (Ch.s (dI (p.2.length : Int)) (.pure (.len _ _ 76 rfl Tryz.underlying30 (.row rfl) (by simp))) (Ch.s (dB (decide ((p.1 : Int) < (p.2.length : Int)))) (iX rfl rfl rfl) (Ch.nil ?_))))))
 refine T_condD (p := ((p.1 : Int) < (p.2.length : Int))) rfl (fun h1 => ?_) (fun h1 => ?_)
 ·
  refine Tk (Tq (Tb (Ts hc (Ch.s (.row 1) pm (Ch.s (dI (p.1 : Int)) pm (Ch.s (dI ((k + 2 * p.1 : Nat) : Int)) pm ?_))))))
  refine Ch.s (dS (mtext (k + 2 * p.1))) (.call 15000 34 _ _ _ en34 rfl (.inl rfl) (.cons (.d _) .nil) rfl rfl (sp_laws_markText (k + 2 * p.1) a16) (.skip _ _ .nil) rfl) (Ch.s (.el 1 2 p.1 0) (.pure (.idxRow _ _ _ 76 (p.1) rfl Tryz.underlying30 sz76 rfl rfl rfl rfl a52)) (Ch.s (.el 1 2 p.1 0) (.pure (.fldEl _ _ _ rfl fld76_0 rfl)) (Ch.s .junk (.storeEl (y' := (.agg [(.str (mtext (k + 2 * p.1))), (.int .i64 ((p.2.getD p.1 default).kind))])) _ _ _ rfl rfl rfl (.d _) rfl sz9 rfl get_mapA rfl rfl) (Ch.nil (Ts hc (Ch.s (dI ((k + 2 * p.1 : Nat) : Int)) pm ?_))))))
  refine Ch.s (dI (((k + 2 * p.1 : Nat) : Int) + 1)) (iX rfl rfl intV_addA) (Ch.s (dI (((k + 2 * p.1 : Nat) : Int) + 1)) pa (Ch.nil (Ts hc (Ch.s (.row 1) pm (Ch.s (dI (p.1 : Int)) pm (Ch.s (dI (((k + 2 * p.1 : Nat) : Int) + 1)) pm ?_))))))
  refine Ch.s (.el 1 2 p.1 0) (.pure (.idxRow _ _ _ 76 (p.1) rfl Tryz.underlying30 sz76 rfl rfl rfl rfl a52)) (Ch.s (.el 1 2 p.1 1) (.pure (.fldEl _ _ _ rfl fld76_1 rfl)) (Ch.s .junk (.storeEl (y' := (.agg [(.str (mtext (k + 2 * p.1))), (.int .i64 (((k + 2 * p.1 : Nat) : Int) + 1))])) _ _ _ rfl rfl rfl (.d _) rfl sz3 rfl (get_set a52) rfl rfl) (Ch.nil (Tz hc (Ch.s (dI (((k + 2 * p.1 : Nat) : Int) + 1)) pm (Ch.s (dI ((((k + 2 * p.1 : Nat) : Int) + 1) + 1)) (iX rfl rfl intV_addA) (Ch.s (dI ((((k + 2 * p.1 : Nat) : Int) + 1) + 1)) pa ?_)))))))
  refine Ch.nil (Tz hc (Ch.s (dI (p.1 : Int)) pm (Ch.s (dI ((p.1 : Int) + 1)) (iX rfl rfl intV_addA) (Ch.s (dI ((p.1 : Int) + 1)) pa (Ch.nil ?_)))))
  exact nx (p.1 + 1, p.2.set p.1 (Sgn.mk (mtext (k + 2 * p.1)) ((k + 2 * p.1 + 1 : Nat) : Int))) ⟨by dsimp only; omega, by dsimp only; rw [List.length_set]; exact hp0.2⟩ (Wk.of rfl rfl (ar (ai (vI a67) (ai (vI a67) trivial))) (ai (oR a23) trivial))
 ·
  refine T_exit (Ts hc (Ch.s (dI ((k + 2 * p.1 : Nat) : Int)) pm (Ch.s (dI ((k + 2 * p.1 : Nat) : Int)) pa (Ch.nil (T_ret ?_)))))
  exact eR [(dI ((k + 2 * p.1 : Nat) : Int))] [] [] (.cons (.tmp 4 rfl) .nil) eB (Exp.of (congrArg (D.int .i64) (by omega)) (.d _))

theorem sp_laws_markArcS (xs : List Arc) (k : Nat) (hn : xs.length ≤ 1048576) (hk : k ≤ 4194304) : Sp Tryz.prog 33 [(.slice true 4 (xs.map Arc.d)), (.int .i64 (k : Int))] [.any, .any] (.int .i64 ((k + 4 * xs.length : Nat) : Int)) := by
 refine Sp_intro (lend := false) Tryz.func33 rfl rfl rfl (fun h => nomatch h) (fun c hc hX => ?_)
 refine Ts hc (Ch.s (dI 0) pa (Ch.nil (Tq (Ts hc (Ch.s (dI 0) pa ?_)))))
 refine Ch.nil (Tb ?_)
 refine T_loop (ι := Nat × List Arc) (fun p => { n := 43, sl := [(0, (.row 1)), (1, (dI ((k + 4 * p.1 : Nat) : Int))), (5, (dI (p.1 : Int)))], hp := [(1, (some (.row 4 (p.2.map Arc.d))))], pin := [1] }) (fun p => p.1 ≤ xs.length ∧ p.2.length = xs.length) (fun p => xs.length - p.1) ⟨(0, xs), ⟨by dsimp only; omega, rfl⟩, (Wk.of rfl rfl (ar (ai (vI a67) (ai (vI a67) trivial))) (ai (oR a23) trivial))⟩ (fun p hp0 => ?_)
 have hql := hp0.2
 refine Tq (Ts hc (Ch.s (dI (p.1 : Int)) pm (Ch.s (.row 1) pm (Ch.s (dI (p.2.length : Int)) (.pure (.len _ _ 70 rfl Tryz.underlying31 (.row rfl) (by simp))) (Ch.s (dB (decide ((p.1 : Int) < (p.2.length : Int)))) (iX rfl rfl rfl) (Ch.nil ?_))))))
 refine T_condD (p := ((p.1 : Int) < (p.2.length : Int))) rfl (fun h1 => ?_) (fun h1 => ?_)
 ·
  refine Tk (Tq (Tb (Ts hc (Ch.s (.row 1) pm (Ch.s (dI (p.1 : Int)) pm (Ch.s (dI ((k + 4 * p.1 : Nat) : Int)) pm ?_))))))
  refine Ch.s (.el 1 4 p.1 0) (.pure (.idxRow _ _ _ 70 (p.1) rfl Tryz.underlying31 sz70 rfl rfl rfl rfl a52)) (Ch.s (.el 1 4 p.1 0) (.pure (.fldEl _ _ _ rfl fld70_0 rfl)) (Ch.s .junk (.storeEl (y' := (.agg [(.int .i64 ((k + 4 * p.1 : Nat) : Int)), (.int .i64 ((p.2.getD p.1 default).sig)), (.bool ((p.2.getD p.1 default).up)), (.int .i64 ((p.2.getD p.1 default).dst))])) _ _ _ rfl rfl rfl (.d _) rfl sz3 rfl get_mapA rfl rfl) (Ch.nil (Ts hc (Ch.s (dI ((k + 4 * p.1 : Nat) : Int)) pm (Ch.s (dI (((k + 4 * p.1 : Nat) : Int) + 1)) (iX rfl rfl intV_addA) ?_))))))
  refine Ch.s (dI (((k + 4 * p.1 : Nat) : Int) + 1)) pa (Ch.nil (Ts hc (Ch.s (.row 1) pm (Ch.s (dI (p.1 : Int)) pm (Ch.s (dI (((k + 4 * p.1 : Nat) : Int) + 1)) pm (Ch.s (.el 1 4 p.1 0) (.pure (.idxRow _ _ _ 70 (p.1) rfl Tryz.underlying31 sz70 rfl rfl rfl rfl a52)) ?_))))))
  refine Ch.s (.el 1 4 p.1 1) (.pure (.fldEl _ _ _ rfl fld70_1 rfl)) (Ch.s .junk (.storeEl (y' := (.agg [(.int .i64 ((k + 4 * p.1 : Nat) : Int)), (.int .i64 (((k + 4 * p.1 : Nat) : Int) + 1)), (.bool ((p.2.getD p.1 default).up)), (.int .i64 ((p.2.getD p.1 default).dst))])) _ _ _ rfl rfl rfl (.d _) rfl sz3 rfl (get_set a52) rfl rfl) (Ch.nil (Ts hc (Ch.s (dI (((k + 4 * p.1 : Nat) : Int) + 1)) pm (Ch.s (dI ((((k + 4 * p.1 : Nat) : Int) + 1) + 1)) (iX rfl rfl intV_addA) (Ch.s (dI ((((k + 4 * p.1 : Nat) : Int) + 1) + 1)) pa ?_))))))
  refine Ch.nil (Ts hc (Ch.s (.row 1) pm (Ch.s (dI (p.1 : Int)) pm (Ch.s (dI ((((k + 4 * p.1 : Nat) : Int) + 1) + 1)) pm ?_))))
  refine Ch.step (v := (dI ((((k + 4 * p.1 + 1) + 1) % 3 : Nat) : Int))) rfl (iX rfl rfl (remN (n := ((k + 4 * p.1 + 1) + 1)) (d := 3) (by omega) rfl (by decide))) rfl rfl ?_
  refine Ch.s (dB (decide (((((k + 4 * p.1 + 1) + 1) % 3 : Nat) : Int) = 0))) (iX rfl rfl rfl) (Ch.s (.el 1 4 p.1 0) (.pure (.idxRow _ _ _ 70 (p.1) rfl Tryz.underlying31 sz70 rfl rfl rfl rfl a52)) (Ch.s (.el 1 4 p.1 2) (.pure (.fldEl _ _ _ rfl fld70_2 rfl)) (Ch.s .junk (.storeEl (y' := (.agg [(.int .i64 ((k + 4 * p.1 : Nat) : Int)), (.int .i64 (((k + 4 * p.1 : Nat) : Int) + 1)), (.bool (decide (((((k + 4 * p.1 + 1) + 1) % 3 : Nat) : Int) = 0))), (.int .i64 ((p.2.getD p.1 default).dst))])) _ _ _ rfl rfl rfl (.d _) rfl sz4 rfl (get_set a52) rfl rfl) (Ch.nil (Ts hc (Ch.s (dI ((((k + 4 * p.1 : Nat) : Int) + 1) + 1)) pm ?_))))))
  refine Ch.s (dI (((((k + 4 * p.1 : Nat) : Int) + 1) + 1) + 1)) (iX rfl rfl intV_addA) (Ch.s (dI (((((k + 4 * p.1 : Nat) : Int) + 1) + 1) + 1)) pa (Ch.nil (Ts hc (Ch.s (.row 1) pm (Ch.s (dI (p.1 : Int)) pm (Ch.s (dI (((((k + 4 * p.1 : Nat) : Int) + 1) + 1) + 1)) pm ?_))))))
  refine Ch.s (.el 1 4 p.1 0) (.pure (.idxRow _ _ _ 70 (p.1) rfl Tryz.underlying31 sz70 rfl rfl rfl rfl a52)) (Ch.s (.el 1 4 p.1 3) (.pure (.fldEl _ _ _ rfl fld70_3 rfl)) (Ch.s .junk (.storeEl (y' := (.agg [(.int .i64 ((k + 4 * p.1 : Nat) : Int)), (.int .i64 (((k + 4 * p.1 : Nat) : Int) + 1)), (.bool (decide (((((k + 4 * p.1 + 1) + 1) % 3 : Nat) : Int) = 0))), (.int .i64 (((((k + 4 * p.1 : Nat) : Int) + 1) + 1) + 1))])) _ _ _ rfl rfl rfl (.d _) rfl sz3 rfl (get_set a52) rfl rfl) (Ch.nil (Tz hc (Ch.s (dI (((((k + 4 * p.1 : Nat) : Int) + 1) + 1) + 1)) pm (Ch.s (dI ((((((k + 4 * p.1 : Nat) : Int) + 1) + 1) + 1) + 1)) (iX rfl rfl intV_addA) (Ch.s (dI ((((((k + 4 * p.1 : Nat) : Int) + 1) + 1) + 1) + 1)) pa ?_)))))))
  refine Ch.nil (Tz hc (Ch.s (dI (p.1 : Int)) pm (Ch.s (dI ((p.1 : Int) + 1)) (iX rfl rfl intV_addA) (Ch.s (dI ((p.1 : Int) + 1)) pa (Ch.nil ?_)))))
  exact nx (p.1 + 1, p.2.set p.1 (Arc.mk ((k + 4 * p.1 : Nat) : Int) ((k + 4 * p.1 + 1 : Nat) : Int) (decide ((((k + 4 * p.1 + 1 + 1) % 3 : Nat) : Int) = 0)) ((k + 4 * p.1 + 1 + 1 + 1 : Nat) : Int))) ⟨by dsimp only; omega, by dsimp only; rw [List.length_set]; exact hp0.2⟩ (Wk.of rfl rfl (ar (ai (vI a67) (ai (vI a67) trivial))) (ai (oR a23) trivial))
 ·
  refine T_exit (Ts hc (Ch.s (dI ((k + 4 * p.1 : Nat) : Int)) pm (Ch.s (dI ((k + 4 * p.1 : Nat) : Int)) pa (Ch.nil (T_ret ?_)))))
  exact eR [(dI ((k + 4 * p.1 : Nat) : Int))] [] [] (.cons (.tmp 4 rfl) .nil) eB (Exp.of (congrArg (D.int .i64) (by omega)) (.d _))

theorem sp_laws_markStateGraph (x : Sgr) (k : Nat) (hb : x.bulk ≤ 1048576) (hk : k ≤ 1) : Sp Tryz.prog 10 [(.agg [(.slice true 2 (x.sigs.map Sgn.d)), (.slice true 1 (x.codes.map D.str)), (.slice true 4 (x.arcs.map Arc.d))]), (.int .i64 (k : Int))] [.any, .any] (.int .i64 ((k + 2 * x.sigs.length + x.codes.length + 4 * x.arcs.length : Nat) : Int)) := by
 refine Sp_intro (lend := false) Tryz.func10 rfl rfl rfl (fun h => nomatch h) (fun c hc hX => ?_)
 obtain ⟨hp0, hp1, hp2⟩ := Sgr.parts hb
 have hn0 := bulkF_len hp0
 have hn1 := bulk_len hp1
 have hx1 := bulk_mem hp1
 have hn2 := bulkF_len hp2
 refine Ts hc (Ch.s (.ptr 2000 0) (.box 2000 _ _ rfl (.agg _ rfl)) (Ch.s (dI 0) pa (Ch.nil (Ts hc (Ch.s (.ptr 2000 0) (fP fld33_0 rfl) ?_)))))
 refine Ch.s (.row 1) (lP ag30 rfl rfl rfl) (Ch.s (dI (k : Int)) pm (Ch.s (dI ((k + 2 * x.sigs.length : Nat) : Int)) (.call 8000 32 _ _ _ en32 rfl (.inl rfl) (.cons (.row rfl) (.cons (.d _) .nil)) rfl rfl (sp_laws_markSignalS x.sigs k a21 a21) (.skip _ _ (.skip _ _ .nil)) rfl) (Ch.s (dI ((k + 2 * x.sigs.length : Nat) : Int)) pa (Ch.nil (Ts hc (Ch.s (.ptr 2000 1) (fP fld33_1 rfl) ?_))))))
 refine Ch.s (.row 2) (lP ag23 rfl rfl rfl) (Ch.s (dI ((k + 2 * x.sigs.length : Nat) : Int)) pm ?_)
 refine Ch.step (v := (dI (((k + 2 * x.sigs.length) + x.codes.length : Nat) : Int))) rfl (.call 12000 11 _ _ _ en11 rfl (.inl rfl) (.cons (.row rfl) (.cons (.d _) .nil)) rfl (sol rfl (solids_c (solid_row (fun _ => rfl) _) rfl)) (sp_laws_markStringS x.codes (k + 2 * x.sigs.length) a16 a16) (.row _ _ _ (.skip _ _ .nil)) rfl) rfl rfl ?_
 refine Ch.s (dI (((k + 2 * x.sigs.length) + x.codes.length : Nat) : Int)) pa (Ch.nil (Ts hc (Ch.s (.ptr 2000 2) (fP fld33_2 rfl) (Ch.s (.row 3) (lP ag31 rfl rfl rfl) (Ch.s (dI (((k + 2 * x.sigs.length) + x.codes.length : Nat) : Int)) pm (Ch.s (dI ((((k + 2 * x.sigs.length) + x.codes.length) + 4 * x.arcs.length : Nat) : Int)) (.call 16000 33 _ _ _ en33 rfl (.inl rfl) (.cons (.row rfl) (.cons (.d _) .nil)) rfl rfl (sp_laws_markArcS x.arcs ((k + 2 * x.sigs.length) + x.codes.length) a21 a21) (.skip _ _ (.skip _ _ .nil)) rfl) ?_))))))
 refine Ch.s (dI ((((k + 2 * x.sigs.length) + x.codes.length) + 4 * x.arcs.length : Nat) : Int)) pa (Ch.nil (Ts hc (Ch.s (dI ((((k + 2 * x.sigs.length) + x.codes.length) + 4 * x.arcs.length : Nat) : Int)) pm (Ch.s (dI ((((k + 2 * x.sigs.length) + x.codes.length) + 4 * x.arcs.length : Nat) : Int)) pa (Ch.nil (T_ret ?_))))))
 exact eR [(dI ((((k + 2 * x.sigs.length) + x.codes.length) + 4 * x.arcs.length : Nat) : Int))] [] [] (.cons (.tmp 4 rfl) .nil) eB (Exp.of (congrArg (D.int .i64) (by omega)) (.d _))

structure SgOk (x : Sgr) : Prop where
 sigs : sigsB x.sigs = true
 eight : 1 ≤ x.sigs.length ∧ x.sigs.length ≤ 8
 len : 1 ≤ x.codes.length ∧ x.codes.length ≤ 300
 few : x.arcs.length ≤ 4000
 codes : allOf x.codes (fun u => codeN u (x.sigs.length : Int)) = true
 arcs : allOf x.arcs (arcB x) = true
 ends : ends x.codes.length x.arcs

theorem sg_has {x : Sgr} (h : sgB x = true) : SgOk x := by
 unfold sgB at h
 simp only [Bool.and_eq_true] at h
 obtain ⟨h1, h2, h3, h4, h5, _⟩ := h
 have h6 := within_two h2
 have h7 := within_two (sigsB_len h1)
 have h8 : ¬ (4000 : Int) < (x.arcs.length : Int) := by simpa using h3
 exact ⟨h1, by omega, by omega, by omega, h4, h5, arc_ends h5⟩

theorem SgOk.sig {x : Sgr} (h : SgOk x) : ∀ a ∈ x.arcs, a.sig < (x.sigs.length : Int) ∧ (0 ≤ a.sig ∨ a.sig = -1) := by
  intro a ha
  obtain ⟨j, hj, rfl⟩ := List.mem_iff_getElem.1 ha
  have := allB_true.1 h.arcs j hj
  rw [show x.arcs.getD j default = x.arcs[j] by simp [hj]] at this
  unfold arcB at this
  simp only [Bool.and_eq_true] at this
  have h2 := this.2.2.1
  unfold edgeB at h2
  simp only [Bool.or_eq_true, Bool.and_eq_true, decide_eq_true_iff] at h2
  have h8 := h.eight
  rcases h2 with h2 | h2
  · have := within_two h2
    omega
  · have := h2.1
    omega

def two (m s : Nat) : Nat := m >>> s &&& 3

def setL (n : Nat) (Q : Nat → Bool) : List Int := selTo n Q fun j => (j : Int)

theorem setL_le (n : Nat) (Q : Nat → Bool) : (setL n Q).length ≤ n := selTo_le _ _ _

theorem setL_mem {n : Nat} {Q : Nat → Bool} {a : Int} : a ∈ setL n Q ↔ (0 ≤ a ∧ a.toNat < n) ∧ Q a.toNat = true := by
  unfold setL selTo
  rw [List.mem_map]
  constructor
  · rintro ⟨j, hj, rfl⟩
    rw [List.mem_filter, List.mem_range] at hj
    exact ⟨⟨by omega, by simpa using hj.1⟩, by simpa using hj.2⟩
  · rintro ⟨⟨h0, h1⟩, h2⟩
    exact ⟨a.toNat, List.mem_filter.2 ⟨List.mem_range.2 h1, h2⟩, by omega⟩

def Rising (l : List Int) : Prop := l.Pairwise (· < ·)

theorem setL_rising (n : Nat) (Q : Nat → Bool) : Rising (setL n Q) := by
 unfold Rising setL selTo
 rw [List.pairwise_map]
 refine List.Pairwise.filter _ ?_
 exact List.pairwise_lt_range.imp (fun h => by omega)

theorem rising_ext : ∀ {l m : List Int}, Rising l → Rising m → (∀ a, a ∈ l ↔ a ∈ m) → l = m
  | [], [], _, _, _ => rfl
  | [], b :: m, _, _, h => absurd ((h b).2 List.mem_cons_self) List.not_mem_nil
  | a :: l, [], _, _, h => absurd ((h a).1 List.mem_cons_self) List.not_mem_nil
  | a :: l, b :: m, hl, hm, h => by
    unfold Rising at hl hm
    rw [List.pairwise_cons] at hl hm
    have e : a = b := by
      rcases List.mem_cons.1 ((h a).1 List.mem_cons_self) with h1 | h1
      · exact h1
      · rcases List.mem_cons.1 ((h b).2 List.mem_cons_self) with h2 | h2
        · exact h2.symm
        · have := hl.1 b h2
          have := hm.1 a h1
          omega
    subst e
    congr 1
    refine rising_ext hl.2 hm.2 fun x => ⟨fun hx => ?_, fun hx => ?_⟩
    · rcases List.mem_cons.1 ((h x).1 (List.mem_cons_of_mem _ hx)) with h1 | h1
      · have := hl.1 x hx; omega
      · exact h1
    · rcases List.mem_cons.1 ((h x).2 (List.mem_cons_of_mem _ hx)) with h1 | h1
      · have := hm.1 x hx; omega
      · exact h1

def putI (l : List Int) (n : Int) : List Int := if l.contains n then l else l.takeWhile (fun a => decide (a < n)) ++ n :: l.dropWhile (fun a => decide (a < n))

theorem putI_mem {l : List Int} {n a : Int} : a ∈ putI l n ↔ a ∈ l ∨ a = n := by
  unfold putI
  split
  · rename_i h
    constructor
    · exact .inl
    · rintro (h1 | rfl)
      · exact h1
      · exact List.contains_iff_mem.1 h
  · rw [List.mem_append, List.mem_cons]
    have e : a ∈ l ↔ a ∈ l.takeWhile (fun a => decide (a < n)) ∨ a ∈ l.dropWhile (fun a => decide (a < n)) := by
      rw [← List.mem_append, List.takeWhile_append_dropWhile]
    rw [e]
    constructor
    · rintro (h1 | h1 | h1)
      · exact .inl (.inl h1)
      · exact .inr h1
      · exact .inl (.inr h1)
    · rintro ((h1 | h1) | h1)
      · exact .inl h1
      · exact .inr (.inr h1)
      · exact .inr (.inl h1)

theorem drop_rising {n : Int} : ∀ {l : List Int}, Rising l → ¬ n ∈ l → ∀ a ∈ l.dropWhile (fun a => decide (a < n)), n < a
  | [], _, _, a, ha => by simp at ha
  | b :: l, hl, hn, a, ha => by
    unfold Rising at hl
    rw [List.pairwise_cons] at hl
    rw [List.dropWhile_cons] at ha
    split at ha
    · exact drop_rising hl.2 (fun h => hn (List.mem_cons_of_mem _ h)) a ha
    · rename_i hb
      have hb' : ¬ b < n := by simpa using hb
      have hne : n ≠ b := fun e => hn (e ▸ List.mem_cons_self)
      rcases List.mem_cons.1 ha with rfl | ha
      · omega
      · have := hl.1 a ha; omega

theorem while_lt {n : Int} : ∀ {l : List Int} {a : Int}, a ∈ l.takeWhile (fun a => decide (a < n)) → a < n
  | [], a, h => by simp at h
  | b :: l, a, h => by
    rw [List.takeWhile_cons] at h
    split at h
    · rename_i hb
      rcases List.mem_cons.1 h with rfl | h
      · simpa using hb
      · exact while_lt h
    · simp at h

theorem putI_rising {l : List Int} {n : Int} (hl : Rising l) : Rising (putI l n) := by
  unfold putI
  split
  · exact hl
  · rename_i h
    have hn : ¬ n ∈ l := fun hm => h (List.contains_iff_mem.2 hm)
    have hd := drop_rising hl hn
    unfold Rising at hl ⊢
    rw [List.pairwise_append, List.pairwise_cons]
    have h1 : (l.takeWhile (fun a => decide (a < n))).Pairwise (· < ·) := hl.sublist (List.takeWhile_sublist _)
    have h2 : (l.dropWhile (fun a => decide (a < n))).Pairwise (· < ·) := hl.sublist (List.dropWhile_sublist _)
    have h3 : ∀ a ∈ l.takeWhile (fun a => decide (a < n)), a < n := fun a ha => while_lt ha
    refine ⟨h1, ⟨hd, h2⟩, fun a ha b hb => ?_⟩
    rcases List.mem_cons.1 hb with rfl | hb
    · exact h3 a ha
    · have := h3 a ha
      have := hd b hb
      omega

theorem take_while {l : List Int} {n : Int} : ∀ {k : Nat}, k ≤ l.length → (∀ j, j < k → l.getD j default < n) → (k < l.length → ¬ l.getD k default < n) → l.takeWhile (fun a => decide (a < n)) = l.take k ∧ l.dropWhile (fun a => decide (a < n)) = l.drop k := by
 induction l with
 | nil => intro k _ _ _; simp
 | cons b l ih =>
  intro k hk h1 h2
  cases k with
  | zero =>
   have h3 := h2 (by simp)
   have h4 : ¬ b < n := by simpa using h3
   rw [List.takeWhile_cons, List.dropWhile_cons]
   simp [h4]
  | succ k =>
   have h3 : b < n := by simpa using h1 0 (by omega)
   obtain ⟨e1, e2⟩ := ih (k := k) (by simpa using hk) (fun j hj => by simpa using h1 (j + 1) (by omega)) (fun hl => by simpa using h2 (by simpa using hl))
   rw [List.takeWhile_cons, List.dropWhile_cons]
   simp [h3, e1, e2]

theorem putI_same {l : List Int} {n : Int} {k : Nat} (hk : k < l.length) (h : l.getD k default = n) : l = putI l n := by
 unfold putI
 rw [if_pos (List.contains_iff_mem.2 (h ▸ getD_mem hk))]

theorem putI_new {l : List Int} {n : Int} {k : Nat} (hr : Rising l) (hk : k ≤ l.length) (h1 : ∀ j, j < k → l.getD j default < n) (h2 : k < l.length → ¬ l.getD k default < n) (h3 : k < l.length → ¬ l.getD k default = n) : l.take k ++ [n] ++ l.drop k = putI l n := by
  obtain ⟨e1, e2⟩ := take_while hk h1 h2
  unfold putI
  rw [if_neg, e1, e2]
  · simp
  · intro hc
    have hm := List.contains_iff_mem.1 hc
    obtain ⟨j, hj, e⟩ := List.mem_iff_getElem.1 hm
    have eg : l.getD j default = n := by simp [hj, e]
    by_cases hlt : j < k
    · have := h1 j hlt; omega
    · by_cases heq : j = k
      · subst heq; exact h3 hj eg
      · have h4 := h2 (by omega)
        unfold Rising at hr
        have := List.pairwise_iff_getElem.1 hr k j (by omega) hj (by omega)
        rw [e] at this
        have e5 : l.getD k default = l[k] := by simp [show k < l.length by omega]
        rw [e5] at h4; omega

theorem sp_spec_l1Has (xs : List Int) (v : Int) (hn : xs.length ≤ 1048576) : Sp Tryz.prog 40 [(.slice false 1 (xs.map (fun n : Int => D.int .i64 n))), (.int .i64 v)] [.any, .any] (.bool (hasI xs v)) := by
 refine Sp_intro (lend := true) Tryz.func40 rfl rfl rfl (fun _ => rfl) (fun c hc hX => ?_)
 refine Ts hc (Ch.s (dB false) pa (Ch.nil (Tq (Ts hc (Ch.s (.d (.slice false 1 (xs.map (fun n : Int => D.int .i64 n)))) pm ?_)))))
 refine Ch.s (dI (xs.length : Int)) (.pure (.len _ _ 3 rfl Tryz.underlying44 (.sh _ _) (by simp))) (Ch.s (dI 0) pm (Ch.nil (Tb ?_)))
 refine T_loop (ι := Nat) (fun k => { n := 17, sl := [(1, (dI v)), (7, (.d (.slice false 1 (xs.map (fun n : Int => D.int .i64 n))))), (8, (dI (xs.length : Int))), (9, (dI (k : Int)))], hp := [], pin := [] }) (fun k => k ≤ xs.length ∧ ∀ j, j < k → decide (xs.getD j default = v) = false) (fun k => xs.length - k) ⟨0, ⟨by omega, fun j hj => by omega⟩, (Wk.of rfl rfl (ar (ar (ar (ai (vI a67) trivial)))) trivial)⟩ (fun k hp0 => ?_)
 refine Ts hc (Ch.s (dB (decide ((k : Int) < (xs.length : Int)))) (iX rfl rfl rfl) (Ch.nil (Tq ?_)))
 refine T_condD (p := ((k : Int) < (xs.length : Int))) rfl (fun h1 => ?_) (fun h1 => ?_)
 ·
  refine Tk (Tq (Tb (Ts hc (Ch.s (.d (.ref (.int .i64 (xs.getD k default)))) (.pure (.idx _ _ _ 3 (k) rfl Tryz.underlying44 sz3 rfl rfl rfl get_mapA)) (Ch.s (dI (xs.getD k default)) (rF ag3 rfl rfl) (Ch.s (dI (xs.getD k default)) pa ?_))))))
  refine Ch.nil (Ts hc (Ch.s (dI (xs.getD k default)) pm (Ch.s (dI v) pm (Ch.s (dB (decide ((xs.getD k default) = v))) (iX rfl rfl rfl) (Ch.nil ?_)))))
  refine T_condD (p := ((xs.getD k default) = v)) rfl (fun h2 => ?_) (fun h2 => ?_)
  ·
   refine Ts hc (Ch.s (dB true) pa (Ch.nil (T_ret ?_)))
   exact eR [(dB true)] [] [] (.cons (.tmp 4 rfl) .nil) eB (Exp.of (congrArg D.bool (by exact any_yes default k (by omega) (decide_eq_true (by assumption)))) (.d _))
  ·
   refine Tk (Tz hc (Ch.s (dI ((k : Int) + 1)) (iX rfl rfl intV_addA) (Ch.s (dI ((k : Int) + 1)) pm (Ch.nil ?_))))
   exact nx (k + 1) ⟨by omega, upto_succ hp0.2 (decide_eq_false (by assumption))⟩ (Wk.of rfl rfl (ar (ar (ar (ai (vI a67) trivial)))) trivial)
 ·
  refine T_exit (Ts hc (Ch.s (dB false) pa (Ch.nil (T_ret ?_))))
  exact eR [(dB false)] [] [] (.cons (.tmp 4 rfl) .nil) eB (Exp.of (congrArg D.bool (by exact any_no default (fun j hj => hp0.2 j (by omega)))) (.d _))

theorem sp_spec_l1Put (xs : List Int) (n : Int) (hn : xs.length ≤ 1048576) (hr : Rising xs) : Sp Tryz.prog 41 [(.slice true 1 (xs.map (fun n : Int => D.int .i64 n))), (.int .i64 n)] [.any, .any] (.slice true 1 ((putI xs n).map (fun n : Int => D.int .i64 n))) := by
 refine Sp_intro (lend := false) Tryz.func41 rfl rfl rfl (fun h => nomatch h) (fun c hc hX => ?_)
 refine Ts hc (Ch.s (.c (.slice none 0 0)) pa (Ch.nil (Ts hc (Ch.s (dI 0) pa (Ch.nil ?_)))))
 refine Tq (Tb ?_)
 refine T_loop (ι := Nat) (fun k => { n := 48, sl := [(0, (.row 1)), (1, (dI n)), (5, (dI (k : Int)))], hp := [(1, (some (.row 1 (xs.map (fun n : Int => D.int .i64 n)))))], pin := [1] }) (fun k => k ≤ xs.length ∧ ∀ j, j < k → xs.getD j default < n) (fun k => xs.length - k) ⟨0, ⟨by omega, fun j hj => by omega⟩, (Wk.of rfl rfl (ar (ar (ai (vI a67) trivial))) (ar trivial))⟩ (fun k hp0 => ?_)
 refine Tq (Ts hc (Ch.s (dI (k : Int)) pm (Ch.s (.row 1) pm (Ch.s (dI (xs.length : Int)) (.pure (.len _ _ 3 rfl Tryz.underlying44 (.row rfl) (by simp))) (Ch.s (dB (decide ((k : Int) < (xs.length : Int)))) (iX rfl rfl rfl) (Ch.s (dB (decide ((k : Int) < (xs.length : Int)))) pm ?_))))))
 cases h1 : (decide ((k : Int) < (xs.length : Int))) with
 | true =>
  replace h1 := odt h1
  refine Ch.s (.row 1) pm (Ch.s (dI (k : Int)) pm (Ch.s (.el 1 1 k 0) (.pure (.idxRow _ _ _ 3 (k) rfl Tryz.underlying44 sz3 rfl rfl rfl rfl a52)) (Ch.s (dI (xs.getD k default)) (.pure (.loadEl1 _ _ rfl ag3 rfl rfl get_mapA rfl rfl rfl)) (Ch.s (dI n) pm (Ch.s (dB (decide ((xs.getD k default) < n))) (iX rfl rfl rfl) (Ch.s (dB (decide ((xs.getD k default) < n))) (pT rfl) (Ch.nil ?_)))))))
  refine T_condD (p := ((xs.getD k default) < n)) rfl (fun h2 => ?_) (fun h2 => ?_)
  ·
   refine Tk (Tb (Tz hc (Ch.s (dI (k : Int)) pm (Ch.s (dI ((k : Int) + 1)) (iX rfl rfl intV_addA) (Ch.s (dI ((k : Int) + 1)) pa (Ch.nil ?_))))))
   exact nx (k + 1) ⟨by omega, upto_succ hp0.2 (by assumption)⟩ (Wk.of rfl rfl (ar (ar (ai (vI a67) trivial))) (ar trivial))
  ·
   refine T_exit (Tq (Ts hc (Ch.s (dI (k : Int)) pm (Ch.s (.row 1) pm (Ch.s (dI (xs.length : Int)) (.pure (.len _ _ 3 rfl Tryz.underlying44 (.row rfl) (by simp))) (Ch.s (dB (decide ((k : Int) < (xs.length : Int)))) (iX rfl rfl rfl) ?_))))))
   refine Ch.s (dB (decide ((k : Int) < (xs.length : Int)))) pm ?_
   cases h3 : (decide ((k : Int) < (xs.length : Int))) with
   | true =>
    replace h3 := odt h3
    refine Ch.s (.row 1) pm (Ch.s (dI (k : Int)) pm (Ch.s (.el 1 1 k 0) (.pure (.idxRow _ _ _ 3 (k) rfl Tryz.underlying44 sz3 rfl rfl rfl rfl a52)) (Ch.s (dI (xs.getD k default)) (.pure (.loadEl1 _ _ rfl ag3 rfl rfl get_mapA rfl rfl rfl)) (Ch.s (dI n) pm (Ch.s (dB (decide ((xs.getD k default) = n))) (iX rfl rfl rfl) (Ch.s (dB (decide ((xs.getD k default) = n))) (pT rfl) (Ch.nil ?_)))))))
    refine T_condD (p := ((xs.getD k default) = n)) rfl (fun h4 => ?_) (fun h4 => ?_)
    ·
     refine Ts hc (Ch.s (.row 1) pm (Ch.s (.row 1) pa (Ch.nil (T_ret ?_))))
     exact eR [(.row 1)] [] [1] (.cons (.tmp 4 rfl) .nil) eB (Exp.of (congrArg (D.slice true 1) a11) (.row rfl))
    ·
     refine Tk (Ts hc (Ch.s (.row 34000) (.slice 34000 _ 3 _ rfl sty44 (xs := []) rfl rfl .nil rfl rfl (by decide)) (Ch.s (.row 1) pm (Ch.s (dI (k : Int)) pm (Ch.s (.sub 1 1 0 k) (.pure (.subRow _ _ _ _ 3 (0) (k) rfl Tryz.underlying44 sz3 rfl rfl (bndN rfl) (bndS rfl rfl) a24 a24)) ?_)))))
     refine Ch.step (v := (.row 38000)) rfl (.append 38000 _ _ _ 3 rfl sty44 (by decide) (.rowK rfl) (.inr ⟨_, rfl, rfl⟩) (.sub (ys := ((xs.take k).map (fun n : Int => D.int .i64 n))) rfl (noUs_map (fun _ => rfl) _) a24 a24 a41) rfl a33) rfl rfl ?_
     refine Ch.s (.row 38000) pa (Ch.nil (Ts hc (Ch.s (.row 38000) pm (Ch.s (dI n) pm (Ch.s (.row 41000) (.slice 41000 _ 3 _ rfl sty44 (xs := [.tmp 40]) rfl rfl (.cons (.d _) .nil) rfl rfl (by decide)) ?_)))))
     refine Ch.step (v := (.row 42000)) rfl (.append 42000 _ _ _ 3 rfl sty44 (by decide) (.rowK rfl) (.inr ⟨_, rfl, rfl⟩) (.row rfl rfl) rfl a33) rfl rfl ?_
     refine Ch.s (.row 42000) pa (Ch.nil (Ts hc (Ch.s (.row 42000) pm (Ch.s (.row 1) pm (Ch.s (dI (k : Int)) pm (Ch.s (.sub 1 1 k xs.length) (.pure (.subRow _ _ _ _ 3 (k) (xs.length) rfl Tryz.underlying44 sz3 rfl rfl (bndS rfl rfl) (bndN (by simp)) a24 a24)) ?_))))))
     refine Ch.step (v := (.row 47000)) rfl (.append 47000 _ _ _ 3 rfl sty44 (by decide) (.rowK rfl) (.inr ⟨_, rfl, rfl⟩) (.sub (ys := ((xs.drop k).map (fun n : Int => D.int .i64 n))) rfl (noUs_map (fun _ => rfl) _) a24 a24 a41) rfl a33) rfl rfl ?_
     refine Ch.s (.row 47000) pa (Ch.nil (T_ret ?_))
     exact eR [(.row 47000)] [] [47000] (.cons (.tmp 4 rfl) .nil) eB (Exp.of (congrArg (D.slice true 1) a11) (.row rfl))
   | false =>
    replace h3 := odf h3
    refine Ck (Ck (Ck (Ck (Ck (Ck (Ch.s (dB false) (pF rfl) (Ch.nil ?_)))))))
    refine T_cond (b := false) rfl (fun h => nomatch h) (fun _ => ?_)
    refine Tk (Ts hc (Ch.s (.row 34000) (.slice 34000 _ 3 _ rfl sty44 (xs := []) rfl rfl .nil rfl rfl (by decide)) (Ch.s (.row 1) pm (Ch.s (dI (k : Int)) pm (Ch.s (.sub 1 1 0 k) (.pure (.subRow _ _ _ _ 3 (0) (k) rfl Tryz.underlying44 sz3 rfl rfl (bndN rfl) (bndS rfl rfl) a24 a24)) ?_)))))
    refine Ch.step (v := (.row 38000)) rfl (.append 38000 _ _ _ 3 rfl sty44 (by decide) (.rowK rfl) (.inr ⟨_, rfl, rfl⟩) (.sub (ys := ((xs.take k).map (fun n : Int => D.int .i64 n))) rfl (noUs_map (fun _ => rfl) _) a24 a24 a41) rfl a33) rfl rfl ?_
    refine Ch.s (.row 38000) pa (Ch.nil (Ts hc (Ch.s (.row 38000) pm (Ch.s (dI n) pm (Ch.s (.row 41000) (.slice 41000 _ 3 _ rfl sty44 (xs := [.tmp 40]) rfl rfl (.cons (.d _) .nil) rfl rfl (by decide)) ?_)))))
    refine Ch.step (v := (.row 42000)) rfl (.append 42000 _ _ _ 3 rfl sty44 (by decide) (.rowK rfl) (.inr ⟨_, rfl, rfl⟩) (.row rfl rfl) rfl a33) rfl rfl ?_
    refine Ch.s (.row 42000) pa (Ch.nil (Ts hc (Ch.s (.row 42000) pm (Ch.s (.row 1) pm (Ch.s (dI (k : Int)) pm (Ch.s (.sub 1 1 k xs.length) (.pure (.subRow _ _ _ _ 3 (k) (xs.length) rfl Tryz.underlying44 sz3 rfl rfl (bndS rfl rfl) (bndN (by simp)) a24 a24)) ?_))))))
    refine Ch.step (v := (.row 47000)) rfl (.append 47000 _ _ _ 3 rfl sty44 (by decide) (.rowK rfl) (.inr ⟨_, rfl, rfl⟩) (.sub (ys := ((xs.drop k).map (fun n : Int => D.int .i64 n))) rfl (noUs_map (fun _ => rfl) _) a24 a24 a41) rfl a33) rfl rfl ?_
    refine Ch.s (.row 47000) pa (Ch.nil (T_ret ?_))
    exact eR [(.row 47000)] [] [47000] (.cons (.tmp 4 rfl) .nil) eB (Exp.of (congrArg (D.slice true 1) a11) (.row rfl))
 | false =>
  replace h1 := odf h1
  refine Ck (Ck (Ck (Ck (Ck (Ck (Ch.s (dB false) (pF rfl) (Ch.nil ?_)))))))
  refine T_cond (b := false) rfl (fun h => nomatch h) (fun _ => ?_)
  refine T_exit (Tq (Ts hc (Ch.s (dI (k : Int)) pm (Ch.s (.row 1) pm (Ch.s (dI (xs.length : Int)) (.pure (.len _ _ 3 rfl Tryz.underlying44 (.row rfl) (by simp))) (Ch.s (dB (decide ((k : Int) < (xs.length : Int)))) (iX rfl rfl rfl) ?_))))))
  refine Ch.s (dB (decide ((k : Int) < (xs.length : Int)))) pm ?_
  cases h5 : (decide ((k : Int) < (xs.length : Int))) with
  | true =>
   replace h5 := odt h5
   refine Ch.s (.row 1) pm (Ch.s (dI (k : Int)) pm (Ch.s (.el 1 1 k 0) (.pure (.idxRow _ _ _ 3 (k) rfl Tryz.underlying44 sz3 rfl rfl rfl rfl a52)) (Ch.s (dI (xs.getD k default)) (.pure (.loadEl1 _ _ rfl ag3 rfl rfl get_mapA rfl rfl rfl)) (Ch.s (dI n) pm (Ch.s (dB (decide ((xs.getD k default) = n))) (iX rfl rfl rfl) (Ch.s (dB (decide ((xs.getD k default) = n))) (pT rfl) (Ch.nil ?_)))))))
   refine T_condD (p := ((xs.getD k default) = n)) rfl (fun h6 => ?_) (fun h6 => ?_)
   ·
    refine Ts hc (Ch.s (.row 1) pm (Ch.s (.row 1) pa (Ch.nil (T_ret ?_))))
    exact eR [(.row 1)] [] [1] (.cons (.tmp 4 rfl) .nil) eB (Exp.of (congrArg (D.slice true 1) a11) (.row rfl))
   ·
    refine Tk (Ts hc (Ch.s (.row 34000) (.slice 34000 _ 3 _ rfl sty44 (xs := []) rfl rfl .nil rfl rfl (by decide)) (Ch.s (.row 1) pm (Ch.s (dI (k : Int)) pm (Ch.s (.sub 1 1 0 k) (.pure (.subRow _ _ _ _ 3 (0) (k) rfl Tryz.underlying44 sz3 rfl rfl (bndN rfl) (bndS rfl rfl) a24 a24)) ?_)))))
    refine Ch.step (v := (.row 38000)) rfl (.append 38000 _ _ _ 3 rfl sty44 (by decide) (.rowK rfl) (.inr ⟨_, rfl, rfl⟩) (.sub (ys := ((xs.take k).map (fun n : Int => D.int .i64 n))) rfl (noUs_map (fun _ => rfl) _) a24 a24 a41) rfl a33) rfl rfl ?_
    refine Ch.s (.row 38000) pa (Ch.nil (Ts hc (Ch.s (.row 38000) pm (Ch.s (dI n) pm (Ch.s (.row 41000) (.slice 41000 _ 3 _ rfl sty44 (xs := [.tmp 40]) rfl rfl (.cons (.d _) .nil) rfl rfl (by decide)) ?_)))))
    refine Ch.step (v := (.row 42000)) rfl (.append 42000 _ _ _ 3 rfl sty44 (by decide) (.rowK rfl) (.inr ⟨_, rfl, rfl⟩) (.row rfl rfl) rfl a33) rfl rfl ?_
    refine Ch.s (.row 42000) pa (Ch.nil (Ts hc (Ch.s (.row 42000) pm (Ch.s (.row 1) pm (Ch.s (dI (k : Int)) pm (Ch.s (.sub 1 1 k xs.length) (.pure (.subRow _ _ _ _ 3 (k) (xs.length) rfl Tryz.underlying44 sz3 rfl rfl (bndS rfl rfl) (bndN (by simp)) a24 a24)) ?_))))))
    refine Ch.step (v := (.row 47000)) rfl (.append 47000 _ _ _ 3 rfl sty44 (by decide) (.rowK rfl) (.inr ⟨_, rfl, rfl⟩) (.sub (ys := ((xs.drop k).map (fun n : Int => D.int .i64 n))) rfl (noUs_map (fun _ => rfl) _) a24 a24 a41) rfl a33) rfl rfl ?_
    refine Ch.s (.row 47000) pa (Ch.nil (T_ret ?_))
    exact eR [(.row 47000)] [] [47000] (.cons (.tmp 4 rfl) .nil) eB (Exp.of (congrArg (D.slice true 1) a11) (.row rfl))
  | false =>
   replace h5 := odf h5
   refine Ck (Ck (Ck (Ck (Ck (Ck (Ch.s (dB false) (pF rfl) (Ch.nil ?_)))))))
   refine T_cond (b := false) rfl (fun h => nomatch h) (fun _ => ?_)
   refine Tk (Ts hc (Ch.s (.row 34000) (.slice 34000 _ 3 _ rfl sty44 (xs := []) rfl rfl .nil rfl rfl (by decide)) (Ch.s (.row 1) pm (Ch.s (dI (k : Int)) pm (Ch.s (.sub 1 1 0 k) (.pure (.subRow _ _ _ _ 3 (0) (k) rfl Tryz.underlying44 sz3 rfl rfl (bndN rfl) (bndS rfl rfl) a24 a24)) ?_)))))
   refine Ch.step (v := (.row 38000)) rfl (.append 38000 _ _ _ 3 rfl sty44 (by decide) (.rowK rfl) (.inr ⟨_, rfl, rfl⟩) (.sub (ys := ((xs.take k).map (fun n : Int => D.int .i64 n))) rfl (noUs_map (fun _ => rfl) _) a24 a24 a41) rfl a33) rfl rfl ?_
   refine Ch.s (.row 38000) pa (Ch.nil (Ts hc (Ch.s (.row 38000) pm (Ch.s (dI n) pm (Ch.s (.row 41000) (.slice 41000 _ 3 _ rfl sty44 (xs := [.tmp 40]) rfl rfl (.cons (.d _) .nil) rfl rfl (by decide)) ?_)))))
   refine Ch.step (v := (.row 42000)) rfl (.append 42000 _ _ _ 3 rfl sty44 (by decide) (.rowK rfl) (.inr ⟨_, rfl, rfl⟩) (.row rfl rfl) rfl a33) rfl rfl ?_
   refine Ch.s (.row 42000) pa (Ch.nil (Ts hc (Ch.s (.row 42000) pm (Ch.s (.row 1) pm (Ch.s (dI (k : Int)) pm (Ch.s (.sub 1 1 k xs.length) (.pure (.subRow _ _ _ _ 3 (k) (xs.length) rfl Tryz.underlying44 sz3 rfl rfl (bndS rfl rfl) (bndN (by simp)) a24 a24)) ?_))))))
   refine Ch.step (v := (.row 47000)) rfl (.append 47000 _ _ _ 3 rfl sty44 (by decide) (.rowK rfl) (.inr ⟨_, rfl, rfl⟩) (.sub (ys := ((xs.drop k).map (fun n : Int => D.int .i64 n))) rfl (noUs_map (fun _ => rfl) _) a24 a24 a41) rfl a33) rfl rfl ?_
   refine Ch.s (.row 47000) pa (Ch.nil (T_ret ?_))
   exact eR [(.row 47000)] [] [47000] (.cons (.tmp 4 rfl) .nil) eB (Exp.of (congrArg (D.slice true 1) a11) (.row rfl))

theorem en57 : Enters Tryz.prog 57 := ⟨_, Tryz.func57, by kernel_rfl, rfl⟩

theorem en58 : Enters Tryz.prog 58 := ⟨_, Tryz.func58, by kernel_rfl, rfl⟩

theorem en29 : Enters Tryz.prog 29 := ⟨_, Tryz.func29, by kernel_rfl, rfl⟩

theorem zr82 : (Tryz.prog.info? 82).bind (·.zero) = some (.agg #[.int .i64 0, .bool false]) := by kernel_rfl

theorem zer82 : ∃ i z, Tryz.prog.info? 82 = some i ∧ i.zero = some z ∧ z.cells = List.toArray [.int .i64 0, .bool false] := zero_mk zr82 rfl

structure Lin {α : Type} (le : α → α → Bool) : Prop where
 trans : ∀ a b c : α, le a b = true → le b c = true → le a c = true
 total : ∀ a b : α, (le a b || le b a) = true
 anti : ∀ a b : α, le a b = true → le b a = true → a = b

def Rise {α : Type} (le : α → α → Bool) (l : List α) : Prop := l.Pairwise fun a b => le a b = true ∧ a ≠ b

theorem rise_ext {α : Type} {le : α → α → Bool} (h : Lin le) : ∀ {l m : List α}, Rise le l → Rise le m → (∀ a, a ∈ l ↔ a ∈ m) → l = m
  | [], [], _, _, _ => rfl
  | [], b :: m, _, _, e => absurd ((e b).2 List.mem_cons_self) List.not_mem_nil
  | a :: l, [], _, _, e => absurd ((e a).1 List.mem_cons_self) List.not_mem_nil
  | a :: l, b :: m, hl, hm, e => by
    unfold Rise at hl hm
    rw [List.pairwise_cons] at hl hm
    have hab : a = b := by
      rcases List.mem_cons.1 ((e a).1 List.mem_cons_self) with h1 | h1
      · exact h1
      · rcases List.mem_cons.1 ((e b).2 List.mem_cons_self) with h2 | h2
        · exact h2.symm
        · exact h.anti _ _ (hl.1 b h2).1 (hm.1 a h1).1
    subst hab
    congr 1
    refine rise_ext h hl.2 hm.2 fun x => ⟨fun hx => ?_, fun hx => ?_⟩
    · rcases List.mem_cons.1 ((e x).1 (List.mem_cons_of_mem _ hx)) with h1 | h1
      · exact absurd h1.symm (hl.1 x hx).2
      · exact h1
    · rcases List.mem_cons.1 ((e x).2 (List.mem_cons_of_mem _ hx)) with h1 | h1
      · exact absurd h1.symm (hm.1 x hx).2
      · exact h1

theorem upTo_rise {α : Type} [Inhabited α] [DecidableEq α] {le : α → α → Bool} (h : Lin le) {zs : List α} (hz : zs.Pairwise fun a b => le a b = true) : ∀ m, m ≤ zs.length →
    Rise le (Lib.compactUpTo zs.toArray m) ∧ (∀ a, a ∈ Lib.compactUpTo zs.toArray m ↔ a ∈ zs.take m) ∧ ∀ a ∈ Lib.compactUpTo zs.toArray m, 0 < m ∧ le a (zs.getD (m - 1) default) = true
  | 0, _ => ⟨List.Pairwise.nil, fun a => by simp [Lib.compactUpTo], fun a ha => by simp [Lib.compactUpTo] at ha⟩
  | m + 1, hm => by
    obtain ⟨h1, h2, h3⟩ := upTo_rise h hz m (by omega)
    have hg : ∀ j, j < zs.length → zs.toArray[j]! = zs.getD j default := by intro j hj; simp [hj]
    have hml : zs.getD m default = zs[m] := by simp [show m < zs.length by omega]
    have hrefl : ∀ a : α, le a a = true := fun a => by have := h.total a a; rwa [Bool.or_self] at this
    have hstep : 0 < m → le (zs.getD (m - 1) default) (zs.getD m default) = true := by
      intro h0
      have := List.pairwise_iff_getElem.1 hz (m - 1) m (by omega) (by omega) (by omega)
      rw [hml, show zs.getD (m - 1) default = zs[m - 1] by simp [show m - 1 < zs.length by omega]]; exact this
    rw [Lib.compactUpTo_succ, List.take_succ_eq_append_getElem (by omega), ← hml]
    cases hk : Lib.keeps zs.toArray m with
    | false =>
      have h4 : ¬ (m = 0 ∨ zs.toArray[m]! ≠ zs.toArray[m - 1]!) := by
        unfold Lib.keeps at hk
        exact of_decide_eq_false hk
      have h0 : 0 < m := Nat.pos_of_ne_zero fun e => h4 (.inl e)
      have h5 : zs.getD m default = zs.getD (m - 1) default := by
        rw [← hg m (by omega), ← hg (m - 1) (by omega)]
        exact Classical.byContradiction fun e => h4 (.inr e)
      rw [if_neg (by decide), List.append_nil]
      refine ⟨h1, fun a => ?_, fun a ha => ⟨by omega, ?_⟩⟩
      · rw [h2, List.mem_append, List.mem_singleton]
        refine ⟨.inl, fun hh => hh.elim id fun e => ?_⟩
        rw [e, h5, show zs.getD (m - 1) default = zs[m - 1] by simp [show m - 1 < zs.length by omega]]
        exact List.mem_take_iff_getElem.2 ⟨m - 1, by omega, rfl⟩
      · show le a (zs.getD m default) = true
        rw [h5]; exact (h3 a ha).2
    | true =>
      have h4 : m = 0 ∨ zs.toArray[m]! ≠ zs.toArray[m - 1]! := by
        unfold Lib.keeps at hk
        exact of_decide_eq_true hk
      rw [if_pos rfl, hg m (by omega)]
      refine ⟨?_, fun a => ?_, fun a ha => ⟨by omega, ?_⟩⟩
      · unfold Rise at h1 ⊢
        rw [List.pairwise_append]
        refine ⟨h1, List.pairwise_singleton _ _, fun a ha b hb => ?_⟩
        rw [List.mem_singleton] at hb
        subst hb
        obtain ⟨h0, h5⟩ := h3 a ha
        refine ⟨h.trans _ _ _ h5 (hstep h0), fun e => ?_⟩
        rcases h4 with h4 | h4
        · omega
        · rw [hg m (by omega), hg (m - 1) (by omega)] at h4
          subst e
          exact h4 (h.anti _ _ h5 (hstep h0))
      · rw [List.mem_append, List.mem_append, h2]
      · show le a (zs.getD m default) = true
        rcases List.mem_append.1 ha with ha | ha
        · exact h.trans _ _ _ (h3 a ha).2 (hstep (h3 a ha).1)
        · rw [List.mem_singleton] at ha; subst ha; exact hrefl _

def tid {α : Type} [Inhabited α] [DecidableEq α] (le : α → α → Bool) (l : List α) : List α := Lib.compact (l.mergeSort le)

theorem tid_rise {α : Type} [Inhabited α] [DecidableEq α] {le : α → α → Bool} (h : Lin le) (l : List α) : Rise le (tid le l) :=
 (upTo_rise h (List.pairwise_mergeSort (fun a b c h1 h2 => h.trans a b c h1 h2) (fun a b => h.total a b) l) _ (Nat.le_refl _)).1

theorem tid_mem {α : Type} [Inhabited α] [DecidableEq α] {le : α → α → Bool} (h : Lin le) {l : List α} {a : α} : a ∈ tid le l ↔ a ∈ l := by
 have := (upTo_rise h (List.pairwise_mergeSort (fun a b c h1 h2 => h.trans a b c h1 h2) (fun a b => h.total a b) l) _ (Nat.le_refl _)).2.1 a
 rw [List.take_length, List.mem_mergeSort] at this
 exact this

theorem upTo_len {α : Type} [Inhabited α] [DecidableEq α] (d : Array α) (m : Nat) : (Lib.compactUpTo d m).length ≤ m := by
 unfold Lib.compactUpTo
 rw [List.length_map]
 have := List.length_filter_le (Lib.keeps d) (List.range m)
 rwa [List.length_range] at this

theorem compact_len {α : Type} [Inhabited α] [DecidableEq α] (l : List α) : (Lib.compact l).length ≤ l.length := upTo_len _ _

def leI (x y : Int) : Bool := decide (x ≤ y)

theorem linI : Lin leI := by
  refine ⟨fun a b c h1 h2 => ?_, fun a b => ?_, fun a b h1 h2 => ?_⟩
  · unfold leI at *; rw [decide_eq_true_iff] at *; omega
  · unfold leI; rw [Bool.or_eq_true, decide_eq_true_iff, decide_eq_true_iff]; omega
  · unfold leI at *; rw [decide_eq_true_iff] at *; omega

def tidI (l : List Int) : List Int := tid leI l

theorem rise_int {l : List Int} : Rise leI l ↔ Rising l := by
  unfold Rise Rising
  constructor
  · intro h
    exact h.imp fun {a b} hh => by
      have h1 := of_decide_eq_true hh.1
      have h2 := hh.2
      omega
  · intro h
    exact h.imp fun {a b} hh => ⟨decide_eq_true (by omega), by omega⟩

theorem bl_irr : ∀ x : List UInt8, Op.bytesLess x x = false
 | [] => rfl
 | a :: x => by
  rw [Op.bytesLess, bl_irr x, Bool.and_false, Bool.or_false]
  simp

theorem u8_lt {a b : UInt8} : a < b ↔ a.toNat < b.toNat := UInt8.lt_iff_toNat_lt

theorem bl_cons {a b : UInt8} {x y : List UInt8} : Op.bytesLess (a :: x) (b :: y) = true ↔ a.toNat < b.toNat ∨ (a.toNat = b.toNat ∧ Op.bytesLess x y = true) := by
 rw [Op.bytesLess, Bool.or_eq_true, decide_eq_true_iff, Bool.and_eq_true, beq_iff_eq, u8_lt, UInt8.toNat_inj]

theorem bl_trans : ∀ {x y z : List UInt8}, Op.bytesLess x y = true → Op.bytesLess y z = true → Op.bytesLess x z = true
  | [], [], _, h, _ => by simp [Op.bytesLess] at h
  | [], b :: y, [], _, h => by simp [Op.bytesLess] at h
  | [], b :: y, c :: z, _, _ => rfl
  | a :: x, [], _, h, _ => by simp [Op.bytesLess] at h
  | a :: x, b :: y, [], _, h => by simp [Op.bytesLess] at h
  | a :: x, b :: y, c :: z, h1, h2 => by
    rw [bl_cons] at h1 h2 ⊢
    rcases h1 with h1 | ⟨h1, h3⟩ <;> rcases h2 with h2 | ⟨h2, h4⟩
    · exact .inl (by omega)
    · exact .inl (by omega)
    · exact .inl (by omega)
    · exact .inr ⟨by omega, bl_trans h3 h4⟩

theorem bl_tri : ∀ {x y : List UInt8}, ¬ Op.bytesLess x y = true → ¬ Op.bytesLess y x = true → x = y
 | [], [], _, _ => rfl
 | [], b :: y, h, _ => absurd rfl h
 | a :: x, [], _, h => absurd rfl h
 | a :: x, b :: y, h1, h2 => by
  rw [bl_cons] at h1 h2
  have e : a = b := UInt8.toNat_inj.1 (by
   have h3 : ¬ a.toNat < b.toNat := fun h => h1 (.inl h)
   have h4 : ¬ b.toNat < a.toNat := fun h => h2 (.inl h)
   omega)
  subst e
  rw [bl_tri (fun h => h1 (.inr ⟨rfl, h⟩)) (fun h => h2 (.inr ⟨rfl, h⟩))]

theorem bl_lt : ∀ x y : List UInt8, (Op.bytesLess x y = true) ↔ x < y
 | [], [] => by simp [Op.bytesLess]
 | _ :: _, [] => by simp [Op.bytesLess]
 | [], _ :: _ => by simp [Op.bytesLess]
 | a :: x, b :: y => by
  rw [bl_cons, List.cons_lt_cons_iff, u8_lt, bl_lt x y, UInt8.toNat_inj]

def leS (x y : List UInt8) : Bool := decide (x ≤ y)

theorem leS_bl (x y : List UInt8) : leS x y = !Op.bytesLess y x := by
 unfold leS
 rw [Bool.eq_iff_iff, decide_eq_true_iff, Bool.not_eq_true', ← List.not_lt, ← bl_lt]
 simp

theorem linS : Lin leS := by
  refine ⟨fun a b c h1 h2 => ?_, fun a b => ?_, fun a b h1 h2 => ?_⟩
  · rw [leS_bl, Bool.not_eq_true'] at h1 h2 ⊢
    rw [Bool.eq_false_iff] at *
    intro hc
    by_cases hab : a = b
    · subst hab; exact h2 hc
    · by_cases h3 : Op.bytesLess a b = true
      · exact h2 (bl_trans hc h3)
      · exact hab (bl_tri h3 h1)
  · rw [leS_bl, leS_bl]
    cases hab : Op.bytesLess a b with
    | false => simp
    | true =>
      cases hba : Op.bytesLess b a with
      | false => rfl
      | true => have := bl_trans hab hba; rw [bl_irr] at this; cases this
  · rw [leS_bl, Bool.not_eq_true', Bool.eq_false_iff] at h1 h2
    exact bl_tri h2 h1

def put14 (l : List (List UInt8)) (x : List UInt8) : List (List UInt8) := l.takeWhile (fun b => Op.bytesLess b x) ++ x :: l.dropWhile (fun b => Op.bytesLess b x)

def put15 (l : List (List UInt8)) (x : List UInt8) : List (List UInt8) := if hasS l x then l else put14 l x

theorem put14_len (l : List (List UInt8)) (x : List UInt8) : (put14 l x).length = l.length + 1 := by
 have : (l.takeWhile (fun b => Op.bytesLess b x) ++ l.dropWhile (fun b => Op.bytesLess b x)).length = l.length := by rw [List.takeWhile_append_dropWhile]
 rw [List.length_append] at this
 unfold put14
 rw [List.length_append, List.length_cons]; omega

theorem hasS_mem {l : List (List UInt8)} {x : List UInt8} : hasS l x = true ↔ x ∈ l := by
  unfold hasS
  rw [List.any_eq_true]
  constructor
  · rintro ⟨a, ha, h⟩
    have := of_decide_eq_true h
    subst this; exact ha
  · intro h
    exact ⟨x, h, decide_eq_true rfl⟩

theorem dropS_rise {x : List UInt8} : ∀ {l : List (List UInt8)}, Rise leS l → ¬ x ∈ l → ∀ a ∈ l.dropWhile (fun b => Op.bytesLess b x), leS x a = true ∧ x ≠ a
  | [], _, _, a, ha => by simp at ha
  | b :: l, hl, hx, a, ha => by
    unfold Rise at hl
    rw [List.pairwise_cons] at hl
    rw [List.dropWhile_cons] at ha
    split at ha
    · exact dropS_rise hl.2 (fun h => hx (List.mem_cons_of_mem _ h)) a ha
    · rename_i hb
      have h1 : leS x b = true := by rw [leS_bl]; simpa using hb
      rcases List.mem_cons.1 ha with rfl | ha
      · exact ⟨h1, fun e => hx (e ▸ List.mem_cons_self)⟩
      · exact ⟨linS.trans _ _ _ h1 (hl.1 a ha).1, fun e => hx (e ▸ List.mem_cons_of_mem _ ha)⟩

theorem whileS_lt {x : List UInt8} : ∀ {l : List (List UInt8)} {a : List UInt8}, a ∈ l.takeWhile (fun b => Op.bytesLess b x) → Op.bytesLess a x = true
  | [], a, h => by simp at h
  | b :: l, a, h => by
    rw [List.takeWhile_cons] at h
    split at h
    · rename_i hb
      rcases List.mem_cons.1 h with rfl | h
      · exact hb
      · exact whileS_lt h
    · simp at h

theorem bl_le {a b : List UInt8} (h : Op.bytesLess a b = true) : leS a b = true ∧ a ≠ b := by
  refine ⟨?_, fun e => ?_⟩
  · rw [leS_bl]
    cases hba : Op.bytesLess b a with
    | false => rfl
    | true => have := bl_trans h hba; rw [bl_irr] at this; cases this
  · subst e; rw [bl_irr] at h; cases h

theorem put15_rise {l : List (List UInt8)} {x : List UInt8} (hl : Rise leS l) : Rise leS (put15 l x) := by
  unfold put15
  split
  · exact hl
  · rename_i h
    have hn : ¬ x ∈ l := fun hm => h (hasS_mem.2 hm)
    have hd := dropS_rise hl hn
    unfold Rise at hl ⊢
    unfold put14
    rw [List.pairwise_append, List.pairwise_cons]
    refine ⟨hl.sublist (List.takeWhile_sublist _), ⟨hd, hl.sublist (List.dropWhile_sublist _)⟩, fun a ha b hb => ?_⟩
    have h3 := bl_le (whileS_lt ha)
    rcases List.mem_cons.1 hb with rfl | hb
    · exact h3
    · have h4 := hd b hb
      refine ⟨linS.trans _ _ _ h3.1 h4.1, fun e => ?_⟩
      subst e
      exact h3.2 (linS.anti _ _ h3.1 h4.1)

theorem sp_Sort_int (xs : List (Int)) (hn : xs.length ≤ 1048576) : Sp Tryz.prog 57 [.slice true 1 (xs.map (fun n : Int => D.int .i64 n))] [.slice true 1 ((xs.mergeSort leI).map (fun n : Int => D.int .i64 n))] (.tup []) :=
 sp_turnRow encIntD (srt := fun l => l.mergeSort leI) (fun l => List.length_mergeSort l) List.mergeSort_nil Tryz.slices_Sort_int_none Tryz.slices_Sort_int xs hn

theorem sp_Compact_int (xs : List (Int)) (hn : xs.length ≤ 1048576) : Sp Tryz.prog 58 [.slice true 1 (xs.map (fun n : Int => D.int .i64 n))] [.any] (.slice true 1 ((Lib.compact xs).map (fun n : Int => D.int .i64 n))) := by
 have h := sp_cutRow (P := Tryz.prog) (fn := 58) encIntD (more := []) (mvs := []) (fun S w vs F hd => by rw [DRs] at hd; exact hd) (fun S w => by rw [List.map_nil, DRs]; exact ⟨rfl, rfl⟩) xs (Lib.compact xs ++ List.replicate (xs.length - (Lib.compact xs).length) 0) (Lib.compact xs).length
  (by have := compact_len xs; rw [List.length_append, List.length_replicate]; omega) (by rw [List.length_append]; omega) (fun _ p cap w => Tryz.slices_Compact_int_empty p cap w) (fun blk cap w hH hc hm => Tryz.slices_Compact_int blk 0 cap xs w hH (by omega) hc)
 rw [List.take_left] at h
 exact h

theorem sp_Sort_str (xs : List (List UInt8)) (hn : xs.length ≤ 1048576) : Sp Tryz.prog 29 [.slice true 1 (xs.map D.str)] [.slice true 1 ((xs.mergeSort leS).map D.str)] (.tup []) :=
 sp_turnRow encStrD (srt := fun l => l.mergeSort leS) (fun l => List.length_mergeSort l) List.mergeSort_nil Tryz.slices_Sort_string_none Tryz.slices_Sort_string xs hn

theorem sp_impl_tidy (xs : List Int) (hn : xs.length ≤ 1048576) : Sp Tryz.prog 28 [(.slice true 1 (xs.map (fun n : Int => D.int .i64 n)))] [.any] (.slice true 1 ((tidI xs).map (fun n : Int => D.int .i64 n))) := by
 refine Sp_intro (lend := false) Tryz.func28 rfl rfl rfl (fun h => nomatch h) (fun c hc hX => ?_)
 refine Ts hc (Ch.s (.c (.slice none 0 0)) pa (Ch.nil (Ts hc (Ch.s (.row 1) pm ?_))))
 refine Ch.step (v := (.tup [])) rfl (.call 4000 57 _ _ _ en57 rfl (.inl rfl) (.cons (.row rfl) .nil) rfl (sol rfl (solids_c (solid_row (fun _ => rfl) _) rfl)) (sp_Sort_int xs a21) (.row _ _ _ .nil) rfl) rfl rfl ?_
 refine Ch.nil (Ts hc (Ch.s (.row 1) pm ?_))
 refine Ch.step (v := (.row 6000)) rfl (.call 6000 58 _ _ _ en58 rfl (.inl rfl) (.cons (.row rfl) .nil) rfl (sol (solid_row (fun _ => rfl) _) rfl) (sp_Compact_int (xs.mergeSort leI) (by first | assumption | omega | (rw [List.length_mergeSort]; assumption) | (rw [List.length_mergeSort]; omega))) (.skip _ _ .nil) rfl) rfl rfl ?_
 refine Ch.s (.row 6000) pa (Ch.nil (T_ret ?_))
 exact eR [(.row 6000)] [] [6000] (.cons (.tmp 2 rfl) .nil) eA (Exp.of (congrArg (D.slice true 1) (by rfl)) (.row rfl))

theorem rising_len {n : Nat} {s : List Int} (h : Rising s) (hin : ∀ a ∈ s, 0 ≤ a ∧ a.toNat < n) : s = setL n (fun j => hasI s (j : Int)) ∧ s.length ≤ n := by
  have e : s = setL n (fun j => hasI s (j : Int)) := rising_ext h (setL_rising n _) fun a => by
    rw [setL_mem, hasI, List.any_eq_true]
    constructor
    · intro ha
      have := hin a ha
      exact ⟨this, a, ha, decide_eq_true (by omega)⟩
    · rintro ⟨h1, b, hb, e⟩
      have := of_decide_eq_true e
      rw [show a = b by omega]; exact hb
  exact ⟨e, by rw [e]; exact setL_le _ _⟩

theorem hasI_mem {l : List Int} {a : Int} : hasI l a = true ↔ a ∈ l := by
  rw [hasI, List.any_eq_true]
  constructor
  · rintro ⟨b, hb, e⟩
    have := of_decide_eq_true e
    subst this; exact hb
  · intro h
    exact ⟨a, h, decide_eq_true rfl⟩

def putC (p : Arc → Bool) (s : List Int) (a : Arc) : List Int := if hasI s a.src && p a then putI s a.dst else s

theorem putC_hit {p : Arc → Bool} {s : List Int} {e : Arc} (h : hasI s e.src = true) (hp : p e = true) : e.dst ∈ putC p s e := by
 unfold putC
 rw [h, hp, Bool.and_self, if_pos rfl]
 exact putI_mem.2 (.inr rfl)

theorem putC_grow (p : Arc → Bool) {n : Nat} {l : List Arc} (hl : ends n l) (s0 : List Int) :
    Grow (putC p) l List.length (fun s => Rising s ∧ (∀ a ∈ s, 0 ≤ a ∧ a.toNat < n) ∧ (∀ a ∈ s0, a ∈ s) ∧ ∀ a ∈ s, Rch (arcE p l) (fun a => a ∈ s0) a) n := by
  refine ⟨?_, fun s e he _ => ?_, fun s e he _ => ?_, fun s hs => (rising_len hs.1 hs.2.1).2⟩
  · intro s e he ⟨h1, h2, h3, h4⟩
    unfold putC
    split
    · rename_i hc
      rw [Bool.and_eq_true, hasI_mem] at hc
      refine ⟨putI_rising h1, fun a ha => ?_, fun a ha => putI_mem.2 (.inl (h3 a ha)), fun a ha => ?_⟩
      · rcases putI_mem.1 ha with ha | rfl
        · exact h2 a ha
        · exact (hl e he).2
      · rcases putI_mem.1 ha with ha | rfl
        · exact h4 a ha
        · exact .step (h4 _ hc.1) ⟨e, he, rfl, rfl, hc.2⟩
    · exact ⟨h1, h2, h3, h4⟩
  · unfold putC
    split
    · unfold putI
      split
      · exact Nat.le_refl _
      · have : (s.takeWhile (fun a => decide (a < e.dst)) ++ s.dropWhile (fun a => decide (a < e.dst))).length = s.length := by rw [List.takeWhile_append_dropWhile]
        rw [List.length_append] at this
        rw [List.length_append, List.length_cons]; omega
    · exact Nat.le_refl _
  · unfold putC
    split
    · unfold putI
      split
      · exact fun _ => rfl
      · have : (s.takeWhile (fun a => decide (a < e.dst)) ++ s.dropWhile (fun a => decide (a < e.dst))).length = s.length := by rw [List.takeWhile_append_dropWhile]
        rw [List.length_append] at this
        rw [List.length_append, List.length_cons]
        intro h; omega
    · exact fun _ => rfl

def reachL (p : Arc → Bool) (l : List Arc) (k : Nat) (s0 : List Int) : List Int := itN (l.foldl (putC p)) k s0

theorem reachL_rising (p : Arc → Bool) {n : Nat} {l : List Arc} (hl : ends n l) {s0 : List Int} (hr : Rising s0) (hin : ∀ a ∈ s0, 0 ≤ a ∧ a.toNat < n) (k : Nat) : Rising (reachL p l k s0) ∧ ∀ a ∈ reachL p l k s0, 0 ≤ a ∧ a.toNat < n := by
 have := ((putC_grow p hl s0).steps (s := s0) ⟨hr, hin, fun _ h => h, fun a h => .base h⟩ k).1
 exact ⟨this.1, this.2.1⟩

theorem reachL_mem (p : Arc → Bool) {n : Nat} {l : List Arc} (hl : ends n l) {s0 : List Int} (hr : Rising s0) (hin : ∀ a ∈ s0, 0 ≤ a ∧ a.toNat < n) (a : Int) : a ∈ reachL p l n s0 ↔ Rch (arcE p l) (fun a => a ∈ s0) a := by
 obtain ⟨⟨h1, h2, h3, h4⟩, h5⟩ := (putC_grow p hl s0).fix (s := s0) ⟨hr, hin, fun _ h => h, fun a h => .base h⟩
 refine ⟨h4 a, fun h => ?_⟩
 refine Rch.ind (fun a => a ∈ reachL p l n s0) (fun a ha => h3 a ha) ?_ h
 rintro b c hb ⟨e, he, rfl, rfl, hp⟩
 have hs := h5 e he
 change e.dst ∈ itN (l.foldl (putC p)) n s0
 rw [← hs]
 exact putC_hit (hasI_mem.2 hb) hp

structure Wl (n : Nat) (E : Int → Int → Prop) (S : Int → Prop) (out : List Int) : Prop where
 inn : ∀ a ∈ out, 0 ≤ a ∧ a.toNat < n
 nod : out.Nodup
 snd : ∀ a ∈ out, Rch E S a
 base : ∀ a, S a → a ∈ out

theorem nodup_len {n : Nat} {l : List Int} (h : l.Nodup) (hin : ∀ a ∈ l, 0 ≤ a ∧ a.toNat < n) : l.length ≤ n := by
 have h1 : (l.mergeSort leI).Pairwise (fun a b => leI a b = true) := List.pairwise_mergeSort (fun a b c h1 h2 => linI.trans a b c h1 h2) (fun a b => linI.total a b) l
 have h2 : (l.mergeSort leI).Nodup := (List.mergeSort_perm l leI).nodup_iff.2 h
 have h3 : Rising (l.mergeSort leI) := by
  rw [← rise_int]
  unfold Rise
  exact List.Pairwise.and h1 h2
 have := (rising_len (n := n) h3 (fun a ha => hin a (List.mem_mergeSort.1 ha))).2
 rwa [List.length_mergeSort] at this

theorem Wl.len {n : Nat} {E : Int → Int → Prop} {S : Int → Prop} {out : List Int} (h : Wl n E S out) : out.length ≤ n := nodup_len h.nod h.inn

theorem Wl.add {n : Nat} {E : Int → Int → Prop} {S : Int → Prop} {out : List Int} (h : Wl n E S out) {a b : Int} (ha : a ∈ out) (he : E a b) (hb : ¬ b ∈ out) (hn : 0 ≤ b ∧ b.toNat < n) : Wl n E S (out ++ [b]) := by
  refine ⟨fun c hc => ?_, ?_, fun c hc => ?_, fun c hc => List.mem_append_left _ (h.base c hc)⟩
  · rcases List.mem_append.1 hc with hc | hc
    · exact h.inn c hc
    · rw [List.mem_singleton] at hc; subst hc; exact hn
  · rw [List.nodup_append]
    refine ⟨h.nod, by simp, fun c hc d hd => ?_⟩
    rw [List.mem_singleton] at hd
    subst hd
    exact fun e => hb (e ▸ hc)
  · rcases List.mem_append.1 hc with hc | hc
    · exact h.snd c hc
    · rw [List.mem_singleton] at hc; subst hc; exact .step (h.snd a ha) he

theorem Wl.done {n : Nat} {E : Int → Int → Prop} {S : Int → Prop} {out : List Int} (h : Wl n E S out) (hd : ∀ a ∈ out, ∀ b, E a b → b ∈ out) (a : Int) : a ∈ out ↔ Rch E S a :=
 ⟨h.snd a, fun hr => Rch.ind (fun a => a ∈ out) h.base (fun a b ha he => hd a ha b he) hr⟩

theorem sp_impl_labelOfArc (a : Arc) : Sp Tryz.prog 56 [(.agg [(.int .i64 a.src), (.int .i64 a.sig), (.bool (a.up)), (.int .i64 a.dst)])] [.any] (.agg [(.int .i64 ((Lab.mk a.sig a.up).sig)), (.bool ((Lab.mk a.sig a.up).up))]) := by
 refine Sp_intro (lend := true) Tryz.func56 rfl rfl rfl (fun _ => rfl) (fun c hc hX => ?_)
 refine Ts hc (Ch.s (.ptr 1000 0) (.box 1000 _ _ rfl (.aggD _)) (Ch.s (.ptr 2000 0) (.alloc 2000 _ rfl zer82) (Ch.nil (Ts hc (Ch.s (.ptr 1000 1) (fP fld70_1 rfl) ?_)))))
 refine Ch.s (dI a.sig) (lP ag3 rfl rfl rfl) (Ch.s (.ptr 1000 2) (fP fld70_2 rfl) (Ch.s (dB (a.up)) (lP ag4 rfl rfl rfl) (Ch.s (.agg [(dI a.sig), (dB (a.up))]) (.build _ _ rfl stru82 (.cons (.one _ rfl) (.cons (.one _ rfl) .nil)) rfl) (Ch.s .junk (.storePtr _ _ _ rfl rfl rfl (.agg _ rfl) sz82 (lb rfl)) (Ch.nil (T_ret ?_))))))
 exact eR [(.agg [(dI a.sig), (dB (a.up))])] [] [] (.cons (.cellA _ _ rfl rfl ag82 sz82) .nil) eA (.agg (.cons (Exp.of (congrArg (D.int .i64) (by rfl)) (.d _)) (.cons (Exp.of (congrArg D.bool (by rfl)) (.d _)) .nil)) rfl)

theorem en54 : Enters Tryz.prog 54 := ⟨_, Tryz.func54, by kernel_rfl, rfl⟩

theorem en56 : Enters Tryz.prog 56 := ⟨_, Tryz.func56, by kernel_rfl, rfl⟩

theorem en55 : Enters Tryz.prog 55 := ⟨_, Tryz.func55, by kernel_rfl, rfl⟩

theorem mty55 : MapTy Tryz.prog 55 44 := ⟨9, Tryz.underlying55, Tryz.underlying9⟩

theorem zv44 : ∀ w, (zeroValue 44).run Tryz.prog w = .ok (.slice none 0 0) w := fun w => by kernel_rfl

theorem en24 : Enters Tryz.prog 24 := ⟨_, Tryz.func24, by kernel_rfl, rfl⟩

theorem en26 : Enters Tryz.prog 26 := ⟨_, Tryz.func26, by kernel_rfl, rfl⟩

theorem en27 : Enters Tryz.prog 27 := ⟨_, Tryz.func27, by kernel_rfl, rfl⟩

theorem en28 : Enters Tryz.prog 28 := ⟨_, Tryz.func28, by kernel_rfl, rfl⟩

theorem en42 : Enters Tryz.prog 42 := ⟨_, Tryz.func42, by kernel_rfl, rfl⟩

theorem en40 : Enters Tryz.prog 40 := ⟨_, Tryz.func40, by kernel_rfl, rfl⟩

theorem en41 : Enters Tryz.prog 41 := ⟨_, Tryz.func41, by kernel_rfl, rfl⟩

theorem sz47 : SizeIs Tryz.prog 47 3 := by unfold SizeIs; kernel_rfl

theorem fld47_0 : FieldIs Tryz.prog 47 0 0 1 false := FieldIs.mk Tryz.underlying47 rfl rfl sz9 ag9 rfl

theorem fld47_2 : FieldIs Tryz.prog 47 2 2 1 false := FieldIs.mk Tryz.underlying47 rfl rfl sz3 ag3 rfl

theorem fld47_1 : FieldIs Tryz.prog 47 1 1 1 false := FieldIs.mk Tryz.underlying47 rfl rfl sz44 ag44 rfl

theorem ag47 : AggIs Tryz.prog 47 true := by unfold AggIs; kernel_rfl

theorem sty48 : SlotTy Tryz.prog 48 47 3 48 := slotTy_mk (by kernel_rfl)

theorem zr47 : (Tryz.prog.info? 47).bind (·.zero) = some (.agg #[.string .empty, .slice none 0 0, .int .i64 0]) := by kernel_rfl

theorem zer47 : ∃ i z, Tryz.prog.info? 47 = some i ∧ i.zero = some z ∧ z.cells = List.toArray [.string .empty, .slice none 0 0, .int .i64 0] := zero_mk zr47 rfl

theorem en44 : Enters Tryz.prog 44 := ⟨_, Tryz.func44, by kernel_rfl, rfl⟩

theorem stru47 : StructIs Tryz.prog 47 [.string .empty, .slice none 0 0, .int .i64 0] [(0, 1), (1, 1), (2, 1)] := structIs_mk (by kernel_rfl) Tryz.underlying47 (by kernel_rfl)

theorem en43 : Enters Tryz.prog 43 := ⟨_, Tryz.func43, by kernel_rfl, rfl⟩

theorem en18 : Enters Tryz.prog 18 := ⟨_, Tryz.func18, by kernel_rfl, rfl⟩

theorem en16 : Enters Tryz.prog 16 := ⟨_, Tryz.func16, by kernel_rfl, rfl⟩

theorem en19 : Enters Tryz.prog 19 := ⟨_, Tryz.func19, by kernel_rfl, rfl⟩

theorem en20 : Enters Tryz.prog 20 := ⟨_, Tryz.func20, by kernel_rfl, rfl⟩

theorem ag26 : AggIs Tryz.prog 26 true := by unfold AggIs; kernel_rfl

theorem sz26 : SizeIs Tryz.prog 26 3 := by unfold SizeIs; kernel_rfl

theorem en4 : Enters Tryz.prog 4 := ⟨_, Tryz.func4, by kernel_rfl, rfl⟩

theorem en6 : Enters Tryz.prog 6 := ⟨_, Tryz.func6, by kernel_rfl, rfl⟩

theorem en5 : Enters Tryz.prog 5 := ⟨_, Tryz.func5, by kernel_rfl, rfl⟩

theorem en7 : Enters Tryz.prog 7 := ⟨_, Tryz.func7, by kernel_rfl, rfl⟩

theorem en9 : Enters Tryz.prog 9 := ⟨_, Tryz.func9, by kernel_rfl, rfl⟩

theorem en10 : Enters Tryz.prog 10 := ⟨_, Tryz.func10, by kernel_rfl, rfl⟩

theorem en12 : Enters Tryz.prog 12 := ⟨_, Tryz.func12, by kernel_rfl, rfl⟩

def mpK (M : List (List UInt8 × List Int)) : List (List UInt8) := M.map Prod.fst

def mpU (M : List (List UInt8 × List Int)) : List D := M.map fun p => intsU p.2

def mpD (M : List (List UInt8 × List Int)) : List D := M.map fun p => intsD p.2

theorem mpK_len (M : List (List UInt8 × List Int)) : (mpK M).length = M.length := List.length_map _

theorem mpK_get {M : List (List UInt8 × List Int)} {j : Nat} (h : j < M.length) : (mpK M)[j]? = some (M.getD j default).1 := by simp [mpK, h]

theorem mpU_get {M : List (List UInt8 × List Int)} {j : Nat} (h : j < M.length) : (mpU M)[j]? = some (intsU (M.getD j default).2) := by simp [mpU, h]

theorem mpD_get {M : List (List UInt8 × List Int)} {j : Nat} (h : j < M.length) : (mpD M)[j]? = some (intsD (M.getD j default).2) := by simp [mpD, h]

theorem mpU_sol (M : List (List UInt8 × List Int)) : (D.map (mpK M) (mpU M)).solid = true := by
 rw [D.solid]
 exact solids_map (fun p => by unfold intsU; rw [D.solid]; exact (by rw [Bool.true_and]; exact solids_map (fun _ => rfl) _)) M

def getL : List (List UInt8 × List Int) → List UInt8 → List Int
 | [], _ => []
 | p :: M, s => if p.1 = s then p.2 else getL M s

def putM : List (List UInt8 × List Int) → List UInt8 → List Int → List (List UInt8 × List Int)
 | [], s, v => [(s, v)]
 | p :: M, s, v => if p.1 = s then (s, v) :: M else p :: putM M s v

def tkX : List (List UInt8 × List Int) → List UInt8 → List D
 | [], _ => []
 | p :: M, s => if p.1 = s then .any :: mpU M else intsU p.2 :: tkX M s

theorem idxK_cons (k : List UInt8) (ks : List (List UInt8)) (s : List UInt8) : idxK (k :: ks) s = if k = s then some 0 else (idxK ks s).map (· + 1) := by
  unfold idxK
  rw [List.findIdx?_cons]
  by_cases h : k = s <;> simp [h]

theorem takeK_mk : ∀ (M : List (List UInt8 × List Int)) (s : List UInt8), TakeK (mpK M) (mpU M) s 1 ((getL M s).map fun n : Int => D.int .i64 n) (tkX M s)
  | [], s => .inr ⟨rfl, rfl, rfl⟩
  | p :: M, s => by
    have ih := takeK_mk M s
    by_cases h : p.1 = s
    · refine .inl ⟨0, ?_, ?_, ?_⟩
      · show idxK (p.1 :: mpK M) s = _; rw [idxK_cons, if_pos h]
      · rw [getL, if_pos h]; rfl
      · rw [tkX, if_pos h]; rfl
    · rw [getL, if_neg h, tkX, if_neg h]
      rcases ih with ⟨j, h1, h2, h3⟩ | ⟨h1, h2, h3⟩
      · exact .inl ⟨j + 1, by show idxK (p.1 :: mpK M) s = _; rw [idxK_cons, if_neg h, h1]; rfl, h2, by rw [h3]; rfl⟩
      · exact .inr ⟨by show idxK (p.1 :: mpK M) s = _; rw [idxK_cons, if_neg h, h1]; rfl, h2, by rw [h3]; rfl⟩

theorem putK_tk : ∀ (M : List (List UInt8 × List Int)) (s : List UInt8) (v : List Int), PutK (mpK M) (tkX M s) s (intsU v) (mpK (putM M s v)) (mpU (putM M s v))
  | [], s, v => .inr ⟨rfl, rfl, rfl⟩
  | p :: M, s, v => by
    have ih := putK_tk M s v
    by_cases h : p.1 = s
    · refine .inl ⟨0, .any, ?_, ?_, rfl, ?_, ?_⟩
      · show idxK (p.1 :: mpK M) s = _; rw [idxK_cons, if_pos h]
      · rw [tkX, if_pos h]; rfl
      · rw [putM, if_pos h, ← h]; rfl
      · rw [putM, if_pos h, tkX, if_pos h]; rfl
    · rw [putM, if_neg h, tkX, if_neg h]
      rcases ih with ⟨j, y, h1, h2, h3, h4, h5⟩ | ⟨h1, h2, h3⟩
      · exact .inl ⟨j + 1, y, by show idxK (p.1 :: mpK M) s = _; rw [idxK_cons, if_neg h, h1]; rfl, h2, h3, by show p.1 :: mpK _ = p.1 :: mpK _; rw [h4], by show intsU p.2 :: mpU _ = _; rw [h5]; rfl⟩
      · exact .inr ⟨by show idxK (p.1 :: mpK M) s = _; rw [idxK_cons, if_neg h, h1]; rfl, by show p.1 :: mpK _ = _; rw [h2]; rfl, by show intsU p.2 :: mpU _ = _; rw [h3]; rfl⟩

theorem putK_D : ∀ (M : List (List UInt8 × List Int)) (s : List UInt8) (v : List Int), PutK (mpK M) (mpD M) s (intsD v) (mpK (putM M s v)) (mpD (putM M s v))
  | [], s, v => .inr ⟨rfl, rfl, rfl⟩
  | p :: M, s, v => by
    have ih := putK_D M s v
    by_cases h : p.1 = s
    · refine .inl ⟨0, intsD p.2, ?_, rfl, rfl, ?_, ?_⟩
      · show idxK (p.1 :: mpK M) s = _; rw [idxK_cons, if_pos h]
      · rw [putM, if_pos h, ← h]; rfl
      · rw [putM, if_pos h]; rfl
    · rw [putM, if_neg h]
      rcases ih with ⟨j, y, h1, h2, h3, h4, h5⟩ | ⟨h1, h2, h3⟩
      · exact .inl ⟨j + 1, y, by show idxK (p.1 :: mpK M) s = _; rw [idxK_cons, if_neg h, h1]; rfl, h2, h3, by show p.1 :: mpK _ = p.1 :: mpK _; rw [h4], by show intsD p.2 :: mpD _ = _; rw [h5]; rfl⟩
      · exact .inr ⟨by show idxK (p.1 :: mpK M) s = _; rw [idxK_cons, if_neg h, h1]; rfl, by show p.1 :: mpK _ = _; rw [h2]; rfl, by show intsD p.2 :: mpD _ = _; rw [h3]; rfl⟩

theorem putM_new : ∀ {M : List (List UInt8 × List Int)} {s : List UInt8} (v : List Int), (∀ p ∈ M, p.1 ≠ s) → putM M s v = M ++ [(s, v)]
 | [], s, v, _ => rfl
 | p :: M, s, v, h => by rw [putM, if_neg (h p List.mem_cons_self), putM_new v (fun q hq => h q (List.mem_cons_of_mem _ hq))]; rfl

theorem putM_len : ∀ (M : List (List UInt8 × List Int)) (s : List UInt8) (v : List Int), (putM M s v).length ≤ M.length + 1
  | [], s, v => Nat.le_refl _
  | p :: M, s, v => by
    rw [putM]
    split
    · simp
    · have := putM_len M s v; simp; omega

theorem putM_fst : ∀ {M : List (List UInt8 × List Int)} {s : List UInt8} {v : List Int} {u : List UInt8}, (∃ p ∈ putM M s v, p.1 = u) ↔ (∃ p ∈ M, p.1 = u) ∨ u = s
  | [], s, v, u => by simp [putM, eq_comm]
  | p :: M, s, v, u => by
    have ih := putM_fst (M := M) (s := s) (v := v) (u := u)
    rw [putM]
    split
    · rename_i h
      constructor
      · rintro ⟨q, hq, rfl⟩
        rcases List.mem_cons.1 hq with rfl | hq
        · exact .inr rfl
        · exact .inl ⟨q, List.mem_cons_of_mem _ hq, rfl⟩
      · rintro (⟨q, hq, rfl⟩ | rfl)
        · rcases List.mem_cons.1 hq with rfl | hq
          · exact ⟨_, List.mem_cons_self, h.symm⟩
          · exact ⟨q, List.mem_cons_of_mem _ hq, rfl⟩
        · exact ⟨_, List.mem_cons_self, rfl⟩
    · constructor
      · rintro ⟨q, hq, rfl⟩
        rcases List.mem_cons.1 hq with rfl | hq
        · exact .inl ⟨q, List.mem_cons_self, rfl⟩
        · rcases ih.1 ⟨q, hq, rfl⟩ with ⟨r, hr, h2⟩ | h2
          · exact .inl ⟨r, List.mem_cons_of_mem _ hr, h2⟩
          · exact .inr h2
      · rintro (⟨q, hq, rfl⟩ | h2)
        · rcases List.mem_cons.1 hq with rfl | hq
          · exact ⟨_, List.mem_cons_self, rfl⟩
          · obtain ⟨r, hr, h2⟩ := ih.2 (.inl ⟨q, hq, rfl⟩)
            exact ⟨r, List.mem_cons_of_mem _ hr, h2⟩
        · obtain ⟨r, hr, h3⟩ := ih.2 (.inr h2)
          exact ⟨r, List.mem_cons_of_mem _ hr, h3⟩

theorem putM_nodup : ∀ {M : List (List UInt8 × List Int)} {s : List UInt8} {v : List Int}, (M.map Prod.fst).Nodup → ((putM M s v).map Prod.fst).Nodup
  | [], s, v, _ => by simp [putM]
  | p :: M, s, v, h => by
    rw [List.map_cons, List.nodup_cons] at h
    rw [putM]
    split
    · rename_i e
      rw [List.map_cons, List.nodup_cons, ← e]; exact h
    · rename_i e
      rw [List.map_cons, List.nodup_cons]
      refine ⟨fun hm => ?_, putM_nodup h.2⟩
      obtain ⟨q, hq, h2⟩ := List.mem_map.1 hm
      rcases putM_fst.1 ⟨q, hq, h2⟩ with ⟨r, hr, h3⟩ | h3
      · exact h.1 (List.mem_map.2 ⟨r, hr, h3⟩)
      · exact e h3

def addM (M : List (List UInt8 × List Int)) (w : List UInt8) (d : Int) : List (List UInt8 × List Int) := putM M w (getL M w ++ [d])

theorem addM_cons (p : List UInt8 × List Int) (M : List (List UInt8 × List Int)) (w : List UInt8) (d : Int) : addM (p :: M) w d = if p.1 = w then (w, p.2 ++ [d]) :: M else p :: addM M w d := by
  unfold addM
  rw [putM, getL]
  split <;> rfl

theorem addM_mem : ∀ {M : List (List UInt8 × List Int)} {w : List UInt8} {d : Int} {u : List UInt8} {s : Int}, (∃ p ∈ addM M w d, p.1 = u ∧ s ∈ p.2) ↔ (∃ p ∈ M, p.1 = u ∧ s ∈ p.2) ∨ (u = w ∧ s = d)
  | [], w, d, u, s => by simp [addM, putM, getL, eq_comm]
  | p :: M, w, d, u, s => by
    have ih := addM_mem (M := M) (w := w) (d := d) (u := u) (s := s)
    rw [addM_cons]
    split
    · rename_i e
      simp only [List.mem_cons, exists_eq_or_imp, List.mem_append, List.not_mem_nil, or_false]
      constructor
      · rintro (⟨h1, h2 | h2⟩ | h2)
        · exact .inl (.inl ⟨e.trans h1, h2⟩)
        · exact .inr ⟨h1.symm, h2⟩
        · exact .inl (.inr h2)
      · rintro ((⟨h1, h2⟩ | h2) | ⟨h1, h2⟩)
        · exact .inl ⟨e.symm.trans h1, .inl h2⟩
        · exact .inr h2
        · exact .inl ⟨h1.symm, .inr h2⟩
    · simp only [List.mem_cons, exists_eq_or_imp]
      rw [ih]
      constructor
      · rintro (h | h | h)
        · exact .inl (.inl h)
        · exact .inl (.inr h)
        · exact .inr h
      · rintro ((h | h) | h)
        · exact .inl h
        · exact .inr (.inl h)
        · exact .inr (.inr h)

theorem addM_ne : ∀ {M : List (List UInt8 × List Int)} {w : List UInt8} {d : Int}, (∀ p ∈ M, p.2 ≠ []) → ∀ p ∈ addM M w d, p.2 ≠ []
  | [], w, d, _, p, hp => by simp [addM, putM, getL] at hp; simp [hp]
  | q :: M, w, d, h, p, hp => by
    rw [addM_cons] at hp
    split at hp
    · rcases List.mem_cons.1 hp with rfl | hp
      · simp
      · exact h p (List.mem_cons_of_mem _ hp)
    · rcases List.mem_cons.1 hp with rfl | hp
      · exact h p List.mem_cons_self
      · exact addM_ne (fun r hr => h r (List.mem_cons_of_mem _ hr)) p hp

theorem addM_lens : ∀ {M : List (List UInt8 × List Int)} {w : List UInt8} {d : Int} {n : Nat}, (∀ p ∈ M, p.2.length ≤ n) → ∀ p ∈ addM M w d, p.2.length ≤ n + 1
  | [], w, d, n, _, p, hp => by simp [addM, putM, getL] at hp; simp [hp]
  | q :: M, w, d, n, h, p, hp => by
    rw [addM_cons] at hp
    split at hp
    · rcases List.mem_cons.1 hp with rfl | hp
      · have := h q List.mem_cons_self; simp; exact this
      · have := h p (List.mem_cons_of_mem _ hp); omega
    · rcases List.mem_cons.1 hp with rfl | hp
      · have := h p List.mem_cons_self; omega
      · exact addM_lens (fun r hr => h r (List.mem_cons_of_mem _ hr)) p hp

theorem getL_len : ∀ {M : List (List UInt8 × List Int)} {w : List UInt8} {n : Nat}, (∀ p ∈ M, p.2.length ≤ n) → (getL M w).length ≤ n
  | [], w, n, _ => by simp [getL]
  | q :: M, w, n, h => by
    rw [getL]
    split
    · exact h q List.mem_cons_self
    · exact getL_len (fun r hr => h r (List.mem_cons_of_mem _ hr))

theorem addM_len (M : List (List UInt8 × List Int)) (w : List UInt8) (d : Int) : (addM M w d).length ≤ M.length + 1 := putM_len _ _ _

theorem oM {ks ks' : List (List UInt8)} {xs xs' : List D} (h : ks = ks') (h2 : xs = xs') : some (Ob.mapo ks xs) = some (Ob.mapo ks' xs') := by rw [h, h2]

theorem oMU {M N : List (List UInt8 × List Int)} (h : M = N) : some (Ob.mapo (mpK M) (mpU M)) = some (Ob.mapo (mpK N) (mpU N)) := by rw [h]

theorem oMD {M N : List (List UInt8 × List Int)} (h : M = N) : some (Ob.mapo (mpK M) (mpD M)) = some (Ob.mapo (mpK N) (mpD N)) := by rw [h]

theorem oI {i n m : Nat} {l l' : List Nat} {c c' : Option Nat} (h : n = m) (h2 : l = l') (h3 : c = c') : some (Ob.iter i n l c) = some (Ob.iter i m l' c') := by rw [h, h2, h3]

theorem snocI (l : List Int) (d : Int) : (l.map fun n : Int => D.int .i64 n) ++ [D.int .i64 d] = (l ++ [d]).map fun n : Int => D.int .i64 n := by rw [List.map_append]; rfl

def silB (hid : Int) (a : Arc) : Bool := decide (a.sig = -1) || decide (a.sig = hid)

theorem sil_1 {hid : Int} {a : Arc} (h : a.sig = -1) : silB hid a = true := by unfold silB; rw [decide_eq_true h]; rfl

theorem sil_2 {hid : Int} {a : Arc} (h : a.sig = hid) : silB hid a = true := by unfold silB; rw [decide_eq_true h, Bool.or_true]

theorem sil_no {hid : Int} {a : Arc} (h1 : ¬ a.sig = -1) (h2 : ¬ a.sig = hid) : silB hid a = false := by unfold silB; rw [decide_eq_false h1, decide_eq_false h2]; rfl

theorem sil_false {hid : Int} {a : Arc} (h : silB hid a = false) : ¬ a.sig = -1 ∧ ¬ a.sig = hid := by
 unfold silB at h
 simpa using h

def wrdE (sg : List Sgn) (l : Lab) : List UInt8 := if l.sig < 0 then [126] else if l.up then (sg.getD l.sig.toNat default).name ++ [43] else (sg.getD l.sig.toNat default).name ++ [45]

def wrd (x : Sgr) (a : Arc) : List UInt8 := wrdE x.sigs (Lab.mk a.sig a.up)

theorem wrd_up {x : Sgr} {a : Arc} (h0 : 0 ≤ a.sig) (h : a.up = true) : (x.sigs.getD a.sig.toNat default).name ++ [43] = wrd x a := by
 unfold wrd wrdE
 rw [if_neg (by dsimp only; omega), if_pos h]

theorem wrd_down {x : Sgr} {a : Arc} (h0 : 0 ≤ a.sig) (h : a.up = false) : (x.sigs.getD a.sig.toNat default).name ++ [45] = wrd x a := by
 unfold wrd wrdE
 rw [if_neg (by dsimp only; omega), if_neg (by dsimp only; rw [h]; decide)]
/-! texts -/

def sgnC (c : UInt8) : Bool := decide (c = 43) || decide (c = 45)

def TrT (t : List UInt8) : Prop := t = [] ∨ ∃ p s, t = p ++ [s] ∧ sgnC s = true

def WdT (w : List UInt8) : Prop := ∃ n s, w = n ++ [s] ∧ sgnC s = true ∧ ∀ c ∈ n, sgnC c = false

theorem uniq_aux {t1 t2 n1 n2 : List UInt8} (h2 : TrT t2) (hn : ∀ c ∈ n1, sgnC c = false) {a : List UInt8} (e1 : t2 = t1 ++ a) (e2 : n1 = a ++ n2) : a = [] := by
  by_cases ha : a = []
  · exact ha
  · exfalso
    obtain ⟨b, c, hbc⟩ : ∃ b c, a = b ++ [c] := ⟨a.dropLast, a.getLast ha, (List.dropLast_concat_getLast ha).symm⟩
    have hc : c ∈ n1 := by rw [e2, hbc]; simp
    have hf := hn c hc
    rcases h2 with h2 | ⟨p, s, h2, hs⟩
    · rw [h2] at e1
      have := congrArg List.length e1
      rw [hbc] at this; simp at this
    · rw [h2, hbc, ← List.append_assoc] at e1
      have := List.append_inj_right' e1 rfl
      have : s = c := by simpa using this
      rw [this, hf] at hs; cases hs

theorem uniq {t1 t2 w1 w2 : List UInt8} (h1 : TrT t1) (h2 : TrT t2) (k1 : WdT w1) (k2 : WdT w2) (h : t1 ++ w1 = t2 ++ w2) : t1 = t2 ∧ w1 = w2 := by
  obtain ⟨n1, s1, rfl, hs1, hn1⟩ := k1
  obtain ⟨n2, s2, rfl, hs2, hn2⟩ := k2
  rw [← List.append_assoc, ← List.append_assoc] at h
  have hs : s1 = s2 := by simpa using List.append_inj_right' h rfl
  have h' : t1 ++ n1 = t2 ++ n2 := List.append_inj_left' h rfl
  have key : t1 = t2 ∧ n1 = n2 := by
    rcases List.append_eq_append_iff.1 h' with ⟨a, e1, e2⟩ | ⟨a, e1, e2⟩
    · have := uniq_aux h2 hn1 e1 e2
      subst this; simp at e1 e2; exact ⟨e1.symm, e2⟩
    · have := uniq_aux h1 hn2 e1 e2
      subst this; simp at e1 e2; exact ⟨e1, e2.symm⟩
  exact ⟨key.1, by rw [key.2, hs]⟩

theorem name_ok {x : Sgr} (hx : SgOk x) {i : Nat} (hi : i < x.sigs.length) : (x.sigs.getD i default).name.length ≤ 6 ∧ ∀ c ∈ (x.sigs.getD i default).name, sgnC c = false := by
  have h1 := hx.sigs
  unfold sigsB at h1
  simp only [Bool.and_eq_true, allB_true] at h1
  have h2 := h1.1 i hi
  unfold sigOk at h2
  simp only [Bool.and_eq_true] at h2
  have h3 := h2.1
  unfold nameB at h3
  simp only [Bool.and_eq_true, allB_true] at h3
  have h4 := within_two h3.2
  refine ⟨by omega, fun c hc => ?_⟩
  obtain ⟨j, hj, rfl⟩ := List.mem_iff_getElem.1 hc
  have h5 := h3.1 j hj
  rw [List.getD_eq_getElem?_getD, List.getElem?_eq_getElem hj, Option.getD_some] at h5
  generalize (x.sigs.getD i default).name[j] = c at h5
  unfold nameCh letB digB at h5
  unfold sgnC
  simp only [Bool.or_eq_true, Bool.and_eq_true, decide_eq_true_iff, UInt8.le_iff_toNat_le] at h5
  rw [Bool.or_eq_false_iff]
  constructor
  · refine decide_eq_false fun e => ?_
    subst e
    rcases h5 with h5 | h5
    · exact absurd h5.1 (by decide)
    · exact absurd h5.1.1 (by decide)
  · refine decide_eq_false fun e => ?_
    subst e
    rcases h5 with h5 | h5
    · exact absurd h5.1 (by decide)
    · exact absurd h5.1.1 (by decide)

theorem vis_sig {x : Sgr} (hx : SgOk x) {hid : Int} {a : Arc} (ha : a ∈ x.arcs) (hv : silB hid a = false) : 0 ≤ a.sig ∧ a.sig.toNat < x.sigs.length := by
 have h1 := hx.sig a ha
 have h2 := sil_false hv
 omega

theorem wrd_ok {x : Sgr} (hx : SgOk x) {hid : Int} {a : Arc} (ha : a ∈ x.arcs) (hv : silB hid a = false) : WdT (wrd x a) ∧ (wrd x a).length ≤ 7 := by
 obtain ⟨h0, h1⟩ := vis_sig hx ha hv
 obtain ⟨h2, h3⟩ := name_ok hx h1
 cases hu : a.up with
 | true => rw [← wrd_up h0 hu]; exact ⟨⟨_, 43, rfl, by decide, h3⟩, by rw [List.length_append, List.length_singleton]; omega⟩
 | false => rw [← wrd_down h0 hu]; exact ⟨⟨_, 45, rfl, by decide, h3⟩, by rw [List.length_append, List.length_singleton]; omega⟩

def cntS (u : List UInt8) : Nat := (u.filter sgnC).length

theorem cnt_wd {w : List UInt8} (h : WdT w) : cntS w = 1 := by
 obtain ⟨n, s, rfl, hs, hn⟩ := h
 unfold cntS
 rw [List.filter_append, List.filter_eq_nil_iff.2 (fun c hc => by rw [hn c hc]; decide)]
 simp [hs]

theorem cnt_app (a b : List UInt8) : cntS (a ++ b) = cntS a + cntS b := by simp [cntS, List.filter_append]

theorem tr_app {t w : List UInt8} (h : WdT w) : TrT (t ++ w) := by
 obtain ⟨n, s, rfl, hs, _⟩ := h
 exact .inr ⟨t ++ n, s, by rw [List.append_assoc], hs⟩
/-! levels -/

def SV (x : Sgr) (hid : Int) : Nat → List UInt8 → Int → Prop
 | 0, u, s => u = [] ∧ Rch (arcE (silB hid) x.arcs) (fun a => a ∈ [(0 : Int)]) s
 | k + 1, u, s => Rch (arcE (silB hid) x.arcs) (fun b => ∃ v, ∃ a ∈ x.arcs, silB hid a = false ∧ SV x hid k v a.src ∧ u = v ++ wrd x a ∧ a.dst = b) s

theorem rch_some {E : Int → Int → Prop} {S : Int → Prop} {a : Int} (h : Rch E S a) : ∃ b, S b := by
 induction h with
 | base h => exact ⟨_, h⟩
 | step _ _ ih => exact ih

theorem SV.text {x : Sgr} (hx : SgOk x) {hid : Int} : ∀ {k : Nat} {u : List UInt8} {s : Int}, SV x hid k u s → TrT u ∧ cntS u = k ∧ u.length ≤ 7 * k
 | 0, u, s, h => by
  obtain ⟨rfl, _⟩ := h
  exact ⟨.inl rfl, rfl, by simp⟩
 | k + 1, u, s, h => by
  obtain ⟨_, v, a, ha, hv, h1, rfl, _⟩ := rch_some h
  have h2 := SV.text hx h1
  have h3 := wrd_ok hx ha hv
  refine ⟨tr_app h3.1, by rw [cnt_app, cnt_wd h3.1, h2.2.1], ?_⟩
  rw [List.length_append]; omega

structure LOK (x : Sgr) (hid : Int) (k : Nat) (M : List (List UInt8 × List Int)) : Prop where
 nod : (M.map Prod.fst).Nodup
 ne : ∀ p ∈ M, p.2 ≠ []
 inn : ∀ p ∈ M, p.2.Nodup ∧ ∀ a ∈ p.2, 0 ≤ a ∧ a.toNat < x.codes.length
 iff : ∀ u s, (∃ p ∈ M, p.1 = u ∧ s ∈ p.2) ↔ SV x hid k u s

theorem LOK.key {x : Sgr} {hid : Int} {k : Nat} {M : List (List UInt8 × List Int)} (h : LOK x hid k M) (u : List UInt8) : u ∈ M.map Prod.fst ↔ ∃ s, SV x hid k u s := by
  rw [List.mem_map]
  constructor
  · rintro ⟨p, hp, rfl⟩
    obtain ⟨s, hs⟩ := List.exists_mem_of_ne_nil _ (h.ne p hp)
    exact ⟨s, (h.iff _ _).1 ⟨p, hp, rfl, hs⟩⟩
  · rintro ⟨s, hs⟩
    obtain ⟨p, hp, h1, _⟩ := (h.iff _ _).2 hs
    exact ⟨p, hp, h1⟩

theorem LOK.perm {x : Sgr} {hid : Int} {k : Nat} {M M' : List (List UInt8 × List Int)} (h : LOK x hid k M) (h' : LOK x hid k M') : (M.map Prod.fst).Perm (M'.map Prod.fst) :=
 (List.perm_ext_iff_of_nodup h.nod h'.nod).2 fun u => by rw [h.key, h'.key]

theorem LOK.text {x : Sgr} (hx : SgOk x) {hid : Int} {k : Nat} {M : List (List UInt8 × List Int)} (h : LOK x hid k M) {p : List UInt8 × List Int} (hp : p ∈ M) : TrT p.1 ∧ cntS p.1 = k ∧ p.1.length ≤ 7 * k := by
 obtain ⟨s, hs⟩ := (h.key p.1).1 (List.mem_map.2 ⟨p, hp, rfl⟩)
 exact hs.text hx
/-! closed -/

def rstep (p : Arc → Bool) (c : Int) (o : List Int) (a : Arc) : List Int := if decide (a.src = c) && (p a && !hasI o a.dst) then o ++ [a.dst] else o

def rowK (p : Arc → Bool) (l : List Arc) (c : Int) (o : List Int) (k : Nat) : List Int := (l.take k).foldl (rstep p c) o

theorem row_succ {p : Arc → Bool} {l : List Arc} {c : Int} {o : List Int} {k : Nat} (h : k < l.length) : rowK p l c o (k + 1) = rstep p c (rowK p l c o k) (l.getD k default) := by
 have hg : l.getD k default = l[k] := by simp [h]
 unfold rowK
 rw [hg, List.take_succ_eq_append_getElem h, List.foldl_append]; rfl

theorem row_yes {p : Arc → Bool} {l : List Arc} {c : Int} {o : List Int} {k : Nat} (h : k < l.length) (h1 : (l.getD k default).src = c) (h2 : p (l.getD k default) = true) (h3 : hasI (rowK p l c o k) (l.getD k default).dst = false) : rowK p l c o k ++ [(l.getD k default).dst] = rowK p l c o (k + 1) := by
 rw [row_succ h, rstep, decide_eq_true h1, h2, h3]; rfl

theorem row_no1 {p : Arc → Bool} {l : List Arc} {c : Int} {o : List Int} {k : Nat} (h : k < l.length) (h1 : ¬ (l.getD k default).src = c) : rowK p l c o k = rowK p l c o (k + 1) := by
 rw [row_succ h, rstep, decide_eq_false h1]; rfl

theorem row_no2 {p : Arc → Bool} {l : List Arc} {c : Int} {o : List Int} {k : Nat} (h : k < l.length) (h2 : p (l.getD k default) = false) : rowK p l c o k = rowK p l c o (k + 1) := by
 rw [row_succ h, rstep, h2, Bool.false_and, Bool.and_false]; rfl

theorem row_no3 {p : Arc → Bool} {l : List Arc} {c : Int} {o : List Int} {k : Nat} (h : k < l.length) (h3 : hasI (rowK p l c o k) (l.getD k default).dst = true) : rowK p l c o k = rowK p l c o (k + 1) := by
 rw [row_succ h, rstep, h3, Bool.not_true, Bool.and_false, Bool.and_false]; rfl

theorem row_ok {p : Arc → Bool} {n : Nat} {l : List Arc} (hen : ends n l) {S : Int → Prop} {c : Int} {o : List Int} (hw : Wl n (arcE p l) S o) (hc : c ∈ o) : ∀ k, k ≤ l.length →
    Wl n (arcE p l) S (rowK p l c o k) ∧ (∃ t, rowK p l c o k = o ++ t) ∧ ∀ a ∈ l.take k, a.src = c → p a = true → a.dst ∈ rowK p l c o k
  | 0, _ => ⟨hw, ⟨[], by simp [rowK]⟩, by simp⟩
  | k + 1, hk => by
    obtain ⟨h1, ⟨t, h2⟩, h3⟩ := row_ok hen hw hc k (by omega)
    have hk' : k < l.length := by omega
    have hg : l.getD k default = l[k] := by simp [hk']
    have hm : l.getD k default ∈ l := by rw [hg]; exact List.getElem_mem hk'
    have hall : ∀ o' : List Int, (∀ a ∈ rowK p l c o k, a ∈ o') → (((l.getD k default).src = c ∧ p (l.getD k default) = true) → (l.getD k default).dst ∈ o') → ∀ a ∈ l.take (k + 1), a.src = c → p a = true → a.dst ∈ o' := by
      intro o' q1 q2 a ha e1 e2
      rw [List.take_succ_eq_append_getElem hk', ← hg] at ha
      rcases List.mem_append.1 ha with ha | ha
      · exact q1 _ (h3 a ha e1 e2)
      · rw [List.mem_singleton] at ha; subst ha; exact q2 ⟨e1, e2⟩
    by_cases q1 : (l.getD k default).src = c
    · by_cases q2 : p (l.getD k default) = true
      · by_cases q3 : hasI (rowK p l c o k) (l.getD k default).dst = true
        · rw [← row_no3 hk' q3]
          exact ⟨h1, ⟨t, h2⟩, hall _ (fun _ h => h) fun _ => hasI_mem.1 q3⟩
        · have q3' : hasI (rowK p l c o k) (l.getD k default).dst = false := by simpa using q3
          rw [← row_yes hk' q1 q2 q3']
          refine ⟨h1.add (a := c) (by rw [h2]; exact List.mem_append_left _ hc) ⟨_, hm, q1, rfl, q2⟩ (fun h => q3 (hasI_mem.2 h)) (hen _ hm).2, ⟨t ++ [(l.getD k default).dst], by rw [h2, List.append_assoc]⟩, hall _ (fun _ h => List.mem_append_left _ h) fun _ => by simp⟩
      · rw [← row_no2 hk' (by simpa using q2)]
        exact ⟨h1, ⟨t, h2⟩, hall _ (fun _ h => h) fun h => absurd h.2 q2⟩
    · rw [← row_no1 hk' q1]
      exact ⟨h1, ⟨t, h2⟩, hall _ (fun _ h => h) fun h => absurd h.1 q1⟩

def cloN (p : Arc → Bool) (l : List Arc) : Nat → List Int → Nat → List Int
 | 0, o, _ => o
 | f + 1, o, i => if i < o.length then cloN p l f (rowK p l (o.getD i default) o l.length) (i + 1) else o

structure Clo (n : Nat) (p : Arc → Bool) (l : List Arc) (S : Int → Prop) (q : List Int × Nat) : Prop where
 wl : Wl n (arcE p l) S q.1
 dn : ∀ j, j < q.2 → ∀ a ∈ l, a.src = q.1.getD j default → p a = true → a.dst ∈ q.1
 le : q.2 ≤ q.1.length

theorem getD_appI {o t : List Int} {j : Nat} (h : j < o.length) : (o ++ t).getD j default = o.getD j default := by
 simp only [List.getD_eq_getElem?_getD]; rw [List.getElem?_append_left h]

theorem Clo.step {n : Nat} {p : Arc → Bool} {l : List Arc} {S : Int → Prop} {q : List Int × Nat} (h : Clo n p l S q) (hen : ends n l) (hi : q.2 < q.1.length) : Clo n p l S (rowK p l (q.1.getD q.2 default) q.1 l.length, q.2 + 1) := by
  have hc : q.1.getD q.2 default ∈ q.1 := getD_mem hi
  obtain ⟨h1, ⟨t, h2⟩, h3⟩ := row_ok hen h.wl hc l.length (Nat.le_refl _)
  rw [List.take_length] at h3
  refine ⟨h1, ?_, ?_⟩
  · intro j hj a ha e1 e2
    dsimp only at hj e1 ⊢
    have hjl : j < q.1.length := by omega
    have e3 : (rowK p l (q.1.getD q.2 default) q.1 l.length).getD j default = q.1.getD j default := by rw [h2, getD_appI hjl]
    rw [e3] at e1
    by_cases hj2 : j = q.2
    · subst hj2; exact h3 a ha e1 e2
    · have := h.dn j (by omega) a ha e1 e2
      rw [h2]; exact List.mem_append_left _ this
  · dsimp only; rw [h2, List.length_append]; omega

theorem Clo.fin {n : Nat} {p : Arc → Bool} {l : List Arc} {S : Int → Prop} {q : List Int × Nat} (h : Clo n p l S q) (hi : q.1.length ≤ q.2) : Wl n (arcE p l) S q.1 ∧ ∀ a, a ∈ q.1 ↔ Rch (arcE p l) S a := by
 refine ⟨h.wl, fun a => h.wl.done ?_ a⟩
 rintro a ha b ⟨e, he, rfl, rfl, hp⟩
 obtain ⟨j, hj, h2⟩ := List.mem_iff_getElem.1 ha
 exact h.dn j (by omega) e he (by rw [← h2]; simp [hj]) hp

theorem Clo.end {n : Nat} {p : Arc → Bool} {l : List Arc} {S : Int → Prop} (hen : ends n l) : ∀ (f : Nat) {q : List Int × Nat}, Clo n p l S q → n ≤ q.2 + f → Wl n (arcE p l) S (cloN p l f q.1 q.2) ∧ ∀ a, a ∈ cloN p l f q.1 q.2 ↔ Rch (arcE p l) S a
  | 0, q, h, hf => h.fin (by have := h.wl.len; omega)
  | f + 1, q, h, hf => by
    rw [cloN]
    split
    · rename_i hi
      exact Clo.end hen f (h.step hen hi) (by dsimp only; omega)
    · exact h.fin (by omega)

def cloF (x : Sgr) (hid : Int) (s : List Int) : List Int := cloN (silB hid) x.arcs x.codes.length s 0

theorem Clo.zero {n : Nat} {p : Arc → Bool} {l : List Arc} {s : List Int} (hn : s.Nodup) (hin : ∀ a ∈ s, 0 ≤ a ∧ a.toNat < n) : Clo n p l (fun a => a ∈ s) (s, 0) :=
 { wl := { inn := hin, nod := hn, snd := fun a (ha : a ∈ s) => .base ha, base := fun a ha => ha }, dn := fun j hj => absurd hj (Nat.not_lt_zero _), le := Nat.zero_le _ }

theorem clo_ok {x : Sgr} (hx : SgOk x) (hid : Int) {s : List Int} (hn : s.Nodup) (hin : ∀ a ∈ s, 0 ≤ a ∧ a.toNat < x.codes.length) :
  ((cloF x hid s).Nodup ∧ (∀ a ∈ cloF x hid s, 0 ≤ a ∧ a.toNat < x.codes.length) ∧ (cloF x hid s).length ≤ x.codes.length) ∧ ∀ a, a ∈ cloF x hid s ↔ Rch (arcE (silB hid) x.arcs) (fun a => a ∈ s) a := by
 obtain ⟨h1, h2⟩ := Clo.end hx.ends x.codes.length (Clo.zero (p := silB hid) (l := x.arcs) hn hin) (by dsimp only; omega)
 exact ⟨⟨h1.nod, h1.inn, h1.len⟩, h2⟩

structure CloI (x : Sgr) (hid : Int) (s : List Int) (q : List Int × Nat) : Prop where
 inv : Clo x.codes.length (silB hid) x.arcs (fun a => a ∈ s) q
 eq : cloN (silB hid) x.arcs (x.codes.length - q.2) q.1 q.2 = cloF x hid s

theorem CloI.zero {x : Sgr} {hid : Int} {s : List Int} (hn : s.Nodup) (hin : ∀ a ∈ s, 0 ≤ a ∧ a.toNat < x.codes.length) : CloI x hid s (s, 0) := ⟨Clo.zero hn hin, rfl⟩

theorem CloI.step {x : Sgr} {hid : Int} {s : List Int} {q : List Int × Nat} (h : CloI x hid s q) (hen : ends x.codes.length x.arcs) (hi : q.2 < q.1.length) : CloI x hid s (rowK (silB hid) x.arcs (q.1.getD q.2 default) q.1 x.arcs.length, q.2 + 1) := by
 refine ⟨h.inv.step hen hi, ?_⟩
 rw [← h.eq]
 have hl := h.inv.wl.len
 have e : x.codes.length - q.2 = (x.codes.length - (q.2 + 1)) + 1 := by omega
 dsimp only
 rw [e, cloN, if_pos hi]

theorem CloI.end {x : Sgr} {hid : Int} {s : List Int} {q : List Int × Nat} (h : CloI x hid s q) (hi : q.1.length ≤ q.2) : q.1 = cloF x hid s := by
 rw [← h.eq]
 cases x.codes.length - q.2 with
 | zero => rfl
 | succ f => rw [cloN, if_neg (by omega)]
/-! after -/

def afK (x : Sgr) (hid : Int) (s : List Int) (k : Nat) : List (List UInt8 × List Int) := (x.arcs.take k).foldl (fun M a => if hasI s a.src && !silB hid a then addM M (wrd x a) a.dst else M) []

theorem af_zero (x : Sgr) (hid : Int) (s : List Int) : afK x hid s 0 = [] := rfl

theorem af_succ {x : Sgr} {hid : Int} {s : List Int} {k : Nat} (h : k < x.arcs.length) : afK x hid s (k + 1) = if hasI s (x.arcs.getD k default).src && !silB hid (x.arcs.getD k default) then addM (afK x hid s k) (wrd x (x.arcs.getD k default)) (x.arcs.getD k default).dst else afK x hid s k := by
 have hg : x.arcs.getD k default = x.arcs[k] := by simp [h]
 unfold afK
 rw [hg, List.take_succ_eq_append_getElem h, List.foldl_append]; rfl

theorem af_yes {x : Sgr} {hid : Int} {s : List Int} {k : Nat} (h : k < x.arcs.length) (h1 : hasI s (x.arcs.getD k default).src = true) (h2 : ¬ (x.arcs.getD k default).sig = -1) (h3 : ¬ (x.arcs.getD k default).sig = hid) :
  putM (afK x hid s k) (wrd x (x.arcs.getD k default)) (getL (afK x hid s k) (wrd x (x.arcs.getD k default)) ++ [(x.arcs.getD k default).dst]) = afK x hid s (k + 1) := by
 rw [af_succ h, h1, sil_no h2 h3]; rfl

theorem af_no1 {x : Sgr} {hid : Int} {s : List Int} {k : Nat} (h : k < x.arcs.length) (h1 : hasI s (x.arcs.getD k default).src = false) : afK x hid s k = afK x hid s (k + 1) := by rw [af_succ h, h1]; rfl

theorem af_no2 {x : Sgr} {hid : Int} {s : List Int} {k : Nat} (h : k < x.arcs.length) (h2 : silB hid (x.arcs.getD k default) = true) : afK x hid s k = afK x hid s (k + 1) := by rw [af_succ h, h2, Bool.not_true, Bool.and_false]; rfl

theorem take_succ_mem {τ : Type} {l : List τ} {k : Nat} (h : k < l.length) {a : τ} [Inhabited τ] : a ∈ l.take (k + 1) ↔ a ∈ l.take k ∨ a = l.getD k default := by
 have hg : l.getD k default = l[k] := by simp [h]
 rw [hg, List.take_succ_eq_append_getElem h, List.mem_append, List.mem_singleton]

theorem af_ok (x : Sgr) (hid : Int) (s : List Int) : ∀ k, k ≤ x.arcs.length → ((afK x hid s k).map Prod.fst).Nodup ∧ (∀ p ∈ afK x hid s k, p.2 ≠ []) ∧ (∀ p ∈ afK x hid s k, p.2.length ≤ k) ∧ (afK x hid s k).length ≤ k ∧
    ∀ w d, (∃ p ∈ afK x hid s k, p.1 = w ∧ d ∈ p.2) ↔ ∃ a ∈ x.arcs.take k, hasI s a.src = true ∧ silB hid a = false ∧ wrd x a = w ∧ a.dst = d
  | 0, _ => ⟨by simp [af_zero], by simp [af_zero], by simp [af_zero], by simp [af_zero], by simp [af_zero]⟩
  | k + 1, hk => by
    obtain ⟨h1, h2, h3, h4, h5⟩ := af_ok x hid s k (by omega)
    have hk' : k < x.arcs.length := by omega
    rw [af_succ hk']
    by_cases hc : (hasI s (x.arcs.getD k default).src && !silB hid (x.arcs.getD k default)) = true
    · rw [if_pos hc]
      rw [Bool.and_eq_true, Bool.not_eq_true'] at hc
      refine ⟨putM_nodup h1, addM_ne h2, addM_lens h3, Nat.le_trans (addM_len _ _ _) (by omega), fun w d => ?_⟩
      rw [addM_mem, h5]
      constructor
      · rintro (⟨a, ha, h⟩ | ⟨rfl, rfl⟩)
        · exact ⟨a, (take_succ_mem hk').2 (.inl ha), h⟩
        · exact ⟨_, (take_succ_mem hk').2 (.inr rfl), hc.1, hc.2, rfl, rfl⟩
      · rintro ⟨a, ha, q1, q2, q3, q4⟩
        rcases (take_succ_mem hk').1 ha with ha | rfl
        · exact .inl ⟨a, ha, q1, q2, q3, q4⟩
        · exact .inr ⟨q3.symm, q4.symm⟩
    · rw [if_neg hc]
      refine ⟨h1, h2, fun p hp => Nat.le_succ_of_le (h3 p hp), Nat.le_succ_of_le h4, fun w d => ?_⟩
      rw [h5]
      constructor
      · rintro ⟨a, ha, h⟩; exact ⟨a, (take_succ_mem hk').2 (.inl ha), h⟩
      · rintro ⟨a, ha, q1, q2, q3, q4⟩
        rcases (take_succ_mem hk').1 ha with ha | rfl
        · exact ⟨a, ha, q1, q2, q3, q4⟩
        · exact absurd (by rw [q1, q2]; rfl) hc

def afL (x : Sgr) (hid : Int) (s : List Int) : List (List UInt8 × List Int) := afK x hid s x.arcs.length

theorem names_le {x : Sgr} (hx : SgOk x) : ∀ y ∈ x.sigs, y.name.length ≤ 1048576 := by
 intro y hy
 obtain ⟨j, hj, rfl⟩ := List.mem_iff_getElem.1 hy
 have := (name_ok hx hj).1
 rw [show x.sigs.getD j default = x.sigs[j] by simp [hj]] at this
 omega

theorem tidI_mem {l : List Int} {a : Int} : a ∈ tidI l ↔ a ∈ l := tid_mem linI

theorem rising_nodup {l : List Int} (h : Rising l) : l.Nodup := h.imp (fun h => by omega)

theorem tidI_nodup (l : List Int) : (tidI l).Nodup := rising_nodup (rise_int.1 (tid_rise linI l))

theorem af_sem {x : Sgr} {hid : Int} {s : List Int} (w : List UInt8) (d : Int) : (∃ p ∈ afL x hid s, p.1 = w ∧ d ∈ p.2) ↔ ∃ a ∈ x.arcs, a.src ∈ s ∧ silB hid a = false ∧ wrd x a = w ∧ a.dst = d := by
 have := (af_ok x hid s x.arcs.length (Nat.le_refl _)).2.2.2.2 w d
 rw [List.take_length] at this
 rw [show afL x hid s = afK x hid s x.arcs.length from rfl, this]
 simp only [hasI_mem]

theorem af_at {x : Sgr} (hx : SgOk x) {hid : Int} {s : List Int} {p : List UInt8 × List Int} (hp : p ∈ afL x hid s) : p.2 ≠ [] ∧ p.2.length ≤ 4000 ∧ (∀ a ∈ p.2, 0 ≤ a ∧ a.toNat < x.codes.length) ∧ WdT p.1 ∧ p.1.length ≤ 7 := by
  have h := af_ok x hid s x.arcs.length (Nat.le_refl _)
  have hf := hx.few
  have hne := h.2.1 p hp
  refine ⟨hne, Nat.le_trans (h.2.2.1 p hp) hf, fun d hd => ?_, ?_⟩
  · obtain ⟨a, ha, _, _, _, rfl⟩ := (af_sem p.1 d).1 ⟨p, hp, rfl, hd⟩
    exact (hx.ends a ha).2
  · obtain ⟨d, hd⟩ := List.exists_mem_of_ne_nil _ hne
    obtain ⟨a, ha, _, hv, hw, _⟩ := (af_sem p.1 d).1 ⟨p, hp, rfl, hd⟩
    rw [← hw]; exact wrd_ok hx ha hv

theorem af_few {x : Sgr} (hx : SgOk x) (hid : Int) (s : List Int) : (afL x hid s).length ≤ 4000 := Nat.le_trans (af_ok x hid s x.arcs.length (Nat.le_refl _)).2.2.2.1 hx.few
/-! the rounds over a level -/

def aft (x : Sgr) (hid : Int) (L : List (List UInt8 × List Int)) (i : Nat) : List (List UInt8 × List Int) := afL x hid (L.getD i default).2

def ent (x : Sgr) (hid : Int) (L : List (List UInt8 × List Int)) (i j : Nat) : List UInt8 × List Int := ((L.getD i default).1 ++ ((aft x hid L i).getD j default).1, cloF x hid (tidI ((aft x hid L i).getD j default).2))

structure NOK (x : Sgr) (hid : Int) (L : List (List UInt8 × List Int)) (Q : Nat → Nat → Prop) (N : List (List UInt8 × List Int)) : Prop where
 nod : (N.map Prod.fst).Nodup
 mem : ∀ p, p ∈ N ↔ ∃ i j, Q i j ∧ i < L.length ∧ j < (aft x hid L i).length ∧ p = ent x hid L i j

theorem nodup_getD {M : List (List UInt8 × List Int)} (h : (M.map Prod.fst).Nodup) {i j : Nat} (hi : i < M.length) (hj : j < M.length) (e : (M.getD i default).1 = (M.getD j default).1) : i = j := by
  have e1 : (M.map Prod.fst)[i]'(by simpa using hi) = (M.map Prod.fst)[j]'(by simpa using hj) := by
    simp only [List.getElem_map]
    simpa [hi, hj] using e
  rcases Nat.lt_trichotomy i j with h1 | h1 | h1
  · exact absurd e1 (List.pairwise_iff_getElem.1 h i j _ _ h1)
  · exact h1
  · exact absurd e1.symm (List.pairwise_iff_getElem.1 h j i _ _ h1)

theorem NOK.put {x : Sgr} (hx : SgOk x) {hid : Int} {k : Nat} {L : List (List UInt8 × List Int)} (hL : LOK x hid k L) {Q : Nat → Nat → Prop} {N : List (List UInt8 × List Int)} (h : NOK x hid L Q N) {i j : Nat} (hi : i < L.length) (hj : j < (aft x hid L i).length) (hq : ¬ Q i j) :
    NOK x hid L (fun a b => Q a b ∨ (a = i ∧ b = j)) (putM N (ent x hid L i j).1 (ent x hid L i j).2) := by
  have hLi : L.getD i default ∈ L := getD_mem hi
  have hAj : (aft x hid L i).getD j default ∈ aft x hid L i := getD_mem hj
  have hnew : ∀ p ∈ N, p.1 ≠ (ent x hid L i j).1 := by
    intro p hp e
    obtain ⟨i', j', hq', hi', hj', rfl⟩ := (h.mem p).1 hp
    have hLi' : L.getD i' default ∈ L := getD_mem hi'
    have hAj' : (aft x hid L i').getD j' default ∈ aft x hid L i' := getD_mem hj'
    obtain ⟨e1, e2⟩ := uniq (hL.text hx hLi').1 (hL.text hx hLi).1 (af_at hx hAj').2.2.2.1 (af_at hx hAj).2.2.2.1 e
    obtain rfl : i' = i := nodup_getD hL.nod hi' hi e1
    obtain rfl : j' = j := nodup_getD (af_ok x hid _ _ (Nat.le_refl _)).1 hj' hj e2
    exact hq hq'
  refine ⟨putM_nodup h.nod, fun p => ?_⟩
  rw [putM_new _ hnew, List.mem_append, List.mem_singleton, h.mem]
  constructor
  · rintro (⟨a, b, hq, h⟩ | rfl)
    · exact ⟨a, b, .inl hq, h⟩
    · exact ⟨i, j, .inr ⟨rfl, rfl⟩, hi, hj, rfl⟩
  · rintro ⟨a, b, hq | ⟨rfl, rfl⟩, h1, h2, h3⟩
    · exact .inl ⟨a, b, hq, h1, h2, h3⟩
    · exact .inr h3

theorem NOK.congr {x : Sgr} {hid : Int} {L : List (List UInt8 × List Int)} {Q Q' : Nat → Nat → Prop} {N : List (List UInt8 × List Int)} (h : NOK x hid L Q N) (e : ∀ a b, a < L.length → b < (aft x hid L a).length → (Q a b ↔ Q' a b)) : NOK x hid L Q' N :=
  ⟨h.nod, fun p => by
    rw [h.mem]
    constructor
    · rintro ⟨a, b, q, h1, h2, h3⟩; exact ⟨a, b, (e a b h1 h2).1 q, h1, h2, h3⟩
    · rintro ⟨a, b, q, h1, h2, h3⟩; exact ⟨a, b, (e a b h1 h2).2 q, h1, h2, h3⟩⟩

theorem ent_ok {x : Sgr} (hx : SgOk x) (hid : Int) (L : List (List UInt8 × List Int)) {i j : Nat} (hj : j < (aft x hid L i).length) :
  ((ent x hid L i j).2.Nodup ∧ (∀ a ∈ (ent x hid L i j).2, 0 ≤ a ∧ a.toNat < x.codes.length) ∧ (ent x hid L i j).2.length ≤ x.codes.length) ∧ ∀ a, a ∈ (ent x hid L i j).2 ↔ Rch (arcE (silB hid) x.arcs) (fun a => a ∈ ((aft x hid L i).getD j default).2) a := by
 have h := af_at hx (getD_mem hj : (aft x hid L i).getD j default ∈ afL x hid (L.getD i default).2)
 have h2 := clo_ok hx hid (tidI_nodup ((aft x hid L i).getD j default).2) (fun a ha => h.2.2.1 a (tidI_mem.1 ha))
 refine ⟨h2.1, fun a => (h2.2 a).trans ?_⟩
 exact ⟨fun h => h.mono (fun _ _ h => h) (fun a ha => tidI_mem.1 ha), fun h => h.mono (fun _ _ h => h) (fun a ha => tidI_mem.2 ha)⟩

theorem NOK.level {x : Sgr} (hx : SgOk x) {hid : Int} {k : Nat} {L : List (List UInt8 × List Int)} (hL : LOK x hid k L) {N : List (List UInt8 × List Int)} (h : NOK x hid L (fun _ _ => True) N) : LOK x hid (k + 1) N := by
  refine ⟨h.nod, fun p hp => ?_, fun p hp => ?_, fun u s => ?_⟩
  · obtain ⟨i, j, _, hi, hj, rfl⟩ := (h.mem p).1 hp
    obtain ⟨d, hd⟩ := List.exists_mem_of_ne_nil _ (af_at hx (getD_mem hj : (aft x hid L i).getD j default ∈ afL x hid (L.getD i default).2)).1
    exact List.ne_nil_of_mem (((ent_ok hx hid L hj).2 d).2 (.base hd))
  · obtain ⟨i, j, _, hi, hj, rfl⟩ := (h.mem p).1 hp
    exact ⟨(ent_ok hx hid L hj).1.1, (ent_ok hx hid L hj).1.2.1⟩
  · constructor
    · rintro ⟨p, hp, rfl, hs⟩
      obtain ⟨i, j, _, hi, hj, rfl⟩ := (h.mem p).1 hp
      refine (((ent_ok hx hid L hj).2 s).1 hs).mono (fun _ _ h => h) fun b hb => ?_
      obtain ⟨a, ha, h1, h2, h3, h4⟩ := (af_sem (x := x) (hid := hid) (s := (L.getD i default).2) _ b).1 ⟨_, getD_mem hj, rfl, hb⟩
      exact ⟨(L.getD i default).1, a, ha, h2, (hL.iff _ _).1 ⟨_, getD_mem hi, rfl, h1⟩, by rw [h3]; rfl, h4⟩
    · intro hs
      refine Rch.ind (fun s => ∃ p ∈ N, p.1 = u ∧ s ∈ p.2) ?_ ?_ hs
      · rintro b ⟨v, a, ha, h1, h2, rfl, rfl⟩
        obtain ⟨q, hq, rfl, hq2⟩ := (hL.iff _ _).2 h2
        obtain ⟨i, hi, rfl⟩ := List.mem_iff_getElem.1 hq
        have hgi : L.getD i default = L[i] := by simp [hi]
        obtain ⟨r, hr, hr1, hr2⟩ : ∃ r ∈ aft x hid L i, r.1 = wrd x a ∧ a.dst ∈ r.2 := (af_sem (x := x) (hid := hid) (s := (L.getD i default).2) (wrd x a) a.dst).2 ⟨a, ha, by rw [hgi]; exact hq2, h1, rfl, rfl⟩
        obtain ⟨j, hj, rfl⟩ := List.mem_iff_getElem.1 hr
        have hgj : (aft x hid L i).getD j default = (aft x hid L i)[j]'hj := by rw [List.getD_eq_getElem?_getD, List.getElem?_eq_getElem hj]; rfl
        refine ⟨ent x hid L i j, (h.mem _).2 ⟨i, j, trivial, hi, hj, rfl⟩, ?_, ?_⟩
        · show (L.getD i default).1 ++ ((aft x hid L i).getD j default).1 = _
          rw [hgi, hgj]; exact congrArg (_ ++ ·) hr1
        · exact ((ent_ok hx hid L hj).2 _).2 (.base (by rw [hgj]; exact hr2))
      · rintro a b ⟨p, hp, rfl, ha⟩ he
        obtain ⟨i, j, _, hi, hj, rfl⟩ := (h.mem p).1 hp
        exact ⟨_, hp, rfl, ((ent_ok hx hid L hj).2 _).2 (.step (((ent_ok hx hid L hj).2 _).1 ha) he)⟩

@[reducible] def LvT : Type := List (List UInt8 × List Int)
structure R1 (x : Sgr) (hid : Int) (L : LvT) (r : List Nat × Option Nat × LvT) : Prop where
 inn : ∀ i ∈ r.1, i < L.length
 len : r.1.length ≤ L.length
 nok : NOK x hid L (fun a _ => a ∉ r.1) r.2.2
 few : r.2.2.length ≤ (L.length - r.1.length) * 4000

structure R2 (x : Sgr) (hid : Int) (L : LvT) (r : List Nat × Option Nat × LvT) (c : Nat) (s : List Nat × Option Nat × List D × LvT) : Prop where
 inn : ∀ i ∈ s.1, i < (aft x hid L c).length
 len : s.1.length ≤ (aft x hid L c).length
 has : ∀ i ∈ s.1, s.2.2.1[i]? = some (intsU ((aft x hid L c).getD i default).2)
 nok : NOK x hid L (fun a b => a ∉ r.1 ∨ (a = c ∧ b ∉ s.1)) s.2.2.2
 few : s.2.2.2.length ≤ (L.length - r.1.length) * 4000 + ((aft x hid L c).length - s.1.length)

theorem R1.zero (x : Sgr) (hid : Int) (L : LvT) : R1 x hid L (List.range L.length, none, []) :=
 ⟨fun i hi => List.mem_range.1 hi, by simp, ⟨by simp, fun p => ⟨fun h => by simp at h, fun ⟨i, j, hq, hi, _⟩ => absurd (List.mem_range.2 hi) hq⟩⟩, by simp⟩

theorem R2.zero {x : Sgr} {hid : Int} {L : LvT} {r : List Nat × Option Nat × LvT} (h : R1 x hid L r) {c : Nat} (hc : c ∈ r.1) : R2 x hid L r c (List.range (aft x hid L c).length, none, mpU (aft x hid L c), r.2.2) := by
  refine ⟨fun i hi => List.mem_range.1 hi, by simp, fun i hi => mpU_get (List.mem_range.1 hi), h.nok.congr fun a b ha hb => ?_, by simpa using h.few⟩
  constructor
  · exact .inl
  · rintro (h | ⟨rfl, h2⟩)
    · exact h
    · exact absurd (List.mem_range.2 hb) h2

theorem R2.step {x : Sgr} (hx : SgOk x) {hid : Int} {k : Nat} {L : LvT} (hL : LOK x hid k L) {r : List Nat × Option Nat × LvT} (h1 : R1 x hid L r) {c : Nat} (hc : c ∈ r.1) {s : List Nat × Option Nat × List D × LvT} (h : R2 x hid L r c s) {j : Nat} (hj : j ∈ s.1) {q : Option Nat} :
    R2 x hid L r c (lessJ s.1 j, q, s.2.2.1.set j .any, putM s.2.2.2 (ent x hid L c j).1 (ent x hid L c j).2) := by
  have hjl := h.inn j hj
  have hlt := lessJ_lt hj
  refine ⟨fun i hi => h.inn i (mem_lessJ.1 hi).1, by have := h.len; dsimp only; omega, fun i hi => ?_, ?_, ?_⟩
  · obtain ⟨h2, h3⟩ := mem_lessJ.1 hi
    dsimp only
    rw [List.getElem?_set_ne (Ne.symm h3)]
    exact h.has i h2
  · refine (NOK.put hx hL h.nok (h1.inn c hc) hjl ?_).congr fun a b ha hb => ?_
    · rintro (h2 | ⟨_, h2⟩)
      · exact h2 hc
      · exact h2 hj
    · dsimp only
      constructor
      · rintro ((h2 | ⟨rfl, h2⟩) | ⟨rfl, rfl⟩)
        · exact .inl h2
        · exact .inr ⟨rfl, fun h3 => h2 (mem_lessJ.1 h3).1⟩
        · exact .inr ⟨rfl, fun h3 => (mem_lessJ.1 h3).2 rfl⟩
      · rintro (h2 | ⟨rfl, h2⟩)
        · exact .inl (.inl h2)
        · by_cases e : b = j
          · exact .inr ⟨rfl, e⟩
          · exact .inl (.inr ⟨rfl, fun h3 => h2 (mem_lessJ.2 ⟨h3, e⟩)⟩)
  · have h2 := putM_len s.2.2.2 (ent x hid L c j).1 (ent x hid L c j).2
    have h3 := h.few
    have h4 := h.len
    dsimp only
    omega

theorem R1.step {x : Sgr} (hx : SgOk x) {hid : Int} {L : LvT} {r : List Nat × Option Nat × LvT} (h : R1 x hid L r) {c : Nat} (hc : c ∈ r.1) {s : List Nat × Option Nat × List D × LvT} (h2 : R2 x hid L r c s) (he : s.1 = []) {q : Option Nat} : R1 x hid L (lessJ r.1 c, q, s.2.2.2) := by
  have hlt := lessJ_lt hc
  refine ⟨fun i hi => h.inn i (mem_lessJ.1 hi).1, by have := h.len; dsimp only; omega, h2.nok.congr fun a b ha hb => ?_, ?_⟩
  · dsimp only
    rw [he]
    constructor
    · rintro (h3 | ⟨rfl, _⟩)
      · exact fun h4 => h3 (mem_lessJ.1 h4).1
      · exact fun h4 => (mem_lessJ.1 h4).2 rfl
    · intro h3
      by_cases e : a = c
      · exact .inr ⟨e, List.not_mem_nil⟩
      · exact .inl fun h4 => h3 (mem_lessJ.2 ⟨h4, e⟩)
  · have h3 := h2.few
    have h4 := af_few hx hid (L.getD c default).2
    have h5 := h.len
    have h6 : (aft x hid L c).length ≤ 4000 := h4
    have h7 : L.length - r.1.length + 1 ≤ L.length - (lessJ r.1 c).length := by clear h3 h4 h6; omega
    have h8 := Nat.mul_le_mul_right 4000 h7
    rw [Nat.succ_mul] at h8
    exact Nat.le_trans h3 (Nat.le_trans (Nat.add_le_add_left (Nat.le_trans (Nat.sub_le _ _) h6) _) h8)

theorem R1.end {x : Sgr} (hx : SgOk x) {hid : Int} {k : Nat} {L : LvT} (hL : LOK x hid k L) {r : List Nat × Option Nat × LvT} (h : R1 x hid L r) (he : r.1 = []) : LOK x hid (k + 1) r.2.2 :=
 (h.nok.congr (Q' := fun _ _ => True) fun a b _ _ => ⟨fun _ => trivial, fun _ => by rw [he]; exact List.not_mem_nil⟩).level hx hL
/-! the texts of a level -/

structure R3 (N : LvT) (o0 : List (List UInt8)) (t : List Nat × Option Nat × List (List UInt8)) : Prop where
 inn : ∀ i ∈ t.1, i < N.length
 nod : t.1.Nodup
 perm : (t.2.2 ++ t.1.map fun i => (N.getD i default).1).Perm (o0 ++ N.map Prod.fst)

theorem map_range {N : LvT} : (List.range N.length).map (fun i => (N.getD i default).1) = N.map Prod.fst := by
  apply List.ext_getElem
  · simp
  · intro i h1 h2
    simp at h1
    simp [h1]

theorem R3.zero (N : LvT) (o0 : List (List UInt8)) : R3 N o0 (List.range N.length, none, o0) := ⟨fun i hi => List.mem_range.1 hi, List.nodup_range, by dsimp only; rw [map_range]⟩

theorem lessJ_erase {l : List Nat} (h : l.Nodup) (j : Nat) : lessJ l j = l.erase j := by
 rw [List.Nodup.erase_eq_filter h]
 unfold lessJ
 congr 1

theorem R3.step {N : LvT} {o0 : List (List UInt8)} {t : List Nat × Option Nat × List (List UInt8)} (h : R3 N o0 t) {j : Nat} (hj : j ∈ t.1) {q : Option Nat} : R3 N o0 (lessJ t.1 j, q, t.2.2 ++ [(N.getD j default).1]) := by
 refine ⟨fun i hi => h.inn i (mem_lessJ.1 hi).1, h.nod.filter _, ?_⟩
 dsimp only
 refine List.Perm.trans ?_ h.perm
 rw [List.append_assoc]
 refine List.Perm.append_left _ ?_
 rw [lessJ_erase h.nod]
 show ((j :: t.1.erase j).map fun i => (N.getD i default).1).Perm _
 exact ((List.perm_cons_erase hj).map _).symm

theorem R3.end {N : LvT} {o0 : List (List UInt8)} {t : List Nat × Option Nat × List (List UInt8)} (h : R3 N o0 t) (he : t.1 = []) : t.2.2.Perm (o0 ++ N.map Prod.fst) := by
 have := h.perm
 rw [he] at this
 simpa using this

theorem R3.len {N : LvT} {o0 : List (List UInt8)} {t : List Nat × Option Nat × List (List UInt8)} (h : R3 N o0 t) : t.2.2.length ≤ o0.length + N.length := by
 have := h.perm.length_eq
 simp at this
 omega

theorem sp_impl_edgeText (sg : List Sgn) (l : Lab) (hn : sg.length ≤ 1048576) (hs : l.sig.toNat < sg.length) (hw : ∀ y ∈ sg, y.name.length ≤ 1048576) : Sp Tryz.prog 55 [(.slice false 2 (sg.map Sgn.d)), (.agg [(.int .i64 l.sig), (.bool (l.up))])] [.any, .any] (.str (wrdE sg l)) := by
 refine Sp_intro (lend := true) Tryz.func55 rfl rfl rfl (fun _ => rfl) (fun c hc hX => ?_)
 refine Ts hc (Ch.s (.ptr 3000 0) (.box 3000 _ _ rfl (.aggD _)) (Ch.s (dS []) pa (Ch.nil (Tq (Tb (Tq ?_))))))
 refine Tz hc (Ch.s (.ptr 3000 0) (fP fld82_0 rfl) (Ch.s (dI l.sig) (lP ag3 rfl rfl rfl) (Ch.s (dB (decide (l.sig < 0))) (iX rfl rfl rfl) (Ch.s (dB (decide (l.sig < 0))) pa (Ch.nil ?_)))))
 refine T_condD (p := (l.sig < 0)) rfl (fun h1 => ?_) (fun h1 => ?_)
 ·
  try have hwk := hw _ (getD_mem (l := sg) (j := l.sig.toNat) (d := default) (by omega))
  refine Ts hc (Ch.s (dS [126]) pa (Ch.nil (T_ret ?_)))
  exact eR [(dS [126])] [] [] (.cons (.tmp 4 rfl) .nil) eB (Exp.of (congrArg D.str a22) (.d _))
 ·
  try have hwk := hw _ (getD_mem (l := sg) (j := l.sig.toNat) (d := default) (by omega))
  refine Ts hc (Ch.s (.ptr 3000 1) (fP fld82_1 rfl) (Ch.s (dB (l.up)) (lP ag4 rfl rfl rfl) (Ch.s (dB (l.up)) pa (Ch.nil ?_))))
  refine T_cond (b := (l.up)) rfl (fun h2 => ?_) (fun h2 => ?_)
  ·
   refine Ts hc (Ch.s (.d (.slice false 2 (sg.map Sgn.d))) pm (Ch.s (.ptr 3000 0) (fP fld82_0 rfl) (Ch.s (dI l.sig) (lP ag3 rfl rfl rfl) (Ch.s (.d (.ref (.agg [(.str ((sg.getD ((l.sig).toNat) default).name)), (.int .i64 ((sg.getD ((l.sig).toNat) default).kind))]))) (.pure (.idx _ _ _ 76 ((l.sig).toNat) rfl Tryz.underlying30 sz76 rfl rfl (by omega) get_mapA)) (Ch.s (.d (.ref (.str ((sg.getD ((l.sig).toNat) default).name)))) (.pure (.fldRef _ _ _ rfl fld76_0 rfl rfl rfl)) (Ch.s (dS ((sg.getD ((l.sig).toNat) default).name)) (rF ag9 rfl rfl) ?_))))))
   refine Ch.s (dS (((sg.getD ((l.sig).toNat) default).name) ++ [43])) (.pure (.str _ _ _ _ _ rfl rfl rfl (strV_add a24))) (Ch.s (dS (((sg.getD ((l.sig).toNat) default).name) ++ [43])) pa (Ch.nil (T_ret ?_)))
   exact eR [(dS (((sg.getD ((l.sig).toNat) default).name) ++ [43]))] [] [] (.cons (.tmp 4 rfl) .nil) eB (Exp.of (congrArg D.str a22) (.d _))
  ·
   refine Tk (Ts hc (Ch.s (.d (.slice false 2 (sg.map Sgn.d))) pm (Ch.s (.ptr 3000 0) (fP fld82_0 rfl) (Ch.s (dI l.sig) (lP ag3 rfl rfl rfl) (Ch.s (.d (.ref (.agg [(.str ((sg.getD ((l.sig).toNat) default).name)), (.int .i64 ((sg.getD ((l.sig).toNat) default).kind))]))) (.pure (.idx _ _ _ 76 ((l.sig).toNat) rfl Tryz.underlying30 sz76 rfl rfl (by omega) get_mapA)) (Ch.s (.d (.ref (.str ((sg.getD ((l.sig).toNat) default).name)))) (.pure (.fldRef _ _ _ rfl fld76_0 rfl rfl rfl)) ?_))))))
   refine Ch.s (dS ((sg.getD ((l.sig).toNat) default).name)) (rF ag9 rfl rfl) (Ch.s (dS (((sg.getD ((l.sig).toNat) default).name) ++ [45])) (.pure (.str _ _ _ _ _ rfl rfl rfl (strV_add a24))) (Ch.s (dS (((sg.getD ((l.sig).toNat) default).name) ++ [45])) pa (Ch.nil (T_ret ?_))))
   exact eR [(dS (((sg.getD ((l.sig).toNat) default).name) ++ [45]))] [] [] (.cons (.tmp 4 rfl) .nil) eB (Exp.of (congrArg D.str a22) (.d _))

theorem sp_Clone_int (xs : List Int) (hn : xs.length ≤ 1048576) : Sp Tryz.prog 54 [(.slice false 1 (xs.map (fun n : Int => D.int .i64 n)))] [.any] (.slice true 1 (xs.map (fun n : Int => D.int .i64 n))) := by
 refine Sp_intro (lend := true) Tryz.func54 rfl rfl rfl (fun _ => rfl) (fun c hc hX => ?_)
 refine Ts hc (Ch.s (.c (.slice none 0 0)) pa (Ch.nil (Tq (Ts hc (Ch.s (.d (.slice false 1 (xs.map (fun n : Int => D.int .i64 n)))) pm ?_)))))
 refine Ch.nilq (sz := 1) (xs := (xs.map (fun n : Int => D.int .i64 n))) _ _ _ _ 3 rfl rfl Tryz.underlying44 (.sh _ _) rfl rfl (fun q1 hzq1 => ?_)
 refine Ch.nil ?_
 refine T_cond (b := (q1)) rfl (fun h1 => ?_) (fun h1 => ?_)
 ·
  try have hz := hzq1 h1
  refine Ts hc (Ch.s (.c (.slice none 0 0)) pa (Ch.nil (T_ret ?_)))
  exact eR [(.c (.slice none 0 0))] [] [] (.cons (.tmp 2 rfl) .nil) eA (Exp.of (congrArg (D.slice true 1) (by first | rfl | (rw [hz]; done))) (.nil true 1))
 ·
  try have hz := hzq1 h1
  refine Tk (Ts hc (Ch.s (.row 5000) (.slice 5000 _ 3 _ rfl sty44 (xs := []) rfl rfl .nil rfl rfl (by decide)) (Ch.s (.d (.slice false 1 (xs.map (fun n : Int => D.int .i64 n)))) pm ?_)))
  refine Ch.step (v := (.row 7000)) rfl (.append 7000 _ _ _ 3 rfl sty44 (by decide) (.rowK rfl) (.inr ⟨_, rfl, rfl⟩) (.sh _ _) rfl a33) rfl rfl ?_
  refine Ch.s (.row 7000) pa (Ch.nil (T_ret ?_))
  exact eR [(.row 7000)] [] [7000] (.cons (.tmp 2 rfl) .nil) eA (.row rfl)

set_option maxHeartbeats 1000000 in
theorem sp_impl_closed (x : Sgr) (s : List Int) (hid : Int) (hb : x.bulk ≤ 1048576) (hx : SgOk x) (hn : s.Nodup) (hin : ∀ a ∈ s, 0 ≤ a ∧ a.toNat < x.codes.length) : Sp Tryz.prog 26 [(.agg [(.slice false 2 (x.sigs.map Sgn.d)), (.slice false 1 (x.codes.map D.str)), (.slice false 4 (x.arcs.map Arc.d))]), (.slice false 1 (s.map (fun n : Int => D.int .i64 n))), (.int .i64 hid)] [.any, .any, .any] (.slice true 1 ((cloF x hid s).map (fun n : Int => D.int .i64 n))) := by
 refine Sp_intro (lend := true) Tryz.func26 rfl rfl rfl (fun _ => rfl) (fun c hc hX => ?_)
 obtain ⟨hp0, hp1, hp2⟩ := Sgr.parts hb
 have hn0 := bulkF_len hp0
 have hn1 := bulk_len hp1
 have hx1 := bulk_mem hp1
 have hn2 := bulkF_len hp2; have hxl := hx.len; have hxf := hx.few; have hen := hx.ends; have hx8 := hx.eight; have hsl := nodup_len hn hin
 refine Ts hc (Ch.s (.ptr 3000 0) (.box 3000 _ _ rfl (.aggD _)) (Ch.s (.c (.slice none 0 0)) pa (Ch.nil (Ts hc (Ch.s (.d (.slice false 1 (s.map (fun n : Int => D.int .i64 n)))) pm ?_)))))
 refine Ch.step (v := (.row 12000)) rfl (.call 12000 54 _ _ _ en54 rfl (.inl rfl) (.cons (.d _) .nil) rfl (sol (solid_row (fun _ => rfl) _) rfl) (sp_Clone_int s a16) (.skip _ _ .nil) rfl) rfl rfl ?_
 refine Ch.s (.row 12000) pa (Ch.nil (Tq (Ts hc (Ch.s (dI 0) pa (Ch.nil (Tb ?_))))))
 refine T_loop (ι := List Int × Nat) (fun q => { n := 58, sl := [(2, (dI hid)), (3, (.ptr 3000 0)), (7, (.row 7)), (8, (dI (q.2 : Int)))], hp := [(7, (some (.row 1 (q.1.map (fun n : Int => D.int .i64 n))))), (3000, (some (.box (vX x))))], pin := [] }) (fun q => CloI x hid s q) (fun q => x.codes.length - q.2) ⟨(s, 0), (CloI.zero hn hin), (Wk.ren [(7, 12000)] rfl rfl rfl rfl (ar (ar (ar (ai (vI a67) trivial)))) (ai (oR a66) (ar trivial)))⟩ (fun q hp0 => ?_)
 have hol := hp0.inv.wl.len; have hql := hp0.inv.le
 refine Tq (Ts hc (Ch.s (dI (q.2 : Int)) pm (Ch.s (.row 7) pm (Ch.s (dI (q.1.length : Int)) (.pure (.len _ _ 3 rfl Tryz.underlying44 (.row rfl) (by simp))) (Ch.s (dB (decide ((q.2 : Int) < (q.1.length : Int)))) (iX rfl rfl rfl) (Ch.nil ?_))))))
 refine T_condD (p := ((q.2 : Int) < (q.1.length : Int))) rfl (fun h1 => ?_) (fun h1 => ?_)
 ·
  refine Tk (Tq (Tb (Ts hc (Ch.s (.ptr 3000 2) (fP fld33_2 rfl) (Ch.s (.d (.slice false 4 (x.arcs.map Arc.d))) (lP ag31 rfl rfl rfl) (Ch.s (dI (x.arcs.length : Int)) (.pure (.len _ _ 70 rfl Tryz.underlying31 (.sh _ _) (by simp))) ?_))))))
  refine Ch.s (dI 0) pm (Ch.nil (Tb ?_))
  refine T_loop (ι := Nat) (fun k => { n := 58, sl := [(2, (dI hid)), (3, (.ptr 3000 0)), (7, (.row 7)), (8, (dI (q.2 : Int))), (20, (.d (.slice false 4 (x.arcs.map Arc.d)))), (21, (dI (x.arcs.length : Int))), (22, (dI (k : Int)))], hp := [(7, (some (.row 1 ((rowK (silB hid) x.arcs (q.1.getD q.2 default) q.1 k).map (fun n : Int => D.int .i64 n))))), (3000, (some (.box (vX x))))], pin := [] }) (fun k => k ≤ x.arcs.length) (fun k => x.arcs.length - k) ⟨0, (by omega), (Wk.of rfl rfl (ar (ar (ar (ar (ar (ar (ai (vI a67) trivial))))))) (ai (oR a6) (ar trivial)))⟩ (fun k hp1 => ?_)
  obtain ⟨hw1, ⟨hwr, hwe⟩, hw3⟩ := row_ok hen hp0.inv.wl (getD_mem (l := q.1) (j := q.2) (d := default) (by omega)) k hp1; have hwl := hw1.len; have hvs : q.2 < (rowK (silB hid) x.arcs (q.1.getD q.2 default) q.1 k).length := (by rw [hwe, List.length_append]; omega); have hvc : (rowK (silB hid) x.arcs (q.1.getD q.2 default) q.1 k).getD q.2 default = q.1.getD q.2 default := (by rw [hwe, getD_appI (by omega)])
  refine Ts hc (Ch.s (dB (decide ((k : Int) < (x.arcs.length : Int)))) (iX rfl rfl rfl) (Ch.nil (Tq ?_)))
  refine T_condD (p := ((k : Int) < (x.arcs.length : Int))) rfl (fun h2 => ?_) (fun h2 => ?_)
  ·
   refine Tk (Tq (Tb (Ts hc (Ch.s (.d (.ref (.agg [(.int .i64 ((x.arcs.getD k default).src)), (.int .i64 ((x.arcs.getD k default).sig)), (.bool ((x.arcs.getD k default).up)), (.int .i64 ((x.arcs.getD k default).dst))]))) (.pure (.idx _ _ _ 70 (k) rfl Tryz.underlying31 sz70 rfl rfl rfl get_mapA)) (Ch.s (.d (.agg [(.int .i64 ((x.arcs.getD k default).src)), (.int .i64 ((x.arcs.getD k default).sig)), (.bool ((x.arcs.getD k default).up)), (.int .i64 ((x.arcs.getD k default).dst))])) (.pure (.loadRefA _ _ rfl ag70 sz70 rfl)) (Ch.s (.ptr 10000 0) (.alloc 10000 _ rfl zer70) ?_))))))
   refine Ch.s .junk (.storePtr _ _ _ rfl rfl rfl (.aggD _) sz70 (lb rfl)) (Ch.nil (Tq ?_))
   refine T_regionD hc (by kernel_rfl) ?_
   refine ChD.s (.ptr 10000 0) [] (fP fld70_0 rfl) (ChD.s (dI ((x.arcs.getD k default).src)) [10000] (lP ag3 rfl rfl rfl) (ChD.s (.row 7) [] pm (ChD.s (dI (q.2 : Int)) [] pm (ChD.s (.el 7 1 q.2 0) [7] (.pure (.idxRow _ _ _ 3 (q.2) rfl Tryz.underlying44 sz3 rfl rfl rfl rfl a52)) (ChD.s (dI ((rowK (silB hid) x.arcs (q.1.getD q.2 default) q.1 k).getD q.2 default)) [7] (.pure (.loadEl1 _ _ rfl ag3 rfl rfl get_mapA rfl rfl rfl)) (ChD.s (dB (decide (((x.arcs.getD k default).src) = ((rowK (silB hid) x.arcs (q.1.getD q.2 default) q.1 k).getD q.2 default)))) [] (iX rfl rfl rfl) (ChD.s (dB (decide (((x.arcs.getD k default).src) = ((rowK (silB hid) x.arcs (q.1.getD q.2 default) q.1 k).getD q.2 default)))) [] pm ?_)))))))
   cases h3 : (decide (((x.arcs.getD k default).src) = ((rowK (silB hid) x.arcs (q.1.getD q.2 default) q.1 k).getD q.2 default))) with
   | true =>
    replace h3 := odt h3
    refine ChD.s (.ptr 10000 1) [] (fP fld70_1 rfl) (ChD.s (dI ((x.arcs.getD k default).sig)) [10000] (lP ag3 rfl rfl rfl) (ChD.s (dB (decide (((x.arcs.getD k default).sig) = (-1)))) [] (iX rfl rfl rfl) (ChD.s (dB (decide (((x.arcs.getD k default).sig) = (-1)))) [] pm ?_)))
    cases h4 : (decide (((x.arcs.getD k default).sig) = (-1))) with
    | true =>
     replace h4 := odt h4
     refine ChD.skip rfl rfl (ChD.skip rfl rfl (ChD.skip rfl rfl (ChD.skip rfl rfl (ChD.s (dB true) [] (pT rfl) (ChD.s (dB true) [] (pT rfl) (ChD.s (dB true) [] pm (ChD.s (.row 7) [] pm ?_)))))))
     refine ChD.s (.ptr 10000 3) [] (fP fld70_3 rfl) (ChD.s (dI ((x.arcs.getD k default).dst)) [10000] (lP ag3 rfl rfl rfl) (ChD.s (dB (hasI (rowK (silB hid) x.arcs (q.1.getD q.2 default) q.1 k) ((x.arcs.getD k default).dst))) [7] (.call 48000 51 _ _ _ en51 rfl (.inl rfl) (.cons (.lend (.row rfl (frozs_map (fun _ => rfl) _))) (.cons (.d _) .nil)) rfl rfl (sp_Contains_int (rowK (silB hid) x.arcs (q.1.getD q.2 default) q.1 k) ((x.arcs.getD k default).dst) a21) (.skip _ _ (.skip _ _ .nil)) rfl) (ChD.s (dB (!(hasI (rowK (silB hid) x.arcs (q.1.getD q.2 default) q.1 k) ((x.arcs.getD k default).dst)))) [] (nT rfl) (ChD.s (dB (!(hasI (rowK (silB hid) x.arcs (q.1.getD q.2 default) q.1 k) ((x.arcs.getD k default).dst)))) [] (pT rfl) ?_))))
     refine ChD.nil (And.intro ?_ (by kernel_rfl))
     refine T_condN (b := (hasI (rowK (silB hid) x.arcs (q.1.getD q.2 default) q.1 k) ((x.arcs.getD k default).dst))) rfl (fun h5 => ?_) (fun h5 => ?_)
     ·
      refine Tz hc (Ch.s (.row 7) pm (Ch.s (.ptr 10000 3) (fP fld70_3 rfl) (Ch.s (dI ((x.arcs.getD k default).dst)) (lP ag3 rfl rfl rfl) (Ch.s (.row 54000) (.slice 54000 _ 3 _ rfl sty44 (xs := [.tmp 53]) rfl rfl (.cons (.d _) .nil) rfl rfl (by decide)) ?_))))
      refine Ch.step (v := (.row 55000)) rfl (.append 55000 _ _ _ 3 rfl sty44 (by decide) (.rowK rfl) (.inr ⟨_, rfl, rfl⟩) (.row rfl rfl) rfl a33) rfl rfl ?_
      refine Ch.s (.row 55000) pa (Ch.nil (Tz hc (Ch.s (dI ((k : Int) + 1)) (iX rfl rfl intV_addA) (Ch.s (dI ((k : Int) + 1)) pm (Ch.nil ?_)))))
      exact nx (k + 1) (by omega) (Wk.ren [(7, 55000)] rfl rfl rfl rfl (ar (ar (ar (ar (ar (ar (ai (vI a67) trivial))))))) (ai (oR a6) (ar trivial)))
     ·
      refine Tk (Tz hc (Ch.s (dI ((k : Int) + 1)) (iX rfl rfl intV_addA) (Ch.s (dI ((k : Int) + 1)) pm (Ch.nil ?_))))
      exact nx (k + 1) (by omega) (Wk.of rfl rfl (ar (ar (ar (ar (ar (ar (ai (vI a67) trivial))))))) (ai (oR a6) (ar trivial)))
    | false =>
     replace h4 := odf h4
     refine ChD.s (.ptr 10000 1) [] (fP fld70_1 rfl) (ChD.s (dI ((x.arcs.getD k default).sig)) [10000] (lP ag3 rfl rfl rfl) (ChD.s (dI hid) [] pm (ChD.s (dB (decide (((x.arcs.getD k default).sig) = hid))) [] (iX rfl rfl rfl) (ChD.s (dB (decide (((x.arcs.getD k default).sig) = hid))) [] (pF rfl) (ChD.s (dB (decide (((x.arcs.getD k default).sig) = hid))) [] (pT rfl) (ChD.s (dB (decide (((x.arcs.getD k default).sig) = hid))) [] pm ?_))))))
     cases h6 : (decide (((x.arcs.getD k default).sig) = hid)) with
     | true =>
      replace h6 := odt h6
      refine ChD.s (.row 7) [] pm (ChD.s (.ptr 10000 3) [] (fP fld70_3 rfl) (ChD.s (dI ((x.arcs.getD k default).dst)) [10000] (lP ag3 rfl rfl rfl) (ChD.s (dB (hasI (rowK (silB hid) x.arcs (q.1.getD q.2 default) q.1 k) ((x.arcs.getD k default).dst))) [7] (.call 48000 51 _ _ _ en51 rfl (.inl rfl) (.cons (.lend (.row rfl (frozs_map (fun _ => rfl) _))) (.cons (.d _) .nil)) rfl rfl (sp_Contains_int (rowK (silB hid) x.arcs (q.1.getD q.2 default) q.1 k) ((x.arcs.getD k default).dst) a21) (.skip _ _ (.skip _ _ .nil)) rfl) (ChD.s (dB (!(hasI (rowK (silB hid) x.arcs (q.1.getD q.2 default) q.1 k) ((x.arcs.getD k default).dst)))) [] (nT rfl) (ChD.s (dB (!(hasI (rowK (silB hid) x.arcs (q.1.getD q.2 default) q.1 k) ((x.arcs.getD k default).dst)))) [] (pT rfl) ?_)))))
      refine ChD.nil (And.intro ?_ (by kernel_rfl))
      refine T_condN (b := (hasI (rowK (silB hid) x.arcs (q.1.getD q.2 default) q.1 k) ((x.arcs.getD k default).dst))) rfl (fun h7 => ?_) (fun h7 => ?_)
      ·
       refine Tz hc (Ch.s (.row 7) pm (Ch.s (.ptr 10000 3) (fP fld70_3 rfl) (Ch.s (dI ((x.arcs.getD k default).dst)) (lP ag3 rfl rfl rfl) (Ch.s (.row 54000) (.slice 54000 _ 3 _ rfl sty44 (xs := [.tmp 53]) rfl rfl (.cons (.d _) .nil) rfl rfl (by decide)) ?_))))
       refine Ch.step (v := (.row 55000)) rfl (.append 55000 _ _ _ 3 rfl sty44 (by decide) (.rowK rfl) (.inr ⟨_, rfl, rfl⟩) (.row rfl rfl) rfl a33) rfl rfl ?_
       refine Ch.s (.row 55000) pa (Ch.nil (Tz hc (Ch.s (dI ((k : Int) + 1)) (iX rfl rfl intV_addA) (Ch.s (dI ((k : Int) + 1)) pm (Ch.nil ?_)))))
       exact nx (k + 1) (by omega) (Wk.ren [(7, 55000)] rfl rfl rfl rfl (ar (ar (ar (ar (ar (ar (ai (vI a67) trivial))))))) (ai (oR a6) (ar trivial)))
      ·
       refine Tk (Tz hc (Ch.s (dI ((k : Int) + 1)) (iX rfl rfl intV_addA) (Ch.s (dI ((k : Int) + 1)) pm (Ch.nil ?_))))
       exact nx (k + 1) (by omega) (Wk.of rfl rfl (ar (ar (ar (ar (ar (ar (ai (vI a67) trivial))))))) (ai (oR a6) (ar trivial)))
     | false =>
      replace h6 := odf h6
      refine ChD.skip rfl rfl (ChD.skip rfl rfl (ChD.skip rfl rfl (ChD.skip rfl rfl (ChD.skip rfl rfl (ChD.s (dB false) [] (pF rfl) ?_)))))
      refine ChD.nil (And.intro ?_ (by kernel_rfl))
      refine T_cond (b := false) rfl (fun h => nomatch h) (fun _ => ?_)
      refine Tk (Tz hc (Ch.s (dI ((k : Int) + 1)) (iX rfl rfl intV_addA) (Ch.s (dI ((k : Int) + 1)) pm (Ch.nil ?_))))
      exact nx (k + 1) (by omega) (Wk.of rfl rfl (ar (ar (ar (ar (ar (ar (ai (vI a67) trivial))))))) (ai (oR a6) (ar trivial)))
   | false =>
    replace h3 := odf h3
    refine ChD.skip rfl rfl (ChD.skip rfl rfl (ChD.skip rfl rfl (ChD.skip rfl rfl (ChD.skip rfl rfl (ChD.skip rfl rfl (ChD.skip rfl rfl (ChD.skip rfl rfl ?_)))))))
    refine ChD.skip rfl rfl (ChD.s (dB false) [] (pF rfl) (ChD.s (dB false) [] pm (ChD.skip rfl rfl (ChD.skip rfl rfl (ChD.skip rfl rfl (ChD.skip rfl rfl (ChD.skip rfl rfl ?_)))))))
    refine ChD.s (dB false) [] (pF rfl) ?_
    refine ChD.nil (And.intro ?_ (by kernel_rfl))
    refine T_cond (b := false) rfl (fun h => nomatch h) (fun _ => ?_)
    refine Tk (Tz hc (Ch.s (dI ((k : Int) + 1)) (iX rfl rfl intV_addA) (Ch.s (dI ((k : Int) + 1)) pm (Ch.nil ?_))))
    exact nx (k + 1) (by omega) (Wk.of rfl rfl (ar (ar (ar (ar (ar (ar (ai (vI a67) trivial))))))) (ai (oR a6) (ar trivial)))
  ·
   refine T_exit (Tz hc (Ch.s (dI (q.2 : Int)) pm (Ch.s (dI ((q.2 : Int) + 1)) (iX rfl rfl intV_addA) (Ch.s (dI ((q.2 : Int) + 1)) pa (Ch.nil ?_)))))
   refine Exists.intro ((rowK (silB hid) x.arcs (q.1.getD q.2 default) q.1 x.arcs.length, q.2 + 1)) (And.intro (hp0.step hen (by omega)) (And.intro (by dsimp only; omega) (Wk.of rfl rfl (ar (ar (ar (ai (vI a67) trivial)))) (ai (oR a66) (ar trivial)))))
 ·
  refine T_exit (Ts hc (Ch.s (.row 7) pm (Ch.s (.row 7) pa (Ch.nil (T_ret ?_)))))
  exact eR [(.row 7)] [] [7] (.cons (.tmp 6 rfl) .nil) eC (Exp.of (congrArg (D.slice true 1) (by rw [hp0.end (by omega)])) (.row rfl))

set_option maxHeartbeats 1000000 in
theorem sp_impl_after (x : Sgr) (s : List Int) (hid : Int) (hb : x.bulk ≤ 1048576) (hx : SgOk x) (hsl : s.length ≤ 1048576) : Sp Tryz.prog 27 [(.agg [(.slice false 2 (x.sigs.map Sgn.d)), (.slice false 1 (x.codes.map D.str)), (.slice false 4 (x.arcs.map Arc.d))]), (.slice false 1 (s.map (fun n : Int => D.int .i64 n))), (.int .i64 hid)] [.any, .any, .any] (.map (mpK (afL x hid s)) (mpU (afL x hid s))) := by
 refine Sp_intro (lend := true) Tryz.func27 rfl rfl rfl (fun _ => rfl) (fun c hc hX => ?_)
 obtain ⟨hp0, hp1, hp2⟩ := Sgr.parts hb
 have hn0 := bulkF_len hp0
 have hn1 := bulk_len hp1
 have hx1 := bulk_mem hp1
 have hn2 := bulkF_len hp2; have hxl := hx.len; have hxf := hx.few; have hen := hx.ends; have hx8 := hx.eight
 refine Ts hc (Ch.s (.ptr 3000 0) (.box 3000 _ _ rfl (.aggD _)) (Ch.s (.c (.map none)) pa (Ch.nil (Ts hc (Ch.s (.mp 11000) (.makeMap 11000 _ rfl) ?_)))))
 refine Ch.s (.mp 11000) pa (Ch.nil (Tq (Ts hc (Ch.s (.ptr 3000 2) (fP fld33_2 rfl) (Ch.s (.d (.slice false 4 (x.arcs.map Arc.d))) (lP ag31 rfl rfl rfl) (Ch.s (dI (x.arcs.length : Int)) (.pure (.len _ _ 70 rfl Tryz.underlying31 (.sh _ _) (by simp))) ?_))))))
 refine Ch.s (dI 0) pm (Ch.nil (Tb ?_))
 refine T_loop (ι := Nat) (fun k => { n := 50, sl := [(1, (.d (.slice false 1 (s.map (fun n : Int => D.int .i64 n))))), (2, (dI hid)), (3, (.ptr 3000 0)), (7, (.mp 7)), (13, (.d (.slice false 4 (x.arcs.map Arc.d)))), (14, (dI (x.arcs.length : Int))), (15, (dI (k : Int)))], hp := [(7, (some (.mapo (mpK (afK x hid s k)) (mpU (afK x hid s k))))), (3000, (some (.box (vX x))))], pin := [] }) (fun k => k ≤ x.arcs.length) (fun k => x.arcs.length - k) ⟨0, (by omega), (Wk.ren [(7, 11000)] rfl rfl rfl rfl (ar (ar (ar (ar (ar (ar (ai (vI a67) trivial))))))) (ai (oMU (M := []) a18) (ar trivial)))⟩ (fun k hp0 => ?_)
 have hak := af_ok x hid s k hp0
 refine Ts hc (Ch.s (dB (decide ((k : Int) < (x.arcs.length : Int)))) (iX rfl rfl rfl) (Ch.nil (Tq ?_)))
 refine T_condD (p := ((k : Int) < (x.arcs.length : Int))) rfl (fun h1 => ?_) (fun h1 => ?_)
 ·
  refine Tk (Tq (Tb (Ts hc (Ch.s (.d (.ref (.agg [(.int .i64 ((x.arcs.getD k default).src)), (.int .i64 ((x.arcs.getD k default).sig)), (.bool ((x.arcs.getD k default).up)), (.int .i64 ((x.arcs.getD k default).dst))]))) (.pure (.idx _ _ _ 70 (k) rfl Tryz.underlying31 sz70 rfl rfl rfl get_mapA)) (Ch.s (.d (.agg [(.int .i64 ((x.arcs.getD k default).src)), (.int .i64 ((x.arcs.getD k default).sig)), (.bool ((x.arcs.getD k default).up)), (.int .i64 ((x.arcs.getD k default).dst))])) (.pure (.loadRefA _ _ rfl ag70 sz70 rfl)) (Ch.s (.ptr 9000 0) (.alloc 9000 _ rfl zer70) ?_))))))
  refine Ch.s .junk (.storePtr _ _ _ rfl rfl rfl (.aggD _) sz70 (lb rfl)) (Ch.nil (Ts hc (Ch.s (.d (.slice false 1 (s.map (fun n : Int => D.int .i64 n)))) pm (Ch.s (.ptr 9000 0) (fP fld70_0 rfl) (Ch.s (dI ((x.arcs.getD k default).src)) (lP ag3 rfl rfl rfl) (Ch.s (dB (hasI s ((x.arcs.getD k default).src))) (.call 22000 51 _ _ _ en51 rfl (.inl rfl) (.cons (.d _) (.cons (.d _) .nil)) rfl rfl (sp_Contains_int s ((x.arcs.getD k default).src) a21) (.skip _ _ (.skip _ _ .nil)) rfl) ?_))))))
  refine Ch.s (dB (hasI s ((x.arcs.getD k default).src))) pm ?_
  cases h2 : (hasI s ((x.arcs.getD k default).src)) with
  | true =>
   try have hsk := hx.sig _ (getD_mem (l := x.arcs) (j := k) (d := default) (by omega))
   try have hgk := getL_len (w := wrdE x.sigs (Lab.mk (x.arcs.getD k default).sig (x.arcs.getD k default).up)) hak.2.2.1
   refine Ch.s (.ptr 9000 1) (fP fld70_1 rfl) (Ch.s (dI ((x.arcs.getD k default).sig)) (lP ag3 rfl rfl rfl) (Ch.s (dB (!(decide (((x.arcs.getD k default).sig) = (-1))))) (iX rfl rfl rfl) (Ch.s (dB (!(decide (((x.arcs.getD k default).sig) = (-1))))) (pT rfl) (Ch.s (dB (!(decide (((x.arcs.getD k default).sig) = (-1))))) pm ?_))))
   cases h3 : (decide (((x.arcs.getD k default).sig) = (-1))) with
   | true =>
    replace h3 := odt h3
    refine Ck (Ck (Ck (Ck (Ch.s (dB false) (pF rfl) (Ch.nil ?_)))))
    refine T_cond (b := false) rfl (fun h => nomatch h) (fun _ => ?_)
    refine Tk (Tz hc (Ch.s (dI ((k : Int) + 1)) (iX rfl rfl intV_addA) (Ch.s (dI ((k : Int) + 1)) pm (Ch.nil ?_))))
    exact nx (k + 1) (by omega) (Wk.of rfl rfl (ar (ar (ar (ar (ar (ar (ai (vI a67) trivial))))))) (ai (oMU (M := afK x hid s k) a18) (ar trivial)))
   | false =>
    replace h3 := odf h3
    refine Ch.s (.ptr 9000 1) (fP fld70_1 rfl) (Ch.s (dI ((x.arcs.getD k default).sig)) (lP ag3 rfl rfl rfl) (Ch.s (dI hid) pm (Ch.s (dB (!(decide (((x.arcs.getD k default).sig) = hid)))) (iX rfl rfl rfl) (Ch.s (dB (!(decide (((x.arcs.getD k default).sig) = hid)))) (pT rfl) (Ch.nil ?_)))))
    refine T_condN (b := (decide (((x.arcs.getD k default).sig) = hid))) rfl (fun h4 => ?_) (fun h4 => ?_)
    ·
     replace h4 := odf h4
     refine Tq ?_
     refine T_regionD hc (by kernel_rfl) ?_
     refine ChD.s (.ptr 3000 0) [] (fP fld33_0 rfl) (ChD.s (.d (.slice false 2 (x.sigs.map Sgn.d))) [3000] (lP ag30 rfl rfl rfl) (ChD.s (.agg [(dI ((x.arcs.getD k default).src)), (dI ((x.arcs.getD k default).sig)), (dB ((x.arcs.getD k default).up)), (dI ((x.arcs.getD k default).dst))]) [9000] (lA ag70 sz70 rfl rfl (lb rfl) rfl) (ChD.s (.d (.agg [(.int .i64 ((Lab.mk (x.arcs.getD k default).sig (x.arcs.getD k default).up).sig)), (.bool ((Lab.mk (x.arcs.getD k default).sig (x.arcs.getD k default).up).up))])) [] (.call 37000 56 _ _ _ en56 rfl (.inl rfl) (.cons (.lend (.agg (.cons (.d _) (.cons (.d _) (.cons (.d _) (.cons (.d _) .nil)))) rfl)) .nil) rfl rfl (sp_impl_labelOfArc (x.arcs.getD k default)) (.skip _ _ .nil) rfl) (ChD.s (dS (wrdE x.sigs (Lab.mk (x.arcs.getD k default).sig (x.arcs.getD k default).up))) [] (.call 38000 55 _ _ _ en55 rfl (.inl rfl) (.cons (.d _) (.cons (.d _) .nil)) rfl rfl (sp_impl_edgeText x.sigs (Lab.mk (x.arcs.getD k default).sig (x.arcs.getD k default).up) a21 (by first | assumption | omega | (dsimp only; omega)) (by first | assumption | exact names_le hx)) (.skip _ _ (.skip _ _ .nil)) rfl) (ChD.s (dS (wrdE x.sigs (Lab.mk (x.arcs.getD k default).sig (x.arcs.getD k default).up))) [] pa ?_)))))
     refine ChD.nil (And.intro ?_ (by kernel_rfl))
     refine Tz hc (Ch.s (.mp 7) pm (Ch.s (dS (wrdE x.sigs (Lab.mk (x.arcs.getD k default).sig (x.arcs.getD k default).up))) pm (Ch.s (.mp 7) pm (Ch.s (dS (wrdE x.sigs (Lab.mk (x.arcs.getD k default).sig (x.arcs.getD k default).up))) pm (Ch.s (.row 43000) (.lookup 43000 _ _ _ 44 rfl mty55 zv44 rfl rfl rfl (takeK_mk (afK x hid s k) (wrdE x.sigs (Lab.mk (x.arcs.getD k default).sig (x.arcs.getD k default).up)))) (Ch.s (.ptr 9000 3) (fP fld70_3 rfl) (Ch.s (dI ((x.arcs.getD k default).dst)) (lP ag3 rfl rfl rfl) ?_)))))))
     refine Ch.s (.row 46000) (.slice 46000 _ 3 _ rfl sty44 (xs := [.tmp 45]) rfl rfl (.cons (.d _) .nil) rfl rfl (by decide)) ?_
     refine Ch.step (v := (.row 47000)) rfl (.append 47000 _ _ _ 3 rfl sty44 (by decide) (.rowK rfl) (.inr ⟨_, rfl, rfl⟩) (.row rfl rfl) rfl a33) rfl rfl ?_
     refine Ch.s .junk (.mapUpd (d := intsU (getL (afK x hid s k) (wrdE x.sigs (Lab.mk (x.arcs.getD k default).sig (x.arcs.getD k default).up)) ++ [((x.arcs.getD k default).dst)])) _ _ _ _ 44 (.inl rfl) mty55 rfl rfl rfl (Exp.of (congrArg (D.slice true 1) (snocI _ _)) (.row rfl)) rfl rfl (putK_tk (afK x hid s k) (wrdE x.sigs (Lab.mk (x.arcs.getD k default).sig (x.arcs.getD k default).up)) (getL (afK x hid s k) (wrdE x.sigs (Lab.mk (x.arcs.getD k default).sig (x.arcs.getD k default).up)) ++ [((x.arcs.getD k default).dst)]))) (Ch.nil (Tz hc (Ch.s (dI ((k : Int) + 1)) (iX rfl rfl intV_addA) (Ch.s (dI ((k : Int) + 1)) pm (Ch.nil ?_)))))
     exact nx (k + 1) (by omega) (Wk.of rfl rfl (ar (ar (ar (ar (ar (ar (ai (vI a67) trivial))))))) (ai (oMU (M := (putM (afK x hid s k) (wrdE x.sigs (Lab.mk (x.arcs.getD k default).sig (x.arcs.getD k default).up)) (getL (afK x hid s k) (wrdE x.sigs (Lab.mk (x.arcs.getD k default).sig (x.arcs.getD k default).up)) ++ [((x.arcs.getD k default).dst)]))) a18) (ar trivial)))
    ·
     replace h4 := odt h4
     refine Tk (Tz hc (Ch.s (dI ((k : Int) + 1)) (iX rfl rfl intV_addA) (Ch.s (dI ((k : Int) + 1)) pm (Ch.nil ?_))))
     exact nx (k + 1) (by omega) (Wk.of rfl rfl (ar (ar (ar (ar (ar (ar (ai (vI a67) trivial))))))) (ai (oMU (M := afK x hid s k) a18) (ar trivial)))
  | false =>
   try have hsk := hx.sig _ (getD_mem (l := x.arcs) (j := k) (d := default) (by omega))
   try have hgk := getL_len (w := wrdE x.sigs (Lab.mk (x.arcs.getD k default).sig (x.arcs.getD k default).up)) hak.2.2.1
   refine Ck (Ck (Ck (Ch.s (dB false) (pF rfl) (Ch.s (dB false) pm (Ck (Ck (Ch.skip rfl rfl ?_)))))))
   refine Ck (Ch.s (dB false) (pF rfl) (Ch.nil ?_))
   refine T_cond (b := false) rfl (fun h => nomatch h) (fun _ => ?_)
   refine Tk (Tz hc (Ch.s (dI ((k : Int) + 1)) (iX rfl rfl intV_addA) (Ch.s (dI ((k : Int) + 1)) pm (Ch.nil ?_))))
   exact nx (k + 1) (by omega) (Wk.of rfl rfl (ar (ar (ar (ar (ar (ar (ai (vI a67) trivial))))))) (ai (oMU (M := afK x hid s k) a18) (ar trivial)))
 ·
  refine T_exit (Ts hc (Ch.s (.mp 7) pm (Ch.s (.mp 7) pa (Ch.nil (T_ret ?_)))))
  exact eR [(.mp 7)] [] [7] (.cons (.tmp 6 rfl) .nil) eC (Exp.of (by rw [show k = x.arcs.length by omega]; rfl) (.map rfl))

structure Trc where
 seen : List UInt8
 pos : List (Int)
 many : Int
 deriving DecidableEq, Inhabited

def Trc.d (x : Trc) : D := (.agg [(.str x.seen), (.slice false 1 (x.pos.map (fun n : Int => D.int .i64 n))), (.int .i64 x.many)])

def Trc.u (x : Trc) : D := (.agg [(.str x.seen), (.slice true 1 (x.pos.map (fun n : Int => D.int .i64 n))), (.int .i64 x.many)])

theorem Trc.fz (x : Trc) : (Trc.u x).froz = Trc.d x := congrArg D.agg (froz_c rfl (froz_c (slice_froz (frozs_map (fun _ => rfl) _)) (froz_c rfl rfl)))

theorem Trc.sol (x : Trc) : (Trc.u x).solid = true := by unfold Trc.u; rw [D.solid]; exact (solids_c rfl (solids_c (solid_row (fun _ => rfl) _) (solids_c rfl rfl)))

def Trc.bulk (x : Trc) : Nat := x.seen.length + bulkF (fun _ => 0) x.pos

def Trc.wide (x : Trc) : Prop := (x.seen.length ≤ 9223372036854775807) ∧ (x.pos.length ≤ 9223372036854775807 ∧ ∀ y ∈ x.pos, True)

def putT : List Trc → Trc → List Trc
 | [], t => [t]
 | y :: l, t => if y.seen = t.seen ∧ y.many = t.many then ⟨y.seen, t.pos.foldl putI y.pos, y.many⟩ :: l else y :: putT l t

def setT (l : List Trc) (k : Nat) (p : List Int) : List Trc := l.set k ⟨(l.getD k default).seen, p, (l.getD k default).many⟩

theorem setT_len (l : List Trc) (k : Nat) (p : List Int) : (setT l k p).length = l.length := by simp [setT]

theorem putT_at : ∀ {l : List Trc} {t : Trc} {k : Nat}, k < l.length → (∀ j, j < k → ¬ ((l.getD j default).seen = t.seen ∧ (l.getD j default).many = t.many)) → ((l.getD k default).seen = t.seen ∧ (l.getD k default).many = t.many) →
  putT l t = setT l k (t.pos.foldl putI (l.getD k default).pos)
 | [], _, k, h, _, _ => absurd h (Nat.not_lt_zero _)
 | y :: l, t, 0, _, _, h => by
  have h' : y.seen = t.seen ∧ y.many = t.many := h
  rw [putT, if_pos h']; rfl
 | y :: l, t, k + 1, hk, h0, h => by
  have h' : ¬ (y.seen = t.seen ∧ y.many = t.many) := h0 0 (by omega)
  rw [putT, if_neg h', putT_at (l := l) (k := k) (by simpa using hk) (fun j hj => h0 (j + 1) (by omega)) h]
  rfl

theorem putT_none : ∀ {l : List Trc} {t : Trc}, (∀ j, j < l.length → ¬ ((l.getD j default).seen = t.seen ∧ (l.getD j default).many = t.many)) → putT l t = l ++ [t]
 | [], _, _ => rfl
 | y :: l, t, h => by
  have h' : ¬ (y.seen = t.seen ∧ y.many = t.many) := h 0 (by simp)
  rw [putT, if_neg h', putT_none (l := l) fun j hj => h (j + 1) (by simpa using hj)]; rfl

theorem putT_len : ∀ (l : List Trc) (t : Trc), (putT l t).length ≤ l.length + 1
  | [], _ => Nat.le_refl _
  | y :: l, t => by
    rw [putT]
    split
    · simp
    · have := putT_len l t; simp; omega

theorem foldP_mem : ∀ {q p : List Int} {a : Int}, a ∈ q.foldl putI p ↔ a ∈ p ∨ a ∈ q
 | [], p, a => by simp
 | b :: q, p, a => by
  rw [List.foldl_cons, foldP_mem, putI_mem, List.mem_cons, or_assoc]

theorem foldP_rising : ∀ {q p : List Int}, Rising p → Rising (q.foldl putI p)
 | [], _, h => h
 | b :: q, p, h => by rw [List.foldl_cons]; exact foldP_rising (putI_rising h)

def foldPk (q p : List Int) (k : Nat) : List Int := (q.take k).foldl putI p

theorem foldPk_succ {q p : List Int} {k : Nat} (h : k < q.length) : putI (foldPk q p k) (q.getD k default) = foldPk q p (k + 1) := by
 have hg : q.getD k default = q[k] := by simp [h]
 unfold foldPk
 rw [hg, List.take_succ_eq_append_getElem h, List.foldl_append]; rfl

structure TrcOk (n : Nat) (t : Trc) : Prop where
 rise : Rising t.pos
 inn : ∀ a ∈ t.pos, 0 ≤ a ∧ a.toNat < n

theorem TrcOk.len {n : Nat} {t : Trc} (h : TrcOk n t) : t.pos.length ≤ n := (rising_len h.rise h.inn).2

theorem foldPk_ok {n : Nat} {q p : List Int} (hr : Rising p) (hp : ∀ a ∈ p, 0 ≤ a ∧ a.toNat < n) (hq : ∀ a ∈ q, 0 ≤ a ∧ a.toNat < n) (k : Nat) : Rising (foldPk q p k) ∧ (foldPk q p k).length ≤ n := by
  have h1 : Rising (foldPk q p k) := foldP_rising hr
  refine ⟨h1, (rising_len (n := n) h1 fun a ha => ?_).2⟩
  rcases foldP_mem.1 ha with ha | ha
  · exact hp a ha
  · exact hq a (List.mem_of_mem_take ha)

theorem putT_ok {n : Nat} : ∀ {l : List Trc} {t : Trc}, (∀ y ∈ l, TrcOk n y) → TrcOk n t → ∀ y ∈ putT l t, TrcOk n y
  | [], t, _, ht, y, hy => by rw [putT, List.mem_singleton] at hy; subst hy; exact ht
  | z :: l, t, hl, ht, y, hy => by
    rw [putT] at hy
    split at hy
    · rcases List.mem_cons.1 hy with rfl | hy
      · have hz := hl z List.mem_cons_self
        refine ⟨foldP_rising hz.rise, fun a ha => ?_⟩
        rcases foldP_mem.1 ha with ha | ha
        · exact hz.inn a ha
        · exact ht.inn a ha
      · exact hl y (List.mem_cons_of_mem _ hy)
    · rcases List.mem_cons.1 hy with rfl | hy
      · exact hl _ List.mem_cons_self
      · exact putT_ok (fun y hy => hl y (List.mem_cons_of_mem _ hy)) ht y hy

theorem putT_many : ∀ {l : List Trc} {t : Trc} {k : Int}, (∀ y ∈ l, y.many = k) → t.many = k → ∀ y ∈ putT l t, y.many = k
  | [], t, k, _, ht, y, hy => by rw [putT, List.mem_singleton] at hy; subst hy; exact ht
  | z :: l, t, k, hl, ht, y, hy => by
    rw [putT] at hy
    split at hy
    · rcases List.mem_cons.1 hy with rfl | hy
      · exact hl z List.mem_cons_self
      · exact hl y (List.mem_cons_of_mem _ hy)
    · rcases List.mem_cons.1 hy with rfl | hy
      · exact hl _ List.mem_cons_self
      · exact putT_many (fun y hy => hl y (List.mem_cons_of_mem _ hy)) ht y hy

theorem putT_ne : ∀ {l : List Trc} {t : Trc}, (∀ y ∈ l, y.pos ≠ []) → t.pos ≠ [] → ∀ y ∈ putT l t, y.pos ≠ []
  | [], t, _, ht, y, hy => by rw [putT, List.mem_singleton] at hy; subst hy; exact ht
  | z :: l, t, hl, ht, y, hy => by
    rw [putT] at hy
    split at hy
    · rcases List.mem_cons.1 hy with rfl | hy
      · obtain ⟨b, hb⟩ := List.exists_mem_of_ne_nil _ ht
        exact List.ne_nil_of_mem (foldP_mem.2 (.inr hb))
      · exact hl y (List.mem_cons_of_mem _ hy)
    · rcases List.mem_cons.1 hy with rfl | hy
      · exact hl _ List.mem_cons_self
      · exact putT_ne (fun y hy => hl y (List.mem_cons_of_mem _ hy)) ht y hy

theorem putT_seen : ∀ {l : List Trc} {t : Trc}, (∀ y ∈ l, y.many = t.many) → ∀ u, u ∈ (putT l t).map Trc.seen ↔ u ∈ l.map Trc.seen ∨ u = t.seen
  | [], t, _, u => by simp [putT]
  | z :: l, t, hl, u => by
    have hz := hl z List.mem_cons_self
    have ih := putT_seen (l := l) (t := t) (fun y hy => hl y (List.mem_cons_of_mem _ hy)) u
    rw [putT]
    split
    · rename_i h
      simp only [List.map_cons, List.mem_cons]
      constructor
      · exact .inl
      · rintro (h1 | h1)
        · exact h1
        · exact .inl (h1.trans h.1.symm)
    · simp only [List.map_cons, List.mem_cons]
      rw [ih, or_assoc]

theorem putT_nod : ∀ {l : List Trc} {t : Trc}, (∀ y ∈ l, y.many = t.many) → (l.map Trc.seen).Nodup → ((putT l t).map Trc.seen).Nodup
  | [], t, _, _ => by simp [putT]
  | z :: l, t, hl, h => by
    rw [List.map_cons, List.nodup_cons] at h
    rw [putT]
    split
    · rw [List.map_cons, List.nodup_cons]; exact h
    · rename_i hne
      rw [List.map_cons, List.nodup_cons]
      refine ⟨fun hm => ?_, putT_nod (fun y hy => hl y (List.mem_cons_of_mem _ hy)) h.2⟩
      rcases (putT_seen (fun y hy => hl y (List.mem_cons_of_mem _ hy)) _).1 hm with h1 | h1
      · exact h.1 h1
      · exact hne ⟨h1, hl z List.mem_cons_self⟩

def TSem (l : List Trc) (u : List UInt8) (s : Int) : Prop := ∃ t ∈ l, t.seen = u ∧ s ∈ t.pos

theorem tsem_cons {y : Trc} {l : List Trc} {u : List UInt8} {s : Int} : TSem (y :: l) u s ↔ (y.seen = u ∧ s ∈ y.pos) ∨ TSem l u s := by
 unfold TSem
 simp only [List.mem_cons, exists_eq_or_imp]

theorem putT_sem : ∀ {l : List Trc} {t : Trc}, (∀ y ∈ l, y.many = t.many) → ∀ {u s}, TSem (putT l t) u s ↔ TSem l u s ∨ (t.seen = u ∧ s ∈ t.pos)
  | [], t, _, u, s => by rw [putT, tsem_cons]; simp [TSem]
  | z :: l, t, hl, u, s => by
    have ih := putT_sem (l := l) (t := t) (fun y hy => hl y (List.mem_cons_of_mem _ hy)) (u := u) (s := s)
    rw [putT]
    split
    · rename_i h
      rw [tsem_cons, tsem_cons]
      dsimp only
      rw [foldP_mem, ← h.1]
      constructor
      · rintro (⟨h1, h2 | h2⟩ | h2)
        · exact .inl (.inl ⟨h1, h2⟩)
        · exact .inr ⟨h1, h2⟩
        · exact .inl (.inr h2)
      · rintro ((⟨h1, h2⟩ | h2) | ⟨h1, h2⟩)
        · exact .inl ⟨h1, .inl h2⟩
        · exact .inr h2
        · exact .inl ⟨h1, .inr h2⟩
    · rw [tsem_cons, tsem_cons, ih, or_assoc]
/-! a round of the reference -/

def morS (x : Sgr) (hid : Int) (t : Trc) (o : List Trc) (a : Arc) : List Trc := if !silB hid a && hasI t.pos a.src then putT o ⟨t.seen ++ wrd x a, [a.dst], t.many + 1⟩ else o

def morR (x : Sgr) (hid : Int) (l : List Trc) (i m : Nat) : List Trc := (x.arcs.take m).foldl (morS x hid (l.getD i default)) ((l.take i).foldl (fun o t => x.arcs.foldl (morS x hid t) o) [])

theorem mor_zero (x : Sgr) (hid : Int) (l : List Trc) : morR x hid l 0 0 = [] := rfl

theorem mor_next {x : Sgr} {hid : Int} {l : List Trc} {i m : Nat} (h : i < l.length) (hm : x.arcs.length ≤ m) : morR x hid l i m = morR x hid l (i + 1) 0 := by
 have hg : l.getD i default = l[i] := by simp [h]
 unfold morR
 rw [List.take_of_length_le hm, List.take_succ_eq_append_getElem h, List.foldl_append, hg]; rfl

theorem mor_succ {x : Sgr} {hid : Int} {l : List Trc} {i m : Nat} (h : m < x.arcs.length) : morR x hid l i (m + 1) = morS x hid (l.getD i default) (morR x hid l i m) (x.arcs.getD m default) := by
 have hg : x.arcs.getD m default = x.arcs[m] := by simp [h]
 unfold morR
 rw [hg, List.take_succ_eq_append_getElem h, List.foldl_append]; rfl

theorem mor_yes {x : Sgr} {hid : Int} {l : List Trc} {i m : Nat} (h : m < x.arcs.length) (h1 : ¬ (x.arcs.getD m default).sig = -1) (h2 : ¬ (x.arcs.getD m default).sig = hid) (h3 : hasI (l.getD i default).pos (x.arcs.getD m default).src = true) :
  putT (morR x hid l i m) ⟨(l.getD i default).seen ++ wrd x (x.arcs.getD m default), [(x.arcs.getD m default).dst], (l.getD i default).many + 1⟩ = morR x hid l i (m + 1) := by
 rw [mor_succ h, morS, sil_no h1 h2, h3]; rfl

theorem mor_no1 {x : Sgr} {hid : Int} {l : List Trc} {i m : Nat} (h : m < x.arcs.length) (h1 : silB hid (x.arcs.getD m default) = true) : morR x hid l i m = morR x hid l i (m + 1) := by
 rw [mor_succ h, morS, h1]; rfl

theorem mor_no2 {x : Sgr} {hid : Int} {l : List Trc} {i m : Nat} (h : m < x.arcs.length) (h1 : hasI (l.getD i default).pos (x.arcs.getD m default).src = false) : morR x hid l i m = morR x hid l i (m + 1) := by
 rw [mor_succ h, morS, h1, Bool.and_false]; rfl

structure TOK (x : Sgr) (k : Int) (l : List Trc) : Prop where
 nod : (l.map Trc.seen).Nodup
 ok : ∀ t ∈ l, TrcOk x.codes.length t
 many : ∀ t ∈ l, t.many = k
 ne : ∀ t ∈ l, t.pos ≠ []

/-- what the reference's round holds behind i elements and m arcs of the next -/
structure MOK (x : Sgr) (hid : Int) (l : List Trc) (k : Int) (i m : Nat) : Prop where
 tok : TOK x (k + 1) (morR x hid l i m)
 len : (morR x hid l i m).length ≤ i * 4000 + m
 sem : ∀ u s, TSem (morR x hid l i m) u s ↔ ∃ j t a, (j < i ∧ a ∈ x.arcs ∨ j = i ∧ a ∈ x.arcs.take m) ∧ j < l.length ∧ t = l.getD j default ∧ silB hid a = false ∧ hasI t.pos a.src = true ∧ u = t.seen ++ wrd x a ∧ a.dst = s

theorem mok_step {x : Sgr} (hx : SgOk x) {hid : Int} {l : List Trc} {k : Int} (hl : ∀ t ∈ l, t.many = k) {i : Nat} (hi : i < l.length) {m : Nat} (hm : m < x.arcs.length) (h : MOK x hid l k i m) : MOK x hid l k i (m + 1) := by
  have hg : x.arcs.getD m default ∈ x.arcs := getD_mem hm
  have hti : l.getD i default ∈ l := getD_mem hi
  by_cases hs : silB hid (x.arcs.getD m default) = true
  · refine ⟨by rw [← mor_no1 hm hs]; exact h.tok, by rw [← mor_no1 hm hs]; have := h.len; omega, fun u s => ?_⟩
    rw [← mor_no1 hm hs, h.sem]
    constructor
    · rintro ⟨j, t, a, h1 | ⟨h1, h2⟩, h3⟩
      · exact ⟨j, t, a, .inl h1, h3⟩
      · exact ⟨j, t, a, .inr ⟨h1, (take_succ_mem hm).2 (.inl h2)⟩, h3⟩
    · rintro ⟨j, t, a, h1 | ⟨h1, h2⟩, h3⟩
      · exact ⟨j, t, a, .inl h1, h3⟩
      · rcases (take_succ_mem hm).1 h2 with h2 | rfl
        · exact ⟨j, t, a, .inr ⟨h1, h2⟩, h3⟩
        · rw [h3.2.2.1] at hs; cases hs
  · have hs' : silB hid (x.arcs.getD m default) = false := by simpa using hs
    obtain ⟨n1, n2⟩ := sil_false hs'
    by_cases hc : hasI (l.getD i default).pos (x.arcs.getD m default).src = true
    · have hmany : ∀ y ∈ morR x hid l i m, y.many = (l.getD i default).many + 1 := fun y hy => by rw [h.tok.many y hy, hl _ hti]
      have he := mor_yes hm n1 n2 hc
      have hlen := putT_len (morR x hid l i m) ⟨(l.getD i default).seen ++ wrd x (x.arcs.getD m default), [(x.arcs.getD m default).dst], (l.getD i default).many + 1⟩
      refine ⟨?_, ?_, fun u s => ?_⟩
      · rw [← he]
        refine ⟨putT_nod hmany h.tok.nod, putT_ok h.tok.ok ⟨by simp [Rising], fun a ha => ?_⟩, putT_many h.tok.many (by dsimp only; rw [hl _ hti]), putT_ne h.tok.ne (by simp)⟩
        rw [List.mem_singleton] at ha
        subst ha; exact (hx.ends _ hg).2
      · rw [← he]; have := h.len; omega
      · rw [← he, putT_sem hmany, h.sem]
        constructor
        · rintro (⟨j, t, a, h1 | ⟨h1, h2⟩, h3⟩ | ⟨h1, h2⟩)
          · exact ⟨j, t, a, .inl h1, h3⟩
          · exact ⟨j, t, a, .inr ⟨h1, (take_succ_mem hm).2 (.inl h2)⟩, h3⟩
          · exact ⟨i, _, _, .inr ⟨rfl, (take_succ_mem hm).2 (.inr rfl)⟩, hi, rfl, hs', hc, h1.symm, (List.mem_singleton.1 h2).symm⟩
        · rintro ⟨j, t, a, h1 | ⟨h1, h2⟩, h3⟩
          · exact .inl ⟨j, t, a, .inl h1, h3⟩
          · rcases (take_succ_mem hm).1 h2 with h2 | rfl
            · exact .inl ⟨j, t, a, .inr ⟨h1, h2⟩, h3⟩
            · obtain ⟨_, rfl, _, _, rfl, rfl⟩ := h3
              subst h1
              exact .inr ⟨rfl, by simp⟩
    · have hc' : hasI (l.getD i default).pos (x.arcs.getD m default).src = false := by simpa using hc
      refine ⟨by rw [← mor_no2 hm hc']; exact h.tok, by rw [← mor_no2 hm hc']; have := h.len; omega, fun u s => ?_⟩
      rw [← mor_no2 hm hc', h.sem]
      constructor
      · rintro ⟨j, t, a, h1 | ⟨h1, h2⟩, h3⟩
        · exact ⟨j, t, a, .inl h1, h3⟩
        · exact ⟨j, t, a, .inr ⟨h1, (take_succ_mem hm).2 (.inl h2)⟩, h3⟩
      · rintro ⟨j, t, a, h1 | ⟨h1, h2⟩, h3⟩
        · exact ⟨j, t, a, .inl h1, h3⟩
        · rcases (take_succ_mem hm).1 h2 with h2 | rfl
          · exact ⟨j, t, a, .inr ⟨h1, h2⟩, h3⟩
          · obtain ⟨_, rfl, _, h4, _⟩ := h3
            subst h1
            exact absurd h4 hc

theorem mok_next {x : Sgr} {hid : Int} {l : List Trc} {k : Int} {i : Nat} (hi : i < l.length) (hf : x.arcs.length ≤ 4000) (h : MOK x hid l k i x.arcs.length) : MOK x hid l k (i + 1) 0 := by
  have he := mor_next (x := x) (hid := hid) hi (Nat.le_refl _)
  refine ⟨by rw [← he]; exact h.tok, by rw [← he, Nat.succ_mul, Nat.add_zero]; exact Nat.le_trans h.len (Nat.add_le_add_left hf _), fun u s => ?_⟩
  rw [← he, h.sem]
  constructor
  · rintro ⟨j, t, a, h1 | ⟨h1, h2⟩, h3⟩
    · exact ⟨j, t, a, .inl ⟨by omega, h1.2⟩, h3⟩
    · exact ⟨j, t, a, .inl ⟨by omega, List.mem_of_mem_take h2⟩, h3⟩
  · rintro ⟨j, t, a, h1 | ⟨h1, h2⟩, h3⟩
    · by_cases e : j = i
      · exact ⟨j, t, a, .inr ⟨e, by rw [List.take_length]; exact h1.2⟩, h3⟩
      · exact ⟨j, t, a, .inl ⟨by omega, h1.2⟩, h3⟩
    · simp at h2

theorem mok_zero (x : Sgr) (hid : Int) (l : List Trc) (k : Int) : MOK x hid l k 0 0 := by
  refine ⟨⟨by simp [mor_zero], by simp [mor_zero], by simp [mor_zero], by simp [mor_zero]⟩, by simp [mor_zero], fun u s => ?_⟩
  rw [mor_zero]
  constructor
  · rintro ⟨t, ht, _⟩; simp at ht
  · rintro ⟨j, t, a, h1 | ⟨h1, h2⟩, h3⟩
    · omega
    · simp at h2

theorem mok_all {x : Sgr} (hx : SgOk x) {hid : Int} {l : List Trc} {k : Int} (hl : ∀ t ∈ l, t.many = k) : ∀ i m, i < l.length ∧ m ≤ x.arcs.length ∨ i = l.length ∧ m = 0 → MOK x hid l k i m
 | 0, 0, _ => mok_zero x hid l k
 | i + 1, 0, h => by
  refine mok_next (by omega) hx.few ?_
  exact mok_all hx hl i x.arcs.length (.inl ⟨by omega, Nat.le_refl _⟩)
 | i, m + 1, h => mok_step hx hl (by omega) (by omega) (mok_all hx hl i m (.inl (by omega)))
 termination_by i m => (i, m)

def still (x : Sgr) (hid : Int) (s : List Int) : List Int := reachL (silB hid) x.arcs x.codes.length s

def stT (x : Sgr) (hid : Int) (t : Trc) : Trc := ⟨t.seen, still x hid t.pos, t.many⟩

def more (x : Sgr) (hid : Int) (l : List Trc) : List Trc := (morR x hid l l.length 0).map (stT x hid)

def lev (x : Sgr) (hid : Int) : Nat → List Trc
 | 0 => [⟨[], still x hid [0], 0⟩]
 | k + 1 => more x hid (lev x hid k)

def pairs (l : List Trc) : LvT := l.map fun t => (t.seen, t.pos)

theorem pairs_fst (l : List Trc) : (pairs l).map Prod.fst = l.map Trc.seen := by unfold pairs; rw [List.map_map]; rfl

theorem pairs_sem {l : List Trc} {u : List UInt8} {s : Int} : (∃ p ∈ pairs l, p.1 = u ∧ s ∈ p.2) ↔ TSem l u s := by
  unfold pairs TSem
  simp only [List.mem_map]
  constructor
  · rintro ⟨_, ⟨t, ht, rfl⟩, h⟩; exact ⟨t, ht, h⟩
  · rintro ⟨t, ht, h⟩; exact ⟨_, ⟨t, ht, rfl⟩, h⟩

theorem still_ok {x : Sgr} (hx : SgOk x) (hid : Int) {t : Trc} (h : TrcOk x.codes.length t) : TrcOk x.codes.length (stT x hid t) ∧ ∀ a, a ∈ still x hid t.pos ↔ Rch (arcE (silB hid) x.arcs) (fun a => a ∈ t.pos) a := by
 have h1 := reachL_rising (silB hid) hx.ends h.rise h.inn x.codes.length
 exact ⟨⟨h1.1, h1.2⟩, reachL_mem (silB hid) hx.ends h.rise h.inn⟩

theorem tok_lok {x : Sgr} {hid : Int} {k : Nat} {l : List Trc} (h : TOK x (k : Int) l) (hs : ∀ u s, TSem l u s ↔ SV x hid k u s) : LOK x hid k (pairs l) := by
  refine ⟨by rw [pairs_fst]; exact h.nod, ?_, ?_, fun u s => pairs_sem.trans (hs u s)⟩
  · intro p hp
    obtain ⟨t, ht, rfl⟩ := List.mem_map.1 hp
    exact h.ne t ht
  · intro p hp
    obtain ⟨t, ht, rfl⟩ := List.mem_map.1 hp
    exact ⟨rising_nodup (h.ok t ht).rise, (h.ok t ht).inn⟩

structure RefOK (x : Sgr) (hid : Int) (k : Nat) (l : List Trc) : Prop where
 tok : TOK x (k : Int) l
 sem : ∀ u s, TSem l u s ↔ SV x hid k u s

theorem more_ok {x : Sgr} (hx : SgOk x) {hid : Int} {k : Nat} {l : List Trc} (h : RefOK x hid k l) : RefOK x hid (k + 1) (more x hid l) := by
  have hm := mok_all hx (hid := hid) h.tok.many l.length 0 (.inr ⟨rfl, rfl⟩)
  refine ⟨⟨?_, ?_, ?_, ?_⟩, fun u s => ?_⟩
  · unfold more; rw [List.map_map]; exact hm.tok.nod
  · intro t ht
    obtain ⟨y, hy, rfl⟩ := List.mem_map.1 ht
    exact (still_ok hx hid (hm.tok.ok y hy)).1
  · intro t ht
    obtain ⟨y, hy, rfl⟩ := List.mem_map.1 ht
    exact hm.tok.many y hy
  · intro t ht
    obtain ⟨y, hy, rfl⟩ := List.mem_map.1 ht
    obtain ⟨b, hb⟩ := List.exists_mem_of_ne_nil _ (hm.tok.ne y hy)
    exact List.ne_nil_of_mem (((still_ok hx hid (hm.tok.ok y hy)).2 b).2 (.base hb))
  · have hone : ∀ y ∈ morR x hid l l.length 0, ∀ z ∈ morR x hid l l.length 0, y.seen = z.seen → y = z := by
      intro y hy z hz e
      obtain ⟨i, hi, rfl⟩ := List.mem_iff_getElem.1 hy
      obtain ⟨j, hj, rfl⟩ := List.mem_iff_getElem.1 hz
      have hp := List.pairwise_iff_getElem.1 hm.tok.nod
      rcases Nat.lt_trichotomy i j with h1 | h1 | h1
      · exact absurd (by rw [List.getElem_map, List.getElem_map]; exact e) (hp i j (by simpa using hi) (by simpa using hj) h1)
      · subst h1; rfl
      · exact absurd (by rw [List.getElem_map, List.getElem_map]; exact e.symm) (hp j i (by simpa using hj) (by simpa using hi) h1)
    constructor
    · rintro ⟨t, ht, rfl, hs⟩
      obtain ⟨y, hy, rfl⟩ := List.mem_map.1 ht
      refine (((still_ok hx hid (hm.tok.ok y hy)).2 s).1 hs).mono (fun _ _ h => h) fun b hb => ?_
      obtain ⟨j, t, a, h1 | ⟨h1, h2⟩, h3, rfl, h4, h5, h6, h7⟩ := (hm.sem _ _).1 ⟨y, hy, rfl, hb⟩
      · exact ⟨(l.getD j default).seen, a, h1.2, h4, (h.sem _ _).1 ⟨_, getD_mem h3, rfl, hasI_mem.1 h5⟩, h6, h7⟩
      · simp at h2
    · intro hs
      refine Rch.ind (fun s => TSem (more x hid l) u s) ?_ ?_ hs
      · rintro b ⟨v, a, ha, h1, h2, rfl, rfl⟩
        obtain ⟨t, ht, rfl, h3⟩ := (h.sem _ _).2 h2
        obtain ⟨j, hj, rfl⟩ := List.mem_iff_getElem.1 ht
        have hg : l[j] = l.getD j default := by simp [hj]
        obtain ⟨y, hy, h4, h5⟩ := (hm.sem (l[j].seen ++ wrd x a) a.dst).2 ⟨j, _, a, .inl ⟨hj, ha⟩, hj, hg, h1, hasI_mem.2 h3, rfl, rfl⟩
        exact ⟨_, List.mem_map.2 ⟨y, hy, rfl⟩, h4, ((still_ok hx hid (hm.tok.ok y hy)).2 _).2 (.base h5)⟩
      · rintro a b ⟨t, ht, h1, h2⟩ he
        obtain ⟨y, hy, rfl⟩ := List.mem_map.1 ht
        exact ⟨_, ht, h1, ((still_ok hx hid (hm.tok.ok y hy)).2 _).2 (.step (((still_ok hx hid (hm.tok.ok y hy)).2 _).1 h2) he)⟩

theorem zero_ok {x : Sgr} (hx : SgOk x) : TrcOk x.codes.length ⟨[], [0], 0⟩ := by
 have := hx.len
 exact ⟨by simp [Rising], fun a ha => by rw [List.mem_singleton] at ha; subst ha; exact ⟨by omega, by simp; omega⟩⟩

theorem lev_ok {x : Sgr} (hx : SgOk x) (hid : Int) : ∀ k, RefOK x hid k (lev x hid k)
  | 0 => by
    have h := still_ok hx hid (zero_ok hx)
    refine ⟨⟨by simp [lev], ?_, ?_, ?_⟩, fun u s => ?_⟩
    · intro t ht
      rw [lev, List.mem_singleton] at ht
      subst ht; exact h.1
    · intro t ht
      rw [lev, List.mem_singleton] at ht
      subst ht; rfl
    · intro t ht
      rw [lev, List.mem_singleton] at ht
      subst ht
      exact List.ne_nil_of_mem ((h.2 0).2 (.base (by simp)))
    · rw [lev, tsem_cons, SV]
      constructor
      · rintro (⟨rfl, h2⟩ | ⟨t, ht, _⟩)
        · exact ⟨rfl, (h.2 s).1 h2⟩
        · simp at ht
      · rintro ⟨rfl, h2⟩; exact .inl ⟨rfl, (h.2 s).2 h2⟩
  | k + 1 => more_ok hx (lev_ok hx hid k)

theorem lev_lok {x : Sgr} (hx : SgOk x) (hid : Int) (k : Nat) : LOK x hid k (pairs (lev x hid k)) := tok_lok (lev_ok hx hid k).tok (lev_ok hx hid k).sem
/-! what is put out -/

def putSs (o : List (List UInt8)) (l : List Trc) : List (List UInt8) := l.foldl (fun o t => put15 o t.seen) o

def putSk (o : List (List UInt8)) (l : List Trc) (k : Nat) : List (List UInt8) := putSs o (l.take k)

theorem putSk_succ {o : List (List UInt8)} {l : List Trc} {k : Nat} (h : k < l.length) : put15 (putSk o l k) (l.getD k default).seen = putSk o l (k + 1) := by
 have hg : l.getD k default = l[k] := by simp [h]
 unfold putSk putSs
 rw [hg, List.take_succ_eq_append_getElem h, List.foldl_append]; rfl

def outS (x : Sgr) (hid : Int) : Nat → List (List UInt8)
 | 0 => putSs [] (lev x hid 0)
 | k + 1 => putSs (outS x hid k) (lev x hid (k + 1))

def catS (x : Sgr) (hid : Int) : Nat → List (List UInt8)
 | 0 => (lev x hid 0).map Trc.seen
 | k + 1 => catS x hid k ++ (lev x hid (k + 1)).map Trc.seen

theorem put14_perm (l : List (List UInt8)) (x : List UInt8) : (put14 l x).Perm (l ++ [x]) := by
 unfold put14
 refine List.perm_middle.trans ?_
 rw [List.takeWhile_append_dropWhile]
 exact (List.perm_append_singleton x l).symm

theorem putSs_perm : ∀ {l : List Trc} {o : List (List UInt8)}, (l.map Trc.seen).Nodup → (∀ u ∈ l.map Trc.seen, u ∉ o) → (putSs o l).Perm (o ++ l.map Trc.seen)
  | [], o, _, _ => by simp [putSs]
  | t :: l, o, hn, hd => by
    rw [List.map_cons, List.nodup_cons] at hn
    have h1 : put15 o t.seen = put14 o t.seen := by
      unfold put15
      rw [if_neg]
      intro h
      exact hd t.seen (by simp) (hasS_mem.1 h)
    have h2 := put14_perm o t.seen
    have ih := putSs_perm (l := l) (o := put15 o t.seen) hn.2 (fun u hu hm => by
      rw [h1] at hm
      rcases List.mem_append.1 (h2.subset hm) with h3 | h3
      · exact hd u (by rw [List.map_cons]; exact List.mem_cons_of_mem _ hu) h3
      · rw [List.mem_singleton] at h3; subst h3; exact hn.1 hu)
    show (putSs (put15 o t.seen) l).Perm _
    refine ih.trans ?_
    rw [h1, List.map_cons]
    refine (h2.append_right _).trans ?_
    rw [List.append_assoc]; exact List.Perm.refl _

theorem lev_cnt {x : Sgr} (hx : SgOk x) {hid : Int} {k : Nat} {u : List UInt8} (hu : u ∈ (lev x hid k).map Trc.seen) : cntS u = k := by
 rw [← pairs_fst, (lev_lok hx hid k).key] at hu
 obtain ⟨s, hs⟩ := hu
 exact (hs.text hx).2.1

theorem cat_cnt {x : Sgr} (hx : SgOk x) {hid : Int} : ∀ {k : Nat} {u : List UInt8}, u ∈ catS x hid k → cntS u ≤ k
  | 0, u, hu => by rw [lev_cnt hx hu]; exact Nat.le_refl _
  | k + 1, u, hu => by
    rcases List.mem_append.1 hu with hu | hu
    · have := cat_cnt hx hu; omega
    · rw [lev_cnt hx hu]; exact Nat.le_refl _

theorem out_perm {x : Sgr} (hx : SgOk x) (hid : Int) : ∀ k, (outS x hid k).Perm (catS x hid k)
 | 0 => by
  have := putSs_perm (l := lev x hid 0) (o := []) (lev_ok hx hid 0).tok.nod (fun u _ => List.not_mem_nil)
  simpa [outS, catS] using this
 | k + 1 => by
  have ih := out_perm hx hid k
  refine (putSs_perm (lev_ok hx hid (k + 1)).tok.nod fun u hu hm => ?_).trans (ih.append_right _)
  have h1 := lev_cnt hx hu
  have h2 := cat_cnt hx (ih.subset hm)
  omega

theorem cat_nod {x : Sgr} (hx : SgOk x) (hid : Int) : ∀ k, (catS x hid k).Nodup
 | 0 => (lev_ok hx hid 0).tok.nod
 | k + 1 => by
  unfold catS
  rw [List.nodup_append]
  refine ⟨cat_nod hx hid k, (lev_ok hx hid (k + 1)).tok.nod, fun a ha b hb e => ?_⟩
  subst e
  have h1 := lev_cnt hx hb
  have h2 := cat_cnt hx ha
  omega

theorem putSs_rise : ∀ {l : List Trc} {o : List (List UInt8)}, Rise leS o → Rise leS (putSs o l)
 | [], _, h => h
 | t :: l, o, h => putSs_rise (l := l) (put15_rise h)

theorem out_rise (x : Sgr) (hid : Int) : ∀ k, Rise leS (outS x hid k)
 | 0 => putSs_rise (by simp [Rise])
 | k + 1 => putSs_rise (out_rise x hid k)

theorem out_sort {x : Sgr} (hx : SgOk x) {hid : Int} {k : Nat} {o : List (List UInt8)} (h : o.Perm (catS x hid k)) : o.mergeSort leS = outS x hid k := by
 have h1 : (o.mergeSort leS).Pairwise (fun a b => leS a b = true) := List.pairwise_mergeSort (fun a b c h1 h2 => linS.trans a b c h1 h2) (fun a b => linS.total a b) o
 have h2 : (o.mergeSort leS).Nodup := (List.mergeSort_perm o leS).nodup_iff.2 (h.nodup_iff.2 (cat_nod hx hid k))
 have h3 : Rise leS (o.mergeSort leS) := List.Pairwise.and h1 h2
 refine rise_ext linS h3 (out_rise x hid k) fun a => ?_
 rw [List.mem_mergeSort, h.mem_iff, (out_perm hx hid k).mem_iff]

theorem out_len {x : Sgr} (hx : SgOk x) (hid : Int) (k : Nat) : (outS x hid k).length = (catS x hid k).length := (out_perm hx hid k).length_eq

theorem out_mono {x : Sgr} (hx : SgOk x) (hid : Int) {k : Nat} : ∀ {m : Nat}, k ≤ m → (outS x hid k).length ≤ (outS x hid m).length
  | 0, h => by rw [Nat.le_zero.1 h]; exact Nat.le_refl _
  | m + 1, h => by
    by_cases e : k = m + 1
    · rw [e]; exact Nat.le_refl _
    · have := out_mono hx hid (k := k) (m := m) (by omega)
      rw [out_len hx hid (m + 1)]
      rw [out_len hx hid m] at this
      unfold catS
      rw [List.length_append]; omega

theorem lev_le {x : Sgr} (hx : SgOk x) (hid : Int) (k : Nat) : (lev x hid k).length ≤ (outS x hid k).length := by
 rw [out_len hx]
 cases k with
 | zero => simp [catS]
 | succ k => unfold catS; simp

theorem lev_nil {x : Sgr} {hid : Int} {k : Nat} (h : lev x hid k = []) : ∀ {m : Nat}, k ≤ m → outS x hid m = outS x hid k ∧ lev x hid m = []
  | 0, hm => by
    obtain rfl : k = 0 := by omega
    exact ⟨rfl, h⟩
  | m + 1, hm => by
    by_cases e : k = m + 1
    · subst e; exact ⟨rfl, h⟩
    · obtain ⟨h1, h2⟩ := lev_nil h (m := m) (by omega)
      have h3 : lev x hid (m + 1) = [] := by rw [lev, h2]; rfl
      exact ⟨by rw [outS, h3]; exact h1, h3⟩

def trOk (x : Sgr) (hid most : Int) : Bool := sgB x && (withinB hid (-1) ((x.sigs.length : Int) - 1) && withinB most 0 6)

def trB (x : Sgr) (hid most : Int) : Bool := trOk x hid most && decide ((outS x hid most.toNat).length ≤ 400)

def trV (x : Sgr) (hid most : Int) : List (List UInt8) := if trB x hid most then outS x hid most.toNat else []

theorem tr_no {x : Sgr} {hid most : Int} (h : trOk x hid most = false) : trB x hid most = false := by rw [trB, h]; rfl

theorem tr_noV {x : Sgr} {hid most : Int} (h : trB x hid most = false) : trV x hid most = [] := by rw [trV, h]; rfl

theorem tr_many {x : Sgr} (hx : SgOk x) {hid most : Int} {k : Nat} (hk : k ≤ most.toNat) (h : 400 < (outS x hid k).length) : trB x hid most = false := by
 have := out_mono hx hid hk
 rw [trB, decide_eq_false (by omega), Bool.and_false]

theorem tr_few {x : Sgr} {hid most : Int} (h0 : trOk x hid most = true) (h : (outS x hid most.toNat).length ≤ 400) : trB x hid most = true := by
 rw [trB, h0, decide_eq_true h]; rfl

theorem zero_in {x : Sgr} (hx : SgOk x) : ∀ a ∈ [(0 : Int)], 0 ≤ a ∧ a.toNat < x.codes.length := by
 have := hx.len
 intro a ha
 rw [List.mem_singleton] at ha
 subst ha
 exact ⟨by omega, by simp; omega⟩

structure TrI (x : Sgr) (hid : Int) (m : Nat) (q : Nat × List (List UInt8) × LvT) : Prop where
 le : q.1 ≤ m
 lok : LOK x hid q.1 q.2.2
 perm : q.2.1.Perm (catS x hid q.1)
 few : q.2.1.length ≤ 400

theorem TrI.zero {x : Sgr} (hx : SgOk x) (hid : Int) (m : Nat) : TrI x hid m (0, [[]], [([], cloF x hid [0])]) := by
  have h := clo_ok hx hid (s := [0]) (by simp) (zero_in hx)
  refine ⟨Nat.zero_le _, ⟨by simp, ?_, ?_, fun u s => ?_⟩, List.Perm.refl _, by simp⟩
  · intro p hp
    rw [List.mem_singleton] at hp
    subst hp
    exact List.ne_nil_of_mem ((h.2 0).2 (.base (by simp)))
  · intro p hp
    rw [List.mem_singleton] at hp
    subst hp
    exact ⟨h.1.1, h.1.2.1⟩
  · dsimp only [SV]
    constructor
    · rintro ⟨p, hp, rfl, hs⟩
      rw [List.mem_singleton] at hp
      subst hp
      exact ⟨rfl, (h.2 s).1 hs⟩
    · rintro ⟨rfl, hs⟩
      exact ⟨_, List.mem_singleton.2 rfl, rfl, (h.2 s).2 hs⟩

theorem TrI.lv {x : Sgr} (hx : SgOk x) {hid : Int} {m : Nat} {q : Nat × List (List UInt8) × LvT} (h : TrI x hid m q) : q.2.2.length ≤ 400 := by
 have h1 := (h.lok.perm (lev_lok hx hid q.1)).length_eq
 rw [pairs_fst, List.length_map, List.length_map] at h1
 have h2 := lev_le hx hid q.1
 rw [out_len hx, ← h.perm.length_eq] at h2
 have := h.few
 omega

theorem TrI.cat {x : Sgr} (hx : SgOk x) {hid : Int} {m : Nat} {q : Nat × List (List UInt8) × LvT} (h : TrI x hid m q) {N : LvT} (hl : LOK x hid (q.1 + 1) N) {o : List (List UInt8)} (hp : o.Perm (q.2.1 ++ N.map Prod.fst)) : o.Perm (catS x hid (q.1 + 1)) := by
 refine hp.trans ?_
 unfold catS
 refine List.Perm.append h.perm ?_
 have := hl.perm (lev_lok hx hid (q.1 + 1))
 rwa [pairs_fst] at this

theorem tr_over {x : Sgr} (hx : SgOk x) {hid most : Int} {q : Nat × List (List UInt8) × LvT} {o : List (List UInt8)} (hp : o.Perm (catS x hid (q.1 + 1))) (hk : q.1 < most.toNat) (h : 400 < o.length) : trB x hid most = false ∧ [] = trV x hid most := by
 have h1 := tr_many hx (hid := hid) (most := most) (k := q.1 + 1) (by omega) (by rw [out_len hx, ← hp.length_eq]; exact h)
 exact ⟨h1, (tr_noV h1).symm⟩

theorem tr_end {x : Sgr} (hx : SgOk x) {hid most : Int} (h0 : trOk x hid most = true) {q : Nat × List (List UInt8) × LvT} (h : TrI x hid most.toNat q) (hk : most.toNat ≤ q.1) : true = trB x hid most ∧ q.2.1.mergeSort leS = trV x hid most := by
 have e : q.1 = most.toNat := Nat.le_antisymm h.le hk
 have h1 : trB x hid most = true := tr_few h0 (by rw [← e, out_len hx, ← h.perm.length_eq]; exact h.few)
 refine ⟨h1.symm, ?_⟩
 rw [out_sort hx h.perm, trV, h1, if_pos rfl, e]

theorem tr_bad {x : Sgr} {hid most : Int} (h : trOk x hid most = false) : false = trB x hid most ∧ [] = trV x hid most := ⟨(tr_no h).symm, (tr_noV (tr_no h)).symm⟩

theorem tr_bad1 {x : Sgr} {hid most : Int} (h : sgB x = false) : false = trB x hid most ∧ [] = trV x hid most := tr_bad (by rw [trOk, h]; rfl)

theorem tr_bad2 {x : Sgr} {hid most : Int} (h : withinB hid (-1) ((x.sigs.length : Int) - 1) = false) : false = trB x hid most ∧ [] = trV x hid most := tr_bad (by rw [trOk, h, Bool.false_and, Bool.and_false])

theorem tr_bad3 {x : Sgr} {hid most : Int} (h : withinB most 0 6 = false) : false = trB x hid most ∧ [] = trV x hid most := tr_bad (by rw [trOk, h, Bool.and_false, Bool.and_false])

set_option maxHeartbeats 4000000 in
theorem sp_impl_Traces (x : Sgr) (hid most : Int) (hb : x.bulk ≤ 1048576) : Sp Tryz.prog 7 [(.agg [(.slice false 2 (x.sigs.map Sgn.d)), (.slice false 1 (x.codes.map D.str)), (.slice false 4 (x.arcs.map Arc.d))]), (.int .i64 hid), (.int .i64 most)] [.any, .any, .any] (.tup [(.slice true 1 ((trV x hid most).map D.str)), (.bool (trB x hid most))]) := by
 refine Sp_intro (lend := true) Tryz.func7 rfl rfl rfl (fun _ => rfl) (fun c hc hX => ?_)
 obtain ⟨hp0, hp1, hp2⟩ := Sgr.parts hb
 have hn0 := bulkF_len hp0
 have hn1 := bulk_len hp1
 have hx1 := bulk_mem hp1
 have hn2 := bulkF_len hp2
 refine Ts hc (Ch.s (.ptr 3000 0) (.box 3000 _ _ rfl (.aggD _)) (Ch.s (.c (.slice none 0 0)) pa (Ch.s (dB false) pa (Ch.nil (Tq (Tq ?_))))))
 refine Tz hc (Ch.s (.agg (vX x)) (lA ag33 sz33 rfl rfl (lb rfl) rfl) (Ch.s (dB (sgB x)) (.call 17000 24 _ _ _ en24 rfl (.inl rfl) (.cons lX .nil) rfl rfl (sp_impl_IsValidStateGraph x a21) (.skip _ _ .nil) rfl) (Ch.s (dB (!(sgB x))) (nT rfl) (Ch.s (dB (!(sgB x))) pm ?_))))
 cases h1 : (sgB x) with
 | true =>
  try have hx := sg_has h1
  try have hxl := hx.len
  try have hxf := hx.few
  try have hen := hx.ends
  try have hx8 := hx.eight
  refine Ch.s (dI hid) pm (Ch.s (.ptr 3000 0) (fP fld33_0 rfl) (Ch.s (.d (.slice false 2 (x.sigs.map Sgn.d))) (lP ag30 rfl rfl rfl) (Ch.s (dI (x.sigs.length : Int)) (.pure (.len _ _ 76 rfl Tryz.underlying30 (.sh _ _) (by simp))) (Ch.s (dI ((x.sigs.length : Int) - 1)) (iX rfl rfl intV_subA) (Ch.s (dB (withinB hid (-1) ((x.sigs.length : Int) - 1))) (.call 25000 25 _ _ _ en25 rfl (.inl rfl) (.cons (.d _) (.cons (.d _) (.cons (.d _) .nil))) rfl rfl (sp_impl_within hid (-1) ((x.sigs.length : Int) - 1)) (.skip _ _ (.skip _ _ (.skip _ _ .nil))) rfl) (Ch.s (dB (!(withinB hid (-1) ((x.sigs.length : Int) - 1)))) (nT rfl) (Ch.s (dB (!(withinB hid (-1) ((x.sigs.length : Int) - 1)))) (pF rfl) ?_)))))))
  refine Ch.s (dB (!(withinB hid (-1) ((x.sigs.length : Int) - 1)))) pm ?_
  cases h2 : (withinB hid (-1) ((x.sigs.length : Int) - 1)) with
  | true =>
   try have hw2 := within_two h2
   refine Ch.s (dI most) pm (Ch.s (dB (withinB most 0 6)) (.call 30000 25 _ _ _ en25 rfl (.inl rfl) (.cons (.d _) (.cons (.d _) (.cons (.d _) .nil))) rfl rfl (sp_impl_within most 0 6) (.skip _ _ (.skip _ _ (.skip _ _ .nil))) rfl) (Ch.s (dB (!(withinB most 0 6))) (nT rfl) (Ch.s (dB (!(withinB most 0 6))) (pF rfl) (Ch.nil ?_))))
   refine T_condN (b := (withinB most 0 6)) rfl (fun h3 => ?_) (fun h3 => ?_)
   ·
    try have hw3 := within_two h3
    try have ho : trOk x hid most = true := a71
    refine Ts hc (Ch.s (.c (.slice none 0 0)) pa (Ch.s (dB false) pa (Ch.nil (T_ret ?_))))
    exact eR [(.c (.slice none 0 0)), (dB false)] [] [] (.cons (.tmp 6 rfl) (.cons (.tmp 7 rfl) .nil)) eC (.tup (.cons (Exp.of (congrArg (D.slice true 1) a3) (.nil true 1)) (.cons (Exp.of (congrArg D.bool a3) (.d _)) .nil)))
   ·
    try have hw3 := within_two h3
    try have ho : trOk x hid most = true := a71
    refine Tk (Ts hc (Ch.s (.row 33000) (.slice 33000 _ 9 _ rfl sty23 (xs := [.const (.string { data := #[] })]) rfl rfl (.cons (.d _) .nil) rfl rfl (by decide)) (Ch.s (.mp 34000) (.makeMap 34000 _ rfl) (Ch.s (.agg (vX x)) (lA ag33 sz33 rfl rfl (lb rfl) rfl) (Ch.s (.row 36000) (.slice 36000 _ 3 _ rfl sty44 (xs := [.const (.int .i64 0)]) rfl rfl (.cons (.d _) .nil) rfl rfl (by decide)) (Ch.s (dI hid) pm ?_))))))
    refine Ch.s (.d (.slice false 1 ((cloF x hid ([0])).map (fun n : Int => D.int .i64 n)))) (.callFz 38000 26 _ _ _ en26 rfl (.inl rfl) (.cons lX (.cons (.lend (.row (ys := (([0]).map (fun n : Int => D.int .i64 n))) rfl rfl)) (.cons (.d _) .nil))) (solid_row (fun _ => rfl) _) (sp_impl_closed x ([0]) hid a21 (by assumption) (by first | assumption | exact tidI_nodup _ | decide) a51) (slice_froz (frozs_map (fun _ => rfl) _)) rfl) (Ch.s .junk (.mapUpd (d := intsD (cloF x hid ([0]))) _ _ _ _ 44 (.inr rfl) mty55 rfl rfl rfl (.d _) rfl rfl (putK_D [] ([]) (cloF x hid ([0])))) (Ch.s (.mp 34000) pm (Ch.s (.row 33000) pa (Ch.s (.mp 34000) pa (Ch.nil (Tq (Tq ?_)))))))
    refine Tz hc (Ch.s (dI most) pm (Ch.s (dI 0) pm (Ch.nil (Tb ?_))))
    refine T_loop (ι := Nat × List (List UInt8) × LvT) (fun q => { n := 88, sl := [(1, (dI hid)), (3, (.ptr 3000 0)), (8, (.row 8)), (9, (.mp 9)), (40, (dI most)), (41, (dI (q.1 : Int)))], hp := [(8, (some (.row 1 (q.2.1.map D.str)))), (9, (some (.mapo (mpK q.2.2) (mpD q.2.2)))), (3000, (some (.box (vX x))))], pin := [] }) (fun q => TrI x hid most.toNat q) (fun q => most.toNat - q.1) ⟨(0, [[]], [([], cloF x hid [0])]), (TrI.zero hx hid _), (Wk.ren [(8, 33000), (9, 34000)] rfl rfl rfl rfl (ar (ar (ar (ar (ar (ai (vI a67) trivial)))))) (ai (oR a67) (ai (oMD (M := (putM [] ([]) (cloF x hid ([0])))) (by rfl)) (ar trivial))))⟩ (fun q hp0 => ?_)
    have hlv0 := hp0.lv hx; have hfw := hp0.few
    refine Ts hc (Ch.s (dB (decide ((q.1 : Int) < most))) (iX rfl rfl rfl) (Ch.nil (Tq ?_)))
    refine T_condD (p := ((q.1 : Int) < most)) rfl (fun h4 => ?_) (fun h4 => ?_)
    ·
     refine Tk (Tq (Tb (Ts hc (Ch.s (.mp 43000) (.makeMap 43000 _ rfl) (Ch.s (.mp 43000) pa (Ch.nil ?_))))))
     refine Tq (Ts hc (Ch.s (.mp 9) pm (Ch.s (.ptr 45000 0) (.range (nn := q.2.2.length) 45000 _ _ 44 rfl mty55 rfl rfl (mpK_len _)) (Ch.nil (Tb ?_)))))
     refine T_loop (ι := List Nat × Option Nat × LvT) (fun r => { n := 88, sl := [(1, (dI hid)), (3, (.ptr 3000 0)), (8, (.row 8)), (10, (.mp 10)), (40, (dI most)), (41, (dI (q.1 : Int))), (45, (.ptr 45000 0))], hp := [(8, (some (.row 1 (q.2.1.map D.str)))), (9, (some (.mapo (mpK q.2.2) (mpD q.2.2)))), (10, (some (.mapo (mpK r.2.2) (mpD r.2.2)))), (3000, (some (.box (vX x)))), (45000, (some (.iter 9 q.2.2.length r.1 r.2.1)))], pin := [] }) (fun r => R1 x hid q.2.2 r) (fun r => r.1.length) ⟨(List.range q.2.2.length, none, []), (R1.zero x hid q.2.2), (Wk.ren [(10, 43000)] rfl rfl rfl rfl (ar (ar (ar (ar (ar (ar (ar trivial))))))) (ar (ar (ai (oMD (M := []) (by rfl)) (ar (ai (oI rfl rfl rfl) trivial))))))⟩ (fun r hp1 => ?_)
     refine Tq (Tz hc ?_)
     refine Ch.next _ rfl rfl rfl rfl rfl (mpK_len q.2.2).symm rfl (fun hz46 => ?_) (fun j46 hj46 hk46 => ?_)
     ·
      have hlv := hp1.end hx hp0.lok hz46
      have hfr := hp1.few
      have hfr1 := congrArg List.length hz46
      rw [List.length_nil] at hfr1
      refine Ch.s (dB false) (xT rfl rfl) (Ch.nil (Tq ?_))
      refine T_cond (b := false) rfl (fun h => nomatch h) (fun _ => ?_)
      refine T_exit (Tq (Ts hc (Ch.s (.mp 10) pm (Ch.s (.ptr 71000 0) (.range (nn := r.2.2.length) 71000 _ _ 44 rfl mty55 rfl rfl (mpK_len _)) (Ch.nil (Tb ?_))))))
      refine T_loop (ι := List Nat × Option Nat × List (List UInt8)) (fun t => { n := 88, sl := [(1, (dI hid)), (3, (.ptr 3000 0)), (8, (.row 8)), (10, (.mp 10)), (40, (dI most)), (41, (dI (q.1 : Int))), (71, (.ptr 71000 0))], hp := [(8, (some (.row 1 (t.2.2.map D.str)))), (10, (some (.mapo (mpK r.2.2) (mpD r.2.2)))), (3000, (some (.box (vX x)))), (71000, (some (.iter 10 r.2.2.length t.1 t.2.1)))], pin := [] }) (fun t => R3 r.2.2 q.2.1 t) (fun t => t.1.length) ⟨(List.range r.2.2.length, none, q.2.1), (R3.zero r.2.2 q.2.1), (Wk.of rfl rfl (ar (ar (ar (ar (ar (ar (ar trivial))))))) (ai (oR (by first | rfl | (rw [List.map_append]; rfl))) (ar (ar (ai (oI rfl rfl rfl) trivial)))))⟩ (fun t hp2 => ?_)
      have htl := hp2.len
      refine Tq (Tz hc ?_)
      refine Ch.next _ rfl rfl rfl rfl rfl (mpK_len r.2.2).symm rfl (fun hz72 => ?_) (fun j72 hj72 hk72 => ?_)
      ·
       have hct := hp0.cat hx hlv (hp2.end hz72)
       refine Ch.s (dB false) (xT rfl rfl) (Ch.nil (Tq ?_))
       refine T_cond (b := false) rfl (fun h => nomatch h) (fun _ => ?_)
       refine T_exit (Tq (Ts hc (Ch.s (.row 8) pm (Ch.s (dI (t.2.2.length : Int)) (.pure (.len _ _ 9 rfl Tryz.underlying23 (.row rfl) (by simp))) (Ch.s (dB (decide (400 < (t.2.2.length : Int)))) (iX rfl rfl rfl) (Ch.nil ?_))))))
       refine T_condD (p := (400 < (t.2.2.length : Int))) rfl (fun h5 => ?_) (fun h5 => ?_)
       ·
        refine Ts hc (Ch.s (.c (.slice none 0 0)) pa (Ch.s (dB false) pa (Ch.nil (T_ret ?_))))
        exact eR [(.c (.slice none 0 0)), (dB false)] [] [] (.cons (.tmp 6 rfl) (.cons (.tmp 7 rfl) .nil)) eC (.tup (.cons (Exp.of (congrArg (D.slice true 1) a3) (.nil true 1)) (.cons (Exp.of (congrArg D.bool a3) (.d _)) .nil)))
       ·
        refine Tk (Tz hc (Ch.s (.mp 10) pm (Ch.s (.mp 10) pa (Ch.nil (Tz hc (Ch.s (dI ((q.1 : Int) + 1)) (iX rfl rfl intV_addA) (Ch.s (dI ((q.1 : Int) + 1)) pm ?_)))))))
        refine Ch.nil ?_
        refine Exists.intro ((q.1 + 1, t.2.2, r.2.2)) (And.intro ⟨by dsimp only; omega, hlv, hct, by dsimp only; omega⟩ (And.intro (by dsimp only; omega) (Wk.ren [(9, 10)] rfl rfl rfl rfl (ar (ar (ar (ar (ar (ai (vI a67) trivial)))))) (ai (oR a67) (ai (oMD (M := r.2.2) (by rfl)) (ar trivial))))))
      ·
       rw [mpK_len] at hk72
       refine Ch.s (dB true) (xT rfl rfl) (Ch.nil (Tq ?_))
       refine T_cond (b := true) rfl (fun _ => ?_) (fun h => nomatch h)
       refine Tk (Tb (Ts hc (Ch.s (.tup [(dS ((r.2.2.getD j72 default).1)), (.d (.slice false 1 (((r.2.2.getD j72 default).2).map (fun n : Int => D.int .i64 n))))]) (.entry _ rfl rfl rfl rfl (mpK_len r.2.2).symm (mpK_get hk72) (mpD_get hk72) rfl) (Ch.s (dS ((r.2.2.getD j72 default).1)) (xT rfl rfl) (Ch.s (dS ((r.2.2.getD j72 default).1)) pa (Ch.nil ?_))))))
       refine Tz hc (Ch.s (.row 8) pm (Ch.s (dS ((r.2.2.getD j72 default).1)) pm (Ch.s (.row 78000) (.slice 78000 _ 9 _ rfl sty23 (xs := [.tmp 77]) rfl rfl (.cons (.d _) .nil) rfl rfl (by decide)) ?_)))
       refine Ch.step (v := (.row 79000)) rfl (.append 79000 _ _ _ 9 rfl sty23 (by decide) (.rowK rfl) (.inr ⟨_, rfl, rfl⟩) (.row rfl rfl) rfl a33) rfl rfl ?_
       refine Ch.s (.row 79000) pa (Ch.nil ?_)
       refine Exists.intro ((lessJ t.1 j72, some j72, t.2.2 ++ [(r.2.2.getD j72 default).1])) (And.intro (hp2.step hj72) (And.intro (lessJ_lt hj72) (Wk.ren [(8, 79000)] rfl rfl rfl rfl (ar (ar (ar (ar (ar (ar (ar trivial))))))) (ai (oR (by first | rfl | (rw [List.map_append]; rfl))) (ar (ar (ai (oI rfl rfl rfl) trivial)))))))
     ·
      rw [mpK_len] at hk46
      have hLj := hp0.lok.text hx (getD_mem (l := q.2.2) (j := j46) (d := default) hk46)
      have hIj := hp0.lok.inn _ (getD_mem (l := q.2.2) (j := j46) (d := default) hk46)
      have hIl := nodup_len hIj.1 hIj.2
      refine Ch.s (dB true) (xT rfl rfl) (Ch.nil (Tq ?_))
      refine T_cond (b := true) rfl (fun _ => ?_) (fun h => nomatch h)
      refine Tk (Tb (Ts hc (Ch.s (.tup [(dS ((q.2.2.getD j46 default).1)), (.d (.slice false 1 (((q.2.2.getD j46 default).2).map (fun n : Int => D.int .i64 n))))]) (.entry _ rfl rfl rfl rfl (mpK_len q.2.2).symm (mpK_get hk46) (mpD_get hk46) rfl) (Ch.s (dS ((q.2.2.getD j46 default).1)) (xT rfl rfl) (Ch.s (.d (.slice false 1 (((q.2.2.getD j46 default).2).map (fun n : Int => D.int .i64 n)))) (xT rfl rfl) (Ch.s (dS ((q.2.2.getD j46 default).1)) pa ?_))))))
      refine Ch.s (.d (.slice false 1 (((q.2.2.getD j46 default).2).map (fun n : Int => D.int .i64 n)))) pa (Ch.nil (Ts hc (Ch.s (.agg (vX x)) (lA ag33 sz33 rfl rfl (lb rfl) rfl) (Ch.s (.d (.slice false 1 (((q.2.2.getD j46 default).2).map (fun n : Int => D.int .i64 n)))) pm (Ch.s (dI hid) pm ?_)))))
      refine Ch.step (v := (.mp 54000)) rfl (.call 54000 27 _ _ _ en27 rfl (.inl rfl) (.cons lX (.cons (.d _) (.cons (.d _) .nil))) rfl (sol (mpU_sol _) rfl) (sp_impl_after x ((q.2.2.getD j46 default).2) hid a21 (by assumption) a73) (.skip _ _ (.skip _ _ (.skip _ _ .nil))) rfl) rfl rfl ?_
      refine Ch.s (.ptr 55000 0) (.range (nn := (afL x hid ((q.2.2.getD j46 default).2)).length) 55000 _ _ 44 rfl mty55 rfl rfl (mpK_len _)) (Ch.nil (Tb ?_))
      refine T_loop (ι := List Nat × Option Nat × List D × LvT) (fun s => { n := 88, sl := [(1, (dI hid)), (3, (.ptr 3000 0)), (8, (.row 8)), (10, (.mp 10)), (11, (dS ((q.2.2.getD j46 default).1))), (40, (dI most)), (41, (dI (q.1 : Int))), (45, (.ptr 45000 0)), (55, (.ptr 55000 0))], hp := [(8, (some (.row 1 (q.2.1.map D.str)))), (9, (some (.mapo (mpK q.2.2) (mpD q.2.2)))), (10, (some (.mapo (mpK s.2.2.2) (mpD s.2.2.2)))), (3000, (some (.box (vX x)))), (45000, (some (.iter 9 q.2.2.length (lessJ r.1 j46) (some j46)))), (54000, (some (.mapo (mpK (afL x hid ((q.2.2.getD j46 default).2))) s.2.2.1))), (55000, (some (.iter 54000 ((afL x hid ((q.2.2.getD j46 default).2)).length) s.1 s.2.1)))], pin := [] }) (fun s => R2 x hid q.2.2 r j46 s) (fun s => s.1.length) ⟨(List.range (afL x hid (q.2.2.getD j46 default).2).length, none, mpU (afL x hid (q.2.2.getD j46 default).2), r.2.2), (R2.zero hp1 hj46), (Wk.of rfl rfl (ar (ar (ar (ar (ar (ar (ar (ar (ar trivial))))))))) (ar (ar (ai (oMD (M := r.2.2) (by rfl)) (ar (ar (ai (oM rfl (by rfl)) (ai (oI rfl rfl rfl) trivial))))))))⟩ (fun s hp3 => ?_)
      refine Tq (Tz hc ?_)
      refine Ch.next _ rfl rfl rfl rfl rfl (mpK_len (afL x hid ((q.2.2.getD j46 default).2))).symm rfl (fun hz56 => ?_) (fun j56 hj56 hk56 => ?_)
      ·
       refine Ch.s (dB false) (xT rfl rfl) (Ch.nil (Tq ?_))
       refine T_cond (b := false) rfl (fun h => nomatch h) (fun _ => ?_)
       refine T_exit ?_
       refine Exists.intro ((lessJ r.1 j46, some j46, s.2.2.2)) (And.intro (hp1.step hx hj46 hp3 hz56) (And.intro (lessJ_lt hj46) (Wk.of rfl rfl (ar (ar (ar (ar (ar (ar (ar trivial))))))) (ar (ar (ai (oMD (M := s.2.2.2) (by rfl)) (ar (ai (oI rfl rfl rfl) trivial))))))))
      ·
       rw [mpK_len] at hk56
       have hto := af_at hx (getD_mem (l := (afL x hid (q.2.2.getD j46 default).2)) (j := j56) (d := default) hk56)
       refine Ch.s (dB true) (xT rfl rfl) (Ch.nil (Tq ?_))
       refine T_cond (b := true) rfl (fun _ => ?_) (fun h => nomatch h)
       refine Tk (Tb (Ts hc (Ch.s (.tup [(dS (((afL x hid ((q.2.2.getD j46 default).2)).getD j56 default).1)), (.row 58000)]) (.entryT (sz := 1) (ys := ((afL x hid ((q.2.2.getD j46 default).2)).getD j56 default).2.map fun n : Int => D.int .i64 n) 58000 _ rfl rfl rfl rfl (mpK_len (afL x hid ((q.2.2.getD j46 default).2))).symm (mpK_get hk56) (hp3.has _ hj56)) (Ch.s (dS (((afL x hid ((q.2.2.getD j46 default).2)).getD j56 default).1)) (xT rfl rfl) (Ch.s (.row 58000) (xT rfl rfl) (Ch.s (dS (((afL x hid ((q.2.2.getD j46 default).2)).getD j56 default).1)) pa ?_))))))
       refine Ch.s (.row 58000) pa (Ch.nil ?_)
       refine T_regionD hc (by kernel_rfl) ?_
       refine ChD.s (.mp 10) [] pm (ChD.s (dS ((q.2.2.getD j46 default).1)) [] pm (ChD.s (dS (((afL x hid ((q.2.2.getD j46 default).2)).getD j56 default).1)) [] pm (ChD.s (dS (((q.2.2.getD j46 default).1) ++ (((afL x hid ((q.2.2.getD j46 default).2)).getD j56 default).1))) [] (.pure (.str _ _ _ _ _ rfl rfl rfl (strV_add a24))) (ChD.s (.agg (vX x)) [3000] (lA ag33 sz33 rfl rfl (lb rfl) rfl) (ChD.s (.row 58000) [] pm (ChD.s (.row 67000) [58000] (.call 67000 28 _ _ _ en28 rfl (.inl rfl) (.cons (.row rfl) .nil) rfl (sol (solid_row (fun _ => rfl) _) rfl) (sp_impl_tidy (((afL x hid ((q.2.2.getD j46 default).2)).getD j56 default).2) a21) (.skip _ _ .nil) rfl) (ChD.s (dI hid) [] pm ?_)))))))
       refine ChD.s (.d (.slice false 1 ((cloF x hid (tidI (((afL x hid ((q.2.2.getD j46 default).2)).getD j56 default).2))).map (fun n : Int => D.int .i64 n)))) [67000] (.callFz 69000 26 _ _ _ en26 rfl (.inl rfl) (.cons lX (.cons (.lend (.row rfl (frozs_map (fun _ => rfl) _))) (.cons (.d _) .nil))) (solid_row (fun _ => rfl) _) (sp_impl_closed x (tidI (((afL x hid ((q.2.2.getD j46 default).2)).getD j56 default).2)) hid a21 (by assumption) (by first | assumption | exact tidI_nodup _ | decide) a51) (slice_froz (frozs_map (fun _ => rfl) _)) rfl) (ChD.s .junk [10] (.mapUpd (d := intsD (cloF x hid (tidI (((afL x hid ((q.2.2.getD j46 default).2)).getD j56 default).2)))) _ _ _ _ 44 (.inl rfl) mty55 rfl rfl rfl (.d _) rfl rfl (putK_D s.2.2.2 (((q.2.2.getD j46 default).1) ++ (((afL x hid ((q.2.2.getD j46 default).2)).getD j56 default).1)) (cloF x hid (tidI (((afL x hid ((q.2.2.getD j46 default).2)).getD j56 default).2))))) ?_)
       refine ChD.nil (And.intro ?_ (by kernel_rfl))
       refine Exists.intro ((lessJ s.1 j56, some j56, s.2.2.1.set j56 .any, putM s.2.2.2 (ent x hid q.2.2 j46 j56).1 (ent x hid q.2.2 j46 j56).2)) (And.intro (R2.step hx hp0.lok hp1 hj46 hp3 hj56) (And.intro (lessJ_lt hj56) (Wk.of rfl rfl (ar (ar (ar (ar (ar (ar (ar (ar (ar trivial))))))))) (ar (ar (ai (oMD (M := (putM s.2.2.2 (((q.2.2.getD j46 default).1) ++ (((afL x hid ((q.2.2.getD j46 default).2)).getD j56 default).1)) (cloF x hid (tidI (((afL x hid ((q.2.2.getD j46 default).2)).getD j56 default).2))))) (by rfl)) (ar (ar (ai (oM rfl (by rfl)) (ai (oI rfl rfl rfl) trivial))))))))))
    ·
     refine T_exit (Ts hc (Ch.s (.row 8) pm ?_))
     refine Ch.step (v := (.tup [])) rfl (.call 86000 29 _ _ _ en29 rfl (.inl rfl) (.cons (.row rfl) .nil) rfl (sol rfl (solids_c (solid_row (fun _ => rfl) _) rfl)) (sp_Sort_str q.2.1 a21) (.row _ _ _ .nil) rfl) rfl rfl ?_
     refine Ch.nil (Ts hc (Ch.s (.row 8) pm (Ch.s (.row 8) pa (Ch.s (dB true) pa (Ch.nil (T_ret ?_))))))
     exact eR [(.row 8), (dB true)] [] [8] (.cons (.tmp 6 rfl) (.cons (.tmp 7 rfl) .nil)) eC (.tup (.cons (Exp.of (congrArg (D.slice true 1) a3) (.row rfl)) (.cons (Exp.of (congrArg D.bool a3) (.d _)) .nil)))
  | false =>
   try have hw2 := within_two h2
   refine Ck (Ck (Ck (Ch.s (dB true) (pT rfl) (Ch.nil ?_))))
   refine T_cond (b := true) rfl (fun _ => ?_) (fun h => nomatch h)
   refine Ts hc (Ch.s (.c (.slice none 0 0)) pa (Ch.s (dB false) pa (Ch.nil (T_ret ?_))))
   exact eR [(.c (.slice none 0 0)), (dB false)] [] [] (.cons (.tmp 6 rfl) (.cons (.tmp 7 rfl) .nil)) eC (.tup (.cons (Exp.of (congrArg (D.slice true 1) a3) (.nil true 1)) (.cons (Exp.of (congrArg D.bool a3) (.d _)) .nil)))
 | false =>
  try have hx := sg_has h1
  try have hxl := hx.len
  try have hxf := hx.few
  try have hen := hx.ends
  try have hx8 := hx.eight
  refine Ck (Ck (Ck (Ck (Ck (Ck (Ck (Ch.s (dB true) (pT rfl) ?_)))))))
  refine Ch.s (dB true) pm (Ck (Ck (Ck (Ch.s (dB true) (pT rfl) (Ch.nil ?_)))))
  refine T_cond (b := true) rfl (fun _ => ?_) (fun h => nomatch h)
  refine Ts hc (Ch.s (.c (.slice none 0 0)) pa (Ch.s (dB false) pa (Ch.nil (T_ret ?_))))
  exact eR [(.c (.slice none 0 0)), (dB false)] [] [] (.cons (.tmp 6 rfl) (.cons (.tmp 7 rfl) .nil)) eC (.tup (.cons (Exp.of (congrArg (D.slice true 1) a3) (.nil true 1)) (.cons (Exp.of (congrArg D.bool a3) (.d _)) .nil)))

theorem put14_new {l : List (List UInt8)} {u : List UInt8} {k : Nat} (hk : k ≤ l.length) (h1 : ∀ j, j < k → Op.bytesLess (l.getD j default) u = true) (h2 : k < l.length → Op.bytesLess (l.getD k default) u = false) : l.take k ++ [u] ++ l.drop k = put14 l u := by
 have key : ∀ (l : List (List UInt8)) (k : Nat), k ≤ l.length → (∀ j, j < k → Op.bytesLess (l.getD j default) u = true) → (k < l.length → Op.bytesLess (l.getD k default) u = false) → l.takeWhile (fun b => Op.bytesLess b u) = l.take k ∧ l.dropWhile (fun b => Op.bytesLess b u) = l.drop k := by
  intro l
  induction l with
  | nil => intro k _ _ _; simp
  | cons b l ih =>
   intro k hk h1 h2
   cases k with
   | zero =>
    have h3 := h2 (by simp)
    have h4 : Op.bytesLess b u = false := by simpa using h3
    rw [List.takeWhile_cons, List.dropWhile_cons]
    simp [h4]
   | succ k =>
    have h3 : Op.bytesLess b u = true := by simpa using h1 0 (by omega)
    obtain ⟨e1, e2⟩ := ih k (by simpa using hk) (fun j hj => by simpa using h1 (j + 1) (by omega)) (fun hl => by simpa using h2 (by simpa using hl))
    rw [List.takeWhile_cons, List.dropWhile_cons]
    simp [h3, e1, e2]
 obtain ⟨e1, e2⟩ := key l k hk h1 h2
 unfold put14
 rw [e1, e2]
 simp

def stlK (x : Sgr) (hid : Int) (s : List Int) (k m : Nat) : List Int := (x.arcs.take m).foldl (putC (silB hid)) (reachL (silB hid) x.arcs k s)

theorem stl_next {x : Sgr} {hid : Int} {s : List Int} {k m : Nat} (h : x.arcs.length ≤ m) : stlK x hid s k m = reachL (silB hid) x.arcs (k + 1) s := by
 rw [stlK, List.take_of_length_le h]; rfl

theorem stl_succ {x : Sgr} {hid : Int} {s : List Int} {k m : Nat} (h : m < x.arcs.length) : stlK x hid s k (m + 1) = putC (silB hid) (stlK x hid s k m) (x.arcs.getD m default) := by
 have hg : x.arcs.getD m default = x.arcs[m] := by simp [h]
 unfold stlK
 rw [List.take_succ_eq_append_getElem h, List.foldl_append, hg]; rfl

theorem stl_ok {x : Sgr} (hen : ends x.codes.length x.arcs) (hid : Int) {s : List Int} (hr : Rising s) (hin : ∀ a ∈ s, 0 ≤ a ∧ a.toNat < x.codes.length) (k : Nat) : ∀ m, m ≤ x.arcs.length → Rising (stlK x hid s k m) ∧ (stlK x hid s k m).length ≤ x.codes.length := by
  have step : ∀ m, m ≤ x.arcs.length → Rising (stlK x hid s k m) ∧ ∀ a ∈ stlK x hid s k m, 0 ≤ a ∧ a.toNat < x.codes.length := by
    intro m
    induction m with
    | zero => intro _; exact reachL_rising (silB hid) hen hr hin k
    | succ m ih =>
      intro hm
      obtain ⟨h1, h2⟩ := ih (by omega)
      rw [stl_succ (by omega)]
      unfold putC
      split
      · refine ⟨putI_rising h1, fun a ha => ?_⟩
        rcases putI_mem.1 ha with ha | rfl
        · exact h2 a ha
        · exact (hen _ (getD_mem (by omega))).2
      · exact ⟨h1, h2⟩
  intro m hm
  obtain ⟨h1, h2⟩ := step m hm
  exact ⟨h1, (rising_len h1 h2).2⟩

theorem stl_put {x : Sgr} {hid : Int} {s : List Int} {k m : Nat} (h : m < x.arcs.length) (h2 : silB hid (x.arcs.getD m default) = true) (h1 : hasI (stlK x hid s k m) (x.arcs.getD m default).src = true) : putI (stlK x hid s k m) (x.arcs.getD m default).dst = stlK x hid s k (m + 1) := by
 rw [stl_succ h, putC, h1, h2, Bool.and_self, if_pos rfl]

theorem stl_out {x : Sgr} {hid : Int} {s : List Int} {k m : Nat} (h : m < x.arcs.length) (h1 : hasI (stlK x hid s k m) (x.arcs.getD m default).src = false) : stlK x hid s k m = stlK x hid s k (m + 1) := by
 rw [stl_succ h, putC, h1, Bool.false_and, if_neg (by decide)]

theorem stl_vis {x : Sgr} {hid : Int} {s : List Int} {k m : Nat} (h : m < x.arcs.length) (h2 : silB hid (x.arcs.getD m default) = false) : stlK x hid s k m = stlK x hid s k (m + 1) := by
 rw [stl_succ h, putC, h2, Bool.and_false, if_neg (by decide)]

def stO (x : Sgr) (hid : Int) (o : List Trc) (k : Nat) : List Trc := (o.take k).map (stT x hid) ++ o.drop k

theorem stO_zero (x : Sgr) (hid : Int) (o : List Trc) : stO x hid o 0 = o := by simp [stO]

theorem stO_len (x : Sgr) (hid : Int) (o : List Trc) (k : Nat) : (stO x hid o k).length = o.length := by simp [stO]; omega

theorem stO_all {x : Sgr} {hid : Int} {o : List Trc} {k : Nat} (h : o.length ≤ k) : stO x hid o k = o.map (stT x hid) := by
 unfold stO
 rw [List.take_of_length_le h, List.drop_eq_nil_of_le h, List.append_nil]

theorem stO_at {x : Sgr} {hid : Int} {o : List Trc} {k : Nat} (h : k < o.length) : (stO x hid o k).getD k default = o.getD k default := by
 unfold stO
 have e : ((o.take k).map (stT x hid)).length = k := by simp; omega
 simp only [List.getD_eq_getElem?_getD]
 rw [List.getElem?_append_right (by omega), e, Nat.sub_self, List.getElem?_drop, Nat.add_zero]

theorem stO_succ {x : Sgr} {hid : Int} {o : List Trc} {k : Nat} (h : k < o.length) : (stO x hid o k).set k (stT x hid (o.getD k default)) = stO x hid o (k + 1) := by
 unfold stO
 have e : ((o.take k).map (stT x hid)).length = k := by simp; omega
 have hg : o.getD k default = o[k] := by simp [h]
 rw [List.set_append_right _ _ (by omega), e, Nat.sub_self, List.drop_eq_getElem_cons h, List.set_cons_zero, List.take_succ_eq_append_getElem h, List.map_append, hg, List.append_assoc]
 rfl

theorem put15_same {l : List (List UInt8)} {u : List UInt8} {k : Nat} (hk : k < l.length) (h : l.getD k default = u) : l = put15 l u := by
 unfold put15
 rw [if_pos (hasS_mem.2 (h ▸ getD_mem hk))]

theorem put15_new {l : List (List UInt8)} {u : List UInt8} {k : Nat} (hr : Rise leS l) (hk : k ≤ l.length) (h1 : ∀ j, j < k → Op.bytesLess (l.getD j default) u = true) (h2 : k < l.length → Op.bytesLess (l.getD k default) u = false) (h3 : k < l.length → ¬ l.getD k default = u) : l.take k ++ [u] ++ l.drop k = put15 l u := by
  have hn : ¬ hasS l u = true := by
    intro h
    obtain ⟨j, hj, e⟩ := List.mem_iff_getElem.1 (hasS_mem.1 h)
    have ej : l.getD j default = u := by simp [hj, e]
    rcases Nat.lt_trichotomy j k with hjk | hjk | hjk
    · have := h1 j hjk
      rw [ej, bl_irr] at this; cases this
    · subst hjk; exact h3 hj ej
    · have hkl : k < l.length := by omega
      have hp := List.pairwise_iff_getElem.1 hr k j hkl hj hjk
      have ek : l.getD k default = l[k] := by simp [hkl]
      rw [e, ← ek, leS_bl] at hp
      refine hp.2 (bl_tri (by rw [h2 hkl]; decide) ?_)
      intro h4
      rw [h4] at hp
      exact absurd hp.1 (by decide)
  unfold put15
  rw [if_neg hn]
  exact put14_new hk h1 h2
/-! the reference's rounds -/

def preS (x : Sgr) (hid : Int) : Nat → List (List UInt8)
 | 0 => []
 | k + 1 => outS x hid k

theorem pre_put (x : Sgr) (hid : Int) : ∀ k, putSs (preS x hid k) (lev x hid k) = outS x hid k
 | 0 => rfl
 | _ + 1 => rfl

theorem preS_rise (x : Sgr) (hid : Int) : ∀ k, Rise leS (preS x hid k)
 | 0 => by simp [preS, Rise]
 | k + 1 => out_rise x hid k

theorem putSk_rise {o : List (List UInt8)} (l : List Trc) (k : Nat) (h : Rise leS o) : Rise leS (putSk o l k) := putSs_rise h

theorem putSk_len (o : List (List UInt8)) (l : List Trc) : ∀ k, (putSk o l k).length ≤ o.length + k
  | 0 => by simp [putSk, putSs]
  | k + 1 => by
    by_cases h : k < l.length
    · rw [← putSk_succ h]
      have h1 := putSk_len o l k
      have h2 : (put15 (putSk o l k) (l.getD k default).seen).length ≤ (putSk o l k).length + 1 := by
        unfold put15
        split
        · omega
        · rw [put14_len]; exact Nat.le_refl _
      omega
    · have : putSk o l (k + 1) = putSk o l k := by unfold putSk; rw [List.take_of_length_le (by omega), List.take_of_length_le (by omega)]
      rw [this]; have := putSk_len o l k; omega

theorem putSk_all {o : List (List UInt8)} {l : List Trc} {k : Nat} (h : l.length ≤ k) : putSk o l k = putSs o l := by unfold putSk; rw [List.take_of_length_le h]

structure SpI (x : Sgr) (hid : Int) (m k : Nat) : Prop where
 le : k ≤ m
 few : (preS x hid k).length ≤ 400

theorem more_few {x : Sgr} (hx : SgOk x) {hid : Int} {k : Nat} {l : List Trc} (h : RefOK x hid k l) (hl : l.length ≤ 400) : (more x hid l).length ≤ 1600000 := by
 have hm := (mok_all hx (hid := hid) h.tok.many l.length 0 (.inr ⟨rfl, rfl⟩)).len
 unfold more
 rw [List.length_map]
 have := Nat.mul_le_mul_right 4000 hl
 rw [Nat.add_zero] at hm
 exact Nat.le_trans hm this

theorem lev_few {x : Sgr} (hx : SgOk x) {hid : Int} {k : Nat} (h : (preS x hid k).length ≤ 400) : (lev x hid k).length ≤ 1600000 := by
 cases k with
 | zero => simp [lev]
 | succ k =>
  rw [lev]
  exact more_few hx (lev_ok hx hid k) (Nat.le_trans (lev_le hx hid k) h)

theorem lev_text {x : Sgr} (hx : SgOk x) {hid : Int} {k : Nat} {t : Trc} (ht : t ∈ lev x hid k) : t.seen.length ≤ 7 * k := by
 have h1 : t.seen ∈ (lev x hid k).map Trc.seen := List.mem_map.2 ⟨t, ht, rfl⟩
 rw [← pairs_fst, (lev_lok hx hid k).key] at h1
 obtain ⟨s, hs⟩ := h1
 exact (hs.text hx).2.2

theorem ts_over {x : Sgr} (hx : SgOk x) {hid most : Int} {k : Nat} (hk : k ≤ most.toNat) (h : 400 < (outS x hid k).length) : false = trB x hid most ∧ [] = trV x hid most := by
 have h1 := tr_many hx (hid := hid) (most := most) hk h
 exact ⟨h1.symm, (tr_noV h1).symm⟩

theorem ts_end {x : Sgr} {hid most : Int} (h0 : trOk x hid most = true) {k : Nat} (hk : k ≤ most.toNat) (hf : (outS x hid k).length ≤ 400) (he : (lev x hid k).length = 0 ∨ k = most.toNat) : true = trB x hid most ∧ outS x hid k = trV x hid most := by
  have e : outS x hid most.toNat = outS x hid k := by
    rcases he with he | he
    · exact (lev_nil (List.eq_nil_of_length_eq_zero he) hk).1
    · rw [he]
  have h1 : trB x hid most = true := tr_few h0 (by rw [e]; exact hf)
  exact ⟨h1.symm, by rw [trV, h1, if_pos rfl, e]⟩

theorem setT_at {l : List Trc} {k : Nat} (h : k < l.length) (p : List Int) : (setT l k p).getD k default = ⟨(l.getD k default).seen, p, (l.getD k default).many⟩ := by
 unfold setT
 rw [getD_set, if_pos ⟨rfl, h⟩]

theorem setT_zero {l : List Trc} {k : Nat} (h : k < l.length) : setT l k (foldPk [] (l.getD k default).pos 0) = l := by
  unfold setT foldPk
  apply List.ext_getElem
  · simp
  · intro j h1 h2
    rw [List.getElem_set]
    split
    · rename_i e; subst e; simp [h]
    · rfl

theorem setT_zero' {l : List Trc} {k : Nat} (q : List Int) (h : k < l.length) : l = setT l k (foldPk q (l.getD k default).pos 0) := by
 have := setT_zero h
 unfold foldPk at this ⊢
 simpa using this.symm

theorem setT_step {l : List Trc} {q : List Int} {k m : Nat} (h : k < l.length) (hm : m < q.length) (a : D) :
  (((setT l k (foldPk q (l.getD k default).pos m)).map Trc.u).set k a).set k (D.agg [.str ((setT l k (foldPk q (l.getD k default).pos m)).getD k default).seen, .slice true 1 ((putI ((setT l k (foldPk q (l.getD k default).pos m)).getD k default).pos (q.getD m default)).map fun n : Int => D.int .i64 n), .int .i64 ((setT l k (foldPk q (l.getD k default).pos m)).getD k default).many])
   = (setT l k (foldPk q (l.getD k default).pos (m + 1))).map Trc.u := by
 rw [List.set_set, setT_at h, ← foldPk_succ hm]
 unfold setT
 rw [List.map_set, List.map_set, List.set_set]
 rfl

theorem putT_hit {l : List Trc} {t : Trc} {k m : Nat} (hk : k < l.length) (h0 : ∀ j, j < k → ¬ ((l.getD j default).seen = t.seen ∧ (l.getD j default).many = t.many)) (h1 : (l.getD k default).seen = t.seen) (h2 : (l.getD k default).many = t.many) (hm : t.pos.length ≤ m) : (setT l k (foldPk t.pos (l.getD k default).pos m)).map Trc.u = (putT l t).map Trc.u := by
 rw [putT_at hk h0 ⟨h1, h2⟩, foldPk, List.take_of_length_le hm]

theorem putT_out {l : List Trc} {t : Trc} (h : ∀ j, j < l.length → ¬ ((l.getD j default).seen = t.seen ∧ (l.getD j default).many = t.many)) : l.map Trc.u ++ [Trc.u t] = (putT l t).map Trc.u := by
 rw [putT_none h, List.map_append]; rfl

theorem stO_step {x : Sgr} {hid : Int} {o : List Trc} {k : Nat} (h : k < o.length) (a : D) :
  (((stO x hid o k).map Trc.u).set k a).set k (D.agg [.str ((stO x hid o k).getD k default).seen, .slice true 1 ((still x hid ((stO x hid o k).getD k default).pos).map fun n : Int => D.int .i64 n), .int .i64 ((stO x hid o k).getD k default).many]) = (stO x hid o (k + 1)).map Trc.u := by
 rw [List.set_set, stO_at h, ← stO_succ h, List.map_set]; rfl

theorem trc_one {n : Nat} {u : List UInt8} {a m : Int} (h : 0 ≤ a ∧ a.toNat < n) : TrcOk n ⟨u, [a], m⟩ := ⟨by simp [Rising], fun b hb => by rw [List.mem_singleton] at hb; subst hb; exact h⟩

theorem stO_ok {x : Sgr} {hid : Int} {n : Nat} {o : List Trc} (h : ∀ t ∈ o, TrcOk n t) {k : Nat} (hk : k < o.length) : TrcOk n ((stO x hid o k).getD k default) := by
 rw [stO_at hk]; exact h _ (getD_mem hk)

theorem putSk_end {x : Sgr} {hid : Int} {k m : Nat} (hm : (lev x hid k).length ≤ m) : putSk (preS x hid k) (lev x hid k) m = preS x hid (k + 1) := by rw [putSk_all hm, pre_put]; rfl

theorem out_le4 {x : Sgr} {hid : Int} {k m : Nat} (hm : (lev x hid k).length ≤ m) (h : (putSk (preS x hid k) (lev x hid k) m).length ≤ 400) : (outS x hid k).length ≤ 400 := by
 rw [putSk_all hm, pre_put] at h; exact h

theorem lev_le4 {x : Sgr} (hx : SgOk x) {hid : Int} {k m : Nat} (hm : (lev x hid k).length ≤ m) (h : (putSk (preS x hid k) (lev x hid k) m).length ≤ 400) : (lev x hid k).length ≤ 400 := Nat.le_trans (lev_le hx hid k) (out_le4 hm h)

theorem ts_over' {x : Sgr} (hx : SgOk x) {hid most : Int} {k m : Nat} (hm : (lev x hid k).length ≤ m) (hk : k ≤ most.toNat) (h : 400 < (putSk (preS x hid k) (lev x hid k) m).length) : false = trB x hid most ∧ [] = trV x hid most :=
 ts_over hx hk (by rw [putSk_all hm, pre_put] at h; exact h)

theorem ts_end' {x : Sgr} {hid most : Int} (h0 : trOk x hid most = true) {k m : Nat} (hm : (lev x hid k).length ≤ m) (hk : k ≤ most.toNat) (h : (putSk (preS x hid k) (lev x hid k) m).length ≤ 400) (he : (lev x hid k).length = 0 ∨ k = most.toNat) : true = trB x hid most ∧ putSk (preS x hid k) (lev x hid k) m = trV x hid most := by
 have h1 := ts_end h0 hk (out_le4 hm h) he
 rw [putSk_all hm, pre_put]; exact h1

theorem trV_le {x : Sgr} {hid most : Int} : (trV x hid most).length ≤ 400 := by
  unfold trV
  split
  · rename_i h
    unfold trB at h
    rw [Bool.and_eq_true] at h
    exact of_decide_eq_true h.2
  · simp

theorem sp_l1OwnS_b (xs : List (List UInt8)) (hn : xs.length ≤ 16777216) : Sp Tryz.prog 42 [(.slice false 1 (xs.map D.str))] [.any] (.slice true 1 (xs.map D.str)) := by
 refine Sp_intro (lend := true) Tryz.func42 rfl rfl rfl (fun _ => rfl) (fun c hc hX => ?_)
 refine Ts hc (Ch.s (.c (.slice none 0 0)) pa (Ch.nil (Ts hc (Ch.s (.row 3000) (.slice 3000 _ 9 _ rfl sty23 (xs := []) rfl rfl .nil rfl rfl (by decide)) (Ch.s (.d (.slice false 1 (xs.map D.str))) pm ?_)))))
 refine Ch.step (v := (.row 5000)) rfl (.append 5000 _ _ _ 9 rfl sty23 (by decide) (.rowK rfl) (.inr ⟨_, rfl, rfl⟩) (.sh _ _) rfl a33) rfl rfl ?_
 refine Ch.s (.row 5000) pa (Ch.nil (T_ret ?_))
 exact eR [(.row 5000)] [] [5000] (.cons (.tmp 2 rfl) .nil) eA (.row rfl)

end Go.AM
