/-
  The contracts that the law FnExactParseArcs needs.
-/
import Derived.Test.YtlnimdlpggnjeaaGreatDoorZParseArcs1
namespace Go.AM
open Go.Proofs
set_option linter.unusedVariables false
set_option linter.unusedSimpArgs false

theorem sp_impl_transitionName (x : Stg) (t : Nat) (hv : StgV x) (ht : t < x.trans.length) : Sp Tryz.prog 48 [(.agg [(.int .i64 x.places), (.slice false 2 (x.trans.map Tra.d)), (.slice false 2 (x.sigs.map Sgn.d)), (.slice false 2 (x.labs.map Lab.d)), (.str x.start)]), (.int .i64 (t : Int))] [.any, .any] (.str (trnT x.sigs x.labs t)) := by
 refine Sp_intro (lend := true) Tryz.func48 rfl rfl rfl (fun _ => rfl) (fun c hc hX => ?_)
 have hx := stg_sm hv; obtain ⟨⟨h0, h0u⟩, hts, hsg, hlb, hst⟩ := hx; have hn1 := hts.1; have hn2 := hsg.1; have v1 := hv.p1; have v2 := hv.p30; have v3 := hv.t24; have v4 := hv.s1; have v5 := hv.s8; have v6 := hv.lab; have v7 := hv.st; have hed := (hv.edg _ (getD_mem (l := x.labs) (j := t) (d := default) (by omega))).2; have hel := edgT_le (fun y hy => (hv.nam y hy).2.1) hed; have hx := stg_sm hv; have hll := labI_len x.labs (x.labs.getD t default) x.labs.length; have hc1 := cntL_le x.labs (x.labs.getD t default) t; have hnl := numS_len (cntL x.labs (x.labs.getD t default) t + 1)
 refine Ts hc (Ch.s (.ptr 2000 0) (.box 2000 _ _ rfl (.aggD _)) (Ch.s (dS []) pa (Ch.nil (Tq ?_))))
 refine T_regionD hc (by kernel_rfl) ?_
 refine ChD.s (.ptr 2000 2) [] (fP fld28_1 rfl) (ChD.s (.d (.slice false 2 (x.sigs.map Sgn.d))) [2000] (lP ag25 rfl rfl rfl) (ChD.s (.ptr 2000 3) [] (fP fld28_2 rfl) (ChD.s (.d (.slice false 2 (x.labs.map Lab.d))) [2000] (lP ag26 rfl rfl rfl) (ChD.s (dI (t : Int)) [] pm (ChD.s (.d (.ref (.agg [(.int .i64 ((x.labs.getD t default).sig)), (.bool ((x.labs.getD t default).up))]))) [] (.pure (.idx _ _ _ 67 (t) rfl Tryz.underlying26 sz67 rfl rfl rfl get_mapA)) (ChD.s (.d (.agg [(.int .i64 ((x.labs.getD t default).sig)), (.bool ((x.labs.getD t default).up))])) [] (.pure (.loadRefA _ _ rfl ag67 sz67 rfl)) (ChD.s (dS (edgT x.sigs (x.labs.getD t default))) [] (.call 14000 69 _ _ _ en69 rfl (.inl rfl) (.cons (.d _) (.cons (.d _) .nil)) rfl rfl (sp_impl_edgeText x.sigs (x.labs.getD t default) a23 a94 a42) (.skip _ _ (.skip _ _ .nil)) rfl) ?_)))))))
 refine ChD.s (.agg [(dI x.places), (.d (.slice false 2 (x.trans.map Tra.d))), (.d (.slice false 2 (x.sigs.map Sgn.d))), (.d (.slice false 2 (x.labs.map Lab.d))), (dS x.start)]) [2000] (lA ag28 sz28 rfl rfl (lb rfl) rfl) (ChD.s (.ptr 2000 3) [] (fP fld28_2 rfl) (ChD.s (.d (.slice false 2 (x.labs.map Lab.d))) [2000] (lP ag26 rfl rfl rfl) (ChD.s (dI (t : Int)) [] pm (ChD.s (.d (.ref (.agg [(.int .i64 ((x.labs.getD t default).sig)), (.bool ((x.labs.getD t default).up))]))) [] (.pure (.idx _ _ _ 67 (t) rfl Tryz.underlying26 sz67 rfl rfl rfl get_mapA)) (ChD.s (.d (.agg [(.int .i64 ((x.labs.getD t default).sig)), (.bool ((x.labs.getD t default).up))])) [] (.pure (.loadRefA _ _ rfl ag67 sz67 rfl)) (ChD.s (.row 21000) [] (.call 21000 72 _ _ _ en72 rfl (.inl rfl) (.cons (.lend (.agg (.cons (.d _) (.cons (.d _) (.cons (.d _) (.cons (.d _) (.cons (.d _) .nil))))) rfl)) (.cons (.d _) .nil)) rfl (sol (solid_row (fun _ => rfl) _) rfl) (sp_impl_labelled x (x.labs.getD t default) (by assumption)) (.skip _ _ (.skip _ _ .nil)) rfl) (ChD.s (dS (edgT x.sigs (x.labs.getD t default))) [] pa ?_)))))))
 refine ChD.s (.row 21000) [] pa ?_
 refine ChD.nil (And.intro ?_ (by kernel_rfl))
 refine Tq (Ts hc (Ch.s (.row 21000) pm (Ch.s (dI ((labI x.labs (x.labs.getD t default) x.labs.length).length : Int)) (.pure (.len _ _ 3 rfl Tryz.underlying62 (.row rfl) (by simp))) (Ch.s (dB (decide (1 < ((labI x.labs (x.labs.getD t default) x.labs.length).length : Int)))) (iX rfl rfl rfl) (Ch.nil ?_)))))
 refine T_condD (p := (1 < ((labI x.labs (x.labs.getD t default) x.labs.length).length : Int))) rfl (fun h1 => ?_) (fun h1 => ?_)
 ·
  refine Tz hc (Ch.s (dS (edgT x.sigs (x.labs.getD t default))) pm (Ch.s (.row 21000) pm (Ch.s (dI (t : Int)) pm ?_)))
  refine Ch.step (v := (dI (cntL x.labs (x.labs.getD t default) t : Int))) rfl (.call 28000 74 _ _ _ en74 rfl (.inl rfl) (.cons (.lend (.row rfl (frozs_map (fun _ => rfl) _))) (.cons (.d _) .nil)) rfl rfl (sp_Index_lab x.labs (x.labs.getD t default) t x.labs.length (by omega) rfl (by omega)) (.skip _ _ (.skip _ _ .nil)) rfl) rfl rfl ?_
  refine Ch.s (dI ((cntL x.labs (x.labs.getD t default) t : Int) + 1)) (iX rfl rfl intV_addA) (Ch.s (dS (numS (cntL x.labs (x.labs.getD t default) t + 1))) (.call 30000 73 _ _ _ en73 rfl (.inl rfl) (.cons (.d _) .nil) rfl rfl (sp_itoa2 (cntL x.labs (x.labs.getD t default) t + 1) a7) (.skip _ _ .nil) rfl) (Ch.s (dS ([47] ++ (numS (cntL x.labs (x.labs.getD t default) t + 1)))) (.pure (.str _ _ _ _ _ rfl rfl rfl (strV_add a26))) (Ch.s (dS ((edgT x.sigs (x.labs.getD t default)) ++ ([47] ++ (numS (cntL x.labs (x.labs.getD t default) t + 1))))) (.pure (.str _ _ _ _ _ rfl rfl rfl (strV_add a26))) (Ch.s (dS ((edgT x.sigs (x.labs.getD t default)) ++ ([47] ++ (numS (cntL x.labs (x.labs.getD t default) t + 1))))) pa (Ch.nil (Tq (Tz hc ?_)))))))
  refine Ch.s (dS ((edgT x.sigs (x.labs.getD t default)) ++ ([47] ++ (numS (cntL x.labs (x.labs.getD t default) t + 1))))) pm (Ch.s (dS ((edgT x.sigs (x.labs.getD t default)) ++ ([47] ++ (numS (cntL x.labs (x.labs.getD t default) t + 1))))) pa (Ch.nil (T_ret ?_)))
  exact eR [(dS ((edgT x.sigs (x.labs.getD t default)) ++ ([47] ++ (numS (cntL x.labs (x.labs.getD t default) t + 1)))))] [] [] (.cons (.tmp 4 rfl) .nil) eB (Exp.of (congrArg D.str a40) (.d _))
 ·
  refine Tk (Ts hc (Ch.s (dS (edgT x.sigs (x.labs.getD t default))) pm (Ch.s (dS (edgT x.sigs (x.labs.getD t default))) pa (Ch.nil (T_ret ?_)))))
  exact eR [(dS (edgT x.sigs (x.labs.getD t default)))] [] [] (.cons (.tmp 4 rfl) .nil) eB (Exp.of (congrArg D.str a40) (.d _))

theorem sp_spec_l2Text (x : Stg) (t : Nat) (hv : StgV x) (ht : t < x.trans.length) : Sp Tryz.prog 38 [(.agg [(.int .i64 x.places), (.slice false 2 (x.trans.map Tra.d)), (.slice false 2 (x.sigs.map Sgn.d)), (.slice false 2 (x.labs.map Lab.d)), (.str x.start)]), (.int .i64 (t : Int))] [.any, .any] (.str (trnT x.sigs x.labs t)) := by
 refine Sp_intro (lend := true) Tryz.func38 rfl rfl rfl (fun _ => rfl) (fun c hc hX => ?_)
 have hx := stg_sm hv; obtain ⟨⟨h0, h0u⟩, hts, hsg, hlb, hst⟩ := hx; have hn1 := hts.1; have hn2 := hsg.1; have v1 := hv.p1; have v2 := hv.p30; have v3 := hv.t24; have v4 := hv.s1; have v5 := hv.s8; have v6 := hv.lab; have v7 := hv.st; have hed := (hv.edg _ (getD_mem (l := x.labs) (j := t) (d := default) (by omega))).2; have hel := edgT_le (fun y hy => (hv.nam y hy).2.1) hed; have hx := stg_sm hv; have hll := labI_len x.labs (x.labs.getD t default) x.labs.length; have hc1 := cntL_le x.labs (x.labs.getD t default) t; have hnl := numS_len (cntL x.labs (x.labs.getD t default) t + 1)
 refine Ts hc (Ch.s (.ptr 2000 0) (.box 2000 _ _ rfl (.aggD _)) (Ch.s (dS []) pa (Ch.nil (Ts hc (Ch.s (dI 0) pa ?_)))))
 refine Ch.s (dI 0) pa (Ch.nil (Tq (Ts hc (Ch.s (.ptr 2000 3) (fP fld28_2 rfl) (Ch.s (.d (.slice false 2 (x.labs.map Lab.d))) (lP ag26 rfl rfl rfl) (Ch.s (dI (x.labs.length : Int)) (.pure (.len _ _ 67 rfl Tryz.underlying26 (.sh _ _) (by simp))) ?_))))))
 refine Ch.s (dI 0) pm (Ch.nil (Tb ?_))
 refine T_loop (ι := Nat) (fun k => { n := 49, sl := [(1, (dI (t : Int))), (2, (.ptr 2000 0)), (5, (dI (cntL x.labs (x.labs.getD t default) k : Int))), (6, (dI ((cntL x.labs (x.labs.getD t default) (min k t) : Nat) : Int))), (11, (.d (.slice false 2 (x.labs.map Lab.d)))), (12, (dI (x.labs.length : Int))), (13, (dI (k : Int)))], hp := [(2000, (some (.box [(dI x.places), (.d (.slice false 2 (x.trans.map Tra.d))), (.d (.slice false 2 (x.sigs.map Sgn.d))), (.d (.slice false 2 (x.labs.map Lab.d))), (dS x.start)])))], pin := [] }) (fun k => k ≤ x.labs.length) (fun k => x.labs.length - k) ⟨0, (by omega), (Wk.of rfl rfl (ar (ar (ai (vI a50) (ai (vI a5) (ar (ar (ai (vI a87) trivial))))))) (ar trivial))⟩ (fun k hp0 => ?_)
 have hcm := cntL_le x.labs (x.labs.getD t default) k; have hca := cntL_le x.labs (x.labs.getD t default) (min k t); have hnl2 := numS_len (cntL x.labs (x.labs.getD t default) (min k t) + 1)
 refine Ts hc (Ch.s (dB (decide ((k : Int) < (x.labs.length : Int)))) (iX rfl rfl rfl) (Ch.nil (Tq ?_)))
 refine T_condD (p := ((k : Int) < (x.labs.length : Int))) rfl (fun h1 => ?_) (fun h1 => ?_)
 ·
  refine Tk (Tq (Tb (Ts hc (Ch.s (dI (k : Int)) pm (Ch.s (.d (.ref (.agg [(.int .i64 ((x.labs.getD k default).sig)), (.bool ((x.labs.getD k default).up))]))) (.pure (.idx _ _ _ 67 (k) rfl Tryz.underlying26 sz67 rfl rfl rfl get_mapA)) (Ch.s (.d (.agg [(.int .i64 ((x.labs.getD k default).sig)), (.bool ((x.labs.getD k default).up))])) (.pure (.loadRefA _ _ rfl ag67 sz67 rfl)) ?_))))))
  refine Ch.s (.ptr 8000 0) (.alloc 8000 _ rfl zer67) (Ch.s (dI (k : Int)) pa (Ch.s .junk (.storePtr _ _ _ rfl rfl rfl (.aggD _) sz67 (lb rfl)) (Ch.nil (Tq ?_))))
  refine T_regionD hc (by kernel_rfl) ?_
  refine ChD.s (.agg [(dI ((x.labs.getD k default).sig)), (dB ((x.labs.getD k default).up))]) [8000] (lA ag67 sz67 rfl rfl (lb rfl) rfl) (ChD.s (.ptr 2000 3) [] (fP fld28_2 rfl) (ChD.s (.d (.slice false 2 (x.labs.map Lab.d))) [2000] (lP ag26 rfl rfl rfl) (ChD.s (dI (t : Int)) [] pm (ChD.s (.d (.ref (.agg [(.int .i64 ((x.labs.getD t default).sig)), (.bool ((x.labs.getD t default).up))]))) [] (.pure (.idx _ _ _ 67 (t) rfl Tryz.underlying26 sz67 rfl rfl rfl get_mapA)) (ChD.s (.d (.agg [(.int .i64 ((x.labs.getD t default).sig)), (.bool ((x.labs.getD t default).up))])) [] (.pure (.loadRefA _ _ rfl ag67 sz67 rfl)) (ChD.s (dB (decide ((x.labs.getD k default) = (x.labs.getD t default)))) [] (.pure (.eqA _ _ _ _ rfl (eqa67 _ _ _ _) (.v [(.int .i64 ((x.labs.getD k default).sig)), (.bool ((x.labs.getD k default).up))]) (.d _) (Lab.eqv (x.labs.getD k default) (x.labs.getD t default)))) ?_))))))
  refine ChD.nil (And.intro ?_ (by kernel_rfl))
  refine T_condD (p := ((x.labs.getD k default) = (x.labs.getD t default))) rfl (fun h2 => ?_) (fun h2 => ?_)
  ·
   refine Ts hc (Ch.s (dI (cntL x.labs (x.labs.getD t default) k : Int)) pm (Ch.s (dI ((cntL x.labs (x.labs.getD t default) k : Int) + 1)) (iX rfl rfl intV_addA) (Ch.s (dI ((cntL x.labs (x.labs.getD t default) k : Int) + 1)) pa (Ch.nil (Tq (Tz hc ?_))))))
   refine Ch.s (dI (k : Int)) pm (Ch.s (dI (t : Int)) pm (Ch.s (dB (decide ((k : Int) < (t : Int)))) (iX rfl rfl rfl) (Ch.nil ?_)))
   refine T_condD (p := ((k : Int) < (t : Int))) rfl (fun h3 => ?_) (fun h3 => ?_)
   ·
    refine Tz hc (Ch.s (dI ((cntL x.labs (x.labs.getD t default) (min k t) : Nat) : Int)) pm (Ch.s (dI (((cntL x.labs (x.labs.getD t default) (min k t) : Nat) : Int) + 1)) (iX rfl rfl intV_addA) (Ch.s (dI (((cntL x.labs (x.labs.getD t default) (min k t) : Nat) : Int) + 1)) pa (Ch.nil (Tz hc (Ch.s (dI ((k : Int) + 1)) (iX rfl rfl intV_addA) (Ch.s (dI ((k : Int) + 1)) pm ?_)))))))
    refine Ch.nil ?_
    exact nx (k + 1) (by omega) (Wk.of rfl rfl (ar (ar (ai (vI a50) (ai (vI a5) (ar (ar (ai (vI a87) trivial))))))) (ar trivial))
   ·
    refine Tk (Tz hc (Ch.s (dI ((k : Int) + 1)) (iX rfl rfl intV_addA) (Ch.s (dI ((k : Int) + 1)) pm (Ch.nil ?_))))
    exact nx (k + 1) (by omega) (Wk.of rfl rfl (ar (ar (ai (vI a50) (ai (vI a5) (ar (ar (ai (vI a87) trivial))))))) (ar trivial))
  ·
   refine Tk (Tz hc (Ch.s (dI ((k : Int) + 1)) (iX rfl rfl intV_addA) (Ch.s (dI ((k : Int) + 1)) pm (Ch.nil ?_))))
   exact nx (k + 1) (by omega) (Wk.of rfl rfl (ar (ar (ai (vI a50) (ai (vI a5) (ar (ar (ai (vI a87) trivial))))))) (ar trivial))
 ·
  refine T_exit (Tq ?_)
  refine T_regionD hc (by kernel_rfl) ?_
  refine ChD.s (.agg [(dI x.places), (.d (.slice false 2 (x.trans.map Tra.d))), (.d (.slice false 2 (x.sigs.map Sgn.d))), (.d (.slice false 2 (x.labs.map Lab.d))), (dS x.start)]) [2000] (lA ag28 sz28 rfl rfl (lb rfl) rfl) (ChD.s (.ptr 2000 3) [] (fP fld28_2 rfl) (ChD.s (.d (.slice false 2 (x.labs.map Lab.d))) [2000] (lP ag26 rfl rfl rfl) (ChD.s (dI (t : Int)) [] pm (ChD.s (.d (.ref (.agg [(.int .i64 ((x.labs.getD t default).sig)), (.bool ((x.labs.getD t default).up))]))) [] (.pure (.idx _ _ _ 67 (t) rfl Tryz.underlying26 sz67 rfl rfl rfl get_mapA)) (ChD.s (.d (.agg [(.int .i64 ((x.labs.getD t default).sig)), (.bool ((x.labs.getD t default).up))])) [] (.pure (.loadRefA _ _ rfl ag67 sz67 rfl)) (ChD.s (dS (edgT x.sigs (x.labs.getD t default))) [] (.call 39000 60 _ _ _ en60 rfl (.inl rfl) (.cons (.lend (.agg (.cons (.d _) (.cons (.d _) (.cons (.d _) (.cons (.d _) (.cons (.d _) .nil))))) rfl)) (.cons (.d _) .nil)) rfl rfl (sp_spec_l2Word x (x.labs.getD t default) (by assumption) a94) (.skip _ _ (.skip _ _ .nil)) rfl) (ChD.s (dS (edgT x.sigs (x.labs.getD t default))) [] pa ?_)))))))
  refine ChD.nil (And.intro ?_ (by kernel_rfl))
  refine Tq (Ts hc (Ch.s (dI (cntL x.labs (x.labs.getD t default) k : Int)) pm (Ch.s (dB (decide (1 < (cntL x.labs (x.labs.getD t default) k : Int)))) (iX rfl rfl rfl) (Ch.nil ?_))))
  refine T_condD (p := (1 < (cntL x.labs (x.labs.getD t default) k : Int))) rfl (fun h4 => ?_) (fun h4 => ?_)
  ·
   refine Tz hc (Ch.s (dS (edgT x.sigs (x.labs.getD t default))) pm (Ch.s (dI ((cntL x.labs (x.labs.getD t default) (min k t) : Nat) : Int)) pm (Ch.s (dI (((cntL x.labs (x.labs.getD t default) (min k t) : Nat) : Int) + 1)) (iX rfl rfl intV_addA) (Ch.s (dS (numS (cntL x.labs (x.labs.getD t default) (min k t) + 1))) (.call 45000 31 _ _ _ en31 rfl (.inl rfl) (.cons (.d _) .nil) rfl rfl (sp_num2 (cntL x.labs (x.labs.getD t default) (min k t) + 1) a7) (.skip _ _ .nil) rfl) (Ch.s (dS ([47] ++ (numS (cntL x.labs (x.labs.getD t default) (min k t) + 1)))) (.pure (.str _ _ _ _ _ rfl rfl rfl (strV_add a26))) (Ch.s (dS ((edgT x.sigs (x.labs.getD t default)) ++ ([47] ++ (numS (cntL x.labs (x.labs.getD t default) (min k t) + 1))))) (.pure (.str _ _ _ _ _ rfl rfl rfl (strV_add a26))) (Ch.s (dS ((edgT x.sigs (x.labs.getD t default)) ++ ([47] ++ (numS (cntL x.labs (x.labs.getD t default) (min k t) + 1))))) pa ?_)))))))
   refine Ch.nil (Ts hc (Ch.s (dS ((edgT x.sigs (x.labs.getD t default)) ++ ([47] ++ (numS (cntL x.labs (x.labs.getD t default) (min k t) + 1))))) pm (Ch.s (dS ((edgT x.sigs (x.labs.getD t default)) ++ ([47] ++ (numS (cntL x.labs (x.labs.getD t default) (min k t) + 1))))) pa (Ch.nil (T_ret ?_)))))
   exact eR [(dS ((edgT x.sigs (x.labs.getD t default)) ++ ([47] ++ (numS (cntL x.labs (x.labs.getD t default) (min k t) + 1)))))] [] [] (.cons (.tmp 4 rfl) .nil) eB (Exp.of (congrArg D.str a20) (.d _))
  ·
   refine Tk (Ts hc (Ch.s (dS (edgT x.sigs (x.labs.getD t default))) pm (Ch.s (dS (edgT x.sigs (x.labs.getD t default))) pa (Ch.nil (T_ret ?_)))))
   exact eR [(dS (edgT x.sigs (x.labs.getD t default)))] [] [] (.cons (.tmp 4 rfl) .nil) eB (Exp.of (congrArg D.str a20) (.d _))

theorem sp_impl_users (pl : Int) (ts : List Tra) (p : Int) (hts : trS ts) : Sp Tryz.prog 47 [(.agg [(.int .i64 pl), (.slice false 2 (ts.map Tra.d))]), (.int .i64 p)] [.any, .any] (.tup [(.slice true 1 ((usrN ts Tra.pre p ts.length).map (fun n : Nat => D.int .i64 (n : Int)))), (.slice true 1 ((usrN ts Tra.post p ts.length).map (fun n : Nat => D.int .i64 (n : Int))))]) := by
 refine Sp_intro (lend := true) Tryz.func47 rfl rfl rfl (fun _ => rfl) (fun c hc hX => ?_)
 have hn := hts.1
 refine Ts hc (Ch.s (.ptr 2000 0) (.box 2000 _ _ rfl (.aggD _)) (Ch.s (.c (.slice none 0 0)) pa (Ch.s (.c (.slice none 0 0)) pa (Ch.nil (Tq (Tz hc ?_))))))
 refine Ch.s (.row 10000) (.slice 10000 _ 3 _ rfl sty62 (xs := []) rfl rfl .nil rfl rfl (by decide)) (Ch.s (.row 11000) (.slice 11000 _ 3 _ rfl sty62 (xs := []) rfl rfl .nil rfl rfl (by decide)) (Ch.s (.row 10000) pa (Ch.s (.row 11000) pa (Ch.nil (Tq (Tq (Tz hc ?_)))))))
 refine Ch.s (.ptr 2000 1) (fP fld24_1 rfl) (Ch.s (.d (.slice false 2 (ts.map Tra.d))) (lP ag22 rfl rfl rfl) (Ch.s (dI (ts.length : Int)) (.pure (.len _ _ 64 rfl Tryz.underlying22 (.sh _ _) (by simp))) (Ch.s (dI 0) pm (Ch.nil (Tb ?_)))))
 refine T_loop (ι := Nat) (fun k => { n := 39, sl := [(1, (dI p)), (6, (.row 6)), (7, (.row 7)), (13, (.d (.slice false 2 (ts.map Tra.d)))), (14, (dI (ts.length : Int))), (15, (dI (k : Int)))], hp := [(6, (some (.row 1 ((usrN ts Tra.pre p k).map (fun n : Nat => D.int .i64 (n : Int)))))), (7, (some (.row 1 ((usrN ts Tra.post p k).map (fun n : Nat => D.int .i64 (n : Int))))))], pin := [] }) (fun k => k ≤ ts.length) (fun k => ts.length - k) ⟨0, (by omega), (Wk.ren [(6, 10000), (7, 11000)] rfl rfl rfl rfl (ar (ar (ar (ar (ar (ai (vI a87) trivial)))))) (ai (oR a34) (ai (oR a34) trivial)))⟩ (fun k hp0 => ?_)
 have hu1 := usr_le ts Tra.pre p k; have hu2 := usr_le ts Tra.post p k
 refine Ts hc (Ch.s (dB (decide ((k : Int) < (ts.length : Int)))) (iX rfl rfl rfl) (Ch.nil (Tq ?_)))
 refine T_condD (p := ((k : Int) < (ts.length : Int))) rfl (fun h1 => ?_) (fun h1 => ?_)
 ·
  try have hk := hts.2 _ (getD_mem (l := ts) (j := k) (d := default) (by omega))
  try have hk1 := hk.1
  try have hk2 := hk.2
  refine Tk (Tq (Tb (Ts hc (Ch.s (dI (k : Int)) pm (Ch.s (.d (.ref (.agg [(.slice false 1 (((ts.getD k default).pre).map (fun n : Int => D.int .i64 n))), (.slice false 1 (((ts.getD k default).post).map (fun n : Int => D.int .i64 n)))]))) (.pure (.idx _ _ _ 64 (k) rfl Tryz.underlying22 sz64 rfl rfl rfl get_mapA)) (Ch.s (.d (.agg [(.slice false 1 (((ts.getD k default).pre).map (fun n : Int => D.int .i64 n))), (.slice false 1 (((ts.getD k default).post).map (fun n : Int => D.int .i64 n)))])) (.pure (.loadRefA _ _ rfl ag64 sz64 rfl)) ?_))))))
  refine Ch.s (.ptr 9000 0) (.alloc 9000 _ rfl zer64) (Ch.s (dI (k : Int)) pa (Ch.s .junk (.storePtr _ _ _ rfl rfl rfl (.aggD _) sz64 (lb rfl)) (Ch.nil (Tq (Ts hc (Ch.s (.ptr 9000 0) (fP fld64_0 rfl) ?_))))))
  refine Ch.s (.d (.slice false 1 (((ts.getD k default).pre).map (fun n : Int => D.int .i64 n)))) (lP ag62 rfl rfl rfl) (Ch.s (dI p) pm (Ch.s (dB (hasI ((ts.getD k default).pre) p)) (.call 23000 71 _ _ _ en71 rfl (.inl rfl) (.cons (.d _) (.cons (.d _) .nil)) rfl rfl (sp_Contains_int ((ts.getD k default).pre) p a23) (.skip _ _ (.skip _ _ .nil)) rfl) (Ch.nil ?_)))
  refine T_cond (b := (hasI ((ts.getD k default).pre) p)) rfl (fun h2 => ?_) (fun h2 => ?_)
  ·
   refine Tz hc (Ch.s (.row 6) pm (Ch.s (dI (k : Int)) pm (Ch.s (.row 26000) (.slice 26000 _ 3 _ rfl sty62 (xs := [.tmp 25]) rfl rfl (.cons (.d _) .nil) rfl rfl (by decide)) ?_)))
   refine Ch.step (v := (.row 27000)) rfl (.append 27000 _ _ _ 3 rfl sty62 (by decide) (.rowK rfl) (.inr ⟨_, rfl, rfl⟩) (.row rfl rfl) rfl a30) rfl rfl ?_
   refine Ch.s (.row 27000) pa (Ch.nil (Ts hc (Ch.s (.ptr 9000 1) (fP fld64_1 rfl) (Ch.s (.d (.slice false 1 (((ts.getD k default).post).map (fun n : Int => D.int .i64 n)))) (lP ag62 rfl rfl rfl) (Ch.s (dI p) pm (Ch.s (dB (hasI ((ts.getD k default).post) p)) (.call 31000 71 _ _ _ en71 rfl (.inl rfl) (.cons (.d _) (.cons (.d _) .nil)) rfl rfl (sp_Contains_int ((ts.getD k default).post) p a23) (.skip _ _ (.skip _ _ .nil)) rfl) ?_))))))
   refine Ch.nil ?_
   refine T_cond (b := (hasI ((ts.getD k default).post) p)) rfl (fun h3 => ?_) (fun h3 => ?_)
   ·
    refine Tz hc (Ch.s (.row 7) pm (Ch.s (dI (k : Int)) pm (Ch.s (.row 34000) (.slice 34000 _ 3 _ rfl sty62 (xs := [.tmp 33]) rfl rfl (.cons (.d _) .nil) rfl rfl (by decide)) ?_)))
    refine Ch.step (v := (.row 35000)) rfl (.append 35000 _ _ _ 3 rfl sty62 (by decide) (.rowK rfl) (.inr ⟨_, rfl, rfl⟩) (.row rfl rfl) rfl a30) rfl rfl ?_
    refine Ch.s (.row 35000) pa (Ch.nil (Tz hc (Ch.s (dI ((k : Int) + 1)) (iX rfl rfl intV_addA) (Ch.s (dI ((k : Int) + 1)) pm (Ch.nil ?_)))))
    exact nx (k + 1) (by omega) (Wk.ren [(6, 27000), (7, 35000)] rfl rfl rfl rfl (ar (ar (ar (ar (ar (ai (vI a87) trivial)))))) (ai (oR a34) (ai (oR a34) trivial)))
   ·
    refine Tk (Tz hc (Ch.s (dI ((k : Int) + 1)) (iX rfl rfl intV_addA) (Ch.s (dI ((k : Int) + 1)) pm (Ch.nil ?_))))
    exact nx (k + 1) (by omega) (Wk.ren [(6, 27000)] rfl rfl rfl rfl (ar (ar (ar (ar (ar (ai (vI a87) trivial)))))) (ai (oR a34) (ai (oR a34) trivial)))
  ·
   refine Tk (Ts hc (Ch.s (.ptr 9000 1) (fP fld64_1 rfl) (Ch.s (.d (.slice false 1 (((ts.getD k default).post).map (fun n : Int => D.int .i64 n)))) (lP ag62 rfl rfl rfl) (Ch.s (dI p) pm (Ch.s (dB (hasI ((ts.getD k default).post) p)) (.call 31000 71 _ _ _ en71 rfl (.inl rfl) (.cons (.d _) (.cons (.d _) .nil)) rfl rfl (sp_Contains_int ((ts.getD k default).post) p a23) (.skip _ _ (.skip _ _ .nil)) rfl) (Ch.nil ?_))))))
   refine T_cond (b := (hasI ((ts.getD k default).post) p)) rfl (fun h4 => ?_) (fun h4 => ?_)
   ·
    refine Tz hc (Ch.s (.row 7) pm (Ch.s (dI (k : Int)) pm (Ch.s (.row 34000) (.slice 34000 _ 3 _ rfl sty62 (xs := [.tmp 33]) rfl rfl (.cons (.d _) .nil) rfl rfl (by decide)) ?_)))
    refine Ch.step (v := (.row 35000)) rfl (.append 35000 _ _ _ 3 rfl sty62 (by decide) (.rowK rfl) (.inr ⟨_, rfl, rfl⟩) (.row rfl rfl) rfl a30) rfl rfl ?_
    refine Ch.s (.row 35000) pa (Ch.nil (Tz hc (Ch.s (dI ((k : Int) + 1)) (iX rfl rfl intV_addA) (Ch.s (dI ((k : Int) + 1)) pm (Ch.nil ?_)))))
    exact nx (k + 1) (by omega) (Wk.ren [(7, 35000)] rfl rfl rfl rfl (ar (ar (ar (ar (ar (ai (vI a87) trivial)))))) (ai (oR a34) (ai (oR a34) trivial)))
   ·
    refine Tk (Tz hc (Ch.s (dI ((k : Int) + 1)) (iX rfl rfl intV_addA) (Ch.s (dI ((k : Int) + 1)) pm (Ch.nil ?_))))
    exact nx (k + 1) (by omega) (Wk.of rfl rfl (ar (ar (ar (ar (ar (ai (vI a87) trivial)))))) (ai (oR a34) (ai (oR a34) trivial)))
 ·
  try have hk := hts.2 _ (getD_mem (l := ts) (j := k) (d := default) (by omega))
  try have hk1 := hk.1
  try have hk2 := hk.2
  refine T_exit (Ts hc (Ch.s (.row 6) pm (Ch.s (.row 7) pm (Ch.s (.row 6) pa (Ch.s (.row 7) pa (Ch.nil ?_))))))
  refine T_ret ?_
  exact eR [(.row 6), (.row 7)] [] [6, 7] (.cons (.tmp 4 rfl) (.cons (.tmp 5 rfl) .nil)) eB (.tup (.cons (Exp.of (congrArg (D.slice true 1) (by rw [show k = ts.length by omega])) (.row rfl)) (.cons (Exp.of (congrArg (D.slice true 1) (by rw [show k = ts.length by omega])) (.row rfl)) .nil)))

theorem sp_of1 (x : Stg) (p : Int) (hx : x.sm) : Sp Tryz.prog 36 [(.agg [(.int .i64 x.places), (.slice false 2 (x.trans.map Tra.d)), (.slice false 2 (x.sigs.map Sgn.d)), (.slice false 2 (x.labs.map Lab.d)), (.str x.start)]), (.int .i64 p), (.bool true)] [.any, .any, .any] (.slice true 1 ((usrN x.trans Tra.post p x.trans.length).map (fun n : Nat => D.int .i64 (n : Int)))) := by
 refine Sp_intro (lend := true) Tryz.func36 rfl rfl rfl (fun _ => rfl) (fun c hc hX => ?_)
 obtain ⟨⟨h0, h0u⟩, hts, hsg, hlb, hst⟩ := hx; have hn1 := hts.1; have hn2 := hsg.1
 refine Ts hc (Ch.s (.ptr 3000 0) (.box 3000 _ _ rfl (.aggD _)) (Ch.s (.c (.slice none 0 0)) pa (Ch.nil (Ts hc (Ch.s (.c (.slice none 0 0)) pa ?_)))))
 refine Ch.nil (Tq (Ts hc (Ch.s (.ptr 3000 0) (fP fld28_0 rfl) (Ch.s (.ptr 3000 1) (fP fld24_1 rfl) (Ch.s (.d (.slice false 2 (x.trans.map Tra.d))) (lP ag22 rfl rfl rfl) (Ch.s (dI (x.trans.length : Int)) (.pure (.len _ _ 64 rfl Tryz.underlying22 (.sh _ _) (by simp))) ?_))))))
 refine Ch.s (dI 0) pm (Ch.nil (Tb ?_))
 refine T_loop (ι := Nat) (fun k => { n := 42, sl := [(1, (dI p)), (2, (dB true)), (7, (.row 7)), (12, (.d (.slice false 2 (x.trans.map Tra.d)))), (13, (dI (x.trans.length : Int))), (14, (dI (k : Int)))], hp := [(7, (some (.row 1 ((usrN x.trans Tra.post p k).map (fun n : Nat => D.int .i64 (n : Int))))))], pin := [] }) (fun k => k ≤ x.trans.length) (fun k => x.trans.length - k) ⟨0, (by omega), (Wk.trans (Wk.nilrow 7 900007 1 rfl rfl rfl) (Wk.ren [(7, 900007)] rfl rfl rfl rfl (ar (ar (ar (ar (ar (ai (vI a87) trivial)))))) (ai (oR a34) trivial)))⟩ (fun k hp0 => ?_)
 have hu1 := usr_le x.trans Tra.post p k
 refine Ts hc (Ch.s (dB (decide ((k : Int) < (x.trans.length : Int)))) (iX rfl rfl rfl) (Ch.nil (Tq ?_)))
 refine T_condD (p := ((k : Int) < (x.trans.length : Int))) rfl (fun h1 => ?_) (fun h1 => ?_)
 ·
  try have hk := hts.2 _ (getD_mem (l := x.trans) (j := k) (d := default) (by omega))
  try have hk1 := hk.1
  try have hk2 := hk.2
  refine Tk (Tq (Tb (Ts hc (Ch.s (dI (k : Int)) pm (Ch.s (.d (.ref (.agg [(.slice false 1 (((x.trans.getD k default).pre).map (fun n : Int => D.int .i64 n))), (.slice false 1 (((x.trans.getD k default).post).map (fun n : Int => D.int .i64 n)))]))) (.pure (.idx _ _ _ 64 (k) rfl Tryz.underlying22 sz64 rfl rfl rfl get_mapA)) (Ch.s (.d (.agg [(.slice false 1 (((x.trans.getD k default).pre).map (fun n : Int => D.int .i64 n))), (.slice false 1 (((x.trans.getD k default).post).map (fun n : Int => D.int .i64 n)))])) (.pure (.loadRefA _ _ rfl ag64 sz64 rfl)) ?_))))))
  refine Ch.s (.ptr 9000 0) (.alloc 9000 _ rfl zer64) (Ch.s (dI (k : Int)) pa (Ch.s .junk (.storePtr _ _ _ rfl rfl rfl (.aggD _) sz64 (lb rfl)) (Ch.nil (Ts hc (Ch.s (dB true) pm (Ch.s (dB true) pm ?_))))))
  refine Ch.s (.ptr 9000 1) (fP fld64_1 rfl) (Ch.s (.d (.slice false 1 (((x.trans.getD k default).post).map (fun n : Int => D.int .i64 n)))) (lP ag62 rfl rfl rfl) (Ch.s (dI p) pm (Ch.s (dB (hasI ((x.trans.getD k default).post) p)) (.call 24000 59 _ _ _ en59 rfl (.inl rfl) (.cons (.d _) (.cons (.d _) .nil)) rfl rfl (sp_spec_l1Has ((x.trans.getD k default).post) p a23) (.skip _ _ (.skip _ _ .nil)) rfl) (Ch.s (dB (hasI ((x.trans.getD k default).post) p)) (pT rfl) (Ch.s (dB (hasI ((x.trans.getD k default).post) p)) pm ?_)))))
  cases h2 : (hasI ((x.trans.getD k default).post) p) with
  | true =>
   refine Ck (Ck (Ck (Ck (Ck (Ck (Ck (Ch.skip rfl rfl ?_)))))))
   refine Ch.s (dB true) (pT rfl) (Ch.nil ?_)
   refine T_cond (b := true) rfl (fun _ => ?_) (fun h => nomatch h)
   refine Tz hc (Ch.s (.row 7) pm (Ch.s (dI (k : Int)) pm (Ch.s (.row 38000) (.slice 38000 _ 3 _ rfl sty62 (xs := [.tmp 37]) rfl rfl (.cons (.d _) .nil) rfl rfl (by decide)) ?_)))
   refine Ch.step (v := (.row 39000)) rfl (.append 39000 _ _ _ 3 rfl sty62 (by decide) (.rowK rfl) (.inr ⟨_, rfl, rfl⟩) (.row rfl rfl) rfl a30) rfl rfl ?_
   refine Ch.s (.row 39000) pa (Ch.nil (Tz hc (Ch.s (dI ((k : Int) + 1)) (iX rfl rfl intV_addA) (Ch.s (dI ((k : Int) + 1)) pm (Ch.nil ?_)))))
   exact nx (k + 1) (by omega) (Wk.ren [(7, 39000)] rfl rfl rfl rfl (ar (ar (ar (ar (ar (ai (vI a87) trivial)))))) (ai (oR a34) trivial))
  | false =>
   refine Ch.s (dB true) pm (Ch.s (dB false) (.pure (.not (b := true) _ _ rfl rfl)) (Ch.s (dB false) pm (Ck (Ck (Ck (Ck (Ch.s (dB false) (pF rfl) ?_)))))))
   refine Ch.s (dB false) (pF rfl) (Ch.nil ?_)
   refine T_cond (b := false) rfl (fun h => nomatch h) (fun _ => ?_)
   refine Tk (Tz hc (Ch.s (dI ((k : Int) + 1)) (iX rfl rfl intV_addA) (Ch.s (dI ((k : Int) + 1)) pm (Ch.nil ?_))))
   exact nx (k + 1) (by omega) (Wk.of rfl rfl (ar (ar (ar (ar (ar (ai (vI a87) trivial)))))) (ai (oR a34) trivial))
 ·
  try have hk := hts.2 _ (getD_mem (l := x.trans) (j := k) (d := default) (by omega))
  try have hk1 := hk.1
  try have hk2 := hk.2
  refine T_exit (Ts hc (Ch.s (.row 7) pm (Ch.s (.row 7) pa (Ch.nil (T_ret ?_)))))
  exact eR [(.row 7)] [] [7] (.cons (.tmp 6 rfl) .nil) eC (Exp.of (congrArg (D.slice true 1) (by rw [show k = x.trans.length by omega])) (.row rfl))

theorem sp_of0 (x : Stg) (p : Int) (hx : x.sm) : Sp Tryz.prog 36 [(.agg [(.int .i64 x.places), (.slice false 2 (x.trans.map Tra.d)), (.slice false 2 (x.sigs.map Sgn.d)), (.slice false 2 (x.labs.map Lab.d)), (.str x.start)]), (.int .i64 p), (.bool false)] [.any, .any, .any] (.slice true 1 ((usrN x.trans Tra.pre p x.trans.length).map (fun n : Nat => D.int .i64 (n : Int)))) := by
 refine Sp_intro (lend := true) Tryz.func36 rfl rfl rfl (fun _ => rfl) (fun c hc hX => ?_)
 obtain ⟨⟨h0, h0u⟩, hts, hsg, hlb, hst⟩ := hx; have hn1 := hts.1; have hn2 := hsg.1
 refine Ts hc (Ch.s (.ptr 3000 0) (.box 3000 _ _ rfl (.aggD _)) (Ch.s (.c (.slice none 0 0)) pa (Ch.nil (Ts hc (Ch.s (.c (.slice none 0 0)) pa ?_)))))
 refine Ch.nil (Tq (Ts hc (Ch.s (.ptr 3000 0) (fP fld28_0 rfl) (Ch.s (.ptr 3000 1) (fP fld24_1 rfl) (Ch.s (.d (.slice false 2 (x.trans.map Tra.d))) (lP ag22 rfl rfl rfl) (Ch.s (dI (x.trans.length : Int)) (.pure (.len _ _ 64 rfl Tryz.underlying22 (.sh _ _) (by simp))) ?_))))))
 refine Ch.s (dI 0) pm (Ch.nil (Tb ?_))
 refine T_loop (ι := Nat) (fun k => { n := 42, sl := [(1, (dI p)), (2, (dB false)), (7, (.row 7)), (12, (.d (.slice false 2 (x.trans.map Tra.d)))), (13, (dI (x.trans.length : Int))), (14, (dI (k : Int)))], hp := [(7, (some (.row 1 ((usrN x.trans Tra.pre p k).map (fun n : Nat => D.int .i64 (n : Int))))))], pin := [] }) (fun k => k ≤ x.trans.length) (fun k => x.trans.length - k) ⟨0, (by omega), (Wk.trans (Wk.nilrow 7 900007 1 rfl rfl rfl) (Wk.ren [(7, 900007)] rfl rfl rfl rfl (ar (ar (ar (ar (ar (ai (vI a87) trivial)))))) (ai (oR a34) trivial)))⟩ (fun k hp0 => ?_)
 have hu1 := usr_le x.trans Tra.pre p k
 refine Ts hc (Ch.s (dB (decide ((k : Int) < (x.trans.length : Int)))) (iX rfl rfl rfl) (Ch.nil (Tq ?_)))
 refine T_condD (p := ((k : Int) < (x.trans.length : Int))) rfl (fun h1 => ?_) (fun h1 => ?_)
 ·
  try have hk := hts.2 _ (getD_mem (l := x.trans) (j := k) (d := default) (by omega))
  try have hk1 := hk.1
  try have hk2 := hk.2
  refine Tk (Tq (Tb (Ts hc (Ch.s (dI (k : Int)) pm (Ch.s (.d (.ref (.agg [(.slice false 1 (((x.trans.getD k default).pre).map (fun n : Int => D.int .i64 n))), (.slice false 1 (((x.trans.getD k default).post).map (fun n : Int => D.int .i64 n)))]))) (.pure (.idx _ _ _ 64 (k) rfl Tryz.underlying22 sz64 rfl rfl rfl get_mapA)) (Ch.s (.d (.agg [(.slice false 1 (((x.trans.getD k default).pre).map (fun n : Int => D.int .i64 n))), (.slice false 1 (((x.trans.getD k default).post).map (fun n : Int => D.int .i64 n)))])) (.pure (.loadRefA _ _ rfl ag64 sz64 rfl)) ?_))))))
  refine Ch.s (.ptr 9000 0) (.alloc 9000 _ rfl zer64) (Ch.s (dI (k : Int)) pa (Ch.s .junk (.storePtr _ _ _ rfl rfl rfl (.aggD _) sz64 (lb rfl)) (Ch.nil (Ts hc (Ch.s (dB false) pm (Ch.s (dB false) pm ?_))))))
  refine Ck (Ck (Ck (Ck (Ch.s (dB false) (pF rfl) (Ch.s (dB false) pm (Ch.s (dB false) pm (Ch.s (dB true) (.pure (.not (b := false) _ _ rfl rfl)) ?_)))))))
  refine Ch.s (dB true) pm (Ch.s (.ptr 9000 0) (fP fld64_0 rfl) (Ch.s (.d (.slice false 1 (((x.trans.getD k default).pre).map (fun n : Int => D.int .i64 n)))) (lP ag62 rfl rfl rfl) (Ch.s (dI p) pm (Ch.s (dB (hasI ((x.trans.getD k default).pre) p)) (.call 33000 59 _ _ _ en59 rfl (.inl rfl) (.cons (.d _) (.cons (.d _) .nil)) rfl rfl (sp_spec_l1Has ((x.trans.getD k default).pre) p a23) (.skip _ _ (.skip _ _ .nil)) rfl) (Ch.s (dB (hasI ((x.trans.getD k default).pre) p)) (pT rfl) (Ch.s (dB (hasI ((x.trans.getD k default).pre) p)) (pF rfl) (Ch.nil ?_)))))))
  refine T_cond (b := (hasI ((x.trans.getD k default).pre) p)) rfl (fun h2 => ?_) (fun h2 => ?_)
  ·
   refine Tz hc (Ch.s (.row 7) pm (Ch.s (dI (k : Int)) pm (Ch.s (.row 38000) (.slice 38000 _ 3 _ rfl sty62 (xs := [.tmp 37]) rfl rfl (.cons (.d _) .nil) rfl rfl (by decide)) ?_)))
   refine Ch.step (v := (.row 39000)) rfl (.append 39000 _ _ _ 3 rfl sty62 (by decide) (.rowK rfl) (.inr ⟨_, rfl, rfl⟩) (.row rfl rfl) rfl a30) rfl rfl ?_
   refine Ch.s (.row 39000) pa (Ch.nil (Tz hc (Ch.s (dI ((k : Int) + 1)) (iX rfl rfl intV_addA) (Ch.s (dI ((k : Int) + 1)) pm (Ch.nil ?_)))))
   exact nx (k + 1) (by omega) (Wk.ren [(7, 39000)] rfl rfl rfl rfl (ar (ar (ar (ar (ar (ai (vI a87) trivial)))))) (ai (oR a34) trivial))
  ·
   refine Tk (Tz hc (Ch.s (dI ((k : Int) + 1)) (iX rfl rfl intV_addA) (Ch.s (dI ((k : Int) + 1)) pm (Ch.nil ?_))))
   exact nx (k + 1) (by omega) (Wk.of rfl rfl (ar (ar (ar (ar (ar (ai (vI a87) trivial)))))) (ai (oR a34) trivial))
 ·
  try have hk := hts.2 _ (getD_mem (l := x.trans) (j := k) (d := default) (by omega))
  try have hk1 := hk.1
  try have hk2 := hk.2
  refine T_exit (Ts hc (Ch.s (.row 7) pm (Ch.s (.row 7) pa (Ch.nil (T_ret ?_)))))
  exact eR [(.row 7)] [] [7] (.cons (.tmp 6 rfl) .nil) eC (Exp.of (congrArg (D.slice true 1) (by rw [show k = x.trans.length by omega])) (.row rfl))

theorem sp_spec_l3Marked (x : Stg) (hx : x.sm) : Sp Tryz.prog 12 [(.agg [(.int .i64 x.places), (.slice false 2 (x.trans.map Tra.d)), (.slice false 2 (x.sigs.map Sgn.d)), (.slice false 2 (x.labs.map Lab.d)), (.str x.start)])] [.any] (.bool (mrkB x)) := by
 refine Sp_intro (lend := true) Tryz.func12 rfl rfl rfl (fun _ => rfl) (fun c hc hX => ?_)
 have hx2 := hx; obtain ⟨⟨h0, h0u⟩, hts, hsg, hlb, hst⟩ := hx; have hn1 := hts.1; have hn2 := hsg.1
 refine Ts hc (Ch.s (.ptr 1000 0) (.box 1000 _ _ rfl (.aggD _)) (Ch.s (dB false) pa (Ch.nil (Tq (Tq (Tz hc ?_))))))
 refine Ch.s (dI 0) pa (Ch.nil (Tb ?_))
 refine T_loop (ι := Nat) (fun k => { n := 23, sl := [(1, (.ptr 1000 0)), (3, (dI (k : Int)))], hp := [(1000, (some (.box [(dI x.places), (.d (.slice false 2 (x.trans.map Tra.d))), (.d (.slice false 2 (x.sigs.map Sgn.d))), (.d (.slice false 2 (x.labs.map Lab.d))), (dS x.start)])))], pin := [] }) (fun k => k ≤ x.places.toNat ∧ ∀ j, j < k → mrkAt x j = true) (fun k => x.places.toNat - k) ⟨0, ⟨by omega, fun j hj => by omega⟩, (Wk.of rfl rfl (ar (ai (vI a87) trivial)) (ar trivial))⟩ (fun k hp0 => ?_)
 have hu1 := usr_le x.trans Tra.pre k x.trans.length; have hu2 := usr_le x.trans Tra.post k x.trans.length
 refine Tq (Ts hc (Ch.s (dI (k : Int)) pm (Ch.s (.ptr 1000 0) (fP fld28_0 rfl) (Ch.s (.ptr 1000 0) (fP fld24_0 rfl) (Ch.s (dI x.places) (lP ag3 rfl rfl rfl) (Ch.s (dB (decide ((k : Int) < x.places))) (iX rfl rfl rfl) ?_))))))
 refine Ch.nil ?_
 refine T_condD (p := ((k : Int) < x.places)) rfl (fun h1 => ?_) (fun h1 => ?_)
 ·
  refine Tk (Tq (Tb (Ts hc (Ch.s (.agg [(dI x.places), (.d (.slice false 2 (x.trans.map Tra.d))), (.d (.slice false 2 (x.sigs.map Sgn.d))), (.d (.slice false 2 (x.labs.map Lab.d))), (dS x.start)]) (lA ag28 sz28 rfl rfl (lb rfl) rfl) (Ch.s (dI (k : Int)) pm ?_)))))
  refine Ch.step (v := (.row 13000)) rfl (.call 13000 36 _ _ _ en36 rfl (.inl rfl) (.cons (.lend (.agg (.cons (.d _) (.cons (.d _) (.cons (.d _) (.cons (.d _) (.cons (.d _) .nil))))) rfl)) (.cons (.d _) (.cons (.d _) .nil))) rfl (sol (solid_row (fun _ => rfl) _) rfl) (sp_of1 x (k : Int) (by assumption)) (.skip _ _ (.skip _ _ (.skip _ _ .nil))) rfl) rfl rfl ?_
  refine Ch.s (dI (((usrN x.trans Tra.post (k : Int) x.trans.length).length : Nat) : Int)) (.pure (.len _ _ 3 rfl Tryz.underlying62 (.row rfl) (by simp))) (Ch.s (dB (!(decide ((((usrN x.trans Tra.post (k : Int) x.trans.length).length : Nat) : Int) = 1)))) (iX rfl rfl rfl) (Ch.s (dB (!(decide ((((usrN x.trans Tra.post (k : Int) x.trans.length).length : Nat) : Int) = 1)))) pm ?_))
  cases h2 : (decide ((((usrN x.trans Tra.post (k : Int) x.trans.length).length : Nat) : Int) = 1)) with
  | true =>
   replace h2 := odt h2
   refine Ch.s (.agg [(dI x.places), (.d (.slice false 2 (x.trans.map Tra.d))), (.d (.slice false 2 (x.sigs.map Sgn.d))), (.d (.slice false 2 (x.labs.map Lab.d))), (dS x.start)]) (lA ag28 sz28 rfl rfl (lb rfl) rfl) (Ch.s (dI (k : Int)) pm ?_)
   refine Ch.step (v := (.row 19000)) rfl (.call 19000 36 _ _ _ en36 rfl (.inl rfl) (.cons (.lend (.agg (.cons (.d _) (.cons (.d _) (.cons (.d _) (.cons (.d _) (.cons (.d _) .nil))))) rfl)) (.cons (.d _) (.cons (.d _) .nil))) rfl (sol (solid_row (fun _ => rfl) _) rfl) (sp_of0 x (k : Int) (by assumption)) (.skip _ _ (.skip _ _ (.skip _ _ .nil))) rfl) rfl rfl ?_
   refine Ch.s (dI (((usrN x.trans Tra.pre (k : Int) x.trans.length).length : Nat) : Int)) (.pure (.len _ _ 3 rfl Tryz.underlying62 (.row rfl) (by simp))) (Ch.s (dB (!(decide ((((usrN x.trans Tra.pre (k : Int) x.trans.length).length : Nat) : Int) = 1)))) (iX rfl rfl rfl) (Ch.s (dB (!(decide ((((usrN x.trans Tra.pre (k : Int) x.trans.length).length : Nat) : Int) = 1)))) (pF rfl) (Ch.nil ?_)))
   refine T_condN (b := (decide ((((usrN x.trans Tra.pre (k : Int) x.trans.length).length : Nat) : Int) = 1))) rfl (fun h3 => ?_) (fun h3 => ?_)
   ·
    replace h3 := odf h3
    refine Ts hc (Ch.s (dB false) pa (Ch.nil (T_ret ?_)))
    exact eR [(dB false)] [] [] (.cons (.tmp 2 rfl) .nil) eA (Exp.of (congrArg D.bool a15) (.d _))
   ·
    replace h3 := odt h3
    refine Tk (Tz hc (Ch.s (dI (k : Int)) pm (Ch.s (dI ((k : Int) + 1)) (iX rfl rfl intV_addA) (Ch.s (dI ((k : Int) + 1)) pa (Ch.nil ?_)))))
    exact nx (k + 1) ⟨by omega, upto_succ hp0.2 a32⟩ (Wk.of rfl rfl (ar (ai (vI a87) trivial)) (ar trivial))
  | false =>
   replace h2 := odf h2
   refine Ck (Ck (Ck (Ck (Ck (Ch.s (dB true) (pT rfl) (Ch.nil ?_))))))
   refine T_cond (b := true) rfl (fun _ => ?_) (fun h => nomatch h)
   refine Ts hc (Ch.s (dB false) pa (Ch.nil (T_ret ?_)))
   exact eR [(dB false)] [] [] (.cons (.tmp 2 rfl) .nil) eA (Exp.of (congrArg D.bool a15) (.d _))
 ·
  refine T_exit (Ts hc (Ch.s (dB true) pa (Ch.nil (T_ret ?_))))
  exact eR [(dB true)] [] [] (.cons (.tmp 2 rfl) .nil) eA (Exp.of (congrArg D.bool a15) (.d _))

theorem sp_impl_IsMarkedGraph (x : Stg) (hx : x.sm) : Sp Tryz.prog 44 [(.agg [(.int .i64 x.places), (.slice false 2 (x.trans.map Tra.d)), (.slice false 2 (x.sigs.map Sgn.d)), (.slice false 2 (x.labs.map Lab.d)), (.str x.start)])] [.any] (.tup [(.bool (stgB x && mrkB x)), .any]) := by
 refine Sp_intro (lend := true) Tryz.func44 rfl rfl rfl (fun _ => rfl) (fun c hc hX => ?_)
 have hx2 := hx; obtain ⟨⟨h0, h0u⟩, hts, hsg, hlb, hst⟩ := hx; have hn1 := hts.1; have hn2 := hsg.1
 refine Ts hc (Ch.s (.ptr 1000 0) (.box 1000 _ _ rfl (.aggD _)) (Ch.s (dB false) pa (Ch.s (dB false) pa (Ch.nil (Tq (Tq ?_))))))
 refine Tz hc (Ch.s (.agg [(dI x.places), (.d (.slice false 2 (x.trans.map Tra.d))), (.d (.slice false 2 (x.sigs.map Sgn.d))), (.d (.slice false 2 (x.labs.map Lab.d))), (dS x.start)]) (lA ag28 sz28 rfl rfl (lb rfl) rfl) (Ch.s (dB (stgB x)) (.call 8000 68 _ _ _ en68 rfl (.inl rfl) (.cons (.lend (.agg (.cons (.d _) (.cons (.d _) (.cons (.d _) (.cons (.d _) (.cons (.d _) .nil))))) rfl)) .nil) rfl rfl (sp_impl_IsValidSTG x (by assumption)) (.skip _ _ .nil) rfl) (Ch.s (dB (!(stgB x))) (nT rfl) (Ch.nil ?_))))
 refine T_condN (b := (stgB x)) rfl (fun h1 => ?_) (fun h1 => ?_)
 ·
  refine Ts hc (Ch.s (dB false) pa (Ch.s (dB false) pa (Ch.nil (T_ret ?_))))
  exact eR [(dB false), (dB false)] [] [] (.cons (.tmp 2 rfl) (.cons (.tmp 3 rfl) .nil)) eA (.tup (.cons (Exp.of (congrArg D.bool a11) (.d _)) eA))
 ·
  refine Tk (Tq (Ts hc (Ch.s (.ptr 1000 0) (fP fld28_0 rfl) (Ch.s (.ptr 1000 0) (fP fld24_0 rfl) (Ch.s (dI x.places) (lP ag3 rfl rfl rfl) (Ch.s (dI 0) pm ?_))))))
  refine Ch.nil (Tb ?_)
  refine T_loop (ι := Nat) (fun k => { n := 32, sl := [(1, (.ptr 1000 0)), (12, (dI x.places)), (13, (dI (k : Int)))], hp := [(1000, (some (.box [(dI x.places), (.d (.slice false 2 (x.trans.map Tra.d))), (.d (.slice false 2 (x.sigs.map Sgn.d))), (.d (.slice false 2 (x.labs.map Lab.d))), (dS x.start)])))], pin := [] }) (fun k => k ≤ x.places.toNat ∧ ∀ j, j < k → mrkAt x j = true) (fun k => x.places.toNat - k) ⟨0, ⟨by omega, fun j hj => by omega⟩, (Wk.of rfl rfl (ar (ar (ai (vI a87) trivial))) (ar trivial))⟩ (fun k hp0 => ?_)
  have hu1 := usr_le x.trans Tra.pre k x.trans.length; have hu2 := usr_le x.trans Tra.post k x.trans.length
  refine Ts hc (Ch.s (dB (decide ((k : Int) < x.places))) (iX rfl rfl rfl) (Ch.nil (Tq ?_)))
  refine T_condD (p := ((k : Int) < x.places)) rfl (fun h2 => ?_) (fun h2 => ?_)
  ·
   refine Tk (Tq (Tb (Ts hc (Ch.s (dI (k : Int)) pm (Ch.s (dI (k : Int)) pa (Ch.nil ?_))))))
   refine Ts hc (Ch.s (.ptr 1000 0) (fP fld28_0 rfl) (Ch.s (.agg [(dI x.places), (.d (.slice false 2 (x.trans.map Tra.d)))]) (lA ag24 sz24 rfl rfl (lb rfl) rfl) (Ch.s (dI (k : Int)) pm ?_)))
   refine Ch.step (v := (.tup [(.row 20000), (.row 20001)])) rfl (.call 20000 47 _ _ _ en47 rfl (.inl rfl) (.cons (.lend (.agg (.cons (.d _) (.cons (.d _) .nil)) rfl)) (.cons (.d _) .nil)) rfl (sol a39 rfl) (sp_impl_users x.places x.trans (k : Int) (by assumption)) (.skip _ _ (.skip _ _ .nil)) rfl) rfl rfl ?_
   refine Ch.s (.tup [(.row 20000), (.row 20001)]) pm (Ch.s (.row 20000) (xT rfl rfl) (Ch.s (.row 20001) (xT rfl rfl) (Ch.s (.row 20000) pa (Ch.s (.row 20001) pa (Ch.nil (Tq (Tz hc ?_)))))))
   refine Ch.s (.row 20000) pm (Ch.s (dI (((usrN x.trans Tra.pre (k : Int) x.trans.length).length : Nat) : Int)) (.pure (.len _ _ 3 rfl Tryz.underlying62 (.row rfl) (by simp))) (Ch.s (dB (!(decide ((((usrN x.trans Tra.pre (k : Int) x.trans.length).length : Nat) : Int) = 1)))) (iX rfl rfl rfl) (Ch.s (dB (!(decide ((((usrN x.trans Tra.pre (k : Int) x.trans.length).length : Nat) : Int) = 1)))) pm ?_)))
   cases h3 : (decide ((((usrN x.trans Tra.pre (k : Int) x.trans.length).length : Nat) : Int) = 1)) with
   | true =>
    replace h3 := odt h3
    refine Ch.s (.row 20001) pm (Ch.s (dI (((usrN x.trans Tra.post (k : Int) x.trans.length).length : Nat) : Int)) (.pure (.len _ _ 3 rfl Tryz.underlying62 (.row rfl) (by simp))) (Ch.s (dB (!(decide ((((usrN x.trans Tra.post (k : Int) x.trans.length).length : Nat) : Int) = 1)))) (iX rfl rfl rfl) (Ch.s (dB (!(decide ((((usrN x.trans Tra.post (k : Int) x.trans.length).length : Nat) : Int) = 1)))) (pF rfl) (Ch.nil ?_))))
    refine T_condN (b := (decide ((((usrN x.trans Tra.post (k : Int) x.trans.length).length : Nat) : Int) = 1))) rfl (fun h4 => ?_) (fun h4 => ?_)
    ·
     replace h4 := odf h4
     refine Ts hc (Ch.s (dB false) pa (Ch.s (dB true) pa (Ch.nil (T_ret ?_))))
     exact eR [(dB false), (dB true)] [] [] (.cons (.tmp 2 rfl) (.cons (.tmp 3 rfl) .nil)) eA (.tup (.cons (Exp.of (congrArg D.bool a11) (.d _)) eA))
    ·
     replace h4 := odt h4
     refine Tk (Tz hc (Ch.s (dI ((k : Int) + 1)) (iX rfl rfl intV_addA) (Ch.s (dI ((k : Int) + 1)) pm (Ch.nil ?_))))
     exact nx (k + 1) ⟨by omega, upto_succ hp0.2 a32⟩ (Wk.of rfl rfl (ar (ar (ai (vI a87) trivial))) (ar trivial))
   | false =>
    replace h3 := odf h3
    refine Ck (Ck (Ck (Ch.s (dB true) (pT rfl) (Ch.nil ?_))))
    refine T_cond (b := true) rfl (fun _ => ?_) (fun h => nomatch h)
    refine Ts hc (Ch.s (dB false) pa (Ch.s (dB true) pa (Ch.nil (T_ret ?_))))
    exact eR [(dB false), (dB true)] [] [] (.cons (.tmp 2 rfl) (.cons (.tmp 3 rfl) .nil)) eA (.tup (.cons (Exp.of (congrArg D.bool a11) (.d _)) eA))
  ·
   refine T_exit (Ts hc (Ch.s (dB true) pa (Ch.s (dB true) pa (Ch.nil (T_ret ?_)))))
   exact eR [(dB true), (dB true)] [] [] (.cons (.tmp 2 rfl) (.cons (.tmp 3 rfl) .nil)) eA (.tup (.cons (Exp.of (congrArg D.bool a11) (.d _)) eA))

theorem sp_itoaI (n : Int) (h0 : 0 ≤ n) (h : n < 100) : Sp Tryz.prog 73 [(.int .i64 n)] [.any] (.str (numS n.toNat)) := by
 obtain ⟨m, rfl⟩ := Int.eq_ofNat_of_zero_le h0
 exact sp_itoa2 m (by omega)

theorem sp_impl_placesText (l : List Int) (hn : l.length ≤ 30) (hl : ∀ p ∈ l, 0 ≤ p ∧ p < 100) : Sp Tryz.prog 70 [(.slice false 1 (l.map (fun n : Int => D.int .i64 n)))] [.any] (.str (plcT l l.length)) := by
 refine Sp_intro (lend := true) Tryz.func70 rfl rfl rfl (fun _ => rfl) (fun c hc hX => ?_)
 refine Ts hc (Ch.s (dS []) pa (Ch.nil (Ts hc (Ch.s (dS []) pa (Ch.nil ?_)))))
 refine Tq (Ts hc (Ch.s (.d (.slice false 1 (l.map (fun n : Int => D.int .i64 n)))) pm (Ch.s (dI (l.length : Int)) (.pure (.len _ _ 3 rfl Tryz.underlying62 (.sh _ _) (by simp))) (Ch.s (dI 0) pm (Ch.nil (Tb ?_))))))
 refine T_loop (ι := Nat) (fun k => { n := 19, sl := [(3, (dS (plcT l k))), (6, (.d (.slice false 1 (l.map (fun n : Int => D.int .i64 n))))), (7, (dI (l.length : Int))), (8, (dI (k : Int)))], hp := [], pin := [] }) (fun k => k ≤ l.length) (fun k => l.length - k) ⟨0, (by omega), (Wk.of rfl rfl (ai (vS a49) (ar (ar (ai (vI a87) trivial)))) trivial)⟩ (fun k hp0 => ?_)
 have hpl := plcT_le l k; have hnl := numS_len (l.getD k default).toNat
 refine Ts hc (Ch.s (dB (decide ((k : Int) < (l.length : Int)))) (iX rfl rfl rfl) (Ch.nil (Tq ?_)))
 refine T_condD (p := ((k : Int) < (l.length : Int))) rfl (fun h1 => ?_) (fun h1 => ?_)
 ·
  try have hk := hl _ (getD_mem (l := l) (j := k) (d := default) (by omega))
  refine Tk (Tq (Tb (Ts hc (Ch.s (.d (.ref (.int .i64 (l.getD k default)))) (.pure (.idx _ _ _ 3 (k) rfl Tryz.underlying62 sz3 rfl rfl rfl get_mapA)) (Ch.s (dI (l.getD k default)) (rF ag3 rfl rfl) (Ch.s (dI (l.getD k default)) pa ?_))))))
  refine Ch.nil (Tz hc (Ch.s (dS (plcT l k)) pm (Ch.s (dI (l.getD k default)) pm (Ch.s (dS (numS ((l.getD k default)).toNat)) (.call 14000 73 _ _ _ en73 rfl (.inl rfl) (.cons (.d _) .nil) rfl rfl (sp_itoaI (l.getD k default) (by omega) (by omega)) (.skip _ _ .nil) rfl) (Ch.s (dS ([32] ++ (numS ((l.getD k default)).toNat))) (.pure (.str _ _ _ _ _ rfl rfl rfl (strV_add a26))) (Ch.s (dS ((plcT l k) ++ ([32] ++ (numS ((l.getD k default)).toNat)))) (.pure (.str _ _ _ _ _ rfl rfl rfl (strV_add a26))) (Ch.s (dS ((plcT l k) ++ ([32] ++ (numS ((l.getD k default)).toNat)))) pa ?_)))))))
  refine Ch.nil (Tz hc (Ch.s (dI ((k : Int) + 1)) (iX rfl rfl intV_addA) (Ch.s (dI ((k : Int) + 1)) pm (Ch.nil ?_))))
  exact nx (k + 1) (by omega) (Wk.of rfl rfl (ai (vS a49) (ar (ar (ai (vI a87) trivial)))) trivial)
 ·
  try have hk := hl _ (getD_mem (l := l) (j := k) (d := default) (by omega))
  refine T_exit (Ts hc (Ch.s (dS (plcT l k)) pm (Ch.s (dS (plcT l k)) pa (Ch.nil (T_ret ?_)))))
  exact eR [(dS (plcT l k))] [] [] (.cons (.tmp 2 rfl) .nil) eA (Exp.of (congrArg D.str (by rw [show k = l.length by omega])) (.d _))

theorem en55 : Enters Tryz.prog 55 := ⟨_, Tryz.func55, by kernel_rfl, rfl⟩

theorem en46 : Enters Tryz.prog 46 := ⟨_, Tryz.func46, by kernel_rfl, rfl⟩

theorem en70 : Enters Tryz.prog 70 := ⟨_, Tryz.func70, by kernel_rfl, rfl⟩

theorem en37 : Enters Tryz.prog 37 := ⟨_, Tryz.func37, by kernel_rfl, rfl⟩

theorem en38 : Enters Tryz.prog 38 := ⟨_, Tryz.func38, by kernel_rfl, rfl⟩

theorem en44 : Enters Tryz.prog 44 := ⟨_, Tryz.func44, by kernel_rfl, rfl⟩

theorem en45 : Enters Tryz.prog 45 := ⟨_, Tryz.func45, by kernel_rfl, rfl⟩

theorem en48 : Enters Tryz.prog 48 := ⟨_, Tryz.func48, by kernel_rfl, rfl⟩

theorem en99 : Enters Tryz.prog 99 := ⟨_, Tryz.func99, by kernel_rfl, rfl⟩

theorem en85 : Enters Tryz.prog 85 := ⟨_, Tryz.func85, by kernel_rfl, rfl⟩

theorem sp_impl_signalLines (sg : List Sgn) (hw : ∀ y ∈ sg, y.name.length ≤ 6) (h8 : sg.length ≤ 8) : SpQ (fun S w _ => DRs S w [(.ref (.agg (kwL.map D.str)))] [(.pointer (some ⟨0, 0, none⟩))] []) Tryz.prog 46 [(.slice false 2 (sg.map Sgn.d))] [.any] (.tup [(.str (if kndB sg then sgT sg else [])), (.bool (kndB sg))]) := by
 refine SpG_intro Tryz.func46 rfl [900001] rfl rfl rfl (fun c hc => ?_)
 have hkl := kwL_len
 refine Ts hc (Ch.s (dS []) pa (Ch.s (dB false) pa (Ch.nil (Ts hc (Ch.s (dS []) pa ?_)))))
 refine Ch.nil (Tq (Ts hc (Ch.s (dI 1) pa (Ch.nil (Tb ?_)))))
 refine T_loop (ι := Nat) (fun k => { n := 54, sl := [(0, (.d (.slice false 2 (sg.map Sgn.d)))), (4, (dS (sgTo sg k))), (5, (dI ((k + 1 : Nat) : Int)))], hp := [(900001, (some (.ghost (.ref (.agg (kwL.map D.str))) (.pointer (some ⟨0, 0, none⟩)))))], pin := [] }) (fun k => k ≤ 3 ∧ (0 < k → kndB sg = true)) (fun k => 3 - k) ⟨0, ⟨by omega, fun h => absurd h (by decide)⟩, (Wk.of rfl rfl (ar (ai (vS a12) (ai (vI a87) trivial))) (ar trivial))⟩ (fun k hp0 => ?_)
 have hkw := kwL_le (k + 1); have hst2 := sgTo_le hw h8 k
 refine Tq (Ts hc (Ch.s (dI ((k + 1 : Nat) : Int)) pm (Ch.s (dB (decide (((k + 1 : Nat) : Int) ≤ 3))) (iX rfl rfl rfl) (Ch.nil ?_))))
 refine T_condD (p := (((k + 1 : Nat) : Int) ≤ 3)) rfl (fun h1 => ?_) (fun h1 => ?_)
 ·
  refine Tk (Tq (Tb (Ts hc (Ch.s (dS []) pa (Ch.nil (Tq ?_))))))
  refine Ts hc (Ch.s (.d (.slice false 2 (sg.map Sgn.d))) pm (Ch.s (dI (sg.length : Int)) (.pure (.len _ _ 77 rfl Tryz.underlying25 (.sh _ _) (by simp))) (Ch.s (dI 0) pm (Ch.nil (Tb ?_)))))
  refine T_loop (ι := Nat) (fun m => { n := 54, sl := [(0, (.d (.slice false 2 (sg.map Sgn.d)))), (4, (dS (sgTo sg k))), (5, (dI ((k + 1 : Nat) : Int))), (6, (dS (sgLn sg (k + 1) m))), (13, (.d (.slice false 2 (sg.map Sgn.d)))), (14, (dI (sg.length : Int))), (15, (dI (m : Int)))], hp := [(900001, (some (.ghost (.ref (.agg (kwL.map D.str))) (.pointer (some ⟨0, 0, none⟩)))))], pin := [] }) (fun m => m ≤ sg.length ∧ ∀ j, j < m → (!(decide ((0 : Int) < (j : Int)) && decide ((sg.getD j default).kind < (sg.getD (j - 1) default).kind))) = true) (fun m => sg.length - m) ⟨0, ⟨by omega, fun j hj => by omega⟩, (Wk.of rfl rfl (ar (ar (ar (ai (vS a19) (ar (ar (ai (vI a87) trivial))))))) (ar trivial))⟩ (fun m hp1 => ?_)
  have hsl := sgLn_le hw (k + 1) m; have hst2 := sgTo_le hw h8 k; have hwm : m < sg.length → ((sg.getD m default).name).length ≤ 6 := (fun h => hw _ (getD_mem h))
  refine Ts hc (Ch.s (dB (decide ((m : Int) < (sg.length : Int)))) (iX rfl rfl rfl) (Ch.nil (Tq ?_)))
  refine T_condD (p := ((m : Int) < (sg.length : Int))) rfl (fun h2 => ?_) (fun h2 => ?_)
  ·
   refine Tk (Tq (Tb (Ts hc (Ch.s (dI (m : Int)) pm (Ch.s (.d (.ref (.agg [(.str ((sg.getD m default).name)), (.int .i64 ((sg.getD m default).kind))]))) (.pure (.idx _ _ _ 77 (m) rfl Tryz.underlying25 sz77 rfl rfl rfl get_mapA)) (Ch.s (.d (.agg [(.str ((sg.getD m default).name)), (.int .i64 ((sg.getD m default).kind))])) (.pure (.loadRefA _ _ rfl ag77 sz77 rfl)) ?_))))))
   refine Ch.s (.ptr 8000 0) (.alloc 8000 _ rfl zer77) (Ch.s (dI (m : Int)) pa (Ch.s .junk (.storePtr _ _ _ rfl rfl rfl (.aggD _) sz77 (lb rfl)) (Ch.nil (Tq (Tq ?_)))))
   refine T_regionD hc (by kernel_rfl) ?_
   refine ChD.s (dI (m : Int)) [] pm (ChD.s (dB (decide (0 < (m : Int)))) [] (iX rfl rfl rfl) (ChD.s (dB (decide (0 < (m : Int)))) [] pm ?_))
   cases h3 : (decide (0 < (m : Int))) with
   | true =>
    replace h3 := odt h3
    refine ChD.s (.d (.slice false 2 (sg.map Sgn.d))) [] pm (ChD.s (dI (m : Int)) [] pm (ChD.s (dI ((m : Int) - 1)) [] (iX rfl rfl intV_subA) (ChD.s (.d (.ref (.agg [(.str ((sg.getD (m - 1) default).name)), (.int .i64 ((sg.getD (m - 1) default).kind))]))) [] (.pure (.idx _ _ _ 77 ((m - 1)) rfl Tryz.underlying25 sz77 rfl rfl (by omega) get_mapA)) (ChD.s (.d (.ref (.int .i64 ((sg.getD (m - 1) default).kind)))) [] (.pure (.fldRef _ _ _ rfl fld77_1 rfl rfl rfl)) (ChD.s (dI ((sg.getD (m - 1) default).kind)) [] (rF ag3 rfl rfl) (ChD.s (.ptr 8000 1) [] (fP fld77_1 rfl) (ChD.s (dI ((sg.getD m default).kind)) [8000] (lP ag3 rfl rfl rfl) ?_)))))))
    refine ChD.s (dB (decide (((sg.getD m default).kind) < ((sg.getD (m - 1) default).kind)))) [] (iX rfl rfl rfl) (ChD.s (dB (decide (((sg.getD m default).kind) < ((sg.getD (m - 1) default).kind)))) [] (pT rfl) ?_)
    refine ChD.nil (And.intro ?_ (by kernel_rfl))
    refine T_condD (p := (((sg.getD m default).kind) < ((sg.getD (m - 1) default).kind))) rfl (fun h4 => ?_) (fun h4 => ?_)
    ·
     refine Ts hc (Ch.s (dS []) pa (Ch.s (dB false) pa (Ch.nil (T_ret ?_))))
     exact eR [(dS []), (dB false)] [] [] (.cons (.tmp 2 rfl) (.cons (.tmp 3 rfl) .nil)) eA (.tup (.cons (Exp.of (congrArg D.str a16) (.d _)) (.cons (Exp.of (congrArg D.bool a16) (.d _)) .nil)))
    ·
     refine Tk (Ts hc (Ch.s (.ptr 8000 1) (fP fld77_1 rfl) (Ch.s (dI ((sg.getD m default).kind)) (lP ag3 rfl rfl rfl) (Ch.s (dI ((k + 1 : Nat) : Int)) pm (Ch.s (dB (decide (((sg.getD m default).kind) = ((k + 1 : Nat) : Int)))) (iX rfl rfl rfl) (Ch.nil ?_))))))
     refine T_condD (p := (((sg.getD m default).kind) = ((k + 1 : Nat) : Int))) rfl (fun h5 => ?_) (fun h5 => ?_)
     ·
      refine Tz hc (Ch.s (dS (sgLn sg (k + 1) m)) pm (Ch.s (.ptr 8000 0) (fP fld77_0 rfl) (Ch.s (dS ((sg.getD m default).name)) (lP ag9 rfl rfl rfl) (Ch.s (dS ([32] ++ ((sg.getD m default).name))) (.pure (.str _ _ _ _ _ rfl rfl rfl (strV_add a26))) (Ch.s (dS ((sgLn sg (k + 1) m) ++ ([32] ++ ((sg.getD m default).name)))) (.pure (.str _ _ _ _ _ rfl rfl rfl (strV_add a26))) (Ch.s (dS ((sgLn sg (k + 1) m) ++ ([32] ++ ((sg.getD m default).name)))) pa (Ch.nil ?_)))))))
      refine Tz hc (Ch.s (dI ((m : Int) + 1)) (iX rfl rfl intV_addA) (Ch.s (dI ((m : Int) + 1)) pm (Ch.nil ?_)))
      exact nx (m + 1) ⟨by omega, upto_succ hp1.2 a91⟩ (Wk.of rfl rfl (ar (ar (ar (ai (vS a19) (ar (ar (ai (vI a87) trivial))))))) (ar trivial))
     ·
      refine Tk (Tz hc (Ch.s (dI ((m : Int) + 1)) (iX rfl rfl intV_addA) (Ch.s (dI ((m : Int) + 1)) pm (Ch.nil ?_))))
      exact nx (m + 1) ⟨by omega, upto_succ hp1.2 a91⟩ (Wk.of rfl rfl (ar (ar (ar (ai (vS a19) (ar (ar (ai (vI a87) trivial))))))) (ar trivial))
   | false =>
    replace h3 := odf h3
    refine ChD.skip rfl rfl (ChD.skip rfl rfl (ChD.skip rfl rfl (ChD.skip rfl rfl (ChD.skip rfl rfl (ChD.skip rfl rfl (ChD.skip rfl rfl (ChD.skip rfl rfl ?_)))))))
    refine ChD.skip rfl rfl (ChD.s (dB false) [] (pF rfl) ?_)
    refine ChD.nil (And.intro ?_ (by kernel_rfl))
    refine T_cond (b := false) rfl (fun h => nomatch h) (fun _ => ?_)
    refine Tk (Ts hc (Ch.s (.ptr 8000 1) (fP fld77_1 rfl) (Ch.s (dI ((sg.getD m default).kind)) (lP ag3 rfl rfl rfl) (Ch.s (dI ((k + 1 : Nat) : Int)) pm (Ch.s (dB (decide (((sg.getD m default).kind) = ((k + 1 : Nat) : Int)))) (iX rfl rfl rfl) (Ch.nil ?_))))))
    refine T_condD (p := (((sg.getD m default).kind) = ((k + 1 : Nat) : Int))) rfl (fun h6 => ?_) (fun h6 => ?_)
    ·
     refine Tz hc (Ch.s (dS (sgLn sg (k + 1) m)) pm (Ch.s (.ptr 8000 0) (fP fld77_0 rfl) (Ch.s (dS ((sg.getD m default).name)) (lP ag9 rfl rfl rfl) (Ch.s (dS ([32] ++ ((sg.getD m default).name))) (.pure (.str _ _ _ _ _ rfl rfl rfl (strV_add a26))) (Ch.s (dS ((sgLn sg (k + 1) m) ++ ([32] ++ ((sg.getD m default).name)))) (.pure (.str _ _ _ _ _ rfl rfl rfl (strV_add a26))) (Ch.s (dS ((sgLn sg (k + 1) m) ++ ([32] ++ ((sg.getD m default).name)))) pa (Ch.nil ?_)))))))
     refine Tz hc (Ch.s (dI ((m : Int) + 1)) (iX rfl rfl intV_addA) (Ch.s (dI ((m : Int) + 1)) pm (Ch.nil ?_)))
     exact nx (m + 1) ⟨by omega, upto_succ hp1.2 a91⟩ (Wk.of rfl rfl (ar (ar (ar (ai (vS a19) (ar (ar (ai (vI a87) trivial))))))) (ar trivial))
    ·
     refine Tk (Tz hc (Ch.s (dI ((m : Int) + 1)) (iX rfl rfl intV_addA) (Ch.s (dI ((m : Int) + 1)) pm (Ch.nil ?_))))
     exact nx (m + 1) ⟨by omega, upto_succ hp1.2 a91⟩ (Wk.of rfl rfl (ar (ar (ar (ai (vS a19) (ar (ar (ai (vI a87) trivial))))))) (ar trivial))
  ·
   refine T_exit (Ts hc (Ch.s (dS (sgLn sg (k + 1) m)) pm (Ch.s (dB (!(decide ((sgLn sg (k + 1) m) = [])))) (.pure (.str _ _ _ _ _ rfl rfl rfl rfl)) (Ch.nil ?_))))
   refine T_condN (b := (decide ((sgLn sg (k + 1) m) = []))) rfl (fun h7 => ?_) (fun h7 => ?_)
   ·
    replace h7 := odf h7
    refine Tz hc (Ch.s (dS (sgTo sg k)) pm (Ch.s (dI ((k + 1 : Nat) : Int)) pm (Ch.s (.d (.ref (.str (kwL.getD (k + 1) default)))) (.pure (.idxGh (id := 900001) _ _ _ 9 4 (k + 1) rfl Tryz.underlying75 sz9 rfl rfl rfl rfl a26 get_mapA rfl)) (Ch.s (dS (kwL.getD (k + 1) default)) (rF ag9 rfl rfl) (Ch.s (dS (sgLn sg (k + 1) m)) pm (Ch.s (dS ((kwL.getD (k + 1) default) ++ (sgLn sg (k + 1) m))) (.pure (.str _ _ _ _ _ rfl rfl rfl (strV_add a26))) (Ch.s (dS (((kwL.getD (k + 1) default) ++ (sgLn sg (k + 1) m)) ++ [10])) (.pure (.str _ _ _ _ _ rfl rfl rfl (strV_add a26))) ?_)))))))
    refine Ch.s (dS ((sgTo sg k) ++ (((kwL.getD (k + 1) default) ++ (sgLn sg (k + 1) m)) ++ [10]))) (.pure (.str _ _ _ _ _ rfl rfl rfl (strV_add a26))) (Ch.s (dS ((sgTo sg k) ++ (((kwL.getD (k + 1) default) ++ (sgLn sg (k + 1) m)) ++ [10]))) pa (Ch.nil (Tz hc (Ch.s (dI ((k + 1 : Nat) : Int)) pm (Ch.s (dI (((k + 1 : Nat) : Int) + 1)) (iX rfl rfl intV_addA) (Ch.s (dI (((k + 1 : Nat) : Int) + 1)) pa (Ch.nil ?_)))))))
    exact nx (k + 1) ⟨by omega, fun _ => by rw [kndB, allB_of (fun j hj => hp1.2 j (by omega))]⟩ (Wk.of rfl rfl (ar (ai (vS a12) (ai (vI a87) trivial))) (ar trivial))
   ·
    replace h7 := odt h7
    refine Tk (Tz hc (Ch.s (dI ((k + 1 : Nat) : Int)) pm (Ch.s (dI (((k + 1 : Nat) : Int) + 1)) (iX rfl rfl intV_addA) (Ch.s (dI (((k + 1 : Nat) : Int) + 1)) pa (Ch.nil ?_)))))
    exact nx (k + 1) ⟨by omega, fun _ => by rw [kndB, allB_of (fun j hj => hp1.2 j (by omega))]⟩ (Wk.of rfl rfl (ar (ai (vS a12) (ai (vI a87) trivial))) (ar trivial))
 ·
  refine T_exit (Ts hc (Ch.s (dS (sgTo sg k)) pm (Ch.s (dS (sgTo sg k)) pa (Ch.s (dB true) pa (Ch.nil (T_ret ?_))))))
  exact eR [(dS (sgTo sg k)), (dB true)] [] [] (.cons (.tmp 2 rfl) (.cons (.tmp 3 rfl) .nil)) eA (.tup (.cons (Exp.of (congrArg D.str a16) (.d _)) (.cons (Exp.of (congrArg D.bool a16) (.d _)) .nil)))

theorem sp_spec_l3Words  : Sp Tryz.prog 55 [] [] (.slice true 1 (kwL.map D.str)) := by
 refine Sp_intro (lend := true) Tryz.func55 rfl rfl rfl (fun _ => rfl) (fun c hc hX => ?_)
 refine Ts hc (Ch.s (.c (.slice none 0 0)) pa (Ch.nil (Ts hc (Ch.s (.row 1000) (.slice 1000 _ 9 _ rfl sty37 (xs := [.const (.string { data := #[] }), .const (.string { data := #[105, 110] }), .const (.string { data := #[111, 117, 116] }), .const (.string { data := #[105, 110, 110, 101, 114] })]) rfl rfl (.cons (.d _) (.cons (.d _) (.cons (.d _) (.cons (.d _) .nil)))) rfl rfl (by decide)) (Ch.s (.row 1000) pa ?_)))))
 refine Ch.nil (T_ret ?_)
 exact eR [(.row 1000)] [] [1000] (.cons (.tmp 0 rfl) .nil) .nil (Exp.of (congrArg (D.slice true 1) (by rfl)) (.row rfl))

theorem sp_spec_l3Signals (x : Stg) (hw : ∀ y ∈ x.sigs, y.name.length ≤ 6) (h8 : x.sigs.length ≤ 8) : Sp Tryz.prog 37 [(.agg [(.int .i64 x.places), (.slice false 2 (x.trans.map Tra.d)), (.slice false 2 (x.sigs.map Sgn.d)), (.slice false 2 (x.labs.map Lab.d)), (.str x.start)])] [.any] (.str (sgT x.sigs)) := by
 refine Sp_intro (lend := true) Tryz.func37 rfl rfl rfl (fun _ => rfl) (fun c hc hX => ?_)
 have hkl := kwL_len
 refine Ts hc (Ch.s (.ptr 1000 0) (.box 1000 _ _ rfl (.aggD _)) (Ch.s (dS []) pa (Ch.nil (Ts hc (Ch.s (dS []) pa ?_)))))
 refine Ch.nil (Tq (Ts hc (Ch.s (dI 1) pa (Ch.nil (Tb ?_)))))
 refine T_loop (ι := Nat) (fun k => { n := 41, sl := [(1, (.ptr 1000 0)), (3, (dS (sgTo x.sigs k))), (4, (dI ((k + 1 : Nat) : Int)))], hp := [(1000, (some (.box [(dI x.places), (.d (.slice false 2 (x.trans.map Tra.d))), (.d (.slice false 2 (x.sigs.map Sgn.d))), (.d (.slice false 2 (x.labs.map Lab.d))), (dS x.start)])))], pin := [] }) (fun k => k ≤ 3) (fun k => 3 - k) ⟨0, (by omega), (Wk.of rfl rfl (ar (ai (vS a12) (ai (vI a87) trivial))) (ar trivial))⟩ (fun k hp0 => ?_)
 have hkw := kwL_le (k + 1); have hst2 := sgTo_le hw h8 k
 refine Tq (Ts hc (Ch.s (dI ((k + 1 : Nat) : Int)) pm (Ch.s (dB (decide (((k + 1 : Nat) : Int) ≤ 3))) (iX rfl rfl rfl) (Ch.nil ?_))))
 refine T_condD (p := (((k + 1 : Nat) : Int) ≤ 3)) rfl (fun h1 => ?_) (fun h1 => ?_)
 ·
  refine Tk (Tq (Tb (Ts hc (Ch.s (dS []) pa (Ch.nil (Tq ?_))))))
  refine Ts hc (Ch.s (.ptr 1000 2) (fP fld28_1 rfl) (Ch.s (.d (.slice false 2 (x.sigs.map Sgn.d))) (lP ag25 rfl rfl rfl) (Ch.s (dI (x.sigs.length : Int)) (.pure (.len _ _ 77 rfl Tryz.underlying25 (.sh _ _) (by simp))) (Ch.s (dI 0) pm (Ch.nil (Tb ?_))))))
  refine T_loop (ι := Nat) (fun m => { n := 41, sl := [(1, (.ptr 1000 0)), (3, (dS (sgTo x.sigs k))), (4, (dI ((k + 1 : Nat) : Int))), (5, (dS (sgLn x.sigs (k + 1) m))), (13, (.d (.slice false 2 (x.sigs.map Sgn.d)))), (14, (dI (x.sigs.length : Int))), (15, (dI (m : Int)))], hp := [(1000, (some (.box [(dI x.places), (.d (.slice false 2 (x.trans.map Tra.d))), (.d (.slice false 2 (x.sigs.map Sgn.d))), (.d (.slice false 2 (x.labs.map Lab.d))), (dS x.start)])))], pin := [] }) (fun m => m ≤ x.sigs.length) (fun m => x.sigs.length - m) ⟨0, (by omega), (Wk.of rfl rfl (ar (ar (ar (ai (vS a19) (ar (ar (ai (vI a87) trivial))))))) (ar trivial))⟩ (fun m hp1 => ?_)
  have hsl := sgLn_le hw (k + 1) m; have hst2 := sgTo_le hw h8 k; have hwm : m < x.sigs.length → ((x.sigs.getD m default).name).length ≤ 6 := (fun h => hw _ (getD_mem h))
  refine Ts hc (Ch.s (dB (decide ((m : Int) < (x.sigs.length : Int)))) (iX rfl rfl rfl) (Ch.nil (Tq ?_)))
  refine T_condD (p := ((m : Int) < (x.sigs.length : Int))) rfl (fun h2 => ?_) (fun h2 => ?_)
  ·
   refine Tk (Tq (Tb (Ts hc (Ch.s (.d (.ref (.agg [(.str ((x.sigs.getD m default).name)), (.int .i64 ((x.sigs.getD m default).kind))]))) (.pure (.idx _ _ _ 77 (m) rfl Tryz.underlying25 sz77 rfl rfl rfl get_mapA)) (Ch.s (.d (.agg [(.str ((x.sigs.getD m default).name)), (.int .i64 ((x.sigs.getD m default).kind))])) (.pure (.loadRefA _ _ rfl ag77 sz77 rfl)) (Ch.s (.ptr 7000 0) (.alloc 7000 _ rfl zer77) ?_))))))
   refine Ch.s .junk (.storePtr _ _ _ rfl rfl rfl (.aggD _) sz77 (lb rfl)) (Ch.nil (Ts hc (Ch.s (.ptr 7000 1) (fP fld77_1 rfl) (Ch.s (dI ((x.sigs.getD m default).kind)) (lP ag3 rfl rfl rfl) (Ch.s (dI ((k + 1 : Nat) : Int)) pm (Ch.s (dB (decide (((x.sigs.getD m default).kind) = ((k + 1 : Nat) : Int)))) (iX rfl rfl rfl) ?_))))))
   refine Ch.nil ?_
   refine T_condD (p := (((x.sigs.getD m default).kind) = ((k + 1 : Nat) : Int))) rfl (fun h3 => ?_) (fun h3 => ?_)
   ·
    refine Tz hc (Ch.s (dS (sgLn x.sigs (k + 1) m)) pm (Ch.s (.ptr 7000 0) (fP fld77_0 rfl) (Ch.s (dS ((x.sigs.getD m default).name)) (lP ag9 rfl rfl rfl) (Ch.s (dS ([32] ++ ((x.sigs.getD m default).name))) (.pure (.str _ _ _ _ _ rfl rfl rfl (strV_add a26))) (Ch.s (dS ((sgLn x.sigs (k + 1) m) ++ ([32] ++ ((x.sigs.getD m default).name)))) (.pure (.str _ _ _ _ _ rfl rfl rfl (strV_add a26))) (Ch.s (dS ((sgLn x.sigs (k + 1) m) ++ ([32] ++ ((x.sigs.getD m default).name)))) pa (Ch.nil ?_)))))))
    refine Tz hc (Ch.s (dI ((m : Int) + 1)) (iX rfl rfl intV_addA) (Ch.s (dI ((m : Int) + 1)) pm (Ch.nil ?_)))
    exact nx (m + 1) (by omega) (Wk.of rfl rfl (ar (ar (ar (ai (vS a19) (ar (ar (ai (vI a87) trivial))))))) (ar trivial))
   ·
    refine Tk (Tz hc (Ch.s (dI ((m : Int) + 1)) (iX rfl rfl intV_addA) (Ch.s (dI ((m : Int) + 1)) pm (Ch.nil ?_))))
    exact nx (m + 1) (by omega) (Wk.of rfl rfl (ar (ar (ar (ai (vS a19) (ar (ar (ai (vI a87) trivial))))))) (ar trivial))
  ·
   refine T_exit (Ts hc (Ch.s (dS (sgLn x.sigs (k + 1) m)) pm (Ch.s (dB (!(decide ((sgLn x.sigs (k + 1) m) = [])))) (.pure (.str _ _ _ _ _ rfl rfl rfl rfl)) (Ch.nil ?_))))
   refine T_condN (b := (decide ((sgLn x.sigs (k + 1) m) = []))) rfl (fun h4 => ?_) (fun h4 => ?_)
   ·
    replace h4 := odf h4
    refine Tz hc (Ch.s (dS (sgTo x.sigs k)) pm (Ch.s (.row 32000) (.call 32000 55 _ _ _ en55 rfl (.inl rfl) .nil rfl (sol (solid_row (fun _ => rfl) _) rfl) (sp_spec_l3Words ) .nil rfl) (Ch.s (dI ((k + 1 : Nat) : Int)) pm (Ch.s (.el 32000 1 (k + 1) 0) (.pure (.idxRow _ _ _ 9 (k + 1) rfl Tryz.underlying37 sz9 rfl rfl rfl rfl a52)) (Ch.s (dS (kwL.getD (k + 1) default)) (.pure (.loadEl1 _ _ rfl ag9 rfl rfl get_mapA rfl rfl rfl)) (Ch.s (dS (sgLn x.sigs (k + 1) m)) pm (Ch.s (dS ((kwL.getD (k + 1) default) ++ (sgLn x.sigs (k + 1) m))) (.pure (.str _ _ _ _ _ rfl rfl rfl (strV_add a26))) ?_)))))))
    refine Ch.s (dS (((kwL.getD (k + 1) default) ++ (sgLn x.sigs (k + 1) m)) ++ [10])) (.pure (.str _ _ _ _ _ rfl rfl rfl (strV_add a26))) (Ch.s (dS ((sgTo x.sigs k) ++ (((kwL.getD (k + 1) default) ++ (sgLn x.sigs (k + 1) m)) ++ [10]))) (.pure (.str _ _ _ _ _ rfl rfl rfl (strV_add a26))) (Ch.s (dS ((sgTo x.sigs k) ++ (((kwL.getD (k + 1) default) ++ (sgLn x.sigs (k + 1) m)) ++ [10]))) pa (Ch.nil (Tz hc (Ch.s (dI ((k + 1 : Nat) : Int)) pm (Ch.s (dI (((k + 1 : Nat) : Int) + 1)) (iX rfl rfl intV_addA) (Ch.s (dI (((k + 1 : Nat) : Int) + 1)) pa ?_)))))))
    refine Ch.nil ?_
    exact nx (k + 1) (by omega) (Wk.of rfl rfl (ar (ai (vS a12) (ai (vI a87) trivial))) (ar trivial))
   ·
    replace h4 := odt h4
    refine Tk (Tz hc (Ch.s (dI ((k + 1 : Nat) : Int)) pm (Ch.s (dI (((k + 1 : Nat) : Int) + 1)) (iX rfl rfl intV_addA) (Ch.s (dI (((k + 1 : Nat) : Int) + 1)) pa (Ch.nil ?_)))))
    exact nx (k + 1) (by omega) (Wk.of rfl rfl (ar (ai (vS a12) (ai (vI a87) trivial))) (ar trivial))
 ·
  refine T_exit (Ts hc (Ch.s (dS (sgTo x.sigs k)) pm (Ch.s (dS (sgTo x.sigs k)) pa (Ch.nil (T_ret ?_)))))
  exact eR [(dS (sgTo x.sigs k))] [] [] (.cons (.tmp 2 rfl) .nil) eA (Exp.of (congrArg D.str (by rw [sgT, show k = 3 by omega])) (.d _))

theorem sp_impl_FormatSTG (x : Stg) (hx : x.sm) : SpQ (fun S w _ => DRs S w [(.ref (.agg (kwL.map D.str)))] [(.pointer (some ⟨0, 0, none⟩))] []) Tryz.prog 45 [(.agg [(.int .i64 x.places), (.slice false 2 (x.trans.map Tra.d)), (.slice false 2 (x.sigs.map Sgn.d)), (.slice false 2 (x.labs.map Lab.d)), (.str x.start)])] [.any] (.tup [.any, (.bool (stgB x && kndB x.sigs))]) := by
 refine SpG_intro Tryz.func45 rfl [900001] rfl rfl rfl (fun c hc => ?_)
 have hx2 := hx; obtain ⟨⟨h0, h0u⟩, hts, hsg, hlb, hst⟩ := hx; have hn1 := hts.1; have hn2 := hsg.1
 refine Ts hc (Ch.s (.ptr 1000 0) (.box 1000 _ _ rfl (.aggD _)) (Ch.s (dS []) pa (Ch.s (dB false) pa (Ch.nil (Tq (Tq ?_))))))
 refine Tz hc (Ch.s (.agg [(dI x.places), (.d (.slice false 2 (x.trans.map Tra.d))), (.d (.slice false 2 (x.sigs.map Sgn.d))), (.d (.slice false 2 (x.labs.map Lab.d))), (dS x.start)]) (lA ag28 sz28 rfl rfl (lb rfl) rfl) (Ch.s (dB (stgB x)) (.call 9000 68 _ _ _ en68 rfl (.inl rfl) (.cons (.lend (.agg (.cons (.d _) (.cons (.d _) (.cons (.d _) (.cons (.d _) (.cons (.d _) .nil))))) rfl)) .nil) rfl rfl (sp_impl_IsValidSTG x (by assumption)) (.skip _ _ .nil) rfl) (Ch.s (dB (!(stgB x))) (nT rfl) (Ch.nil ?_))))
 refine T_condN (b := (stgB x)) rfl (fun h1 => ?_) (fun h1 => ?_)
 ·
  try have hv := stg_v h1
  try have v1 := hv.p1
  try have v2 := hv.p30
  try have v3 := hv.t24
  try have v4 := hv.s1
  try have v5 := hv.s8
  try have v6 := hv.lab
  try have v7 := hv.st
  try have hst2 := sgTo_le (fun y hy => (hv.nam y hy).2.1) hv.s8 3
  try have hke := sgIf_le hst2
  refine Ts hc (Ch.s (dS []) pa (Ch.s (dB false) pa (Ch.nil (T_ret ?_))))
  exact eR [(dS []), (dB false)] [] [] (.cons (.tmp 2 rfl) (.cons (.tmp 3 rfl) .nil)) eA (.tup (.cons (.any _) (.cons (Exp.of (congrArg D.bool a75) (.d _)) .nil)))
 ·
  try have hv := stg_v h1
  try have v1 := hv.p1
  try have v2 := hv.p30
  try have v3 := hv.t24
  try have v4 := hv.s1
  try have v5 := hv.s8
  try have v6 := hv.lab
  try have v7 := hv.st
  try have hst2 := sgTo_le (fun y hy => (hv.nam y hy).2.1) hv.s8 3
  try have hke := sgIf_le hst2
  refine Tk (Ts hc (Ch.s (.ptr 1000 2) (fP fld28_1 rfl) (Ch.s (.d (.slice false 2 (x.sigs.map Sgn.d))) (lP ag25 rfl rfl rfl) (Ch.s (.tup [(dS (if kndB x.sigs then sgT x.sigs else [])), (dB (kndB x.sigs))]) (.callG (ms := [900001]) 14000 46 _ _ _ en46 rfl (.inl rfl) (.cons (.d _) .nil) rfl rfl (sp_impl_signalLines x.sigs a79 a94) ⟨rfl, trivial⟩ (.skip _ _ .nil) rfl) (Ch.s (.tup [(dS (if kndB x.sigs then sgT x.sigs else [])), (dB (kndB x.sigs))]) pm (Ch.s (dS (if kndB x.sigs then sgT x.sigs else [])) (xT rfl rfl) ?_))))))
  refine Ch.s (dB (kndB x.sigs)) (xT rfl rfl) (Ch.s (dS (if kndB x.sigs then sgT x.sigs else [])) pa (Ch.s (dB (kndB x.sigs)) pa (Ch.nil (Tq (Ts hc (Ch.s (dB (kndB x.sigs)) pm ?_))))))
  refine Ch.s (dB (!(kndB x.sigs))) (nT rfl) (Ch.nil ?_)
  refine T_condN (b := (kndB x.sigs)) rfl (fun h2 => ?_) (fun h2 => ?_)
  ·
   refine Ts hc (Ch.s (dS []) pa (Ch.s (dB false) pa (Ch.nil (T_ret ?_))))
   exact eR [(dS []), (dB false)] [] [] (.cons (.tmp 2 rfl) (.cons (.tmp 3 rfl) .nil)) eA (.tup (.cons (.any _) (.cons (Exp.of (congrArg D.bool a75) (.d _)) .nil)))
  ·
   refine Tk (Ts hc (Ch.s (dS (if kndB x.sigs then sgT x.sigs else [])) pm (Ch.s (.ptr 1000 4) (fP fld28_3 rfl) (Ch.s (dS x.start) (lP ag9 rfl rfl rfl) (Ch.s (dS ([115, 116, 97, 114, 116, 32] ++ x.start)) (.pure (.str _ _ _ _ _ rfl rfl rfl (strV_add a26))) (Ch.s (dS (([115, 116, 97, 114, 116, 32] ++ x.start) ++ [10])) (.pure (.str _ _ _ _ _ rfl rfl rfl (strV_add a26))) ?_))))))
   refine Ch.s (dS ((if kndB x.sigs then sgT x.sigs else []) ++ (([115, 116, 97, 114, 116, 32] ++ x.start) ++ [10]))) (.pure (.str _ _ _ _ _ rfl rfl rfl (strV_add a26))) (Ch.s (dS ((if kndB x.sigs then sgT x.sigs else []) ++ (([115, 116, 97, 114, 116, 32] ++ x.start) ++ [10]))) pa (Ch.nil (Tq (Ts hc (Ch.s (.ptr 1000 0) (fP fld28_0 rfl) (Ch.s (.ptr 1000 1) (fP fld24_1 rfl) ?_))))))
   refine Ch.s (.d (.slice false 2 (x.trans.map Tra.d))) (lP ag22 rfl rfl rfl) (Ch.s (dI (x.trans.length : Int)) (.pure (.len _ _ 64 rfl Tryz.underlying22 (.sh _ _) (by simp))) (Ch.s (dI 0) pm (Ch.nil (Tb ?_))))
   refine T_loop (ι := Nat × List UInt8) (fun q => { n := 56, sl := [(1, (.ptr 1000 0)), (4, (dS q.2)), (27, (.d (.slice false 2 (x.trans.map Tra.d)))), (28, (dI (x.trans.length : Int))), (29, (dI (q.1 : Int)))], hp := [(1000, (some (.box [(dI x.places), (.d (.slice false 2 (x.trans.map Tra.d))), (.d (.slice false 2 (x.sigs.map Sgn.d))), (.d (.slice false 2 (x.labs.map Lab.d))), (dS x.start)]))), (900001, (some (.ghost (.ref (.agg (kwL.map D.str))) (.pointer (some ⟨0, 0, none⟩)))))], pin := [] }) (fun q => q.1 ≤ x.trans.length ∧ q.2.length ≤ 300 + 200 * q.1) (fun q => x.trans.length - q.1) ⟨(0, sgT x.sigs ++ ([115, 116, 97, 114, 116, 32] ++ x.start ++ [10])), ⟨by dsimp only; omega, by dsimp only; simp only [List.length_append, List.length_cons, List.length_nil]; unfold sgT; omega⟩, (Wk.of rfl rfl (ar (ai (vS a72) (ar (ar (ai (vI a87) trivial))))) (ar (ar trivial)))⟩ (fun q hp0 => ?_)
   have hq1 := hp0.1; have hq2 := hp0.2
   refine Ts hc (Ch.s (dB (decide ((q.1 : Int) < (x.trans.length : Int)))) (iX rfl rfl rfl) (Ch.nil (Tq ?_)))
   refine T_condD (p := ((q.1 : Int) < (x.trans.length : Int))) rfl (fun h3 => ?_) (fun h3 => ?_)
   ·
    try have hpk := pre_le hv (k := q.1) (by omega)
    try have hp1 := plcT_le (x.trans.getD q.1 default).pre (x.trans.getD q.1 default).pre.length
    try have hp2 := plcT_le (x.trans.getD q.1 default).post (x.trans.getD q.1 default).post.length
    try have hp3 := hpk.1.1
    try have hp4 := hpk.2.1
    try have hed := (hv.edg _ (getD_mem (l := x.labs) (j := q.1) (d := default) (by omega))).2
    try have hel := edgT_le (fun y hy => (hv.nam y hy).2.1) hed
    refine Tk (Tq (Tb (Ts hc (Ch.s (dI (q.1 : Int)) pm (Ch.s (.d (.ref (.agg [(.slice false 1 (((x.trans.getD q.1 default).pre).map (fun n : Int => D.int .i64 n))), (.slice false 1 (((x.trans.getD q.1 default).post).map (fun n : Int => D.int .i64 n)))]))) (.pure (.idx _ _ _ 64 (q.1) rfl Tryz.underlying22 sz64 rfl rfl rfl get_mapA)) (Ch.s (.d (.agg [(.slice false 1 (((x.trans.getD q.1 default).pre).map (fun n : Int => D.int .i64 n))), (.slice false 1 (((x.trans.getD q.1 default).post).map (fun n : Int => D.int .i64 n)))])) (.pure (.loadRefA _ _ rfl ag64 sz64 rfl)) ?_))))))
    refine Ch.s (.ptr 7000 0) (.alloc 7000 _ rfl zer64) (Ch.s (dI (q.1 : Int)) pa (Ch.s .junk (.storePtr _ _ _ rfl rfl rfl (.aggD _) sz64 (lb rfl)) (Ch.nil ?_)))
    refine T_regionD hc (by kernel_rfl) ?_
    refine ChD.s (dS q.2) [] pm (ChD.s (.ptr 1000 2) [] (fP fld28_1 rfl) (ChD.s (.d (.slice false 2 (x.sigs.map Sgn.d))) [1000] (lP ag25 rfl rfl rfl) (ChD.s (.ptr 1000 3) [] (fP fld28_2 rfl) (ChD.s (.d (.slice false 2 (x.labs.map Lab.d))) [1000] (lP ag26 rfl rfl rfl) (ChD.s (dI (q.1 : Int)) [] pm (ChD.s (.d (.ref (.agg [(.int .i64 ((x.labs.getD q.1 default).sig)), (.bool ((x.labs.getD q.1 default).up))]))) [] (.pure (.idx _ _ _ 67 (q.1) rfl Tryz.underlying26 sz67 rfl rfl rfl get_mapA)) (ChD.s (.d (.agg [(.int .i64 ((x.labs.getD q.1 default).sig)), (.bool ((x.labs.getD q.1 default).up))])) [] (.pure (.loadRefA _ _ rfl ag67 sz67 rfl)) ?_)))))))
    refine ChD.s (dS (edgT x.sigs (x.labs.getD q.1 default))) [] (.call 42000 69 _ _ _ en69 rfl (.inl rfl) (.cons (.d _) (.cons (.d _) .nil)) rfl rfl (sp_impl_edgeText x.sigs (x.labs.getD q.1 default) a23 a94 a42) (.skip _ _ (.skip _ _ .nil)) rfl) (ChD.s (.ptr 7000 0) [] (fP fld64_0 rfl) (ChD.s (.d (.slice false 1 (((x.trans.getD q.1 default).pre).map (fun n : Int => D.int .i64 n)))) [7000] (lP ag62 rfl rfl rfl) (ChD.s (dS (plcT ((x.trans.getD q.1 default).pre) ((x.trans.getD q.1 default).pre).length)) [] (.call 45000 70 _ _ _ en70 rfl (.inl rfl) (.cons (.d _) .nil) rfl rfl (sp_impl_placesText ((x.trans.getD q.1 default).pre) (by first | exact hpk.1.1 | exact hpk.2.1) (by first | exact hpk.1.2 | exact hpk.2.2)) (.skip _ _ .nil) rfl) (ChD.s (dS ((edgT x.sigs (x.labs.getD q.1 default)) ++ (plcT ((x.trans.getD q.1 default).pre) ((x.trans.getD q.1 default).pre).length))) [] (.pure (.str _ _ _ _ _ rfl rfl rfl (strV_add a26))) (ChD.s (dS (((edgT x.sigs (x.labs.getD q.1 default)) ++ (plcT ((x.trans.getD q.1 default).pre) ((x.trans.getD q.1 default).pre).length)) ++ [32, 62])) [] (.pure (.str _ _ _ _ _ rfl rfl rfl (strV_add a26))) (ChD.s (.ptr 7000 1) [] (fP fld64_1 rfl) (ChD.s (.d (.slice false 1 (((x.trans.getD q.1 default).post).map (fun n : Int => D.int .i64 n)))) [7000] (lP ag62 rfl rfl rfl) ?_)))))))
    refine ChD.s (dS (plcT ((x.trans.getD q.1 default).post) ((x.trans.getD q.1 default).post).length)) [] (.call 50000 70 _ _ _ en70 rfl (.inl rfl) (.cons (.d _) .nil) rfl rfl (sp_impl_placesText ((x.trans.getD q.1 default).post) (by first | exact hpk.1.1 | exact hpk.2.1) (by first | exact hpk.1.2 | exact hpk.2.2)) (.skip _ _ .nil) rfl) (ChD.s (dS ((((edgT x.sigs (x.labs.getD q.1 default)) ++ (plcT ((x.trans.getD q.1 default).pre) ((x.trans.getD q.1 default).pre).length)) ++ [32, 62]) ++ (plcT ((x.trans.getD q.1 default).post) ((x.trans.getD q.1 default).post).length))) [] (.pure (.str _ _ _ _ _ rfl rfl rfl (strV_add a26))) (ChD.s (dS (((((edgT x.sigs (x.labs.getD q.1 default)) ++ (plcT ((x.trans.getD q.1 default).pre) ((x.trans.getD q.1 default).pre).length)) ++ [32, 62]) ++ (plcT ((x.trans.getD q.1 default).post) ((x.trans.getD q.1 default).post).length)) ++ [10])) [] (.pure (.str _ _ _ _ _ rfl rfl rfl (strV_add a26))) (ChD.s (dS (q.2 ++ (((((edgT x.sigs (x.labs.getD q.1 default)) ++ (plcT ((x.trans.getD q.1 default).pre) ((x.trans.getD q.1 default).pre).length)) ++ [32, 62]) ++ (plcT ((x.trans.getD q.1 default).post) ((x.trans.getD q.1 default).post).length)) ++ [10]))) [] (.pure (.str _ _ _ _ _ rfl rfl rfl (strV_add a26))) (ChD.s (dS (q.2 ++ (((((edgT x.sigs (x.labs.getD q.1 default)) ++ (plcT ((x.trans.getD q.1 default).pre) ((x.trans.getD q.1 default).pre).length)) ++ [32, 62]) ++ (plcT ((x.trans.getD q.1 default).post) ((x.trans.getD q.1 default).post).length)) ++ [10]))) [] pa ?_))))
    refine ChD.nil (And.intro ?_ (by kernel_rfl))
    refine Tz hc (Ch.s (dI ((q.1 : Int) + 1)) (iX rfl rfl intV_addA) (Ch.s (dI ((q.1 : Int) + 1)) pm (Ch.nil ?_)))
    refine Exists.intro ((q.1 + 1, (q.2 ++ (((((edgT x.sigs (x.labs.getD q.1 default)) ++ (plcT ((x.trans.getD q.1 default).pre) ((x.trans.getD q.1 default).pre).length)) ++ [32, 62]) ++ (plcT ((x.trans.getD q.1 default).post) ((x.trans.getD q.1 default).post).length)) ++ [10])))) (And.intro ⟨by dsimp only; omega, by dsimp only; simp only [List.length_append, List.length_cons, List.length_nil]; omega⟩ (And.intro (by dsimp only; omega) (Wk.of rfl rfl (ar (ai (vS a72) (ar (ar (ai (vI a87) trivial))))) (ar (ar trivial)))))
   ·
    try have hpk := pre_le hv (k := q.1) (by omega)
    try have hp1 := plcT_le (x.trans.getD q.1 default).pre (x.trans.getD q.1 default).pre.length
    try have hp2 := plcT_le (x.trans.getD q.1 default).post (x.trans.getD q.1 default).post.length
    try have hp3 := hpk.1.1
    try have hp4 := hpk.2.1
    try have hed := (hv.edg _ (getD_mem (l := x.labs) (j := q.1) (d := default) (by omega))).2
    try have hel := edgT_le (fun y hy => (hv.nam y hy).2.1) hed
    refine T_exit (Ts hc (Ch.s (dS q.2) pm (Ch.s (dS q.2) pa (Ch.s (dB true) pa (Ch.nil (T_ret ?_))))))
    exact eR [(dS q.2), (dB true)] [] [] (.cons (.tmp 2 rfl) (.cons (.tmp 3 rfl) .nil)) eA (.tup (.cons (.any _) (.cons (Exp.of (congrArg D.bool a75) (.d _)) .nil)))

theorem sp_spec_l3Arcs (x : Stg) (hv : StgV x) (hmk : mrkB x = true) : Sp Tryz.prog 13 [(.agg [(.int .i64 x.places), (.slice false 2 (x.trans.map Tra.d)), (.slice false 2 (x.sigs.map Sgn.d)), (.slice false 2 (x.labs.map Lab.d)), (.str x.start)])] [.any] (.str (arcsT x)) := by
 refine Sp_intro (lend := true) Tryz.func13 rfl rfl rfl (fun _ => rfl) (fun c hc hX => ?_)
 have hx := stg_sm hv; obtain ⟨⟨h0, h0u⟩, hts, hsg, hlb, hst⟩ := hx; have hn1 := hts.1; have hn2 := hsg.1; have v1 := hv.p1; have v2 := hv.p30; have v3 := hv.t24; have v4 := hv.s1; have v5 := hv.s8; have v6 := hv.lab; have v7 := hv.st; have hx := stg_sm hv
 refine Ts hc (Ch.s (.ptr 1000 0) (.box 1000 _ _ rfl (.aggD _)) (Ch.s (dS []) pa (Ch.nil (Ts hc (Ch.s (.agg [(dI x.places), (.d (.slice false 2 (x.trans.map Tra.d))), (.d (.slice false 2 (x.sigs.map Sgn.d))), (.d (.slice false 2 (x.labs.map Lab.d))), (dS x.start)]) (lA ag28 sz28 rfl rfl (lb rfl) rfl) ?_)))))
 refine Ch.s (dS (sgT x.sigs)) (.call 6000 37 _ _ _ en37 rfl (.inl rfl) (.cons (.lend (.agg (.cons (.d _) (.cons (.d _) (.cons (.d _) (.cons (.d _) (.cons (.d _) .nil))))) rfl)) .nil) rfl rfl (sp_spec_l3Signals x a79 a94) (.skip _ _ .nil) rfl) (Ch.s (dS (sgT x.sigs)) pa (Ch.nil (Tq (Ts hc (Ch.s (dI 0) pa (Ch.nil ?_))))))
 refine Tb ?_
 refine T_loop (ι := Nat) (fun k => { n := 42, sl := [(1, (.ptr 1000 0)), (3, (dS (arcTo x k))), (4, (dI (k : Int)))], hp := [(1000, (some (.box [(dI x.places), (.d (.slice false 2 (x.trans.map Tra.d))), (.d (.slice false 2 (x.sigs.map Sgn.d))), (.d (.slice false 2 (x.labs.map Lab.d))), (dS x.start)])))], pin := [] }) (fun k => k ≤ x.places.toNat) (fun k => x.places.toNat - k) ⟨0, (by omega), (Wk.of rfl rfl (ar (ai (vS a6) (ai (vI a87) trivial))) (ar trivial))⟩ (fun k hp0 => ?_)
 have hal := arcTo_le hv hmk hp0
 refine Tq (Ts hc (Ch.s (dI (k : Int)) pm (Ch.s (.ptr 1000 0) (fP fld28_0 rfl) (Ch.s (.ptr 1000 0) (fP fld24_0 rfl) (Ch.s (dI x.places) (lP ag3 rfl rfl rfl) (Ch.s (dB (decide ((k : Int) < x.places))) (iX rfl rfl rfl) ?_))))))
 refine Ch.nil ?_
 refine T_condD (p := ((k : Int) < x.places)) rfl (fun h1 => ?_) (fun h1 => ?_)
 ·
  try have hm1 := mrk_one hmk (p := k) (by omega)
  try have hm2 := hm1.1
  try have hm3 := hm1.2
  try have hm4 := one_lt hm2
  try have hm5 := one_lt hm3
  try have hm6 := trnT_le hv hm4
  try have hm7 := trnT_le hv hm5
  refine Tk (Tq (Tb (Tq ?_)))
  refine T_regionD hc (by kernel_rfl) ?_
  refine ChD.s (dS (arcTo x k)) [] pm (ChD.s (.agg [(dI x.places), (.d (.slice false 2 (x.trans.map Tra.d))), (.d (.slice false 2 (x.sigs.map Sgn.d))), (.d (.slice false 2 (x.labs.map Lab.d))), (dS x.start)]) [1000] (lA ag28 sz28 rfl rfl (lb rfl) rfl) (ChD.s (.agg [(dI x.places), (.d (.slice false 2 (x.trans.map Tra.d))), (.d (.slice false 2 (x.sigs.map Sgn.d))), (.d (.slice false 2 (x.labs.map Lab.d))), (dS x.start)]) [1000] (lA ag28 sz28 rfl rfl (lb rfl) rfl) (ChD.s (dI (k : Int)) [] pm (ChD.s (.row 18000) [] (.call 18000 36 _ _ _ en36 rfl (.inl rfl) (.cons (.lend (.agg (.cons (.d _) (.cons (.d _) (.cons (.d _) (.cons (.d _) (.cons (.d _) .nil))))) rfl)) (.cons (.d _) (.cons (.d _) .nil))) rfl (sol (solid_row (fun _ => rfl) _) rfl) (sp_of1 x (k : Int) (by assumption)) (.skip _ _ (.skip _ _ (.skip _ _ .nil))) rfl) (ChD.s (.el 18000 1 0 0) [18000] (.pure (.idxRow _ _ _ 3 (0) rfl Tryz.underlying62 sz3 rfl rfl rfl rfl a52)) (ChD.s (dI ((((usrN x.trans Tra.post (k : Int) x.trans.length).getD 0 default) : Nat) : Int)) [18000] (.pure (.loadEl1 _ _ rfl ag3 rfl rfl get_mapA rfl rfl rfl)) (ChD.s (dS (trnT x.sigs x.labs ((usrN x.trans Tra.post (k : Int) x.trans.length).getD 0 default))) [] (.call 21000 38 _ _ _ en38 rfl (.inl rfl) (.cons (.lend (.agg (.cons (.d _) (.cons (.d _) (.cons (.d _) (.cons (.d _) (.cons (.d _) .nil))))) rfl)) (.cons (.d _) .nil)) rfl rfl (sp_spec_l2Text x ((usrN x.trans Tra.post (k : Int) x.trans.length).getD 0 default) (by assumption) a94) (.skip _ _ (.skip _ _ .nil)) rfl) ?_)))))))
  refine ChD.s (dS ((trnT x.sigs x.labs ((usrN x.trans Tra.post (k : Int) x.trans.length).getD 0 default)) ++ [32])) [] (.pure (.str _ _ _ _ _ rfl rfl rfl (strV_add a26))) (ChD.s (.agg [(dI x.places), (.d (.slice false 2 (x.trans.map Tra.d))), (.d (.slice false 2 (x.sigs.map Sgn.d))), (.d (.slice false 2 (x.labs.map Lab.d))), (dS x.start)]) [1000] (lA ag28 sz28 rfl rfl (lb rfl) rfl) (ChD.s (.agg [(dI x.places), (.d (.slice false 2 (x.trans.map Tra.d))), (.d (.slice false 2 (x.sigs.map Sgn.d))), (.d (.slice false 2 (x.labs.map Lab.d))), (dS x.start)]) [1000] (lA ag28 sz28 rfl rfl (lb rfl) rfl) (ChD.s (dI (k : Int)) [] pm (ChD.s (.row 26000) [] (.call 26000 36 _ _ _ en36 rfl (.inl rfl) (.cons (.lend (.agg (.cons (.d _) (.cons (.d _) (.cons (.d _) (.cons (.d _) (.cons (.d _) .nil))))) rfl)) (.cons (.d _) (.cons (.d _) .nil))) rfl (sol (solid_row (fun _ => rfl) _) rfl) (sp_of0 x (k : Int) (by assumption)) (.skip _ _ (.skip _ _ (.skip _ _ .nil))) rfl) (ChD.s (.el 26000 1 0 0) [26000] (.pure (.idxRow _ _ _ 3 (0) rfl Tryz.underlying62 sz3 rfl rfl rfl rfl a52)) (ChD.s (dI ((((usrN x.trans Tra.pre (k : Int) x.trans.length).getD 0 default) : Nat) : Int)) [26000] (.pure (.loadEl1 _ _ rfl ag3 rfl rfl get_mapA rfl rfl rfl)) (ChD.s (dS (trnT x.sigs x.labs ((usrN x.trans Tra.pre (k : Int) x.trans.length).getD 0 default))) [] (.call 29000 38 _ _ _ en38 rfl (.inl rfl) (.cons (.lend (.agg (.cons (.d _) (.cons (.d _) (.cons (.d _) (.cons (.d _) (.cons (.d _) .nil))))) rfl)) (.cons (.d _) .nil)) rfl rfl (sp_spec_l2Text x ((usrN x.trans Tra.pre (k : Int) x.trans.length).getD 0 default) (by assumption) a94) (.skip _ _ (.skip _ _ .nil)) rfl) ?_)))))))
  refine ChD.s (dS (((trnT x.sigs x.labs ((usrN x.trans Tra.post (k : Int) x.trans.length).getD 0 default)) ++ [32]) ++ (trnT x.sigs x.labs ((usrN x.trans Tra.pre (k : Int) x.trans.length).getD 0 default)))) [] (.pure (.str _ _ _ _ _ rfl rfl rfl (strV_add a26))) (ChD.s (dS ((arcTo x k) ++ (((trnT x.sigs x.labs ((usrN x.trans Tra.post (k : Int) x.trans.length).getD 0 default)) ++ [32]) ++ (trnT x.sigs x.labs ((usrN x.trans Tra.pre (k : Int) x.trans.length).getD 0 default))))) [] (.pure (.str _ _ _ _ _ rfl rfl rfl (strV_add a26))) (ChD.s (dS ((arcTo x k) ++ (((trnT x.sigs x.labs ((usrN x.trans Tra.post (k : Int) x.trans.length).getD 0 default)) ++ [32]) ++ (trnT x.sigs x.labs ((usrN x.trans Tra.pre (k : Int) x.trans.length).getD 0 default))))) [] pa ?_))
  refine ChD.nil (And.intro ?_ (by kernel_rfl))
  refine Tq (Ts hc (Ch.s (.ptr 1000 4) (fP fld28_3 rfl) (Ch.s (dS x.start) (lP ag9 rfl rfl rfl) (Ch.s (dI (k : Int)) pm (Ch.s (.d (.int .u8 ((x.start.getD k 0).toNat : Int))) (.pure (.idxStr _ _ _ (k) rfl Tryz.underlying9 rfl rfl rfl get_strA)) (Ch.s (dB (decide (((x.start.getD k 0) : UInt8) = 49))) (iX rfl rfl (u8_eql ((x.start.getD k 0) : UInt8) 49 rfl rfl)) ?_))))))
  refine Ch.nil ?_
  refine T_condD (p := (((x.start.getD k 0) : UInt8) = 49)) rfl (fun h2 => ?_) (fun h2 => ?_)
  ·
   refine Tz hc (Ch.s (dS ((arcTo x k) ++ (((trnT x.sigs x.labs ((usrN x.trans Tra.post (k : Int) x.trans.length).getD 0 default)) ++ [32]) ++ (trnT x.sigs x.labs ((usrN x.trans Tra.pre (k : Int) x.trans.length).getD 0 default))))) pm (Ch.s (dS (((arcTo x k) ++ (((trnT x.sigs x.labs ((usrN x.trans Tra.post (k : Int) x.trans.length).getD 0 default)) ++ [32]) ++ (trnT x.sigs x.labs ((usrN x.trans Tra.pre (k : Int) x.trans.length).getD 0 default)))) ++ [32, 42])) (.pure (.str _ _ _ _ _ rfl rfl rfl (strV_add a26))) (Ch.s (dS (((arcTo x k) ++ (((trnT x.sigs x.labs ((usrN x.trans Tra.post (k : Int) x.trans.length).getD 0 default)) ++ [32]) ++ (trnT x.sigs x.labs ((usrN x.trans Tra.pre (k : Int) x.trans.length).getD 0 default)))) ++ [32, 42])) pa (Ch.nil (Tz hc (Ch.s (dS (((arcTo x k) ++ (((trnT x.sigs x.labs ((usrN x.trans Tra.post (k : Int) x.trans.length).getD 0 default)) ++ [32]) ++ (trnT x.sigs x.labs ((usrN x.trans Tra.pre (k : Int) x.trans.length).getD 0 default)))) ++ [32, 42])) pm (Ch.s (dS ((((arcTo x k) ++ (((trnT x.sigs x.labs ((usrN x.trans Tra.post (k : Int) x.trans.length).getD 0 default)) ++ [32]) ++ (trnT x.sigs x.labs ((usrN x.trans Tra.pre (k : Int) x.trans.length).getD 0 default)))) ++ [32, 42]) ++ [10])) (.pure (.str _ _ _ _ _ rfl rfl rfl (strV_add a26))) ?_)))))))
   refine Ch.s (dS ((((arcTo x k) ++ (((trnT x.sigs x.labs ((usrN x.trans Tra.post (k : Int) x.trans.length).getD 0 default)) ++ [32]) ++ (trnT x.sigs x.labs ((usrN x.trans Tra.pre (k : Int) x.trans.length).getD 0 default)))) ++ [32, 42]) ++ [10])) pa (Ch.nil (Tz hc (Ch.s (dI (k : Int)) pm (Ch.s (dI ((k : Int) + 1)) (iX rfl rfl intV_addA) (Ch.s (dI ((k : Int) + 1)) pa (Ch.nil ?_))))))
   exact nx (k + 1) (by omega) (Wk.of rfl rfl (ar (ai (vS a6) (ai (vI a87) trivial))) (ar trivial))
  ·
   refine Tk (Tz hc (Ch.s (dS ((arcTo x k) ++ (((trnT x.sigs x.labs ((usrN x.trans Tra.post (k : Int) x.trans.length).getD 0 default)) ++ [32]) ++ (trnT x.sigs x.labs ((usrN x.trans Tra.pre (k : Int) x.trans.length).getD 0 default))))) pm (Ch.s (dS (((arcTo x k) ++ (((trnT x.sigs x.labs ((usrN x.trans Tra.post (k : Int) x.trans.length).getD 0 default)) ++ [32]) ++ (trnT x.sigs x.labs ((usrN x.trans Tra.pre (k : Int) x.trans.length).getD 0 default)))) ++ [10])) (.pure (.str _ _ _ _ _ rfl rfl rfl (strV_add a26))) (Ch.s (dS (((arcTo x k) ++ (((trnT x.sigs x.labs ((usrN x.trans Tra.post (k : Int) x.trans.length).getD 0 default)) ++ [32]) ++ (trnT x.sigs x.labs ((usrN x.trans Tra.pre (k : Int) x.trans.length).getD 0 default)))) ++ [10])) pa (Ch.nil (Tz hc (Ch.s (dI (k : Int)) pm ?_)))))))
   refine Ch.s (dI ((k : Int) + 1)) (iX rfl rfl intV_addA) (Ch.s (dI ((k : Int) + 1)) pa (Ch.nil ?_))
   exact nx (k + 1) (by omega) (Wk.of rfl rfl (ar (ai (vS a6) (ai (vI a87) trivial))) (ar trivial))
 ·
  try have hm1 := mrk_one hmk (p := k) (by omega)
  try have hm2 := hm1.1
  try have hm3 := hm1.2
  try have hm4 := one_lt hm2
  try have hm5 := one_lt hm3
  try have hm6 := trnT_le hv hm4
  try have hm7 := trnT_le hv hm5
  refine T_exit (Ts hc (Ch.s (dS (arcTo x k)) pm (Ch.s (dS (arcTo x k)) pa (Ch.nil (T_ret ?_)))))
  exact eR [(dS (arcTo x k))] [] [] (.cons (.tmp 2 rfl) .nil) eA (Exp.of (congrArg D.str (by rw [arcsT, show k = x.places.toNat by omega])) (.d _))

theorem sp_impl_FormatArcs (x : Stg) (hx : x.sm) : SpQ (fun S w _ => DRs S w [(.ref (.agg (kwL.map D.str)))] [(.pointer (some ⟨0, 0, none⟩))] []) Tryz.prog 18 [(.agg [(.int .i64 x.places), (.slice false 2 (x.trans.map Tra.d)), (.slice false 2 (x.sigs.map Sgn.d)), (.slice false 2 (x.labs.map Lab.d)), (.str x.start)])] [.any] (.tup [(.str (frmT x)), (.bool (frmB x))]) := by
 refine SpG_intro Tryz.func18 rfl [900001] rfl rfl rfl (fun c hc => ?_)
 have hx2 := hx; obtain ⟨⟨h0, h0u⟩, hts, hsg, hlb, hst⟩ := hx; have hn1 := hts.1; have hn2 := hsg.1
 refine Ts hc (Ch.s (.ptr 1000 0) (.box 1000 _ _ rfl (.aggD _)) (Ch.s (dS []) pa (Ch.s (dB false) pa (Ch.nil (Tq (Tz hc ?_))))))
 refine Ch.s (.agg [(dI x.places), (.d (.slice false 2 (x.trans.map Tra.d))), (.d (.slice false 2 (x.sigs.map Sgn.d))), (.d (.slice false 2 (x.labs.map Lab.d))), (dS x.start)]) (lA ag28 sz28 rfl rfl (lb rfl) rfl) (Ch.s (.tup [(dB (stgB x && mrkB x)), .junk]) (.call 15000 44 _ _ _ en44 rfl (.inl rfl) (.cons (.lend (.agg (.cons (.d _) (.cons (.d _) (.cons (.d _) (.cons (.d _) (.cons (.d _) .nil))))) rfl)) .nil) rfl rfl (sp_impl_IsMarkedGraph x (by assumption)) (.skip _ _ .nil) rfl) (Ch.s (.tup [(dB (stgB x && mrkB x)), .junk]) pm (Ch.s (dB (stgB x && mrkB x)) (xT rfl rfl) (Ch.s .junk (xT rfl rfl) (Ch.s (dB (stgB x && mrkB x)) pa (Ch.s .junk pa (Ch.nil ?_)))))))
 refine Tq (Ts hc (Ch.s (.agg [(dI x.places), (.d (.slice false 2 (x.trans.map Tra.d))), (.d (.slice false 2 (x.sigs.map Sgn.d))), (.d (.slice false 2 (x.labs.map Lab.d))), (dS x.start)]) (lA ag28 sz28 rfl rfl (lb rfl) rfl) (Ch.s (.tup [.junk, (dB (stgB x && kndB x.sigs))]) (.callG (ms := [900001]) 20000 45 _ _ _ en45 rfl (.inl rfl) (.cons (.lend (.agg (.cons (.d _) (.cons (.d _) (.cons (.d _) (.cons (.d _) (.cons (.d _) .nil))))) rfl)) .nil) rfl rfl (sp_impl_FormatSTG x (by assumption)) ⟨rfl, trivial⟩ (.skip _ _ .nil) rfl) (Ch.s (.tup [.junk, (dB (stgB x && kndB x.sigs))]) pm (Ch.s .junk (xT rfl rfl) (Ch.s (dB (stgB x && kndB x.sigs)) (xT rfl rfl) ?_))))))
 refine Ch.s .junk pa (Ch.s (dB (stgB x && kndB x.sigs)) pa (Ch.nil (Ts hc (Ch.s (dB (stgB x && mrkB x)) pm (Ch.s (dB (!(stgB x && mrkB x))) (nT rfl) (Ch.s (dB (!(stgB x && mrkB x))) pm ?_))))))
 cases h1 : (stgB x && mrkB x) with
 | true =>
  refine Ch.s (dB (stgB x && kndB x.sigs)) pm (Ch.s (dB (!(stgB x && kndB x.sigs))) (nT rfl) (Ch.s (dB (!(stgB x && kndB x.sigs))) (pF rfl) (Ch.nil ?_)))
  refine T_condN (b := (stgB x && kndB x.sigs)) rfl (fun h2 => ?_) (fun h2 => ?_)
  ·
   try have hf3 := frm_3 h1 h2
   try have hv := hf3.1
   try have hmk := hf3.2.1
   try have hkn := hf3.2.2.1
   try have v1 := hv.p1
   try have v2 := hv.p30
   try have v3 := hv.t24
   try have v4 := hv.s1
   try have v5 := hv.s8
   try have v6 := hv.lab
   try have v7 := hv.st
   refine Ts hc (Ch.s (dS []) pa (Ch.s (dB false) pa (Ch.nil (T_ret ?_))))
   exact eR [(dS []), (dB false)] [] [] (.cons (.tmp 2 rfl) (.cons (.tmp 3 rfl) .nil)) eA (.tup (.cons (Exp.of (congrArg D.str a8) (.d _)) (.cons (Exp.of (congrArg D.bool a8) (.d _)) .nil)))
  ·
   try have hf3 := frm_3 h1 h2
   try have hv := hf3.1
   try have hmk := hf3.2.1
   try have hkn := hf3.2.2.1
   try have v1 := hv.p1
   try have v2 := hv.p30
   try have v3 := hv.t24
   try have v4 := hv.s1
   try have v5 := hv.s8
   try have v6 := hv.lab
   try have v7 := hv.st
   refine Tk (Ts hc (Ch.s (.ptr 1000 2) (fP fld28_1 rfl) (Ch.s (.d (.slice false 2 (x.sigs.map Sgn.d))) (lP ag25 rfl rfl rfl) (Ch.s (.tup [(dS (if kndB x.sigs then sgT x.sigs else [])), (dB (kndB x.sigs))]) (.callG (ms := [900001]) 32000 46 _ _ _ en46 rfl (.inl rfl) (.cons (.d _) .nil) rfl rfl (sp_impl_signalLines x.sigs a79 a94) ⟨rfl, trivial⟩ (.skip _ _ .nil) rfl) (Ch.s (.tup [(dS (if kndB x.sigs then sgT x.sigs else [])), (dB (kndB x.sigs))]) pm (Ch.s (dS (if kndB x.sigs then sgT x.sigs else [])) (xT rfl rfl) ?_))))))
   refine Ch.s (dB (kndB x.sigs)) (xT rfl rfl) (Ch.s (dS (if kndB x.sigs then sgT x.sigs else [])) pa (Ch.s (dB (kndB x.sigs)) pa (Ch.nil (Tq (Ts hc (Ch.s (.ptr 1000 0) (fP fld28_0 rfl) ?_))))))
   refine Ch.s (.ptr 1000 0) (fP fld24_0 rfl) (Ch.s (dI x.places) (lP ag3 rfl rfl rfl) (Ch.s (dI 0) pm (Ch.nil (Tb ?_))))
   refine T_loop (ι := Nat) (fun k => { n := 73, sl := [(1, (.ptr 1000 0)), (8, (dS (arcTo x k))), (37, (dI x.places)), (38, (dI (k : Int)))], hp := [(1000, (some (.box [(dI x.places), (.d (.slice false 2 (x.trans.map Tra.d))), (.d (.slice false 2 (x.sigs.map Sgn.d))), (.d (.slice false 2 (x.labs.map Lab.d))), (dS x.start)]))), (900001, (some (.ghost (.ref (.agg (kwL.map D.str))) (.pointer (some ⟨0, 0, none⟩)))))], pin := [] }) (fun k => k ≤ x.places.toNat) (fun k => x.places.toNat - k) ⟨0, (by omega), (Wk.of rfl rfl (ar (ai (vS a6) (ar (ai (vI a87) trivial)))) (ar (ar trivial)))⟩ (fun k hp0 => ?_)
   have hal := arcTo_le hv hmk hp0
   refine Ts hc (Ch.s (dB (decide ((k : Int) < x.places))) (iX rfl rfl rfl) (Ch.nil (Tq ?_)))
   refine T_condD (p := ((k : Int) < x.places)) rfl (fun h3 => ?_) (fun h3 => ?_)
   ·
    try have hm1 := mrk_one hmk (p := k) (by omega)
    try have hm2 := hm1.1
    try have hm3 := hm1.2
    try have hm4 := one_lt hm2
    try have hm5 := one_lt hm3
    try have hm6 := trnT_le hv hm4
    try have hm7 := trnT_le hv hm5
    refine Tk (Tq (Tb (Ts hc (Ch.s (dI (k : Int)) pm (Ch.s (dI (k : Int)) pa (Ch.nil ?_))))))
    refine Ts hc (Ch.s (.ptr 1000 0) (fP fld28_0 rfl) (Ch.s (.agg [(dI x.places), (.d (.slice false 2 (x.trans.map Tra.d)))]) (lA ag24 sz24 rfl rfl (lb rfl) rfl) (Ch.s (dI (k : Int)) pm ?_)))
    refine Ch.step (v := (.tup [(.row 45000), (.row 45001)])) rfl (.call 45000 47 _ _ _ en47 rfl (.inl rfl) (.cons (.lend (.agg (.cons (.d _) (.cons (.d _) .nil)) rfl)) (.cons (.d _) .nil)) rfl (sol a39 rfl) (sp_impl_users x.places x.trans (k : Int) (by assumption)) (.skip _ _ (.skip _ _ .nil)) rfl) rfl rfl ?_
    refine Ch.s (.tup [(.row 45000), (.row 45001)]) pm (Ch.s (.row 45000) (xT rfl rfl) (Ch.s (.row 45001) (xT rfl rfl) (Ch.s (.row 45000) pa (Ch.s (.row 45001) pa (Ch.nil (Tq ?_))))))
    refine T_regionD hc (by kernel_rfl) ?_
    refine ChD.s (dS (arcTo x k)) [] pm (ChD.s (.agg [(dI x.places), (.d (.slice false 2 (x.trans.map Tra.d))), (.d (.slice false 2 (x.sigs.map Sgn.d))), (.d (.slice false 2 (x.labs.map Lab.d))), (dS x.start)]) [1000] (lA ag28 sz28 rfl rfl (lb rfl) rfl) (ChD.s (.row 45001) [] pm (ChD.s (.el 45001 1 0 0) [45001] (.pure (.idxRow _ _ _ 3 (0) rfl Tryz.underlying62 sz3 rfl rfl rfl rfl a52)) (ChD.s (dI ((((usrN x.trans Tra.post (k : Int) x.trans.length).getD 0 default) : Nat) : Int)) [45001] (.pure (.loadEl1 _ _ rfl ag3 rfl rfl get_mapA rfl rfl rfl)) (ChD.s (dS (trnT x.sigs x.labs ((usrN x.trans Tra.post (k : Int) x.trans.length).getD 0 default))) [] (.call 53000 48 _ _ _ en48 rfl (.inl rfl) (.cons (.lend (.agg (.cons (.d _) (.cons (.d _) (.cons (.d _) (.cons (.d _) (.cons (.d _) .nil))))) rfl)) (.cons (.d _) .nil)) rfl rfl (sp_impl_transitionName x ((usrN x.trans Tra.post (k : Int) x.trans.length).getD 0 default) (by assumption) a94) (.skip _ _ (.skip _ _ .nil)) rfl) (ChD.s (dS ((trnT x.sigs x.labs ((usrN x.trans Tra.post (k : Int) x.trans.length).getD 0 default)) ++ [32])) [] (.pure (.str _ _ _ _ _ rfl rfl rfl (strV_add a26))) (ChD.s (.agg [(dI x.places), (.d (.slice false 2 (x.trans.map Tra.d))), (.d (.slice false 2 (x.sigs.map Sgn.d))), (.d (.slice false 2 (x.labs.map Lab.d))), (dS x.start)]) [1000] (lA ag28 sz28 rfl rfl (lb rfl) rfl) ?_)))))))
    refine ChD.s (.row 45000) [] pm (ChD.s (.el 45000 1 0 0) [45000] (.pure (.idxRow _ _ _ 3 (0) rfl Tryz.underlying62 sz3 rfl rfl rfl rfl a52)) (ChD.s (dI ((((usrN x.trans Tra.pre (k : Int) x.trans.length).getD 0 default) : Nat) : Int)) [45000] (.pure (.loadEl1 _ _ rfl ag3 rfl rfl get_mapA rfl rfl rfl)) (ChD.s (dS (trnT x.sigs x.labs ((usrN x.trans Tra.pre (k : Int) x.trans.length).getD 0 default))) [] (.call 59000 48 _ _ _ en48 rfl (.inl rfl) (.cons (.lend (.agg (.cons (.d _) (.cons (.d _) (.cons (.d _) (.cons (.d _) (.cons (.d _) .nil))))) rfl)) (.cons (.d _) .nil)) rfl rfl (sp_impl_transitionName x ((usrN x.trans Tra.pre (k : Int) x.trans.length).getD 0 default) (by assumption) a94) (.skip _ _ (.skip _ _ .nil)) rfl) (ChD.s (dS (((trnT x.sigs x.labs ((usrN x.trans Tra.post (k : Int) x.trans.length).getD 0 default)) ++ [32]) ++ (trnT x.sigs x.labs ((usrN x.trans Tra.pre (k : Int) x.trans.length).getD 0 default)))) [] (.pure (.str _ _ _ _ _ rfl rfl rfl (strV_add a26))) (ChD.s (dS ((arcTo x k) ++ (((trnT x.sigs x.labs ((usrN x.trans Tra.post (k : Int) x.trans.length).getD 0 default)) ++ [32]) ++ (trnT x.sigs x.labs ((usrN x.trans Tra.pre (k : Int) x.trans.length).getD 0 default))))) [] (.pure (.str _ _ _ _ _ rfl rfl rfl (strV_add a26))) (ChD.s (dS ((arcTo x k) ++ (((trnT x.sigs x.labs ((usrN x.trans Tra.post (k : Int) x.trans.length).getD 0 default)) ++ [32]) ++ (trnT x.sigs x.labs ((usrN x.trans Tra.pre (k : Int) x.trans.length).getD 0 default))))) [] pa ?_))))))
    refine ChD.nil (And.intro ?_ (by kernel_rfl))
    refine Tq (Ts hc (Ch.s (.ptr 1000 4) (fP fld28_3 rfl) (Ch.s (dS x.start) (lP ag9 rfl rfl rfl) (Ch.s (dI (k : Int)) pm (Ch.s (.d (.int .u8 ((x.start.getD k 0).toNat : Int))) (.pure (.idxStr _ _ _ (k) rfl Tryz.underlying9 rfl rfl rfl get_strA)) (Ch.s (dB (decide (((x.start.getD k 0) : UInt8) = 49))) (iX rfl rfl (u8_eql ((x.start.getD k 0) : UInt8) 49 rfl rfl)) ?_))))))
    refine Ch.nil ?_
    refine T_condD (p := (((x.start.getD k 0) : UInt8) = 49)) rfl (fun h4 => ?_) (fun h4 => ?_)
    ·
     try have hm1 := mrk_one hmk (p := k) (by omega)
     try have hm2 := hm1.1
     try have hm3 := hm1.2
     try have hm4 := one_lt hm2
     try have hm5 := one_lt hm3
     try have hm6 := trnT_le hv hm4
     try have hm7 := trnT_le hv hm5
     refine Tz hc (Ch.s (dS ((arcTo x k) ++ (((trnT x.sigs x.labs ((usrN x.trans Tra.post (k : Int) x.trans.length).getD 0 default)) ++ [32]) ++ (trnT x.sigs x.labs ((usrN x.trans Tra.pre (k : Int) x.trans.length).getD 0 default))))) pm (Ch.s (dS (((arcTo x k) ++ (((trnT x.sigs x.labs ((usrN x.trans Tra.post (k : Int) x.trans.length).getD 0 default)) ++ [32]) ++ (trnT x.sigs x.labs ((usrN x.trans Tra.pre (k : Int) x.trans.length).getD 0 default)))) ++ [32, 42])) (.pure (.str _ _ _ _ _ rfl rfl rfl (strV_add a26))) (Ch.s (dS (((arcTo x k) ++ (((trnT x.sigs x.labs ((usrN x.trans Tra.post (k : Int) x.trans.length).getD 0 default)) ++ [32]) ++ (trnT x.sigs x.labs ((usrN x.trans Tra.pre (k : Int) x.trans.length).getD 0 default)))) ++ [32, 42])) pa (Ch.nil (Tz hc (Ch.s (dS (((arcTo x k) ++ (((trnT x.sigs x.labs ((usrN x.trans Tra.post (k : Int) x.trans.length).getD 0 default)) ++ [32]) ++ (trnT x.sigs x.labs ((usrN x.trans Tra.pre (k : Int) x.trans.length).getD 0 default)))) ++ [32, 42])) pm (Ch.s (dS ((((arcTo x k) ++ (((trnT x.sigs x.labs ((usrN x.trans Tra.post (k : Int) x.trans.length).getD 0 default)) ++ [32]) ++ (trnT x.sigs x.labs ((usrN x.trans Tra.pre (k : Int) x.trans.length).getD 0 default)))) ++ [32, 42]) ++ [10])) (.pure (.str _ _ _ _ _ rfl rfl rfl (strV_add a26))) ?_)))))))
     refine Ch.s (dS ((((arcTo x k) ++ (((trnT x.sigs x.labs ((usrN x.trans Tra.post (k : Int) x.trans.length).getD 0 default)) ++ [32]) ++ (trnT x.sigs x.labs ((usrN x.trans Tra.pre (k : Int) x.trans.length).getD 0 default)))) ++ [32, 42]) ++ [10])) pa (Ch.nil (Tz hc (Ch.s (dI ((k : Int) + 1)) (iX rfl rfl intV_addA) (Ch.s (dI ((k : Int) + 1)) pm (Ch.nil ?_)))))
     exact nx (k + 1) (by omega) (Wk.of rfl rfl (ar (ai (vS a6) (ar (ai (vI a87) trivial)))) (ar (ar trivial)))
    ·
     try have hm1 := mrk_one hmk (p := k) (by omega)
     try have hm2 := hm1.1
     try have hm3 := hm1.2
     try have hm4 := one_lt hm2
     try have hm5 := one_lt hm3
     try have hm6 := trnT_le hv hm4
     try have hm7 := trnT_le hv hm5
     refine Tk (Tz hc (Ch.s (dS ((arcTo x k) ++ (((trnT x.sigs x.labs ((usrN x.trans Tra.post (k : Int) x.trans.length).getD 0 default)) ++ [32]) ++ (trnT x.sigs x.labs ((usrN x.trans Tra.pre (k : Int) x.trans.length).getD 0 default))))) pm (Ch.s (dS (((arcTo x k) ++ (((trnT x.sigs x.labs ((usrN x.trans Tra.post (k : Int) x.trans.length).getD 0 default)) ++ [32]) ++ (trnT x.sigs x.labs ((usrN x.trans Tra.pre (k : Int) x.trans.length).getD 0 default)))) ++ [10])) (.pure (.str _ _ _ _ _ rfl rfl rfl (strV_add a26))) (Ch.s (dS (((arcTo x k) ++ (((trnT x.sigs x.labs ((usrN x.trans Tra.post (k : Int) x.trans.length).getD 0 default)) ++ [32]) ++ (trnT x.sigs x.labs ((usrN x.trans Tra.pre (k : Int) x.trans.length).getD 0 default)))) ++ [10])) pa (Ch.nil (Tz hc (Ch.s (dI ((k : Int) + 1)) (iX rfl rfl intV_addA) ?_)))))))
     refine Ch.s (dI ((k : Int) + 1)) pm (Ch.nil ?_)
     exact nx (k + 1) (by omega) (Wk.of rfl rfl (ar (ai (vS a6) (ar (ai (vI a87) trivial)))) (ar (ar trivial)))
   ·
    try have hm1 := mrk_one hmk (p := k) (by omega)
    try have hm2 := hm1.1
    try have hm3 := hm1.2
    try have hm4 := one_lt hm2
    try have hm5 := one_lt hm3
    try have hm6 := trnT_le hv hm4
    try have hm7 := trnT_le hv hm5
    refine T_exit (Ts hc (Ch.s (dS (arcTo x k)) pm (Ch.s (dS (arcTo x k)) pa (Ch.s (dB true) pa (Ch.nil (T_ret ?_))))))
    exact eR [(dS (arcTo x k)), (dB true)] [] [] (.cons (.tmp 2 rfl) (.cons (.tmp 3 rfl) .nil)) eA (.tup (.cons (Exp.of (congrArg D.str a8) (.d _)) (.cons (Exp.of (congrArg D.bool a8) (.d _)) .nil)))
 | false =>
  refine Ck (Ck (Ch.s (dB true) (pT rfl) (Ch.nil ?_)))
  refine T_cond (b := true) rfl (fun _ => ?_) (fun h => nomatch h)
  refine Ts hc (Ch.s (dS []) pa (Ch.s (dB false) pa (Ch.nil (T_ret ?_))))
  exact eR [(dS []), (dB false)] [] [] (.cons (.tmp 2 rfl) (.cons (.tmp 3 rfl) .nil)) eA (.tup (.cons (Exp.of (congrArg D.str a8) (.d _)) (.cons (Exp.of (congrArg D.bool a8) (.d _)) .nil)))

theorem sp_sigOf1 (y : Sgn) (u : List UInt8) : Sp Tryz.prog 99 [(.agg [(.str y.name), (.int .i64 y.kind)]), (.ref (.str u))] [.any, .any] (.bool (decide (y.name = u))) := by
 refine Sp_intro (lend := true) Tryz.func99 rfl rfl rfl (fun _ => rfl) (fun c hc hX => ?_)
 refine Ts hc (Ch.s (.ptr 2000 0) (.box 2000 _ _ rfl (.aggD _)) (Ch.s (dB false) pa (Ch.nil (Ts hc (Ch.s (.ptr 2000 0) (fP fld77_0 rfl) ?_)))))
 refine Ch.s (dS y.name) (lP ag9 rfl rfl rfl) (Ch.s (dS u) (rF ag9 rfl rfl) (Ch.s (dB (decide (y.name = u))) (.pure (.str _ _ _ _ _ rfl rfl rfl rfl)) (Ch.s (dB (decide (y.name = u))) pa (Ch.nil (T_ret ?_)))))
 exact eR [(dB (decide (y.name = u)))] [] [] (.cons (.tmp 3 rfl) .nil) eB (.d _)

theorem sp_impl_signalOf (sg : List Sgn) (u : List UInt8) (hn : sg.length ≤ 1048576) : Sp Tryz.prog 85 [(.slice false 2 (sg.map Sgn.d)), (.str u)] [.any, .any] (.int .i64 (ixF (fun y => decide (y.name = u)) sg)) := by
 refine Sp_intro (lend := true) Tryz.func85 rfl rfl rfl (fun _ => rfl) (fun c hc hX => ?_)
 refine Ts hc (Ch.s (.ptr 3000 0) (.box 3000 _ _ rfl (.one _ rfl)) (Ch.s (dI 0) pa (Ch.nil (Ts hc (Ch.s (.d (.slice false 2 (sg.map Sgn.d))) pm ?_)))))
 refine Ch.s (.fn 99 [(.ptr 3000 0)]) (.pure (.func _ _ rfl rfl)) (Ch.s (dI (ixF (fun y => decide (y.name = u)) sg)) (.call 7000 98 _ _ _ en98 rfl (.inl rfl) (.cons (.d _) (.cons (.lend (.fn (.cons (.ptr rfl (.one (.d _) rfl)) .nil))) .nil)) rfl rfl (sp_IndexFunc_sgn sg 99 [(.ref (.str u))] (fun y => decide (y.name = u)) en99 (fun y _ => sp_sigOf1 y u) a7) (.skip _ _ (.skip _ _ .nil)) rfl) (Ch.s (dI (ixF (fun y => decide (y.name = u)) sg)) pa (Ch.nil (T_ret ?_))))
 exact eR [(dI (ixF (fun y => decide (y.name = u)) sg))] [] [] (.cons (.tmp 4 rfl) .nil) eB (.d _)

theorem sp_spec_l2Signal (sg : List Sgn) (u : List UInt8) (hn : sg.length ≤ 1048576) : Sp Tryz.prog 56 [(.slice false 2 (sg.map Sgn.d)), (.str u)] [.any, .any] (.int .i64 (ixF (fun y => decide (y.name = u)) sg)) := by
 refine Sp_intro (lend := true) Tryz.func56 rfl rfl rfl (fun _ => rfl) (fun c hc hX => ?_)
 refine Ts hc (Ch.s (dI 0) pa (Ch.nil (Tq (Ts hc (Ch.s (.d (.slice false 2 (sg.map Sgn.d))) pm ?_)))))
 refine Ch.s (dI (sg.length : Int)) (.pure (.len _ _ 77 rfl Tryz.underlying25 (.sh _ _) (by simp))) (Ch.s (dI 0) pm (Ch.nil (Tb ?_)))
 refine T_loop (ι := Nat) (fun k => { n := 20, sl := [(1, (dS u)), (7, (.d (.slice false 2 (sg.map Sgn.d)))), (8, (dI (sg.length : Int))), (9, (dI (k : Int)))], hp := [], pin := [] }) (fun k => k ≤ sg.length ∧ ∀ j, j < k → decide ((sg.getD j default).name = u) = false) (fun k => sg.length - k) ⟨0, ⟨by omega, fun j hj => by omega⟩, (Wk.of rfl rfl (ar (ar (ar (ai (vI a87) trivial)))) trivial)⟩ (fun k hp0 => ?_)
 refine Ts hc (Ch.s (dB (decide ((k : Int) < (sg.length : Int)))) (iX rfl rfl rfl) (Ch.nil (Tq ?_)))
 refine T_condD (p := ((k : Int) < (sg.length : Int))) rfl (fun h1 => ?_) (fun h1 => ?_)
 ·
  refine Tk (Tq (Tb (Ts hc (Ch.s (dI (k : Int)) pm (Ch.s (.d (.ref (.agg [(.str ((sg.getD k default).name)), (.int .i64 ((sg.getD k default).kind))]))) (.pure (.idx _ _ _ 77 (k) rfl Tryz.underlying25 sz77 rfl rfl rfl get_mapA)) (Ch.s (.d (.agg [(.str ((sg.getD k default).name)), (.int .i64 ((sg.getD k default).kind))])) (.pure (.loadRefA _ _ rfl ag77 sz77 rfl)) ?_))))))
  refine Ch.s (.ptr 6000 0) (.alloc 6000 _ rfl zer77) (Ch.s (dI (k : Int)) pa (Ch.s .junk (.storePtr _ _ _ rfl rfl rfl (.aggD _) sz77 (lb rfl)) (Ch.nil (Ts hc (Ch.s (.ptr 6000 0) (fP fld77_0 rfl) (Ch.s (dS ((sg.getD k default).name)) (lP ag9 rfl rfl rfl) ?_))))))
  refine Ch.s (dS u) pm (Ch.s (dB (decide (((sg.getD k default).name) = u))) (.pure (.str _ _ _ _ _ rfl rfl rfl rfl)) (Ch.nil ?_))
  refine T_condD (p := (((sg.getD k default).name) = u)) rfl (fun h2 => ?_) (fun h2 => ?_)
  ·
   refine Ts hc (Ch.s (dI (k : Int)) pm (Ch.s (dI (k : Int)) pa (Ch.nil (T_ret ?_))))
   exact eR [(dI (k : Int))] [] [] (.cons (.tmp 4 rfl) .nil) eB (Exp.of (congrArg (D.int .i64) (by exact (ixF_some (p := fun y : Sgn => decide (y.name = u)) (l := sg) (k := k) (d := default) (by omega) hp0.2 (decide_eq_true (by assumption))).symm)) (.d _))
  ·
   refine Tk (Tz hc (Ch.s (dI ((k : Int) + 1)) (iX rfl rfl intV_addA) (Ch.s (dI ((k : Int) + 1)) pm (Ch.nil ?_))))
   exact nx (k + 1) ⟨by omega, upto_succ hp0.2 (decide_eq_false (by assumption))⟩ (Wk.of rfl rfl (ar (ar (ar (ai (vI a87) trivial)))) trivial)
 ·
  refine T_exit (Ts hc (Ch.s (dI (-1)) pa (Ch.nil (T_ret ?_))))
  exact eR [(dI (-1))] [] [] (.cons (.tmp 4 rfl) .nil) eB (Exp.of (congrArg (D.int .i64) a68) (.d _))

theorem sp_impl_labelOf (sg : List Sgn) (u : List UInt8) (hn : sg.length ≤ 1048576) (hu : u.length ≤ 1048576) : Sp Tryz.prog 67 [(.slice false 2 (sg.map Sgn.d)), (.str u)] [.any, .any] (.tup [(.agg [(.int .i64 (((labO sg u).1).sig)), (.bool (((labO sg u).1).up))]), (.bool ((labO sg u).2))]) := by
 refine Sp_intro (lend := true) Tryz.func67 rfl rfl rfl (fun _ => rfl) (fun c hc hX => ?_)
 have hli := lastI (u := u)
 refine Ts hc (Ch.s (.ptr 4000 0) (.alloc 4000 _ rfl zer67) (Ch.s (dB false) pa (Ch.nil (Tq (Tq (Tz hc ?_))))))
 refine Ch.s (dS u) pm (Ch.s (dB (decide (u = [126]))) (.pure (.str _ _ _ _ _ rfl rfl rfl rfl)) (Ch.nil ?_))
 refine T_condD (p := (u = [126])) rfl (fun h1 => ?_) (fun h1 => ?_)
 ·
  refine Ts hc (Ch.s (.agg [(dI (-1)), (dB false)]) (.build _ _ rfl stru67 (.cons (.one _ rfl) .nil) rfl) (Ch.s .junk (.storePtr _ _ _ rfl rfl rfl (.agg _ rfl) sz67 (lb rfl)) (Ch.s (dB true) pa (Ch.nil (T_ret ?_)))))
  exact eR [(.agg [(dI (-1)), (dB false)]), (dB true)] [] [] (.cons (.cellA _ _ rfl rfl ag67 sz67) (.cons (.tmp 5 rfl) .nil)) eB (.tup (.cons (.agg (.cons (Exp.of (congrArg (D.int .i64) a2) (.d _)) (.cons (Exp.of (congrArg D.bool a2) (.d _)) .nil)) rfl) (.cons (Exp.of (congrArg D.bool a2) (.d _)) .nil)))
 ·
  refine Tk (Ts hc (Ch.s (dS u) pm (Ch.s (dI (u.length : Int)) (.pure (.lenStr _ _ rfl Tryz.underlying9 rfl)) (Ch.s (dI ((u.length : Int) - 1)) (iX rfl rfl intV_subA) (Ch.s (dI ((u.length : Int) - 1)) pa (Ch.nil ?_))))))
  refine Tq (Ts hc (Ch.s (dI ((u.length : Int) - 1)) pm (Ch.s (dB (decide (((u.length : Int) - 1) < 1))) (iX rfl rfl rfl) (Ch.s (dB (decide (((u.length : Int) - 1) < 1))) pm ?_))))
  cases h2 : (decide (((u.length : Int) - 1) < 1)) with
  | true =>
   replace h2 := odt h2
   refine Ck (Ck (Ck (Ck (Ck (Ck (Ck (Ch.skip rfl rfl ?_)))))))
   refine Ck (Ck (Ch.s (dB true) (pT rfl) (Ch.nil ?_)))
   refine T_cond (b := true) rfl (fun _ => ?_) (fun h => nomatch h)
   refine Ts hc (Ch.s (.agg [(dI 0), (dB false)]) (.build _ _ rfl stru67 .nil rfl) (Ch.s .junk (.storePtr _ _ _ rfl rfl rfl (.agg _ rfl) sz67 (lb rfl)) (Ch.s (dB false) pa (Ch.nil (T_ret ?_)))))
   exact eR [(.agg [(dI 0), (dB false)]), (dB false)] [] [] (.cons (.cellA _ _ rfl rfl ag67 sz67) (.cons (.tmp 5 rfl) .nil)) eB (.tup (.cons (.agg (.cons (Exp.of (congrArg (D.int .i64) a2) (.d _)) (.cons (Exp.of (congrArg D.bool a2) (.d _)) .nil)) rfl) (.cons (Exp.of (congrArg D.bool a2) (.d _)) .nil)))
  | false =>
   replace h2 := odf h2
   refine Ch.s (dS u) pm (Ch.s (dI ((u.length : Int) - 1)) pm (Ch.s (.d (.int .u8 ((u.getD (u.length - 1) 0).toNat : Int))) (.pure (.idxStr _ _ _ ((u.length - 1)) rfl Tryz.underlying9 rfl rfl (by omega) get_strA)) (Ch.s (dB (!(decide (((u.getD (u.length - 1) 0) : UInt8) = 43)))) (iX rfl rfl (u8_neq ((u.getD (u.length - 1) 0) : UInt8) 43 rfl rfl)) (Ch.s (dB (!(decide (((u.getD (u.length - 1) 0) : UInt8) = 43)))) pm ?_))))
   cases h3 : (decide (((u.getD (u.length - 1) 0) : UInt8) = 43)) with
   | true =>
    replace h3 := odt h3
    refine Ck (Ck (Ck (Ck (Ch.s (dB false) (pF rfl) (Ch.s (dB false) (pF rfl) (Ch.nil ?_))))))
    refine T_cond (b := false) rfl (fun h => nomatch h) (fun _ => ?_)
    refine Tk (Ts hc (Ch.s (.d (.slice false 2 (sg.map Sgn.d))) pm (Ch.s (dS u) pm (Ch.s (dI ((u.length : Int) - 1)) pm (Ch.s (dS (u.take (u.length - 1))) (.pure (.sliceStr _ _ _ _ (0) ((u.length - 1)) rfl Tryz.underlying9 rfl (bndN rfl) (bndS rfl (by omega)) a26 a26 (by simp))) (Ch.s (dI (ixF (fun y => decide (y.name = (u.take (u.length - 1)))) sg)) (.call 33000 85 _ _ _ en85 rfl (.inl rfl) (.cons (.d _) (.cons (.d _) .nil)) rfl rfl (sp_impl_signalOf sg (u.take (u.length - 1)) a23) (.skip _ _ (.skip _ _ .nil)) rfl) ?_))))))
    refine Ch.s (dI (ixF (fun y => decide (y.name = (u.take (u.length - 1)))) sg)) pa (Ch.nil (Ts hc (Ch.s (dI (ixF (fun y => decide (y.name = (u.take (u.length - 1)))) sg)) pm (Ch.s (dS u) pm (Ch.s (dI ((u.length : Int) - 1)) pm (Ch.s (.d (.int .u8 ((u.getD (u.length - 1) 0).toNat : Int))) (.pure (.idxStr _ _ _ ((u.length - 1)) rfl Tryz.underlying9 rfl rfl (by omega) get_strA)) ?_))))))
    refine Ch.s (dB (decide (((u.getD (u.length - 1) 0) : UInt8) = 43))) (iX rfl rfl (u8_eql ((u.getD (u.length - 1) 0) : UInt8) 43 rfl rfl)) (Ch.s (.agg [(dI (ixF (fun y => decide (y.name = (u.take (u.length - 1)))) sg)), (dB (decide (((u.getD (u.length - 1) 0) : UInt8) = 43)))]) (.build _ _ rfl stru67 (.cons (.one _ rfl) (.cons (.one _ rfl) .nil)) rfl) (Ch.s (dI (ixF (fun y => decide (y.name = (u.take (u.length - 1)))) sg)) pm (Ch.s (dB (decide (0 ≤ (ixF (fun y => decide (y.name = (u.take (u.length - 1)))) sg)))) (iX rfl rfl rfl) (Ch.s .junk (.storePtr _ _ _ rfl rfl rfl (.agg _ rfl) sz67 (lb rfl)) (Ch.s (dB (decide (0 ≤ (ixF (fun y => decide (y.name = (u.take (u.length - 1)))) sg)))) pa (Ch.nil (T_ret ?_)))))))
    exact eR [(.agg [(dI (ixF (fun y => decide (y.name = (u.take (u.length - 1)))) sg)), (dB (decide (((u.getD (u.length - 1) 0) : UInt8) = 43)))]), (dB (decide (0 ≤ (ixF (fun y => decide (y.name = (u.take (u.length - 1)))) sg))))] [] [] (.cons (.cellA _ _ rfl rfl ag67 sz67) (.cons (.tmp 5 rfl) .nil)) eB (.tup (.cons (.agg (.cons (Exp.of (congrArg (D.int .i64) a2) (.d _)) (.cons (Exp.of (congrArg D.bool a2) (.d _)) .nil)) rfl) (.cons (Exp.of (congrArg D.bool a2) (.d _)) .nil)))
   | false =>
    replace h3 := odf h3
    refine Ch.s (dS u) pm (Ch.s (dI ((u.length : Int) - 1)) pm (Ch.s (.d (.int .u8 ((u.getD (u.length - 1) 0).toNat : Int))) (.pure (.idxStr _ _ _ ((u.length - 1)) rfl Tryz.underlying9 rfl rfl (by omega) get_strA)) (Ch.s (dB (!(decide (((u.getD (u.length - 1) 0) : UInt8) = 45)))) (iX rfl rfl (u8_neq ((u.getD (u.length - 1) 0) : UInt8) 45 rfl rfl)) (Ch.s (dB (!(decide (((u.getD (u.length - 1) 0) : UInt8) = 45)))) (pT rfl) (Ch.s (dB (!(decide (((u.getD (u.length - 1) 0) : UInt8) = 45)))) (pF rfl) (Ch.nil ?_))))))
    refine T_condN (b := (decide (((u.getD (u.length - 1) 0) : UInt8) = 45))) rfl (fun h4 => ?_) (fun h4 => ?_)
    ·
     replace h4 := odf h4
     refine Ts hc (Ch.s (.agg [(dI 0), (dB false)]) (.build _ _ rfl stru67 .nil rfl) (Ch.s .junk (.storePtr _ _ _ rfl rfl rfl (.agg _ rfl) sz67 (lb rfl)) (Ch.s (dB false) pa (Ch.nil (T_ret ?_)))))
     exact eR [(.agg [(dI 0), (dB false)]), (dB false)] [] [] (.cons (.cellA _ _ rfl rfl ag67 sz67) (.cons (.tmp 5 rfl) .nil)) eB (.tup (.cons (.agg (.cons (Exp.of (congrArg (D.int .i64) a2) (.d _)) (.cons (Exp.of (congrArg D.bool a2) (.d _)) .nil)) rfl) (.cons (Exp.of (congrArg D.bool a2) (.d _)) .nil)))
    ·
     replace h4 := odt h4
     refine Tk (Ts hc (Ch.s (.d (.slice false 2 (sg.map Sgn.d))) pm (Ch.s (dS u) pm (Ch.s (dI ((u.length : Int) - 1)) pm (Ch.s (dS (u.take (u.length - 1))) (.pure (.sliceStr _ _ _ _ (0) ((u.length - 1)) rfl Tryz.underlying9 rfl (bndN rfl) (bndS rfl (by omega)) a26 a26 (by simp))) (Ch.s (dI (ixF (fun y => decide (y.name = (u.take (u.length - 1)))) sg)) (.call 33000 85 _ _ _ en85 rfl (.inl rfl) (.cons (.d _) (.cons (.d _) .nil)) rfl rfl (sp_impl_signalOf sg (u.take (u.length - 1)) a23) (.skip _ _ (.skip _ _ .nil)) rfl) ?_))))))
     refine Ch.s (dI (ixF (fun y => decide (y.name = (u.take (u.length - 1)))) sg)) pa (Ch.nil (Ts hc (Ch.s (dI (ixF (fun y => decide (y.name = (u.take (u.length - 1)))) sg)) pm (Ch.s (dS u) pm (Ch.s (dI ((u.length : Int) - 1)) pm (Ch.s (.d (.int .u8 ((u.getD (u.length - 1) 0).toNat : Int))) (.pure (.idxStr _ _ _ ((u.length - 1)) rfl Tryz.underlying9 rfl rfl (by omega) get_strA)) ?_))))))
     refine Ch.s (dB (decide (((u.getD (u.length - 1) 0) : UInt8) = 43))) (iX rfl rfl (u8_eql ((u.getD (u.length - 1) 0) : UInt8) 43 rfl rfl)) (Ch.s (.agg [(dI (ixF (fun y => decide (y.name = (u.take (u.length - 1)))) sg)), (dB (decide (((u.getD (u.length - 1) 0) : UInt8) = 43)))]) (.build _ _ rfl stru67 (.cons (.one _ rfl) (.cons (.one _ rfl) .nil)) rfl) (Ch.s (dI (ixF (fun y => decide (y.name = (u.take (u.length - 1)))) sg)) pm (Ch.s (dB (decide (0 ≤ (ixF (fun y => decide (y.name = (u.take (u.length - 1)))) sg)))) (iX rfl rfl rfl) (Ch.s .junk (.storePtr _ _ _ rfl rfl rfl (.agg _ rfl) sz67 (lb rfl)) (Ch.s (dB (decide (0 ≤ (ixF (fun y => decide (y.name = (u.take (u.length - 1)))) sg)))) pa (Ch.nil (T_ret ?_)))))))
     exact eR [(.agg [(dI (ixF (fun y => decide (y.name = (u.take (u.length - 1)))) sg)), (dB (decide (((u.getD (u.length - 1) 0) : UInt8) = 43)))]), (dB (decide (0 ≤ (ixF (fun y => decide (y.name = (u.take (u.length - 1)))) sg))))] [] [] (.cons (.cellA _ _ rfl rfl ag67 sz67) (.cons (.tmp 5 rfl) .nil)) eB (.tup (.cons (.agg (.cons (Exp.of (congrArg (D.int .i64) a2) (.d _)) (.cons (Exp.of (congrArg D.bool a2) (.d _)) .nil)) rfl) (.cons (Exp.of (congrArg D.bool a2) (.d _)) .nil)))

theorem sz37 : SizeIs Tryz.prog 37 1 := by unfold SizeIs; kernel_rfl

theorem ag37 : AggIs Tryz.prog 37 false := by unfold AggIs; kernel_rfl

theorem fld50_1 : FieldIs Tryz.prog 50 1 5 1 false := FieldIs.mk Tryz.underlying50 rfl rfl sz37 ag37 rfl

theorem en65 : Enters Tryz.prog 65 := ⟨_, Tryz.func65, by kernel_rfl, rfl⟩

theorem en66 : Enters Tryz.prog 66 := ⟨_, Tryz.func66, by kernel_rfl, rfl⟩

theorem fld50_0 : FieldIs Tryz.prog 50 0 0 5 true := FieldIs.mk Tryz.underlying50 rfl rfl sz28 ag28 rfl

theorem en67 : Enters Tryz.prog 67 := ⟨_, Tryz.func67, by kernel_rfl, rfl⟩

theorem sty26 : SlotTy Tryz.prog 26 67 2 16 := slotTy_mk (by kernel_rfl)

theorem stru64 : StructIs Tryz.prog 64 [.slice none 0 0, .slice none 0 0] [(0, 1), (1, 1)] := structIs_mk (by kernel_rfl) Tryz.underlying64 (by kernel_rfl)

theorem sty22 : SlotTy Tryz.prog 22 64 2 48 := slotTy_mk (by kernel_rfl)

theorem en16 : Enters Tryz.prog 16 := ⟨_, Tryz.func16, by kernel_rfl, rfl⟩

theorem en43 : Enters Tryz.prog 43 := ⟨_, Tryz.func43, by kernel_rfl, rfl⟩

structure Rdr where
 st : Stg
 words : List (List UInt8)
 deriving DecidableEq, Inhabited

def trnN (r : Rdr) (u : List UInt8) : Rdr := ⟨⟨r.st.places, r.st.trans ++ [⟨[], []⟩], r.st.sigs, r.st.labs ++ [(labO r.st.sigs (cutS u 47)).1], r.st.start⟩, r.words ++ [u]⟩

def trnI (r : Rdr) (u : List UInt8) : Rdr × Int × Bool :=
 if 0 ≤ ixF (fun a => decide (a = u)) r.words then (r, ixF (fun a => decide (a = u)) r.words, true)
 else (trnN r u, (r.words.length : Int), (labO r.st.sigs (cutS u 47)).2)

theorem trnI_old {r : Rdr} {u : List UInt8} (h : 0 ≤ ixF (fun a => decide (a = u)) r.words) : trnI r u = (r, ixF (fun a => decide (a = u)) r.words, true) := if_pos h

theorem trnI_new {r : Rdr} {u : List UInt8} (h : ¬ 0 ≤ ixF (fun a => decide (a = u)) r.words) : trnI r u = (trnN r u, (r.words.length : Int), (labO r.st.sigs (cutS u 47)).2) := if_neg h

def addPost (ts : List Tra) (j : Nat) (p : Int) : List Tra := ts.set j ⟨(ts.getD j default).pre, (ts.getD j default).post ++ [p]⟩

def addPre (ts : List Tra) (j : Nat) (p : Int) : List Tra := ts.set j ⟨(ts.getD j default).pre ++ [p], (ts.getD j default).post⟩

theorem ixF_lt {τ : Type} {p : τ → Bool} {l : List τ} (h : 0 ≤ ixF p l) : (ixF p l).toNat < l.length := by
  unfold ixF at h ⊢
  split at h
  · rename_i ha
    rw [if_pos ha]
    have := List.findIdx_lt_length.2 (List.any_eq_true.1 ha)
    simpa using this
  · exact absurd h (by decide)

structure RdW (m : Nat) (r : Rdr) : Prop where
 w : r.words.length = r.st.trans.length
 l : r.st.labs.length = r.st.trans.length
 t : r.st.trans.length ≤ m
 e : ∀ t ∈ r.st.trans, t.pre.length ≤ m ∧ t.post.length ≤ m
 s : r.st.sigs.length ≤ 20000 ∧ ∀ y ∈ r.st.sigs, y.name.length ≤ 4000

theorem trnI_ok {m : Nat} {r : Rdr} {u : List UInt8} (h : RdW m r) : RdW (m + 1) (trnI r u).1 ∧ 0 ≤ (trnI r u).2.1 ∧ (trnI r u).2.1.toNat < (trnI r u).1.st.trans.length ∧ (trnI r u).1.st.places = r.st.places ∧ (trnI r u).1.st.start = r.st.start ∧ (trnI r u).1.st.sigs = r.st.sigs ∧ r.st.trans.length ≤ (trnI r u).1.st.trans.length := by
  by_cases hi : 0 ≤ ixF (fun a => decide (a = u)) r.words
  · rw [trnI_old hi]
    have := ixF_lt hi
    have hw := h.w
    exact ⟨⟨h.w, h.l, by have := h.t; dsimp only; omega, fun t ht => by have := h.e t ht; omega, h.s⟩, hi, by dsimp only; omega, rfl, rfl, rfl, Nat.le_refl _⟩
  · rw [trnI_new hi]
    have hw := h.w; have hl := h.l; have ht := h.t
    refine ⟨⟨?_, ?_, ?_, ?_, h.s⟩, ?_, ?_, rfl, rfl, rfl, ?_⟩
    · simp [trnN, hw]
    · simp [trnN, hl]
    · simp [trnN]; omega
    · intro t ht'
      simp only [trnN, List.mem_append, List.mem_cons, List.not_mem_nil, or_false] at ht'
      rcases ht' with ht' | rfl
      · have := h.e t ht'; omega
      · exact ⟨Nat.zero_le _, Nat.zero_le _⟩
    · dsimp only; omega
    · simp [trnN, hw]
    · simp [trnN]

def bitC (n : Nat) : UInt8 := 48 + UInt8.ofNat (n - 2)

def arcN (b : Rdr) (i j n : Nat) : Rdr := ⟨⟨b.st.places + 1, addPre (addPost b.st.trans i b.st.places) j b.st.places, b.st.sigs, b.st.labs, b.st.start ++ [bitC n]⟩, b.words⟩

def arcI (r : Rdr) (u : List UInt8) : Rdr × Bool :=
  if withinB ((splB u 32).length : Int) 2 3 then
    (arcN (trnI (trnI r ((splB u 32).getD 0 default)).1 ((splB u 32).getD 1 default)).1 (trnI r ((splB u 32).getD 0 default)).2.1.toNat (trnI (trnI r ((splB u 32).getD 0 default)).1 ((splB u 32).getD 1 default)).2.1.toNat (splB u 32).length,
     (trnI r ((splB u 32).getD 0 default)).2.2 && (trnI (trnI r ((splB u 32).getD 0 default)).1 ((splB u 32).getD 1 default)).2.2)
  else (r, false)

theorem u8_add48 (x : UInt8) : intV .add .u8 48 (x.toNat : Int) = some (.int .u8 ((48 + x).toNat : Int)) := by
 have h : ∀ n, n < 256 → IntKind.wrap .u8 (48 + ((UInt8.ofNat n).toNat : Int)) = ((48 + UInt8.ofNat n).toNat : Int) := by decide +kernel
 have := h x.toNat x.toNat_lt
 rw [UInt8.ofNat_toNat] at this
 rw [intV, this]

theorem splB_mem {u : List UInt8} {b : UInt8} : ∀ x ∈ splB u b, x.length ≤ u.length := by
  induction u with
  | nil => intro x hx; simp [splB] at hx; simp [hx]
  | cons y u ih =>
    intro x hx
    have hne := splB_ne u b
    rw [splB] at hx
    split at hx
    · rcases List.mem_cons.1 hx with rfl | hx
      · simp
      · have := ih x hx; simp only [List.length_cons]; omega
    · rcases List.mem_cons.1 hx with rfl | hx
      · have : (splB u b).headD [] ∈ splB u b := by
          cases hs : splB u b with
          | nil => exact absurd hs hne
          | cons a l => simp
        have := ih _ this
        simp only [List.length_cons]; omega
      · have := ih x (List.mem_of_mem_tail hx); simp only [List.length_cons]; omega

theorem splB_at_le {u : List UInt8} {b : UInt8} (j : Nat) : ((splB u b).getD j default).length ≤ u.length := by
  by_cases h : j < (splB u b).length
  · exact splB_mem _ (getD_mem h)
  · rw [List.getD_eq_getElem?_getD, List.getElem?_eq_none (by omega)]; exact Nat.zero_le _

theorem arcI_no {r : Rdr} {u : List UInt8} (h : withinB ((splB u 32).length : Int) 2 3 = false) : arcI r u = (r, false) := by rw [arcI, h]; rfl

theorem arcI_yes {r : Rdr} {u : List UInt8} (h : withinB ((splB u 32).length : Int) 2 3 = true) : arcI r u = (arcN (trnI (trnI r ((splB u 32).getD 0 default)).1 ((splB u 32).getD 1 default)).1 (trnI r ((splB u 32).getD 0 default)).2.1.toNat (trnI (trnI r ((splB u 32).getD 0 default)).1 ((splB u 32).getD 1 default)).2.1.toNat (splB u 32).length,
     (trnI r ((splB u 32).getD 0 default)).2.2 && (trnI (trnI r ((splB u 32).getD 0 default)).1 ((splB u 32).getD 1 default)).2.2) := by rw [arcI, if_pos h]

theorem addPost_len (ts : List Tra) (j : Nat) (p : Int) : (addPost ts j p).length = ts.length := by simp [addPost]

theorem addPre_len (ts : List Tra) (j : Nat) (p : Int) : (addPre ts j p).length = ts.length := by simp [addPre]

theorem add_mem {m : Nat} {ts : List Tra} {j : Nat} {p : Int} (h : ∀ t ∈ ts, t.pre.length ≤ m ∧ t.post.length ≤ m) : (∀ t ∈ addPost ts j p, t.pre.length ≤ m + 1 ∧ t.post.length ≤ m + 1) ∧ ∀ t ∈ addPre ts j p, t.pre.length ≤ m + 1 ∧ t.post.length ≤ m + 1 := by
  have hd : (ts.getD j default).pre.length ≤ m ∧ (ts.getD j default).post.length ≤ m := by
    by_cases hj : j < ts.length
    · exact h _ (getD_mem hj)
    · rw [List.getD_eq_getElem?_getD, List.getElem?_eq_none (by omega)]; exact ⟨Nat.zero_le _, Nat.zero_le _⟩
  constructor
  · intro t ht
    rcases List.mem_or_eq_of_mem_set ht with h2 | rfl
    · have := h t h2; omega
    · dsimp only; rw [List.length_append]; simp only [List.length_cons, List.length_nil]; omega
  · intro t ht
    rcases List.mem_or_eq_of_mem_set ht with h2 | rfl
    · have := h t h2; omega
    · dsimp only; rw [List.length_append]; simp only [List.length_cons, List.length_nil]; omega

theorem solid_bx (r : Rdr) : (D.box [(.int .i64 r.st.places), (.slice true 2 (r.st.trans.map Tra.u)), (.slice true 2 (r.st.sigs.map Sgn.d)), (.slice true 2 (r.st.labs.map Lab.d)), (.str r.st.start), (.slice true 1 (r.words.map D.str))]).solid = true := by
 rw [D.solid]
 exact solids_c rfl (solids_c (solid_row Tra.sol _) (solids_c (solid_row (fun _ => rfl) _) (solids_c (solid_row (fun _ => rfl) _) (solids_c rfl (solids_c (solid_row (fun _ => rfl) _) rfl)))))

theorem sp_trans (m : Nat) (r : Rdr) (u : List UInt8) (hr : RdW m r) (hm : m ≤ 100000) (hu : u.length ≤ 1048576) : Sp Tryz.prog 43 [(.box [(.int .i64 r.st.places), (.slice true 2 (r.st.trans.map Tra.u)), (.slice true 2 (r.st.sigs.map Sgn.d)), (.slice true 2 (r.st.labs.map Lab.d)), (.str r.st.start), (.slice true 1 (r.words.map D.str))]), (.str u)] [(.box [(.int .i64 ((((trnI r u).1).st).places)), (.slice true 2 (((((trnI r u).1).st).trans).map Tra.u)), (.slice true 2 (((((trnI r u).1).st).sigs).map Sgn.d)), (.slice true 2 (((((trnI r u).1).st).labs).map Lab.d)), (.str ((((trnI r u).1).st).start)), (.slice true 1 ((((trnI r u).1).words).map D.str))]), .any] (.tup [(.int .i64 ((trnI r u).2.1)), (.bool ((trnI r u).2.2))]) := by
 refine Sp_intro (lend := false) Tryz.func43 rfl rfl rfl (fun h => nomatch h) (fun c hc hX => ?_)
 refine T_open 1 8000010 rfl rfl rfl ?_
 have hr1 := hr.w; have hr2 := hr.l; have hr3 := hr.t; have hr4 := hr.s.1; have hcu := cutS_len u 47
 refine Ts hc (Ch.s (dI 0) pa (Ch.s (dB false) pa (Ch.nil (Tq (Tq (Tz hc ?_))))))
 refine Ch.s (.ptr 1 0) pm (Ch.s (.ptr 1 0) (.pure (.nilPtr _ rfl rfl)) (Ch.s (.ptr 1 5) (fP fld50_1 rfl) (Ch.s (.row 8000013) (lP ag37 rfl rfl rfl) (Ch.s (dS u) pm (Ch.s (dI (ixF (fun a => decide (a = u)) r.words)) (.call 17000 65 _ _ _ en65 rfl (.inl rfl) (.cons (.lend (.row rfl (frozs_map (fun _ => rfl) _))) (.cons (.d _) .nil)) rfl rfl (sp_Index_str r.words u a7) (.skip _ _ (.skip _ _ .nil)) rfl) (Ch.s (dI (ixF (fun a => decide (a = u)) r.words)) pa (Ch.nil ?_)))))))
 refine Ts hc (Ch.s (dI (ixF (fun a => decide (a = u)) r.words)) pm (Ch.s (dB (decide (0 ≤ (ixF (fun a => decide (a = u)) r.words)))) (iX rfl rfl rfl) (Ch.nil ?_)))
 refine T_condD (p := (0 ≤ (ixF (fun a => decide (a = u)) r.words))) rfl (fun h1 => ?_) (fun h1 => ?_)
 ·
  refine Ts hc (Ch.s (dI (ixF (fun a => decide (a = u)) r.words)) pm (Ch.s (dI (ixF (fun a => decide (a = u)) r.words)) pa (Ch.s (dB true) pa (Ch.nil (T_ret ?_)))))
  exact eR [(dI (ixF (fun a => decide (a = u)) r.words)), (dB true)] [1, 8000010, 8000011, 8000012, 8000013] [] (.cons (.tmp 4 rfl) (.cons (.tmp 5 rfl) .nil)) (.cons (.box rfl (.cons (Exp.of (congrArg (D.int .i64) a14) (.d _)) (.cons (Exp.of (congrArg (D.slice true 2) a14) (.row rfl)) (.cons (Exp.of (congrArg (D.slice true 2) a14) (.row rfl)) (.cons (Exp.of (congrArg (D.slice true 2) a14) (.row rfl)) (.cons (Exp.of (congrArg D.str a14) (.d _)) (.cons (Exp.of (congrArg (D.slice true 1) a14) (.row rfl)) .nil)))))) rfl) eA) (.tup (.cons (Exp.of (congrArg (D.int .i64) a14) (.d _)) (.cons (Exp.of (congrArg D.bool a14) (.d _)) .nil)))
 ·
  refine Tk (Ts hc (Ch.s (dS u) pm (Ch.s (.tup [(dS (cutS u 47)), .junk, .junk]) (.call 23000 66 _ _ _ en66 rfl (.inl rfl) (.cons (.d _) (.cons (.d _) .nil)) rfl rfl (sp_cut2 u 47 a7) (.skip _ _ (.skip _ _ .nil)) rfl) (Ch.s (.tup [(dS (cutS u 47)), .junk, .junk]) pm (Ch.s (dS (cutS u 47)) (xT rfl rfl) (Ch.s .junk (xT rfl rfl) ?_))))))
  refine Ch.s .junk (xT rfl rfl) (Ch.s (dS (cutS u 47)) pa (Ch.s .junk pa (Ch.s .junk pa (Ch.nil (Ts hc (Ch.s (.ptr 1 0) pm ?_))))))
  refine Ch.s (.ptr 1 0) (.pure (.nilPtr _ rfl rfl)) (Ch.s (.ptr 1 0) (fP fld50_0 rfl) (Ch.s (.ptr 1 2) (fP fld28_1 rfl) (Ch.s (.row 8000011) (lP ag25 rfl rfl rfl) (Ch.s (dS (cutS u 47)) pm (Ch.s (.tup [(.d (.agg [(.int .i64 (((labO r.st.sigs (cutS u 47)).1).sig)), (.bool (((labO r.st.sigs (cutS u 47)).1).up))])), (dB ((labO r.st.sigs (cutS u 47)).2))]) (.call 34000 67 _ _ _ en67 rfl (.inl rfl) (.cons (.lend (.row rfl (frozs_map (fun _ => rfl) _))) (.cons (.d _) .nil)) rfl rfl (sp_impl_labelOf r.st.sigs (cutS u 47) a23 a7) (.skip _ _ (.skip _ _ .nil)) rfl) (Ch.s (.tup [(.d (.agg [(.int .i64 (((labO r.st.sigs (cutS u 47)).1).sig)), (.bool (((labO r.st.sigs (cutS u 47)).1).up))])), (dB ((labO r.st.sigs (cutS u 47)).2))]) pm (Ch.s (.d (.agg [(.int .i64 (((labO r.st.sigs (cutS u 47)).1).sig)), (.bool (((labO r.st.sigs (cutS u 47)).1).up))])) (xT rfl rfl) ?_)))))))
  refine Ch.s (dB ((labO r.st.sigs (cutS u 47)).2)) (xT rfl rfl) (Ch.s (.ptr 10000 0) (.alloc 10000 _ rfl zer67) (Ch.s .junk (.storePtr _ _ _ rfl rfl rfl (.aggD _) sz67 (lb rfl)) (Ch.s (dB ((labO r.st.sigs (cutS u 47)).2)) pa (Ch.nil (Ts hc (Ch.s (.ptr 1 0) pm ?_))))))
  refine Ch.s (.ptr 1 0) pm (Ch.s (.ptr 1 0) (.pure (.nilPtr _ rfl rfl)) (Ch.s (.ptr 1 5) (fP fld50_1 rfl) (Ch.s (.row 8000013) (lP ag37 rfl rfl rfl) (Ch.s (dS u) pm (Ch.s (.row 43000) (.slice 43000 _ 9 _ rfl sty37 (xs := [.tmp 42]) rfl rfl (.cons (.d _) .nil) rfl rfl (by decide)) ?_)))))
  refine Ch.step (v := (.row 44000)) rfl (.append 44000 _ _ _ 9 rfl sty37 (by decide) (.rowK rfl) (.inr ⟨_, rfl, rfl⟩) (.row rfl rfl) rfl a30) rfl rfl ?_
  refine Ch.s (.ptr 1 0) (.pure (.nilPtr _ rfl rfl)) (Ch.s (.ptr 1 5) (fP fld50_1 rfl) (Ch.s .junk (.storePtr _ _ _ rfl rfl rfl (.one _ rfl) sz37 (lb rfl)) (Ch.nil (Tq ?_))))
  refine T_regionD hc (by kernel_rfl) ?_
  refine ChD.s (.ptr 1 0) [] pm (ChD.s (.ptr 1 0) [] pm (ChD.s (.ptr 1 0) [] pm (ChD.s (.ptr 1 0) [] (.pure (.nilPtr _ rfl rfl)) (ChD.s (.ptr 1 0) [] (fP fld50_0 rfl) (ChD.s (.ptr 1 3) [] (fP fld28_2 rfl) (ChD.s (.row 8000012) [1] (lP ag26 rfl rfl rfl) (ChD.s (.agg [(dI (((labO r.st.sigs (cutS u 47)).1).sig)), (dB (((labO r.st.sigs (cutS u 47)).1).up))]) [10000] (lA ag67 sz67 rfl rfl (lb rfl) rfl) ?_)))))))
  refine ChD.s (.row 55000) [] (.slice 55000 _ 67 _ rfl sty26 (xs := [.tmp 54]) rfl rfl (.cons (.agg (.cons (.d _) (.cons (.d _) .nil)) rfl) .nil) rfl rfl (by decide)) (ChD.s (.row 56000) [55000, 8000012] (.append 56000 _ _ _ 67 rfl sty26 (by decide) (.rowK rfl) (.inr ⟨_, rfl, rfl⟩) (.row rfl rfl) rfl a30) (ChD.s (.ptr 1 0) [] pm (ChD.s (.ptr 1 0) [] (.pure (.nilPtr _ rfl rfl)) (ChD.s (.ptr 1 0) [] (fP fld50_0 rfl) (ChD.s (.ptr 1 0) [] (fP fld28_0 rfl) (ChD.s (.ptr 1 1) [] (fP fld24_1 rfl) (ChD.s (.row 8000010) [1] (lP ag22 rfl rfl rfl) ?_)))))))
  refine ChD.s (.agg [(.c (.slice none 0 0)), (.c (.slice none 0 0))]) [] (.build _ _ rfl stru64 .nil rfl) (ChD.s (.row 64000) [] (.slice 64000 _ 64 _ rfl sty22 (xs := [.tmp 63]) rfl rfl (.cons (.agg (.cons (.nil true 1) (.cons (.nil true 1) .nil)) rfl) .nil) rfl rfl (by decide)) (ChD.s (.row 65000) [64000, 8000010] (.append 65000 _ _ _ 64 rfl sty22 (by decide) (.rowK rfl) (.inr ⟨_, rfl, rfl⟩) (.rowK rfl) rfl a30) (ChD.s (.ptr 1 0) [] (.pure (.nilPtr _ rfl rfl)) (ChD.s (.ptr 1 0) [] (fP fld50_0 rfl) (ChD.s (.ptr 1 3) [] (fP fld28_2 rfl) (ChD.s .junk [1, 44000, 56000, 8000010, 8000011, 8000012] (.storePtr _ _ _ rfl rfl rfl (.one _ rfl) sz26 (lb rfl)) (ChD.s (.ptr 1 0) [] (.pure (.nilPtr _ rfl rfl)) ?_)))))))
  refine ChD.s (.ptr 1 0) [] (fP fld50_0 rfl) (ChD.s (.ptr 1 0) [] (fP fld28_0 rfl) (ChD.s (.ptr 1 1) [] (fP fld24_1 rfl) (ChD.s .junk [1, 44000, 56000, 65000, 8000010, 8000011] (.storePtr _ _ _ rfl rfl rfl (.one _ rfl) sz22 (lb rfl)) ?_)))
  refine ChD.nil (And.intro ?_ (by kernel_rfl))
  refine Ts hc (Ch.s (.ptr 1 0) pm (Ch.s (.ptr 1 0) (.pure (.nilPtr _ rfl rfl)) (Ch.s (.ptr 1 5) (fP fld50_1 rfl) (Ch.s (.row 44000) (lP ag37 rfl rfl rfl) (Ch.s (dI (((r.words.length + 1) : Nat) : Int)) (.pure (.len _ _ 9 rfl Tryz.underlying37 (.row rfl) (by simp))) (Ch.s (dI ((((r.words.length + 1) : Nat) : Int) - 1)) (iX rfl rfl intV_subA) ?_))))))
  refine Ch.s (dB ((labO r.st.sigs (cutS u 47)).2)) pm (Ch.s (dI ((((r.words.length + 1) : Nat) : Int) - 1)) pa (Ch.s (dB ((labO r.st.sigs (cutS u 47)).2)) pa (Ch.nil (T_ret ?_))))
  exact eR [(dI ((((r.words.length + 1) : Nat) : Int) - 1)), (dB ((labO r.st.sigs (cutS u 47)).2))] [1, 65000, 8000011, 56000, 44000] [] (.cons (.tmp 4 rfl) (.cons (.tmp 5 rfl) .nil)) (.cons (.box rfl (.cons (Exp.of (congrArg (D.int .i64) a14) (.d _)) (.cons (Exp.of (congrArg (D.slice true 2) a14) (.row rfl)) (.cons (Exp.of (congrArg (D.slice true 2) a14) (.row rfl)) (.cons (Exp.of (congrArg (D.slice true 2) a14) (.row rfl)) (.cons (Exp.of (congrArg D.str a14) (.d _)) (.cons (Exp.of (congrArg (D.slice true 1) a14) (.row rfl)) .nil)))))) rfl) eA) (.tup (.cons (Exp.of (congrArg (D.int .i64) a14) (.d _)) (.cons (Exp.of (congrArg D.bool a14) (.d _)) .nil)))

set_option maxHeartbeats 4000000 in
theorem sp_arc (m : Nat) (r : Rdr) (u : List UInt8) (hr : RdW m r) (hm : m ≤ 99990) (hu : u.length ≤ 4000) (hp0 : 0 ≤ r.st.places) (hp1 : r.st.places ≤ 100000) (hst : r.st.start.length ≤ 100000) : Sp Tryz.prog 17 [(.box [(.int .i64 r.st.places), (.slice true 2 (r.st.trans.map Tra.u)), (.slice true 2 (r.st.sigs.map Sgn.d)), (.slice true 2 (r.st.labs.map Lab.d)), (.str r.st.start), (.slice true 1 (r.words.map D.str))]), (.str u)] [(.box [(.int .i64 ((((arcI r u).1).st).places)), (.slice true 2 (((((arcI r u).1).st).trans).map Tra.u)), (.slice true 2 (((((arcI r u).1).st).sigs).map Sgn.d)), (.slice true 2 (((((arcI r u).1).st).labs).map Lab.d)), (.str ((((arcI r u).1).st).start)), (.slice true 1 ((((arcI r u).1).words).map D.str))]), .any] (.bool ((arcI r u).2)) := by
 refine Sp_intro (lend := false) Tryz.func17 rfl rfl rfl (fun h => nomatch h) (fun c hc hX => ?_)
 refine T_open 1 8000010 rfl rfl rfl ?_
 have hsl := splB_len u 32; have hct := List.count_le_length (a := (32 : UInt8)) (l := u); have t1 := trnI_ok hr (u := (splB u 32).getD 0 default); have t2 := trnI_ok t1.1 (u := (splB u 32).getD 1 default); have g1 := t1.1; have g2 := t2.1; have g3 := t1.2.1; have g4 := t1.2.2.1; have g5 := t1.2.2.2.1; have g6 := t1.2.2.2.2.1; have k3 := t2.2.1; have k4 := t2.2.2.1; have k5 := t2.2.2.2.1; have k6 := t2.2.2.2.2.1; have k7 := t2.2.2.2.2.2.2; have k8 := congrArg List.length k6; have g8 := congrArg List.length g6; have ke := g2.e; have kt := g2.t
 refine Ts hc (Ch.s (dB false) pa (Ch.nil (Ts hc (Ch.s (dS u) pm (Ch.s (.d (.slice false 1 ((splB u 32).map D.str))) (.callFz 12000 16 _ _ _ en16 rfl (.inl rfl) (.cons (.d _) (.cons (.d _) .nil)) (solid_row (fun _ => rfl) _) (sp_strings_Split u 32 a7) (slice_froz (frozs_map (fun _ => rfl) _)) rfl) ?_)))))
 refine Ch.s (.d (.slice false 1 ((splB u 32).map D.str))) pa (Ch.nil (Tq (Ts hc (Ch.s (.d (.slice false 1 ((splB u 32).map D.str))) pm (Ch.s (dI ((splB u 32).length : Int)) (.pure (.len _ _ 9 rfl Tryz.underlying37 (.sh _ _) (by simp))) (Ch.s (dB (withinB ((splB u 32).length : Int) 2 3)) (.call 15000 42 _ _ _ en42 rfl (.inl rfl) (.cons (.d _) (.cons (.d _) (.cons (.d _) .nil))) rfl rfl (sp_impl_within ((splB u 32).length : Int) 2 3) (.skip _ _ (.skip _ _ (.skip _ _ .nil))) rfl) ?_))))))
 refine Ch.s (dB (!(withinB ((splB u 32).length : Int) 2 3))) (nT rfl) (Ch.nil ?_)
 refine T_condN (b := (withinB ((splB u 32).length : Int) 2 3)) rfl (fun h1 => ?_) (fun h1 => ?_)
 ·
  try have hw1 := within_two h1
  try have kf := ke _ (getD_mem (l := (trnI (trnI r ((splB u 32).getD 0 default)).1 ((splB u 32).getD 1 default)).1.st.trans) (j := (trnI r ((splB u 32).getD 0 default)).2.1.toNat) (d := default) (by omega))
  try have kf1 := kf.1
  try have kf2 := kf.2
  try have apl := addPost_len (trnI (trnI r ((splB u 32).getD 0 default)).1 ((splB u 32).getD 1 default)).1.st.trans (trnI r ((splB u 32).getD 0 default)).2.1.toNat (trnI (trnI r ((splB u 32).getD 0 default)).1 ((splB u 32).getD 1 default)).1.st.places
  try have kh := (add_mem (p := (trnI (trnI r ((splB u 32).getD 0 default)).1 ((splB u 32).getD 1 default)).1.st.places) (j := (trnI r ((splB u 32).getD 0 default)).2.1.toNat) ke).1 _ (getD_mem (l := addPost (trnI (trnI r ((splB u 32).getD 0 default)).1 ((splB u 32).getD 1 default)).1.st.trans (trnI r ((splB u 32).getD 0 default)).2.1.toNat (trnI (trnI r ((splB u 32).getD 0 default)).1 ((splB u 32).getD 1 default)).1.st.places) (j := (trnI (trnI r ((splB u 32).getD 0 default)).1 ((splB u 32).getD 1 default)).2.1.toNat) (d := default) (by omega))
  try have kh1 := kh.1
  try have kh2 := kh.2
  refine Ts hc (Ch.s (dB false) pa (Ch.nil (T_ret ?_)))
  exact eR [(dB false)] [1, 8000010, 8000011, 8000012, 8000013] [] (.cons (.tmp 4 rfl) .nil) (.cons (.box rfl (.cons (Exp.of (congrArg (D.int .i64) a27) (.d _)) (.cons (Exp.of (congrArg (D.slice true 2) a27) (.row rfl)) (.cons (Exp.of (congrArg (D.slice true 2) a27) (.row rfl)) (.cons (Exp.of (congrArg (D.slice true 2) a27) (.row rfl)) (.cons (Exp.of (congrArg D.str a27) (.d _)) (.cons (Exp.of (congrArg (D.slice true 1) a27) (.row rfl)) .nil)))))) rfl) eA) (Exp.of (congrArg D.bool a27) (.d _))
 ·
  try have hw1 := within_two h1
  try have kf := ke _ (getD_mem (l := (trnI (trnI r ((splB u 32).getD 0 default)).1 ((splB u 32).getD 1 default)).1.st.trans) (j := (trnI r ((splB u 32).getD 0 default)).2.1.toNat) (d := default) (by omega))
  try have kf1 := kf.1
  try have kf2 := kf.2
  try have apl := addPost_len (trnI (trnI r ((splB u 32).getD 0 default)).1 ((splB u 32).getD 1 default)).1.st.trans (trnI r ((splB u 32).getD 0 default)).2.1.toNat (trnI (trnI r ((splB u 32).getD 0 default)).1 ((splB u 32).getD 1 default)).1.st.places
  try have kh := (add_mem (p := (trnI (trnI r ((splB u 32).getD 0 default)).1 ((splB u 32).getD 1 default)).1.st.places) (j := (trnI r ((splB u 32).getD 0 default)).2.1.toNat) ke).1 _ (getD_mem (l := addPost (trnI (trnI r ((splB u 32).getD 0 default)).1 ((splB u 32).getD 1 default)).1.st.trans (trnI r ((splB u 32).getD 0 default)).2.1.toNat (trnI (trnI r ((splB u 32).getD 0 default)).1 ((splB u 32).getD 1 default)).1.st.places) (j := (trnI (trnI r ((splB u 32).getD 0 default)).1 ((splB u 32).getD 1 default)).2.1.toNat) (d := default) (by omega))
  try have kh1 := kh.1
  try have kh2 := kh.2
  refine Tk (Ts hc (Ch.s (.ptr 1 0) pm (Ch.s (.d (.slice false 1 ((splB u 32).map D.str))) pm (Ch.s (.d (.ref (.str ((splB u 32).getD 0 default)))) (.pure (.idx _ _ _ 9 (0) rfl Tryz.underlying37 sz9 rfl rfl rfl get_mapA)) (Ch.s (dS ((splB u 32).getD 0 default)) (rF ag9 rfl rfl) ?_)))))
  refine Ch.step (v := (.tup [(dI ((trnI r ((splB u 32).getD 0 default)).2.1)), (dB ((trnI r ((splB u 32).getD 0 default)).2.2))])) rfl (.call 22000 43 _ _ _ en43 rfl (.inl rfl) (.cons (.box rfl (.cons (.d _) (.cons (.row rfl) (.cons (.row rfl) (.cons (.row rfl) (.cons (.d _) (.cons (.row rfl) .nil)))))) rfl) (.cons (.d _) .nil)) rfl (sol rfl (solids_c (solid_bx _) rfl)) (sp_trans _ r ((splB u 32).getD 0 default) (by assumption) (by omega) a76) (.box _ _ (.skip _ _ .nil)) rfl) rfl rfl ?_
  refine Ch.opens 1 8000020 rfl rfl rfl ?_
  refine Ch.s (.tup [(dI ((trnI r ((splB u 32).getD 0 default)).2.1)), (dB ((trnI r ((splB u 32).getD 0 default)).2.2))]) pm (Ch.s (dI ((trnI r ((splB u 32).getD 0 default)).2.1)) (xT rfl rfl) (Ch.s (dB ((trnI r ((splB u 32).getD 0 default)).2.2)) (xT rfl rfl) (Ch.s (dI ((trnI r ((splB u 32).getD 0 default)).2.1)) pa (Ch.s (dB ((trnI r ((splB u 32).getD 0 default)).2.2)) pa (Ch.nil (Tq (Tz hc ?_)))))))
  refine Ch.s (.ptr 1 0) pm (Ch.s (.d (.slice false 1 ((splB u 32).map D.str))) pm (Ch.s (.d (.ref (.str ((splB u 32).getD 1 default)))) (.pure (.idx _ _ _ 9 (1) rfl Tryz.underlying37 sz9 rfl rfl rfl get_mapA)) (Ch.s (dS ((splB u 32).getD 1 default)) (rF ag9 rfl rfl) ?_)))
  refine Ch.step (v := (.tup [(dI ((trnI ((trnI r ((splB u 32).getD 0 default)).1) ((splB u 32).getD 1 default)).2.1)), (dB ((trnI ((trnI r ((splB u 32).getD 0 default)).1) ((splB u 32).getD 1 default)).2.2))])) rfl (.call 30000 43 _ _ _ en43 rfl (.inl rfl) (.cons (.box rfl (.cons (.d _) (.cons (.row rfl) (.cons (.row rfl) (.cons (.row rfl) (.cons (.d _) (.cons (.row rfl) .nil)))))) rfl) (.cons (.d _) .nil)) rfl (sol rfl (solids_c (solid_bx _) rfl)) (sp_trans _ ((trnI r ((splB u 32).getD 0 default)).1) ((splB u 32).getD 1 default) (by assumption) (by omega) a76) (.box _ _ (.skip _ _ .nil)) rfl) rfl rfl ?_
  refine Ch.opens 1 8000030 rfl rfl rfl ?_
  refine Ch.s (.tup [(dI ((trnI ((trnI r ((splB u 32).getD 0 default)).1) ((splB u 32).getD 1 default)).2.1)), (dB ((trnI ((trnI r ((splB u 32).getD 0 default)).1) ((splB u 32).getD 1 default)).2.2))]) pm (Ch.s (dI ((trnI ((trnI r ((splB u 32).getD 0 default)).1) ((splB u 32).getD 1 default)).2.1)) (xT rfl rfl) (Ch.s (dB ((trnI ((trnI r ((splB u 32).getD 0 default)).1) ((splB u 32).getD 1 default)).2.2)) (xT rfl rfl) (Ch.s (dI ((trnI ((trnI r ((splB u 32).getD 0 default)).1) ((splB u 32).getD 1 default)).2.1)) pa (Ch.s (dB ((trnI ((trnI r ((splB u 32).getD 0 default)).1) ((splB u 32).getD 1 default)).2.2)) pa (Ch.nil (Tq (Tz hc ?_)))))))
  refine Ch.s (.ptr 1 0) pm (Ch.s (.ptr 1 0) (.pure (.nilPtr _ rfl rfl)) (Ch.s (.ptr 1 0) (fP fld50_0 rfl) (Ch.s (.ptr 1 0) (fP fld28_0 rfl) (Ch.s (.ptr 1 0) (fP fld24_0 rfl) (Ch.s (dI ((((trnI ((trnI r ((splB u 32).getD 0 default)).1) ((splB u 32).getD 1 default)).1).st).places)) (lP ag3 rfl rfl rfl) (Ch.s (dI ((((trnI ((trnI r ((splB u 32).getD 0 default)).1) ((splB u 32).getD 1 default)).1).st).places)) pa (Ch.nil ?_)))))))
  refine Tq ?_
  refine T_takeF 8000030 ((((trnI r ((splB u 32).getD 0 default)).2.1)).toNat) 0 7000002 7000003 rfl get_mapA rfl rfl rfl (fun u1 => ?_)
  refine T_takeF 8000030 ((((trnI r ((splB u 32).getD 0 default)).2.1)).toNat) 1 7000004 7000005 rfl (get_set a52) rfl rfl rfl (fun u2 => ?_)
  refine T_regionD hc (by kernel_rfl) ?_
  refine ChD.s (.ptr 1 0) [] pm (ChD.s (.ptr 1 0) [] (.pure (.nilPtr _ rfl rfl)) (ChD.s (.ptr 1 0) [] (fP fld50_0 rfl) (ChD.s (.ptr 1 0) [] (fP fld28_0 rfl) (ChD.s (.ptr 1 1) [] (fP fld24_1 rfl) (ChD.s (.row 8000030) [1] (lP ag22 rfl rfl rfl) (ChD.s (dI ((trnI r ((splB u 32).getD 0 default)).2.1)) [] pm (ChD.s (.ptr 1 0) [] pm ?_)))))))
  refine ChD.s (.ptr 1 0) [] (.pure (.nilPtr _ rfl rfl)) (ChD.s (.ptr 1 0) [] (fP fld50_0 rfl) (ChD.s (.ptr 1 0) [] (fP fld28_0 rfl) (ChD.s (.ptr 1 1) [] (fP fld24_1 rfl) (ChD.s (.row 8000030) [1] (lP ag22 rfl rfl rfl) (ChD.s (dI ((trnI r ((splB u 32).getD 0 default)).2.1)) [] pm (ChD.s (.el 8000030 2 ((((trnI r ((splB u 32).getD 0 default)).2.1)).toNat) 0) [7000002, 7000003, 7000004, 7000005, 8000030] (.pure (.idxRow _ _ _ 64 ((((trnI r ((splB u 32).getD 0 default)).2.1)).toNat) rfl Tryz.underlying22 sz64 rfl rfl rfl (by omega) a52)) (ChD.s (.el 8000030 2 ((((trnI r ((splB u 32).getD 0 default)).2.1)).toNat) 1) [] (.pure (.fldEl _ _ _ rfl fld64_1 rfl)) ?_)))))))
  refine ChD.s (.row 7000004) [7000002, 7000003, 7000004, 7000005, 8000030] (.pure (.loadHoleF (n := 7000004) (m := 7000005) (u := u2) _ _ rfl ag62 rfl rfl (get_set a52) rfl rfl rfl rfl rfl)) (ChD.s (dI ((((trnI ((trnI r ((splB u 32).getD 0 default)).1) ((splB u 32).getD 1 default)).1).st).places)) [] pm (ChD.s (.row 57000) [] (.slice 57000 _ 3 _ rfl sty62 (xs := [.tmp 56]) rfl rfl (.cons (.d _) .nil) rfl rfl (by decide)) (ChD.s (.row 58000) [57000, 7000004] (.append 58000 _ _ _ 3 rfl sty62 (by decide) (.rowK rfl) (.inr ⟨_, rfl, rfl⟩) (.row rfl rfl) rfl a30) (ChD.s (.el 8000030 2 ((((trnI r ((splB u 32).getD 0 default)).2.1)).toNat) 0) [7000002, 7000003, 7000004, 7000005, 8000030] (.pure (.idxRow _ _ _ 64 ((((trnI r ((splB u 32).getD 0 default)).2.1)).toNat) rfl Tryz.underlying22 sz64 rfl rfl rfl (by omega) a52)) (ChD.s (.el 8000030 2 ((((trnI r ((splB u 32).getD 0 default)).2.1)).toNat) 1) [] (.pure (.fldEl _ _ _ rfl fld64_1 rfl)) (ChD.s .junk [58000, 7000002, 7000003, 7000004, 7000005, 8000030] (.storeElK (y' := (.agg [(.hole u1), (.slice true 1 ((((((((trnI ((trnI r ((splB u 32).getD 0 default)).1) ((splB u 32).getD 1 default)).1).st).trans).getD ((((trnI r ((splB u 32).getD 0 default)).2.1)).toNat) default).post).map (fun n : Int => D.int .i64 n)) ++ [(.int .i64 ((((trnI ((trnI r ((splB u 32).getD 0 default)).1) ((splB u 32).getD 1 default)).1).st).places))]))])) _ _ _ rfl rfl rfl (.row rfl) rfl rfl rfl sz62 rfl (get_set a52) rfl rfl) ?_))))))
  refine ChD.nil (And.intro ?_ (by kernel_rfl))
  refine Tq ?_
  refine T_wk (α' := { n := 114, sl := [(0, (.ptr 1 0)), (5, (.d (.slice false 1 ((splB u 32).map D.str)))), (7, (dB ((trnI r ((splB u 32).getD 0 default)).2.2))), (8, (dI ((trnI ((trnI r ((splB u 32).getD 0 default)).1) ((splB u 32).getD 1 default)).2.1))), (9, (dB ((trnI ((trnI r ((splB u 32).getD 0 default)).1) ((splB u 32).getD 1 default)).2.2))), (10, (dI ((((trnI ((trnI r ((splB u 32).getD 0 default)).1) ((splB u 32).getD 1 default)).1).st).places)))], hp := [(1, (some (.box [(dI ((((trnI ((trnI r ((splB u 32).getD 0 default)).1) ((splB u 32).getD 1 default)).1).st).places)), (.row 8000030), (.row 8000031), (.row 8000032), (dS ((((trnI ((trnI r ((splB u 32).getD 0 default)).1) ((splB u 32).getD 1 default)).1).st).start)), (.row 8000033)]))), (8000030, (some (.row 2 ((addPost (trnI (trnI r ((splB u 32).getD 0 default)).1 ((splB u 32).getD 1 default)).1.st.trans (trnI r ((splB u 32).getD 0 default)).2.1.toNat (trnI (trnI r ((splB u 32).getD 0 default)).1 ((splB u 32).getD 1 default)).1.st.places).map Tra.u)))), (8000031, (some (.row 2 (((((trnI ((trnI r ((splB u 32).getD 0 default)).1) ((splB u 32).getD 1 default)).1).st).sigs).map Sgn.d)))), (8000032, (some (.row 2 (((((trnI ((trnI r ((splB u 32).getD 0 default)).1) ((splB u 32).getD 1 default)).1).st).labs).map Lab.d)))), (8000033, (some (.row 1 ((((trnI ((trnI r ((splB u 32).getD 0 default)).1) ((splB u 32).getD 1 default)).1).words).map D.str))))], pin := [1] }) (Wk.trans (Wk.giveF 8000030 ((((trnI r ((splB u 32).getD 0 default)).2.1)).toNat) 0 7000002 7000003 rfl (get_set a52) rfl rfl rfl rfl rfl) (Wk.of rfl rfl (ar (ar (ar (ar (ar (ar trivial)))))) (ar (ai (oR a55) (ar (ar (ar trivial))))))) ?_
  refine T_takeF 8000030 ((((trnI ((trnI r ((splB u 32).getD 0 default)).1) ((splB u 32).getD 1 default)).2.1)).toNat) 0 7000006 7000007 rfl get_mapA rfl rfl rfl (fun u3 => ?_)
  refine T_takeF 8000030 ((((trnI ((trnI r ((splB u 32).getD 0 default)).1) ((splB u 32).getD 1 default)).2.1)).toNat) 1 7000008 7000009 rfl (get_set a52) rfl rfl rfl (fun u4 => ?_)
  refine T_regionD hc (by kernel_rfl) ?_
  refine ChD.s (.ptr 1 0) [] pm (ChD.s (.ptr 1 0) [] (.pure (.nilPtr _ rfl rfl)) (ChD.s (.ptr 1 0) [] (fP fld50_0 rfl) (ChD.s (.ptr 1 0) [] (fP fld28_0 rfl) (ChD.s (.ptr 1 1) [] (fP fld24_1 rfl) (ChD.s (.row 8000030) [1] (lP ag22 rfl rfl rfl) (ChD.s (dI ((trnI ((trnI r ((splB u 32).getD 0 default)).1) ((splB u 32).getD 1 default)).2.1)) [] pm (ChD.s (.ptr 1 0) [] pm ?_)))))))
  refine ChD.s (.ptr 1 0) [] (.pure (.nilPtr _ rfl rfl)) (ChD.s (.ptr 1 0) [] (fP fld50_0 rfl) (ChD.s (.ptr 1 0) [] (fP fld28_0 rfl) (ChD.s (.ptr 1 1) [] (fP fld24_1 rfl) (ChD.s (.row 8000030) [1] (lP ag22 rfl rfl rfl) (ChD.s (dI ((trnI ((trnI r ((splB u 32).getD 0 default)).1) ((splB u 32).getD 1 default)).2.1)) [] pm (ChD.s (.el 8000030 2 ((((trnI ((trnI r ((splB u 32).getD 0 default)).1) ((splB u 32).getD 1 default)).2.1)).toNat) 0) [7000006, 7000007, 7000008, 7000009, 8000030] (.pure (.idxRow _ _ _ 64 ((((trnI ((trnI r ((splB u 32).getD 0 default)).1) ((splB u 32).getD 1 default)).2.1)).toNat) rfl Tryz.underlying22 sz64 rfl rfl rfl (by omega) a52)) (ChD.s (.el 8000030 2 ((((trnI ((trnI r ((splB u 32).getD 0 default)).1) ((splB u 32).getD 1 default)).2.1)).toNat) 0) [] (.pure (.fldEl _ _ _ rfl fld64_0 rfl)) ?_)))))))
  refine ChD.s (.row 7000006) [7000006, 7000007, 7000008, 7000009, 8000030] (.pure (.loadHoleF (n := 7000006) (m := 7000007) (u := u3) _ _ rfl ag62 rfl rfl (get_set a52) rfl rfl rfl rfl rfl)) (ChD.s (dI ((((trnI ((trnI r ((splB u 32).getD 0 default)).1) ((splB u 32).getD 1 default)).1).st).places)) [] pm (ChD.s (.row 79000) [] (.slice 79000 _ 3 _ rfl sty62 (xs := [.tmp 78]) rfl rfl (.cons (.d _) .nil) rfl rfl (by decide)) (ChD.s (.row 80000) [79000, 7000006] (.append 80000 _ _ _ 3 rfl sty62 (by decide) (.rowK rfl) (.inr ⟨_, rfl, rfl⟩) (.row rfl rfl) rfl a30) (ChD.s (.el 8000030 2 ((((trnI ((trnI r ((splB u 32).getD 0 default)).1) ((splB u 32).getD 1 default)).2.1)).toNat) 0) [7000006, 7000007, 7000008, 7000009, 8000030] (.pure (.idxRow _ _ _ 64 ((((trnI ((trnI r ((splB u 32).getD 0 default)).1) ((splB u 32).getD 1 default)).2.1)).toNat) rfl Tryz.underlying22 sz64 rfl rfl rfl (by omega) a52)) (ChD.s (.el 8000030 2 ((((trnI ((trnI r ((splB u 32).getD 0 default)).1) ((splB u 32).getD 1 default)).2.1)).toNat) 0) [] (.pure (.fldEl _ _ _ rfl fld64_0 rfl)) (ChD.s .junk [80000, 7000006, 7000007, 7000008, 7000009, 8000030] (.storeElK (y' := (.agg [(.slice true 1 (((((addPost (trnI (trnI r ((splB u 32).getD 0 default)).1 ((splB u 32).getD 1 default)).1.st.trans (trnI r ((splB u 32).getD 0 default)).2.1.toNat (trnI (trnI r ((splB u 32).getD 0 default)).1 ((splB u 32).getD 1 default)).1.st.places).getD ((((trnI ((trnI r ((splB u 32).getD 0 default)).1) ((splB u 32).getD 1 default)).2.1)).toNat) default).pre).map (fun n : Int => D.int .i64 n)) ++ [(.int .i64 ((((trnI ((trnI r ((splB u 32).getD 0 default)).1) ((splB u 32).getD 1 default)).1).st).places))])), (.hole u4)])) _ _ _ rfl rfl rfl (.row rfl) rfl rfl rfl sz62 rfl (get_set a52) rfl rfl) ?_))))))
  refine ChD.nil (And.intro ?_ (by kernel_rfl))
  refine Tq ?_
  refine T_wk (α' := { n := 114, sl := [(0, (.ptr 1 0)), (5, (.d (.slice false 1 ((splB u 32).map D.str)))), (7, (dB ((trnI r ((splB u 32).getD 0 default)).2.2))), (9, (dB ((trnI ((trnI r ((splB u 32).getD 0 default)).1) ((splB u 32).getD 1 default)).2.2)))], hp := [(1, (some (.box [(dI ((((trnI ((trnI r ((splB u 32).getD 0 default)).1) ((splB u 32).getD 1 default)).1).st).places)), (.row 8000030), (.row 8000031), (.row 8000032), (dS ((((trnI ((trnI r ((splB u 32).getD 0 default)).1) ((splB u 32).getD 1 default)).1).st).start)), (.row 8000033)]))), (8000030, (some (.row 2 ((addPre (addPost (trnI (trnI r ((splB u 32).getD 0 default)).1 ((splB u 32).getD 1 default)).1.st.trans (trnI r ((splB u 32).getD 0 default)).2.1.toNat (trnI (trnI r ((splB u 32).getD 0 default)).1 ((splB u 32).getD 1 default)).1.st.places) (trnI (trnI r ((splB u 32).getD 0 default)).1 ((splB u 32).getD 1 default)).2.1.toNat (trnI (trnI r ((splB u 32).getD 0 default)).1 ((splB u 32).getD 1 default)).1.st.places).map Tra.u)))), (8000031, (some (.row 2 (((((trnI ((trnI r ((splB u 32).getD 0 default)).1) ((splB u 32).getD 1 default)).1).st).sigs).map Sgn.d)))), (8000032, (some (.row 2 (((((trnI ((trnI r ((splB u 32).getD 0 default)).1) ((splB u 32).getD 1 default)).1).st).labs).map Lab.d)))), (8000033, (some (.row 1 ((((trnI ((trnI r ((splB u 32).getD 0 default)).1) ((splB u 32).getD 1 default)).1).words).map D.str))))], pin := [1] }) (Wk.trans (Wk.giveF 8000030 ((((trnI ((trnI r ((splB u 32).getD 0 default)).1) ((splB u 32).getD 1 default)).2.1)).toNat) 1 7000008 7000009 rfl (get_set a52) rfl rfl rfl rfl rfl) (Wk.of rfl rfl (ar (ar (ar (ar trivial)))) (ar (ai (oR a56) (ar (ar (ar trivial))))))) ?_
  refine Tz hc (Ch.s (.ptr 1 0) pm (Ch.s (.ptr 1 0) (.pure (.nilPtr _ rfl rfl)) (Ch.s (.ptr 1 0) (fP fld50_0 rfl) (Ch.s (.ptr 1 0) (fP fld28_0 rfl) (Ch.s (.ptr 1 0) (fP fld24_0 rfl) (Ch.s (dI ((((trnI ((trnI r ((splB u 32).getD 0 default)).1) ((splB u 32).getD 1 default)).1).st).places)) (lP ag3 rfl rfl rfl) (Ch.s (dI (((((trnI ((trnI r ((splB u 32).getD 0 default)).1) ((splB u 32).getD 1 default)).1).st).places) + 1)) (iX rfl rfl intV_addA) ?_)))))))
  refine Ch.s (.ptr 1 0) (.pure (.nilPtr _ rfl rfl)) (Ch.s (.ptr 1 0) (fP fld50_0 rfl) (Ch.s (.ptr 1 0) (fP fld28_0 rfl) (Ch.s (.ptr 1 0) (fP fld24_0 rfl) (Ch.s .junk (.storePtr _ _ _ rfl rfl rfl (.one _ rfl) sz3 (lb rfl)) (Ch.nil (Tq ?_))))))
  refine T_regionD hc (by kernel_rfl) ?_
  refine ChD.s (.ptr 1 0) [] pm (ChD.s (.ptr 1 0) [] (.pure (.nilPtr _ rfl rfl)) (ChD.s (.ptr 1 0) [] (fP fld50_0 rfl) (ChD.s (.ptr 1 4) [] (fP fld28_3 rfl) (ChD.s (dS ((((trnI ((trnI r ((splB u 32).getD 0 default)).1) ((splB u 32).getD 1 default)).1).st).start)) [1] (lP ag9 rfl rfl rfl) (ChD.s (.d (.slice false 1 ((splB u 32).map D.str))) [] pm (ChD.s (dI ((splB u 32).length : Int)) [] (.pure (.len _ _ 9 rfl Tryz.underlying37 (.sh _ _) (by simp))) (ChD.s (dI (((splB u 32).length : Int) - 2)) [] (iX rfl rfl intV_subA) ?_)))))))
  refine ChD.s (.d (.int .u8 ((UInt8.ofNat ((splB u 32).length - 2)).toNat : Int))) [] (.pure (EvP.of (convU8 (n := ((splB u 32).length - 2)) (by omega) a26) (.convInt _ _ _ rfl (isSome_of Tryz.underlying3) Tryz.underlying5 rfl))) (ChD.s (.d (.int .u8 ((48 + (UInt8.ofNat ((splB u 32).length - 2))).toNat : Int))) [] (iX rfl rfl (u8_add48 (UInt8.ofNat ((splB u 32).length - 2)))) (ChD.s (.row 104000) [] (.slice 104000 _ 5 _ rfl sty81 (xs := [.tmp 103]) rfl rfl (.cons (.d _) .nil) rfl rfl (by decide)) (ChD.s (dS [(48 + (UInt8.ofNat ((splB u 32).length - 2)))]) [104000] (.string (l := [(48 + (UInt8.ofNat ((splB u 32).length - 2)))]) _ _ _ _ rfl Tryz.underlying81 Tryz.underlying5 Tryz.underlying9 a86) (ChD.s (dS (((((trnI ((trnI r ((splB u 32).getD 0 default)).1) ((splB u 32).getD 1 default)).1).st).start) ++ [(48 + (UInt8.ofNat ((splB u 32).length - 2)))])) [] (.pure (.str _ _ _ _ _ rfl rfl rfl (strV_add a26))) (ChD.s (.ptr 1 0) [] (.pure (.nilPtr _ rfl rfl)) (ChD.s (.ptr 1 0) [] (fP fld50_0 rfl) (ChD.s (.ptr 1 4) [] (fP fld28_3 rfl) ?_)))))))
  refine ChD.s .junk [1, 8000030, 8000031, 8000032, 8000033] (.storePtr _ _ _ rfl rfl rfl (.one _ rfl) sz9 (lb rfl)) ?_
  refine ChD.nil (And.intro ?_ (by kernel_rfl))
  refine Ts hc (Ch.s (dB ((trnI r ((splB u 32).getD 0 default)).2.2)) pm (Ch.s (dB ((trnI r ((splB u 32).getD 0 default)).2.2)) pm ?_))
  cases h2 : ((trnI r ((splB u 32).getD 0 default)).2.2) with
  | true =>
   refine Ch.s (dB ((trnI ((trnI r ((splB u 32).getD 0 default)).1) ((splB u 32).getD 1 default)).2.2)) pm (Ch.s (dB ((trnI ((trnI r ((splB u 32).getD 0 default)).1) ((splB u 32).getD 1 default)).2.2)) (pT rfl) (Ch.s (dB ((trnI ((trnI r ((splB u 32).getD 0 default)).1) ((splB u 32).getD 1 default)).2.2)) pa (Ch.nil (T_ret ?_))))
   exact eR [(dB ((trnI ((trnI r ((splB u 32).getD 0 default)).1) ((splB u 32).getD 1 default)).2.2))] [1, 8000030, 8000031, 8000032, 8000033] [] (.cons (.tmp 4 rfl) .nil) (.cons (.box rfl (.cons (Exp.of (congrArg (D.int .i64) a27) (.d _)) (.cons (Exp.of (congrArg (D.slice true 2) a27) (.row rfl)) (.cons (Exp.of (congrArg (D.slice true 2) a27) (.row rfl)) (.cons (Exp.of (congrArg (D.slice true 2) a27) (.row rfl)) (.cons (Exp.of (congrArg D.str a27) (.d _)) (.cons (Exp.of (congrArg (D.slice true 1) a27) (.row rfl)) .nil)))))) rfl) eA) (Exp.of (congrArg D.bool a27) (.d _))
  | false =>
   refine Ck (Ch.s (dB false) (pF rfl) (Ch.s (dB false) pa (Ch.nil (T_ret ?_))))
   exact eR [(dB false)] [1, 8000030, 8000031, 8000032, 8000033] [] (.cons (.tmp 4 rfl) .nil) (.cons (.box rfl (.cons (Exp.of (congrArg (D.int .i64) a27) (.d _)) (.cons (Exp.of (congrArg (D.slice true 2) a27) (.row rfl)) (.cons (Exp.of (congrArg (D.slice true 2) a27) (.row rfl)) (.cons (Exp.of (congrArg (D.slice true 2) a27) (.row rfl)) (.cons (Exp.of (congrArg D.str a27) (.d _)) (.cons (Exp.of (congrArg (D.slice true 1) a27) (.row rfl)) .nil)))))) rfl) eA) (Exp.of (congrArg D.bool a27) (.d _))

theorem sty25 : SlotTy Tryz.prog 25 77 2 24 := slotTy_mk (by kernel_rfl)

theorem en40 : Enters Tryz.prog 40 := ⟨_, Tryz.func40, by kernel_rfl, rfl⟩

theorem stru77 : StructIs Tryz.prog 77 [.string .empty, .int .i64 0] [(0, 1), (1, 1)] := structIs_mk (by kernel_rfl) Tryz.underlying77 (by kernel_rfl)

theorem zr28 : (Tryz.prog.info? 28).bind (·.zero) = some (.agg #[.int .i64 0, .slice none 0 0, .slice none 0 0, .slice none 0 0, .string .empty]) := by kernel_rfl

theorem zer28 : ∃ i z, Tryz.prog.info? 28 = some i ∧ i.zero = some z ∧ z.cells = List.toArray [.int .i64 0, .slice none 0 0, .slice none 0 0, .slice none 0 0, .string .empty] := zero_mk zr28 rfl

theorem stru28 : StructIs Tryz.prog 28 [.int .i64 0, .slice none 0 0, .slice none 0 0, .slice none 0 0, .string .empty] [(0, 2), (2, 1), (3, 1), (4, 1)] := structIs_mk (by kernel_rfl) Tryz.underlying28 (by kernel_rfl)

theorem en14 : Enters Tryz.prog 14 := ⟨_, Tryz.func14, by kernel_rfl, rfl⟩

theorem en15 : Enters Tryz.prog 15 := ⟨_, Tryz.func15, by kernel_rfl, rfl⟩

theorem stru50 : StructIs Tryz.prog 50 [.int .i64 0, .slice none 0 0, .slice none 0 0, .slice none 0 0, .string .empty, .slice none 0 0] [(0, 5), (5, 1)] := structIs_mk (by kernel_rfl) Tryz.underlying50 (by kernel_rfl)

theorem en17 : Enters Tryz.prog 17 := ⟨_, Tryz.func17, by kernel_rfl, rfl⟩

theorem en18 : Enters Tryz.prog 18 := ⟨_, Tryz.func18, by kernel_rfl, rfl⟩

abbrev RdT := List Sgn × List (List UInt8)
def pfx (k : Nat) : List UInt8 := kwL.getD k default ++ [32]

def mkS (k : Nat) (l : List (List UInt8)) : List Sgn := l.map fun u => Sgn.mk u (k : Int)

def rdK (k : Nat) (t : RdT) : RdT := if 0 < t.2.length ∧ preB (t.2.getD 0 default) (pfx k) = true then (t.1 ++ mkS k (splB (cutP (t.2.getD 0 default) (pfx k)) 32), t.2.drop 1) else t

def rdTo (ls : List (List UInt8)) (n : Nat) : RdT := (List.range n).foldl (fun t i => rdK (i + 1) t) ([], ls)

theorem rdTo_succ (ls : List (List UInt8)) (n : Nat) : rdTo ls (n + 1) = rdK (n + 1) (rdTo ls n) := by unfold rdTo; rw [List.range_succ, List.foldl_append]; rfl

theorem rd_yes {ls : List (List UInt8)} {k : Nat} (h : 0 < (rdTo ls k).2.length) (h2 : preB ((rdTo ls k).2.getD 0 default) (kwL.getD (k + 1) default ++ [32]) = true) : rdTo ls (k + 1) = ((rdTo ls k).1 ++ mkS (k + 1) (splB (cutP ((rdTo ls k).2.getD 0 default) (kwL.getD (k + 1) default ++ [32])) 32), (rdTo ls k).2.drop 1) := by rw [rdTo_succ, rdK, if_pos ⟨h, h2⟩]; rfl

theorem rd_no {ls : List (List UInt8)} {k : Nat} (h2 : preB ((rdTo ls k).2.getD 0 default) (kwL.getD (k + 1) default ++ [32]) = false) : rdTo ls (k + 1) = rdTo ls k := by rw [rdTo_succ, rdK, if_neg]; rintro ⟨_, h⟩; unfold pfx at h; rw [h2] at h; cases h

theorem rd_end {ls : List (List UInt8)} {k n : Nat} (h : (rdTo ls k).2.length = 0) (hk : k ≤ n) : rdTo ls n = rdTo ls k := by
  induction n with
  | zero => rw [show k = 0 by omega]
  | succ n ih =>
    by_cases e : k = n + 1
    · rw [e]
    · have := ih (by omega)
      rw [rdTo_succ, this, rdK, if_neg]; rintro ⟨h2, _⟩; omega

theorem rd_ok {ls : List (List UInt8)} (hl : ls.length ≤ 4000) (hx : ∀ l ∈ ls, l.length ≤ 4000) (k : Nat) : ((rdTo ls k).1.length ≤ 4001 * k ∧ ∀ y ∈ (rdTo ls k).1, y.name.length ≤ 4000) ∧ (rdTo ls k).2.length ≤ 4000 ∧ ∀ l ∈ (rdTo ls k).2, l.length ≤ 4000 := by
  induction k with
  | zero => exact ⟨⟨Nat.zero_le _, fun y hy => by simp [rdTo] at hy⟩, by simpa [rdTo] using hl, by simpa [rdTo] using hx⟩
  | succ k ih =>
    obtain ⟨⟨h1, h2⟩, h3, h4⟩ := ih
    rw [rdTo_succ, rdK]
    split
    · rename_i h
      have hm := h4 _ (getD_mem (l := (rdTo ls k).2) (j := 0) (d := default) h.1)
      have hc : (cutP ((rdTo ls k).2.getD 0 default) (pfx (k + 1))).length ≤ 4000 := by
        unfold cutP; split
        · rw [List.length_drop]; omega
        · exact hm
      have hs := splB_len (cutP ((rdTo ls k).2.getD 0 default) (pfx (k + 1))) 32
      have hcl := List.count_le_length (a := (32 : UInt8)) (l := cutP ((rdTo ls k).2.getD 0 default) (pfx (k + 1)))
      refine ⟨⟨?_, ?_⟩, ?_, ?_⟩
      · dsimp only; rw [List.length_append, mkS, List.length_map]; omega
      · intro y hy
        dsimp only at hy
        rcases List.mem_append.1 hy with hy | hy
        · exact h2 y hy
        · unfold mkS at hy
          obtain ⟨u, hu, rfl⟩ := List.mem_map.1 hy
          have := splB_mem u hu; dsimp only; omega
      · dsimp only; rw [List.length_drop]; omega
      · exact fun l hl => h4 l (List.mem_of_mem_drop hl)
    · exact ⟨⟨by omega, h2⟩, h3, h4⟩

theorem mkS_succ {k m : Nat} {l : List (List UInt8)} (h : m < l.length) : mkS k (l.take m) ++ [Sgn.mk (l.getD m default) (k : Int)] = mkS k (l.take (m + 1)) := by
 unfold mkS; rw [List.take_succ_eq_append_getElem h, List.map_append]; simp [h]

def iterI (r : Rdr) (ls : List (List UInt8)) (k : Nat) : Rdr := (ls.take k).foldl (fun r l => (arcI r l).1) r

theorem iterI_succ {r : Rdr} {ls : List (List UInt8)} {k : Nat} (h : k < ls.length) : iterI r ls (k + 1) = (arcI (iterI r ls k) (ls.getD k default)).1 := by
 unfold iterI
 rw [List.take_succ_eq_append_getElem h, List.foldl_append]
 simp [h]

def okAt (r : Rdr) (ls : List (List UInt8)) (k : Nat) : Bool := (arcI (iterI r ls k) (ls.getD k default)).2

def rd0 (sg : List Sgn) : Rdr := ⟨⟨0, [], sg, [], []⟩, []⟩

def stg0 : Stg := ⟨0, [], [], [], []⟩

def endR' (u : List UInt8) : Rdr := iterI (rd0 (rdTo (splB (u.take (u.length - 1)) 10) 3).1) (rdTo (splB (u.take (u.length - 1)) 10) 3).2 (rdTo (splB (u.take (u.length - 1)) 10) 3).2.length

def accI (u : List UInt8) : Bool := decide (u.length ≤ 4000) && (endL u && (allB (rdTo (splB (u.take (u.length - 1)) 10) 3).2.length (okAt (rd0 (rdTo (splB (u.take (u.length - 1)) 10) 3).1) (rdTo (splB (u.take (u.length - 1)) 10) 3).2) && (frmB (endR' u).st && decide (arcsT (endR' u).st = u))))

def parI (u : List UInt8) : Stg × Bool := if accI u then ((endR' u).st, true) else (stg0, false)

theorem arcI_places (r : Rdr) (u : List UInt8) : (arcI r u).1.st.sigs = r.st.sigs ∧ ((arcI r u).1.st.places = r.st.places + 1 ∧ (arcI r u).1.st.start.length = r.st.start.length + 1 ∨ (arcI r u).1.st.places = r.st.places ∧ (arcI r u).1.st.start.length = r.st.start.length) := by
  have hp : ∀ (r : Rdr) (u : List UInt8), (trnI r u).1.st.places = r.st.places ∧ (trnI r u).1.st.start = r.st.start ∧ (trnI r u).1.st.sigs = r.st.sigs := by
    intro r u; unfold trnI; split
    · exact ⟨rfl, rfl, rfl⟩
    · exact ⟨rfl, rfl, rfl⟩
  unfold arcI
  split
  · refine ⟨?_, .inl ⟨?_, ?_⟩⟩
    · simp [arcN, (hp _ _).2.2]
    · simp [arcN, (hp _ _).1]
    · simp [arcN, (hp _ _).2.1]
  · exact ⟨rfl, .inr ⟨rfl, rfl⟩⟩

theorem RdW.mono {m n : Nat} {r : Rdr} (h : RdW m r) (hn : m ≤ n) : RdW n r := ⟨h.w, h.l, by have := h.t; omega, fun t ht => by have := h.e t ht; omega, h.s⟩

theorem arcI_ok {m : Nat} {r : Rdr} {u : List UInt8} (h : RdW m r) : RdW (m + 4) (arcI r u).1 := by
  unfold arcI
  split
  · have t1 := (trnI_ok h (u := (splB u 32).getD 0 default)).1
    have t2 := (trnI_ok t1 (u := (splB u 32).getD 1 default)).1
    refine ⟨?_, ?_, ?_, ?_, t2.s⟩
    · simp only [arcN, addPre_len, addPost_len]; exact t2.w
    · simp only [arcN, addPre_len, addPost_len]; exact t2.l
    · simp only [arcN, addPre_len, addPost_len]; have := t2.t; omega
    · intro t ht
      have := (add_mem (add_mem t2.e).1).2 t ht
      omega
  · exact h.mono (by omega)

theorem iterI_ok {r : Rdr} (ls : List (List UInt8)) (h : RdW 0 r) (hp : r.st.places = 0) (hs : r.st.start = []) (k : Nat) : RdW (4 * k) (iterI r ls k) ∧ 0 ≤ (iterI r ls k).st.places ∧ (iterI r ls k).st.places ≤ k ∧ (iterI r ls k).st.start.length ≤ k := by
  induction k with
  | zero => exact ⟨h, by simp [iterI, hp], by simp [iterI, hp], by simp [iterI, hs]⟩
  | succ k ih =>
    by_cases hk : k < ls.length
    · rw [iterI_succ hk]
      have := arcI_places (iterI r ls k) (ls.getD k default)
      refine ⟨(arcI_ok ih.1).mono (by omega), ?_, ?_, ?_⟩ <;> rcases this.2 with h1 | h1 <;> omega
    · have e : iterI r ls (k + 1) = iterI r ls k := by unfold iterI; rw [List.take_of_length_le (by omega), List.take_of_length_le (by omega)]
      rw [e]; exact ⟨ih.1.mono (by omega), ih.2.1, by omega, by omega⟩

theorem rd0_ok {ls : List (List UInt8)} (hl : ls.length ≤ 4000) (hx : ∀ l ∈ ls, l.length ≤ 4000) : RdW 0 (rd0 (rdTo ls 3).1) := by
 have := rd_ok hl hx 3
 exact ⟨rfl, rfl, Nat.le_refl _, fun t ht => by simp [rd0] at ht, by simp only [rd0]; omega, this.1.2⟩

theorem iter_sm {r : Rdr} (ls : List (List UInt8)) (h : RdW 0 r) (hp : r.st.places = 0) (hs : r.st.start = []) {k : Nat} (hk : k ≤ 4000) : (iterI r ls k).st.sm := by
 obtain ⟨h1, h2, h3, h4⟩ := iterI_ok ls h hp hs k
 have := h1.t; have := h1.l
 exact ⟨⟨h2, by omega⟩, ⟨by omega, fun t ht => by have := h1.e t ht; omega⟩, ⟨by have := h1.s.1; omega, fun y hy => by have := h1.s.2 y hy; omega⟩, by omega, by omega⟩

theorem lines_ok {u : List UInt8} (h : u.length ≤ 4000) (h1 : 1 ≤ u.length) : (splB (u.take (u.length - 1)) 10).length ≤ 4000 ∧ ∀ l ∈ splB (u.take (u.length - 1)) 10, l.length ≤ 4000 := by
 have e := splB_len (u.take (u.length - 1)) 10
 have hc := List.count_le_length (a := (10 : UInt8)) (l := u.take (u.length - 1))
 rw [List.length_take] at hc
 refine ⟨by omega, fun l hl => ?_⟩
 have := splB_mem l hl
 rw [List.length_take] at this; omega

theorem endL_pos {u : List UInt8} (h : endL u = true) : 1 ≤ u.length := by unfold endL at h; simp only [Bool.and_eq_true, decide_eq_true_iff] at h; exact h.1

theorem rd_out {ls : List (List UInt8)} {k m : Nat} (h : 0 < (rdTo ls k).2.length) (h2 : preB ((rdTo ls k).2.getD 0 default) (kwL.getD (k + 1) default ++ [32]) = true) (hm : ¬ m < (splB (cutP ((rdTo ls k).2.getD 0 default) (kwL.getD (k + 1) default ++ [32])) 32).length) : (rdTo ls k).1 ++ mkS (k + 1) ((splB (cutP ((rdTo ls k).2.getD 0 default) (kwL.getD (k + 1) default ++ [32])) 32).take m) = (rdTo ls (k + 1)).1 := by
 rw [rd_yes h h2, List.take_of_length_le (by omega)]

theorem rd_lin {ls : List (List UInt8)} {k : Nat} (h : 0 < (rdTo ls k).2.length) (h2 : preB ((rdTo ls k).2.getD 0 default) (kwL.getD (k + 1) default ++ [32]) = true) : (rdTo ls k).2.drop 1 = (rdTo ls (k + 1)).2 := by rw [rd_yes h h2]

theorem parI_no {u : List UInt8} (h : accI u = false) : parI u = (stg0, false) := by rw [parI, h]; rfl

theorem acc_1 {u : List UInt8} (h : 4000 < u.length) : accI u = false := by unfold accI; rw [decide_eq_false (by omega)]; rfl

theorem acc_2 {u : List UInt8} (h : endL u = false) : accI u = false := by unfold accI; rw [h]; simp

theorem acc_3 {u : List UInt8} (k : Nat) (hk : k < (rdTo (splB (u.take (u.length - 1)) 10) 3).2.length) (h : (arcI (iterI (rd0 (rdTo (splB (u.take (u.length - 1)) 10) 3).1) (rdTo (splB (u.take (u.length - 1)) 10) 3).2 k) ((rdTo (splB (u.take (u.length - 1)) 10) 3).2.getD k default)).2 = false) : accI u = false := by
 unfold accI; rw [allB_no (p := okAt (rd0 (rdTo (splB (u.take (u.length - 1)) 10) 3).1) (rdTo (splB (u.take (u.length - 1)) 10) 3).2) k hk h]; simp

theorem acc_4 {u : List UInt8} {k : Nat} (hk : ¬ k < (rdTo (splB (u.take (u.length - 1)) 10) 3).2.length) (hk2 : k ≤ (rdTo (splB (u.take (u.length - 1)) 10) 3).2.length) (h : frmB (iterI (rd0 (rdTo (splB (u.take (u.length - 1)) 10) 3).1) (rdTo (splB (u.take (u.length - 1)) 10) 3).2 k).st = false) : accI u = false := by
 have : endR' u = iterI (rd0 (rdTo (splB (u.take (u.length - 1)) 10) 3).1) (rdTo (splB (u.take (u.length - 1)) 10) 3).2 k := by unfold endR'; rw [show (rdTo (splB (u.take (u.length - 1)) 10) 3).2.length = k by omega]
 unfold accI; rw [this, h]; simp

theorem acc_5 {u : List UInt8} {k : Nat} (hk : ¬ k < (rdTo (splB (u.take (u.length - 1)) 10) 3).2.length) (hk2 : k ≤ (rdTo (splB (u.take (u.length - 1)) 10) 3).2.length) (hf : frmB (iterI (rd0 (rdTo (splB (u.take (u.length - 1)) 10) 3).1) (rdTo (splB (u.take (u.length - 1)) 10) 3).2 k).st = true) (h : ¬ frmT (iterI (rd0 (rdTo (splB (u.take (u.length - 1)) 10) 3).1) (rdTo (splB (u.take (u.length - 1)) 10) 3).2 k).st = u) : accI u = false := by
 have : endR' u = iterI (rd0 (rdTo (splB (u.take (u.length - 1)) 10) 3).1) (rdTo (splB (u.take (u.length - 1)) 10) 3).2 k := by unfold endR'; rw [show (rdTo (splB (u.take (u.length - 1)) 10) 3).2.length = k by omega]
 rw [frmT_yes hf] at h
 unfold accI; rw [this, decide_eq_false h]; simp

theorem par_y {u : List UInt8} {k : Nat} (h1 : u.length ≤ 4000) (h2 : endL u = true) (hk : ¬ k < (rdTo (splB (u.take (u.length - 1)) 10) 3).2.length) (hk2 : k ≤ (rdTo (splB (u.take (u.length - 1)) 10) 3).2.length) (h3 : ∀ j, j < k → (arcI (iterI (rd0 (rdTo (splB (u.take (u.length - 1)) 10) 3).1) (rdTo (splB (u.take (u.length - 1)) 10) 3).2 j) ((rdTo (splB (u.take (u.length - 1)) 10) 3).2.getD j default)).2 = true) (hf : frmB (iterI (rd0 (rdTo (splB (u.take (u.length - 1)) 10) 3).1) (rdTo (splB (u.take (u.length - 1)) 10) 3).2 k).st = true) (h : frmT (iterI (rd0 (rdTo (splB (u.take (u.length - 1)) 10) 3).1) (rdTo (splB (u.take (u.length - 1)) 10) 3).2 k).st = u) : parI u = ((iterI (rd0 (rdTo (splB (u.take (u.length - 1)) 10) 3).1) (rdTo (splB (u.take (u.length - 1)) 10) 3).2 k).st, true) := by
 have : endR' u = iterI (rd0 (rdTo (splB (u.take (u.length - 1)) 10) 3).1) (rdTo (splB (u.take (u.length - 1)) 10) 3).2 k := by unfold endR'; rw [show (rdTo (splB (u.take (u.length - 1)) 10) 3).2.length = k by omega]
 rw [frmT_yes hf] at h
 have ha : accI u = true := by
  unfold accI
  rw [decide_eq_true h1, h2, this, hf, h, allB_of (p := okAt (rd0 (rdTo (splB (u.take (u.length - 1)) 10) 3).1) (rdTo (splB (u.take (u.length - 1)) 10) 3).2) (fun j hj => h3 j (by omega))]; simp
 rw [parI, ha, this]; rfl

theorem sp_impl_readSignals (ls : List (List UInt8)) (hl : ls.length ≤ 4000) (hx : ∀ l ∈ ls, l.length ≤ 4000) : SpQ (fun S w _ => DRs S w [(.ref (.agg (kwL.map D.str)))] [(.pointer (some ⟨0, 0, none⟩))] []) Tryz.prog 15 [(.slice false 1 (ls.map D.str))] [.any] (.tup [(.slice true 2 (((rdTo ls 3).1).map Sgn.d)), (.slice false 1 (((rdTo ls 3).2).map D.str))]) := by
 refine SpG_intro Tryz.func15 rfl [900001] rfl rfl rfl (fun c hc => ?_)
 have hkl := kwL_len
 refine Ts hc (Ch.s (.c (.slice none 0 0)) pa (Ch.s (.c (.slice none 0 0)) pa (Ch.nil (Ts hc (Ch.s (.row 10000) (.slice 10000 _ 77 _ rfl sty25 (xs := []) rfl rfl .nil rfl rfl (by decide)) ?_)))))
 refine Ch.s (.row 10000) pa (Ch.nil (Tq (Ts hc (Ch.s (dI 1) pa (Ch.nil (Tb ?_))))))
 refine T_loop (ι := Nat) (fun k => { n := 51, sl := [(0, (.d (.slice false 1 (((rdTo ls k).2).map D.str)))), (4, (.row 4)), (5, (dI ((k + 1 : Nat) : Int)))], hp := [(4, (some (.row 2 (((rdTo ls k).1).map Sgn.d)))), (900001, (some (.ghost (.ref (.agg (kwL.map D.str))) (.pointer (some ⟨0, 0, none⟩)))))], pin := [] }) (fun k => k ≤ 3) (fun k => 3 - k) ⟨0, (by omega), (Wk.ren [(4, 10000)] rfl rfl rfl rfl (ai (vL a18) (ar (ai (vI a87) trivial))) (ai (oR a18) (ar trivial)))⟩ (fun k hp0 => ?_)
 have hkw := kwL_le (k + 1); have hok := rd_ok hl hx k; have ho1 := hok.1.1; have ho2 := hok.2.1; have hm0 : 0 < (rdTo ls k).2.length → ((rdTo ls k).2.getD 0 default).length ≤ 4000 := (fun h => hok.2.2 _ (getD_mem h)); have hcp : (cutP ((rdTo ls k).2.getD 0 default) (kwL.getD (k + 1) default ++ [32])).length ≤ ((rdTo ls k).2.getD 0 default).length := (by unfold cutP; split; (rw [List.length_drop]; omega); exact Nat.le_refl _); have hsl := splB_len (cutP ((rdTo ls k).2.getD 0 default) (kwL.getD (k + 1) default ++ [32])) 32; have hct := List.count_le_length (a := (32 : UInt8)) (l := cutP ((rdTo ls k).2.getD 0 default) (kwL.getD (k + 1) default ++ [32]))
 refine Tq (Ts hc (Ch.s (dI ((k + 1 : Nat) : Int)) pm (Ch.s (dB (decide (((k + 1 : Nat) : Int) ≤ 3))) (iX rfl rfl rfl) (Ch.s (dB (decide (((k + 1 : Nat) : Int) ≤ 3))) pm ?_))))
 cases h1 : (decide (((k + 1 : Nat) : Int) ≤ 3)) with
 | true =>
  replace h1 := odt h1
  refine Ch.s (.d (.slice false 1 (((rdTo ls k).2).map D.str))) pm (Ch.s (dI (((rdTo ls k).2).length : Int)) (.pure (.len _ _ 9 rfl Tryz.underlying37 (.sh _ _) (by simp))) (Ch.s (dB (decide (0 < (((rdTo ls k).2).length : Int)))) (iX rfl rfl rfl) (Ch.s (dB (decide (0 < (((rdTo ls k).2).length : Int)))) (pT rfl) (Ch.nil ?_))))
  refine T_condD (p := (0 < (((rdTo ls k).2).length : Int))) rfl (fun h2 => ?_) (fun h2 => ?_)
  ·
   refine Tk (Tq (Tb (Tq ?_)))
   refine T_regionD hc (by kernel_rfl) ?_
   refine ChD.s (.d (.slice false 1 (((rdTo ls k).2).map D.str))) [] pm (ChD.s (.d (.ref (.str (((rdTo ls k).2).getD 0 default)))) [] (.pure (.idx _ _ _ 9 (0) rfl Tryz.underlying37 sz9 rfl rfl rfl get_mapA)) (ChD.s (dS (((rdTo ls k).2).getD 0 default)) [] (rF ag9 rfl rfl) (ChD.s (dI ((k + 1 : Nat) : Int)) [] pm (ChD.s (.d (.ref (.str (kwL.getD (k + 1) default)))) [900001] (.pure (.idxGh (id := 900001) _ _ _ 9 4 (k + 1) rfl Tryz.underlying75 sz9 rfl rfl rfl rfl a26 get_mapA rfl)) (ChD.s (dS (kwL.getD (k + 1) default)) [] (rF ag9 rfl rfl) (ChD.s (dS ((kwL.getD (k + 1) default) ++ [32])) [] (.pure (.str _ _ _ _ _ rfl rfl rfl (strV_add a26))) (ChD.s (.tup [(dS (cutP (((rdTo ls k).2).getD 0 default) ((kwL.getD (k + 1) default) ++ [32]))), (dB (preB (((rdTo ls k).2).getD 0 default) ((kwL.getD (k + 1) default) ++ [32])))]) [] (.call 28000 40 _ _ _ en40 rfl (.inl rfl) (.cons (.d _) (.cons (.d _) .nil)) rfl rfl (sp_cutP2 (((rdTo ls k).2).getD 0 default) ((kwL.getD (k + 1) default) ++ [32]) a7 a7) (.skip _ _ (.skip _ _ .nil)) rfl) ?_)))))))
   refine ChD.s (.tup [(dS (cutP (((rdTo ls k).2).getD 0 default) ((kwL.getD (k + 1) default) ++ [32]))), (dB (preB (((rdTo ls k).2).getD 0 default) ((kwL.getD (k + 1) default) ++ [32])))]) [] pm (ChD.s (dS (cutP (((rdTo ls k).2).getD 0 default) ((kwL.getD (k + 1) default) ++ [32]))) [] (xT rfl rfl) (ChD.s (dB (preB (((rdTo ls k).2).getD 0 default) ((kwL.getD (k + 1) default) ++ [32]))) [] (xT rfl rfl) (ChD.s (dS (cutP (((rdTo ls k).2).getD 0 default) ((kwL.getD (k + 1) default) ++ [32]))) [] pa (ChD.s (dB (preB (((rdTo ls k).2).getD 0 default) ((kwL.getD (k + 1) default) ++ [32]))) [] pa ?_))))
   refine ChD.nil (And.intro ?_ (by kernel_rfl))
   refine Tq (Ts hc (Ch.s (dB (preB (((rdTo ls k).2).getD 0 default) ((kwL.getD (k + 1) default) ++ [32]))) pm (Ch.s (dB (!(preB (((rdTo ls k).2).getD 0 default) ((kwL.getD (k + 1) default) ++ [32])))) (nT rfl) (Ch.nil ?_))))
   refine T_condN (b := (preB (((rdTo ls k).2).getD 0 default) ((kwL.getD (k + 1) default) ++ [32]))) rfl (fun h3 => ?_) (fun h3 => ?_)
   ·
    refine T_exit (Tz hc (Ch.s (dI ((k + 1 : Nat) : Int)) pm (Ch.s (dI (((k + 1 : Nat) : Int) + 1)) (iX rfl rfl intV_addA) (Ch.s (dI (((k + 1 : Nat) : Int) + 1)) pa (Ch.nil ?_)))))
    exact nx (k + 1) (by omega) (Wk.of rfl rfl (ai (vL a18) (ar (ai (vI a87) trivial))) (ai (oR a18) (ar trivial)))
   ·
    refine Tk (Tq (Ts hc (Ch.s (dS (cutP (((rdTo ls k).2).getD 0 default) ((kwL.getD (k + 1) default) ++ [32]))) pm (Ch.s (.d (.slice false 1 ((splB (cutP (((rdTo ls k).2).getD 0 default) ((kwL.getD (k + 1) default) ++ [32])) 32).map D.str))) (.callFz 34000 16 _ _ _ en16 rfl (.inl rfl) (.cons (.d _) (.cons (.d _) .nil)) (solid_row (fun _ => rfl) _) (sp_strings_Split (cutP (((rdTo ls k).2).getD 0 default) ((kwL.getD (k + 1) default) ++ [32])) 32 a7) (slice_froz (frozs_map (fun _ => rfl) _)) rfl) (Ch.s (dI (((splB (cutP (((rdTo ls k).2).getD 0 default) ((kwL.getD (k + 1) default) ++ [32])) 32).length : Nat) : Int)) (.pure (.len _ _ 9 rfl Tryz.underlying37 (.sh _ _) (by simp))) (Ch.s (dI 0) pm ?_))))))
    refine Ch.nil (Tb ?_)
    refine T_loop (ι := Nat) (fun m => { n := 51, sl := [(0, (.d (.slice false 1 (((rdTo ls k).2).map D.str)))), (4, (.row 4)), (5, (dI ((k + 1 : Nat) : Int))), (34, (.d (.slice false 1 ((splB (cutP (((rdTo ls k).2).getD 0 default) ((kwL.getD (k + 1) default) ++ [32])) 32).map D.str)))), (35, (dI (((splB (cutP (((rdTo ls k).2).getD 0 default) ((kwL.getD (k + 1) default) ++ [32])) 32).length : Nat) : Int))), (36, (dI (m : Int)))], hp := [(4, (some (.row 2 (((rdTo ls k).1 ++ mkS (k + 1) ((splB (cutP ((rdTo ls k).2.getD 0 default) (kwL.getD (k + 1) default ++ [32])) 32).take m)).map Sgn.d)))), (900001, (some (.ghost (.ref (.agg (kwL.map D.str))) (.pointer (some ⟨0, 0, none⟩)))))], pin := [] }) (fun m => m ≤ (splB (cutP ((rdTo ls k).2.getD 0 default) (kwL.getD (k + 1) default ++ [32])) 32).length) (fun m => (splB (cutP ((rdTo ls k).2.getD 0 default) (kwL.getD (k + 1) default ++ [32])) 32).length - m) ⟨0, (by omega), (Wk.of rfl rfl (ar (ar (ar (ar (ar (ai (vI a87) trivial)))))) (ai (oR a44) (ar trivial)))⟩ (fun m hp1 => ?_)
    have hmk : (mkS (k + 1) ((splB (cutP ((rdTo ls k).2.getD 0 default) (kwL.getD (k + 1) default ++ [32])) 32).take m)).length = m := (by unfold mkS; rw [List.length_map, List.length_take]; omega)
    refine Ts hc (Ch.s (dB (decide ((m : Int) < (((splB (cutP (((rdTo ls k).2).getD 0 default) ((kwL.getD (k + 1) default) ++ [32])) 32).length : Nat) : Int)))) (iX rfl rfl rfl) (Ch.nil (Tq ?_)))
    refine T_condD (p := ((m : Int) < (((splB (cutP (((rdTo ls k).2).getD 0 default) ((kwL.getD (k + 1) default) ++ [32])) 32).length : Nat) : Int))) rfl (fun h4 => ?_) (fun h4 => ?_)
    ·
     refine Tk (Tq (Tb (Ts hc (Ch.s (.d (.ref (.str ((splB (cutP (((rdTo ls k).2).getD 0 default) ((kwL.getD (k + 1) default) ++ [32])) 32).getD m default)))) (.pure (.idx _ _ _ 9 (m) rfl Tryz.underlying37 sz9 rfl rfl rfl get_mapA)) (Ch.s (dS ((splB (cutP (((rdTo ls k).2).getD 0 default) ((kwL.getD (k + 1) default) ++ [32])) 32).getD m default)) (rF ag9 rfl rfl) (Ch.s (dS ((splB (cutP (((rdTo ls k).2).getD 0 default) ((kwL.getD (k + 1) default) ++ [32])) 32).getD m default)) pa ?_))))))
     refine Ch.nil (Tz hc (Ch.s (.row 4) pm (Ch.s (dS ((splB (cutP (((rdTo ls k).2).getD 0 default) ((kwL.getD (k + 1) default) ++ [32])) 32).getD m default)) pm (Ch.s (dI ((k + 1 : Nat) : Int)) pm (Ch.s (.agg [(dS ((splB (cutP (((rdTo ls k).2).getD 0 default) ((kwL.getD (k + 1) default) ++ [32])) 32).getD m default)), (dI ((k + 1 : Nat) : Int))]) (.build _ _ rfl stru77 (.cons (.one _ rfl) (.cons (.one _ rfl) .nil)) rfl) (Ch.s (.row 44000) (.slice 44000 _ 77 _ rfl sty25 (xs := [.tmp 43]) rfl rfl (.cons (.agg (.cons (.d _) (.cons (.d _) .nil)) rfl) .nil) rfl rfl (by decide)) ?_))))))
     refine Ch.step (v := (.row 45000)) rfl (.append 45000 _ _ _ 77 rfl sty25 (by decide) (.rowK rfl) (.inr ⟨_, rfl, rfl⟩) (.row rfl rfl) rfl a30) rfl rfl ?_
     refine Ch.s (.row 45000) pa (Ch.nil (Tz hc (Ch.s (dI ((m : Int) + 1)) (iX rfl rfl intV_addA) (Ch.s (dI ((m : Int) + 1)) pm (Ch.nil ?_)))))
     exact nx (m + 1) (by omega) (Wk.ren [(4, 45000)] rfl rfl rfl rfl (ar (ar (ar (ar (ar (ai (vI a87) trivial)))))) (ai (oR a44) (ar trivial)))
    ·
     refine T_exit (Tz hc (Ch.s (.d (.slice false 1 (((rdTo ls k).2).map D.str))) pm (Ch.s (.d (.slice false 1 ((((rdTo ls k).2).drop 1).map D.str))) (.pure (.sliceSh _ _ _ _ 9 (1) ((((rdTo ls k).2).map D.str).length) rfl Tryz.underlying37 sz9 rfl (bndS rfl rfl) (bndN rfl) (by simp <;> omega) (by simp <;> omega) a41)) (Ch.s (.d (.slice false 1 ((((rdTo ls k).2).drop 1).map D.str))) pa (Ch.nil (Tz hc (Ch.s (dI ((k + 1 : Nat) : Int)) pm ?_)))))))
     refine Ch.s (dI (((k + 1 : Nat) : Int) + 1)) (iX rfl rfl intV_addA) (Ch.s (dI (((k + 1 : Nat) : Int) + 1)) pa (Ch.nil ?_))
     exact nx (k + 1) (by omega) (Wk.of rfl rfl (ai (vL a18) (ar (ai (vI a87) trivial))) (ai (oR a18) (ar trivial)))
  ·
   refine T_exit (Ts hc (Ch.s (.row 4) pm (Ch.s (.d (.slice false 1 (((rdTo ls k).2).map D.str))) pm (Ch.s (.row 4) pa (Ch.s (.d (.slice false 1 (((rdTo ls k).2).map D.str))) pa (Ch.nil ?_))))))
   refine T_ret ?_
   exact eR [(.row 4), (.d (.slice false 1 (((rdTo ls k).2).map D.str)))] [] [4] (.cons (.tmp 2 rfl) (.cons (.tmp 3 rfl) .nil)) eA (.tup (.cons (Exp.of (congrArg (D.slice true 2) a38) (.row rfl)) (.cons (Exp.of (congrArg (D.slice false 1) a38) (.d _)) .nil)))
 | false =>
  replace h1 := odf h1
  refine Ck (Ck (Ck (Ch.s (dB false) (pF rfl) (Ch.nil ?_))))
  refine T_cond (b := false) rfl (fun h => nomatch h) (fun _ => ?_)
  refine T_exit (Ts hc (Ch.s (.row 4) pm (Ch.s (.d (.slice false 1 (((rdTo ls k).2).map D.str))) pm (Ch.s (.row 4) pa (Ch.s (.d (.slice false 1 (((rdTo ls k).2).map D.str))) pa (Ch.nil ?_))))))
  refine T_ret ?_
  exact eR [(.row 4), (.d (.slice false 1 (((rdTo ls k).2).map D.str)))] [] [4] (.cons (.tmp 2 rfl) (.cons (.tmp 3 rfl) .nil)) eA (.tup (.cons (Exp.of (congrArg (D.slice true 2) a38) (.row rfl)) (.cons (Exp.of (congrArg (D.slice false 1) a38) (.d _)) .nil)))

set_option maxHeartbeats 1000000 in
theorem sp_impl_ParseArcs (u : List UInt8) (hu : u.length ≤ 1048576) : SpQ (fun S w _ => DRs S w [(.ref (.agg (kwL.map D.str)))] [(.pointer (some ⟨0, 0, none⟩))] []) Tryz.prog 5 [(.str u)] [.any] (.tup [(.agg [(.int .i64 (((parI u).1).places)), (.slice true 2 ((((parI u).1).trans).map Tra.u)), (.slice true 2 ((((parI u).1).sigs).map Sgn.d)), (.slice true 2 ((((parI u).1).labs).map Lab.d)), (.str (((parI u).1).start))]), (.bool ((parI u).2))]) := by
 refine SpG_intro Tryz.func5 rfl [900001] rfl rfl rfl (fun c hc => ?_)
 refine Ts hc (Ch.s (.ptr 2000 0) (.alloc 2000 _ rfl zer28) (Ch.s (dB false) pa (Ch.nil (Tq (Tq (Tz hc ?_))))))
 refine Ch.s (dS u) pm (Ch.s (dI (u.length : Int)) (.pure (.lenStr _ _ rfl Tryz.underlying9 rfl)) (Ch.s (dB (decide (4000 < (u.length : Int)))) (iX rfl rfl rfl) (Ch.s (dB (decide (4000 < (u.length : Int)))) pm ?_)))
 cases h1 : (decide (4000 < (u.length : Int))) with
 | true =>
  replace h1 := odt h1
  try have hpn := parI_no (acc_1 (u := u) (by omega))
  refine Ck (Ck (Ck (Ch.s (dB true) (pT rfl) (Ch.nil ?_))))
  refine T_cond (b := true) rfl (fun _ => ?_) (fun h => nomatch h)
  refine Ts hc (Ch.s (.agg [(dI 0), (.c (.slice none 0 0)), (.c (.slice none 0 0)), (.c (.slice none 0 0)), (dS [])]) (.build _ _ rfl stru28 .nil rfl) (Ch.s .junk (.storePtr _ _ _ rfl rfl rfl (.agg _ rfl) sz28 (lb rfl)) (Ch.s (dB false) pa (Ch.nil (T_ret ?_)))))
  exact eR [(.agg [(dI 0), (.c (.slice none 0 0)), (.c (.slice none 0 0)), (.c (.slice none 0 0)), (dS [])]), (dB false)] [] [] (.cons (.cellA _ _ rfl rfl ag28 sz28) (.cons (.tmp 3 rfl) .nil)) eA (.tup (.cons (.agg (.cons (Exp.of (congrArg (D.int .i64) a90) (.d _)) (.cons (Exp.of (congrArg (D.slice true 2) a90) (.nil true 2)) (.cons (Exp.of (congrArg (D.slice true 2) a90) (.nil true 2)) (.cons (Exp.of (congrArg (D.slice true 2) a90) (.nil true 2)) (.cons (Exp.of (congrArg D.str a90) (.d _)) .nil))))) rfl) (.cons (Exp.of (congrArg D.bool a90) (.d _)) .nil)))
 | false =>
  replace h1 := odf h1
  try have hpn := parI_no (acc_1 (u := u) (by omega))
  refine Ch.s (dS u) pm (Ch.s (dB (endL u)) (.call 16000 14 _ _ _ en14 rfl (.inl rfl) (.cons (.d _) (.cons (.d _) .nil)) rfl rfl (sp_sfx2 u a7) (.skip _ _ (.skip _ _ .nil)) rfl) (Ch.s (dB (!(endL u))) (nT rfl) (Ch.s (dB (!(endL u))) (pF rfl) (Ch.nil ?_))))
  refine T_condN (b := (endL u)) rfl (fun h2 => ?_) (fun h2 => ?_)
  ·
   try have hpn := parI_no (acc_2 (u := u) (by assumption))
   try have hep := endL_pos h2
   try have hlo : (splB (u.take (u.length - 1)) 10).length ≤ 4000 ∧ ∀ l ∈ (splB (u.take (u.length - 1)) 10), l.length ≤ 4000 := lines_ok (by omega) hep
   try have hro := rd_ok hlo.1 hlo.2 3
   try have hr2 := hro.2.1
   refine Ts hc (Ch.s (.agg [(dI 0), (.c (.slice none 0 0)), (.c (.slice none 0 0)), (.c (.slice none 0 0)), (dS [])]) (.build _ _ rfl stru28 .nil rfl) (Ch.s .junk (.storePtr _ _ _ rfl rfl rfl (.agg _ rfl) sz28 (lb rfl)) (Ch.s (dB false) pa (Ch.nil (T_ret ?_)))))
   exact eR [(.agg [(dI 0), (.c (.slice none 0 0)), (.c (.slice none 0 0)), (.c (.slice none 0 0)), (dS [])]), (dB false)] [] [] (.cons (.cellA _ _ rfl rfl ag28 sz28) (.cons (.tmp 3 rfl) .nil)) eA (.tup (.cons (.agg (.cons (Exp.of (congrArg (D.int .i64) a90) (.d _)) (.cons (Exp.of (congrArg (D.slice true 2) a90) (.nil true 2)) (.cons (Exp.of (congrArg (D.slice true 2) a90) (.nil true 2)) (.cons (Exp.of (congrArg (D.slice true 2) a90) (.nil true 2)) (.cons (Exp.of (congrArg D.str a90) (.d _)) .nil))))) rfl) (.cons (Exp.of (congrArg D.bool a90) (.d _)) .nil)))
  ·
   try have hpn := parI_no (acc_2 (u := u) (by assumption))
   try have hep := endL_pos h2
   try have hlo : (splB (u.take (u.length - 1)) 10).length ≤ 4000 ∧ ∀ l ∈ (splB (u.take (u.length - 1)) 10), l.length ≤ 4000 := lines_ok (by omega) hep
   try have hro := rd_ok hlo.1 hlo.2 3
   try have hr2 := hro.2.1
   refine Tk (Ts hc (Ch.s (dS u) pm (Ch.s (dS u) pm (Ch.s (dI (u.length : Int)) (.pure (.lenStr _ _ rfl Tryz.underlying9 rfl)) (Ch.s (dI ((u.length : Int) - 1)) (iX rfl rfl intV_subA) (Ch.s (dS (u.take (u.length - 1))) (.pure (.sliceStr _ _ _ _ (0) ((u.length - 1)) rfl Tryz.underlying9 rfl (bndN rfl) (bndS rfl (by omega)) a26 a26 (by simp))) ?_))))))
   refine Ch.s (.d (.slice false 1 ((splB (u.take (u.length - 1)) 10).map D.str))) (.callFz 26000 16 _ _ _ en16 rfl (.inl rfl) (.cons (.d _) (.cons (.d _) .nil)) (solid_row (fun _ => rfl) _) (sp_strings_Split (u.take (u.length - 1)) 10 a7) (slice_froz (frozs_map (fun _ => rfl) _)) rfl) ?_
   refine Ch.step (v := (.tup [(.row 27000), (.d (.slice false 1 (((rdTo (splB (u.take (u.length - 1)) 10) 3).2).map D.str)))])) rfl (.callGS (ms := [900001]) 27000 15 _ _ _ en15 rfl (.inl rfl) (.cons (.d _) .nil) rfl (sp_impl_readSignals (splB (u.take (u.length - 1)) 10) hlo.1 hlo.2) ⟨rfl, trivial⟩ (.skip _ _ .nil) rfl) rfl rfl ?_
   refine Ch.s (.tup [(.row 27000), (.d (.slice false 1 (((rdTo (splB (u.take (u.length - 1)) 10) 3).2).map D.str)))]) pm (Ch.s (.row 27000) (xT rfl rfl) (Ch.s (.d (.slice false 1 (((rdTo (splB (u.take (u.length - 1)) 10) 3).2).map D.str))) (xT rfl rfl) (Ch.s (.row 27000) pa (Ch.s (.d (.slice false 1 (((rdTo (splB (u.take (u.length - 1)) 10) 3).2).map D.str))) pa (Ch.nil (Tq (Tz hc ?_)))))))
   refine Ch.s (.row 27000) pm (Ch.s (.agg [(dI 0), (.c (.slice none 0 0)), (.row 27000), (.c (.slice none 0 0)), (dS [])]) (.build _ _ rfl stru28 (.cons (.one _ rfl) .nil) rfl) (Ch.s (.agg [(dI 0), (.c (.slice none 0 0)), (.row 27000), (.c (.slice none 0 0)), (dS []), (.c (.slice none 0 0))]) (.build _ _ rfl stru50 (.cons (.agg _ rfl) .nil) rfl) (Ch.s (.ptr 33000 0) (.box 33000 _ _ rfl (.agg _ rfl)) (Ch.s (.ptr 33000 0) pa (Ch.nil (Tq (Tq ?_)))))))
   refine Tz hc (Ch.s (.d (.slice false 1 (((rdTo (splB (u.take (u.length - 1)) 10) 3).2).map D.str))) pm (Ch.s (dI ((((rdTo (splB (u.take (u.length - 1)) 10) 3).2).length : Nat) : Int)) (.pure (.len _ _ 9 rfl Tryz.underlying37 (.sh _ _) (by simp))) (Ch.s (dI 0) pm (Ch.nil (Tb ?_)))))
   refine T_loop (ι := Nat) (fun k => { n := 66, sl := [(0, (dS u)), (2, (.ptr 2000 0)), (6, (.ptr 33000 0)), (34, (.d (.slice false 1 (((rdTo (splB (u.take (u.length - 1)) 10) 3).2).map D.str)))), (35, (dI ((((rdTo (splB (u.take (u.length - 1)) 10) 3).2).length : Nat) : Int))), (36, (dI (k : Int)))], hp := [(2000, (some (.box [(dI 0), (.c (.slice none 0 0)), (.c (.slice none 0 0)), (.c (.slice none 0 0)), (dS [])]))), (7202, (some (.row 2 ((((iterI (rd0 (rdTo (splB (u.take (u.length - 1)) 10) 3).1) (rdTo (splB (u.take (u.length - 1)) 10) 3).2 k).st).trans).map Tra.u)))), (7203, (some (.row 2 ((((iterI (rd0 (rdTo (splB (u.take (u.length - 1)) 10) 3).1) (rdTo (splB (u.take (u.length - 1)) 10) 3).2 k).st).sigs).map Sgn.d)))), (7204, (some (.row 2 ((((iterI (rd0 (rdTo (splB (u.take (u.length - 1)) 10) 3).1) (rdTo (splB (u.take (u.length - 1)) 10) 3).2 k).st).labs).map Lab.d)))), (7206, (some (.row 1 (((iterI (rd0 (rdTo (splB (u.take (u.length - 1)) 10) 3).1) (rdTo (splB (u.take (u.length - 1)) 10) 3).2 k).words).map D.str)))), (33000, (some (.box [(dI (((iterI (rd0 (rdTo (splB (u.take (u.length - 1)) 10) 3).1) (rdTo (splB (u.take (u.length - 1)) 10) 3).2 k).st).places)), (.row 7202), (.row 7203), (.row 7204), (dS (((iterI (rd0 (rdTo (splB (u.take (u.length - 1)) 10) 3).1) (rdTo (splB (u.take (u.length - 1)) 10) 3).2 k).st).start)), (.row 7206)]))), (900001, (some (.ghost (.ref (.agg (kwL.map D.str))) (.pointer (some ⟨0, 0, none⟩)))))], pin := [] }) (fun k => k ≤ (rdTo (splB (u.take (u.length - 1)) 10) 3).2.length ∧ ∀ j, j < k → (arcI (iterI (rd0 (rdTo (splB (u.take (u.length - 1)) 10) 3).1) (rdTo (splB (u.take (u.length - 1)) 10) 3).2 j) ((rdTo (splB (u.take (u.length - 1)) 10) 3).2.getD j default)).2 = true) (fun k => (rdTo (splB (u.take (u.length - 1)) 10) 3).2.length - k) ⟨0, ⟨by omega, fun j hj => by omega⟩, (Wk.trans (Wk.nilcell 33000 1 1240001 2 rfl rfl rfl) (Wk.trans (Wk.nilcell 33000 3 1240003 2 rfl rfl rfl) (Wk.trans (Wk.nilcell 33000 5 1240005 1 rfl rfl rfl) (Wk.ren [(7202, 1240001), (7203, 27000), (7204, 1240003), (7206, 1240005)] rfl rfl rfl rfl (ar (ar (ar (ar (ar (ai (vI a87) trivial)))))) (ar (ai (oR a88) (ai (oR a88) (ai (oR a88) (ai (oR a88) (ai (oB (Eq.trans (b := [(dI 0), (.row 1240001), (.row 27000), (.row 1240003), (dS []), (.row 1240005)]) rfl a53)) (ar trivial)))))))))))⟩ (fun k hp0 => ?_)
   have hit := iterI_ok (rdTo (splB (u.take (u.length - 1)) 10) 3).2 (rd0_ok hlo.1 hlo.2) rfl rfl k; have hi1 := hit.1; have hi2 := hit.2.1; have hi3 := hit.2.2.1; have hi4 := hit.2.2.2; have hsm := iter_sm (rdTo (splB (u.take (u.length - 1)) 10) 3).2 (rd0_ok hlo.1 hlo.2) rfl rfl (k := k) (by omega)
   refine Ts hc (Ch.s (dB (decide ((k : Int) < ((((rdTo (splB (u.take (u.length - 1)) 10) 3).2).length : Nat) : Int)))) (iX rfl rfl rfl) (Ch.nil (Tq ?_)))
   refine T_condD (p := ((k : Int) < ((((rdTo (splB (u.take (u.length - 1)) 10) 3).2).length : Nat) : Int))) rfl (fun h3 => ?_) (fun h3 => ?_)
   ·
    try have hll := hro.2.2 _ (getD_mem (l := (rdTo (splB (u.take (u.length - 1)) 10) 3).2) (j := k) (d := default) (by omega))
    refine Tk (Tq (Tb (Ts hc (Ch.s (.d (.ref (.str (((rdTo (splB (u.take (u.length - 1)) 10) 3).2).getD k default)))) (.pure (.idx _ _ _ 9 (k) rfl Tryz.underlying37 sz9 rfl rfl rfl get_mapA)) (Ch.s (dS (((rdTo (splB (u.take (u.length - 1)) 10) 3).2).getD k default)) (rF ag9 rfl rfl) (Ch.s (dS (((rdTo (splB (u.take (u.length - 1)) 10) 3).2).getD k default)) pa ?_))))))
    refine Ch.nil (Ts hc (Ch.s (.ptr 33000 0) pm (Ch.s (dS (((rdTo (splB (u.take (u.length - 1)) 10) 3).2).getD k default)) pm ?_)))
    refine Ch.step (v := (dB ((arcI (iterI (rd0 (rdTo (splB (u.take (u.length - 1)) 10) 3).1) (rdTo (splB (u.take (u.length - 1)) 10) 3).2 k) (((rdTo (splB (u.take (u.length - 1)) 10) 3).2).getD k default)).2))) rfl (.call 42000 17 _ _ _ en17 rfl (.inl rfl) (.cons (.box rfl (.cons (.d _) (.cons (.row rfl) (.cons (.row rfl) (.cons (.row rfl) (.cons (.d _) (.cons (.row rfl) .nil)))))) rfl) (.cons (.d _) .nil)) rfl (sol rfl (solids_c (solid_bx _) rfl)) (sp_arc _ (iterI (rd0 (rdTo (splB (u.take (u.length - 1)) 10) 3).1) (rdTo (splB (u.take (u.length - 1)) 10) 3).2 k) (((rdTo (splB (u.take (u.length - 1)) 10) 3).2).getD k default) (by assumption) (by omega) (by assumption) (by assumption) (by omega) (by omega)) (.box _ _ (.skip _ _ .nil)) rfl) rfl rfl ?_
    refine Ch.opens 33000 8000010 rfl rfl rfl ?_
    refine Ch.s (dB (!((arcI (iterI (rd0 (rdTo (splB (u.take (u.length - 1)) 10) 3).1) (rdTo (splB (u.take (u.length - 1)) 10) 3).2 k) (((rdTo (splB (u.take (u.length - 1)) 10) 3).2).getD k default)).2))) (nT rfl) (Ch.nil ?_)
    refine T_condN (b := ((arcI (iterI (rd0 (rdTo (splB (u.take (u.length - 1)) 10) 3).1) (rdTo (splB (u.take (u.length - 1)) 10) 3).2 k) (((rdTo (splB (u.take (u.length - 1)) 10) 3).2).getD k default)).2)) rfl (fun h4 => ?_) (fun h4 => ?_)
    ·
     try have hpn := parI_no (acc_3 (u := u) k (by omega) (by assumption))
     try have hpn := parI_no (acc_4 (u := u) (k := k) (by omega) (by omega) (by assumption))
     try have hpn := parI_no (acc_5 (u := u) (k := k) (by omega) (by omega) (by assumption) (by assumption))
     try have hpy := par_y (u := u) (k := k) (by omega) (by assumption) (by omega) (by omega) hp0.2 (by assumption) (by assumption)
     refine Ts hc (Ch.s (.agg [(dI 0), (.c (.slice none 0 0)), (.c (.slice none 0 0)), (.c (.slice none 0 0)), (dS [])]) (.build _ _ rfl stru28 .nil rfl) (Ch.s .junk (.storePtr _ _ _ rfl rfl rfl (.agg _ rfl) sz28 (lb rfl)) (Ch.s (dB false) pa (Ch.nil (T_ret ?_)))))
     exact eR [(.agg [(dI 0), (.c (.slice none 0 0)), (.c (.slice none 0 0)), (.c (.slice none 0 0)), (dS [])]), (dB false)] [] [] (.cons (.cellA _ _ rfl rfl ag28 sz28) (.cons (.tmp 3 rfl) .nil)) eA (.tup (.cons (.agg (.cons (Exp.of (congrArg (D.int .i64) a90) (.d _)) (.cons (Exp.of (congrArg (D.slice true 2) a90) (.nil true 2)) (.cons (Exp.of (congrArg (D.slice true 2) a90) (.nil true 2)) (.cons (Exp.of (congrArg (D.slice true 2) a90) (.nil true 2)) (.cons (Exp.of (congrArg D.str a90) (.d _)) .nil))))) rfl) (.cons (Exp.of (congrArg D.bool a90) (.d _)) .nil)))
    ·
     try have hpn := parI_no (acc_3 (u := u) k (by omega) (by assumption))
     try have hpn := parI_no (acc_4 (u := u) (k := k) (by omega) (by omega) (by assumption))
     try have hpn := parI_no (acc_5 (u := u) (k := k) (by omega) (by omega) (by assumption) (by assumption))
     try have hpy := par_y (u := u) (k := k) (by omega) (by assumption) (by omega) (by omega) hp0.2 (by assumption) (by assumption)
     refine Tk (Tz hc (Ch.s (dI ((k : Int) + 1)) (iX rfl rfl intV_addA) (Ch.s (dI ((k : Int) + 1)) pm (Ch.nil ?_))))
     exact nx (k + 1) ⟨by omega, upto_succ hp0.2 (by assumption)⟩ (Wk.ren [(7202, 8000010), (7203, 8000011), (7204, 8000012), (7206, 8000013)] rfl rfl rfl rfl (ar (ar (ar (ar (ar (ai (vI a87) trivial)))))) (ar (ai (oR a88) (ai (oR a88) (ai (oR a88) (ai (oR a88) (ai (oB (Eq.trans (b := [(dI ((((arcI (iterI (rd0 (rdTo (splB (u.take (u.length - 1)) 10) 3).1) (rdTo (splB (u.take (u.length - 1)) 10) 3).2 k) (((rdTo (splB (u.take (u.length - 1)) 10) 3).2).getD k default)).1).st).places)), (.row 8000010), (.row 8000011), (.row 8000012), (dS ((((arcI (iterI (rd0 (rdTo (splB (u.take (u.length - 1)) 10) 3).1) (rdTo (splB (u.take (u.length - 1)) 10) 3).2 k) (((rdTo (splB (u.take (u.length - 1)) 10) 3).2).getD k default)).1).st).start)), (.row 8000013)]) rfl a53)) (ar trivial))))))))
   ·
    try have hll := hro.2.2 _ (getD_mem (l := (rdTo (splB (u.take (u.length - 1)) 10) 3).2) (j := k) (d := default) (by omega))
    refine T_exit (Tq (Ts hc (Ch.s (.ptr 33000 0) pm (Ch.s (.ptr 33000 0) (.pure (.nilPtr _ rfl rfl)) (Ch.s (.ptr 33000 0) (fP fld50_0 rfl) (Ch.s (.agg [(dI (((iterI (rd0 (rdTo (splB (u.take (u.length - 1)) 10) 3).1) (rdTo (splB (u.take (u.length - 1)) 10) 3).2 k).st).places)), (.row 7202), (.row 7203), (.row 7204), (dS (((iterI (rd0 (rdTo (splB (u.take (u.length - 1)) 10) 3).1) (rdTo (splB (u.take (u.length - 1)) 10) 3).2 k).st).start))]) (lA ag28 sz28 rfl rfl (lb rfl) rfl) ?_))))))
    refine Ch.s (.tup [(dS (frmT ((iterI (rd0 (rdTo (splB (u.take (u.length - 1)) 10) 3).1) (rdTo (splB (u.take (u.length - 1)) 10) 3).2 k).st))), (dB (frmB ((iterI (rd0 (rdTo (splB (u.take (u.length - 1)) 10) 3).1) (rdTo (splB (u.take (u.length - 1)) 10) 3).2 k).st)))]) (.callG (ms := [900001]) 51000 18 _ _ _ en18 rfl (.inl rfl) (.cons (.lend (.agg (.cons (.d _) (.cons (.row rfl (frozs_to Tra.fz _)) (.cons (.row rfl (frozs_map (fun _ => rfl) _)) (.cons (.row rfl (frozs_map (fun _ => rfl) _)) (.cons (.d _) .nil))))) rfl)) .nil) rfl rfl (sp_impl_FormatArcs ((iterI (rd0 (rdTo (splB (u.take (u.length - 1)) 10) 3).1) (rdTo (splB (u.take (u.length - 1)) 10) 3).2 k).st) (by assumption)) ⟨rfl, trivial⟩ (.skip _ _ .nil) rfl) (Ch.s (.tup [(dS (frmT ((iterI (rd0 (rdTo (splB (u.take (u.length - 1)) 10) 3).1) (rdTo (splB (u.take (u.length - 1)) 10) 3).2 k).st))), (dB (frmB ((iterI (rd0 (rdTo (splB (u.take (u.length - 1)) 10) 3).1) (rdTo (splB (u.take (u.length - 1)) 10) 3).2 k).st)))]) pm (Ch.s (dS (frmT ((iterI (rd0 (rdTo (splB (u.take (u.length - 1)) 10) 3).1) (rdTo (splB (u.take (u.length - 1)) 10) 3).2 k).st))) (xT rfl rfl) (Ch.s (dB (frmB ((iterI (rd0 (rdTo (splB (u.take (u.length - 1)) 10) 3).1) (rdTo (splB (u.take (u.length - 1)) 10) 3).2 k).st))) (xT rfl rfl) (Ch.s (dS (frmT ((iterI (rd0 (rdTo (splB (u.take (u.length - 1)) 10) 3).1) (rdTo (splB (u.take (u.length - 1)) 10) 3).2 k).st))) pa (Ch.s (dB (frmB ((iterI (rd0 (rdTo (splB (u.take (u.length - 1)) 10) 3).1) (rdTo (splB (u.take (u.length - 1)) 10) 3).2 k).st))) pa (Ch.nil (Tq ?_)))))))
    refine Tz hc (Ch.s (dB (frmB ((iterI (rd0 (rdTo (splB (u.take (u.length - 1)) 10) 3).1) (rdTo (splB (u.take (u.length - 1)) 10) 3).2 k).st))) pm (Ch.s (dB (!(frmB ((iterI (rd0 (rdTo (splB (u.take (u.length - 1)) 10) 3).1) (rdTo (splB (u.take (u.length - 1)) 10) 3).2 k).st)))) (nT rfl) (Ch.s (dB (!(frmB ((iterI (rd0 (rdTo (splB (u.take (u.length - 1)) 10) 3).1) (rdTo (splB (u.take (u.length - 1)) 10) 3).2 k).st)))) pm ?_)))
    cases h5 : (frmB ((iterI (rd0 (rdTo (splB (u.take (u.length - 1)) 10) 3).1) (rdTo (splB (u.take (u.length - 1)) 10) 3).2 k).st)) with
    | true =>
     try have hpn := parI_no (acc_3 (u := u) k (by omega) (by assumption))
     try have hpn := parI_no (acc_4 (u := u) (k := k) (by omega) (by omega) (by assumption))
     try have hpn := parI_no (acc_5 (u := u) (k := k) (by omega) (by omega) (by assumption) (by assumption))
     try have hpy := par_y (u := u) (k := k) (by omega) (by assumption) (by omega) (by omega) hp0.2 (by assumption) (by assumption)
     refine Ch.s (dS (frmT ((iterI (rd0 (rdTo (splB (u.take (u.length - 1)) 10) 3).1) (rdTo (splB (u.take (u.length - 1)) 10) 3).2 k).st))) pm (Ch.s (dS u) pm (Ch.s (dB (!(decide ((frmT ((iterI (rd0 (rdTo (splB (u.take (u.length - 1)) 10) 3).1) (rdTo (splB (u.take (u.length - 1)) 10) 3).2 k).st)) = u)))) (.pure (.str _ _ _ _ _ rfl rfl rfl rfl)) (Ch.s (dB (!(decide ((frmT ((iterI (rd0 (rdTo (splB (u.take (u.length - 1)) 10) 3).1) (rdTo (splB (u.take (u.length - 1)) 10) 3).2 k).st)) = u)))) (pF rfl) (Ch.nil ?_))))
     refine T_condN (b := (decide ((frmT ((iterI (rd0 (rdTo (splB (u.take (u.length - 1)) 10) 3).1) (rdTo (splB (u.take (u.length - 1)) 10) 3).2 k).st)) = u))) rfl (fun h6 => ?_) (fun h6 => ?_)
     ·
      replace h6 := odf h6
      try have hpn := parI_no (acc_3 (u := u) k (by omega) (by assumption))
      try have hpn := parI_no (acc_4 (u := u) (k := k) (by omega) (by omega) (by assumption))
      try have hpn := parI_no (acc_5 (u := u) (k := k) (by omega) (by omega) (by assumption) (by assumption))
      try have hpy := par_y (u := u) (k := k) (by omega) (by assumption) (by omega) (by omega) hp0.2 (by assumption) (by assumption)
      refine Ts hc (Ch.s (.agg [(dI 0), (.c (.slice none 0 0)), (.c (.slice none 0 0)), (.c (.slice none 0 0)), (dS [])]) (.build _ _ rfl stru28 .nil rfl) (Ch.s .junk (.storePtr _ _ _ rfl rfl rfl (.agg _ rfl) sz28 (lb rfl)) (Ch.s (dB false) pa (Ch.nil (T_ret ?_)))))
      exact eR [(.agg [(dI 0), (.c (.slice none 0 0)), (.c (.slice none 0 0)), (.c (.slice none 0 0)), (dS [])]), (dB false)] [] [] (.cons (.cellA _ _ rfl rfl ag28 sz28) (.cons (.tmp 3 rfl) .nil)) eA (.tup (.cons (.agg (.cons (Exp.of (congrArg (D.int .i64) a90) (.d _)) (.cons (Exp.of (congrArg (D.slice true 2) a90) (.nil true 2)) (.cons (Exp.of (congrArg (D.slice true 2) a90) (.nil true 2)) (.cons (Exp.of (congrArg (D.slice true 2) a90) (.nil true 2)) (.cons (Exp.of (congrArg D.str a90) (.d _)) .nil))))) rfl) (.cons (Exp.of (congrArg D.bool a90) (.d _)) .nil)))
     ·
      replace h6 := odt h6
      try have hpn := parI_no (acc_3 (u := u) k (by omega) (by assumption))
      try have hpn := parI_no (acc_4 (u := u) (k := k) (by omega) (by omega) (by assumption))
      try have hpn := parI_no (acc_5 (u := u) (k := k) (by omega) (by omega) (by assumption) (by assumption))
      try have hpy := par_y (u := u) (k := k) (by omega) (by assumption) (by omega) (by omega) hp0.2 (by assumption) (by assumption)
      refine Tk (Ts hc (Ch.s (.ptr 33000 0) pm (Ch.s (.ptr 33000 0) (.pure (.nilPtr _ rfl rfl)) (Ch.s (.ptr 33000 0) (fP fld50_0 rfl) (Ch.s (.agg [(dI (((iterI (rd0 (rdTo (splB (u.take (u.length - 1)) 10) 3).1) (rdTo (splB (u.take (u.length - 1)) 10) 3).2 k).st).places)), (.row 7202), (.row 7203), (.row 7204), (dS (((iterI (rd0 (rdTo (splB (u.take (u.length - 1)) 10) 3).1) (rdTo (splB (u.take (u.length - 1)) 10) 3).2 k).st).start))]) (lA ag28 sz28 rfl rfl (lb rfl) rfl) (Ch.s .junk (.storePtr _ _ _ rfl rfl rfl (.agg _ rfl) sz28 (lb rfl)) ?_))))))
      refine Ch.s (dB true) pa (Ch.nil (T_ret ?_))
      exact eR [(.agg [(dI (((iterI (rd0 (rdTo (splB (u.take (u.length - 1)) 10) 3).1) (rdTo (splB (u.take (u.length - 1)) 10) 3).2 k).st).places)), (.row 7202), (.row 7203), (.row 7204), (dS (((iterI (rd0 (rdTo (splB (u.take (u.length - 1)) 10) 3).1) (rdTo (splB (u.take (u.length - 1)) 10) 3).2 k).st).start))]), (dB true)] [] [7202, 7203, 7204] (.cons (.cellA _ _ rfl rfl ag28 sz28) (.cons (.tmp 3 rfl) .nil)) eA (.tup (.cons (.agg (.cons (Exp.of (congrArg (D.int .i64) a90) (.d _)) (.cons (Exp.of (congrArg (D.slice true 2) a90) (.row rfl)) (.cons (Exp.of (congrArg (D.slice true 2) a90) (.row rfl)) (.cons (Exp.of (congrArg (D.slice true 2) a90) (.row rfl)) (.cons (Exp.of (congrArg D.str a90) (.d _)) .nil))))) rfl) (.cons (Exp.of (congrArg D.bool a90) (.d _)) .nil)))
    | false =>
     try have hpn := parI_no (acc_3 (u := u) k (by omega) (by assumption))
     try have hpn := parI_no (acc_4 (u := u) (k := k) (by omega) (by omega) (by assumption))
     try have hpn := parI_no (acc_5 (u := u) (k := k) (by omega) (by omega) (by assumption) (by assumption))
     try have hpy := par_y (u := u) (k := k) (by omega) (by assumption) (by omega) (by omega) hp0.2 (by assumption) (by assumption)
     refine Ck (Ck (Ck (Ch.s (dB true) (pT rfl) (Ch.nil ?_))))
     refine T_cond (b := true) rfl (fun _ => ?_) (fun h => nomatch h)
     refine Ts hc (Ch.s (.agg [(dI 0), (.c (.slice none 0 0)), (.c (.slice none 0 0)), (.c (.slice none 0 0)), (dS [])]) (.build _ _ rfl stru28 .nil rfl) (Ch.s .junk (.storePtr _ _ _ rfl rfl rfl (.agg _ rfl) sz28 (lb rfl)) (Ch.s (dB false) pa (Ch.nil (T_ret ?_)))))
     exact eR [(.agg [(dI 0), (.c (.slice none 0 0)), (.c (.slice none 0 0)), (.c (.slice none 0 0)), (dS [])]), (dB false)] [] [] (.cons (.cellA _ _ rfl rfl ag28 sz28) (.cons (.tmp 3 rfl) .nil)) eA (.tup (.cons (.agg (.cons (Exp.of (congrArg (D.int .i64) a90) (.d _)) (.cons (Exp.of (congrArg (D.slice true 2) a90) (.nil true 2)) (.cons (Exp.of (congrArg (D.slice true 2) a90) (.nil true 2)) (.cons (Exp.of (congrArg (D.slice true 2) a90) (.nil true 2)) (.cons (Exp.of (congrArg D.str a90) (.d _)) .nil))))) rfl) (.cons (Exp.of (congrArg D.bool a90) (.d _)) .nil)))

theorem fld36_1 : FieldIs Tryz.prog 36 1 5 1 false := FieldIs.mk Tryz.underlying36 rfl rfl sz3 ag3 rfl

theorem fld36_0 : FieldIs Tryz.prog 36 0 0 5 true := FieldIs.mk Tryz.underlying36 rfl rfl sz28 ag28 rfl

theorem fld39_1 : FieldIs Tryz.prog 39 1 6 1 false := FieldIs.mk Tryz.underlying39 rfl rfl sz37 ag37 rfl

theorem en9 : Enters Tryz.prog 9 := ⟨_, Tryz.func9, by kernel_rfl, rfl⟩

theorem sz36 : SizeIs Tryz.prog 36 6 := by unfold SizeIs; kernel_rfl

theorem ag36 : AggIs Tryz.prog 36 true := by unfold AggIs; kernel_rfl

theorem fld39_0 : FieldIs Tryz.prog 39 0 0 6 true := FieldIs.mk Tryz.underlying39 rfl rfl sz36 ag36 rfl

theorem en56 : Enters Tryz.prog 56 := ⟨_, Tryz.func56, by kernel_rfl, rfl⟩

theorem en28 : Enters Tryz.prog 28 := ⟨_, Tryz.func28, by kernel_rfl, rfl⟩

theorem en30 : Enters Tryz.prog 30 := ⟨_, Tryz.func30, by kernel_rfl, rfl⟩

structure Rds where
 st : Stg
 kind : Int
 words : List (List UInt8)
 deriving DecidableEq, Inhabited

def wAt (r : Rds) (l : List (List UInt8)) (k : Nat) : Bool := !decide ((k : Int) = 0) && (decide (kwL.getD k default = l.getD 0 default) && (decide (r.kind < (k : Int)) && decide (2 ≤ l.length)))

def wNew (r : Rds) (l : List (List UInt8)) (k : Nat) : Rds := ⟨⟨r.st.places, r.st.trans, r.st.sigs ++ mkS k (l.drop 1), r.st.labs, r.st.start⟩, (k : Int), r.words⟩

def wordS (r : Rds) (l : List (List UInt8)) : Rds × Bool := match (List.range 4).find? (wAt r l) with
 | some k => (wNew r l k, true)
 | none => (r, false)

theorem wordS_yes {r : Rds} {l : List (List UInt8)} {k : Nat} (hk : k < 4) (h : ∀ j, j < k → wAt r l j = false) (h2 : wAt r l k = true) : wordS r l = (wNew r l k, true) := by
  have : (List.range 4).find? (wAt r l) = some k := by
    rw [List.find?_eq_some_iff_append]
    refine ⟨h2, List.range k, (List.range (4 - k - 1)).map (· + (k + 1)), ?_, ?_⟩
    · match k, hk with
      | 0, _ => rfl
      | 1, _ => rfl
      | 2, _ => rfl
      | 3, _ => rfl
    · intro a ha
      rw [h a (List.mem_range.1 ha)]; rfl
  rw [wordS, this]

theorem wordS_no {r : Rds} {l : List (List UInt8)} (h : ∀ j, j < 4 → wAt r l j = false) : wordS r l = (r, false) := by
 have : (List.range 4).find? (wAt r l) = none := by
  rw [List.find?_eq_none]
  intro a ha
  rw [h a (List.mem_range.1 ha)]; decide
 rw [wordS, this]

def wSg (r : Rds) (l : List (List UInt8)) (k m : Nat) : List Sgn := r.st.sigs ++ mkS k ((l.drop 1).take m)

theorem wSg_zero (r : Rds) (l : List (List UInt8)) (k : Nat) : wSg r l k 0 = r.st.sigs := by simp [wSg, mkS]

theorem wSg_succ {r : Rds} {l : List (List UInt8)} {k m : Nat} (h : m < (l.drop 1).length) : wSg r l k m ++ [Sgn.mk ((l.drop 1).getD m default) (k : Int)] = wSg r l k (m + 1) := by
 unfold wSg; rw [List.append_assoc, mkS_succ h]

theorem wSg_end {r : Rds} {l : List (List UInt8)} {k m : Nat} (h : ¬ m < (l.drop 1).length) : wSg r l k m = (wNew r l k).st.sigs := by
 unfold wSg wNew; rw [List.take_of_length_le (by omega)]

theorem cutS_get (u : List UInt8) (b : UInt8) : (splB u b).getD 0 default = cutS u b := by
  unfold cutS; cases splB u b <;> rfl

def labS (sg : List Sgn) (n : List UInt8) : Lab := if n = [126] then Lab.mk (-1) false else Lab.mk (ixF (fun y => decide (y.name = n.take (n.length - 1))) sg) (decide (n.getD (n.length - 1) 0 = 43))

def badS (sg : List Sgn) (n : List UInt8) : Bool := !decide (n = [126]) && (decide (n.length < 2) || decide (ixF (fun y => decide (y.name = n.take (n.length - 1))) sg < 0))

def trnM (r : Rds) (u : List UInt8) : Rds := ⟨⟨r.st.places, r.st.trans ++ [⟨[], []⟩], r.st.sigs, r.st.labs ++ [labS r.st.sigs ((splB u 47).getD 0 default)], r.st.start⟩, r.kind, r.words ++ [u]⟩

def trnS (r : Rds) (u : List UInt8) : Rds × Int :=
 if 0 ≤ ixF (fun a => decide (a = u)) r.words then (r, ixF (fun a => decide (a = u)) r.words)
 else if badS r.st.sigs ((splB u 47).getD 0 default) then (r, -1) else (trnM r u, (r.words.length : Int))

theorem trnS_old {r : Rds} {u : List UInt8} {k : Nat} (hk : k < r.words.length) (h : ∀ j, j < k → decide (r.words.getD j default = u) = false) (h2 : r.words.getD k default = u) : trnS r u = (r, (k : Int)) := by
 have e := ixF_some (p := fun a => decide (a = u)) (d := default) hk h (decide_eq_true h2)
 rw [trnS, if_pos (by rw [e]; omega), e]

theorem trnS_bad {r : Rds} {u : List UInt8} (h : ∀ j, j < r.words.length → decide (r.words.getD j default = u) = false) (hb : badS r.st.sigs ((splB u 47).getD 0 default) = true) : trnS r u = (r, -1) := by
 have e := ixF_none (p := fun a => decide (a = u)) (d := default) h
 rw [trnS, if_neg (by rw [e]; omega), if_pos hb]

theorem trnS_new {r : Rds} {u : List UInt8} (h : ∀ j, j < r.words.length → decide (r.words.getD j default = u) = false) (hb : badS r.st.sigs ((splB u 47).getD 0 default) = false) : trnS r u = (trnM r u, (r.words.length : Int)) := by
 have e := ixF_none (p := fun a => decide (a = u)) (d := default) h
 rw [trnS, if_neg (by rw [e]; omega), if_neg (by rw [hb]; decide)]

theorem bad_1 {sg : List Sgn} {n : List UInt8} (h : ¬ n = [126]) (h2 : ((n.length : Int) - 1) < 1) : badS sg n = true := by unfold badS; rw [decide_eq_false h, decide_eq_true (by omega)]; rfl

theorem bad_2 {sg : List Sgn} {n : List UInt8} (h : ¬ n = [126]) (h2 : ixF (fun y => decide (y.name = n.take (n.length - 1))) sg < 0) : badS sg n = true := by unfold badS; rw [decide_eq_false h, decide_eq_true h2]; simp

theorem bad_3 {sg : List Sgn} {n : List UInt8} (h : n = [126]) : badS sg n = false := by unfold badS; rw [decide_eq_true h]; rfl

theorem bad_4 {sg : List Sgn} {n : List UInt8} (h1 : ¬ ((n.length : Int) - 1) < 1) (h2 : ¬ ixF (fun y => decide (y.name = n.take (n.length - 1))) sg < 0) : badS sg n = false := by unfold badS; rw [decide_eq_false (show ¬ n.length < 2 by omega), decide_eq_false h2]; simp

theorem labS_t {sg : List Sgn} {n : List UInt8} (h : n = [126]) : labS sg n = Lab.mk (-1) false := if_pos h

theorem labS_n {sg : List Sgn} {n : List UInt8} (h : ¬ n = [126]) : labS sg n = Lab.mk (ixF (fun y => decide (y.name = n.take (n.length - 1))) sg) (decide (n.getD (n.length - 1) 0 = 43)) := if_neg h

structure RsW (m : Nat) (r : Rds) : Prop where
 w : r.words.length = r.st.trans.length
 l : r.st.labs.length = r.st.trans.length
 t : r.st.trans.length ≤ m
 e : ∀ t ∈ r.st.trans, t.pre.length ≤ m ∧ t.post.length ≤ m
 s : (0 ≤ r.kind ∧ r.kind ≤ 3 ∧ (r.st.sigs.length : Int) ≤ 4001 * r.kind) ∧ ∀ y ∈ r.st.sigs, y.name.length ≤ 4000

theorem RsW.mono {m n : Nat} {r : Rds} (h : RsW m r) (hn : m ≤ n) : RsW n r := ⟨h.w, h.l, by have := h.t; omega, fun t ht => by have := h.e t ht; omega, h.s⟩

theorem trnS_ok {m : Nat} {r : Rds} {u : List UInt8} (h : RsW m r) : RsW (m + 1) (trnS r u).1 ∧ (0 ≤ (trnS r u).2 → (trnS r u).2.toNat < (trnS r u).1.st.trans.length) ∧ (trnS r u).1.st.places = r.st.places ∧ (trnS r u).1.st.start = r.st.start ∧ r.st.trans.length ≤ (trnS r u).1.st.trans.length := by
  unfold trnS
  split
  · rename_i hi
    have := ixF_lt hi
    have hw := h.w
    exact ⟨h.mono (by omega), fun _ => by dsimp only; omega, rfl, rfl, Nat.le_refl _⟩
  · split
    · exact ⟨h.mono (by omega), fun h0 => absurd h0 (by dsimp only; omega), rfl, rfl, Nat.le_refl _⟩
    · have hw := h.w; have hl := h.l; have ht := h.t
      refine ⟨⟨?_, ?_, ?_, ?_, h.s⟩, ?_, rfl, rfl, ?_⟩
      · simp [trnM, hw]
      · simp [trnM, hl]
      · simp [trnM]; omega
      · intro t ht'
        simp only [trnM, List.mem_append, List.mem_cons, List.not_mem_nil, or_false] at ht'
        rcases ht' with ht' | rfl
        · have := h.e t ht'; omega
        · exact ⟨Nat.zero_le _, Nat.zero_le _⟩
      · intro _; simp [trnM, hw]
      · simp [trnM]

theorem wordS_ok {m : Nat} {r : Rds} {l : List (List UInt8)} (h : RsW m r) (hl : l.length ≤ 4001) (hx : ∀ u ∈ l, u.length ≤ 4000) : RsW m (wordS r l).1 ∧ (wordS r l).1.st.places = r.st.places ∧ (wordS r l).1.st.start = r.st.start := by
  unfold wordS
  split
  · rename_i k hk
    have hp := List.find?_some hk
    have hm := List.mem_range.1 (List.mem_of_find?_eq_some hk)
    unfold wAt at hp
    simp only [Bool.and_eq_true, decide_eq_true_iff] at hp
    obtain ⟨_, _, hp, _⟩ := hp
    obtain ⟨⟨h1, h2, h3⟩, h4⟩ := h.s
    refine ⟨⟨h.w, h.l, h.t, h.e, ⟨?_, ?_, ?_⟩, ?_⟩, rfl, rfl⟩
    · simp only [wNew]; omega
    · simp only [wNew]; omega
    · simp only [wNew, mkS, List.length_append, List.length_map, List.length_drop]; omega
    · intro y hy
      simp only [wNew, List.mem_append] at hy
      rcases hy with hy | hy
      · exact h4 y hy
      · unfold mkS at hy
        obtain ⟨u, hu, rfl⟩ := List.mem_map.1 hy
        exact hx u (List.mem_of_mem_drop hu)
  · exact ⟨h, rfl, rfl⟩

def arcM (b : Rds) (i j n : Nat) : Rds := ⟨⟨b.st.places + 1, addPre (addPost b.st.trans i b.st.places) j b.st.places, b.st.sigs, b.st.labs, b.st.start ++ numS (n - 2)⟩, b.kind, b.words⟩

def okL (l : List (List UInt8)) : Bool := withinB (l.length : Int) 2 3 && !(decide ((l.length : Int) = 3) && !decide (l.getD 2 default = [42]))

def lineS (r : Rds) (l : List (List UInt8)) : Rds × Bool :=
 if (wordS r l).2 then ((wordS r l).1, true)
 else if okL l then
  if 0 ≤ (trnS (wordS r l).1 (l.getD 0 default)).2 then
   if (trnS (trnS (wordS r l).1 (l.getD 0 default)).1 (l.getD 1 default)).2 < 0 then ((trnS (trnS (wordS r l).1 (l.getD 0 default)).1 (l.getD 1 default)).1, false)
   else (arcM (trnS (trnS (wordS r l).1 (l.getD 0 default)).1 (l.getD 1 default)).1 (trnS (wordS r l).1 (l.getD 0 default)).2.toNat (trnS (trnS (wordS r l).1 (l.getD 0 default)).1 (l.getD 1 default)).2.toNat l.length, true)
  else ((trnS (wordS r l).1 (l.getD 0 default)).1, false)
 else ((wordS r l).1, false)

theorem line_w {r : Rds} {l : List (List UInt8)} (h : (wordS r l).2 = true) : lineS r l = ((wordS r l).1, true) := by rw [lineS, if_pos h]

theorem line_n {r : Rds} {l : List (List UInt8)} (h : (wordS r l).2 = false) (h2 : okL l = false) : lineS r l = ((wordS r l).1, false) := by rw [lineS, h, h2]; rfl

theorem line_a {r : Rds} {l : List (List UInt8)} (h : (wordS r l).2 = false) (h2 : okL l = true) (h3 : ¬ 0 ≤ (trnS (wordS r l).1 (l.getD 0 default)).2) : lineS r l = ((trnS (wordS r l).1 (l.getD 0 default)).1, false) := by rw [lineS, h, h2, if_neg h3]; rfl

theorem line_b {r : Rds} {l : List (List UInt8)} (h : (wordS r l).2 = false) (h2 : okL l = true) (h3 : 0 ≤ (trnS (wordS r l).1 (l.getD 0 default)).2) (h4 : (trnS (trnS (wordS r l).1 (l.getD 0 default)).1 (l.getD 1 default)).2 < 0) : lineS r l = ((trnS (trnS (wordS r l).1 (l.getD 0 default)).1 (l.getD 1 default)).1, false) := by rw [lineS, h, h2, if_pos h3, if_pos h4]; rfl

theorem line_y {r : Rds} {l : List (List UInt8)} (h : (wordS r l).2 = false) (h2 : okL l = true) (h3 : 0 ≤ (trnS (wordS r l).1 (l.getD 0 default)).2) (h4 : ¬ (trnS (trnS (wordS r l).1 (l.getD 0 default)).1 (l.getD 1 default)).2 < 0) : lineS r l = (arcM (trnS (trnS (wordS r l).1 (l.getD 0 default)).1 (l.getD 1 default)).1 (trnS (wordS r l).1 (l.getD 0 default)).2.toNat (trnS (trnS (wordS r l).1 (l.getD 0 default)).1 (l.getD 1 default)).2.toNat l.length, true) := by rw [lineS, h, h2, if_pos h3, if_neg h4]; rfl

theorem okL_1 {l : List (List UInt8)} (h : withinB (l.length : Int) 2 3 = false) : okL l = false := by unfold okL; rw [h]; rfl

theorem okL_2 {l : List (List UInt8)} (h : (l.length : Int) = 3) (h2 : ¬ l.getD 2 default = [42]) : okL l = false := by unfold okL; rw [decide_eq_true h, decide_eq_false h2]; simp

theorem okL_3 {l : List (List UInt8)} (h : withinB (l.length : Int) 2 3 = true) (h2 : ¬ (l.length : Int) = 3) : okL l = true := by unfold okL; rw [h, decide_eq_false h2]; rfl

theorem okL_4 {l : List (List UInt8)} (h : withinB (l.length : Int) 2 3 = true) (h2 : l.getD 2 default = [42]) : okL l = true := by unfold okL; rw [h, decide_eq_true h2]; simp

theorem lineS_ok {m : Nat} {r : Rds} {l : List (List UInt8)} (h : RsW m r) (hl : l.length ≤ 4001) (hx : ∀ u ∈ l, u.length ≤ 4000) : RsW (m + 4) (lineS r l).1 ∧ ((lineS r l).1.st.places = r.st.places ∧ (lineS r l).1.st.start.length = r.st.start.length ∨ (lineS r l).1.st.places = r.st.places + 1 ∧ (lineS r l).1.st.start.length ≤ r.st.start.length + 2) := by
  obtain ⟨w1, w2, w3⟩ := wordS_ok h hl hx
  obtain ⟨t1, t2, t3, t4, t5⟩ := trnS_ok w1 (u := l.getD 0 default)
  obtain ⟨b1, b2, b3, b4, b5⟩ := trnS_ok t1 (u := l.getD 1 default)
  unfold lineS
  split
  · exact ⟨w1.mono (by omega), .inl ⟨w2, by dsimp only; rw [w3]⟩⟩
  · split
    · split
      · split
        · exact ⟨b1.mono (by omega), .inl ⟨by dsimp only; rw [b3, t3, w2], by dsimp only; rw [b4, t4, w3]⟩⟩
        · refine ⟨⟨?_, ?_, ?_, ?_, b1.s⟩, .inr ⟨?_, ?_⟩⟩
          · simp only [arcM, addPre_len, addPost_len]; exact b1.w
          · simp only [arcM, addPre_len, addPost_len]; exact b1.l
          · simp only [arcM, addPre_len, addPost_len]; have := b1.t; omega
          · intro t ht
            have := (add_mem (add_mem b1.e).1).2 t ht
            omega
          · simp only [arcM]; rw [b3, t3, w2]
          · have := numS_len (l.length - 2)
            simp only [arcM, List.length_append]; rw [b4, t4, w3]; omega
      · exact ⟨t1.mono (by omega), .inl ⟨by dsimp only; rw [t3, w2], by dsimp only; rw [t4, w3]⟩⟩
    · exact ⟨w1.mono (by omega), .inl ⟨w2, by dsimp only; rw [w3]⟩⟩

theorem solid_bs (r : Rds) : (D.box [(.int .i64 r.st.places), (.slice true 2 (r.st.trans.map Tra.u)), (.slice true 2 (r.st.sigs.map Sgn.d)), (.slice true 2 (r.st.labs.map Lab.d)), (.str r.st.start), (.int .i64 r.kind), (.slice true 1 (r.words.map D.str))]).solid = true := by
 rw [D.solid]
 exact solids_c rfl (solids_c (solid_row Tra.sol _) (solids_c (solid_row (fun _ => rfl) _) (solids_c (solid_row (fun _ => rfl) _) (solids_c rfl (solids_c rfl (solids_c (solid_row (fun _ => rfl) _) rfl))))))

theorem sp_word (r : Rds) (l : List (List UInt8)) (hl1 : 1 ≤ l.length) (hl : l.length ≤ 4001) (hs : r.st.sigs.length ≤ 100000) : Sp Tryz.prog 28 [(.box [(.int .i64 r.st.places), (.slice true 2 (r.st.trans.map Tra.u)), (.slice true 2 (r.st.sigs.map Sgn.d)), (.slice true 2 (r.st.labs.map Lab.d)), (.str r.st.start), (.int .i64 r.kind), (.slice true 1 (r.words.map D.str))]), (.slice false 1 (l.map D.str))] [(.box [(.int .i64 ((((wordS r l).1).st).places)), (.slice true 2 (((((wordS r l).1).st).trans).map Tra.u)), (.slice true 2 (((((wordS r l).1).st).sigs).map Sgn.d)), (.slice true 2 (((((wordS r l).1).st).labs).map Lab.d)), (.str ((((wordS r l).1).st).start)), (.int .i64 (((wordS r l).1).kind)), (.slice true 1 ((((wordS r l).1).words).map D.str))]), .any] (.bool ((wordS r l).2)) := by
 refine Sp_intro (lend := false) Tryz.func28 rfl rfl rfl (fun h => nomatch h) (fun c hc hX => ?_)
 refine T_open 1 8000010 rfl rfl rfl ?_
 have hkl := kwL_len
 refine Ts hc (Ch.s (dB false) pa (Ch.nil (Tq (Ts hc (Ch.s (.row 9000) (.call 9000 55 _ _ _ en55 rfl (.inl rfl) .nil rfl (sol (solid_row (fun _ => rfl) _) rfl) (sp_spec_l3Words ) .nil rfl) ?_)))))
 refine Ch.s (dI (kwL.length : Int)) (.pure (.len _ _ 9 rfl Tryz.underlying37 (.row rfl) (by simp))) (Ch.s (dI 0) pm (Ch.nil (Tb ?_)))
 refine T_loop (ι := Nat) (fun k => { n := 65, sl := [(0, (.ptr 1 0)), (1, (.d (.slice false 1 (l.map D.str)))), (9, (.row 9000)), (10, (dI (kwL.length : Int))), (11, (dI (k : Int)))], hp := [(1, (some (.box [(dI r.st.places), (.row 8000010), (.row 8000011), (.row 8000012), (dS r.st.start), (dI r.kind), (.row 8000013)]))), (9000, (some (.row 1 (kwL.map D.str)))), (8000010, (some (.row 2 (r.st.trans.map Tra.u)))), (8000011, (some (.row 2 (r.st.sigs.map Sgn.d)))), (8000012, (some (.row 2 (r.st.labs.map Lab.d)))), (8000013, (some (.row 1 (r.words.map D.str))))], pin := [1] }) (fun k => k ≤ 4 ∧ ∀ j, j < k → wAt r l j = false) (fun k => 4 - k) ⟨0, ⟨by omega, fun j hj => by omega⟩, (Wk.of rfl rfl (ar (ar (ar (ar (ai (vI a87) trivial))))) (ar (ar (ar (ar (ar (ar trivial)))))))⟩ (fun k hp0 => ?_)
 refine Ts hc (Ch.s (dB (decide ((k : Int) < (kwL.length : Int)))) (iX rfl rfl rfl) (Ch.nil (Tq ?_)))
 refine T_condD (p := ((k : Int) < (kwL.length : Int))) rfl (fun h1 => ?_) (fun h1 => ?_)
 ·
  refine Tk (Tq (Tb (Ts hc (Ch.s (dI (k : Int)) pm (Ch.s (.el 9000 1 k 0) (.pure (.idxRow _ _ _ 9 (k) rfl Tryz.underlying37 sz9 rfl rfl rfl rfl a52)) (Ch.s (dS (kwL.getD k default)) (.pure (.loadEl1 _ _ rfl ag9 rfl rfl get_mapA rfl rfl rfl)) ?_))))))
  refine Ch.s (dI (k : Int)) pa (Ch.s (dS (kwL.getD k default)) pa (Ch.nil (Tq (Ts hc (Ch.s (dI (k : Int)) pm (Ch.s (dB (decide ((k : Int) = 0))) (iX rfl rfl rfl) ?_))))))
  refine Ch.s (dB (decide ((k : Int) = 0))) pm ?_
  cases h2 : (decide ((k : Int) = 0)) with
  | true =>
   replace h2 := odt h2
   refine Ck (Ck (Ck (Ck (Ck (Ch.s (dB true) (pT rfl) (Ch.s (dB true) pm (Ch.skip rfl rfl ?_)))))))
   refine Ck (Ck (Ck (Ck (Ck (Ch.s (dB true) (pT rfl) (Ch.s (dB true) pm (Ch.skip rfl rfl ?_)))))))
   refine Ck (Ck (Ch.s (dB true) (pT rfl) (Ch.nil ?_)))
   refine T_cond (b := true) rfl (fun _ => ?_) (fun h => nomatch h)
   refine T_exit (Tz hc (Ch.s (dI ((k : Int) + 1)) (iX rfl rfl intV_addA) (Ch.s (dI ((k : Int) + 1)) pm (Ch.nil ?_))))
   exact nx (k + 1) ⟨by omega, upto_succ hp0.2 a71⟩ (Wk.of rfl rfl (ar (ar (ar (ar (ai (vI a87) trivial))))) (ar (ar (ar (ar (ar (ar trivial)))))))
  | false =>
   replace h2 := odf h2
   refine Ch.s (dS (kwL.getD k default)) pm (Ch.s (.d (.slice false 1 (l.map D.str))) pm (Ch.s (.d (.ref (.str (l.getD 0 default)))) (.pure (.idx _ _ _ 9 (0) rfl Tryz.underlying37 sz9 rfl rfl rfl get_mapA)) (Ch.s (dS (l.getD 0 default)) (rF ag9 rfl rfl) (Ch.s (dB (!(decide ((kwL.getD k default) = (l.getD 0 default))))) (.pure (.str _ _ _ _ _ rfl rfl rfl rfl)) (Ch.s (dB (!(decide ((kwL.getD k default) = (l.getD 0 default))))) (pF rfl) (Ch.s (dB (!(decide ((kwL.getD k default) = (l.getD 0 default))))) pm ?_))))))
   cases h3 : (decide ((kwL.getD k default) = (l.getD 0 default))) with
   | true =>
    replace h3 := odt h3
    refine Ch.s (dI (k : Int)) pm (Ch.s (.ptr 1 0) pm (Ch.s (.ptr 1 0) (.pure (.nilPtr _ rfl rfl)) (Ch.s (.ptr 1 5) (fP fld36_1 rfl) (Ch.s (dI r.kind) (lP ag3 rfl rfl rfl) (Ch.s (dB (decide ((k : Int) ≤ r.kind))) (iX rfl rfl rfl) (Ch.s (dB (decide ((k : Int) ≤ r.kind))) (pF rfl) (Ch.s (dB (decide ((k : Int) ≤ r.kind))) pm ?_)))))))
    cases h4 : (decide ((k : Int) ≤ r.kind)) with
    | true =>
     replace h4 := odt h4
     try have hwk : wAt r l k = true := a71
     refine Ck (Ck (Ck (Ch.s (dB true) (pT rfl) (Ch.nil ?_))))
     refine T_cond (b := true) rfl (fun _ => ?_) (fun h => nomatch h)
     refine T_exit (Tz hc (Ch.s (dI ((k : Int) + 1)) (iX rfl rfl intV_addA) (Ch.s (dI ((k : Int) + 1)) pm (Ch.nil ?_))))
     exact nx (k + 1) ⟨by omega, upto_succ hp0.2 a71⟩ (Wk.of rfl rfl (ar (ar (ar (ar (ai (vI a87) trivial))))) (ar (ar (ar (ar (ar (ar trivial)))))))
    | false =>
     replace h4 := odf h4
     try have hwk : wAt r l k = true := a71
     refine Ch.s (.d (.slice false 1 (l.map D.str))) pm (Ch.s (dI (l.length : Int)) (.pure (.len _ _ 9 rfl Tryz.underlying37 (.sh _ _) (by simp))) (Ch.s (dB (decide ((l.length : Int) < 2))) (iX rfl rfl rfl) (Ch.s (dB (decide ((l.length : Int) < 2))) (pF rfl) (Ch.nil ?_))))
     refine T_condD (p := ((l.length : Int) < 2)) rfl (fun h5 => ?_) (fun h5 => ?_)
     ·
      try have hwk : wAt r l k = true := a71
      refine T_exit (Tz hc (Ch.s (dI ((k : Int) + 1)) (iX rfl rfl intV_addA) (Ch.s (dI ((k : Int) + 1)) pm (Ch.nil ?_))))
      exact nx (k + 1) ⟨by omega, upto_succ hp0.2 a71⟩ (Wk.of rfl rfl (ar (ar (ar (ar (ai (vI a87) trivial))))) (ar (ar (ar (ar (ar (ar trivial)))))))
     ·
      try have hwk : wAt r l k = true := a71
      refine Tk (Tq (Ts hc (Ch.s (.d (.slice false 1 (l.map D.str))) pm (Ch.s (.d (.slice false 1 ((l.drop 1).map D.str))) (.pure (.sliceSh _ _ _ _ 9 (1) ((l.map D.str).length) rfl Tryz.underlying37 sz9 rfl (bndS rfl rfl) (bndN rfl) (by simp <;> omega) (by simp <;> omega) a41)) (Ch.s (dI ((l.drop 1).length : Int)) (.pure (.len _ _ 9 rfl Tryz.underlying37 (.sh _ _) (by simp))) (Ch.s (dI 0) pm ?_))))))
      refine Ch.nil (Tb ?_)
      refine T_loop (ι := Nat) (fun m => { n := 65, sl := [(0, (.ptr 1 0)), (5, (dI (k : Int))), (39, (.d (.slice false 1 ((l.drop 1).map D.str)))), (40, (dI ((l.drop 1).length : Int))), (41, (dI (m : Int)))], hp := [(1, (some (.box [(dI r.st.places), (.row 7202), (.row 7203), (.row 7204), (dS r.st.start), (dI r.kind), (.row 7207)]))), (7202, (some (.row 2 (r.st.trans.map Tra.u)))), (7203, (some (.row 2 ((wSg r l k m).map Sgn.d)))), (7204, (some (.row 2 (r.st.labs.map Lab.d)))), (7207, (some (.row 1 (r.words.map D.str))))], pin := [1] }) (fun m => m ≤ (l.drop 1).length) (fun m => (l.drop 1).length - m) ⟨0, (by omega), (Wk.ren [(7202, 8000010), (7203, 8000011), (7204, 8000012), (7207, 8000013)] rfl rfl rfl rfl (ar (ar (ar (ar (ai (vI a87) trivial))))) (ai (oB (Eq.trans (b := [(dI r.st.places), (.row 8000010), (.row 8000011), (.row 8000012), (dS r.st.start), (dI r.kind), (.row 8000013)]) rfl (by rfl))) (ar (ai (oR a37) (ar (ar trivial))))))⟩ (fun m hp1 => ?_)
      have hdl : (l.drop 1).length = l.length - 1 := List.length_drop; have hwl : (wSg r l k m).length = r.st.sigs.length + m := (by unfold wSg mkS; rw [List.length_append, List.length_map, List.length_take]; omega)
      refine Ts hc (Ch.s (dB (decide ((m : Int) < ((l.drop 1).length : Int)))) (iX rfl rfl rfl) (Ch.nil (Tq ?_)))
      refine T_condD (p := ((m : Int) < ((l.drop 1).length : Int))) rfl (fun h6 => ?_) (fun h6 => ?_)
      ·
       try have hwk : wAt r l k = true := a71
       refine Tk (Tq (Tb (Ts hc (Ch.s (.d (.ref (.str ((l.drop 1).getD m default)))) (.pure (.idx _ _ _ 9 (m) rfl Tryz.underlying37 sz9 rfl rfl rfl get_mapA)) (Ch.s (dS ((l.drop 1).getD m default)) (rF ag9 rfl rfl) (Ch.s (dS ((l.drop 1).getD m default)) pa ?_))))))
       refine Ch.nil (Tz hc (Ch.s (.ptr 1 0) pm (Ch.s (.ptr 1 0) pm (Ch.s (.ptr 1 0) (.pure (.nilPtr _ rfl rfl)) (Ch.s (.ptr 1 0) (fP fld36_0 rfl) (Ch.s (.ptr 1 2) (fP fld28_1 rfl) (Ch.s (.row 7203) (lP ag25 rfl rfl rfl) ?_)))))))
       refine Ch.s (dS ((l.drop 1).getD m default)) pm (Ch.s (dI (k : Int)) pm (Ch.s (.agg [(dS ((l.drop 1).getD m default)), (dI (k : Int))]) (.build _ _ rfl stru77 (.cons (.one _ rfl) (.cons (.one _ rfl) .nil)) rfl) (Ch.s (.row 54000) (.slice 54000 _ 77 _ rfl sty25 (xs := [.tmp 53]) rfl rfl (.cons (.agg (.cons (.d _) (.cons (.d _) .nil)) rfl) .nil) rfl rfl (by decide)) ?_)))
       refine Ch.step (v := (.row 55000)) rfl (.append 55000 _ _ _ 77 rfl sty25 (by decide) (.rowK rfl) (.inr ⟨_, rfl, rfl⟩) (.row rfl rfl) rfl a30) rfl rfl ?_
       refine Ch.s (.ptr 1 0) (.pure (.nilPtr _ rfl rfl)) (Ch.s (.ptr 1 0) (fP fld36_0 rfl) (Ch.s (.ptr 1 2) (fP fld28_1 rfl) (Ch.s .junk (.storePtr _ _ _ rfl rfl rfl (.one _ rfl) sz25 (lb rfl)) (Ch.nil (Tz hc (Ch.s (dI ((m : Int) + 1)) (iX rfl rfl intV_addA) (Ch.s (dI ((m : Int) + 1)) pm ?_)))))))
       refine Ch.nil ?_
       exact nx (m + 1) (by omega) (Wk.ren [(7203, 55000)] rfl rfl rfl rfl (ar (ar (ar (ar (ai (vI a87) trivial))))) (ai (oB (Eq.trans (b := [(dI r.st.places), (.row 7202), (.row 55000), (.row 7204), (dS r.st.start), (dI r.kind), (.row 7207)]) rfl (by rfl))) (ar (ai (oR a37) (ar (ar trivial))))))
      ·
       try have hwk : wAt r l k = true := a71
       refine T_exit (Ts hc (Ch.s (.ptr 1 0) pm (Ch.s (dI (k : Int)) pm (Ch.s (.ptr 1 0) (.pure (.nilPtr _ rfl rfl)) (Ch.s (.ptr 1 5) (fP fld36_1 rfl) (Ch.s .junk (.storePtr _ _ _ rfl rfl rfl (.one _ rfl) sz3 (lb rfl)) ?_))))))
       refine Ch.nil (Ts hc (Ch.s (dB true) pa (Ch.nil (T_ret ?_))))
       exact eR [(dB true)] [1, 7202, 7203, 7204, 7207] [] (.cons (.tmp 4 rfl) .nil) (.cons (.box rfl (.cons (Exp.of (congrArg (D.int .i64) a17) (.d _)) (.cons (Exp.of (congrArg (D.slice true 2) a17) (.row rfl)) (.cons (Exp.of (congrArg (D.slice true 2) a17) (.row rfl)) (.cons (Exp.of (congrArg (D.slice true 2) a17) (.row rfl)) (.cons (Exp.of (congrArg D.str a17) (.d _)) (.cons (Exp.of (congrArg (D.int .i64) a17) (.d _)) (.cons (Exp.of (congrArg (D.slice true 1) a17) (.row rfl)) .nil))))))) rfl) eA) (Exp.of (congrArg D.bool a17) (.d _))
   | false =>
    replace h3 := odf h3
    refine Ck (Ck (Ck (Ck (Ck (Ck (Ch.s (dB true) (pT rfl) (Ch.s (dB true) pm ?_)))))))
    refine Ck (Ck (Ck (Ch.s (dB true) (pT rfl) (Ch.nil ?_))))
    refine T_cond (b := true) rfl (fun _ => ?_) (fun h => nomatch h)
    refine T_exit (Tz hc (Ch.s (dI ((k : Int) + 1)) (iX rfl rfl intV_addA) (Ch.s (dI ((k : Int) + 1)) pm (Ch.nil ?_))))
    exact nx (k + 1) ⟨by omega, upto_succ hp0.2 a71⟩ (Wk.of rfl rfl (ar (ar (ar (ar (ai (vI a87) trivial))))) (ar (ar (ar (ar (ar (ar trivial)))))))
 ·
  refine T_exit (Ts hc (Ch.s (dB false) pa (Ch.nil (T_ret ?_))))
  exact eR [(dB false)] [1, 8000010, 8000011, 8000012, 8000013] [] (.cons (.tmp 4 rfl) .nil) (.cons (.box rfl (.cons (Exp.of (congrArg (D.int .i64) a17) (.d _)) (.cons (Exp.of (congrArg (D.slice true 2) a17) (.row rfl)) (.cons (Exp.of (congrArg (D.slice true 2) a17) (.row rfl)) (.cons (Exp.of (congrArg (D.slice true 2) a17) (.row rfl)) (.cons (Exp.of (congrArg D.str a17) (.d _)) (.cons (Exp.of (congrArg (D.int .i64) a17) (.d _)) (.cons (Exp.of (congrArg (D.slice true 1) a17) (.row rfl)) .nil))))))) rfl) eA) (Exp.of (congrArg D.bool a17) (.d _))

set_option maxHeartbeats 1000000 in
theorem sp_strans (m : Nat) (r : Rds) (u : List UInt8) (hr : RsW m r) (hm : m ≤ 100000) (hu : u.length ≤ 4000) : Sp Tryz.prog 30 [(.box [(.int .i64 r.st.places), (.slice true 2 (r.st.trans.map Tra.u)), (.slice true 2 (r.st.sigs.map Sgn.d)), (.slice true 2 (r.st.labs.map Lab.d)), (.str r.st.start), (.int .i64 r.kind), (.slice true 1 (r.words.map D.str))]), (.str u)] [(.box [(.int .i64 ((((trnS r u).1).st).places)), (.slice true 2 (((((trnS r u).1).st).trans).map Tra.u)), (.slice true 2 (((((trnS r u).1).st).sigs).map Sgn.d)), (.slice true 2 (((((trnS r u).1).st).labs).map Lab.d)), (.str ((((trnS r u).1).st).start)), (.int .i64 (((trnS r u).1).kind)), (.slice true 1 ((((trnS r u).1).words).map D.str))]), .any] (.int .i64 ((trnS r u).2)) := by
 refine Sp_intro (lend := false) Tryz.func30 rfl rfl rfl (fun h => nomatch h) (fun c hc hX => ?_)
 refine T_open 1 8000010 rfl rfl rfl ?_
 have hr1 := hr.w; have hr2 := hr.l; have hr3 := hr.t; obtain ⟨hk1, hk2, hr4⟩ := hr.s.1; have hcu := splB_at_le (u := u) (b := 47) 0; have hsl := splB_len u 47
 refine Ts hc (Ch.s (dI 0) pa (Ch.nil (Tq (Ts hc (Ch.s (.ptr 1 0) pm ?_)))))
 refine Ch.s (.ptr 1 0) (.pure (.nilPtr _ rfl rfl)) (Ch.s (.ptr 1 6) (fP fld39_1 rfl) (Ch.s (.row 8000013) (lP ag37 rfl rfl rfl) (Ch.s (dI (r.words.length : Int)) (.pure (.len _ _ 9 rfl Tryz.underlying37 (.row rfl) (by simp))) (Ch.s (dI 0) pm (Ch.nil (Tb ?_))))))
 refine T_loop (ι := Nat) (fun k => { n := 111, sl := [(0, (.ptr 1 0)), (1, (dS u)), (13, (.row 8000013)), (14, (dI (r.words.length : Int))), (15, (dI (k : Int)))], hp := [(1, (some (.box [(dI r.st.places), (.row 8000010), (.row 8000011), (.row 8000012), (dS r.st.start), (dI r.kind), (.row 8000013)]))), (8000010, (some (.row 2 (r.st.trans.map Tra.u)))), (8000011, (some (.row 2 (r.st.sigs.map Sgn.d)))), (8000012, (some (.row 2 (r.st.labs.map Lab.d)))), (8000013, (some (.row 1 (r.words.map D.str))))], pin := [1] }) (fun k => k ≤ r.words.length ∧ ∀ j, j < k → decide (r.words.getD j default = u) = false) (fun k => r.words.length - k) ⟨0, ⟨by omega, fun j hj => by omega⟩, (Wk.of rfl rfl (ar (ar (ar (ar (ai (vI a87) trivial))))) (ar (ar (ar (ar (ar trivial))))))⟩ (fun k hp0 => ?_)
 refine Ts hc (Ch.s (dB (decide ((k : Int) < (r.words.length : Int)))) (iX rfl rfl rfl) (Ch.nil (Tq ?_)))
 refine T_condD (p := ((k : Int) < (r.words.length : Int))) rfl (fun h1 => ?_) (fun h1 => ?_)
 ·
  refine Tk (Tq (Tb (Ts hc (Ch.s (dI (k : Int)) pm (Ch.s (.el 8000013 1 k 0) (.pure (.idxRow _ _ _ 9 (k) rfl Tryz.underlying37 sz9 rfl rfl rfl rfl a52)) (Ch.s (dS (r.words.getD k default)) (.pure (.loadEl1 _ _ rfl ag9 rfl rfl get_mapA rfl rfl rfl)) ?_))))))
  refine Ch.s (dI (k : Int)) pa (Ch.s (dS (r.words.getD k default)) pa (Ch.nil (Ts hc (Ch.s (dS (r.words.getD k default)) pm (Ch.s (dS u) pm (Ch.s (dB (decide ((r.words.getD k default) = u))) (.pure (.str _ _ _ _ _ rfl rfl rfl rfl)) ?_))))))
  refine Ch.nil ?_
  refine T_condD (p := ((r.words.getD k default) = u)) rfl (fun h2 => ?_) (fun h2 => ?_)
  ·
   refine Ts hc (Ch.s (dI (k : Int)) pm (Ch.s (dI (k : Int)) pa (Ch.nil (T_ret ?_))))
   exact eR [(dI (k : Int))] [1, 8000010, 8000011, 8000012, 8000013] [] (.cons (.tmp 4 rfl) .nil) (.cons (.box rfl (.cons (Exp.of (congrArg (D.int .i64) a1) (.d _)) (.cons (Exp.of (congrArg (D.slice true 2) a1) (.row rfl)) (.cons (Exp.of (congrArg (D.slice true 2) a1) (.row rfl)) (.cons (Exp.of (congrArg (D.slice true 2) a1) (.row rfl)) (.cons (Exp.of (congrArg D.str a1) (.d _)) (.cons (Exp.of (congrArg (D.int .i64) a1) (.d _)) (.cons (Exp.of (congrArg (D.slice true 1) a1) (.row rfl)) .nil))))))) rfl) eA) (Exp.of (congrArg (D.int .i64) a1) (.d _))
  ·
   refine Tk (Tz hc (Ch.s (dI ((k : Int) + 1)) (iX rfl rfl intV_addA) (Ch.s (dI ((k : Int) + 1)) pm (Ch.nil ?_))))
   exact nx (k + 1) ⟨by omega, upto_succ hp0.2 (decide_eq_false (by assumption))⟩ (Wk.of rfl rfl (ar (ar (ar (ar (ai (vI a87) trivial))))) (ar (ar (ar (ar (ar trivial))))))
 ·
  refine T_exit (Ts hc (Ch.s (.agg [(dI (-1)), (dB false)]) (.build _ _ rfl stru67 (.cons (.one _ rfl) .nil) rfl) (Ch.s (.ptr 7000 0) (.alloc 7000 _ rfl zer67) (Ch.s .junk (.storePtr _ _ _ rfl rfl rfl (.agg _ rfl) sz67 (lb rfl)) (Ch.nil (Tq ?_))))))
  refine Tz hc (Ch.s (dS u) pm ?_)
  refine Ch.step (v := (.row 27000)) rfl (.call 27000 9 _ _ _ en9 rfl (.inl rfl) (.cons (.d _) (.cons (.d _) .nil)) rfl (sol (solid_row (fun _ => rfl) _) rfl) (sp_spec_l1Split u (47 : UInt8) a7) (.skip _ _ (.skip _ _ .nil)) rfl) rfl rfl ?_
  refine Ch.s (.el 27000 1 0 0) (.pure (.idxRow _ _ _ 9 (0) rfl Tryz.underlying37 sz9 rfl rfl rfl rfl a52)) (Ch.s (dS ((splB u (47 : UInt8)).getD 0 default)) (.pure (.loadEl1 _ _ rfl ag9 rfl rfl get_mapA rfl rfl rfl)) (Ch.s (dS ((splB u (47 : UInt8)).getD 0 default)) pa (Ch.nil (Tq (Ts hc (Ch.s (dS ((splB u (47 : UInt8)).getD 0 default)) pm ?_))))))
  refine Ch.s (dB (!(decide (((splB u (47 : UInt8)).getD 0 default) = [126])))) (.pure (.str _ _ _ _ _ rfl rfl rfl rfl)) (Ch.nil ?_)
  refine T_condN (b := (decide (((splB u (47 : UInt8)).getD 0 default) = [126]))) rfl (fun h3 => ?_) (fun h3 => ?_)
  ·
   replace h3 := odf h3
   try have hbd := bad_1 (sg := r.st.sigs) (n := ((splB u 47).getD 0 default)) (by assumption) (by assumption)
   try have hbd := bad_2 (sg := r.st.sigs) (n := ((splB u 47).getD 0 default)) (by assumption) (by assumption)
   try have hbd := bad_3 (sg := r.st.sigs) (n := ((splB u 47).getD 0 default)) (by assumption)
   try have hbd := bad_4 (sg := r.st.sigs) (n := ((splB u 47).getD 0 default)) (by assumption) (by assumption)
   refine Ts hc (Ch.s (dS ((splB u (47 : UInt8)).getD 0 default)) pm (Ch.s (dI ((((splB u (47 : UInt8)).getD 0 default).length : Nat) : Int)) (.pure (.lenStr _ _ rfl Tryz.underlying9 rfl)) (Ch.s (dI (((((splB u (47 : UInt8)).getD 0 default).length : Nat) : Int) - 1)) (iX rfl rfl intV_subA) (Ch.s (dI (((((splB u (47 : UInt8)).getD 0 default).length : Nat) : Int) - 1)) pa (Ch.nil (Tq ?_))))))
   refine Tq ?_
   refine T_regionD hc (by kernel_rfl) ?_
   refine ChD.s (dI (((((splB u (47 : UInt8)).getD 0 default).length : Nat) : Int) - 1)) [] pm (ChD.s (dB (decide ((((((splB u (47 : UInt8)).getD 0 default).length : Nat) : Int) - 1) < 1))) [] (iX rfl rfl rfl) (ChD.s (dB (decide ((((((splB u (47 : UInt8)).getD 0 default).length : Nat) : Int) - 1) < 1))) [] pm ?_))
   cases h4 : (decide ((((((splB u (47 : UInt8)).getD 0 default).length : Nat) : Int) - 1) < 1)) with
   | true =>
    replace h4 := odt h4
    try have hbd := bad_1 (sg := r.st.sigs) (n := ((splB u 47).getD 0 default)) (by assumption) (by assumption)
    try have hbd := bad_2 (sg := r.st.sigs) (n := ((splB u 47).getD 0 default)) (by assumption) (by assumption)
    try have hbd := bad_3 (sg := r.st.sigs) (n := ((splB u 47).getD 0 default)) (by assumption)
    try have hbd := bad_4 (sg := r.st.sigs) (n := ((splB u 47).getD 0 default)) (by assumption) (by assumption)
    refine ChD.skip rfl rfl (ChD.skip rfl rfl (ChD.skip rfl rfl (ChD.skip rfl rfl (ChD.skip rfl rfl (ChD.skip rfl rfl (ChD.skip rfl rfl (ChD.skip rfl rfl ?_)))))))
    refine ChD.skip rfl rfl (ChD.skip rfl rfl (ChD.skip rfl rfl (ChD.s (dB true) [] (pT rfl) ?_)))
    refine ChD.nil (And.intro ?_ (by kernel_rfl))
    refine T_cond (b := true) rfl (fun _ => ?_) (fun h => nomatch h)
    refine Ts hc (Ch.s (dI (-1)) pa (Ch.nil (T_ret ?_)))
    exact eR [(dI (-1))] [1, 8000010, 8000011, 8000012, 8000013] [] (.cons (.tmp 4 rfl) .nil) (.cons (.box rfl (.cons (Exp.of (congrArg (D.int .i64) a1) (.d _)) (.cons (Exp.of (congrArg (D.slice true 2) a1) (.row rfl)) (.cons (Exp.of (congrArg (D.slice true 2) a1) (.row rfl)) (.cons (Exp.of (congrArg (D.slice true 2) a1) (.row rfl)) (.cons (Exp.of (congrArg D.str a1) (.d _)) (.cons (Exp.of (congrArg (D.int .i64) a1) (.d _)) (.cons (Exp.of (congrArg (D.slice true 1) a1) (.row rfl)) .nil))))))) rfl) eA) (Exp.of (congrArg (D.int .i64) a1) (.d _))
   | false =>
    replace h4 := odf h4
    try have hbd := bad_1 (sg := r.st.sigs) (n := ((splB u 47).getD 0 default)) (by assumption) (by assumption)
    try have hbd := bad_2 (sg := r.st.sigs) (n := ((splB u 47).getD 0 default)) (by assumption) (by assumption)
    try have hbd := bad_3 (sg := r.st.sigs) (n := ((splB u 47).getD 0 default)) (by assumption)
    try have hbd := bad_4 (sg := r.st.sigs) (n := ((splB u 47).getD 0 default)) (by assumption) (by assumption)
    refine ChD.s (.ptr 1 0) [] pm (ChD.s (.ptr 1 0) [] (.pure (.nilPtr _ rfl rfl)) (ChD.s (.ptr 1 0) [] (fP fld39_0 rfl) (ChD.s (.ptr 1 0) [] (fP fld36_0 rfl) (ChD.s (.ptr 1 2) [] (fP fld28_1 rfl) (ChD.s (.row 8000011) [1] (lP ag25 rfl rfl rfl) (ChD.s (dS ((splB u (47 : UInt8)).getD 0 default)) [] pm (ChD.s (dI (((((splB u (47 : UInt8)).getD 0 default).length : Nat) : Int) - 1)) [] pm ?_)))))))
    refine ChD.s (dS (((splB u (47 : UInt8)).getD 0 default).take (((splB u (47 : UInt8)).getD 0 default).length - 1))) [] (.pure (.sliceStr _ _ _ _ (0) ((((splB u (47 : UInt8)).getD 0 default).length - 1)) rfl Tryz.underlying9 rfl (bndN rfl) (bndS rfl (by omega)) a26 a26 (by simp))) (ChD.s (dI (ixF (fun y => decide (y.name = (((splB u (47 : UInt8)).getD 0 default).take (((splB u (47 : UInt8)).getD 0 default).length - 1)))) r.st.sigs)) [8000011] (.call 47000 56 _ _ _ en56 rfl (.inl rfl) (.cons (.lend (.row rfl (frozs_map (fun _ => rfl) _))) (.cons (.d _) .nil)) rfl rfl (sp_spec_l2Signal r.st.sigs (((splB u (47 : UInt8)).getD 0 default).take (((splB u (47 : UInt8)).getD 0 default).length - 1)) a23) (.skip _ _ (.skip _ _ .nil)) rfl) (ChD.s (dB (decide ((ixF (fun y => decide (y.name = (((splB u (47 : UInt8)).getD 0 default).take (((splB u (47 : UInt8)).getD 0 default).length - 1)))) r.st.sigs) < 0))) [] (iX rfl rfl rfl) (ChD.s (dB (decide ((ixF (fun y => decide (y.name = (((splB u (47 : UInt8)).getD 0 default).take (((splB u (47 : UInt8)).getD 0 default).length - 1)))) r.st.sigs) < 0))) [] (pF rfl) ?_)))
    refine ChD.nil (And.intro ?_ (by kernel_rfl))
    refine T_condD (p := ((ixF (fun y => decide (y.name = (((splB u (47 : UInt8)).getD 0 default).take (((splB u (47 : UInt8)).getD 0 default).length - 1)))) r.st.sigs) < 0)) rfl (fun h5 => ?_) (fun h5 => ?_)
    ·
     try have hbd := bad_1 (sg := r.st.sigs) (n := ((splB u 47).getD 0 default)) (by assumption) (by assumption)
     try have hbd := bad_2 (sg := r.st.sigs) (n := ((splB u 47).getD 0 default)) (by assumption) (by assumption)
     try have hbd := bad_3 (sg := r.st.sigs) (n := ((splB u 47).getD 0 default)) (by assumption)
     try have hbd := bad_4 (sg := r.st.sigs) (n := ((splB u 47).getD 0 default)) (by assumption) (by assumption)
     refine Ts hc (Ch.s (dI (-1)) pa (Ch.nil (T_ret ?_)))
     exact eR [(dI (-1))] [1, 8000010, 8000011, 8000012, 8000013] [] (.cons (.tmp 4 rfl) .nil) (.cons (.box rfl (.cons (Exp.of (congrArg (D.int .i64) a1) (.d _)) (.cons (Exp.of (congrArg (D.slice true 2) a1) (.row rfl)) (.cons (Exp.of (congrArg (D.slice true 2) a1) (.row rfl)) (.cons (Exp.of (congrArg (D.slice true 2) a1) (.row rfl)) (.cons (Exp.of (congrArg D.str a1) (.d _)) (.cons (Exp.of (congrArg (D.int .i64) a1) (.d _)) (.cons (Exp.of (congrArg (D.slice true 1) a1) (.row rfl)) .nil))))))) rfl) eA) (Exp.of (congrArg (D.int .i64) a1) (.d _))
    ·
     try have hbd := bad_1 (sg := r.st.sigs) (n := ((splB u 47).getD 0 default)) (by assumption) (by assumption)
     try have hbd := bad_2 (sg := r.st.sigs) (n := ((splB u 47).getD 0 default)) (by assumption) (by assumption)
     try have hbd := bad_3 (sg := r.st.sigs) (n := ((splB u 47).getD 0 default)) (by assumption)
     try have hbd := bad_4 (sg := r.st.sigs) (n := ((splB u 47).getD 0 default)) (by assumption) (by assumption)
     refine Tk ?_
     refine T_regionD hc (by kernel_rfl) ?_
     refine ChD.s (.ptr 1 0) [] pm (ChD.s (.ptr 1 0) [] (.pure (.nilPtr _ rfl rfl)) (ChD.s (.ptr 1 0) [] (fP fld39_0 rfl) (ChD.s (.ptr 1 0) [] (fP fld36_0 rfl) (ChD.s (.ptr 1 2) [] (fP fld28_1 rfl) (ChD.s (.row 8000011) [1] (lP ag25 rfl rfl rfl) (ChD.s (dS ((splB u (47 : UInt8)).getD 0 default)) [] pm (ChD.s (dI (((((splB u (47 : UInt8)).getD 0 default).length : Nat) : Int) - 1)) [] pm ?_)))))))
     refine ChD.s (dS (((splB u (47 : UInt8)).getD 0 default).take (((splB u (47 : UInt8)).getD 0 default).length - 1))) [] (.pure (.sliceStr _ _ _ _ (0) ((((splB u (47 : UInt8)).getD 0 default).length - 1)) rfl Tryz.underlying9 rfl (bndN rfl) (bndS rfl (by omega)) a26 a26 (by simp))) (ChD.s (dI (ixF (fun y => decide (y.name = (((splB u (47 : UInt8)).getD 0 default).take (((splB u (47 : UInt8)).getD 0 default).length - 1)))) r.st.sigs)) [8000011] (.call 59000 56 _ _ _ en56 rfl (.inl rfl) (.cons (.lend (.row rfl (frozs_map (fun _ => rfl) _))) (.cons (.d _) .nil)) rfl rfl (sp_spec_l2Signal r.st.sigs (((splB u (47 : UInt8)).getD 0 default).take (((splB u (47 : UInt8)).getD 0 default).length - 1)) a23) (.skip _ _ (.skip _ _ .nil)) rfl) (ChD.s (dS ((splB u (47 : UInt8)).getD 0 default)) [] pm (ChD.s (dI (((((splB u (47 : UInt8)).getD 0 default).length : Nat) : Int) - 1)) [] pm (ChD.s (.d (.int .u8 ((((splB u (47 : UInt8)).getD 0 default).getD (((splB u (47 : UInt8)).getD 0 default).length - 1) 0).toNat : Int))) [] (.pure (.idxStr _ _ _ ((((splB u (47 : UInt8)).getD 0 default).length - 1)) rfl Tryz.underlying9 rfl rfl (by omega) get_strA)) (ChD.s (dB (decide (((((splB u (47 : UInt8)).getD 0 default).getD (((splB u (47 : UInt8)).getD 0 default).length - 1) 0) : UInt8) = 43))) [] (iX rfl rfl (u8_eql ((((splB u (47 : UInt8)).getD 0 default).getD (((splB u (47 : UInt8)).getD 0 default).length - 1) 0) : UInt8) 43 rfl rfl)) (ChD.s (.agg [(dI (ixF (fun y => decide (y.name = (((splB u (47 : UInt8)).getD 0 default).take (((splB u (47 : UInt8)).getD 0 default).length - 1)))) r.st.sigs)), (dB (decide (((((splB u (47 : UInt8)).getD 0 default).getD (((splB u (47 : UInt8)).getD 0 default).length - 1) 0) : UInt8) = 43)))]) [] (.build _ _ rfl stru67 (.cons (.one _ rfl) (.cons (.one _ rfl) .nil)) rfl) (ChD.s .junk [7000] (.storePtr _ _ _ rfl rfl rfl (.agg _ rfl) sz67 (lb rfl)) ?_)))))))
     refine ChD.nil (And.intro ?_ (by kernel_rfl))
     refine Ts hc (Ch.s (.ptr 1 0) pm (Ch.s (.ptr 1 0) pm (Ch.s (.ptr 1 0) (.pure (.nilPtr _ rfl rfl)) (Ch.s (.ptr 1 6) (fP fld39_1 rfl) (Ch.s (.row 8000013) (lP ag37 rfl rfl rfl) (Ch.s (dS u) pm ?_))))))
     refine Ch.s (.row 71000) (.slice 71000 _ 9 _ rfl sty37 (xs := [.tmp 70]) rfl rfl (.cons (.d _) .nil) rfl rfl (by decide)) ?_
     refine Ch.step (v := (.row 72000)) rfl (.append 72000 _ _ _ 9 rfl sty37 (by decide) (.rowK rfl) (.inr ⟨_, rfl, rfl⟩) (.row rfl rfl) rfl a30) rfl rfl ?_
     refine Ch.s (.ptr 1 0) (.pure (.nilPtr _ rfl rfl)) (Ch.s (.ptr 1 6) (fP fld39_1 rfl) (Ch.s .junk (.storePtr _ _ _ rfl rfl rfl (.one _ rfl) sz37 (lb rfl)) (Ch.nil (Ts hc (Ch.s (.ptr 1 0) pm (Ch.s (.ptr 1 0) pm ?_))))))
     refine Ch.s (.ptr 1 0) (.pure (.nilPtr _ rfl rfl)) (Ch.s (.ptr 1 0) (fP fld39_0 rfl) (Ch.s (.ptr 1 0) (fP fld36_0 rfl) (Ch.s (.ptr 1 0) (fP fld28_0 rfl) (Ch.s (.ptr 1 1) (fP fld24_1 rfl) (Ch.s (.row 8000010) (lP ag22 rfl rfl rfl) (Ch.s (.agg [(.c (.slice none 0 0)), (.c (.slice none 0 0))]) (.build _ _ rfl stru64 .nil rfl) (Ch.s (.row 84000) (.slice 84000 _ 64 _ rfl sty22 (xs := [.tmp 83]) rfl rfl (.cons (.agg (.cons (.nil true 1) (.cons (.nil true 1) .nil)) rfl) .nil) rfl rfl (by decide)) ?_)))))))
     refine Ch.step (v := (.row 85000)) rfl (.append 85000 _ _ _ 64 rfl sty22 (by decide) (.rowK rfl) (.inr ⟨_, rfl, rfl⟩) (.rowK rfl) rfl a30) rfl rfl ?_
     refine Ch.s (.ptr 1 0) (.pure (.nilPtr _ rfl rfl)) (Ch.s (.ptr 1 0) (fP fld39_0 rfl) (Ch.s (.ptr 1 0) (fP fld36_0 rfl) (Ch.s (.ptr 1 0) (fP fld28_0 rfl) (Ch.s (.ptr 1 1) (fP fld24_1 rfl) (Ch.s .junk (.storePtr _ _ _ rfl rfl rfl (.one _ rfl) sz22 (lb rfl)) (Ch.nil (Tq ?_)))))))
     refine T_regionD hc (by kernel_rfl) ?_
     refine ChD.s (.ptr 1 0) [] pm (ChD.s (.ptr 1 0) [] pm (ChD.s (.ptr 1 0) [] (.pure (.nilPtr _ rfl rfl)) (ChD.s (.ptr 1 0) [] (fP fld39_0 rfl) (ChD.s (.ptr 1 0) [] (fP fld36_0 rfl) (ChD.s (.ptr 1 3) [] (fP fld28_2 rfl) (ChD.s (.row 8000012) [1] (lP ag26 rfl rfl rfl) (ChD.s (.agg [(dI (ixF (fun y => decide (y.name = (((splB u (47 : UInt8)).getD 0 default).take (((splB u (47 : UInt8)).getD 0 default).length - 1)))) r.st.sigs)), (dB (decide (((((splB u (47 : UInt8)).getD 0 default).getD (((splB u (47 : UInt8)).getD 0 default).length - 1) 0) : UInt8) = 43)))]) [7000] (lA ag67 sz67 rfl rfl (lb rfl) rfl) ?_)))))))
     refine ChD.s (.row 99000) [] (.slice 99000 _ 67 _ rfl sty26 (xs := [.tmp 98]) rfl rfl (.cons (.agg (.cons (.d _) (.cons (.d _) .nil)) rfl) .nil) rfl rfl (by decide)) (ChD.s (.row 100000) [99000, 8000012] (.append 100000 _ _ _ 67 rfl sty26 (by decide) (.rowK rfl) (.inr ⟨_, rfl, rfl⟩) (.row rfl rfl) rfl a30) (ChD.s (.ptr 1 0) [] (.pure (.nilPtr _ rfl rfl)) (ChD.s (.ptr 1 0) [] (fP fld39_0 rfl) (ChD.s (.ptr 1 0) [] (fP fld36_0 rfl) (ChD.s (.ptr 1 3) [] (fP fld28_2 rfl) (ChD.s .junk [1, 72000, 85000, 100000, 8000011, 8000012] (.storePtr _ _ _ rfl rfl rfl (.one _ rfl) sz26 (lb rfl)) ?_))))))
     refine ChD.nil (And.intro ?_ (by kernel_rfl))
     refine Ts hc (Ch.s (.ptr 1 0) pm (Ch.s (.ptr 1 0) (.pure (.nilPtr _ rfl rfl)) (Ch.s (.ptr 1 6) (fP fld39_1 rfl) (Ch.s (.row 72000) (lP ag37 rfl rfl rfl) (Ch.s (dI (((r.words.length + 1) : Nat) : Int)) (.pure (.len _ _ 9 rfl Tryz.underlying37 (.row rfl) (by simp))) (Ch.s (dI ((((r.words.length + 1) : Nat) : Int) - 1)) (iX rfl rfl intV_subA) ?_))))))
     refine Ch.s (dI ((((r.words.length + 1) : Nat) : Int) - 1)) pa (Ch.nil (T_ret ?_))
     exact eR [(dI ((((r.words.length + 1) : Nat) : Int) - 1))] [1, 85000, 8000011, 100000, 72000] [] (.cons (.tmp 4 rfl) .nil) (.cons (.box rfl (.cons (Exp.of (congrArg (D.int .i64) a1) (.d _)) (.cons (Exp.of (congrArg (D.slice true 2) a1) (.row rfl)) (.cons (Exp.of (congrArg (D.slice true 2) a1) (.row rfl)) (.cons (Exp.of (congrArg (D.slice true 2) a1) (.row rfl)) (.cons (Exp.of (congrArg D.str a1) (.d _)) (.cons (Exp.of (congrArg (D.int .i64) a1) (.d _)) (.cons (Exp.of (congrArg (D.slice true 1) a1) (.row rfl)) .nil))))))) rfl) eA) (Exp.of (congrArg (D.int .i64) a1) (.d _))
  ·
   replace h3 := odt h3
   try have hbd := bad_1 (sg := r.st.sigs) (n := ((splB u 47).getD 0 default)) (by assumption) (by assumption)
   try have hbd := bad_2 (sg := r.st.sigs) (n := ((splB u 47).getD 0 default)) (by assumption) (by assumption)
   try have hbd := bad_3 (sg := r.st.sigs) (n := ((splB u 47).getD 0 default)) (by assumption)
   try have hbd := bad_4 (sg := r.st.sigs) (n := ((splB u 47).getD 0 default)) (by assumption) (by assumption)
   refine Tk (Ts hc (Ch.s (.ptr 1 0) pm (Ch.s (.ptr 1 0) pm (Ch.s (.ptr 1 0) (.pure (.nilPtr _ rfl rfl)) (Ch.s (.ptr 1 6) (fP fld39_1 rfl) (Ch.s (.row 8000013) (lP ag37 rfl rfl rfl) ?_))))))
   refine Ch.s (dS u) pm (Ch.s (.row 71000) (.slice 71000 _ 9 _ rfl sty37 (xs := [.tmp 70]) rfl rfl (.cons (.d _) .nil) rfl rfl (by decide)) ?_)
   refine Ch.step (v := (.row 72000)) rfl (.append 72000 _ _ _ 9 rfl sty37 (by decide) (.rowK rfl) (.inr ⟨_, rfl, rfl⟩) (.row rfl rfl) rfl a30) rfl rfl ?_
   refine Ch.s (.ptr 1 0) (.pure (.nilPtr _ rfl rfl)) (Ch.s (.ptr 1 6) (fP fld39_1 rfl) (Ch.s .junk (.storePtr _ _ _ rfl rfl rfl (.one _ rfl) sz37 (lb rfl)) (Ch.nil (Ts hc (Ch.s (.ptr 1 0) pm (Ch.s (.ptr 1 0) pm ?_))))))
   refine Ch.s (.ptr 1 0) (.pure (.nilPtr _ rfl rfl)) (Ch.s (.ptr 1 0) (fP fld39_0 rfl) (Ch.s (.ptr 1 0) (fP fld36_0 rfl) (Ch.s (.ptr 1 0) (fP fld28_0 rfl) (Ch.s (.ptr 1 1) (fP fld24_1 rfl) (Ch.s (.row 8000010) (lP ag22 rfl rfl rfl) (Ch.s (.agg [(.c (.slice none 0 0)), (.c (.slice none 0 0))]) (.build _ _ rfl stru64 .nil rfl) (Ch.s (.row 84000) (.slice 84000 _ 64 _ rfl sty22 (xs := [.tmp 83]) rfl rfl (.cons (.agg (.cons (.nil true 1) (.cons (.nil true 1) .nil)) rfl) .nil) rfl rfl (by decide)) ?_)))))))
   refine Ch.step (v := (.row 85000)) rfl (.append 85000 _ _ _ 64 rfl sty22 (by decide) (.rowK rfl) (.inr ⟨_, rfl, rfl⟩) (.rowK rfl) rfl a30) rfl rfl ?_
   refine Ch.s (.ptr 1 0) (.pure (.nilPtr _ rfl rfl)) (Ch.s (.ptr 1 0) (fP fld39_0 rfl) (Ch.s (.ptr 1 0) (fP fld36_0 rfl) (Ch.s (.ptr 1 0) (fP fld28_0 rfl) (Ch.s (.ptr 1 1) (fP fld24_1 rfl) (Ch.s .junk (.storePtr _ _ _ rfl rfl rfl (.one _ rfl) sz22 (lb rfl)) (Ch.nil (Tq ?_)))))))
   refine T_regionD hc (by kernel_rfl) ?_
   refine ChD.s (.ptr 1 0) [] pm (ChD.s (.ptr 1 0) [] pm (ChD.s (.ptr 1 0) [] (.pure (.nilPtr _ rfl rfl)) (ChD.s (.ptr 1 0) [] (fP fld39_0 rfl) (ChD.s (.ptr 1 0) [] (fP fld36_0 rfl) (ChD.s (.ptr 1 3) [] (fP fld28_2 rfl) (ChD.s (.row 8000012) [1] (lP ag26 rfl rfl rfl) (ChD.s (.agg [(dI (-1)), (dB false)]) [7000] (lA ag67 sz67 rfl rfl (lb rfl) rfl) ?_)))))))
   refine ChD.s (.row 99000) [] (.slice 99000 _ 67 _ rfl sty26 (xs := [.tmp 98]) rfl rfl (.cons (.agg (.cons (.d _) (.cons (.d _) .nil)) rfl) .nil) rfl rfl (by decide)) (ChD.s (.row 100000) [99000, 8000012] (.append 100000 _ _ _ 67 rfl sty26 (by decide) (.rowK rfl) (.inr ⟨_, rfl, rfl⟩) (.row rfl rfl) rfl a30) (ChD.s (.ptr 1 0) [] (.pure (.nilPtr _ rfl rfl)) (ChD.s (.ptr 1 0) [] (fP fld39_0 rfl) (ChD.s (.ptr 1 0) [] (fP fld36_0 rfl) (ChD.s (.ptr 1 3) [] (fP fld28_2 rfl) (ChD.s .junk [1, 72000, 85000, 100000, 8000011, 8000012] (.storePtr _ _ _ rfl rfl rfl (.one _ rfl) sz26 (lb rfl)) ?_))))))
   refine ChD.nil (And.intro ?_ (by kernel_rfl))
   refine Ts hc (Ch.s (.ptr 1 0) pm (Ch.s (.ptr 1 0) (.pure (.nilPtr _ rfl rfl)) (Ch.s (.ptr 1 6) (fP fld39_1 rfl) (Ch.s (.row 72000) (lP ag37 rfl rfl rfl) (Ch.s (dI (((r.words.length + 1) : Nat) : Int)) (.pure (.len _ _ 9 rfl Tryz.underlying37 (.row rfl) (by simp))) (Ch.s (dI ((((r.words.length + 1) : Nat) : Int) - 1)) (iX rfl rfl intV_subA) ?_))))))
   refine Ch.s (dI ((((r.words.length + 1) : Nat) : Int) - 1)) pa (Ch.nil (T_ret ?_))
   exact eR [(dI ((((r.words.length + 1) : Nat) : Int) - 1))] [1, 85000, 8000011, 100000, 72000] [] (.cons (.tmp 4 rfl) .nil) (.cons (.box rfl (.cons (Exp.of (congrArg (D.int .i64) a1) (.d _)) (.cons (Exp.of (congrArg (D.slice true 2) a1) (.row rfl)) (.cons (Exp.of (congrArg (D.slice true 2) a1) (.row rfl)) (.cons (Exp.of (congrArg (D.slice true 2) a1) (.row rfl)) (.cons (Exp.of (congrArg D.str a1) (.d _)) (.cons (Exp.of (congrArg (D.int .i64) a1) (.d _)) (.cons (Exp.of (congrArg (D.slice true 1) a1) (.row rfl)) .nil))))))) rfl) eA) (Exp.of (congrArg (D.int .i64) a1) (.d _))

theorem sp_numN (n : Nat) (x : Int) (hx : x = (n : Int)) (hn : n < 100) : Sp Tryz.prog 31 [(.int .i64 x)] [.any] (.str (numS n)) := by
 subst hx
 exact sp_num2 n hn

end Go.AM
