/-
  The contracts that the law FnExactExcitationRegions needs.
-/
import Derived.Test.YtnmlcebejnlikaaGreatZExcitationRegions2
import Derived.Test.YtnmlcebejnlikaaGreatSh
namespace Go.AM
open Go.Proofs
set_option linter.unusedVariables false
set_option linter.unusedSimpArgs false

set_option maxHeartbeats 1000000 in
theorem sp_impl_equalCodes (x : Sgr) (hb : x.bulk ≤ 1048576) (hx : SgOk x) : Sp Tryz.prog 300 [(.agg [(.slice false 2 (x.sigs.map Sgn.d)), (.slice false 1 (x.codes.map D.str)), (.slice false 4 (x.arcs.map Arc.d))])] [.any] (.slice true 1 ((prTo (eqP x) x.codes.length x.codes.length).map intsU)) := by
 refine Sp_intro (lend := true) Tryz.func300 rfl rfl rfl (fun _ => rfl) (fun c hc hX => ?_)
 obtain ⟨hp0, hp1, hp2⟩ := Sgr.parts hb
 have hn0 := bulkF_len hp0
 have hn1 := bulk_len hp1
 have hx1 := bulk_mem hp1
 have hn2 := bulkF_len hp2; have hx8 := hx.eight; have hxl := hx.len; have hxf := hx.few
 refine T_seq (T_region hc (Ch.s (.ptr 1000 0) (.box 1000 _ _ rfl (.aggD _)) (Ch.s (.c (.slice none 0 0)) pa (Ch.nil (T_seq (T_region hc (Ch.s (.row 7000) (.slice 7000 _ 55 _ rfl sty49 (xs := []) rfl rfl .nil rfl rfl (by decide)) ?_)))))))
 refine Ch.s (.row 7000) pa (Ch.nil (T_seq (T_seq (T_region hc (Ch.s (.ptr 1000 1) (.pure (.fldPtr _ _ _ rfl fld35_1 rfl)) (Ch.s (.d (.slice false 1 (x.codes.map D.str))) (.pure (.loadPtr1 _ _ rfl ag23 rfl rfl rfl)) (Ch.s (.d (.int .i64 ((x.codes.length : Nat) : Int))) (.pure (.len _ _ 9 rfl Tryz.underlying23 (.sh _ _) (by simp))) ?_)))))))
 refine Ch.s (.d (.int .i64 0)) pm (Ch.nil (T_block ?_))
 refine T_loop (ι := Nat) (fun k => { n := 40, sl := [(1, (.ptr 1000 0)), (3, (.row 3)), (9, (.d (.slice false 1 (x.codes.map D.str)))), (10, (.d (.int .i64 ((x.codes.length : Nat) : Int)))), (11, (.d (.int .i64 ((k : Nat) : Int))))], hp := [(3, (some (.row 1 ((prTo (eqP x) x.codes.length k).map intsU)))), (1000, (some (.box [(.d (.slice false 2 (x.sigs.map Sgn.d))), (.d (.slice false 1 (x.codes.map D.str))), (.d (.slice false 4 (x.arcs.map Arc.d)))])))], pin := [] }) (fun k => k ≤ x.codes.length) (fun k => x.codes.length - k) ⟨0, (by omega), (Wk.ren [(3, 7000)] rfl rfl rfl rfl (ai rfl (ai rfl (ai rfl (ai rfl (ai (vI (by first | rfl | omega | (simp; done) | (simp; omega))) trivial))))) (ai (oR (by first | rfl | (rw [prM_end (by omega) (by omega)]; done))) (ai rfl trivial)))⟩ (fun k hp0 => ?_)
 refine T_seq (T_region hc (Ch.s (.d (.bool (decide (((k : Nat) : Int) < ((x.codes.length : Nat) : Int))))) (.pure (.int _ _ _ _ _ rfl rfl rfl rfl)) (Ch.nil (T_seq ?_))))
 refine T_cond (b := (decide (((k : Nat) : Int) < ((x.codes.length : Nat) : Int)))) rfl (fun h1 => ?_) (fun h1 => ?_)
 ·
  replace h1 := of_decide_eq_true h1
  refine T_skip (T_seq (T_block (T_seq (T_region hc (Ch.s (.d (.int .i64 ((k : Nat) : Int))) pm (Ch.s (.d (.ref (.str (x.codes.getD k default)))) (.pure (.idx _ _ _ 9 (k) rfl Tryz.underlying23 sz9 rfl rfl rfl get_mapA)) (Ch.s (.d (.str (x.codes.getD k default))) (.pure (.loadRef1 _ _ rfl ag9 rfl rfl)) ?_)))))))
  refine Ch.s (.d (.int .i64 ((k : Nat) : Int))) pa (Ch.s (.d (.str (x.codes.getD k default))) pa (Ch.nil (T_seq (T_region hc (Ch.s (.d (.int .i64 ((k : Nat) : Int))) pm (Ch.s (.d (.int .i64 (((k : Nat) : Int) + 1))) (.pure (.int _ _ _ _ _ rfl rfl rfl intV_addA)) (Ch.s (.d (.int .i64 (((k : Nat) : Int) + 1))) pa ?_)))))))
  refine Ch.nil (T_block ?_)
  refine T_loop (ι := Nat) (fun m => { n := 40, sl := [(1, (.ptr 1000 0)), (3, (.row 3)), (4, (.d (.int .i64 ((k : Nat) : Int)))), (5, (.d (.str (x.codes.getD k default)))), (6, (.d (.int .i64 ((m : Nat) : Int)))), (9, (.d (.slice false 1 (x.codes.map D.str)))), (10, (.d (.int .i64 ((x.codes.length : Nat) : Int)))), (11, (.d (.int .i64 ((k : Nat) : Int))))], hp := [(3, (some (.row 1 ((prM (eqP x) x.codes.length k m).map intsU)))), (1000, (some (.box [(.d (.slice false 2 (x.sigs.map Sgn.d))), (.d (.slice false 1 (x.codes.map D.str))), (.d (.slice false 4 (x.arcs.map Arc.d)))])))], pin := [] }) (fun m => k < m ∧ m ≤ x.codes.length) (fun m => x.codes.length - m) ⟨k + 1, ⟨by omega, by omega⟩, (Wk.of rfl rfl (ai rfl (ai rfl (ai rfl (ai rfl (ai (vI (by first | rfl | omega | (simp; done) | (simp; omega))) (ai rfl (ai rfl (ai rfl trivial)))))))) (ai (oR (by first | (exact congrArg (List.map _) (prM_start _ _ _)) | (exact push rfl (prM_yes (by omega) (by first | exact decide_eq_true (by assumption) | exact decide_eq_true (Eq.symm (by assumption))))) | (exact congrArg (List.map _) (prM_no (by first | exact decide_eq_false (by assumption) | exact decide_eq_false (fun e => (by assumption : ¬ _) e.symm)))))) (ai rfl trivial)))⟩ (fun m hp1 => ?_)
  have hq := prM_le (eqP x) (n := x.codes.length) (k := k) (m := m) (by omega) (by omega) (by omega)
  refine T_seq (T_seq (T_region hc (Ch.s (.d (.int .i64 ((m : Nat) : Int))) pm (Ch.s (.ptr 1000 1) (.pure (.fldPtr _ _ _ rfl fld35_1 rfl)) (Ch.s (.d (.slice false 1 (x.codes.map D.str))) (.pure (.loadPtr1 _ _ rfl ag23 rfl rfl rfl)) (Ch.s (.d (.int .i64 ((x.codes.length : Nat) : Int))) (.pure (.len _ _ 9 rfl Tryz.underlying23 (.sh _ _) (by simp))) (Ch.s (.d (.bool (decide (((m : Nat) : Int) < ((x.codes.length : Nat) : Int))))) (.pure (.int _ _ _ _ _ rfl rfl rfl rfl)) ?_)))))))
  refine Ch.nil ?_
  refine T_cond (b := (decide (((m : Nat) : Int) < ((x.codes.length : Nat) : Int)))) rfl (fun h2 => ?_) (fun h2 => ?_)
  ·
   replace h2 := of_decide_eq_true h2
   refine T_skip (T_seq (T_block (T_seq (T_region hc (Ch.s (.ptr 1000 1) (.pure (.fldPtr _ _ _ rfl fld35_1 rfl)) (Ch.s (.d (.slice false 1 (x.codes.map D.str))) (.pure (.loadPtr1 _ _ rfl ag23 rfl rfl rfl)) (Ch.s (.d (.int .i64 ((m : Nat) : Int))) pm ?_)))))))
   refine Ch.s (.d (.ref (.str (x.codes.getD m default)))) (.pure (.idx _ _ _ 9 (m) rfl Tryz.underlying23 sz9 rfl rfl rfl get_mapA)) (Ch.s (.d (.str (x.codes.getD m default))) (.pure (.loadRef1 _ _ rfl ag9 rfl rfl)) (Ch.s (.d (.str (x.codes.getD k default))) pm (Ch.s (.d (.bool (decide ((x.codes.getD m default) = (x.codes.getD k default))))) (.pure (.str _ _ _ _ _ rfl rfl rfl rfl)) (Ch.nil ?_))))
   refine T_cond (b := (decide ((x.codes.getD m default) = (x.codes.getD k default)))) rfl (fun h3 => ?_) (fun h3 => ?_)
   ·
    replace h3 := of_decide_eq_true h3
    refine T_region hc (Ch.s (.row 3) pm (Ch.s (.d (.int .i64 ((k : Nat) : Int))) pm (Ch.s (.d (.int .i64 ((m : Nat) : Int))) pm (Ch.s (.row 35000) (.slice 35000 _ 3 _ rfl sty55 (xs := [.tmp 33, .tmp 34]) rfl rfl (.cons (.d _) (.cons (.d _) .nil)) rfl rfl (by decide)) (Ch.s (.row 36000) (.slice 36000 _ 55 _ rfl sty49 (xs := [.tmp 35]) rfl rfl (.cons (.row rfl) .nil) rfl rfl (by decide)) ?_)))))
    refine Ch.step (v := (.row 37000)) rfl (.append 37000 _ _ _ 55 rfl sty49 (by decide) (.rowK rfl) (.inr ⟨_, rfl, rfl⟩) (.rowK rfl) rfl (by first | omega | (simp only [List.length_append, List.length_map, List.length_cons, List.length_nil]; omega) | (simp; omega) | (simp; done))) rfl rfl ?_
    refine Ch.s (.row 37000) pa (Ch.nil (T_region hc (Ch.s (.d (.int .i64 ((m : Nat) : Int))) pm (Ch.s (.d (.int .i64 (((m : Nat) : Int) + 1))) (.pure (.int _ _ _ _ _ rfl rfl rfl intV_addA)) (Ch.s (.d (.int .i64 (((m : Nat) : Int) + 1))) pa (Ch.nil ?_))))))
    exact nx (m + 1) ⟨by omega, by omega⟩ (Wk.ren [(3, 37000)] rfl rfl rfl rfl (ai rfl (ai rfl (ai rfl (ai rfl (ai (vI (by first | rfl | omega | (simp; done) | (simp; omega))) (ai rfl (ai rfl (ai rfl trivial)))))))) (ai (oR (by first | (exact congrArg (List.map _) (prM_start _ _ _)) | (exact push rfl (prM_yes (by omega) (by first | exact decide_eq_true (by assumption) | exact decide_eq_true (Eq.symm (by assumption))))) | (exact congrArg (List.map _) (prM_no (by first | exact decide_eq_false (by assumption) | exact decide_eq_false (fun e => (by assumption : ¬ _) e.symm)))))) (ai rfl trivial)))
   ·
    replace h3 := of_decide_eq_false h3
    refine T_skip (T_region hc (Ch.s (.d (.int .i64 ((m : Nat) : Int))) pm (Ch.s (.d (.int .i64 (((m : Nat) : Int) + 1))) (.pure (.int _ _ _ _ _ rfl rfl rfl intV_addA)) (Ch.s (.d (.int .i64 (((m : Nat) : Int) + 1))) pa (Ch.nil ?_)))))
    exact nx (m + 1) ⟨by omega, by omega⟩ (Wk.of rfl rfl (ai rfl (ai rfl (ai rfl (ai rfl (ai (vI (by first | rfl | omega | (simp; done) | (simp; omega))) (ai rfl (ai rfl (ai rfl trivial)))))))) (ai (oR (by first | (exact congrArg (List.map _) (prM_start _ _ _)) | (exact push rfl (prM_yes (by omega) (by first | exact decide_eq_true (by assumption) | exact decide_eq_true (Eq.symm (by assumption))))) | (exact congrArg (List.map _) (prM_no (by first | exact decide_eq_false (by assumption) | exact decide_eq_false (fun e => (by assumption : ¬ _) e.symm)))))) (ai rfl trivial)))
  ·
   replace h2 := of_decide_eq_false h2
   refine T_exit (T_region hc (Ch.s (.d (.int .i64 (((k : Nat) : Int) + 1))) (.pure (.int _ _ _ _ _ rfl rfl rfl intV_addA)) (Ch.s (.d (.int .i64 (((k : Nat) : Int) + 1))) pm (Ch.nil ?_))))
   exact nx (k + 1) (by omega) (Wk.of rfl rfl (ai rfl (ai rfl (ai rfl (ai rfl (ai (vI (by first | rfl | omega | (simp; done) | (simp; omega))) trivial))))) (ai (oR (by first | rfl | (rw [prM_end (by omega) (by omega)]; done))) (ai rfl trivial)))
 ·
  replace h1 := of_decide_eq_false h1
  refine T_exit (T_seq (T_region hc (Ch.s (.row 3) pm (Ch.s (.row 3) pa (Ch.nil (T_ret ?_))))))
  exact endR [(.row 3)] [] [3] (.cons (.tmp 2 rfl) .nil) (.cons (.any _) .nil) (Exp.of (congrArg (D.slice true 1) (by rw [show x.codes.length = k by omega])) (.row rfl)) rfl rfl

set_option maxHeartbeats 1000000 in
theorem sp_spec_l6Pairs (x : Sgr) (hb : x.bulk ≤ 1048576) (hx : SgOk x) : Sp Tryz.prog 221 [(.agg [(.slice false 2 (x.sigs.map Sgn.d)), (.slice false 1 (x.codes.map D.str)), (.slice false 4 (x.arcs.map Arc.d))])] [.any] (.slice true 1 ((prTo (eqP x) x.codes.length x.codes.length).map intsU)) := by
 refine Sp_intro (lend := true) Tryz.func221 rfl rfl rfl (fun _ => rfl) (fun c hc hX => ?_)
 obtain ⟨hp0, hp1, hp2⟩ := Sgr.parts hb
 have hn0 := bulkF_len hp0
 have hn1 := bulk_len hp1
 have hx1 := bulk_mem hp1
 have hn2 := bulkF_len hp2; have hx8 := hx.eight; have hxl := hx.len; have hxf := hx.few
 refine T_seq (T_region hc (Ch.s (.ptr 1000 0) (.box 1000 _ _ rfl (.aggD _)) (Ch.s (.c (.slice none 0 0)) pa (Ch.nil (T_seq (T_region hc (Ch.s (.c (.slice none 0 0)) pa ?_)))))))
 refine Ch.nil (T_seq (T_seq (T_region hc (Ch.s (.ptr 1000 1) (.pure (.fldPtr _ _ _ rfl fld35_1 rfl)) (Ch.s (.d (.slice false 1 (x.codes.map D.str))) (.pure (.loadPtr1 _ _ rfl ag23 rfl rfl rfl)) (Ch.s (.d (.int .i64 ((x.codes.length : Nat) : Int))) (.pure (.len _ _ 9 rfl Tryz.underlying23 (.sh _ _) (by simp))) (Ch.s (.d (.int .i64 0)) pm ?_)))))))
 refine Ch.nil (T_block ?_)
 refine T_loop (ι := Nat) (fun k => { n := 40, sl := [(1, (.ptr 1000 0)), (3, (.row 3)), (8, (.d (.int .i64 ((x.codes.length : Nat) : Int)))), (9, (.d (.int .i64 ((k : Nat) : Int))))], hp := [(3, (some (.row 1 ((prTo (eqP x) x.codes.length k).map intsU)))), (1000, (some (.box [(.d (.slice false 2 (x.sigs.map Sgn.d))), (.d (.slice false 1 (x.codes.map D.str))), (.d (.slice false 4 (x.arcs.map Arc.d)))])))], pin := [] }) (fun k => k ≤ x.codes.length) (fun k => x.codes.length - k) ⟨0, (by omega), (Wk.trans (Wk.nilrow 3 900003 1 rfl rfl rfl) (Wk.ren [(3, 900003)] rfl rfl rfl rfl (ai rfl (ai rfl (ai rfl (ai (vI (by first | rfl | omega | (simp; done) | (simp; omega))) trivial)))) (ai (oR (by first | rfl | (rw [prM_end (by omega) (by omega)]; done))) (ai rfl trivial))))⟩ (fun k hp0 => ?_)
 refine T_seq (T_region hc (Ch.s (.d (.bool (decide (((k : Nat) : Int) < ((x.codes.length : Nat) : Int))))) (.pure (.int _ _ _ _ _ rfl rfl rfl rfl)) (Ch.nil (T_seq ?_))))
 refine T_cond (b := (decide (((k : Nat) : Int) < ((x.codes.length : Nat) : Int)))) rfl (fun h1 => ?_) (fun h1 => ?_)
 ·
  replace h1 := of_decide_eq_true h1
  refine T_skip (T_seq (T_block (T_seq (T_region hc (Ch.s (.d (.int .i64 ((k : Nat) : Int))) pm (Ch.s (.d (.int .i64 ((k : Nat) : Int))) pa (Ch.nil ?_)))))))
  refine T_seq (T_region hc (Ch.s (.d (.int .i64 ((k : Nat) : Int))) pm (Ch.s (.d (.int .i64 (((k : Nat) : Int) + 1))) (.pure (.int _ _ _ _ _ rfl rfl rfl intV_addA)) (Ch.s (.d (.int .i64 (((k : Nat) : Int) + 1))) pa (Ch.nil (T_block ?_))))))
  refine T_loop (ι := Nat) (fun m => { n := 40, sl := [(1, (.ptr 1000 0)), (3, (.row 3)), (4, (.d (.int .i64 ((k : Nat) : Int)))), (5, (.d (.int .i64 ((m : Nat) : Int)))), (8, (.d (.int .i64 ((x.codes.length : Nat) : Int)))), (9, (.d (.int .i64 ((k : Nat) : Int))))], hp := [(3, (some (.row 1 ((prM (eqP x) x.codes.length k m).map intsU)))), (1000, (some (.box [(.d (.slice false 2 (x.sigs.map Sgn.d))), (.d (.slice false 1 (x.codes.map D.str))), (.d (.slice false 4 (x.arcs.map Arc.d)))])))], pin := [] }) (fun m => k < m ∧ m ≤ x.codes.length) (fun m => x.codes.length - m) ⟨k + 1, ⟨by omega, by omega⟩, (Wk.of rfl rfl (ai rfl (ai rfl (ai rfl (ai (vI (by first | rfl | omega | (simp; done) | (simp; omega))) (ai rfl (ai rfl trivial)))))) (ai (oR (by first | (exact congrArg (List.map _) (prM_start _ _ _)) | (exact push rfl (prM_yes (by omega) (by first | exact decide_eq_true (by assumption) | exact decide_eq_true (Eq.symm (by assumption))))) | (exact congrArg (List.map _) (prM_no (by first | exact decide_eq_false (by assumption) | exact decide_eq_false (fun e => (by assumption : ¬ _) e.symm)))))) (ai rfl trivial)))⟩ (fun m hp1 => ?_)
  have hq := prM_le (eqP x) (n := x.codes.length) (k := k) (m := m) (by omega) (by omega) (by omega)
  refine T_seq (T_seq (T_region hc (Ch.s (.d (.int .i64 ((m : Nat) : Int))) pm (Ch.s (.ptr 1000 1) (.pure (.fldPtr _ _ _ rfl fld35_1 rfl)) (Ch.s (.d (.slice false 1 (x.codes.map D.str))) (.pure (.loadPtr1 _ _ rfl ag23 rfl rfl rfl)) (Ch.s (.d (.int .i64 ((x.codes.length : Nat) : Int))) (.pure (.len _ _ 9 rfl Tryz.underlying23 (.sh _ _) (by simp))) (Ch.s (.d (.bool (decide (((m : Nat) : Int) < ((x.codes.length : Nat) : Int))))) (.pure (.int _ _ _ _ _ rfl rfl rfl rfl)) ?_)))))))
  refine Ch.nil ?_
  refine T_cond (b := (decide (((m : Nat) : Int) < ((x.codes.length : Nat) : Int)))) rfl (fun h2 => ?_) (fun h2 => ?_)
  ·
   replace h2 := of_decide_eq_true h2
   refine T_skip (T_seq (T_block (T_seq ?_)))
   refine T_regionD hc (by kernel_rfl) ?_
   refine ChD.s (.ptr 1000 1) [] (.pure (.fldPtr _ _ _ rfl fld35_1 rfl)) (ChD.s (.d (.slice false 1 (x.codes.map D.str))) [1000] (.pure (.loadPtr1 _ _ rfl ag23 rfl rfl rfl)) (ChD.s (.d (.int .i64 ((k : Nat) : Int))) [] pm (ChD.s (.d (.ref (.str (x.codes.getD k default)))) [] (.pure (.idx _ _ _ 9 (k) rfl Tryz.underlying23 sz9 rfl rfl rfl get_mapA)) (ChD.s (.d (.str (x.codes.getD k default))) [] (.pure (.loadRef1 _ _ rfl ag9 rfl rfl)) (ChD.s (.ptr 1000 1) [] (.pure (.fldPtr _ _ _ rfl fld35_1 rfl)) (ChD.s (.d (.slice false 1 (x.codes.map D.str))) [1000] (.pure (.loadPtr1 _ _ rfl ag23 rfl rfl rfl)) (ChD.s (.d (.int .i64 ((m : Nat) : Int))) [] pm ?_)))))))
   refine ChD.s (.d (.ref (.str (x.codes.getD m default)))) [] (.pure (.idx _ _ _ 9 (m) rfl Tryz.underlying23 sz9 rfl rfl rfl get_mapA)) (ChD.s (.d (.str (x.codes.getD m default))) [] (.pure (.loadRef1 _ _ rfl ag9 rfl rfl)) (ChD.s (.d (.bool (decide ((x.codes.getD k default) = (x.codes.getD m default))))) [] (.pure (.str _ _ _ _ _ rfl rfl rfl rfl)) ?_))
   refine ChD.nil (And.intro ?_ (by kernel_rfl))
   refine T_cond (b := (decide ((x.codes.getD k default) = (x.codes.getD m default)))) rfl (fun h3 => ?_) (fun h3 => ?_)
   ·
    replace h3 := of_decide_eq_true h3
    refine T_region hc (Ch.s (.row 3) pm (Ch.s (.d (.int .i64 ((k : Nat) : Int))) pm (Ch.s (.d (.int .i64 ((m : Nat) : Int))) pm (Ch.s (.row 35000) (.slice 35000 _ 3 _ rfl sty55 (xs := [.tmp 33, .tmp 34]) rfl rfl (.cons (.d _) (.cons (.d _) .nil)) rfl rfl (by decide)) (Ch.s (.row 36000) (.slice 36000 _ 55 _ rfl sty49 (xs := [.tmp 35]) rfl rfl (.cons (.row rfl) .nil) rfl rfl (by decide)) ?_)))))
    refine Ch.step (v := (.row 37000)) rfl (.append 37000 _ _ _ 55 rfl sty49 (by decide) (.rowK rfl) (.inr ⟨_, rfl, rfl⟩) (.rowK rfl) rfl (by first | omega | (simp only [List.length_append, List.length_map, List.length_cons, List.length_nil]; omega) | (simp; omega) | (simp; done))) rfl rfl ?_
    refine Ch.s (.row 37000) pa (Ch.nil (T_region hc (Ch.s (.d (.int .i64 ((m : Nat) : Int))) pm (Ch.s (.d (.int .i64 (((m : Nat) : Int) + 1))) (.pure (.int _ _ _ _ _ rfl rfl rfl intV_addA)) (Ch.s (.d (.int .i64 (((m : Nat) : Int) + 1))) pa (Ch.nil ?_))))))
    exact nx (m + 1) ⟨by omega, by omega⟩ (Wk.ren [(3, 37000)] rfl rfl rfl rfl (ai rfl (ai rfl (ai rfl (ai (vI (by first | rfl | omega | (simp; done) | (simp; omega))) (ai rfl (ai rfl trivial)))))) (ai (oR (by first | (exact congrArg (List.map _) (prM_start _ _ _)) | (exact push rfl (prM_yes (by omega) (by first | exact decide_eq_true (by assumption) | exact decide_eq_true (Eq.symm (by assumption))))) | (exact congrArg (List.map _) (prM_no (by first | exact decide_eq_false (by assumption) | exact decide_eq_false (fun e => (by assumption : ¬ _) e.symm)))))) (ai rfl trivial)))
   ·
    replace h3 := of_decide_eq_false h3
    refine T_skip (T_region hc (Ch.s (.d (.int .i64 ((m : Nat) : Int))) pm (Ch.s (.d (.int .i64 (((m : Nat) : Int) + 1))) (.pure (.int _ _ _ _ _ rfl rfl rfl intV_addA)) (Ch.s (.d (.int .i64 (((m : Nat) : Int) + 1))) pa (Ch.nil ?_)))))
    exact nx (m + 1) ⟨by omega, by omega⟩ (Wk.of rfl rfl (ai rfl (ai rfl (ai rfl (ai (vI (by first | rfl | omega | (simp; done) | (simp; omega))) (ai rfl (ai rfl trivial)))))) (ai (oR (by first | (exact congrArg (List.map _) (prM_start _ _ _)) | (exact push rfl (prM_yes (by omega) (by first | exact decide_eq_true (by assumption) | exact decide_eq_true (Eq.symm (by assumption))))) | (exact congrArg (List.map _) (prM_no (by first | exact decide_eq_false (by assumption) | exact decide_eq_false (fun e => (by assumption : ¬ _) e.symm)))))) (ai rfl trivial)))
  ·
   replace h2 := of_decide_eq_false h2
   refine T_exit (T_region hc (Ch.s (.d (.int .i64 (((k : Nat) : Int) + 1))) (.pure (.int _ _ _ _ _ rfl rfl rfl intV_addA)) (Ch.s (.d (.int .i64 (((k : Nat) : Int) + 1))) pm (Ch.nil ?_))))
   exact nx (k + 1) (by omega) (Wk.of rfl rfl (ai rfl (ai rfl (ai rfl (ai (vI (by first | rfl | omega | (simp; done) | (simp; omega))) trivial)))) (ai (oR (by first | rfl | (rw [prM_end (by omega) (by omega)]; done))) (ai rfl trivial)))
 ·
  replace h1 := of_decide_eq_false h1
  refine T_exit (T_seq (T_region hc (Ch.s (.row 3) pm (Ch.s (.row 3) pa (Ch.nil (T_ret ?_))))))
  exact endR [(.row 3)] [] [3] (.cons (.tmp 2 rfl) .nil) (.cons (.any _) .nil) (Exp.of (congrArg (D.slice true 1) (by rw [show x.codes.length = k by omega])) (.row rfl)) rfl rfl

theorem sp_conflicts_in (s : Int) (x : Sgr) (pr : List Int) (hs : 0 ≤ s ∧ s.toNat < x.sigs.length) (hx : SgOk x) (hpr : pr.length = 2 ∧ (0 ≤ pr.getD 0 default ∧ (pr.getD 0 default).toNat < x.codes.length) ∧ (0 ≤ pr.getD 1 default ∧ (pr.getD 1 default).toNat < x.codes.length)) : Sp Tryz.prog 303 [(.int .i64 s), (.ref (.slice false 1 ((masksL x).map (fun n : Nat => D.int .i64 (n : Int))))), (.ref (.slice false 1 (pr.map (fun n : Int => D.int .i64 n))))] [.any, .any, .any] (.bool (cfS x pr s)) := by
 refine Sp_intro (lend := true) Tryz.func303 rfl rfl rfl (fun _ => rfl) (fun c hc hX => ?_)
 have hx8 := hx.eight; have hml : (masksL x).length = x.codes.length := masksTo_len x _
 refine T_seq (T_region hc (Ch.s (.d (.bool false)) pa (Ch.nil (T_seq ?_))))
 refine T_regionD hc (by kernel_rfl) ?_
 refine ChD.s (.d (.slice false 1 ((masksL x).map (fun n : Nat => D.int .i64 (n : Int))))) [] (.pure (.loadRef1 _ _ rfl ag55 rfl rfl)) (ChD.s (.d (.slice false 1 (pr.map (fun n : Int => D.int .i64 n)))) [] (.pure (.loadRef1 _ _ rfl ag55 rfl rfl)) (ChD.s (.d (.ref (.int .i64 (pr.getD 0 default)))) [] (.pure (.idx _ _ _ 3 (0) rfl Tryz.underlying55 sz3 rfl rfl rfl get_mapA)) (ChD.s (.d (.int .i64 (pr.getD 0 default))) [] (.pure (.loadRef1 _ _ rfl ag3 rfl rfl)) (ChD.s (.d (.ref (.int .i64 ((((masksL x).getD (((pr.getD 0 default)).toNat) default) : Nat) : Int)))) [] (.pure (.idx _ _ _ 3 (((pr.getD 0 default)).toNat) rfl Tryz.underlying55 sz3 rfl rfl (by omega) get_mapA)) (ChD.s (.d (.int .i64 ((((masksL x).getD (((pr.getD 0 default)).toNat) default) : Nat) : Int))) [] (.pure (.loadRef1 _ _ rfl ag3 rfl rfl)) (ChD.s (.d (.int .i64 s)) [] pm (ChD.s (.d (.int .i64 (2 * s))) [] (.pure (.int _ _ _ _ _ rfl rfl rfl (intV_mul (by first | omega | (simp only [List.length_map, List.length_append, List.length_take, List.length_drop, List.length_cons, List.length_nil]; omega) | (simp; omega) | (simp; done)) (by first | omega | (simp only [List.length_map, List.length_append, List.length_take, List.length_drop, List.length_cons, List.length_nil]; omega) | (simp; omega) | (simp; done))))) ?_)))))))
 refine ChD.s (.d (.int .i64 ((((masksL x).getD (((pr.getD 0 default)).toNat) default) >>> (((2 * s)).toNat) : Nat) : Int))) [] (.pure (.shift _ _ _ _ _ rfl rfl rfl (i64_shr (m := ((masksL x).getD (((pr.getD 0 default)).toNat) default)) (n := ((2 * s)).toNat) (by omega) (by first | omega | (simp only [List.length_map, List.length_append, List.length_take, List.length_drop, List.length_cons, List.length_nil]; omega) | (simp; omega) | (simp; done))))) (ChD.s (.d (.int .i64 ((two ((masksL x).getD (((pr.getD 0 default)).toNat) default) (((2 * s)).toNat) : Nat) : Int))) [] (.pure (.int _ _ _ _ _ rfl rfl rfl (i64_and3 (((masksL x).getD (((pr.getD 0 default)).toNat) default) >>> (((2 * s)).toNat))))) (ChD.s (.d (.bool (decide (((two ((masksL x).getD (((pr.getD 0 default)).toNat) default) (((2 * s)).toNat) : Nat) : Int) = 0)))) [] (.pure (.int _ _ _ _ _ rfl rfl rfl rfl)) (ChD.s (.d (.slice false 1 ((masksL x).map (fun n : Nat => D.int .i64 (n : Int))))) [] (.pure (.loadRef1 _ _ rfl ag55 rfl rfl)) (ChD.s (.d (.slice false 1 (pr.map (fun n : Int => D.int .i64 n)))) [] (.pure (.loadRef1 _ _ rfl ag55 rfl rfl)) (ChD.s (.d (.ref (.int .i64 (pr.getD 1 default)))) [] (.pure (.idx _ _ _ 3 (1) rfl Tryz.underlying55 sz3 rfl rfl rfl get_mapA)) (ChD.s (.d (.int .i64 (pr.getD 1 default))) [] (.pure (.loadRef1 _ _ rfl ag3 rfl rfl)) (ChD.s (.d (.ref (.int .i64 ((((masksL x).getD (((pr.getD 1 default)).toNat) default) : Nat) : Int)))) [] (.pure (.idx _ _ _ 3 (((pr.getD 1 default)).toNat) rfl Tryz.underlying55 sz3 rfl rfl (by omega) get_mapA)) ?_)))))))
 refine ChD.s (.d (.int .i64 ((((masksL x).getD (((pr.getD 1 default)).toNat) default) : Nat) : Int))) [] (.pure (.loadRef1 _ _ rfl ag3 rfl rfl)) (ChD.s (.d (.int .i64 s)) [] pm (ChD.s (.d (.int .i64 (2 * s))) [] (.pure (.int _ _ _ _ _ rfl rfl rfl (intV_mul (by first | omega | (simp only [List.length_map, List.length_append, List.length_take, List.length_drop, List.length_cons, List.length_nil]; omega) | (simp; omega) | (simp; done)) (by first | omega | (simp only [List.length_map, List.length_append, List.length_take, List.length_drop, List.length_cons, List.length_nil]; omega) | (simp; omega) | (simp; done))))) (ChD.s (.d (.int .i64 ((((masksL x).getD (((pr.getD 1 default)).toNat) default) >>> (((2 * s)).toNat) : Nat) : Int))) [] (.pure (.shift _ _ _ _ _ rfl rfl rfl (i64_shr (m := ((masksL x).getD (((pr.getD 1 default)).toNat) default)) (n := ((2 * s)).toNat) (by omega) (by first | omega | (simp only [List.length_map, List.length_append, List.length_take, List.length_drop, List.length_cons, List.length_nil]; omega) | (simp; omega) | (simp; done))))) (ChD.s (.d (.int .i64 ((two ((masksL x).getD (((pr.getD 1 default)).toNat) default) (((2 * s)).toNat) : Nat) : Int))) [] (.pure (.int _ _ _ _ _ rfl rfl rfl (i64_and3 (((masksL x).getD (((pr.getD 1 default)).toNat) default) >>> (((2 * s)).toNat))))) (ChD.s (.d (.bool (decide (((two ((masksL x).getD (((pr.getD 1 default)).toNat) default) (((2 * s)).toNat) : Nat) : Int) = 0)))) [] (.pure (.int _ _ _ _ _ rfl rfl rfl rfl)) (ChD.s (.d (.bool (!(decide ((decide (((two ((masksL x).getD (((pr.getD 0 default)).toNat) default) (((2 * s)).toNat) : Nat) : Int) = 0)) = (decide (((two ((masksL x).getD (((pr.getD 1 default)).toNat) default) (((2 * s)).toNat) : Nat) : Int) = 0))))))) [] (.pure (.neB _ _ _ _ rfl Tryz.underlying4 rfl rfl)) (ChD.s (.d (.bool (!(decide ((decide (((two ((masksL x).getD (((pr.getD 0 default)).toNat) default) (((2 * s)).toNat) : Nat) : Int) = 0)) = (decide (((two ((masksL x).getD (((pr.getD 1 default)).toNat) default) (((2 * s)).toNat) : Nat) : Int) = 0))))))) [] pa ?_)))))))
 refine ChD.nil (And.intro ?_ (by kernel_rfl))
 refine T_ret ?_
 exact endR [(.d (.bool (!(decide ((decide (((two ((masksL x).getD (((pr.getD 0 default)).toNat) default) (((2 * s)).toNat) : Nat) : Int) = 0)) = (decide (((two ((masksL x).getD (((pr.getD 1 default)).toNat) default) (((2 * s)).toNat) : Nat) : Int) = 0)))))))] [] [] (.cons (.tmp 4 rfl) .nil) (.cons (.any _) (.cons (.any _) (.cons (.any _) .nil))) (Exp.of (congrArg D.bool (by exact cfS_eq hx hpr.2.1 hpr.2.2 hs.1)) (.d _)) rfl rfl

theorem sp_conflicts_1 (x : Sgr) (pr : List Int) (hx : SgOk x) (hpr : pr.length = 2 ∧ (0 ≤ pr.getD 0 default ∧ (pr.getD 0 default).toNat < x.codes.length) ∧ (0 ≤ pr.getD 1 default ∧ (pr.getD 1 default).toNat < x.codes.length)) : Sp Tryz.prog 301 [(.slice false 1 (pr.map (fun n : Int => D.int .i64 n))), (.ref (.slice false 1 ((outsL x.sigs).map (fun n : Int => D.int .i64 n)))), (.ref (.slice false 1 ((masksL x).map (fun n : Nat => D.int .i64 (n : Int)))))] [.any, .any, .any] (.bool (!(outsL x.sigs).any (cfS x pr))) := by
 refine Sp_intro (lend := true) Tryz.func301 rfl rfl rfl (fun _ => rfl) (fun c hc hX => ?_)
 have hx8 := hx.eight; have hml : (masksL x).length = x.codes.length := masksTo_len x _; have hol := outs_len x.sigs
 refine T_seq (T_region hc (Ch.s (.ptr 3000 0) (.box 3000 _ _ rfl (.one _ rfl)) (Ch.s (.d (.bool false)) pa (Ch.nil (T_seq (T_region hc (Ch.s (.d (.slice false 1 ((outsL x.sigs).map (fun n : Int => D.int .i64 n)))) (.pure (.loadRef1 _ _ rfl ag55 rfl rfl)) ?_)))))))
 refine Ch.s (.fn 303 [(.d (.ref (.slice false 1 ((masksL x).map (fun n : Nat => D.int .i64 (n : Int)))))), (.ptr 3000 0)]) (.pure (.func _ _ rfl rfl)) (Ch.s (.d (.bool ((outsL x.sigs).any (cfS x pr)))) (.call 7000 302 _ _ _ en302 rfl (.inl rfl) (.cons (.d _) (.cons (.lend (.fn (.cons (.d _) (.cons (.ptr rfl (.one (.d _) rfl)) .nil)))) .nil)) rfl rfl (sp_ContainsFunc_int (outsL x.sigs) 303 [(.ref (.slice false 1 ((masksL x).map (fun n : Nat => D.int .i64 (n : Int))))), (.ref (.slice false 1 (pr.map (fun n : Int => D.int .i64 n))))] (cfS x pr) en303 (fun s hs => sp_conflicts_in s x pr (outs_in s hs) hx hpr) (by first | assumption | omega | (rw [List.length_take]; omega) | (have := bulkF_mem hb _ (getD_mem (d := default) (by omega)); assumption) | (unfold bulkS at *; omega) | (simp_all; done))) (.skip _ _ (.skip _ _ .nil)) rfl) (Ch.s (.d (.bool (!((outsL x.sigs).any (cfS x pr))))) (.pure (.not _ _ rfl rfl)) (Ch.s (.d (.bool (!((outsL x.sigs).any (cfS x pr))))) pa (Ch.nil (T_ret ?_)))))
 exact endR [(.d (.bool (!((outsL x.sigs).any (cfS x pr)))))] [] [] (.cons (.tmp 4 rfl) .nil) (.cons (.any _) (.cons (.any _) (.cons (.any _) .nil))) (Exp.of (congrArg D.bool (by rfl)) (.d _)) rfl rfl

theorem sp_impl_conflicts (x : Sgr) (hb : x.bulk ≤ 1048576) (hx : SgOk x) : Sp Tryz.prog 284 [(.agg [(.slice false 2 (x.sigs.map Sgn.d)), (.slice false 1 (x.codes.map D.str)), (.slice false 4 (x.arcs.map Arc.d))])] [.any] (.slice true 1 ((cfL x).map intsU)) := by
 refine Sp_intro (lend := true) Tryz.func284 rfl rfl rfl (fun _ => rfl) (fun c hc hX => ?_)
 obtain ⟨hp0, hp1, hp2⟩ := Sgr.parts hb
 have hn0 := bulkF_len hp0
 have hn1 := bulk_len hp1
 have hx1 := bulk_mem hp1
 have hn2 := bulkF_len hp2; have hx8 := hx.eight; have hxl := hx.len; have hxf := hx.few; have hpl := prTo_le (eqP x) (n := x.codes.length) (by omega) x.codes.length
 refine T_seq (T_region hc (Ch.s (.ptr 1000 0) (.box 1000 _ _ rfl (.aggD _)) (Ch.s (.c (.slice none 0 0)) pa (Ch.nil (T_seq ?_)))))
 refine T_regionD hc (by kernel_rfl) ?_
 refine ChD.s (.agg [(.d (.slice false 2 (x.sigs.map Sgn.d))), (.d (.slice false 1 (x.codes.map D.str))), (.d (.slice false 4 (x.arcs.map Arc.d)))]) [1000] (.pure (.loadPtrA _ _ rfl ag35 sz35 rfl rfl (Nat.le_of_ble_eq_true rfl) rfl)) (ChD.s (.row 6000) [] (.call 6000 296 _ _ _ en296 rfl (.inl rfl) (.cons (.lend (.agg (.cons (.d _) (.cons (.d _) (.cons (.d _) .nil))) rfl)) .nil) rfl (sol (solid_row (fun _ => rfl) _) rfl) (sp_impl_labelMasks x (by first | assumption | omega | (rw [List.length_take]; omega) | (have := bulkF_mem hb _ (getD_mem (d := default) (by omega)); assumption) | (unfold bulkS at *; omega) | (simp_all; done)) (by assumption)) (.skip _ _ .nil) rfl) (ChD.s (.agg [(.d (.slice false 2 (x.sigs.map Sgn.d))), (.d (.slice false 1 (x.codes.map D.str))), (.d (.slice false 4 (x.arcs.map Arc.d)))]) [1000] (.pure (.loadPtrA _ _ rfl ag35 sz35 rfl rfl (Nat.le_of_ble_eq_true rfl) rfl)) (ChD.s (.row 8000) [] (.call 8000 173 _ _ _ en173 rfl (.inl rfl) (.cons (.lend (.agg (.cons (.d _) (.cons (.d _) (.cons (.d _) .nil))) rfl)) .nil) rfl (sol (solid_row (fun _ => rfl) _) rfl) (sp_impl_outputs x (by first | assumption | (show Sgr.bulk (Sgr.mk _ [] []) ≤ 1048576; unfold Sgr.bulk bulkS bulkF; simp only [List.length_nil, List.map_nil, List.sum_nil]; unfold bulkF at *; omega))) (.skip _ _ .nil) rfl) (ChD.s (.ptr 3000 0) [] (.alloc 3000 _ rfl zer55) (ChD.s (.ptr 4000 0) [] (.alloc 4000 _ rfl zer55) (ChD.s .junk [3000, 6000] (.storePtr _ _ _ rfl rfl rfl (.one _ rfl) sz55 (Nat.le_of_ble_eq_true rfl)) (ChD.s .junk [4000, 8000] (.storePtr _ _ _ rfl rfl rfl (.one _ rfl) sz55 (Nat.le_of_ble_eq_true rfl)) ?_)))))))
 refine ChD.nil (And.intro ?_ (by kernel_rfl))
 refine T_seq (T_region hc (Ch.s (.agg [(.d (.slice false 2 (x.sigs.map Sgn.d))), (.d (.slice false 1 (x.codes.map D.str))), (.d (.slice false 4 (x.arcs.map Arc.d)))]) (.pure (.loadPtrA _ _ rfl ag35 sz35 rfl rfl (Nat.le_of_ble_eq_true rfl) rfl)) ?_))
 refine Ch.step (v := (.row 10000)) rfl (.call 10000 300 _ _ _ en300 rfl (.inl rfl) (.cons (.lend (.agg (.cons (.d _) (.cons (.d _) (.cons (.d _) .nil))) rfl)) .nil) rfl (sol (solid_row intsU_sol _) rfl) (sp_impl_equalCodes x (by first | assumption | omega | (rw [List.length_take]; omega) | (have := bulkF_mem hb _ (getD_mem (d := default) (by omega)); assumption) | (unfold bulkS at *; omega) | (simp_all; done)) (by assumption)) (.skip _ _ .nil) rfl) rfl rfl ?_
 refine Ch.s (.fn 301 [(.ptr 4000 0), (.ptr 3000 0)]) (.pure (.func _ _ rfl rfl)) ?_
 refine Ch.step (v := (.row 12000)) rfl (.call 12000 299 _ _ _ en299 rfl (.inl rfl) (.cons (.row rfl) (.cons (.lend (.fn (.cons (.ptr rfl (.one (.row rfl (frozs_map (fun _ => rfl) _)) rfl)) (.cons (.ptr rfl (.one (.row rfl (frozs_map (fun _ => rfl) _)) rfl)) .nil)))) .nil)) rfl (sol (solid_row intsU_sol _) rfl) (sp_DeleteFunc_ints (prTo (eqP x) x.codes.length x.codes.length) 301 [(.ref (.slice false 1 ((outsL x.sigs).map (fun n : Int => D.int .i64 n)))), (.ref (.slice false 1 ((masksL x).map (fun n : Nat => D.int .i64 (n : Int)))))] (fun pr => !(outsL x.sigs).any (cfS x pr)) en301 (fun pr hpr => sp_conflicts_1 x pr hx (prTo_in (Nat.le_refl _) pr hpr)) (by first | assumption | omega | (rw [List.length_take]; omega) | (have := bulkF_mem hb _ (getD_mem (d := default) (by omega)); assumption) | (unfold bulkS at *; omega) | (simp_all; done))) (.skip _ _ (.skip _ _ .nil)) rfl) rfl rfl ?_
 refine Ch.s (.row 12000) pa (Ch.nil (T_ret ?_))
 exact endR [(.row 12000)] [] [12000] (.cons (.tmp 2 rfl) .nil) (.cons (.any _) .nil) (Exp.of (congrArg (D.slice true 1) (by first | (rw [cf_filter]; done) | (exact congrArg (List.map _) (cf_filter x)))) (.row rfl)) rfl rfl

theorem mg_at {τ : Type} [Inhabited τ] {f : τ → D} {P : List D} {xs : List τ} {m : Nat} (h : P.length = m) (hm : m < xs.length) : (P ++ (xs.drop m).map f)[m]? = some (f (xs.getD m default)) := by
 rw [List.getElem?_append_right (by omega), h, Nat.sub_self, List.getElem?_map, List.getElem?_drop, Nat.add_zero]
 simp [hm]

theorem mg_set {τ : Type} {f : τ → D} {P : List D} {xs : List τ} {m : Nat} {y : D} (h : P.length = m) (hm : m < xs.length) : (P ++ (xs.drop m).map f).set m y = (P ++ [y]) ++ (xs.drop (m + 1)).map f := by
 rw [List.set_append_right (h := by omega), h, Nat.sub_self, List.drop_eq_getElem_cons hm, List.map_cons, List.set_cons_zero, List.append_assoc]
 rfl

theorem mg_len {τ : Type} {f : τ → D} {P : List D} {xs : List τ} {m : Nat} (h : P.length = m) (hm : m ≤ xs.length) : (P ++ (xs.drop m).map f).length = xs.length := by
 rw [List.length_append, List.length_map, List.length_drop]; omega

theorem en193 : Enters Tryz.prog 193 := ⟨_, Tryz.func193, by kernel_rfl, rfl⟩

theorem en194 : Enters Tryz.prog 194 := ⟨_, Tryz.func194, by kernel_rfl, rfl⟩

theorem zr107 : (Tryz.prog.info? 107).bind (·.zero) = some (.agg #[.int .i64 0, .bool false]) := by kernel_rfl

theorem zer107 : ∃ i z, Tryz.prog.info? 107 = some i ∧ i.zero = some z ∧ z.cells = List.toArray [.int .i64 0, .bool false] := zero_mk zr107 rfl

theorem en161 : Enters Tryz.prog 161 := ⟨_, Tryz.func161, by kernel_rfl, rfl⟩

theorem en123 : Enters Tryz.prog 123 := ⟨_, Tryz.func123, by kernel_rfl, rfl⟩

structure Lin {α : Type} (le : α → α → Bool) : Prop where
 trans : ∀ a b c : α, le a b = true → le b c = true → le a c = true
 total : ∀ a b : α, (le a b || le b a) = true
 anti : ∀ a b : α, le a b = true → le b a = true → a = b

def Rise {α : Type} (le : α → α → Bool) (l : List α) : Prop := l.Pairwise fun a b => le a b = true ∧ a ≠ b

theorem upTo_rise {α : Type} [Inhabited α] [DecidableEq α] {le : α → α → Bool} (h : Lin le) {zs : List α} (hz : zs.Pairwise fun a b => le a b = true) : ∀ m, m ≤ zs.length →
    Rise le (Lib.compactUpTo zs.toArray m) ∧ (∀ a, a ∈ Lib.compactUpTo zs.toArray m ↔ a ∈ zs.take m) ∧ ∀ a ∈ Lib.compactUpTo zs.toArray m, 0 < m ∧ le a (zs.getD (m - 1) default) = true
  | 0, _ => ⟨List.Pairwise.nil, fun a => by simp [Lib.compactUpTo], fun a ha => by simp [Lib.compactUpTo] at ha⟩
  | m + 1, hm => by
    obtain ⟨h1, h2, h3⟩ := upTo_rise h hz m (by omega)
    have hg : ∀ j, j < zs.length → zs.toArray[j]! = zs.getD j default := by intro j hj; simp [hj]
    have hml : zs.getD m default = zs[m] := by simp [show m < zs.length by omega]
    have hrefl : ∀ a : α, le a a = true := fun a => by have := h.total a a; rwa [Bool.or_self] at this
    have hstep : 0 < m → le (zs.getD (m - 1) default) (zs.getD m default) = true := by
      intro h0
      have := List.pairwise_iff_getElem.1 hz (m - 1) m (by omega) (by omega) (by omega)
      rw [hml, show zs.getD (m - 1) default = zs[m - 1] by simp [show m - 1 < zs.length by omega]]; exact this
    rw [Lib.compactUpTo_succ, List.take_succ_eq_append_getElem (by omega), ← hml]
    cases hk : Lib.keeps zs.toArray m with
    | false =>
      have h4 : ¬ (m = 0 ∨ zs.toArray[m]! ≠ zs.toArray[m - 1]!) := by
        unfold Lib.keeps at hk
        exact of_decide_eq_false hk
      have h0 : 0 < m := Nat.pos_of_ne_zero fun e => h4 (.inl e)
      have h5 : zs.getD m default = zs.getD (m - 1) default := by
        rw [← hg m (by omega), ← hg (m - 1) (by omega)]
        exact Classical.byContradiction fun e => h4 (.inr e)
      rw [if_neg (by decide), List.append_nil]
      refine ⟨h1, fun a => ?_, fun a ha => ⟨by omega, ?_⟩⟩
      · rw [h2, List.mem_append, List.mem_singleton]
        refine ⟨.inl, fun hh => hh.elim id fun e => ?_⟩
        rw [e, h5, show zs.getD (m - 1) default = zs[m - 1] by simp [show m - 1 < zs.length by omega]]
        exact List.mem_take_iff_getElem.2 ⟨m - 1, by omega, rfl⟩
      · show le a (zs.getD m default) = true
        rw [h5]; exact (h3 a ha).2
    | true =>
      have h4 : m = 0 ∨ zs.toArray[m]! ≠ zs.toArray[m - 1]! := by
        unfold Lib.keeps at hk
        exact of_decide_eq_true hk
      rw [if_pos rfl, hg m (by omega)]
      refine ⟨?_, fun a => ?_, fun a ha => ⟨by omega, ?_⟩⟩
      · unfold Rise at h1 ⊢
        rw [List.pairwise_append]
        refine ⟨h1, List.pairwise_singleton _ _, fun a ha b hb => ?_⟩
        rw [List.mem_singleton] at hb
        subst hb
        obtain ⟨h0, h5⟩ := h3 a ha
        refine ⟨h.trans _ _ _ h5 (hstep h0), fun e => ?_⟩
        rcases h4 with h4 | h4
        · omega
        · rw [hg m (by omega), hg (m - 1) (by omega)] at h4
          subst e
          exact h4 (h.anti _ _ h5 (hstep h0))
      · rw [List.mem_append, List.mem_append, h2]
      · show le a (zs.getD m default) = true
        rcases List.mem_append.1 ha with ha | ha
        · exact h.trans _ _ _ (h3 a ha).2 (hstep (h3 a ha).1)
        · rw [List.mem_singleton] at ha; subst ha; exact hrefl _

def tid {α : Type} [Inhabited α] [DecidableEq α] (le : α → α → Bool) (l : List α) : List α := Lib.compact (l.mergeSort le)

theorem tid_rise {α : Type} [Inhabited α] [DecidableEq α] {le : α → α → Bool} (h : Lin le) (l : List α) : Rise le (tid le l) :=
 (upTo_rise h (List.pairwise_mergeSort (fun a b c h1 h2 => h.trans a b c h1 h2) (fun a b => h.total a b) l) _ (Nat.le_refl _)).1

theorem tid_mem {α : Type} [Inhabited α] [DecidableEq α] {le : α → α → Bool} (h : Lin le) {l : List α} {a : α} : a ∈ tid le l ↔ a ∈ l := by
 have := (upTo_rise h (List.pairwise_mergeSort (fun a b c h1 h2 => h.trans a b c h1 h2) (fun a b => h.total a b) l) _ (Nat.le_refl _)).2.1 a
 rw [List.take_length, List.mem_mergeSort] at this
 exact this

theorem upTo_len {α : Type} [Inhabited α] [DecidableEq α] (d : Array α) (m : Nat) : (Lib.compactUpTo d m).length ≤ m := by
 unfold Lib.compactUpTo
 rw [List.length_map]
 have := List.length_filter_le (Lib.keeps d) (List.range m)
 rwa [List.length_range] at this

theorem compact_len {α : Type} [Inhabited α] [DecidableEq α] (l : List α) : (Lib.compact l).length ≤ l.length := upTo_len _ _

theorem tid_len {α : Type} [Inhabited α] [DecidableEq α] (le : α → α → Bool) (l : List α) : (tid le l).length ≤ l.length := by
 have := compact_len (l.mergeSort le)
 rwa [List.length_mergeSort] at this

def leI (x y : Int) : Bool := decide (x ≤ y)

theorem linI : Lin leI := by
  refine ⟨fun a b c h1 h2 => ?_, fun a b => ?_, fun a b h1 h2 => ?_⟩
  · unfold leI at *; rw [decide_eq_true_iff] at *; omega
  · unfold leI; rw [Bool.or_eq_true, decide_eq_true_iff, decide_eq_true_iff]; omega
  · unfold leI at *; rw [decide_eq_true_iff] at *; omega

def tidI (l : List Int) : List Int := tid leI l

theorem rise_int {l : List Int} : Rise leI l ↔ Rising l := by
  unfold Rise Rising
  constructor
  · intro h
    exact h.imp fun {a b} hh => by
      have h1 := of_decide_eq_true hh.1
      have h2 := hh.2
      omega
  · intro h
    exact h.imp fun {a b} hh => ⟨decide_eq_true (by omega), by omega⟩

theorem tidI_set {n : Nat} {l : List Int} (h : ∀ a ∈ l, 0 ≤ a ∧ a.toNat < n) : tidI l = setL n fun j => hasI l (j : Int) := by
  refine rising_ext (rise_int.1 (tid_rise linI l)) (setL_rising n _) fun a => ?_
  rw [tidI, tid_mem linI, setL_mem, hasI, List.any_eq_true]
  constructor
  · intro ha
    have := h a ha
    exact ⟨this, a, ha, decide_eq_true (by omega)⟩
  · rintro ⟨h1, b, hb, e⟩
    have := of_decide_eq_true e
    rw [show a = b by omega]; exact hb

theorem sp_Sort_int (xs : List (Int)) (hn : xs.length ≤ 1048576) : Sp Tryz.prog 193 [.slice true 1 (xs.map (fun n : Int => D.int .i64 n))] [.slice true 1 ((xs.mergeSort leI).map (fun n : Int => D.int .i64 n))] (.tup []) :=
 sp_turnRow encIntD (srt := fun l => l.mergeSort leI) (fun l => List.length_mergeSort l) List.mergeSort_nil Tryz.slices_Sort_int_none Tryz.slices_Sort_int xs hn

theorem sp_Compact_int (xs : List (Int)) (hn : xs.length ≤ 1048576) : Sp Tryz.prog 194 [.slice true 1 (xs.map (fun n : Int => D.int .i64 n))] [.any] (.slice true 1 ((Lib.compact xs).map (fun n : Int => D.int .i64 n))) := by
 have h := sp_cutRow (P := Tryz.prog) (fn := 194) encIntD (more := []) (mvs := []) (fun S w vs F hd => by rw [DRs] at hd; exact hd) (fun S w => by rw [List.map_nil, DRs]; exact ⟨rfl, rfl⟩) xs (Lib.compact xs ++ List.replicate (xs.length - (Lib.compact xs).length) 0) (Lib.compact xs).length
  (by have := compact_len xs; rw [List.length_append, List.length_replicate]; omega) (by rw [List.length_append]; omega) (fun _ p cap w => Tryz.slices_Compact_int_empty p cap w) (fun blk cap w hH hc hm => Tryz.slices_Compact_int blk 0 cap xs w hH (by omega) hc)
 rw [List.take_left] at h
 exact h

theorem sp_impl_tidy (xs : List Int) (hn : xs.length ≤ 1048576) : Sp Tryz.prog 123 [(.slice true 1 (xs.map (fun n : Int => D.int .i64 n)))] [.any] (.slice true 1 ((tidI xs).map (fun n : Int => D.int .i64 n))) := by
 refine Sp_intro (lend := false) Tryz.func123 rfl rfl rfl (fun h => nomatch h) (fun c hc hX => ?_)
 refine T_seq (T_region hc (Ch.s (.c (.slice none 0 0)) pa (Ch.nil (T_seq (T_region hc (Ch.s (.row 1) pm ?_))))))
 refine Ch.step (v := (.tup [])) rfl (.call 4000 193 _ _ _ en193 rfl (.inl rfl) (.cons (.row rfl) .nil) rfl (sol rfl (solids_c (solid_row (fun _ => rfl) _) rfl)) (sp_Sort_int xs (by first | assumption | omega | (rw [List.length_take]; omega) | (have := bulkF_mem hb _ (getD_mem (d := default) (by omega)); assumption) | (unfold bulkS at *; omega) | (simp_all; done))) (.row _ _ _ .nil) rfl) rfl rfl ?_
 refine Ch.nil (T_seq (T_region hc (Ch.s (.row 1) pm ?_)))
 refine Ch.step (v := (.row 6000)) rfl (.call 6000 194 _ _ _ en194 rfl (.inl rfl) (.cons (.row rfl) .nil) rfl (sol (solid_row (fun _ => rfl) _) rfl) (sp_Compact_int (xs.mergeSort leI) (by first | assumption | omega | (rw [List.length_mergeSort]; assumption) | (rw [List.length_mergeSort]; omega))) (.skip _ _ .nil) rfl) rfl rfl ?_
 refine Ch.s (.row 6000) pa (Ch.nil (T_ret ?_))
 exact endR [(.row 6000)] [] [6000] (.cons (.tmp 2 rfl) .nil) (.cons (.any _) .nil) (Exp.of (congrArg (D.slice true 1) (by rfl)) (.row rfl)) rfl rfl

theorem rising_len {n : Nat} {s : List Int} (h : Rising s) (hin : ∀ a ∈ s, 0 ≤ a ∧ a.toNat < n) : s = setL n (fun j => hasI s (j : Int)) ∧ s.length ≤ n := by
  have e : s = setL n (fun j => hasI s (j : Int)) := rising_ext h (setL_rising n _) fun a => by
    rw [setL_mem, hasI, List.any_eq_true]
    constructor
    · intro ha
      have := hin a ha
      exact ⟨this, a, ha, decide_eq_true (by omega)⟩
    · rintro ⟨h1, b, hb, e⟩
      have := of_decide_eq_true e
      rw [show a = b by omega]; exact hb
  exact ⟨e, by rw [e]; exact setL_le _ _⟩

theorem hasI_mem {l : List Int} {a : Int} : hasI l a = true ↔ a ∈ l := by
  rw [hasI, List.any_eq_true]
  constructor
  · rintro ⟨b, hb, e⟩
    have := of_decide_eq_true e
    subst this; exact hb
  · intro h
    exact ⟨a, h, decide_eq_true rfl⟩

structure Wl (n : Nat) (E : Int → Int → Prop) (S : Int → Prop) (out : List Int) : Prop where
 inn : ∀ a ∈ out, 0 ≤ a ∧ a.toNat < n
 nod : out.Nodup
 snd : ∀ a ∈ out, Rch E S a
 base : ∀ a, S a → a ∈ out

theorem nodup_len {n : Nat} {l : List Int} (h : l.Nodup) (hin : ∀ a ∈ l, 0 ≤ a ∧ a.toNat < n) : l.length ≤ n := by
 have h1 : (l.mergeSort leI).Pairwise (fun a b => leI a b = true) := List.pairwise_mergeSort (fun a b c h1 h2 => linI.trans a b c h1 h2) (fun a b => linI.total a b) l
 have h2 : (l.mergeSort leI).Nodup := (List.mergeSort_perm l leI).nodup_iff.2 h
 have h3 : Rising (l.mergeSort leI) := by
  rw [← rise_int]
  unfold Rise
  exact List.Pairwise.and h1 h2
 have := (rising_len (n := n) h3 (fun a ha => hin a (List.mem_mergeSort.1 ha))).2
 rwa [List.length_mergeSort] at this

theorem Wl.len {n : Nat} {E : Int → Int → Prop} {S : Int → Prop} {out : List Int} (h : Wl n E S out) : out.length ≤ n := nodup_len h.nod h.inn

theorem Wl.add {n : Nat} {E : Int → Int → Prop} {S : Int → Prop} {out : List Int} (h : Wl n E S out) {a b : Int} (ha : a ∈ out) (he : E a b) (hb : ¬ b ∈ out) (hn : 0 ≤ b ∧ b.toNat < n) : Wl n E S (out ++ [b]) := by
  refine ⟨fun c hc => ?_, ?_, fun c hc => ?_, fun c hc => List.mem_append_left _ (h.base c hc)⟩
  · rcases List.mem_append.1 hc with hc | hc
    · exact h.inn c hc
    · rw [List.mem_singleton] at hc; subst hc; exact hn
  · rw [List.nodup_append]
    refine ⟨h.nod, by simp, fun c hc d hd => ?_⟩
    rw [List.mem_singleton] at hd
    subst hd
    exact fun e => hb (e ▸ hc)
  · rcases List.mem_append.1 hc with hc | hc
    · exact h.snd c hc
    · rw [List.mem_singleton] at hc; subst hc; exact .step (h.snd a ha) he

theorem Wl.done {n : Nat} {E : Int → Int → Prop} {S : Int → Prop} {out : List Int} (h : Wl n E S out) (hd : ∀ a ∈ out, ∀ b, E a b → b ∈ out) (a : Int) : a ∈ out ↔ Rch E S a :=
 ⟨h.snd a, fun hr => Rch.ind (fun a => a ∈ out) h.base (fun a b ha he => hd a ha b he) hr⟩

def edK (f : Arc → Int) (x : Sgr) (l : Lab) (k : Nat) : List Int := ((x.arcs.take k).filter (isEd l.sig l.up)).map f

theorem edK_yes {f : Arc → Int} {x : Sgr} {l : Lab} {k : Nat} (hk : k < x.arcs.length) (h : isEd l.sig l.up (x.arcs.getD k default) = true) : edK f x l k ++ [f (x.arcs.getD k default)] = edK f x l (k + 1) := by
 have hg : x.arcs.getD k default = x.arcs[k] := by simp [hk]
 rw [hg] at h ⊢
 unfold edK
 rw [List.take_succ_eq_append_getElem hk, List.filter_append, List.map_append]; simp [h]

theorem edK_no {f : Arc → Int} {x : Sgr} {l : Lab} {k : Nat} (hk : k < x.arcs.length) (h : isEd l.sig l.up (x.arcs.getD k default) = false) : edK f x l k = edK f x l (k + 1) := by
 have hg : x.arcs.getD k default = x.arcs[k] := by simp [hk]
 rw [hg] at h
 unfold edK
 rw [List.take_succ_eq_append_getElem hk, List.filter_append, List.map_append]; simp [h]

theorem edK_le (f : Arc → Int) (x : Sgr) (l : Lab) (k : Nat) : (edK f x l k).length ≤ k := by
 unfold edK
 rw [List.length_map]
 have h1 := List.length_filter_le (isEd l.sig l.up) (x.arcs.take k)
 rw [List.length_take] at h1
 omega

theorem lab_is {a : Arc} {l : Lab} : decide (Lab.mk a.sig a.up = l) = isEd l.sig l.up a := by
 unfold isEd
 cases l
 simp

theorem lab_is2 {a : Arc} {l : Lab} : decide (l = Lab.mk a.sig a.up) = isEd l.sig l.up a := by
 rw [← lab_is]
 exact decide_eq_decide.2 eq_comm

theorem ed_src {x : Sgr} (hen : ends x.codes.length x.arcs) (l : Lab) : tidI (edK Arc.src x l x.arcs.length) = excS x l.sig l.up := by
  rw [tidI_set (n := x.codes.length)]
  · unfold excS excTo
    refine setL_ext fun j hj => ?_
    unfold edK hasI
    rw [List.take_length, List.any_map, List.any_filter]
    congr 1
    funext a
    unfold isLab
    simp [Bool.and_comm]
  · intro a ha
    obtain ⟨b, hb, rfl⟩ := List.mem_map.1 ha
    exact (hen b (List.mem_of_mem_take (List.mem_filter.1 hb).1)).1

def nxTo (x : Sgr) : Nat → List (List Int)
 | 0 => List.replicate x.codes.length []
 | k + 1 => (nxTo x k).set (x.arcs.getD k default).src.toNat ((nxTo x k).getD (x.arcs.getD k default).src.toNat default ++ [(k : Int)])

theorem nxTo_len (x : Sgr) : ∀ k, (nxTo x k).length = x.codes.length
 | 0 => by simp [nxTo]
 | k + 1 => by rw [nxTo, List.length_set, nxTo_len x k]

theorem nx_mem {x : Sgr} (hen : ends x.codes.length x.arcs) {j : Nat} {i : Int} : ∀ k, k ≤ x.arcs.length → (i ∈ (nxTo x k).getD j default ↔ (0 ≤ i ∧ i.toNat < k) ∧ (x.arcs.getD i.toNat default).src.toNat = j)
  | 0, _ => by
    constructor
    · intro h
      exfalso
      unfold nxTo at h
      by_cases hj : j < x.codes.length
      · simp [hj] at h
      · simp [hj] at h
        cases h
    · rintro ⟨⟨_, h⟩, _⟩
      omega
  | k + 1, hk => by
    have he := hen _ (getD_mem (l := x.arcs) (j := k) (d := default) (by omega))
    rw [nxTo, getD_set, nxTo_len]
    split
    · rename_i h
      rw [List.mem_append, List.mem_singleton, h.1, nx_mem hen k (by omega)]
      constructor
      · rintro (⟨⟨h1, h2⟩, h3⟩ | h1)
        · exact ⟨⟨h1, by omega⟩, h3⟩
        · subst h1
          exact ⟨⟨by omega, by omega⟩, h.1⟩
      · rintro ⟨⟨h1, h2⟩, h3⟩
        by_cases e : i = (k : Int)
        · exact .inr e
        · exact .inl ⟨⟨h1, by omega⟩, h3⟩
    · rename_i h
      rw [nx_mem hen k (by omega)]
      constructor
      · rintro ⟨⟨h1, h2⟩, h3⟩
        exact ⟨⟨h1, by omega⟩, h3⟩
      · rintro ⟨⟨h1, h2⟩, h3⟩
        refine ⟨⟨h1, ?_⟩, h3⟩
        apply Classical.byContradiction
        intro hc
        have e : i.toNat = k := by omega
        rw [e] at h3
        exact h ⟨h3, he.1.2⟩

theorem nx_le (x : Sgr) : ∀ k, k ≤ x.arcs.length → ∀ j, ((nxTo x k).getD j default).length ≤ k
  | 0, _, j => by
    unfold nxTo
    by_cases hj : j < x.codes.length
    · simp [hj]
    · simp [hj]; rfl
  | k + 1, hk, j => by
    have h1 := nx_le x k (by omega)
    rw [nxTo, getD_set]
    split
    · rename_i h
      have := h1 (x.arcs.getD k default).src.toNat
      rw [List.length_append, List.length_singleton]; omega
    · have := h1 j; omega

theorem sp_impl_labelOfArc (a : Arc) : Sp Tryz.prog 161 [(.agg [(.int .i64 a.src), (.int .i64 a.sig), (.bool (a.up)), (.int .i64 a.dst)])] [.any] (.agg [(.int .i64 ((Lab.mk a.sig a.up).sig)), (.bool ((Lab.mk a.sig a.up).up))]) := by
 refine Sp_intro (lend := true) Tryz.func161 rfl rfl rfl (fun _ => rfl) (fun c hc hX => ?_)
 refine T_seq (T_region hc (Ch.s (.ptr 1000 0) (.box 1000 _ _ rfl (.aggD _)) (Ch.s (.ptr 2000 0) (.alloc 2000 _ rfl zer107) (Ch.nil (T_seq (T_region hc (Ch.s (.ptr 1000 1) (.pure (.fldPtr _ _ _ rfl fld125_1 rfl)) ?_)))))))
 refine Ch.s (.d (.int .i64 a.sig)) (.pure (.loadPtr1 _ _ rfl ag3 rfl rfl rfl)) (Ch.s (.ptr 1000 2) (.pure (.fldPtr _ _ _ rfl fld125_2 rfl)) (Ch.s (.d (.bool (a.up))) (.pure (.loadPtr1 _ _ rfl ag4 rfl rfl rfl)) (Ch.s (.agg [(.d (.int .i64 a.sig)), (.d (.bool (a.up)))]) (.build _ _ rfl stru107 (.cons (.one _ rfl) (.cons (.one _ rfl) .nil)) rfl) (Ch.s .junk (.storePtr _ _ _ rfl rfl rfl (.agg _ rfl) sz107 (Nat.le_of_ble_eq_true rfl)) (Ch.nil (T_ret ?_))))))
 exact endR [(.agg [(.d (.int .i64 a.sig)), (.d (.bool (a.up)))])] [] [] (.cons (.cellA _ _ rfl rfl ag107 sz107) .nil) (.cons (.any _) .nil) (.agg (.cons (Exp.of (congrArg (D.int .i64) (by rfl)) (.d _)) (.cons (Exp.of (congrArg D.bool (by rfl)) (.d _)) .nil)) rfl) rfl rfl

theorem sp_impl_excited (x : Sgr) (l : Lab) (hb : x.bulk ≤ 1048576) (hx : SgOk x) : Sp Tryz.prog 156 [(.agg [(.slice false 2 (x.sigs.map Sgn.d)), (.slice false 1 (x.codes.map D.str)), (.slice false 4 (x.arcs.map Arc.d))]), (.agg [(.int .i64 l.sig), (.bool (l.up))])] [.any, .any] (.slice true 1 ((excS x l.sig l.up).map (fun n : Int => D.int .i64 n))) := by
 refine Sp_intro (lend := true) Tryz.func156 rfl rfl rfl (fun _ => rfl) (fun c hc hX => ?_)
 obtain ⟨hp0, hp1, hp2⟩ := Sgr.parts hb
 have hn0 := bulkF_len hp0
 have hn1 := bulk_len hp1
 have hx1 := bulk_mem hp1
 have hn2 := bulkF_len hp2; have hxl := hx.len; have hxf := hx.few; have hen := hx.ends
 refine T_seq (T_region hc (Ch.s (.ptr 2000 0) (.box 2000 _ _ rfl (.aggD _)) (Ch.s (.ptr 3000 0) (.box 3000 _ _ rfl (.aggD _)) (Ch.s (.c (.slice none 0 0)) pa (Ch.nil (T_seq (T_region hc ?_)))))))
 refine Ch.s (.row 8000) (.slice 8000 _ 3 _ rfl sty55 (xs := []) rfl rfl .nil rfl rfl (by decide)) (Ch.s (.row 8000) pa (Ch.nil (T_seq (T_seq (T_region hc (Ch.s (.ptr 2000 2) (.pure (.fldPtr _ _ _ rfl fld35_2 rfl)) (Ch.s (.d (.slice false 4 (x.arcs.map Arc.d))) (.pure (.loadPtr1 _ _ rfl ag33 rfl rfl rfl)) ?_)))))))
 refine Ch.s (.d (.int .i64 ((x.arcs.length : Nat) : Int))) (.pure (.len _ _ 125 rfl Tryz.underlying33 (.sh _ _) (by simp))) (Ch.s (.d (.int .i64 0)) pm (Ch.nil (T_block ?_)))
 refine T_loop (ι := Nat) (fun k => { n := 28, sl := [(3, (.ptr 3000 0)), (5, (.row 5)), (10, (.d (.slice false 4 (x.arcs.map Arc.d)))), (11, (.d (.int .i64 ((x.arcs.length : Nat) : Int)))), (12, (.d (.int .i64 ((k : Nat) : Int))))], hp := [(5, (some (.row 1 ((edK Arc.src x l k).map (fun n : Int => D.int .i64 n))))), (3000, (some (.box [(.d (.int .i64 l.sig)), (.d (.bool (l.up)))])))], pin := [] }) (fun k => k ≤ x.arcs.length) (fun k => x.arcs.length - k) ⟨0, (by omega), (Wk.ren [(5, 8000)] rfl rfl rfl rfl (ai rfl (ai rfl (ai rfl (ai rfl (ai (vI (by first | rfl | omega | (simp; done) | (simp; omega))) trivial))))) (ai (oR (by first | rfl | (exact push rfl (edK_yes (by omega) (by first | (rw [← lab_is]; exact decide_eq_true (by assumption)) | (rw [← lab_is2]; exact decide_eq_true (by assumption))))) | (exact congrArg (List.map _) (edK_no (by omega) (by first | (rw [← lab_is]; exact decide_eq_false (by assumption)) | (rw [← lab_is2]; exact decide_eq_false (by assumption))))))) (ai rfl trivial)))⟩ (fun k hp0 => ?_)
 have hq := edK_le Arc.src x l k
 refine T_seq (T_region hc (Ch.s (.d (.bool (decide (((k : Nat) : Int) < ((x.arcs.length : Nat) : Int))))) (.pure (.int _ _ _ _ _ rfl rfl rfl rfl)) (Ch.nil (T_seq ?_))))
 refine T_cond (b := (decide (((k : Nat) : Int) < ((x.arcs.length : Nat) : Int)))) rfl (fun h1 => ?_) (fun h1 => ?_)
 ·
  replace h1 := of_decide_eq_true h1
  refine T_skip (T_seq (T_block (T_seq (T_region hc (Ch.s (.d (.ref (.agg [(.int .i64 ((x.arcs.getD k default).src)), (.int .i64 ((x.arcs.getD k default).sig)), (.bool ((x.arcs.getD k default).up)), (.int .i64 ((x.arcs.getD k default).dst))]))) (.pure (.idx _ _ _ 125 (k) rfl Tryz.underlying33 sz125 rfl rfl rfl get_mapA)) (Ch.s (.d (.agg [(.int .i64 ((x.arcs.getD k default).src)), (.int .i64 ((x.arcs.getD k default).sig)), (.bool ((x.arcs.getD k default).up)), (.int .i64 ((x.arcs.getD k default).dst))])) (.pure (.loadRefA _ _ rfl ag125 sz125 rfl)) (Ch.s (.ptr 7000 0) (.alloc 7000 _ rfl zer125) ?_)))))))
  refine Ch.s .junk (.storePtr _ _ _ rfl rfl rfl (.aggD _) sz125 (Nat.le_of_ble_eq_true rfl)) (Ch.nil (T_seq ?_))
  refine T_regionD hc (by kernel_rfl) ?_
  refine ChD.s (.agg [(.d (.int .i64 ((x.arcs.getD k default).src))), (.d (.int .i64 ((x.arcs.getD k default).sig))), (.d (.bool ((x.arcs.getD k default).up))), (.d (.int .i64 ((x.arcs.getD k default).dst)))]) [7000] (.pure (.loadPtrA _ _ rfl ag125 sz125 rfl rfl (Nat.le_of_ble_eq_true rfl) rfl)) (ChD.s (.d (.agg [(.int .i64 ((Lab.mk (x.arcs.getD k default).sig (x.arcs.getD k default).up).sig)), (.bool ((Lab.mk (x.arcs.getD k default).sig (x.arcs.getD k default).up).up))])) [] (.call 17000 161 _ _ _ en161 rfl (.inl rfl) (.cons (.lend (.agg (.cons (.d _) (.cons (.d _) (.cons (.d _) (.cons (.d _) .nil)))) rfl)) .nil) rfl rfl (sp_impl_labelOfArc (x.arcs.getD k default)) (.skip _ _ .nil) rfl) (ChD.s (.agg [(.d (.int .i64 l.sig)), (.d (.bool (l.up)))]) [3000] (.pure (.loadPtrA _ _ rfl ag107 sz107 rfl rfl (Nat.le_of_ble_eq_true rfl) rfl)) (ChD.s (.d (.bool (decide ((Lab.mk (x.arcs.getD k default).sig (x.arcs.getD k default).up) = l)))) [] (.pure (.eqA _ _ _ _ rfl (eqa107 _ _ _ _) (.d _) (.v [(.int .i64 l.sig), (.bool (l.up))]) (Lab.eqv (Lab.mk (x.arcs.getD k default).sig (x.arcs.getD k default).up) l))) ?_)))
  refine ChD.nil (And.intro ?_ (by kernel_rfl))
  refine T_cond (b := (decide ((Lab.mk (x.arcs.getD k default).sig (x.arcs.getD k default).up) = l))) rfl (fun h2 => ?_) (fun h2 => ?_)
  ·
   replace h2 := of_decide_eq_true h2
   refine T_region hc (Ch.s (.row 5) pm (Ch.s (.ptr 7000 0) (.pure (.fldPtr _ _ _ rfl fld125_0 rfl)) (Ch.s (.d (.int .i64 ((x.arcs.getD k default).src))) (.pure (.loadPtr1 _ _ rfl ag3 rfl rfl rfl)) (Ch.s (.row 23000) (.slice 23000 _ 3 _ rfl sty55 (xs := [.tmp 22]) rfl rfl (.cons (.d _) .nil) rfl rfl (by decide)) ?_))))
   refine Ch.step (v := (.row 24000)) rfl (.append 24000 _ _ _ 3 rfl sty55 (by decide) (.rowK rfl) (.inr ⟨_, rfl, rfl⟩) (.row rfl rfl) rfl (by first | omega | (simp only [List.length_append, List.length_map, List.length_cons, List.length_nil]; omega) | (simp; omega) | (simp; done))) rfl rfl ?_
   refine Ch.s (.row 24000) pa (Ch.nil (T_region hc (Ch.s (.d (.int .i64 (((k : Nat) : Int) + 1))) (.pure (.int _ _ _ _ _ rfl rfl rfl intV_addA)) (Ch.s (.d (.int .i64 (((k : Nat) : Int) + 1))) pm (Ch.nil ?_)))))
   exact nx (k + 1) (by omega) (Wk.ren [(5, 24000)] rfl rfl rfl rfl (ai rfl (ai rfl (ai rfl (ai rfl (ai (vI (by first | rfl | omega | (simp; done) | (simp; omega))) trivial))))) (ai (oR (by first | rfl | (exact push rfl (edK_yes (by omega) (by first | (rw [← lab_is]; exact decide_eq_true (by assumption)) | (rw [← lab_is2]; exact decide_eq_true (by assumption))))) | (exact congrArg (List.map _) (edK_no (by omega) (by first | (rw [← lab_is]; exact decide_eq_false (by assumption)) | (rw [← lab_is2]; exact decide_eq_false (by assumption))))))) (ai rfl trivial)))
  ·
   replace h2 := of_decide_eq_false h2
   refine T_skip (T_region hc (Ch.s (.d (.int .i64 (((k : Nat) : Int) + 1))) (.pure (.int _ _ _ _ _ rfl rfl rfl intV_addA)) (Ch.s (.d (.int .i64 (((k : Nat) : Int) + 1))) pm (Ch.nil ?_))))
   exact nx (k + 1) (by omega) (Wk.of rfl rfl (ai rfl (ai rfl (ai rfl (ai rfl (ai (vI (by first | rfl | omega | (simp; done) | (simp; omega))) trivial))))) (ai (oR (by first | rfl | (exact push rfl (edK_yes (by omega) (by first | (rw [← lab_is]; exact decide_eq_true (by assumption)) | (rw [← lab_is2]; exact decide_eq_true (by assumption))))) | (exact congrArg (List.map _) (edK_no (by omega) (by first | (rw [← lab_is]; exact decide_eq_false (by assumption)) | (rw [← lab_is2]; exact decide_eq_false (by assumption))))))) (ai rfl trivial)))
 ·
  replace h1 := of_decide_eq_false h1
  refine T_exit (T_seq (T_region hc (Ch.s (.row 5) pm ?_)))
  refine Ch.step (v := (.row 27000)) rfl (.call 27000 123 _ _ _ en123 rfl (.inl rfl) (.cons (.row rfl) .nil) rfl (sol (solid_row (fun _ => rfl) _) rfl) (sp_impl_tidy (edK Arc.src x l k) (by first | assumption | omega | (rw [List.length_take]; omega) | (have := bulkF_mem hb _ (getD_mem (d := default) (by omega)); assumption) | (unfold bulkS at *; omega) | (simp_all; done))) (.skip _ _ .nil) rfl) rfl rfl ?_
  refine Ch.s (.row 27000) pa (Ch.nil (T_ret ?_))
  exact endR [(.row 27000)] [] [27000] (.cons (.tmp 4 rfl) .nil) (.cons (.any _) (.cons (.any _) .nil)) (Exp.of (congrArg (D.slice true 1) (by rw [show k = x.arcs.length by omega, ed_src hen l])) (.row rfl)) rfl rfl

theorem sp_impl_nextArcs (x : Sgr) (hb : x.bulk ≤ 1048576) (hx : SgOk x) : Sp Tryz.prog 297 [(.agg [(.slice false 2 (x.sigs.map Sgn.d)), (.slice false 1 (x.codes.map D.str)), (.slice false 4 (x.arcs.map Arc.d))])] [.any] (.slice true 1 ((nxTo x x.arcs.length).map intsU)) := by
 refine Sp_intro (lend := true) Tryz.func297 rfl rfl rfl (fun _ => rfl) (fun c hc hX => ?_)
 obtain ⟨hp0, hp1, hp2⟩ := Sgr.parts hb
 have hn0 := bulkF_len hp0
 have hn1 := bulk_len hp1
 have hx1 := bulk_mem hp1
 have hn2 := bulkF_len hp2; have hxl := hx.len; have hxf := hx.few; have hen := hx.ends
 refine T_seq (T_region hc (Ch.s (.ptr 1000 0) (.box 1000 _ _ rfl (.aggD _)) (Ch.s (.c (.slice none 0 0)) pa (Ch.nil (T_seq (T_region hc (Ch.s (.ptr 1000 1) (.pure (.fldPtr _ _ _ rfl fld35_1 rfl)) ?_)))))))
 refine Ch.s (.d (.slice false 1 (x.codes.map D.str))) (.pure (.loadPtr1 _ _ rfl ag23 rfl rfl rfl)) (Ch.s (.d (.int .i64 ((x.codes.length : Nat) : Int))) (.pure (.len _ _ 9 rfl Tryz.underlying23 (.sh _ _) (by simp))) (Ch.s (.row 9000) (.make 9000 _ 55 _ _ (x.codes.length) (x.codes.length) rfl sty49 rfl rfl rfl rfl (by first | omega | (simp only [List.length_map, List.length_append, List.length_take, List.length_drop, List.length_cons, List.length_nil]; omega) | (simp; omega) | (simp; done)) (by first | omega | (simp only [List.length_map, List.length_append, List.length_take, List.length_drop, List.length_cons, List.length_nil]; omega) | (simp; omega) | (simp; done)) (by first | omega | (simp only [List.length_map, List.length_append, List.length_take, List.length_drop, List.length_cons, List.length_nil]; omega) | (simp; omega) | (simp; done)) (zeroD_mk (zd := (.slice true 1 [])) zr55 (by intro S w; exact nil_reads true 1) rfl)) (Ch.s (.row 9000) pa (Ch.nil (T_seq (T_seq (T_region hc ?_)))))))
 refine Ch.s (.ptr 1000 2) (.pure (.fldPtr _ _ _ rfl fld35_2 rfl)) (Ch.s (.d (.slice false 4 (x.arcs.map Arc.d))) (.pure (.loadPtr1 _ _ rfl ag33 rfl rfl rfl)) (Ch.s (.d (.int .i64 ((x.arcs.length : Nat) : Int))) (.pure (.len _ _ 125 rfl Tryz.underlying33 (.sh _ _) (by simp))) (Ch.s (.d (.int .i64 0)) pm (Ch.nil (T_block ?_)))))
 refine T_loop (ι := Nat) (fun k => { n := 32, sl := [(3, (.row 3)), (11, (.d (.slice false 4 (x.arcs.map Arc.d)))), (12, (.d (.int .i64 ((x.arcs.length : Nat) : Int)))), (13, (.d (.int .i64 ((k : Nat) : Int))))], hp := [(3, (some (.row 1 ((nxTo x k).map intsU))))], pin := [] }) (fun k => k ≤ x.arcs.length) (fun k => x.arcs.length - k) ⟨0, (by omega), (Wk.ren [(3, 9000)] rfl rfl rfl rfl (ai rfl (ai rfl (ai rfl (ai (vI (by first | rfl | omega | (simp; done) | (simp; omega))) trivial)))) (ai (oR (by first | (rw [nxTo, List.map_replicate]; rfl) | (rw [nxTo]; exact set_holeI))) trivial))⟩ (fun k hp0 => ?_)
 have hnl := nxTo_len x k; have hnx := nx_le x k hp0 (x.arcs.getD k default).src.toNat
 refine T_seq (T_region hc (Ch.s (.d (.bool (decide (((k : Nat) : Int) < ((x.arcs.length : Nat) : Int))))) (.pure (.int _ _ _ _ _ rfl rfl rfl rfl)) (Ch.nil (T_seq ?_))))
 refine T_cond (b := (decide (((k : Nat) : Int) < ((x.arcs.length : Nat) : Int)))) rfl (fun h1 => ?_) (fun h1 => ?_)
 ·
  replace h1 := of_decide_eq_true h1
  try have hek := hen _ (getD_mem (l := x.arcs) (j := k) (d := default) (by omega))
  refine T_skip (T_seq (T_block (T_seq (T_region hc (Ch.s (.d (.int .i64 ((k : Nat) : Int))) pm (Ch.s (.d (.ref (.agg [(.int .i64 ((x.arcs.getD k default).src)), (.int .i64 ((x.arcs.getD k default).sig)), (.bool ((x.arcs.getD k default).up)), (.int .i64 ((x.arcs.getD k default).dst))]))) (.pure (.idx _ _ _ 125 (k) rfl Tryz.underlying33 sz125 rfl rfl rfl get_mapA)) (Ch.s (.d (.agg [(.int .i64 ((x.arcs.getD k default).src)), (.int .i64 ((x.arcs.getD k default).sig)), (.bool ((x.arcs.getD k default).up)), (.int .i64 ((x.arcs.getD k default).dst))])) (.pure (.loadRefA _ _ rfl ag125 sz125 rfl)) ?_)))))))
  refine Ch.s (.ptr 5000 0) (.alloc 5000 _ rfl zer125) (Ch.s (.d (.int .i64 ((k : Nat) : Int))) pa (Ch.s .junk (.storePtr _ _ _ rfl rfl rfl (.aggD _) sz125 (Nat.le_of_ble_eq_true rfl)) (Ch.nil ?_)))
  refine T_take 3 ((((x.arcs.getD k default).src)).toNat) 7000002 7000003 rfl get_mapA rfl rfl (fun u1 => ?_)
  refine T_regionD hc (by kernel_rfl) ?_
  refine ChD.s (.row 3) [] pm (ChD.s (.ptr 5000 0) [] (.pure (.fldPtr _ _ _ rfl fld125_0 rfl)) (ChD.s (.d (.int .i64 ((x.arcs.getD k default).src))) [5000] (.pure (.loadPtr1 _ _ rfl ag3 rfl rfl rfl)) (ChD.s (.row 3) [] pm (ChD.s (.ptr 5000 0) [] (.pure (.fldPtr _ _ _ rfl fld125_0 rfl)) (ChD.s (.d (.int .i64 ((x.arcs.getD k default).src))) [5000] (.pure (.loadPtr1 _ _ rfl ag3 rfl rfl rfl)) (ChD.s (.el 3 1 ((((x.arcs.getD k default).src)).toNat) 0) [3, 7000002, 7000003] (.pure (.idxRow _ _ _ 55 ((((x.arcs.getD k default).src)).toNat) rfl Tryz.underlying49 sz55 rfl rfl rfl (by omega) (by first | omega | (simp only [List.length_map, List.length_set]; omega) | (simp; omega)))) (ChD.s (.row 7000002) [3, 7000002, 7000003] (.pure (.loadHole (n := 7000002) (m := 7000003) (u := u1) _ _ rfl ag55 rfl rfl (get_set (by first | omega | (simp only [List.length_map, List.length_set]; omega) | (simp; omega))) rfl rfl)) ?_)))))))
  refine ChD.s (.d (.int .i64 ((k : Nat) : Int))) [] pm (ChD.s (.row 27000) [] (.slice 27000 _ 3 _ rfl sty55 (xs := [.tmp 26]) rfl rfl (.cons (.d _) .nil) rfl rfl (by decide)) (ChD.s (.row 28000) [27000, 7000002] (.append 28000 _ _ _ 3 rfl sty55 (by decide) (.rowK rfl) (.inr ⟨_, rfl, rfl⟩) (.row rfl rfl) rfl (by first | omega | (simp only [List.length_append, List.length_map, List.length_cons, List.length_nil]; omega) | (simp; omega) | (simp; done))) (ChD.s (.el 3 1 ((((x.arcs.getD k default).src)).toNat) 0) [3, 7000002, 7000003] (.pure (.idxRow _ _ _ 55 ((((x.arcs.getD k default).src)).toNat) rfl Tryz.underlying49 sz55 rfl rfl rfl (by omega) (by first | omega | (simp only [List.length_map, List.length_set]; omega) | (simp; omega)))) (ChD.s .junk [3, 28000, 7000002, 7000003] (.storeElK (y' := (.slice true 1 ((((nxTo x k).getD ((((x.arcs.getD k default).src)).toNat) default).map (fun n : Int => D.int .i64 n)) ++ [(.int .i64 ((k : Nat) : Int))]))) _ _ _ rfl rfl rfl (.row rfl) rfl rfl rfl sz55 rfl (get_set (by first | omega | (simp only [List.length_map, List.length_set]; omega) | (simp; omega))) rfl rfl) ?_))))
  refine ChD.nil (And.intro ?_ (by kernel_rfl))
  refine T_region hc (Ch.s (.d (.int .i64 (((k : Nat) : Int) + 1))) (.pure (.int _ _ _ _ _ rfl rfl rfl intV_addA)) (Ch.s (.d (.int .i64 (((k : Nat) : Int) + 1))) pm (Ch.nil ?_)))
  exact nx (k + 1) (by omega) (Wk.of rfl rfl (ai rfl (ai rfl (ai rfl (ai (vI (by first | rfl | omega | (simp; done) | (simp; omega))) trivial)))) (ai (oR (by first | (rw [nxTo, List.map_replicate]; rfl) | (rw [nxTo]; exact set_holeI))) trivial))
 ·
  replace h1 := of_decide_eq_false h1
  try have hek := hen _ (getD_mem (l := x.arcs) (j := k) (d := default) (by omega))
  refine T_exit (T_seq (T_region hc (Ch.s (.row 3) pm (Ch.s (.row 3) pa (Ch.nil (T_ret ?_))))))
  exact endR [(.row 3)] [] [3] (.cons (.tmp 2 rfl) .nil) (.cons (.any _) .nil) (Exp.of (congrArg (D.slice true 1) (by rw [show x.arcs.length = k by omega])) (.row rfl)) rfl rfl

theorem en40 : Enters Tryz.prog 40 := ⟨_, Tryz.func40, by kernel_rfl, rfl⟩

theorem en41 : Enters Tryz.prog 41 := ⟨_, Tryz.func41, by kernel_rfl, rfl⟩

theorem en39 : Enters Tryz.prog 39 := ⟨_, Tryz.func39, by kernel_rfl, rfl⟩

def lenTo (xs : List (List Int)) (m : Nat) : Nat := ((xs.take m).map List.length).sum

theorem lenTo_zero (xs : List (List Int)) : lenTo xs 0 = 0 := rfl

theorem lenTo_succ {xs : List (List Int)} {m : Nat} (h : m < xs.length) : lenTo xs (m + 1) = lenTo xs m + (xs.getD m default).length := by
 have hg : xs.getD m default = xs[m] := by simp [h]
 unfold lenTo
 rw [List.take_succ_eq_append_getElem h, List.map_append, List.sum_append, hg]
 simp

theorem lenTo_all {xs : List (List Int)} {m : Nat} (h : xs.length ≤ m) : lenTo xs m = lenTo xs xs.length := by
 unfold lenTo
 rw [List.take_of_length_le h, List.take_of_length_le (Nat.le_refl _)]

theorem lenTo_le (xs : List (List Int)) (m : Nat) : lenTo xs m ≤ lenTo xs xs.length := by
 have := sumF_le List.length xs m
 unfold sumF at this
 unfold lenTo
 rw [List.take_of_length_le (Nat.le_refl _)]; exact this

def msTo (xs : List (List Int)) (k : Nat) : Nat → List (List Int)
 | 0 => xs
 | m + 1 => (msTo xs k m).set m (imarks (k + lenTo xs m) (xs.getD m default).length)

theorem msTo_len (xs : List (List Int)) (k : Nat) : ∀ m, (msTo xs k m).length = xs.length
 | 0 => rfl
 | m + 1 => by rw [msTo, List.length_set, msTo_len xs k m]

theorem msTo_get {xs : List (List Int)} {k j : Nat} : ∀ m, m ≤ xs.length → (msTo xs k m).getD j default = if j < m then imarks (k + lenTo xs j) (xs.getD j default).length else xs.getD j default
  | 0, _ => by rw [if_neg (by omega)]; rfl
  | m + 1, hm => by
    rw [msTo, getD_set, msTo_len]
    by_cases h : m = j
    · subst h
      rw [if_pos ⟨rfl, by omega⟩, if_pos (by omega)]
    · rw [if_neg (fun q => h q.1), msTo_get m (by omega)]
      by_cases h2 : j < m
      · rw [if_pos h2, if_pos (by omega)]
      · rw [if_neg h2, if_neg (by omega)]

def mss (k : Nat) (xs : List (List Int)) : List (List Int) := msTo xs k xs.length

theorem mss_len (k : Nat) (xs : List (List Int)) : (mss k xs).length = xs.length := msTo_len _ _ _

def hssB (xs : List (List Int)) (k : Nat) : Bool := allB xs.length fun j => iheldB (xs.getD j default) (k + lenTo xs j)

def hssR (xs : List (List Int)) (k : Nat) : Int := if hssB xs k then ((k + lenTo xs xs.length : Nat) : Int) else -1

theorem mss_lens {xs : List (List Int)} {k : Nat} : ∀ m, m ≤ xs.length → lenTo (mss k xs) m = lenTo xs m
 | 0, _ => rfl
 | m + 1, hm => by
  rw [lenTo_succ (by rw [mss_len]; omega), lenTo_succ (by omega), mss_lens m (by omega)]
  unfold mss
  rw [msTo_get _ (Nat.le_refl _), if_pos (by omega), imarks_length]

theorem iheldB_marks (k n : Nat) : iheldB (imarks k n) k = true := allB_of fun j hj => by
 rw [imarks_length] at hj
 rw [imarks, tab_getD _ _ _ _ hj]; simp

theorem hss_marks (k : Nat) (xs : List (List Int)) : hssR (mss k xs) k = ((k + lenTo xs xs.length : Nat) : Int) := by
 have h : hssB (mss k xs) k = true := allB_of fun j hj => by
  rw [mss_len] at hj
  rw [mss_lens j (by omega)]
  unfold mss
  rw [msTo_get _ (Nat.le_refl _), if_pos hj]
  exact iheldB_marks _ _
 rw [hssR, if_pos h, mss_len, mss_lens _ (Nat.le_refl _)]

theorem iheld_yes {xs : List Int} {k : Nat} (h : ¬ iheldR xs k < 0) : iheldB xs k = true ∧ iheldR xs k = ((k + xs.length : Nat) : Int) := by
  unfold iheldR at h ⊢
  split
  · rename_i hb; exact ⟨hb, rfl⟩
  · rename_i hb; rw [if_neg hb] at h; omega

theorem iheld_no {xs : List Int} {k : Nat} (h : iheldR xs k < 0) : iheldB xs k = false := by
  unfold iheldR at h
  split at h
  · omega
  · rename_i hb; simpa using hb

theorem ms_set {xs : List (List Int)} {k m : Nat} (hm : m < xs.length) {d : D} : (((msTo xs k m).map intsU).set m d).set m (.slice true 1 ((imarks (k + lenTo xs m) (xs.getD m default).length).map fun n => D.int .i64 n)) = (msTo xs k (m + 1)).map intsU := by
 rw [List.set_set, msTo, List.map_set]; rfl

theorem mss_total (k : Nat) (xs : List (List Int)) : lenTo (mss k xs) (mss k xs).length = lenTo xs xs.length := by
 rw [mss_len]; exact mss_lens _ (Nat.le_refl _)

theorem sp_laws_markIntSS (xs : List (List Int)) (k : Nat) (hn : xs.length ≤ 1048576) (hs : lenTo xs xs.length ≤ 1048576) (hk : k ≤ 1) : Sp Tryz.prog 35 [(.slice true 1 (xs.map intsU)), (.int .i64 ((k : Nat) : Int))] [(.slice true 1 ((mss k xs).map intsU)), .any] (.int .i64 ((k + lenTo xs xs.length : Nat) : Int)) := by
 refine Sp_intro (lend := false) Tryz.func35 rfl rfl rfl (fun h => nomatch h) (fun c hc hX => ?_)
 refine T_seq (T_region hc (Ch.s (.d (.int .i64 0)) pa (Ch.nil (T_seq (T_seq (T_region hc (Ch.s (.d (.int .i64 0)) pa ?_)))))))
 refine Ch.nil (T_block ?_)
 refine T_loop (ι := Nat) (fun m => { n := 19, sl := [(0, (.row 1)), (1, (.d (.int .i64 ((k + lenTo xs m : Nat) : Int)))), (5, (.d (.int .i64 ((m : Nat) : Int))))], hp := [(1, (some (.row 1 ((msTo xs k m).map intsU))))], pin := [1] }) (fun m => m ≤ xs.length) (fun m => xs.length - m) ⟨0, (by omega), (Wk.of rfl rfl (ai rfl (ai (vI (by first | rfl | (rw [lenTo_succ (by omega)]; omega))) (ai (vI (by first | rfl | omega | (simp; done) | (simp; omega))) trivial))) (ai (oR (by first | rfl | (exact ms_set (by omega)) | (rw [hmg]; exact ms_set (by omega)))) trivial))⟩ (fun m hp0 => ?_)
 have hml := msTo_len xs k m; have hlm := lenTo_le xs m; have hlm1 := lenTo_le xs (m + 1); have hmg := msTo_get (k := k) (j := m) m hp0
 refine T_seq (T_seq (T_region hc (Ch.s (.d (.int .i64 ((m : Nat) : Int))) pm (Ch.s (.row 1) pm (Ch.s (.d (.int .i64 (((msTo xs k m).length : Nat) : Int))) (.pure (.len _ _ 55 rfl Tryz.underlying49 (.row rfl) (by simp))) (Ch.s (.d (.bool (decide (((m : Nat) : Int) < (((msTo xs k m).length : Nat) : Int))))) (.pure (.int _ _ _ _ _ rfl rfl rfl rfl)) (Ch.nil ?_)))))))
 refine T_cond (b := (decide (((m : Nat) : Int) < (((msTo xs k m).length : Nat) : Int)))) rfl (fun h1 => ?_) (fun h1 => ?_)
 ·
  replace h1 := of_decide_eq_true h1
  try rw [if_neg (Nat.lt_irrefl m)] at hmg
  try have hls := lenTo_succ (xs := xs) (m := m) (by omega)
  try have hgl := congrArg List.length hmg
  refine T_skip (T_seq (T_block ?_))
  refine T_take 1 m 7000002 7000003 rfl get_mapA rfl rfl (fun u1 => ?_)
  refine T_region hc (Ch.s (.row 1) pm (Ch.s (.d (.int .i64 ((m : Nat) : Int))) pm (Ch.s (.el 1 1 m 0) (.pure (.idxRow _ _ _ 55 (m) rfl Tryz.underlying49 sz55 rfl rfl rfl rfl (by first | omega | (simp only [List.length_map, List.length_set]; omega) | (simp; omega)))) (Ch.s (.row 7000002) (.pure (.loadHole (n := 7000002) (m := 7000003) (u := u1) _ _ rfl ag55 rfl rfl (get_set (by first | omega | (simp only [List.length_map, List.length_set]; omega) | (simp; omega))) rfl rfl)) (Ch.s (.d (.int .i64 ((k + lenTo xs m : Nat) : Int))) pm ?_)))))
  refine Ch.step (v := (.d (.int .i64 (((k + lenTo xs m) + ((msTo xs k m).getD m default).length : Nat) : Int)))) rfl (.call 17000 40 _ _ _ en40 rfl (.inl rfl) (.cons (.row rfl) (.cons (.d _) .nil)) rfl (sol rfl (solids_c (solid_row (fun _ => rfl) _) rfl)) (sp_laws_markIntS ((msTo xs k m).getD m default) (k + lenTo xs m) (by first | omega | assumption | (exact hx _ (getD_mem (by omega))) | (exact hx _ (by assumption)) | (exact Nat.le_trans (hx _ (by assumption)) (by omega)) | (simp only [List.length_append, List.length_take, List.length_drop, List.length_cons, List.length_nil]; omega) | (simp_all; done)) (by first | omega | assumption | (exact hx _ (getD_mem (by omega))) | (exact hx _ (by assumption)) | (exact Nat.le_trans (hx _ (by assumption)) (by omega)) | (simp only [List.length_append, List.length_take, List.length_drop, List.length_cons, List.length_nil]; omega) | (simp_all; done))) (.row _ _ _ (.skip _ _ .nil)) rfl) rfl rfl ?_
  refine Ch.s (.d (.int .i64 (((k + lenTo xs m) + ((msTo xs k m).getD m default).length : Nat) : Int))) pa (Ch.nil (T_region hc (Ch.s (.d (.int .i64 ((m : Nat) : Int))) pm (Ch.s (.d (.int .i64 (((m : Nat) : Int) + 1))) (.pure (.int _ _ _ _ _ rfl rfl rfl intV_addA)) (Ch.s (.d (.int .i64 (((m : Nat) : Int) + 1))) pa (Ch.nil ?_))))))
  exact nx (m + 1) (by omega) (Wk.trans (Wk.give 1 m 7000002 7000003 rfl (get_set (by first | omega | (simp only [List.length_map, List.length_set]; omega) | (simp; omega))) rfl rfl rfl rfl) (Wk.of rfl rfl (ai rfl (ai (vI (by first | rfl | (rw [lenTo_succ (by omega)]; omega))) (ai (vI (by first | rfl | omega | (simp; done) | (simp; omega))) trivial))) (ai (oR (by first | rfl | (exact ms_set (by omega)) | (rw [hmg]; exact ms_set (by omega)))) trivial)))
 ·
  replace h1 := of_decide_eq_false h1
  try rw [if_neg (Nat.lt_irrefl m)] at hmg
  try have hls := lenTo_succ (xs := xs) (m := m) (by omega)
  try have hgl := congrArg List.length hmg
  refine T_exit (T_seq (T_region hc (Ch.s (.d (.int .i64 ((k + lenTo xs m : Nat) : Int))) pm (Ch.s (.d (.int .i64 ((k + lenTo xs m : Nat) : Int))) pa (Ch.nil (T_ret ?_))))))
  exact endR [(.d (.int .i64 ((k + lenTo xs m : Nat) : Int)))] [1] [] (.cons (.tmp 4 rfl) .nil) (.cons (Exp.of (congrArg (D.slice true 1) (by rw [mss, show xs.length = m by omega])) (.row rfl)) (.cons (.any _) .nil)) (Exp.of (congrArg (D.int .i64) (by rw [lenTo_all (m := m) (by omega)])) (.d _)) rfl rfl

theorem sp_laws_heldIntSS (xs : List (List Int)) (k : Nat) (hn : xs.length ≤ 1048576) (hs : lenTo xs xs.length ≤ 1048576) (hk : k ≤ 1) : Sp Tryz.prog 36 [(.slice false 1 (xs.map intsD)), (.int .i64 ((k : Nat) : Int))] [.any, .any] (.int .i64 (hssR xs k)) := by
 refine Sp_intro (lend := true) Tryz.func36 rfl rfl rfl (fun _ => rfl) (fun c hc hX => ?_)
 refine T_seq (T_region hc (Ch.s (.d (.int .i64 0)) pa (Ch.nil (T_seq (T_seq (T_region hc (Ch.s (.d (.int .i64 0)) pa ?_)))))))
 refine Ch.nil (T_block ?_)
 refine T_loop (ι := Nat) (fun m => { n := 21, sl := [(0, (.d (.slice false 1 (xs.map intsD)))), (1, (.d (.int .i64 ((k + lenTo xs m : Nat) : Int)))), (5, (.d (.int .i64 ((m : Nat) : Int))))], hp := [], pin := [] }) (fun m => m ≤ xs.length ∧ ∀ j, j < m → iheldB (xs.getD j default) (k + lenTo xs j) = true) (fun m => xs.length - m) ⟨0, ⟨by omega, fun j hj => by omega⟩, (Wk.of rfl rfl (ai rfl (ai (vI (by first | rfl | (rw [(iheld_yes (by assumption)).2, lenTo_succ (by omega)]; omega) | (rw [(iheld_yes (by omega)).2, lenTo_succ (by omega)]; omega))) (ai (vI (by first | rfl | omega | (simp; done) | (simp; omega))) trivial))) trivial)⟩ (fun m hp0 => ?_)
 have hlm := lenTo_le xs m; have hlm1 := lenTo_le xs (m + 1)
 refine T_seq (T_seq (T_region hc (Ch.s (.d (.int .i64 ((m : Nat) : Int))) pm (Ch.s (.d (.slice false 1 (xs.map intsD))) pm (Ch.s (.d (.int .i64 ((xs.length : Nat) : Int))) (.pure (.len _ _ 55 rfl Tryz.underlying49 (.sh _ _) (by simp))) (Ch.s (.d (.bool (decide (((m : Nat) : Int) < ((xs.length : Nat) : Int))))) (.pure (.int _ _ _ _ _ rfl rfl rfl rfl)) (Ch.nil ?_)))))))
 refine T_cond (b := (decide (((m : Nat) : Int) < ((xs.length : Nat) : Int)))) rfl (fun h1 => ?_) (fun h1 => ?_)
 ·
  replace h1 := of_decide_eq_true h1
  try have hls := lenTo_succ (xs := xs) (m := m) (by omega)
  refine T_skip (T_seq (T_block (T_seq (T_region hc (Ch.s (.d (.slice false 1 (xs.map intsD))) pm (Ch.s (.d (.int .i64 ((m : Nat) : Int))) pm (Ch.s (.d (.ref (.slice false 1 ((xs.getD m default).map (fun n : Int => D.int .i64 n))))) (.pure (.idx _ _ _ 55 (m) rfl Tryz.underlying49 sz55 rfl rfl rfl get_mapA)) ?_)))))))
  refine Ch.s (.d (.slice false 1 ((xs.getD m default).map (fun n : Int => D.int .i64 n)))) (.pure (.loadRef1 _ _ rfl ag55 rfl rfl)) (Ch.s (.d (.int .i64 ((k + lenTo xs m : Nat) : Int))) pm (Ch.s (.d (.int .i64 (iheldR (xs.getD m default) (k + lenTo xs m)))) (.call 17000 41 _ _ _ en41 rfl (.inl rfl) (.cons (.d _) (.cons (.d _) .nil)) rfl rfl (sp_laws_heldIntS (xs.getD m default) (k + lenTo xs m) (by first | omega | assumption | (exact hx _ (getD_mem (by omega))) | (exact hx _ (by assumption)) | (exact Nat.le_trans (hx _ (by assumption)) (by omega)) | (simp only [List.length_append, List.length_take, List.length_drop, List.length_cons, List.length_nil]; omega) | (simp_all; done)) (by first | omega | assumption | (exact hx _ (getD_mem (by omega))) | (exact hx _ (by assumption)) | (exact Nat.le_trans (hx _ (by assumption)) (by omega)) | (simp only [List.length_append, List.length_take, List.length_drop, List.length_cons, List.length_nil]; omega) | (simp_all; done))) (.skip _ _ (.skip _ _ .nil)) rfl) (Ch.s (.d (.int .i64 (iheldR (xs.getD m default) (k + lenTo xs m)))) pa (Ch.nil (T_seq (T_region hc (Ch.s (.d (.int .i64 (iheldR (xs.getD m default) (k + lenTo xs m)))) pm ?_)))))))
  refine Ch.s (.d (.bool (decide ((iheldR (xs.getD m default) (k + lenTo xs m)) < 0)))) (.pure (.int _ _ _ _ _ rfl rfl rfl rfl)) (Ch.nil ?_)
  refine T_cond (b := (decide ((iheldR (xs.getD m default) (k + lenTo xs m)) < 0))) rfl (fun h2 => ?_) (fun h2 => ?_)
  ·
   replace h2 := of_decide_eq_true h2
   refine T_seq (T_region hc (Ch.s (.d (.int .i64 (-1))) pa (Ch.nil (T_ret ?_))))
   exact endR [(.d (.int .i64 (-1)))] [] [] (.cons (.tmp 4 rfl) .nil) (.cons (.any _) (.cons (.any _) .nil)) (Exp.of (congrArg (D.int .i64) (by first | (rw [hssR, hssB, allB_no m (by omega) (by exact iheld_no (by assumption))]; rfl) | (rw [hssR, hssB, allB_of (fun j hj => hp0.2 j (by omega)), if_pos rfl, lenTo_all (m := m) (by omega)]; done))) (.d _)) rfl rfl
  ·
   replace h2 := of_decide_eq_false h2
   refine T_skip (T_region hc (Ch.s (.d (.int .i64 ((m : Nat) : Int))) pm (Ch.s (.d (.int .i64 (((m : Nat) : Int) + 1))) (.pure (.int _ _ _ _ _ rfl rfl rfl intV_addA)) (Ch.s (.d (.int .i64 (((m : Nat) : Int) + 1))) pa (Ch.nil ?_)))))
   exact nx (m + 1) ⟨by omega, upto_succ hp0.2 (iheld_yes (by omega)).1⟩ (Wk.of rfl rfl (ai rfl (ai (vI (by first | rfl | (rw [(iheld_yes (by assumption)).2, lenTo_succ (by omega)]; omega) | (rw [(iheld_yes (by omega)).2, lenTo_succ (by omega)]; omega))) (ai (vI (by first | rfl | omega | (simp; done) | (simp; omega))) trivial))) trivial)
 ·
  replace h1 := of_decide_eq_false h1
  try have hls := lenTo_succ (xs := xs) (m := m) (by omega)
  refine T_exit (T_seq (T_region hc (Ch.s (.d (.int .i64 ((k + lenTo xs m : Nat) : Int))) pm (Ch.s (.d (.int .i64 ((k + lenTo xs m : Nat) : Int))) pa (Ch.nil (T_ret ?_))))))
  exact endR [(.d (.int .i64 ((k + lenTo xs m : Nat) : Int)))] [] [] (.cons (.tmp 4 rfl) .nil) (.cons (.any _) (.cons (.any _) .nil)) (Exp.of (congrArg (D.int .i64) (by first | (rw [hssR, hssB, allB_no m (by omega) (by exact iheld_no (by assumption))]; rfl) | (rw [hssR, hssB, allB_of (fun j hj => hp0.2 j (by omega)), if_pos rfl, lenTo_all (m := m) (by omega)]; done))) (.d _)) rfl rfl

theorem sp_laws_eqIntSS (xs ys : List (List Int)) (hn : xs.length ≤ 1048576) (hx : ∀ x ∈ xs, x.length ≤ 1048576) : Sp Tryz.prog 34 [(.slice false 1 (xs.map intsD)), (.slice false 1 (ys.map intsD))] [.any, .any] (.bool (decide (xs = ys))) := by
 refine Sp_intro (lend := true) Tryz.func34 rfl rfl rfl (fun _ => rfl) (fun c hc hX => ?_)
 refine T_seq (T_region hc (Ch.s (.d (.bool false)) pa (Ch.nil (T_seq (T_seq (T_region hc (Ch.s (.d (.slice false 1 (xs.map intsD))) pm ?_)))))))
 refine Ch.s (.d (.int .i64 ((xs.length : Nat) : Int))) (.pure (.len _ _ 55 rfl Tryz.underlying49 (.sh _ _) (by simp))) (Ch.s (.d (.slice false 1 (ys.map intsD))) pm (Ch.s (.d (.int .i64 ((ys.length : Nat) : Int))) (.pure (.len _ _ 55 rfl Tryz.underlying49 (.sh _ _) (by simp))) (Ch.s (.d (.bool (!(decide (((xs.length : Nat) : Int) = ((ys.length : Nat) : Int)))))) (.pure (.int _ _ _ _ _ rfl rfl rfl rfl)) (Ch.nil ?_))))
 refine T_cond (b := (!(decide (((xs.length : Nat) : Int) = ((ys.length : Nat) : Int))))) rfl (fun h1 => ?_) (fun h1 => ?_)
 ·
  replace h1 := nott h1
  replace h1 := of_decide_eq_false h1
  refine T_seq (T_region hc (Ch.s (.d (.bool false)) pa (Ch.nil (T_ret ?_))))
  exact endR [(.d (.bool false))] [] [] (.cons (.tmp 4 rfl) .nil) (.cons (.any _) (.cons (.any _) .nil)) (Exp.of (congrArg D.bool (by exact eqL_len (by omega))) (.d _)) rfl rfl
 ·
  replace h1 := notf h1
  replace h1 := of_decide_eq_true h1
  refine T_skip (T_seq (T_seq (T_region hc (Ch.s (.d (.int .i64 0)) pa (Ch.nil (T_block ?_))))))
  refine T_loop (ι := Nat) (fun k => { n := 27, sl := [(0, (.d (.slice false 1 (xs.map intsD)))), (1, (.d (.slice false 1 (ys.map intsD)))), (5, (.d (.int .i64 ((k : Nat) : Int))))], hp := [], pin := [] }) (fun k => k ≤ xs.length ∧ ∀ j, j < k → xs.getD j default = ys.getD j default) (fun k => xs.length - k) ⟨0, ⟨by omega, fun j hj => by omega⟩, (Wk.of rfl rfl (ai rfl (ai rfl (ai (vI (by first | rfl | omega | (simp; done) | (simp; omega))) trivial))) trivial)⟩ (fun k hp0 => ?_)
  refine T_seq (T_seq (T_region hc (Ch.s (.d (.int .i64 ((k : Nat) : Int))) pm (Ch.s (.d (.slice false 1 (xs.map intsD))) pm (Ch.s (.d (.int .i64 ((xs.length : Nat) : Int))) (.pure (.len _ _ 55 rfl Tryz.underlying49 (.sh _ _) (by simp))) (Ch.s (.d (.bool (decide (((k : Nat) : Int) < ((xs.length : Nat) : Int))))) (.pure (.int _ _ _ _ _ rfl rfl rfl rfl)) (Ch.nil ?_)))))))
  refine T_cond (b := (decide (((k : Nat) : Int) < ((xs.length : Nat) : Int)))) rfl (fun h2 => ?_) (fun h2 => ?_)
  ·
   replace h2 := of_decide_eq_true h2
   try have hxk := hx _ (getD_mem (l := xs) (j := k) (d := default) (by omega))
   refine T_skip (T_seq (T_block (T_seq ?_)))
   refine T_regionD hc (by kernel_rfl) ?_
   refine ChD.s (.d (.slice false 1 (xs.map intsD))) [] pm (ChD.s (.d (.int .i64 ((k : Nat) : Int))) [] pm (ChD.s (.d (.ref (.slice false 1 ((xs.getD k default).map (fun n : Int => D.int .i64 n))))) [] (.pure (.idx _ _ _ 55 (k) rfl Tryz.underlying49 sz55 rfl rfl rfl get_mapA)) (ChD.s (.d (.slice false 1 ((xs.getD k default).map (fun n : Int => D.int .i64 n)))) [] (.pure (.loadRef1 _ _ rfl ag55 rfl rfl)) (ChD.s (.d (.slice false 1 (ys.map intsD))) [] pm (ChD.s (.d (.int .i64 ((k : Nat) : Int))) [] pm (ChD.s (.d (.ref (.slice false 1 ((ys.getD k default).map (fun n : Int => D.int .i64 n))))) [] (.pure (.idx _ _ _ 55 (k) rfl Tryz.underlying49 sz55 rfl rfl rfl get_mapA)) (ChD.s (.d (.slice false 1 ((ys.getD k default).map (fun n : Int => D.int .i64 n)))) [] (.pure (.loadRef1 _ _ rfl ag55 rfl rfl)) ?_)))))))
   refine ChD.s (.d (.bool (decide ((xs.getD k default) = (ys.getD k default))))) [] (.call 25000 39 _ _ _ en39 rfl (.inl rfl) (.cons (.d _) (.cons (.d _) .nil)) rfl rfl (sp_laws_eqIntS (xs.getD k default) (ys.getD k default) (by first | omega | assumption | (exact hx _ (getD_mem (by omega))) | (exact hx _ (by assumption)) | (exact Nat.le_trans (hx _ (by assumption)) (by omega)) | (simp only [List.length_append, List.length_take, List.length_drop, List.length_cons, List.length_nil]; omega) | (simp_all; done))) (.skip _ _ (.skip _ _ .nil)) rfl) (ChD.s (.d (.bool (!(decide ((xs.getD k default) = (ys.getD k default)))))) [] (.pure (.not _ _ rfl rfl)) ?_)
   refine ChD.nil (And.intro ?_ (by kernel_rfl))
   refine T_cond (b := (!(decide ((xs.getD k default) = (ys.getD k default))))) rfl (fun h3 => ?_) (fun h3 => ?_)
   ·
    replace h3 := nott h3
    replace h3 := of_decide_eq_false h3
    refine T_seq (T_region hc (Ch.s (.d (.bool false)) pa (Ch.nil (T_ret ?_))))
    exact endR [(.d (.bool false))] [] [] (.cons (.tmp 4 rfl) .nil) (.cons (.any _) (.cons (.any _) .nil)) (Exp.of (congrArg D.bool (by exact eqL_at default k (by assumption))) (.d _)) rfl rfl
   ·
    replace h3 := notf h3
    replace h3 := of_decide_eq_true h3
    refine T_skip (T_region hc (Ch.s (.d (.int .i64 ((k : Nat) : Int))) pm (Ch.s (.d (.int .i64 (((k : Nat) : Int) + 1))) (.pure (.int _ _ _ _ _ rfl rfl rfl intV_addA)) (Ch.s (.d (.int .i64 (((k : Nat) : Int) + 1))) pa (Ch.nil ?_)))))
    exact nx (k + 1) ⟨by omega, upto_succ hp0.2 (by assumption)⟩ (Wk.of rfl rfl (ai rfl (ai rfl (ai (vI (by first | rfl | omega | (simp; done) | (simp; omega))) trivial))) trivial)
  ·
   replace h2 := of_decide_eq_false h2
   try have hxk := hx _ (getD_mem (l := xs) (j := k) (d := default) (by omega))
   refine T_exit (T_seq (T_region hc (Ch.s (.d (.bool true)) pa (Ch.nil (T_ret ?_)))))
   exact endR [(.d (.bool true))] [] [] (.cons (.tmp 4 rfl) .nil) (.cons (.any _) (.cons (.any _) .nil)) (Exp.of (congrArg D.bool (by exact eqL_all default (by omega) (fun j hj => hp0.2 j (by omega)))) (.d _)) rfl rfl

theorem en93 : Enters Tryz.prog 93 := ⟨_, Tryz.func93, by kernel_rfl, rfl⟩

theorem en158 : Enters Tryz.prog 158 := ⟨_, Tryz.func158, by kernel_rfl, rfl⟩

theorem en134 : Enters Tryz.prog 134 := ⟨_, Tryz.func134, by kernel_rfl, rfl⟩

theorem ag26 : AggIs Tryz.prog 26 true := by unfold AggIs; kernel_rfl

theorem sz26 : SizeIs Tryz.prog 26 3 := by unfold SizeIs; kernel_rfl

theorem en16 : Enters Tryz.prog 16 := ⟨_, Tryz.func16, by kernel_rfl, rfl⟩

theorem en18 : Enters Tryz.prog 18 := ⟨_, Tryz.func18, by kernel_rfl, rfl⟩

theorem en21 : Enters Tryz.prog 21 := ⟨_, Tryz.func21, by kernel_rfl, rfl⟩

theorem en22 : Enters Tryz.prog 22 := ⟨_, Tryz.func22, by kernel_rfl, rfl⟩

def outSig (x : Sgr) (sig : Int) : Bool := hasSigB x sig && !decide ((x.sigs.getD sig.toNat default).kind = 1)

theorem outSig_has {x : Sgr} {sig : Int} (h : outSig x sig = true) : sgB x = true ∧ (0 ≤ sig ∧ sig.toNat < x.sigs.length) := by
 unfold outSig at h
 exact has_sig (Bool.and_eq_true_iff.1 h).1

theorem sig_both {x : Sgr} {sig : Int} (h : sgB x = true) (h2 : withinB sig 0 ((x.sigs.length : Int) - 1) = true) : hasSigB x sig = true := by rw [hasSigB, h, h2]; rfl

theorem code_bit {x : Sgr} {m : Nat} {sig : Int} (hx : SgOk x) (hm : m < x.codes.length) (hs : 0 ≤ sig ∧ sig.toNat < x.sigs.length) : (x.codes.getD m default).getD sig.toNat 0 = 48 ∨ (x.codes.getD m default).getD sig.toNat 0 = 49 := by
 obtain ⟨h1, h2⟩ := codes_at hx.codes (m : Int) (by omega) (by omega)
 unfold codeN at h1
 have h3 := allB_true.1 (Bool.and_eq_true_iff.1 h1).1 sig.toNat (by omega)
 unfold codeCh at h3
 have h4 : codeAt x (m : Int) = x.codes.getD m default := rfl
 rw [h4] at h3
 simpa using h3

theorem sp_spec_l15Asked (x : Sgr) (sig : Int) (hb : x.bulk ≤ 1048576) : Sp Tryz.prog 134 [(.agg [(.slice false 2 (x.sigs.map Sgn.d)), (.slice false 1 (x.codes.map D.str)), (.slice false 4 (x.arcs.map Arc.d))]), (.int .i64 sig)] [.any, .any] (.bool (outSig x sig)) := by
 refine Sp_intro (lend := true) Tryz.func134 rfl rfl rfl (fun _ => rfl) (fun c hc hX => ?_)
 obtain ⟨hp0, hp1, hp2⟩ := Sgr.parts hb
 have hn0 := bulkF_len hp0
 have hn1 := bulk_len hp1
 have hx1 := bulk_mem hp1
 have hn2 := bulkF_len hp2
 refine T_seq (T_region hc (Ch.s (.ptr 2000 0) (.box 2000 _ _ rfl (.aggD _)) (Ch.s (.d (.bool false)) pa (Ch.nil (T_seq (T_region hc (Ch.s (.agg [(.d (.slice false 2 (x.sigs.map Sgn.d))), (.d (.slice false 1 (x.codes.map D.str))), (.d (.slice false 4 (x.arcs.map Arc.d)))]) (.pure (.loadPtrA _ _ rfl ag35 sz35 rfl rfl (Nat.le_of_ble_eq_true rfl) rfl)) ?_)))))))
 refine Ch.s (.d (.bool (sgB x))) (.call 6000 93 _ _ _ en93 rfl (.inl rfl) (.cons (.lend (.agg (.cons (.d _) (.cons (.d _) (.cons (.d _) .nil))) rfl)) .nil) rfl rfl (sp_spec_l5Good x (by first | assumption | omega | (rw [List.length_take]; omega) | (have := bulkF_mem hb _ (getD_mem (d := default) (by omega)); assumption) | (unfold bulkS at *; omega) | (simp_all; done))) (.skip _ _ .nil) rfl) (Ch.s (.d (.bool (sgB x))) pm ?_)
 cases h1 : (sgB x) with
 | true =>
  refine Ch.s (.d (.int .i64 sig)) pm (Ch.s (.ptr 2000 0) (.pure (.fldPtr _ _ _ rfl fld35_0 rfl)) (Ch.s (.d (.slice false 2 (x.sigs.map Sgn.d))) (.pure (.loadPtr1 _ _ rfl ag32 rfl rfl rfl)) (Ch.s (.d (.int .i64 ((x.sigs.length : Nat) : Int))) (.pure (.len _ _ 154 rfl Tryz.underlying32 (.sh _ _) (by simp))) (Ch.s (.d (.int .i64 (((x.sigs.length : Nat) : Int) - 1))) (.pure (.int _ _ _ _ _ rfl rfl rfl intV_subA)) (Ch.s (.d (.bool (withinB sig 0 (((x.sigs.length : Nat) : Int) - 1)))) (.call 13000 89 _ _ _ en89 rfl (.inl rfl) (.cons (.d _) (.cons (.d _) (.cons (.d _) .nil))) rfl rfl (sp_spec_l1In sig 0 (((x.sigs.length : Nat) : Int) - 1)) (.skip _ _ (.skip _ _ (.skip _ _ .nil))) rfl) (Ch.s (.d (.bool (withinB sig 0 (((x.sigs.length : Nat) : Int) - 1)))) (.pure (.pickT _ _ _ rfl rfl rfl)) (Ch.s (.d (.bool (withinB sig 0 (((x.sigs.length : Nat) : Int) - 1)))) pm ?_)))))))
  cases h2 : (withinB sig 0 (((x.sigs.length : Nat) : Int) - 1)) with
  | true =>
   try have hsg := has_sig (sig_both h1 h2)
   refine Ch.s (.ptr 2000 0) (.pure (.fldPtr _ _ _ rfl fld35_0 rfl)) (Ch.s (.d (.slice false 2 (x.sigs.map Sgn.d))) (.pure (.loadPtr1 _ _ rfl ag32 rfl rfl rfl)) (Ch.s (.d (.int .i64 sig)) pm (Ch.s (.d (.ref (.agg [(.str ((x.sigs.getD ((sig).toNat) default).name)), (.int .i64 ((x.sigs.getD ((sig).toNat) default).kind))]))) (.pure (.idx _ _ _ 154 ((sig).toNat) rfl Tryz.underlying32 sz154 rfl rfl (by omega) get_mapA)) (Ch.s (.d (.ref (.int .i64 ((x.sigs.getD ((sig).toNat) default).kind)))) (.pure (.fldRef _ _ _ rfl fld154_1 rfl rfl rfl)) (Ch.s (.d (.int .i64 ((x.sigs.getD ((sig).toNat) default).kind))) (.pure (.loadRef1 _ _ rfl ag3 rfl rfl)) (Ch.s (.d (.bool (!(decide (((x.sigs.getD ((sig).toNat) default).kind) = 1))))) (.pure (.int _ _ _ _ _ rfl rfl rfl rfl)) (Ch.s (.d (.bool (!(decide (((x.sigs.getD ((sig).toNat) default).kind) = 1))))) (.pure (.pickT _ _ _ rfl rfl rfl)) ?_)))))))
   refine Ch.s (.d (.bool (!(decide (((x.sigs.getD ((sig).toNat) default).kind) = 1))))) pa (Ch.nil (T_ret ?_))
   exact endR [(.d (.bool (!(decide (((x.sigs.getD ((sig).toNat) default).kind) = 1)))))] [] [] (.cons (.tmp 4 rfl) .nil) (.cons (.any _) (.cons (.any _) .nil)) (Exp.of (congrArg D.bool (by first | (rw [outSig, h1]; done) | (rw [outSig, h1]; rfl) | (rw [outSig, sig_both h1 h2]; done) | (rw [outSig, sig_both h1 h2]; rfl) | (simp_all [outSig, hasSigB]; done))) (.d _)) rfl rfl
  | false =>
   try have hsg := has_sig (sig_both h1 h2)
   refine Ch.skip rfl rfl (Ch.skip rfl rfl (Ch.skip rfl rfl (Ch.skip rfl rfl (Ch.skip rfl rfl (Ch.skip rfl rfl (Ch.skip rfl rfl (Ch.s (.d (.bool false)) (.pure (.pickF _ _ _ rfl rfl rfl)) ?_)))))))
   refine Ch.s (.d (.bool false)) pa (Ch.nil (T_ret ?_))
   exact endR [(.d (.bool false))] [] [] (.cons (.tmp 4 rfl) .nil) (.cons (.any _) (.cons (.any _) .nil)) (Exp.of (congrArg D.bool (by first | (rw [outSig, h1]; done) | (rw [outSig, h1]; rfl) | (rw [outSig, sig_both h1 h2]; done) | (rw [outSig, sig_both h1 h2]; rfl) | (simp_all [outSig, hasSigB]; done))) (.d _)) rfl rfl
 | false =>
  refine Ch.skip rfl rfl (Ch.skip rfl rfl (Ch.skip rfl rfl (Ch.skip rfl rfl (Ch.skip rfl rfl (Ch.skip rfl rfl (Ch.s (.d (.bool false)) (.pure (.pickF _ _ _ rfl rfl rfl)) (Ch.s (.d (.bool false)) pm ?_)))))))
  refine Ch.skip rfl rfl (Ch.skip rfl rfl (Ch.skip rfl rfl (Ch.skip rfl rfl (Ch.skip rfl rfl (Ch.skip rfl rfl (Ch.skip rfl rfl (Ch.s (.d (.bool false)) (.pure (.pickF _ _ _ rfl rfl rfl)) ?_)))))))
  refine Ch.s (.d (.bool false)) pa (Ch.nil (T_ret ?_))
  exact endR [(.d (.bool false))] [] [] (.cons (.tmp 4 rfl) .nil) (.cons (.any _) (.cons (.any _) .nil)) (Exp.of (congrArg D.bool (by first | (rw [outSig, h1]; done) | (rw [outSig, h1]; rfl) | (rw [outSig, sig_both h1 h2]; done) | (rw [outSig, sig_both h1 h2]; rfl) | (simp_all [outSig, hasSigB]; done))) (.d _)) rfl rfl

theorem en203 : Enters Tryz.prog 203 := ⟨_, Tryz.func203, by kernel_rfl, rfl⟩

theorem sty175 : SlotTy Tryz.prog 175 216 3 24 := slotTy_mk (by kernel_rfl)

theorem en297 : Enters Tryz.prog 297 := ⟨_, Tryz.func297, by kernel_rfl, rfl⟩

theorem en298 : Enters Tryz.prog 298 := ⟨_, Tryz.func298, by kernel_rfl, rfl⟩

theorem stru216 : StructIs Tryz.prog 216 [.int .i64 0, .int .i64 0, .int .i64 0] [(0, 1), (1, 1), (2, 1)] := structIs_mk (by kernel_rfl) Tryz.underlying216 (by kernel_rfl)

theorem en221 : Enters Tryz.prog 221 := ⟨_, Tryz.func221, by kernel_rfl, rfl⟩

theorem en131 : Enters Tryz.prog 131 := ⟨_, Tryz.func131, by kernel_rfl, rfl⟩

theorem en281 : Enters Tryz.prog 281 := ⟨_, Tryz.func281, by kernel_rfl, rfl⟩

theorem en282 : Enters Tryz.prog 282 := ⟨_, Tryz.func282, by kernel_rfl, rfl⟩

theorem en283 : Enters Tryz.prog 283 := ⟨_, Tryz.func283, by kernel_rfl, rfl⟩

theorem en284 : Enters Tryz.prog 284 := ⟨_, Tryz.func284, by kernel_rfl, rfl⟩

theorem en166 : Enters Tryz.prog 166 := ⟨_, Tryz.func166, by kernel_rfl, rfl⟩

theorem en167 : Enters Tryz.prog 167 := ⟨_, Tryz.func167, by kernel_rfl, rfl⟩

theorem en168 : Enters Tryz.prog 168 := ⟨_, Tryz.func168, by kernel_rfl, rfl⟩

theorem en169 : Enters Tryz.prog 169 := ⟨_, Tryz.func169, by kernel_rfl, rfl⟩

theorem en258 : Enters Tryz.prog 258 := ⟨_, Tryz.func258, by kernel_rfl, rfl⟩

theorem en222 : Enters Tryz.prog 222 := ⟨_, Tryz.func222, by kernel_rfl, rfl⟩

theorem en171 : Enters Tryz.prog 171 := ⟨_, Tryz.func171, by kernel_rfl, rfl⟩

def inputB (x : Sgr) (sig : Int) : Bool := decide (0 ≤ sig) && decide ((x.sigs.getD sig.toNat default).kind = 1)

theorem inputB_lt {x : Sgr} {sig : Int} (h : ¬ 0 ≤ sig) : inputB x sig = false := by rw [inputB, decide_eq_false h]; rfl

theorem inputB_no {x : Sgr} {sig : Int} (h : ¬ (x.sigs.getD sig.toNat default).kind = 1) : inputB x sig = false := by rw [inputB, decide_eq_false h, Bool.and_false]

theorem inputB_yes {x : Sgr} {sig : Int} (h0 : 0 ≤ sig) (h : (x.sigs.getD sig.toNat default).kind = 1) : inputB x sig = true := by rw [inputB, decide_eq_true h0, decide_eq_true h]; rfl

theorem prTo_leA (P : Nat → Nat → Bool) {n : Nat} (hn : n ≤ 4000) : ∀ k, (prTo P n k).length ≤ k * 4000
 | 0 => Nat.le_refl 0
 | k + 1 => by
  have h1 := prTo_leA P hn k
  have h2 := prIn_le P k n
  have e : (prTo P n (k + 1)).length = (prTo P n k).length + (prIn P k n).length := by
   unfold prTo
   rw [List.range_succ, List.flatMap_append, List.length_append]; simp
  omega

theorem prM_leA (P : Nat → Nat → Bool) {n k m : Nat} (hn : n ≤ 4000) (hk : k ≤ 4000) (hm : m ≤ 4001) : (prM P n k m).length ≤ 17000000 := by
 have h1 := prTo_leA P hn k
 have h2 := prIn_le P k m
 rw [prM, List.length_append]
 omega

def hidB (x : Sgr) : Bool := x.arcs.any fun a => decide (a.sig = -1)

def twP (x : Sgr) (i k : Nat) : Bool := decide (0 ≤ (x.arcs.getD i default).sig ∧ (x.arcs.getD i default).src = (x.arcs.getD k default).src ∧ (x.arcs.getD i default).sig = (x.arcs.getD k default).sig ∧ ¬ (x.arcs.getD i default).dst = (x.arcs.getD k default).dst)

def twL (x : Sgr) : List (List Int) := prTo (twP x) x.arcs.length x.arcs.length

def pvQ (x : Sgr) (s n : Nat) : Bool := !decide ((x.arcs.getD n default).sig = (s : Int)) && (!excB x (x.arcs.getD n default).dst (s : Int) && !(inputB x (s : Int) && inputB x (x.arcs.getD n default).sig))

def pvP (x : Sgr) (k s n : Nat) : Bool := decide ((x.arcs.getD n default).src = (k : Int)) && pvQ x s n

def pvF (k s n : Nat) : Pvi := Pvi.mk (k : Int) (s : Int) (n : Int)

def pvI (x : Sgr) (k s m : Nat) : List Pvi := selTo m (pvP x k s) (pvF k s)

def pvS (x : Sgr) (k s : Nat) : List Pvi := if excB x (k : Int) (s : Int) then pvI x k s x.arcs.length else []

def pvK (x : Sgr) (k s : Nat) : List Pvi := (List.range s).flatMap (pvS x k)

def pvTo (x : Sgr) (k : Nat) : List Pvi := (List.range k).flatMap fun k => pvK x k x.sigs.length

def pvA (x : Sgr) (k s : Nat) : List Pvi := pvTo x k ++ pvK x k s

def pvC (x : Sgr) (k s m : Nat) : List Pvi := pvA x k s ++ pvI x k s m

def pvN (x : Sgr) (k s : Nat) (T : List Int) (m : Nat) : List Pvi := ((T.take m).filter fun i => pvQ x s i.toNat).map fun i => pvF k s i.toNat

def pvB (x : Sgr) (k s : Nat) (T : List Int) (m : Nat) : List Pvi := pvA x k s ++ pvN x k s T m

def pvL (x : Sgr) : List Pvi := pvTo x x.codes.length

theorem pvI_le (x : Sgr) (k s m : Nat) : (pvI x k s m).length ≤ m := selTo_le _ _ _

theorem pvK_le {x : Sgr} (hx : x.arcs.length ≤ 4000) (k : Nat) : ∀ s, (pvK x k s).length ≤ s * 4000
  | 0 => Nat.le_refl 0
  | s + 1 => by
    have h1 := pvK_le hx k s
    have e : (pvK x k (s + 1)).length = (pvK x k s).length + (pvS x k s).length := by
      unfold pvK; rw [List.range_succ, List.flatMap_append, List.length_append]; simp
    have h2 : (pvS x k s).length ≤ 4000 := by
      unfold pvS; split
      · exact Nat.le_trans (pvI_le _ _ _ _) hx
      · exact Nat.zero_le _
    omega

theorem pvTo_next (x : Sgr) (k : Nat) : pvTo x k ++ pvK x k x.sigs.length = pvTo x (k + 1) := by
 unfold pvTo; rw [List.range_succ, List.flatMap_append]; simp

theorem pvTo_le {x : Sgr} (hx : x.arcs.length ≤ 4000) (h8 : x.sigs.length ≤ 8) : ∀ k, (pvTo x k).length ≤ k * 32000
 | 0 => Nat.le_refl 0
 | k + 1 => by
  have h1 := pvTo_le hx h8 k
  have h2 := pvK_le hx k x.sigs.length
  rw [← pvTo_next, List.length_append]; omega

theorem pvA_le {x : Sgr} (hx : x.arcs.length ≤ 4000) (h8 : x.sigs.length ≤ 8) {k s : Nat} (hk : k ≤ 300) (hs : s ≤ 8) : (pvA x k s).length ≤ 10000000 := by
 have h1 := pvTo_le hx h8 k
 have h2 := pvK_le hx k s
 rw [pvA, List.length_append]; omega

theorem pvC_le {x : Sgr} (hx : x.arcs.length ≤ 4000) (h8 : x.sigs.length ≤ 8) {k s m : Nat} (hk : k ≤ 300) (hs : s ≤ 8) (hm : m ≤ 4000) : (pvC x k s m).length ≤ 11000000 := by
 have h1 := pvA_le hx h8 hk hs
 have h2 := pvI_le x k s m
 rw [pvC, List.length_append]; omega

theorem pvB_le {x : Sgr} (hx : x.arcs.length ≤ 4000) (h8 : x.sigs.length ≤ 8) {k s m : Nat} (hk : k ≤ 300) (hs : s ≤ 8) {T : List Int} (hm : T.length ≤ 4000) : (pvB x k s T m).length ≤ 11000000 := by
 have h1 := pvA_le hx h8 hk hs
 have h2 : (pvN x k s T m).length ≤ T.length := by
  unfold pvN
  rw [List.length_map]
  refine Nat.le_trans (List.length_filter_le _ _) ?_
  rw [List.length_take]; omega
 rw [pvB, List.length_append]; omega

theorem pvA_zero (x : Sgr) (k : Nat) : pvTo x k = pvA x k 0 := (List.append_nil _).symm

theorem pvA_end {x : Sgr} {k s : Nat} (h : s = x.sigs.length) : pvA x k s = pvTo x (k + 1) := by rw [h, ← pvTo_next]; rfl

theorem pvK_next (x : Sgr) (k s : Nat) : pvK x k s ++ pvS x k s = pvK x k (s + 1) := by
 unfold pvK; rw [List.range_succ, List.flatMap_append]; simp

theorem pvA_no {x : Sgr} {k s : Nat} (h : excB x (k : Int) (s : Int) = false) : pvA x k s = pvA x k (s + 1) := by
 rw [pvA, pvA, ← pvK_next, pvS, h]; simp

theorem pvA_yes {x : Sgr} {k s : Nat} (h : excB x (k : Int) (s : Int) = true) : pvC x k s x.arcs.length = pvA x k (s + 1) := by
 rw [pvC, pvA, pvA, ← pvK_next, pvS, h, if_pos rfl, List.append_assoc]

theorem pvC_zero (x : Sgr) (k s : Nat) : pvA x k s = pvC x k s 0 := (List.append_nil _).symm

theorem pvC_end {x : Sgr} {k s m : Nat} (h : excB x (k : Int) (s : Int) = true) (hm : m = x.arcs.length) : pvC x k s m = pvA x k (s + 1) := by rw [hm, pvA_yes h]

theorem pvC_yes {x : Sgr} {k s m : Nat} (h : pvP x k s m = true) : pvC x k s m ++ [Pvi.mk (k : Int) (s : Int) (m : Int)] = pvC x k s (m + 1) := by
 rw [pvC, pvC, List.append_assoc]
 congr 1
 exact selTo_yes (f := pvF k s) h

theorem pvC_no {x : Sgr} {k s m : Nat} (h : pvP x k s m = false) : pvC x k s m = pvC x k s (m + 1) := by
 rw [pvC, pvC]
 congr 1
 exact selTo_no h

theorem pvB_zero (x : Sgr) (k s : Nat) (T : List Int) : pvA x k s = pvB x k s T 0 := (List.append_nil _).symm

theorem pvB_yes {x : Sgr} {k s m : Nat} {T : List Int} (hm : m < T.length) (h0 : 0 ≤ T.getD m default) (h : pvQ x s (T.getD m default).toNat = true) : pvB x k s T m ++ [Pvi.mk (k : Int) (s : Int) (T.getD m default)] = pvB x k s T (m + 1) := by
 have hg : T.getD m default = T[m] := by simp [hm]
 rw [hg] at h h0 ⊢
 rw [pvB, pvB, List.append_assoc]
 congr 1
 unfold pvN
 rw [List.take_succ_eq_append_getElem hm, List.filter_append, List.map_append]
 congr 1
 rw [List.filter_cons, h]
 show _ = [pvF k s T[m].toNat]
 unfold pvF
 rw [show ((T[m].toNat : Nat) : Int) = T[m] by omega]

theorem pvB_no {x : Sgr} {k s m : Nat} {T : List Int} (hm : m < T.length) (h : pvQ x s (T.getD m default).toNat = false) : pvB x k s T m = pvB x k s T (m + 1) := by
 have hg : T.getD m default = T[m] := by simp [hm]
 rw [hg] at h
 rw [pvB, pvB]
 congr 1
 unfold pvN
 rw [List.take_succ_eq_append_getElem hm, List.filter_append, List.map_append, List.filter_cons, h]
 simp

theorem nx_eq {x : Sgr} (hen : ends x.codes.length x.arcs) {j : Nat} (hj : j < x.codes.length) : ∀ m, m ≤ x.arcs.length → (nxTo x m).getD j default = selTo m (fun i => decide ((x.arcs.getD i default).src = (j : Int))) (fun i => (i : Int))
  | 0, _ => by
    unfold nxTo selTo
    simp [hj]
  | m + 1, hm => by
    have he := hen _ (getD_mem (l := x.arcs) (j := m) (d := default) (by omega))
    rw [nxTo, getD_set, nxTo_len]
    by_cases h : (x.arcs.getD m default).src = (j : Int)
    · rw [if_pos ⟨by omega, he.1.2⟩, ← selTo_yes (f := fun i : Nat => (i : Int)) (decide_eq_true h), show (x.arcs.getD m default).src.toNat = j by omega, nx_eq hen hj m (by omega)]
    · rw [if_neg (fun e => h (by omega)), ← selTo_no (decide_eq_false h), nx_eq hen hj m (by omega)]

theorem pvN_end {x : Sgr} (hx : SgOk x) {k s m : Nat} (hk : k < x.codes.length) {T : List Int} (hT : T = (nxTo x x.arcs.length).getD k default) (hm : T.length ≤ m) : pvN x k s T m = pvI x k s x.arcs.length := by
 unfold pvN
 rw [List.take_of_length_le hm, hT, nx_eq hx.ends hk _ (Nat.le_refl _), selTo_filter, pvI]
 unfold selTo
 rw [List.map_map]
 rfl

theorem pvB_end {x : Sgr} (hx : SgOk x) {k s m : Nat} (hk : k < x.codes.length) (h : excB x (k : Int) (s : Int) = true) (hm : ((nxTo x x.arcs.length).getD k default).length ≤ m) : pvB x k s ((nxTo x x.arcs.length).getD k default) m = pvA x k (s + 1) := by
 rw [pvB, pvN_end hx hk rfl hm, ← pvA_yes h]; rfl

theorem two_nat {x : Sgr} (hx : SgOk x) {k s : Nat} (hk : k < x.codes.length) : decide (((two ((masksL x).getD k default) (2 * (s : Int)).toNat : Nat) : Int) = 0) = !excB x (k : Int) (s : Int) := two_exc (k := (k : Int)) (s := (s : Int)) hx (by omega) ⟨by omega, hk⟩

theorem two_n0 {x : Sgr} (hx : SgOk x) {k s : Nat} (hk : k < x.codes.length) (h : ((two ((masksL x).getD k default) (2 * (s : Int)).toNat : Nat) : Int) = 0) : excB x (k : Int) (s : Int) = false := by
  have := two_nat hx (s := s) hk
  rw [decide_eq_true h] at this
  cases he : excB x (k : Int) (s : Int)
  · rfl
  · rw [he] at this; cases this

theorem two_n1 {x : Sgr} (hx : SgOk x) {k s : Nat} (hk : k < x.codes.length) (h : ¬ ((two ((masksL x).getD k default) (2 * (s : Int)).toNat : Nat) : Int) = 0) : excB x (k : Int) (s : Int) = true := by
  have := two_nat hx (s := s) hk
  rw [decide_eq_false h] at this
  cases he : excB x (k : Int) (s : Int)
  · rw [he] at this; cases this
  · rfl

theorem two_i0 {x : Sgr} (hx : SgOk x) {k : Int} {s : Nat} (hk : 0 ≤ k ∧ k.toNat < x.codes.length) (h : ((two ((masksL x).getD k.toNat default) (2 * (s : Int)).toNat : Nat) : Int) = 0) : excB x k (s : Int) = false := by
 have := two_n0 hx (s := s) hk.2 h
 rwa [show ((k.toNat : Nat) : Int) = k by omega] at this

theorem two_i1 {x : Sgr} (hx : SgOk x) {k : Int} {s : Nat} (hk : 0 ≤ k ∧ k.toNat < x.codes.length) (h : ¬ ((two ((masksL x).getD k.toNat default) (2 * (s : Int)).toNat : Nat) : Int) = 0) : excB x k (s : Int) = true := by
 have := two_n1 hx (s := s) hk.2 h
 rwa [show ((k.toNat : Nat) : Int) = k by omega] at this

theorem pvQ_yes {x : Sgr} {s n : Nat} (h1 : ¬ (x.arcs.getD n default).sig = (s : Int)) (h2 : excB x (x.arcs.getD n default).dst (s : Int) = false) (h3 : inputB x (s : Int) = false ∨ inputB x (x.arcs.getD n default).sig = false) : pvQ x s n = true := by
  unfold pvQ
  rw [decide_eq_false h1, h2]
  rcases h3 with h3 | h3 <;> rw [h3] <;> simp

theorem pvQ_no1 {x : Sgr} {s n : Nat} (h1 : (x.arcs.getD n default).sig = (s : Int)) : pvQ x s n = false := by rw [pvQ, decide_eq_true h1]; rfl

theorem pvQ_no2 {x : Sgr} {s n : Nat} (h2 : excB x (x.arcs.getD n default).dst (s : Int) = true) : pvQ x s n = false := by rw [pvQ, h2]; simp

theorem pvQ_no3 {x : Sgr} {s n : Nat} (h3 : inputB x (s : Int) = true) (h4 : inputB x (x.arcs.getD n default).sig = true) : pvQ x s n = false := by rw [pvQ, h3, h4]; simp

theorem pvP_no {x : Sgr} {k s n : Nat} (h : ¬ (x.arcs.getD n default).src = (k : Int)) : pvP x k s n = false := by rw [pvP, decide_eq_false h]; rfl

theorem pvP_of {x : Sgr} {k s n : Nat} {b : Bool} (h : (x.arcs.getD n default).src = (k : Int)) (h2 : pvQ x s n = b) : pvP x k s n = b := by rw [pvP, decide_eq_true h, h2]; rfl

def unB (x : Sgr) (pr : List Int) : Bool := (outsL x.sigs).any fun s => !decide (excB x (pr.getD 0 default) s = excB x (pr.getD 1 default) s)

def unM (x : Sgr) (pr : List Int) (m : Nat) : Bool := ((outsL x.sigs).take m).any fun s => !decide (excB x (pr.getD 0 default) s = excB x (pr.getD 1 default) s)

theorem unM_succ {x : Sgr} {pr : List Int} {m : Nat} (hm : m < (outsL x.sigs).length) : unM x pr (m + 1) = (unM x pr m || !decide (excB x (pr.getD 0 default) ((outsL x.sigs).getD m default) = excB x (pr.getD 1 default) ((outsL x.sigs).getD m default))) := by
 have hg : (outsL x.sigs).getD m default = (outsL x.sigs)[m] := by simp [hm]
 unfold unM
 rw [hg, List.take_succ_eq_append_getElem hm, List.any_append]
 simp

theorem unM_all {x : Sgr} {pr : List Int} {m : Nat} (hm : (outsL x.sigs).length ≤ m) : unM x pr m = unB x pr := by rw [unM, List.take_of_length_le hm]; rfl

def prA (x : Sgr) : List (List Int) := prTo (eqP x) x.codes.length x.codes.length

def unK (x : Sgr) (k : Nat) : List (List Int) := ((prA x).take k).filter (unB x)

theorem unK_yes {x : Sgr} {k : Nat} (hk : k < (prA x).length) (h : unB x ((prA x).getD k default) = true) : unK x k ++ [(prA x).getD k default] = unK x (k + 1) := by
 have hg : (prA x).getD k default = (prA x)[k] := by simp [hk]
 rw [hg] at h ⊢
 rw [unK, unK, List.take_succ_eq_append_getElem hk, List.filter_append, List.filter_cons, h]; simp

theorem unK_no {x : Sgr} {k : Nat} (hk : k < (prA x).length) (h : unB x ((prA x).getD k default) = false) : unK x k = unK x (k + 1) := by
 have hg : (prA x).getD k default = (prA x)[k] := by simp [hk]
 rw [hg] at h
 rw [unK, unK, List.take_succ_eq_append_getElem hk, List.filter_append, List.filter_cons, h]; simp

theorem unK_le (x : Sgr) (k : Nat) : (unK x k).length ≤ k := by
 unfold unK
 refine Nat.le_trans (List.length_filter_le _ _) ?_
 rw [List.length_take]; omega

theorem unB_eq (x : Sgr) (u : List Int) : unB x u = (!(fun pr => !(outsL x.sigs).any (cfS x pr)) u) := by
  dsimp only
  rw [Bool.not_not]
  unfold unB
  congr 1
  funext s
  unfold cfS
  cases excB x (u.getD 0 default) s <;> cases excB x (u.getD 1 default) s <;> rfl

theorem unK_all {x : Sgr} {k : Nat} (hk : (prA x).length ≤ k) : unK x k = cfL x := by
 rw [unK, List.take_of_length_le hk, ← cf_filter]
 apply List.filter_congr
 intro u _
 exact unB_eq x u

def whyW (x : Sgr) : List UInt8 := if hidB x then [104, 105, 100, 100, 101, 110] else if 0 < (twL x).length then [116, 119, 111, 32, 119, 97, 121, 115] else if 0 < (pvL x).length then [98, 114, 101, 97, 107] else if 0 < (cfL x).length then [99, 111, 110, 102, 108, 105, 99, 116] else [109, 97, 100, 101]

def madeB (x : Sgr) : Bool := sgB x && decide (whyW x = [109, 97, 100, 101])

theorem why_hid {x : Sgr} (h : hidB x = true) : whyW x = [104, 105, 100, 100, 101, 110] := by rw [whyW, if_pos h]

theorem why_two {x : Sgr} (h : hidB x = false) (h1 : (0 : Int) < ((twL x).length : Int)) : whyW x = [116, 119, 111, 32, 119, 97, 121, 115] := by rw [whyW, if_neg (by rw [h]; decide), if_pos (by omega)]

theorem why_brk {x : Sgr} (h : hidB x = false) (h1 : ¬ (0 : Int) < ((twL x).length : Int)) (h2 : (0 : Int) < ((pvL x).length : Int)) : whyW x = [98, 114, 101, 97, 107] := by rw [whyW, if_neg (by rw [h]; decide), if_neg (by omega), if_pos (by omega)]

theorem why_cf {x : Sgr} (h : hidB x = false) (h1 : ¬ (0 : Int) < ((twL x).length : Int)) (h2 : ¬ (0 : Int) < ((pvL x).length : Int)) (h3 : (0 : Int) < ((cfL x).length : Int)) : whyW x = [99, 111, 110, 102, 108, 105, 99, 116] := by rw [whyW, if_neg (by rw [h]; decide), if_neg (by omega), if_neg (by omega), if_pos (by omega)]

theorem why_made {x : Sgr} (h : hidB x = false) (h1 : ¬ (0 : Int) < ((twL x).length : Int)) (h2 : ¬ (0 : Int) < ((pvL x).length : Int)) (h3 : ¬ (0 : Int) < ((cfL x).length : Int)) : whyW x = [109, 97, 100, 101] := by rw [whyW, if_neg (by rw [h]; decide), if_neg (by omega), if_neg (by omega), if_neg (by omega)]

theorem sp_impl_isInput (x : Sgr) (sig : Int) (hb : x.bulk ≤ 1048576) (hs : sig < x.sigs.length) : Sp Tryz.prog 298 [(.agg [(.slice false 2 (x.sigs.map Sgn.d)), (.slice false 1 (x.codes.map D.str)), (.slice false 4 (x.arcs.map Arc.d))]), (.int .i64 sig)] [.any, .any] (.bool (inputB x sig)) := by
 refine Sp_intro (lend := true) Tryz.func298 rfl rfl rfl (fun _ => rfl) (fun c hc hX => ?_)
 obtain ⟨hp0, hp1, hp2⟩ := Sgr.parts hb
 have hn0 := bulkF_len hp0
 have hn1 := bulk_len hp1
 have hx1 := bulk_mem hp1
 have hn2 := bulkF_len hp2
 refine T_seq (T_region hc (Ch.s (.ptr 2000 0) (.box 2000 _ _ rfl (.aggD _)) (Ch.s (.d (.bool false)) pa (Ch.nil (T_seq (T_region hc (Ch.s (.d (.int .i64 sig)) pm ?_)))))))
 refine Ch.s (.d (.bool (decide (0 ≤ sig)))) (.pure (.int _ _ _ _ _ rfl rfl rfl rfl)) (Ch.s (.d (.bool (decide (0 ≤ sig)))) pm ?_)
 cases h1 : (decide (0 ≤ sig)) with
 | true =>
  replace h1 := of_decide_eq_true h1
  refine Ch.s (.ptr 2000 0) (.pure (.fldPtr _ _ _ rfl fld35_0 rfl)) (Ch.s (.d (.slice false 2 (x.sigs.map Sgn.d))) (.pure (.loadPtr1 _ _ rfl ag32 rfl rfl rfl)) (Ch.s (.d (.int .i64 sig)) pm (Ch.s (.d (.ref (.agg [(.str ((x.sigs.getD ((sig).toNat) default).name)), (.int .i64 ((x.sigs.getD ((sig).toNat) default).kind))]))) (.pure (.idx _ _ _ 154 ((sig).toNat) rfl Tryz.underlying32 sz154 rfl rfl (by omega) get_mapA)) (Ch.s (.d (.ref (.int .i64 ((x.sigs.getD ((sig).toNat) default).kind)))) (.pure (.fldRef _ _ _ rfl fld154_1 rfl rfl rfl)) (Ch.s (.d (.int .i64 ((x.sigs.getD ((sig).toNat) default).kind))) (.pure (.loadRef1 _ _ rfl ag3 rfl rfl)) (Ch.s (.d (.bool (decide (((x.sigs.getD ((sig).toNat) default).kind) = 1)))) (.pure (.int _ _ _ _ _ rfl rfl rfl rfl)) (Ch.s (.d (.bool (decide (((x.sigs.getD ((sig).toNat) default).kind) = 1)))) (.pure (.pickT _ _ _ rfl rfl rfl)) ?_)))))))
  refine Ch.s (.d (.bool (decide (((x.sigs.getD ((sig).toNat) default).kind) = 1)))) pa (Ch.nil (T_ret ?_))
  exact endR [(.d (.bool (decide (((x.sigs.getD ((sig).toNat) default).kind) = 1))))] [] [] (.cons (.tmp 4 rfl) .nil) (.cons (.any _) (.cons (.any _) .nil)) (Exp.of (congrArg D.bool (by unfold inputB; simp only [*, decide_true, decide_false, Bool.true_and, Bool.false_and])) (.d _)) rfl rfl
 | false =>
  replace h1 := of_decide_eq_false h1
  refine Ch.skip rfl rfl (Ch.skip rfl rfl (Ch.skip rfl rfl (Ch.skip rfl rfl (Ch.skip rfl rfl (Ch.skip rfl rfl (Ch.skip rfl rfl (Ch.s (.d (.bool false)) (.pure (.pickF _ _ _ rfl rfl rfl)) ?_)))))))
  refine Ch.s (.d (.bool false)) pa (Ch.nil (T_ret ?_))
  exact endR [(.d (.bool false))] [] [] (.cons (.tmp 4 rfl) .nil) (.cons (.any _) (.cons (.any _) .nil)) (Exp.of (congrArg D.bool (by unfold inputB; simp only [*, decide_true, decide_false, Bool.true_and, Bool.false_and])) (.d _)) rfl rfl

set_option maxHeartbeats 1000000 in
theorem sp_impl_twoWays (x : Sgr) (hb : x.bulk ≤ 1048576) (hx : SgOk x) : Sp Tryz.prog 282 [(.agg [(.slice false 2 (x.sigs.map Sgn.d)), (.slice false 1 (x.codes.map D.str)), (.slice false 4 (x.arcs.map Arc.d))])] [.any] (.slice true 1 ((twL x).map intsU)) := by
 refine Sp_intro (lend := true) Tryz.func282 rfl rfl rfl (fun _ => rfl) (fun c hc hX => ?_)
 obtain ⟨hp0, hp1, hp2⟩ := Sgr.parts hb
 have hn0 := bulkF_len hp0
 have hn1 := bulk_len hp1
 have hx1 := bulk_mem hp1
 have hn2 := bulkF_len hp2; have hx8 := hx.eight; have hxl := hx.len; have hxf := hx.few; have hen := hx.ends
 refine T_seq (T_region hc (Ch.s (.ptr 1000 0) (.box 1000 _ _ rfl (.aggD _)) (Ch.s (.c (.slice none 0 0)) pa (Ch.nil (T_seq (T_region hc (Ch.s (.row 8000) (.slice 8000 _ 55 _ rfl sty49 (xs := []) rfl rfl .nil rfl rfl (by decide)) ?_)))))))
 refine Ch.s (.row 8000) pa (Ch.nil (T_seq (T_seq (T_region hc (Ch.s (.ptr 1000 2) (.pure (.fldPtr _ _ _ rfl fld35_2 rfl)) (Ch.s (.d (.slice false 4 (x.arcs.map Arc.d))) (.pure (.loadPtr1 _ _ rfl ag33 rfl rfl rfl)) (Ch.s (.d (.int .i64 ((x.arcs.length : Nat) : Int))) (.pure (.len _ _ 125 rfl Tryz.underlying33 (.sh _ _) (by simp))) ?_)))))))
 refine Ch.s (.d (.int .i64 0)) pm (Ch.nil (T_block ?_))
 refine T_loop (ι := Nat) (fun k => { n := 63, sl := [(1, (.ptr 1000 0)), (3, (.row 3)), (10, (.d (.slice false 4 (x.arcs.map Arc.d)))), (11, (.d (.int .i64 ((x.arcs.length : Nat) : Int)))), (12, (.d (.int .i64 ((k : Nat) : Int))))], hp := [(3, (some (.row 1 ((prTo (twP x) x.arcs.length k).map intsU)))), (1000, (some (.box [(.d (.slice false 2 (x.sigs.map Sgn.d))), (.d (.slice false 1 (x.codes.map D.str))), (.d (.slice false 4 (x.arcs.map Arc.d)))])))], pin := [] }) (fun k => k ≤ x.arcs.length) (fun k => x.arcs.length - k) ⟨0, (by omega), (Wk.ren [(3, 8000)] rfl rfl rfl rfl (ai rfl (ai rfl (ai rfl (ai rfl (ai (vI (by first | rfl | omega | (simp; done) | (simp; omega))) trivial))))) (ai (oR (by first | rfl | (rw [prM_end (by omega) (by omega)]; done))) (ai rfl trivial)))⟩ (fun k hp0 => ?_)
 refine T_seq (T_region hc (Ch.s (.d (.bool (decide (((k : Nat) : Int) < ((x.arcs.length : Nat) : Int))))) (.pure (.int _ _ _ _ _ rfl rfl rfl rfl)) (Ch.nil (T_seq ?_))))
 refine T_cond (b := (decide (((k : Nat) : Int) < ((x.arcs.length : Nat) : Int)))) rfl (fun h1 => ?_) (fun h1 => ?_)
 ·
  replace h1 := of_decide_eq_true h1
  try have hsk := (hx.sig _ (getD_mem (l := x.arcs) (j := k) (d := default) (by omega))).2
  refine T_skip (T_seq (T_block (T_seq (T_region hc (Ch.s (.d (.int .i64 ((k : Nat) : Int))) pm (Ch.s (.d (.ref (.agg [(.int .i64 ((x.arcs.getD k default).src)), (.int .i64 ((x.arcs.getD k default).sig)), (.bool ((x.arcs.getD k default).up)), (.int .i64 ((x.arcs.getD k default).dst))]))) (.pure (.idx _ _ _ 125 (k) rfl Tryz.underlying33 sz125 rfl rfl rfl get_mapA)) (Ch.s (.d (.agg [(.int .i64 ((x.arcs.getD k default).src)), (.int .i64 ((x.arcs.getD k default).sig)), (.bool ((x.arcs.getD k default).up)), (.int .i64 ((x.arcs.getD k default).dst))])) (.pure (.loadRefA _ _ rfl ag125 sz125 rfl)) ?_)))))))
  refine Ch.s (.ptr 5000 0) (.alloc 5000 _ rfl zer125) (Ch.s (.d (.int .i64 ((k : Nat) : Int))) pa (Ch.s .junk (.storePtr _ _ _ rfl rfl rfl (.aggD _) sz125 (Nat.le_of_ble_eq_true rfl)) (Ch.nil (T_seq (T_region hc (Ch.s (.d (.int .i64 ((k : Nat) : Int))) pm (Ch.s (.d (.int .i64 (((k : Nat) : Int) + 1))) (.pure (.int _ _ _ _ _ rfl rfl rfl intV_addA)) ?_)))))))
  refine Ch.s (.d (.int .i64 (((k : Nat) : Int) + 1))) pa (Ch.nil (T_block ?_))
  refine T_loop (ι := Nat) (fun m => { n := 63, sl := [(1, (.ptr 1000 0)), (3, (.row 3)), (4, (.d (.int .i64 ((k : Nat) : Int)))), (5, (.ptr 5000 0)), (6, (.d (.int .i64 ((m : Nat) : Int)))), (10, (.d (.slice false 4 (x.arcs.map Arc.d)))), (11, (.d (.int .i64 ((x.arcs.length : Nat) : Int)))), (12, (.d (.int .i64 ((k : Nat) : Int))))], hp := [(3, (some (.row 1 ((prM (twP x) x.arcs.length k m).map intsU)))), (1000, (some (.box [(.d (.slice false 2 (x.sigs.map Sgn.d))), (.d (.slice false 1 (x.codes.map D.str))), (.d (.slice false 4 (x.arcs.map Arc.d)))]))), (5000, (some (.box [(.d (.int .i64 ((x.arcs.getD k default).src))), (.d (.int .i64 ((x.arcs.getD k default).sig))), (.d (.bool ((x.arcs.getD k default).up))), (.d (.int .i64 ((x.arcs.getD k default).dst)))])))], pin := [] }) (fun m => k < m ∧ m ≤ x.arcs.length) (fun m => x.arcs.length - m) ⟨k + 1, ⟨by omega, by omega⟩, (Wk.of rfl rfl (ai rfl (ai rfl (ai rfl (ai rfl (ai (vI (by first | rfl | omega | (simp; done) | (simp; omega))) (ai rfl (ai rfl (ai rfl trivial)))))))) (ai (oR (by first | (exact congrArg (List.map _) (prM_start _ _ _)) | (exact push rfl (prM_yes (by omega) (decide_eq_true (by omega)))) | (exact congrArg (List.map _) (prM_no (decide_eq_false (by omega)))))) (ai rfl (ai rfl trivial))))⟩ (fun m hp1 => ?_)
  have hq := prM_leA (twP x) (n := x.arcs.length) (k := k) (m := m) (by omega) (by omega) (by omega)
  refine T_seq (T_seq (T_region hc (Ch.s (.d (.int .i64 ((m : Nat) : Int))) pm (Ch.s (.ptr 1000 2) (.pure (.fldPtr _ _ _ rfl fld35_2 rfl)) (Ch.s (.d (.slice false 4 (x.arcs.map Arc.d))) (.pure (.loadPtr1 _ _ rfl ag33 rfl rfl rfl)) (Ch.s (.d (.int .i64 ((x.arcs.length : Nat) : Int))) (.pure (.len _ _ 125 rfl Tryz.underlying33 (.sh _ _) (by simp))) (Ch.s (.d (.bool (decide (((m : Nat) : Int) < ((x.arcs.length : Nat) : Int))))) (.pure (.int _ _ _ _ _ rfl rfl rfl rfl)) ?_)))))))
  refine Ch.nil ?_
  refine T_cond (b := (decide (((m : Nat) : Int) < ((x.arcs.length : Nat) : Int)))) rfl (fun h2 => ?_) (fun h2 => ?_)
  ·
   replace h2 := of_decide_eq_true h2
   refine T_skip (T_seq (T_block (T_seq (T_region hc (Ch.s (.ptr 1000 2) (.pure (.fldPtr _ _ _ rfl fld35_2 rfl)) (Ch.s (.d (.slice false 4 (x.arcs.map Arc.d))) (.pure (.loadPtr1 _ _ rfl ag33 rfl rfl rfl)) (Ch.s (.d (.int .i64 ((m : Nat) : Int))) pm ?_)))))))
   refine Ch.s (.d (.ref (.agg [(.int .i64 ((x.arcs.getD m default).src)), (.int .i64 ((x.arcs.getD m default).sig)), (.bool ((x.arcs.getD m default).up)), (.int .i64 ((x.arcs.getD m default).dst))]))) (.pure (.idx _ _ _ 125 (m) rfl Tryz.underlying33 sz125 rfl rfl rfl get_mapA)) (Ch.s (.d (.agg [(.int .i64 ((x.arcs.getD m default).src)), (.int .i64 ((x.arcs.getD m default).sig)), (.bool ((x.arcs.getD m default).up)), (.int .i64 ((x.arcs.getD m default).dst))])) (.pure (.loadRefA _ _ rfl ag125 sz125 rfl)) (Ch.s (.ptr 7000 0) (.alloc 7000 _ rfl zer125) (Ch.s .junk (.storePtr _ _ _ rfl rfl rfl (.aggD _) sz125 (Nat.le_of_ble_eq_true rfl)) (Ch.nil (T_seq (T_region hc (Ch.s (.ptr 5000 1) (.pure (.fldPtr _ _ _ rfl fld125_1 rfl)) ?_)))))))
   refine Ch.s (.d (.int .i64 ((x.arcs.getD k default).sig))) (.pure (.loadPtr1 _ _ rfl ag3 rfl rfl rfl)) (Ch.s (.d (.bool (!(decide (((x.arcs.getD k default).sig) = (-1)))))) (.pure (.int _ _ _ _ _ rfl rfl rfl rfl)) (Ch.s (.d (.bool (!(decide (((x.arcs.getD k default).sig) = (-1)))))) pm ?_))
   cases h3 : (decide (((x.arcs.getD k default).sig) = (-1))) with
   | true =>
    replace h3 := of_decide_eq_true h3
    refine Ch.skip rfl rfl (Ch.skip rfl rfl (Ch.skip rfl rfl (Ch.skip rfl rfl (Ch.skip rfl rfl (Ch.s (.d (.bool false)) (.pure (.pickF _ _ _ rfl rfl rfl)) (Ch.s (.d (.bool false)) pm (Ch.skip rfl rfl ?_)))))))
    refine Ch.skip rfl rfl (Ch.skip rfl rfl (Ch.skip rfl rfl (Ch.skip rfl rfl (Ch.s (.d (.bool false)) (.pure (.pickF _ _ _ rfl rfl rfl)) (Ch.s (.d (.bool false)) pm (Ch.skip rfl rfl (Ch.skip rfl rfl ?_)))))))
    refine Ch.skip rfl rfl (Ch.skip rfl rfl (Ch.skip rfl rfl (Ch.s (.d (.bool false)) (.pure (.pickF _ _ _ rfl rfl rfl)) (Ch.nil ?_))))
    refine T_cond (b := false) rfl (fun h => nomatch h) (fun _ => ?_)
    refine T_skip (T_region hc (Ch.s (.d (.int .i64 ((m : Nat) : Int))) pm (Ch.s (.d (.int .i64 (((m : Nat) : Int) + 1))) (.pure (.int _ _ _ _ _ rfl rfl rfl intV_addA)) (Ch.s (.d (.int .i64 (((m : Nat) : Int) + 1))) pa (Ch.nil ?_)))))
    exact nx (m + 1) ⟨by omega, by omega⟩ (Wk.of rfl rfl (ai rfl (ai rfl (ai rfl (ai rfl (ai (vI (by first | rfl | omega | (simp; done) | (simp; omega))) (ai rfl (ai rfl (ai rfl trivial)))))))) (ai (oR (by first | (exact congrArg (List.map _) (prM_start _ _ _)) | (exact push rfl (prM_yes (by omega) (decide_eq_true (by omega)))) | (exact congrArg (List.map _) (prM_no (decide_eq_false (by omega)))))) (ai rfl (ai rfl trivial))))
   | false =>
    replace h3 := of_decide_eq_false h3
    refine Ch.s (.ptr 7000 0) (.pure (.fldPtr _ _ _ rfl fld125_0 rfl)) (Ch.s (.d (.int .i64 ((x.arcs.getD m default).src))) (.pure (.loadPtr1 _ _ rfl ag3 rfl rfl rfl)) (Ch.s (.ptr 5000 0) (.pure (.fldPtr _ _ _ rfl fld125_0 rfl)) (Ch.s (.d (.int .i64 ((x.arcs.getD k default).src))) (.pure (.loadPtr1 _ _ rfl ag3 rfl rfl rfl)) (Ch.s (.d (.bool (decide (((x.arcs.getD m default).src) = ((x.arcs.getD k default).src))))) (.pure (.int _ _ _ _ _ rfl rfl rfl rfl)) (Ch.s (.d (.bool (decide (((x.arcs.getD m default).src) = ((x.arcs.getD k default).src))))) (.pure (.pickT _ _ _ rfl rfl rfl)) (Ch.s (.d (.bool (decide (((x.arcs.getD m default).src) = ((x.arcs.getD k default).src))))) pm ?_))))))
    cases h4 : (decide (((x.arcs.getD m default).src) = ((x.arcs.getD k default).src))) with
    | true =>
     replace h4 := of_decide_eq_true h4
     refine Ch.s (.ptr 7000 1) (.pure (.fldPtr _ _ _ rfl fld125_1 rfl)) (Ch.s (.d (.int .i64 ((x.arcs.getD m default).sig))) (.pure (.loadPtr1 _ _ rfl ag3 rfl rfl rfl)) (Ch.s (.ptr 5000 1) (.pure (.fldPtr _ _ _ rfl fld125_1 rfl)) (Ch.s (.d (.int .i64 ((x.arcs.getD k default).sig))) (.pure (.loadPtr1 _ _ rfl ag3 rfl rfl rfl)) (Ch.s (.d (.bool (decide (((x.arcs.getD m default).sig) = ((x.arcs.getD k default).sig))))) (.pure (.int _ _ _ _ _ rfl rfl rfl rfl)) (Ch.s (.d (.bool (decide (((x.arcs.getD m default).sig) = ((x.arcs.getD k default).sig))))) (.pure (.pickT _ _ _ rfl rfl rfl)) (Ch.s (.d (.bool (decide (((x.arcs.getD m default).sig) = ((x.arcs.getD k default).sig))))) pm ?_))))))
     cases h5 : (decide (((x.arcs.getD m default).sig) = ((x.arcs.getD k default).sig))) with
     | true =>
      replace h5 := of_decide_eq_true h5
      refine Ch.s (.ptr 7000 3) (.pure (.fldPtr _ _ _ rfl fld125_3 rfl)) (Ch.s (.d (.int .i64 ((x.arcs.getD m default).dst))) (.pure (.loadPtr1 _ _ rfl ag3 rfl rfl rfl)) (Ch.s (.ptr 5000 3) (.pure (.fldPtr _ _ _ rfl fld125_3 rfl)) (Ch.s (.d (.int .i64 ((x.arcs.getD k default).dst))) (.pure (.loadPtr1 _ _ rfl ag3 rfl rfl rfl)) (Ch.s (.d (.bool (!(decide (((x.arcs.getD m default).dst) = ((x.arcs.getD k default).dst)))))) (.pure (.int _ _ _ _ _ rfl rfl rfl rfl)) (Ch.s (.d (.bool (!(decide (((x.arcs.getD m default).dst) = ((x.arcs.getD k default).dst)))))) (.pure (.pickT _ _ _ rfl rfl rfl)) (Ch.nil ?_))))))
      refine T_cond (b := (!(decide (((x.arcs.getD m default).dst) = ((x.arcs.getD k default).dst))))) rfl (fun h6 => ?_) (fun h6 => ?_)
      ·
       replace h6 := nott h6
       replace h6 := of_decide_eq_false h6
       refine T_region hc (Ch.s (.row 3) pm (Ch.s (.d (.int .i64 ((k : Nat) : Int))) pm (Ch.s (.d (.int .i64 ((m : Nat) : Int))) pm (Ch.s (.row 58000) (.slice 58000 _ 3 _ rfl sty55 (xs := [.tmp 56, .tmp 57]) rfl rfl (.cons (.d _) (.cons (.d _) .nil)) rfl rfl (by decide)) (Ch.s (.row 59000) (.slice 59000 _ 55 _ rfl sty49 (xs := [.tmp 58]) rfl rfl (.cons (.row rfl) .nil) rfl rfl (by decide)) ?_)))))
       refine Ch.step (v := (.row 60000)) rfl (.append 60000 _ _ _ 55 rfl sty49 (by decide) (.rowK rfl) (.inr ⟨_, rfl, rfl⟩) (.rowK rfl) rfl (by first | omega | (simp only [List.length_append, List.length_map, List.length_cons, List.length_nil]; omega) | (simp; omega) | (simp; done))) rfl rfl ?_
       refine Ch.s (.row 60000) pa (Ch.nil (T_region hc (Ch.s (.d (.int .i64 ((m : Nat) : Int))) pm (Ch.s (.d (.int .i64 (((m : Nat) : Int) + 1))) (.pure (.int _ _ _ _ _ rfl rfl rfl intV_addA)) (Ch.s (.d (.int .i64 (((m : Nat) : Int) + 1))) pa (Ch.nil ?_))))))
       exact nx (m + 1) ⟨by omega, by omega⟩ (Wk.ren [(3, 60000)] rfl rfl rfl rfl (ai rfl (ai rfl (ai rfl (ai rfl (ai (vI (by first | rfl | omega | (simp; done) | (simp; omega))) (ai rfl (ai rfl (ai rfl trivial)))))))) (ai (oR (by first | (exact congrArg (List.map _) (prM_start _ _ _)) | (exact push rfl (prM_yes (by omega) (decide_eq_true (by omega)))) | (exact congrArg (List.map _) (prM_no (decide_eq_false (by omega)))))) (ai rfl (ai rfl trivial))))
      ·
       replace h6 := notf h6
       replace h6 := of_decide_eq_true h6
       refine T_skip (T_region hc (Ch.s (.d (.int .i64 ((m : Nat) : Int))) pm (Ch.s (.d (.int .i64 (((m : Nat) : Int) + 1))) (.pure (.int _ _ _ _ _ rfl rfl rfl intV_addA)) (Ch.s (.d (.int .i64 (((m : Nat) : Int) + 1))) pa (Ch.nil ?_)))))
       exact nx (m + 1) ⟨by omega, by omega⟩ (Wk.of rfl rfl (ai rfl (ai rfl (ai rfl (ai rfl (ai (vI (by first | rfl | omega | (simp; done) | (simp; omega))) (ai rfl (ai rfl (ai rfl trivial)))))))) (ai (oR (by first | (exact congrArg (List.map _) (prM_start _ _ _)) | (exact push rfl (prM_yes (by omega) (decide_eq_true (by omega)))) | (exact congrArg (List.map _) (prM_no (decide_eq_false (by omega)))))) (ai rfl (ai rfl trivial))))
     | false =>
      replace h5 := of_decide_eq_false h5
      refine Ch.skip rfl rfl (Ch.skip rfl rfl (Ch.skip rfl rfl (Ch.skip rfl rfl (Ch.skip rfl rfl (Ch.s (.d (.bool false)) (.pure (.pickF _ _ _ rfl rfl rfl)) (Ch.nil ?_))))))
      refine T_cond (b := false) rfl (fun h => nomatch h) (fun _ => ?_)
      refine T_skip (T_region hc (Ch.s (.d (.int .i64 ((m : Nat) : Int))) pm (Ch.s (.d (.int .i64 (((m : Nat) : Int) + 1))) (.pure (.int _ _ _ _ _ rfl rfl rfl intV_addA)) (Ch.s (.d (.int .i64 (((m : Nat) : Int) + 1))) pa (Ch.nil ?_)))))
      exact nx (m + 1) ⟨by omega, by omega⟩ (Wk.of rfl rfl (ai rfl (ai rfl (ai rfl (ai rfl (ai (vI (by first | rfl | omega | (simp; done) | (simp; omega))) (ai rfl (ai rfl (ai rfl trivial)))))))) (ai (oR (by first | (exact congrArg (List.map _) (prM_start _ _ _)) | (exact push rfl (prM_yes (by omega) (decide_eq_true (by omega)))) | (exact congrArg (List.map _) (prM_no (decide_eq_false (by omega)))))) (ai rfl (ai rfl trivial))))
    | false =>
     replace h4 := of_decide_eq_false h4
     refine Ch.skip rfl rfl (Ch.skip rfl rfl (Ch.skip rfl rfl (Ch.skip rfl rfl (Ch.skip rfl rfl (Ch.s (.d (.bool false)) (.pure (.pickF _ _ _ rfl rfl rfl)) (Ch.s (.d (.bool false)) pm (Ch.skip rfl rfl ?_)))))))
     refine Ch.skip rfl rfl (Ch.skip rfl rfl (Ch.skip rfl rfl (Ch.skip rfl rfl (Ch.s (.d (.bool false)) (.pure (.pickF _ _ _ rfl rfl rfl)) (Ch.nil ?_)))))
     refine T_cond (b := false) rfl (fun h => nomatch h) (fun _ => ?_)
     refine T_skip (T_region hc (Ch.s (.d (.int .i64 ((m : Nat) : Int))) pm (Ch.s (.d (.int .i64 (((m : Nat) : Int) + 1))) (.pure (.int _ _ _ _ _ rfl rfl rfl intV_addA)) (Ch.s (.d (.int .i64 (((m : Nat) : Int) + 1))) pa (Ch.nil ?_)))))
     exact nx (m + 1) ⟨by omega, by omega⟩ (Wk.of rfl rfl (ai rfl (ai rfl (ai rfl (ai rfl (ai (vI (by first | rfl | omega | (simp; done) | (simp; omega))) (ai rfl (ai rfl (ai rfl trivial)))))))) (ai (oR (by first | (exact congrArg (List.map _) (prM_start _ _ _)) | (exact push rfl (prM_yes (by omega) (decide_eq_true (by omega)))) | (exact congrArg (List.map _) (prM_no (decide_eq_false (by omega)))))) (ai rfl (ai rfl trivial))))
  ·
   replace h2 := of_decide_eq_false h2
   refine T_exit (T_region hc (Ch.s (.d (.int .i64 (((k : Nat) : Int) + 1))) (.pure (.int _ _ _ _ _ rfl rfl rfl intV_addA)) (Ch.s (.d (.int .i64 (((k : Nat) : Int) + 1))) pm (Ch.nil ?_))))
   exact nx (k + 1) (by omega) (Wk.of rfl rfl (ai rfl (ai rfl (ai rfl (ai rfl (ai (vI (by first | rfl | omega | (simp; done) | (simp; omega))) trivial))))) (ai (oR (by first | rfl | (rw [prM_end (by omega) (by omega)]; done))) (ai rfl trivial)))
 ·
  replace h1 := of_decide_eq_false h1
  try have hsk := (hx.sig _ (getD_mem (l := x.arcs) (j := k) (d := default) (by omega))).2
  refine T_exit (T_seq (T_region hc (Ch.s (.row 3) pm (Ch.s (.row 3) pa (Ch.nil (T_ret ?_))))))
  exact endR [(.row 3)] [] [3] (.cons (.tmp 2 rfl) .nil) (.cons (.any _) .nil) (Exp.of (congrArg (D.slice true 1) (by rw [twL, show x.arcs.length = k by omega])) (.row rfl)) rfl rfl

set_option maxHeartbeats 1000000 in
theorem sp_spec_l6Ways (x : Sgr) (hb : x.bulk ≤ 1048576) (hx : SgOk x) : Sp Tryz.prog 167 [(.agg [(.slice false 2 (x.sigs.map Sgn.d)), (.slice false 1 (x.codes.map D.str)), (.slice false 4 (x.arcs.map Arc.d))])] [.any] (.slice true 1 ((twL x).map intsU)) := by
 refine Sp_intro (lend := true) Tryz.func167 rfl rfl rfl (fun _ => rfl) (fun c hc hX => ?_)
 obtain ⟨hp0, hp1, hp2⟩ := Sgr.parts hb
 have hn0 := bulkF_len hp0
 have hn1 := bulk_len hp1
 have hx1 := bulk_mem hp1
 have hn2 := bulkF_len hp2; have hx8 := hx.eight; have hxl := hx.len; have hxf := hx.few; have hen := hx.ends
 refine T_seq (T_region hc (Ch.s (.ptr 1000 0) (.box 1000 _ _ rfl (.aggD _)) (Ch.s (.c (.slice none 0 0)) pa (Ch.nil (T_seq (T_region hc (Ch.s (.c (.slice none 0 0)) pa ?_)))))))
 refine Ch.nil (T_seq (T_seq (T_region hc (Ch.s (.ptr 1000 2) (.pure (.fldPtr _ _ _ rfl fld35_2 rfl)) (Ch.s (.d (.slice false 4 (x.arcs.map Arc.d))) (.pure (.loadPtr1 _ _ rfl ag33 rfl rfl rfl)) (Ch.s (.d (.int .i64 ((x.arcs.length : Nat) : Int))) (.pure (.len _ _ 125 rfl Tryz.underlying33 (.sh _ _) (by simp))) (Ch.s (.d (.int .i64 0)) pm ?_)))))))
 refine Ch.nil (T_block ?_)
 refine T_loop (ι := Nat) (fun k => { n := 62, sl := [(1, (.ptr 1000 0)), (3, (.row 3)), (9, (.d (.slice false 4 (x.arcs.map Arc.d)))), (10, (.d (.int .i64 ((x.arcs.length : Nat) : Int)))), (11, (.d (.int .i64 ((k : Nat) : Int))))], hp := [(3, (some (.row 1 ((prTo (twP x) x.arcs.length k).map intsU)))), (1000, (some (.box [(.d (.slice false 2 (x.sigs.map Sgn.d))), (.d (.slice false 1 (x.codes.map D.str))), (.d (.slice false 4 (x.arcs.map Arc.d)))])))], pin := [] }) (fun k => k ≤ x.arcs.length) (fun k => x.arcs.length - k) ⟨0, (by omega), (Wk.trans (Wk.nilrow 3 900003 1 rfl rfl rfl) (Wk.ren [(3, 900003)] rfl rfl rfl rfl (ai rfl (ai rfl (ai rfl (ai rfl (ai (vI (by first | rfl | omega | (simp; done) | (simp; omega))) trivial))))) (ai (oR (by first | rfl | (rw [prM_end (by omega) (by omega)]; done))) (ai rfl trivial))))⟩ (fun k hp0 => ?_)
 refine T_seq (T_region hc (Ch.s (.d (.bool (decide (((k : Nat) : Int) < ((x.arcs.length : Nat) : Int))))) (.pure (.int _ _ _ _ _ rfl rfl rfl rfl)) (Ch.nil (T_seq ?_))))
 refine T_cond (b := (decide (((k : Nat) : Int) < ((x.arcs.length : Nat) : Int)))) rfl (fun h1 => ?_) (fun h1 => ?_)
 ·
  replace h1 := of_decide_eq_true h1
  try have hsk := (hx.sig _ (getD_mem (l := x.arcs) (j := k) (d := default) (by omega))).2
  refine T_skip (T_seq (T_block (T_seq (T_region hc (Ch.s (.d (.int .i64 ((k : Nat) : Int))) pm (Ch.s (.d (.ref (.agg [(.int .i64 ((x.arcs.getD k default).src)), (.int .i64 ((x.arcs.getD k default).sig)), (.bool ((x.arcs.getD k default).up)), (.int .i64 ((x.arcs.getD k default).dst))]))) (.pure (.idx _ _ _ 125 (k) rfl Tryz.underlying33 sz125 rfl rfl rfl get_mapA)) (Ch.s (.d (.agg [(.int .i64 ((x.arcs.getD k default).src)), (.int .i64 ((x.arcs.getD k default).sig)), (.bool ((x.arcs.getD k default).up)), (.int .i64 ((x.arcs.getD k default).dst))])) (.pure (.loadRefA _ _ rfl ag125 sz125 rfl)) ?_)))))))
  refine Ch.s (.ptr 5000 0) (.alloc 5000 _ rfl zer125) (Ch.s (.d (.int .i64 ((k : Nat) : Int))) pa (Ch.s .junk (.storePtr _ _ _ rfl rfl rfl (.aggD _) sz125 (Nat.le_of_ble_eq_true rfl)) (Ch.nil (T_seq (T_region hc (Ch.s (.d (.int .i64 ((k : Nat) : Int))) pm (Ch.s (.d (.int .i64 (((k : Nat) : Int) + 1))) (.pure (.int _ _ _ _ _ rfl rfl rfl intV_addA)) ?_)))))))
  refine Ch.s (.d (.int .i64 (((k : Nat) : Int) + 1))) pa (Ch.nil (T_block ?_))
  refine T_loop (ι := Nat) (fun m => { n := 62, sl := [(1, (.ptr 1000 0)), (3, (.row 3)), (4, (.d (.int .i64 ((k : Nat) : Int)))), (5, (.ptr 5000 0)), (6, (.d (.int .i64 ((m : Nat) : Int)))), (9, (.d (.slice false 4 (x.arcs.map Arc.d)))), (10, (.d (.int .i64 ((x.arcs.length : Nat) : Int)))), (11, (.d (.int .i64 ((k : Nat) : Int))))], hp := [(3, (some (.row 1 ((prM (twP x) x.arcs.length k m).map intsU)))), (1000, (some (.box [(.d (.slice false 2 (x.sigs.map Sgn.d))), (.d (.slice false 1 (x.codes.map D.str))), (.d (.slice false 4 (x.arcs.map Arc.d)))]))), (5000, (some (.box [(.d (.int .i64 ((x.arcs.getD k default).src))), (.d (.int .i64 ((x.arcs.getD k default).sig))), (.d (.bool ((x.arcs.getD k default).up))), (.d (.int .i64 ((x.arcs.getD k default).dst)))])))], pin := [] }) (fun m => k < m ∧ m ≤ x.arcs.length) (fun m => x.arcs.length - m) ⟨k + 1, ⟨by omega, by omega⟩, (Wk.of rfl rfl (ai rfl (ai rfl (ai rfl (ai rfl (ai (vI (by first | rfl | omega | (simp; done) | (simp; omega))) (ai rfl (ai rfl (ai rfl trivial)))))))) (ai (oR (by first | (exact congrArg (List.map _) (prM_start _ _ _)) | (exact push rfl (prM_yes (by omega) (decide_eq_true (by omega)))) | (exact congrArg (List.map _) (prM_no (decide_eq_false (by omega)))))) (ai rfl (ai rfl trivial))))⟩ (fun m hp1 => ?_)
  have hq := prM_leA (twP x) (n := x.arcs.length) (k := k) (m := m) (by omega) (by omega) (by omega)
  refine T_seq (T_seq (T_region hc (Ch.s (.d (.int .i64 ((m : Nat) : Int))) pm (Ch.s (.ptr 1000 2) (.pure (.fldPtr _ _ _ rfl fld35_2 rfl)) (Ch.s (.d (.slice false 4 (x.arcs.map Arc.d))) (.pure (.loadPtr1 _ _ rfl ag33 rfl rfl rfl)) (Ch.s (.d (.int .i64 ((x.arcs.length : Nat) : Int))) (.pure (.len _ _ 125 rfl Tryz.underlying33 (.sh _ _) (by simp))) (Ch.s (.d (.bool (decide (((m : Nat) : Int) < ((x.arcs.length : Nat) : Int))))) (.pure (.int _ _ _ _ _ rfl rfl rfl rfl)) ?_)))))))
  refine Ch.nil ?_
  refine T_cond (b := (decide (((m : Nat) : Int) < ((x.arcs.length : Nat) : Int)))) rfl (fun h2 => ?_) (fun h2 => ?_)
  ·
   replace h2 := of_decide_eq_true h2
   refine T_skip (T_seq (T_block (T_seq (T_region hc (Ch.s (.ptr 1000 2) (.pure (.fldPtr _ _ _ rfl fld35_2 rfl)) (Ch.s (.d (.slice false 4 (x.arcs.map Arc.d))) (.pure (.loadPtr1 _ _ rfl ag33 rfl rfl rfl)) (Ch.s (.d (.int .i64 ((m : Nat) : Int))) pm ?_)))))))
   refine Ch.s (.d (.ref (.agg [(.int .i64 ((x.arcs.getD m default).src)), (.int .i64 ((x.arcs.getD m default).sig)), (.bool ((x.arcs.getD m default).up)), (.int .i64 ((x.arcs.getD m default).dst))]))) (.pure (.idx _ _ _ 125 (m) rfl Tryz.underlying33 sz125 rfl rfl rfl get_mapA)) (Ch.s (.d (.agg [(.int .i64 ((x.arcs.getD m default).src)), (.int .i64 ((x.arcs.getD m default).sig)), (.bool ((x.arcs.getD m default).up)), (.int .i64 ((x.arcs.getD m default).dst))])) (.pure (.loadRefA _ _ rfl ag125 sz125 rfl)) (Ch.s (.ptr 7000 0) (.alloc 7000 _ rfl zer125) (Ch.s .junk (.storePtr _ _ _ rfl rfl rfl (.aggD _) sz125 (Nat.le_of_ble_eq_true rfl)) (Ch.nil (T_seq (T_region hc (Ch.s (.ptr 5000 0) (.pure (.fldPtr _ _ _ rfl fld125_0 rfl)) ?_)))))))
   refine Ch.s (.d (.int .i64 ((x.arcs.getD k default).src))) (.pure (.loadPtr1 _ _ rfl ag3 rfl rfl rfl)) (Ch.s (.ptr 7000 0) (.pure (.fldPtr _ _ _ rfl fld125_0 rfl)) (Ch.s (.d (.int .i64 ((x.arcs.getD m default).src))) (.pure (.loadPtr1 _ _ rfl ag3 rfl rfl rfl)) (Ch.s (.d (.bool (decide (((x.arcs.getD k default).src) = ((x.arcs.getD m default).src))))) (.pure (.int _ _ _ _ _ rfl rfl rfl rfl)) (Ch.s (.d (.bool (decide (((x.arcs.getD k default).src) = ((x.arcs.getD m default).src))))) pm ?_))))
   cases h3 : (decide (((x.arcs.getD k default).src) = ((x.arcs.getD m default).src))) with
   | true =>
    replace h3 := of_decide_eq_true h3
    refine Ch.s (.ptr 5000 1) (.pure (.fldPtr _ _ _ rfl fld125_1 rfl)) (Ch.s (.d (.int .i64 ((x.arcs.getD k default).sig))) (.pure (.loadPtr1 _ _ rfl ag3 rfl rfl rfl)) (Ch.s (.ptr 7000 1) (.pure (.fldPtr _ _ _ rfl fld125_1 rfl)) (Ch.s (.d (.int .i64 ((x.arcs.getD m default).sig))) (.pure (.loadPtr1 _ _ rfl ag3 rfl rfl rfl)) (Ch.s (.d (.bool (decide (((x.arcs.getD k default).sig) = ((x.arcs.getD m default).sig))))) (.pure (.int _ _ _ _ _ rfl rfl rfl rfl)) (Ch.s (.d (.bool (decide (((x.arcs.getD k default).sig) = ((x.arcs.getD m default).sig))))) (.pure (.pickT _ _ _ rfl rfl rfl)) (Ch.s (.d (.bool (decide (((x.arcs.getD k default).sig) = ((x.arcs.getD m default).sig))))) pm ?_))))))
    cases h4 : (decide (((x.arcs.getD k default).sig) = ((x.arcs.getD m default).sig))) with
    | true =>
     replace h4 := of_decide_eq_true h4
     refine Ch.s (.ptr 5000 1) (.pure (.fldPtr _ _ _ rfl fld125_1 rfl)) (Ch.s (.d (.int .i64 ((x.arcs.getD k default).sig))) (.pure (.loadPtr1 _ _ rfl ag3 rfl rfl rfl)) (Ch.s (.d (.bool (decide (0 ≤ ((x.arcs.getD k default).sig))))) (.pure (.int _ _ _ _ _ rfl rfl rfl rfl)) (Ch.s (.d (.bool (decide (0 ≤ ((x.arcs.getD k default).sig))))) (.pure (.pickT _ _ _ rfl rfl rfl)) (Ch.s (.d (.bool (decide (0 ≤ ((x.arcs.getD k default).sig))))) pm ?_))))
     cases h5 : (decide (0 ≤ ((x.arcs.getD k default).sig))) with
     | true =>
      replace h5 := of_decide_eq_true h5
      refine Ch.s (.ptr 5000 3) (.pure (.fldPtr _ _ _ rfl fld125_3 rfl)) (Ch.s (.d (.int .i64 ((x.arcs.getD k default).dst))) (.pure (.loadPtr1 _ _ rfl ag3 rfl rfl rfl)) (Ch.s (.ptr 7000 3) (.pure (.fldPtr _ _ _ rfl fld125_3 rfl)) (Ch.s (.d (.int .i64 ((x.arcs.getD m default).dst))) (.pure (.loadPtr1 _ _ rfl ag3 rfl rfl rfl)) (Ch.s (.d (.bool (!(decide (((x.arcs.getD k default).dst) = ((x.arcs.getD m default).dst)))))) (.pure (.int _ _ _ _ _ rfl rfl rfl rfl)) (Ch.s (.d (.bool (!(decide (((x.arcs.getD k default).dst) = ((x.arcs.getD m default).dst)))))) (.pure (.pickT _ _ _ rfl rfl rfl)) (Ch.nil ?_))))))
      refine T_cond (b := (!(decide (((x.arcs.getD k default).dst) = ((x.arcs.getD m default).dst))))) rfl (fun h6 => ?_) (fun h6 => ?_)
      ·
       replace h6 := nott h6
       replace h6 := of_decide_eq_false h6
       refine T_region hc (Ch.s (.row 3) pm (Ch.s (.d (.int .i64 ((k : Nat) : Int))) pm (Ch.s (.d (.int .i64 ((m : Nat) : Int))) pm (Ch.s (.row 57000) (.slice 57000 _ 3 _ rfl sty55 (xs := [.tmp 55, .tmp 56]) rfl rfl (.cons (.d _) (.cons (.d _) .nil)) rfl rfl (by decide)) (Ch.s (.row 58000) (.slice 58000 _ 55 _ rfl sty49 (xs := [.tmp 57]) rfl rfl (.cons (.row rfl) .nil) rfl rfl (by decide)) ?_)))))
       refine Ch.step (v := (.row 59000)) rfl (.append 59000 _ _ _ 55 rfl sty49 (by decide) (.rowK rfl) (.inr ⟨_, rfl, rfl⟩) (.rowK rfl) rfl (by first | omega | (simp only [List.length_append, List.length_map, List.length_cons, List.length_nil]; omega) | (simp; omega) | (simp; done))) rfl rfl ?_
       refine Ch.s (.row 59000) pa (Ch.nil (T_region hc (Ch.s (.d (.int .i64 ((m : Nat) : Int))) pm (Ch.s (.d (.int .i64 (((m : Nat) : Int) + 1))) (.pure (.int _ _ _ _ _ rfl rfl rfl intV_addA)) (Ch.s (.d (.int .i64 (((m : Nat) : Int) + 1))) pa (Ch.nil ?_))))))
       exact nx (m + 1) ⟨by omega, by omega⟩ (Wk.ren [(3, 59000)] rfl rfl rfl rfl (ai rfl (ai rfl (ai rfl (ai rfl (ai (vI (by first | rfl | omega | (simp; done) | (simp; omega))) (ai rfl (ai rfl (ai rfl trivial)))))))) (ai (oR (by first | (exact congrArg (List.map _) (prM_start _ _ _)) | (exact push rfl (prM_yes (by omega) (decide_eq_true (by omega)))) | (exact congrArg (List.map _) (prM_no (decide_eq_false (by omega)))))) (ai rfl (ai rfl trivial))))
      ·
       replace h6 := notf h6
       replace h6 := of_decide_eq_true h6
       refine T_skip (T_region hc (Ch.s (.d (.int .i64 ((m : Nat) : Int))) pm (Ch.s (.d (.int .i64 (((m : Nat) : Int) + 1))) (.pure (.int _ _ _ _ _ rfl rfl rfl intV_addA)) (Ch.s (.d (.int .i64 (((m : Nat) : Int) + 1))) pa (Ch.nil ?_)))))
       exact nx (m + 1) ⟨by omega, by omega⟩ (Wk.of rfl rfl (ai rfl (ai rfl (ai rfl (ai rfl (ai (vI (by first | rfl | omega | (simp; done) | (simp; omega))) (ai rfl (ai rfl (ai rfl trivial)))))))) (ai (oR (by first | (exact congrArg (List.map _) (prM_start _ _ _)) | (exact push rfl (prM_yes (by omega) (decide_eq_true (by omega)))) | (exact congrArg (List.map _) (prM_no (decide_eq_false (by omega)))))) (ai rfl (ai rfl trivial))))
     | false =>
      replace h5 := of_decide_eq_false h5
      refine Ch.skip rfl rfl (Ch.skip rfl rfl (Ch.skip rfl rfl (Ch.skip rfl rfl (Ch.skip rfl rfl (Ch.s (.d (.bool false)) (.pure (.pickF _ _ _ rfl rfl rfl)) (Ch.nil ?_))))))
      refine T_cond (b := false) rfl (fun h => nomatch h) (fun _ => ?_)
      refine T_skip (T_region hc (Ch.s (.d (.int .i64 ((m : Nat) : Int))) pm (Ch.s (.d (.int .i64 (((m : Nat) : Int) + 1))) (.pure (.int _ _ _ _ _ rfl rfl rfl intV_addA)) (Ch.s (.d (.int .i64 (((m : Nat) : Int) + 1))) pa (Ch.nil ?_)))))
      exact nx (m + 1) ⟨by omega, by omega⟩ (Wk.of rfl rfl (ai rfl (ai rfl (ai rfl (ai rfl (ai (vI (by first | rfl | omega | (simp; done) | (simp; omega))) (ai rfl (ai rfl (ai rfl trivial)))))))) (ai (oR (by first | (exact congrArg (List.map _) (prM_start _ _ _)) | (exact push rfl (prM_yes (by omega) (decide_eq_true (by omega)))) | (exact congrArg (List.map _) (prM_no (decide_eq_false (by omega)))))) (ai rfl (ai rfl trivial))))
    | false =>
     replace h4 := of_decide_eq_false h4
     refine Ch.skip rfl rfl (Ch.skip rfl rfl (Ch.skip rfl rfl (Ch.s (.d (.bool false)) (.pure (.pickF _ _ _ rfl rfl rfl)) (Ch.s (.d (.bool false)) pm (Ch.skip rfl rfl (Ch.skip rfl rfl (Ch.skip rfl rfl ?_)))))))
     refine Ch.skip rfl rfl (Ch.skip rfl rfl (Ch.s (.d (.bool false)) (.pure (.pickF _ _ _ rfl rfl rfl)) (Ch.nil ?_)))
     refine T_cond (b := false) rfl (fun h => nomatch h) (fun _ => ?_)
     refine T_skip (T_region hc (Ch.s (.d (.int .i64 ((m : Nat) : Int))) pm (Ch.s (.d (.int .i64 (((m : Nat) : Int) + 1))) (.pure (.int _ _ _ _ _ rfl rfl rfl intV_addA)) (Ch.s (.d (.int .i64 (((m : Nat) : Int) + 1))) pa (Ch.nil ?_)))))
     exact nx (m + 1) ⟨by omega, by omega⟩ (Wk.of rfl rfl (ai rfl (ai rfl (ai rfl (ai rfl (ai (vI (by first | rfl | omega | (simp; done) | (simp; omega))) (ai rfl (ai rfl (ai rfl trivial)))))))) (ai (oR (by first | (exact congrArg (List.map _) (prM_start _ _ _)) | (exact push rfl (prM_yes (by omega) (decide_eq_true (by omega)))) | (exact congrArg (List.map _) (prM_no (decide_eq_false (by omega)))))) (ai rfl (ai rfl trivial))))
   | false =>
    replace h3 := of_decide_eq_false h3
    refine Ch.skip rfl rfl (Ch.skip rfl rfl (Ch.skip rfl rfl (Ch.skip rfl rfl (Ch.skip rfl rfl (Ch.s (.d (.bool false)) (.pure (.pickF _ _ _ rfl rfl rfl)) (Ch.s (.d (.bool false)) pm (Ch.skip rfl rfl ?_)))))))
    refine Ch.skip rfl rfl (Ch.skip rfl rfl (Ch.s (.d (.bool false)) (.pure (.pickF _ _ _ rfl rfl rfl)) (Ch.s (.d (.bool false)) pm (Ch.skip rfl rfl (Ch.skip rfl rfl (Ch.skip rfl rfl (Ch.skip rfl rfl ?_)))))))
    refine Ch.skip rfl rfl (Ch.s (.d (.bool false)) (.pure (.pickF _ _ _ rfl rfl rfl)) (Ch.nil ?_))
    refine T_cond (b := false) rfl (fun h => nomatch h) (fun _ => ?_)
    refine T_skip (T_region hc (Ch.s (.d (.int .i64 ((m : Nat) : Int))) pm (Ch.s (.d (.int .i64 (((m : Nat) : Int) + 1))) (.pure (.int _ _ _ _ _ rfl rfl rfl intV_addA)) (Ch.s (.d (.int .i64 (((m : Nat) : Int) + 1))) pa (Ch.nil ?_)))))
    exact nx (m + 1) ⟨by omega, by omega⟩ (Wk.of rfl rfl (ai rfl (ai rfl (ai rfl (ai rfl (ai (vI (by first | rfl | omega | (simp; done) | (simp; omega))) (ai rfl (ai rfl (ai rfl trivial)))))))) (ai (oR (by first | (exact congrArg (List.map _) (prM_start _ _ _)) | (exact push rfl (prM_yes (by omega) (decide_eq_true (by omega)))) | (exact congrArg (List.map _) (prM_no (decide_eq_false (by omega)))))) (ai rfl (ai rfl trivial))))
  ·
   replace h2 := of_decide_eq_false h2
   refine T_exit (T_region hc (Ch.s (.d (.int .i64 (((k : Nat) : Int) + 1))) (.pure (.int _ _ _ _ _ rfl rfl rfl intV_addA)) (Ch.s (.d (.int .i64 (((k : Nat) : Int) + 1))) pm (Ch.nil ?_))))
   exact nx (k + 1) (by omega) (Wk.of rfl rfl (ai rfl (ai rfl (ai rfl (ai rfl (ai (vI (by first | rfl | omega | (simp; done) | (simp; omega))) trivial))))) (ai (oR (by first | rfl | (rw [prM_end (by omega) (by omega)]; done))) (ai rfl trivial)))
 ·
  replace h1 := of_decide_eq_false h1
  try have hsk := (hx.sig _ (getD_mem (l := x.arcs) (j := k) (d := default) (by omega))).2
  refine T_exit (T_seq (T_region hc (Ch.s (.row 3) pm (Ch.s (.row 3) pa (Ch.nil (T_ret ?_))))))
  exact endR [(.row 3)] [] [3] (.cons (.tmp 2 rfl) .nil) (.cons (.any _) .nil) (Exp.of (congrArg (D.slice true 1) (by rw [twL, show x.arcs.length = k by omega])) (.row rfl)) rfl rfl

theorem sp_spec_l6Own (x : Sgr) (sig : Int) (hb : x.bulk ≤ 1048576) (hs : sig < x.sigs.length) : Sp Tryz.prog 203 [(.agg [(.slice false 2 (x.sigs.map Sgn.d)), (.slice false 1 (x.codes.map D.str)), (.slice false 4 (x.arcs.map Arc.d))]), (.int .i64 sig)] [.any, .any] (.bool (!(inputB x sig))) := by
 refine Sp_intro (lend := true) Tryz.func203 rfl rfl rfl (fun _ => rfl) (fun c hc hX => ?_)
 obtain ⟨hp0, hp1, hp2⟩ := Sgr.parts hb
 have hn0 := bulkF_len hp0
 have hn1 := bulk_len hp1
 have hx1 := bulk_mem hp1
 have hn2 := bulkF_len hp2
 refine T_seq (T_region hc (Ch.s (.ptr 2000 0) (.box 2000 _ _ rfl (.aggD _)) (Ch.s (.d (.bool false)) pa (Ch.nil (T_seq (T_region hc (Ch.s (.d (.int .i64 sig)) pm ?_)))))))
 refine Ch.s (.d (.bool (decide (sig < 0)))) (.pure (.int _ _ _ _ _ rfl rfl rfl rfl)) (Ch.s (.d (.bool (decide (sig < 0)))) pm ?_)
 cases h1 : (decide (sig < 0)) with
 | true =>
  replace h1 := of_decide_eq_true h1
  refine Ch.skip rfl rfl (Ch.skip rfl rfl (Ch.skip rfl rfl (Ch.skip rfl rfl (Ch.skip rfl rfl (Ch.skip rfl rfl (Ch.skip rfl rfl (Ch.s (.d (.bool true)) (.pure (.pickT _ _ _ rfl rfl rfl)) ?_)))))))
  refine Ch.s (.d (.bool true)) pa (Ch.nil (T_ret ?_))
  exact endR [(.d (.bool true))] [] [] (.cons (.tmp 4 rfl) .nil) (.cons (.any _) (.cons (.any _) .nil)) (Exp.of (congrArg D.bool (by first | (rw [inputB_lt (by omega)]; rfl) | (rw [inputB_yes (by omega) (by assumption)]; rfl) | (rw [inputB_no (by assumption)]; rfl) | (unfold inputB; simp_all; done))) (.d _)) rfl rfl
 | false =>
  replace h1 := of_decide_eq_false h1
  refine Ch.s (.ptr 2000 0) (.pure (.fldPtr _ _ _ rfl fld35_0 rfl)) (Ch.s (.d (.slice false 2 (x.sigs.map Sgn.d))) (.pure (.loadPtr1 _ _ rfl ag32 rfl rfl rfl)) (Ch.s (.d (.int .i64 sig)) pm (Ch.s (.d (.ref (.agg [(.str ((x.sigs.getD ((sig).toNat) default).name)), (.int .i64 ((x.sigs.getD ((sig).toNat) default).kind))]))) (.pure (.idx _ _ _ 154 ((sig).toNat) rfl Tryz.underlying32 sz154 rfl rfl (by omega) get_mapA)) (Ch.s (.d (.ref (.int .i64 ((x.sigs.getD ((sig).toNat) default).kind)))) (.pure (.fldRef _ _ _ rfl fld154_1 rfl rfl rfl)) (Ch.s (.d (.int .i64 ((x.sigs.getD ((sig).toNat) default).kind))) (.pure (.loadRef1 _ _ rfl ag3 rfl rfl)) (Ch.s (.d (.bool (!(decide (((x.sigs.getD ((sig).toNat) default).kind) = 1))))) (.pure (.int _ _ _ _ _ rfl rfl rfl rfl)) (Ch.s (.d (.bool (!(decide (((x.sigs.getD ((sig).toNat) default).kind) = 1))))) (.pure (.pickF _ _ _ rfl rfl rfl)) ?_)))))))
  refine Ch.s (.d (.bool (!(decide (((x.sigs.getD ((sig).toNat) default).kind) = 1))))) pa (Ch.nil (T_ret ?_))
  exact endR [(.d (.bool (!(decide (((x.sigs.getD ((sig).toNat) default).kind) = 1)))))] [] [] (.cons (.tmp 4 rfl) .nil) (.cons (.any _) (.cons (.any _) .nil)) (Exp.of (congrArg D.bool (by first | (rw [inputB_lt (by omega)]; rfl) | (rw [inputB_yes (by omega) (by assumption)]; rfl) | (rw [inputB_no (by assumption)]; rfl) | (unfold inputB; simp_all; done))) (.d _)) rfl rfl

theorem out_in {x : Sgr} {k : Nat} (h : inputB x (k : Int) = false) : outP x.sigs k = true := by
 unfold inputB at h; rw [decide_eq_true (by omega : (0 : Int) ≤ (k : Int)), Bool.true_and] at h
 unfold outP; rw [show decide ((x.sigs.getD k default).kind = 1) = false from h]; rfl

theorem out_not {x : Sgr} {k : Nat} (h : inputB x (k : Int) = true) : outP x.sigs k = false := by
 unfold inputB at h; rw [decide_eq_true (by omega : (0 : Int) ≤ (k : Int)), Bool.true_and] at h
 unfold outP; rw [show decide ((x.sigs.getD k default).kind = 1) = true from h]; rfl

theorem sp_spec_l6Owned (x : Sgr) (hb : x.bulk ≤ 1048576) : Sp Tryz.prog 131 [(.agg [(.slice false 2 (x.sigs.map Sgn.d)), (.slice false 1 (x.codes.map D.str)), (.slice false 4 (x.arcs.map Arc.d))])] [.any] (.slice true 1 ((outsL x.sigs).map (fun n : Int => D.int .i64 n))) := by
 refine Sp_intro (lend := true) Tryz.func131 rfl rfl rfl (fun _ => rfl) (fun c hc hX => ?_)
 obtain ⟨hp0, hp1, hp2⟩ := Sgr.parts hb
 have hn0 := bulkF_len hp0
 have hn1 := bulk_len hp1
 have hx1 := bulk_mem hp1
 have hn2 := bulkF_len hp2
 refine T_seq (T_region hc (Ch.s (.ptr 1000 0) (.box 1000 _ _ rfl (.aggD _)) (Ch.s (.c (.slice none 0 0)) pa (Ch.nil (T_seq (T_region hc (Ch.s (.c (.slice none 0 0)) pa ?_)))))))
 refine Ch.nil (T_seq (T_seq (T_region hc (Ch.s (.ptr 1000 0) (.pure (.fldPtr _ _ _ rfl fld35_0 rfl)) (Ch.s (.d (.slice false 2 (x.sigs.map Sgn.d))) (.pure (.loadPtr1 _ _ rfl ag32 rfl rfl rfl)) (Ch.s (.d (.int .i64 ((x.sigs.length : Nat) : Int))) (.pure (.len _ _ 154 rfl Tryz.underlying32 (.sh _ _) (by simp))) (Ch.s (.d (.int .i64 0)) pm ?_)))))))
 refine Ch.nil (T_block ?_)
 refine T_loop (ι := Nat) (fun k => { n := 20, sl := [(1, (.ptr 1000 0)), (3, (.row 3)), (7, (.d (.int .i64 ((x.sigs.length : Nat) : Int)))), (8, (.d (.int .i64 ((k : Nat) : Int))))], hp := [(3, (some (.row 1 ((outK x.sigs k).map (fun n : Int => D.int .i64 n))))), (1000, (some (.box [(.d (.slice false 2 (x.sigs.map Sgn.d))), (.d (.slice false 1 (x.codes.map D.str))), (.d (.slice false 4 (x.arcs.map Arc.d)))])))], pin := [] }) (fun k => k ≤ x.sigs.length) (fun k => x.sigs.length - k) ⟨0, (by omega), (Wk.trans (Wk.nilrow 3 900003 1 rfl rfl rfl) (Wk.ren [(3, 900003)] rfl rfl rfl rfl (ai rfl (ai rfl (ai rfl (ai (vI (by first | rfl | omega | (simp; done) | (simp; omega))) trivial)))) (ai (oR (by first | rfl | (exact push rfl (selTo_yes (out_in (by assumption)))) | (exact congrArg (List.map _) (selTo_no (out_not (by assumption)))))) (ai rfl trivial))))⟩ (fun k hp0 => ?_)
 have hq := outK_le x.sigs k
 refine T_seq (T_region hc (Ch.s (.d (.bool (decide (((k : Nat) : Int) < ((x.sigs.length : Nat) : Int))))) (.pure (.int _ _ _ _ _ rfl rfl rfl rfl)) (Ch.nil (T_seq ?_))))
 refine T_cond (b := (decide (((k : Nat) : Int) < ((x.sigs.length : Nat) : Int)))) rfl (fun h1 => ?_) (fun h1 => ?_)
 ·
  replace h1 := of_decide_eq_true h1
  refine T_skip (T_seq (T_block (T_seq (T_region hc (Ch.s (.d (.int .i64 ((k : Nat) : Int))) pm (Ch.s (.d (.int .i64 ((k : Nat) : Int))) pa (Ch.nil ?_)))))))
  refine T_seq (T_region hc (Ch.s (.agg [(.d (.slice false 2 (x.sigs.map Sgn.d))), (.d (.slice false 1 (x.codes.map D.str))), (.d (.slice false 4 (x.arcs.map Arc.d)))]) (.pure (.loadPtrA _ _ rfl ag35 sz35 rfl rfl (Nat.le_of_ble_eq_true rfl) rfl)) (Ch.s (.d (.int .i64 ((k : Nat) : Int))) pm (Ch.s (.d (.bool (!(inputB x ((k : Nat) : Int))))) (.call 13000 203 _ _ _ en203 rfl (.inl rfl) (.cons (.lend (.agg (.cons (.d _) (.cons (.d _) (.cons (.d _) .nil))) rfl)) (.cons (.d _) .nil)) rfl rfl (sp_spec_l6Own x ((k : Nat) : Int) (by first | assumption | omega | (rw [List.length_take]; omega) | (have := bulkF_mem hb _ (getD_mem (d := default) (by omega)); assumption) | (unfold bulkS at *; omega) | (simp_all; done)) (by first | assumption | omega)) (.skip _ _ (.skip _ _ .nil)) rfl) (Ch.nil ?_)))))
  refine T_cond (b := (!(inputB x ((k : Nat) : Int)))) rfl (fun h2 => ?_) (fun h2 => ?_)
  ·
   replace h2 := nott h2
   refine T_region hc (Ch.s (.row 3) pm (Ch.s (.d (.int .i64 ((k : Nat) : Int))) pm (Ch.s (.row 16000) (.slice 16000 _ 3 _ rfl sty55 (xs := [.tmp 15]) rfl rfl (.cons (.d _) .nil) rfl rfl (by decide)) ?_)))
   refine Ch.step (v := (.row 17000)) rfl (.append 17000 _ _ _ 3 rfl sty55 (by decide) (.rowK rfl) (.inr ⟨_, rfl, rfl⟩) (.row rfl rfl) rfl (by first | omega | (simp only [List.length_append, List.length_map, List.length_cons, List.length_nil]; omega) | (simp; omega) | (simp; done))) rfl rfl ?_
   refine Ch.s (.row 17000) pa (Ch.nil (T_region hc (Ch.s (.d (.int .i64 (((k : Nat) : Int) + 1))) (.pure (.int _ _ _ _ _ rfl rfl rfl intV_addA)) (Ch.s (.d (.int .i64 (((k : Nat) : Int) + 1))) pm (Ch.nil ?_)))))
   exact nx (k + 1) (by omega) (Wk.ren [(3, 17000)] rfl rfl rfl rfl (ai rfl (ai rfl (ai rfl (ai (vI (by first | rfl | omega | (simp; done) | (simp; omega))) trivial)))) (ai (oR (by first | rfl | (exact push rfl (selTo_yes (out_in (by assumption)))) | (exact congrArg (List.map _) (selTo_no (out_not (by assumption)))))) (ai rfl trivial)))
  ·
   replace h2 := notf h2
   refine T_skip (T_region hc (Ch.s (.d (.int .i64 (((k : Nat) : Int) + 1))) (.pure (.int _ _ _ _ _ rfl rfl rfl intV_addA)) (Ch.s (.d (.int .i64 (((k : Nat) : Int) + 1))) pm (Ch.nil ?_))))
   exact nx (k + 1) (by omega) (Wk.of rfl rfl (ai rfl (ai rfl (ai rfl (ai (vI (by first | rfl | omega | (simp; done) | (simp; omega))) trivial)))) (ai (oR (by first | rfl | (exact push rfl (selTo_yes (out_in (by assumption)))) | (exact congrArg (List.map _) (selTo_no (out_not (by assumption)))))) (ai rfl trivial)))
 ·
  replace h1 := of_decide_eq_false h1
  refine T_exit (T_seq (T_region hc (Ch.s (.row 3) pm (Ch.s (.row 3) pa (Ch.nil (T_ret ?_))))))
  exact endR [(.row 3)] [] [3] (.cons (.tmp 2 rfl) .nil) (.cons (.any _) .nil) (Exp.of (congrArg (D.slice true 1) (by rw [outsL, show x.sigs.length = k by omega])) (.row rfl)) rfl rfl

set_option maxHeartbeats 2000000 in
theorem sp_impl_violations (x : Sgr) (hb : x.bulk ≤ 1048576) (hx : SgOk x) : Sp Tryz.prog 283 [(.agg [(.slice false 2 (x.sigs.map Sgn.d)), (.slice false 1 (x.codes.map D.str)), (.slice false 4 (x.arcs.map Arc.d))])] [.any] (.slice true 3 ((pvL x).map Pvi.d)) := by
 refine Sp_intro (lend := true) Tryz.func283 rfl rfl rfl (fun _ => rfl) (fun c hc hX => ?_)
 obtain ⟨hp0, hp1, hp2⟩ := Sgr.parts hb
 have hn0 := bulkF_len hp0
 have hn1 := bulk_len hp1
 have hx1 := bulk_mem hp1
 have hn2 := bulkF_len hp2; have hx8 := hx.eight; have hxl := hx.len; have hxf := hx.few; have hen := hx.ends; have hml : (masksL x).length = x.codes.length := masksTo_len x _; have hnl := nxTo_len x x.arcs.length; have hm6 := fun j => masksTo_lt (x := x) (fun a ha => by have := hx.sig a ha; omega) x.arcs.length j
 refine T_seq (T_region hc (Ch.s (.ptr 1000 0) (.box 1000 _ _ rfl (.aggD _)) (Ch.s (.c (.slice none 0 0)) pa (Ch.nil (T_seq ?_)))))
 refine T_regionD hc (by kernel_rfl) ?_
 refine ChD.s (.row 11000) [] (.slice 11000 _ 216 _ rfl sty175 (xs := []) rfl rfl .nil rfl rfl (by decide)) (ChD.s (.agg [(.d (.slice false 2 (x.sigs.map Sgn.d))), (.d (.slice false 1 (x.codes.map D.str))), (.d (.slice false 4 (x.arcs.map Arc.d)))]) [1000] (.pure (.loadPtrA _ _ rfl ag35 sz35 rfl rfl (Nat.le_of_ble_eq_true rfl) rfl)) (ChD.s (.row 13000) [] (.call 13000 296 _ _ _ en296 rfl (.inl rfl) (.cons (.lend (.agg (.cons (.d _) (.cons (.d _) (.cons (.d _) .nil))) rfl)) .nil) rfl (sol (solid_row (fun _ => rfl) _) rfl) (sp_impl_labelMasks x (by first | assumption | omega | (rw [List.length_take]; omega) | (have := bulkF_mem hb _ (getD_mem (d := default) (by omega)); assumption) | (unfold bulkS at *; omega) | (simp_all; done)) (by assumption)) (.skip _ _ .nil) rfl) (ChD.s (.agg [(.d (.slice false 2 (x.sigs.map Sgn.d))), (.d (.slice false 1 (x.codes.map D.str))), (.d (.slice false 4 (x.arcs.map Arc.d)))]) [1000] (.pure (.loadPtrA _ _ rfl ag35 sz35 rfl rfl (Nat.le_of_ble_eq_true rfl) rfl)) (ChD.s (.row 15000) [] (.call 15000 297 _ _ _ en297 rfl (.inl rfl) (.cons (.lend (.agg (.cons (.d _) (.cons (.d _) (.cons (.d _) .nil))) rfl)) .nil) rfl (sol (solid_row intsU_sol _) rfl) (sp_impl_nextArcs x (by first | assumption | omega | (rw [List.length_take]; omega) | (have := bulkF_mem hb _ (getD_mem (d := default) (by omega)); assumption) | (unfold bulkS at *; omega) | (simp_all; done)) (by assumption)) (.skip _ _ .nil) rfl) (ChD.s (.row 11000) [] pa (ChD.s (.row 13000) [] pa (ChD.s (.row 15000) [] pa ?_)))))))
 refine ChD.nil (And.intro ?_ (by kernel_rfl))
 refine T_seq (T_seq (T_region hc (Ch.s (.ptr 1000 1) (.pure (.fldPtr _ _ _ rfl fld35_1 rfl)) (Ch.s (.d (.slice false 1 (x.codes.map D.str))) (.pure (.loadPtr1 _ _ rfl ag23 rfl rfl rfl)) (Ch.s (.d (.int .i64 ((x.codes.length : Nat) : Int))) (.pure (.len _ _ 9 rfl Tryz.underlying23 (.sh _ _) (by simp))) (Ch.s (.d (.int .i64 0)) pm (Ch.nil ?_)))))))
 refine T_block ?_
 refine T_loop (ι := Nat) (fun k => { n := 90, sl := [(1, (.ptr 1000 0)), (3, (.row 3)), (4, (.row 13000)), (5, (.row 15000)), (18, (.d (.int .i64 ((x.codes.length : Nat) : Int)))), (19, (.d (.int .i64 ((k : Nat) : Int))))], hp := [(3, (some (.row 3 ((pvTo x k).map Pvi.d)))), (1000, (some (.box [(.d (.slice false 2 (x.sigs.map Sgn.d))), (.d (.slice false 1 (x.codes.map D.str))), (.d (.slice false 4 (x.arcs.map Arc.d)))]))), (13000, (some (.row 1 ((masksL x).map (fun n : Nat => D.int .i64 (n : Int)))))), (15000, (some (.row 1 ((nxTo x x.arcs.length).map intsU))))], pin := [] }) (fun k => k ≤ x.codes.length) (fun k => x.codes.length - k) ⟨0, (by omega), (Wk.ren [(3, 11000)] rfl rfl rfl rfl (ai rfl (ai rfl (ai rfl (ai rfl (ai rfl (ai (vI (by first | rfl | omega | (simp; done) | (simp; omega))) trivial)))))) (ai (oR (by first | rfl | (exact congrArg (List.map _) (pvA_end (by omega))))) (ai rfl (ai rfl (ai rfl trivial)))))⟩ (fun k hp0 => ?_)
 refine T_seq (T_region hc (Ch.s (.d (.bool (decide (((k : Nat) : Int) < ((x.codes.length : Nat) : Int))))) (.pure (.int _ _ _ _ _ rfl rfl rfl rfl)) (Ch.nil (T_seq ?_))))
 refine T_cond (b := (decide (((k : Nat) : Int) < ((x.codes.length : Nat) : Int)))) rfl (fun h1 => ?_) (fun h1 => ?_)
 ·
  replace h1 := of_decide_eq_true h1
  refine T_skip (T_seq (T_block (T_seq (T_region hc (Ch.s (.d (.int .i64 ((k : Nat) : Int))) pm (Ch.s (.d (.int .i64 ((k : Nat) : Int))) pa (Ch.nil ?_)))))))
  refine T_seq (T_region hc (Ch.s (.ptr 1000 0) (.pure (.fldPtr _ _ _ rfl fld35_0 rfl)) (Ch.s (.d (.slice false 2 (x.sigs.map Sgn.d))) (.pure (.loadPtr1 _ _ rfl ag32 rfl rfl rfl)) (Ch.s (.d (.int .i64 ((x.sigs.length : Nat) : Int))) (.pure (.len _ _ 154 rfl Tryz.underlying32 (.sh _ _) (by simp))) (Ch.s (.d (.int .i64 0)) pm (Ch.nil (T_block ?_)))))))
  refine T_loop (ι := Nat) (fun s => { n := 90, sl := [(1, (.ptr 1000 0)), (3, (.row 3)), (4, (.row 13000)), (5, (.row 15000)), (6, (.d (.int .i64 ((k : Nat) : Int)))), (18, (.d (.int .i64 ((x.codes.length : Nat) : Int)))), (19, (.d (.int .i64 ((k : Nat) : Int)))), (24, (.d (.int .i64 ((x.sigs.length : Nat) : Int)))), (25, (.d (.int .i64 ((s : Nat) : Int))))], hp := [(3, (some (.row 3 ((pvA x k s).map Pvi.d)))), (1000, (some (.box [(.d (.slice false 2 (x.sigs.map Sgn.d))), (.d (.slice false 1 (x.codes.map D.str))), (.d (.slice false 4 (x.arcs.map Arc.d)))]))), (13000, (some (.row 1 ((masksL x).map (fun n : Nat => D.int .i64 (n : Int)))))), (15000, (some (.row 1 ((nxTo x x.arcs.length).map intsU))))], pin := [] }) (fun s => s ≤ x.sigs.length) (fun s => x.sigs.length - s) ⟨0, (by omega), (Wk.of rfl rfl (ai rfl (ai rfl (ai rfl (ai rfl (ai rfl (ai rfl (ai rfl (ai rfl (ai (vI (by first | rfl | omega | (simp; done) | (simp; omega))) trivial))))))))) (ai (oR (by first | (exact congrArg (List.map _) (pvA_zero x k)) | (exact congrArg (List.map _) (pvA_no (by first | assumption | exact two_n0 hx (by omega) (by assumption)))) | (exact congrArg (List.map _) (pvB_end hx (by omega) (two_n1 hx (by omega) (by assumption)) (by omega))) | (exact congrArg (List.map _) (pvC_end (by assumption) (by omega))))) (ai rfl (ai rfl (ai rfl trivial)))))⟩ (fun s hp1 => ?_)
  refine T_seq (T_region hc (Ch.s (.d (.bool (decide (((s : Nat) : Int) < ((x.sigs.length : Nat) : Int))))) (.pure (.int _ _ _ _ _ rfl rfl rfl rfl)) (Ch.nil (T_seq ?_))))
  refine T_cond (b := (decide (((s : Nat) : Int) < ((x.sigs.length : Nat) : Int)))) rfl (fun h2 => ?_) (fun h2 => ?_)
  ·
   replace h2 := of_decide_eq_true h2
   try have hmk := hm6 k
   try have hnt := (nx_mem hen (j := k) (i := ((nxTo x x.arcs.length).getD k default).getD m default) x.arcs.length (Nat.le_refl _)).1 (getD_mem (by omega))
   try have hek := hen _ (getD_mem (l := x.arcs) (j := (((nxTo x x.arcs.length).getD k default).getD m default).toNat) (d := default) (by omega))
   try have hsk := (hx.sig _ (getD_mem (l := x.arcs) (j := (((nxTo x x.arcs.length).getD k default).getD m default).toNat) (d := default) (by omega))).1
   try have hm7 := hm6 (x.arcs.getD (((nxTo x x.arcs.length).getD k default).getD m default).toNat default).dst.toNat
   refine T_skip (T_seq (T_block (T_seq (T_region hc (Ch.s (.d (.int .i64 ((s : Nat) : Int))) pm (Ch.s (.d (.int .i64 ((s : Nat) : Int))) pa (Ch.nil ?_)))))))
   refine T_seq (T_seq (T_region hc (Ch.s (.row 13000) pm (Ch.s (.d (.int .i64 ((k : Nat) : Int))) pm (Ch.s (.el 13000 1 k 0) (.pure (.idxRow _ _ _ 3 (k) rfl Tryz.underlying55 sz3 rfl rfl rfl rfl (by first | omega | (simp only [List.length_map, List.length_set]; omega) | (simp; omega)))) (Ch.s (.d (.int .i64 ((((masksL x).getD k default) : Nat) : Int))) (.pure (.loadEl1 _ _ rfl ag3 rfl rfl get_mapA rfl rfl rfl)) (Ch.s (.d (.int .i64 ((s : Nat) : Int))) pm ?_)))))))
   refine Ch.s (.d (.int .i64 (2 * ((s : Nat) : Int)))) (.pure (.int _ _ _ _ _ rfl rfl rfl (intV_mul (by first | omega | (simp only [List.length_map, List.length_append, List.length_take, List.length_drop, List.length_cons, List.length_nil]; omega) | (simp; omega) | (simp; done)) (by first | omega | (simp only [List.length_map, List.length_append, List.length_take, List.length_drop, List.length_cons, List.length_nil]; omega) | (simp; omega) | (simp; done))))) (Ch.s (.d (.int .i64 ((((masksL x).getD k default) >>> (((2 * ((s : Nat) : Int))).toNat) : Nat) : Int))) (.pure (.shift _ _ _ _ _ rfl rfl rfl (i64_shr (m := ((masksL x).getD k default)) (n := ((2 * ((s : Nat) : Int))).toNat) (by omega) (by first | omega | (simp only [List.length_map, List.length_append, List.length_take, List.length_drop, List.length_cons, List.length_nil]; omega) | (simp; omega) | (simp; done))))) (Ch.s (.d (.int .i64 ((two ((masksL x).getD k default) (((2 * ((s : Nat) : Int))).toNat) : Nat) : Int))) (.pure (.int _ _ _ _ _ rfl rfl rfl (i64_and3 (((masksL x).getD k default) >>> (((2 * ((s : Nat) : Int))).toNat))))) (Ch.s (.d (.bool (decide (((two ((masksL x).getD k default) (((2 * ((s : Nat) : Int))).toNat) : Nat) : Int) = 0)))) (.pure (.int _ _ _ _ _ rfl rfl rfl rfl)) (Ch.nil ?_))))
   refine T_cond (b := (decide (((two ((masksL x).getD k default) (((2 * ((s : Nat) : Int))).toNat) : Nat) : Int) = 0))) rfl (fun h3 => ?_) (fun h3 => ?_)
   ·
    replace h3 := of_decide_eq_true h3
    try have hmk := hm6 k
    try have hnt := (nx_mem hen (j := k) (i := ((nxTo x x.arcs.length).getD k default).getD m default) x.arcs.length (Nat.le_refl _)).1 (getD_mem (by omega))
    try have hek := hen _ (getD_mem (l := x.arcs) (j := (((nxTo x x.arcs.length).getD k default).getD m default).toNat) (d := default) (by omega))
    try have hsk := (hx.sig _ (getD_mem (l := x.arcs) (j := (((nxTo x x.arcs.length).getD k default).getD m default).toNat) (d := default) (by omega))).1
    try have hm7 := hm6 (x.arcs.getD (((nxTo x x.arcs.length).getD k default).getD m default).toNat default).dst.toNat
    refine T_exit (T_region hc (Ch.s (.d (.int .i64 (((s : Nat) : Int) + 1))) (.pure (.int _ _ _ _ _ rfl rfl rfl intV_addA)) (Ch.s (.d (.int .i64 (((s : Nat) : Int) + 1))) pm (Ch.nil ?_))))
    exact nx (s + 1) (by omega) (Wk.of rfl rfl (ai rfl (ai rfl (ai rfl (ai rfl (ai rfl (ai rfl (ai rfl (ai rfl (ai (vI (by first | rfl | omega | (simp; done) | (simp; omega))) trivial))))))))) (ai (oR (by first | (exact congrArg (List.map _) (pvA_zero x k)) | (exact congrArg (List.map _) (pvA_no (by first | assumption | exact two_n0 hx (by omega) (by assumption)))) | (exact congrArg (List.map _) (pvB_end hx (by omega) (two_n1 hx (by omega) (by assumption)) (by omega))) | (exact congrArg (List.map _) (pvC_end (by assumption) (by omega))))) (ai rfl (ai rfl (ai rfl trivial)))))
   ·
    replace h3 := of_decide_eq_false h3
    try have hmk := hm6 k
    try have hnt := (nx_mem hen (j := k) (i := ((nxTo x x.arcs.length).getD k default).getD m default) x.arcs.length (Nat.le_refl _)).1 (getD_mem (by omega))
    try have hek := hen _ (getD_mem (l := x.arcs) (j := (((nxTo x x.arcs.length).getD k default).getD m default).toNat) (d := default) (by omega))
    try have hsk := (hx.sig _ (getD_mem (l := x.arcs) (j := (((nxTo x x.arcs.length).getD k default).getD m default).toNat) (d := default) (by omega))).1
    try have hm7 := hm6 (x.arcs.getD (((nxTo x x.arcs.length).getD k default).getD m default).toNat default).dst.toNat
    refine T_skip (T_seq ?_)
    refine T_take 15000 k 7000002 7000003 rfl get_mapA rfl rfl (fun u1 => ?_)
    refine T_region hc (Ch.s (.row 15000) pm (Ch.s (.d (.int .i64 ((k : Nat) : Int))) pm (Ch.s (.el 15000 1 k 0) (.pure (.idxRow _ _ _ 55 (k) rfl Tryz.underlying49 sz55 rfl rfl rfl rfl (by first | omega | (simp only [List.length_map, List.length_set]; omega) | (simp; omega)))) (Ch.s (.row 7000002) (.pure (.loadHole (n := 7000002) (m := 7000003) (u := u1) _ _ rfl ag55 rfl rfl (get_set (by first | omega | (simp only [List.length_map, List.length_set]; omega) | (simp; omega))) rfl rfl)) (Ch.s (.d (.int .i64 ((((nxTo x x.arcs.length).getD k default).length : Nat) : Int))) (.pure (.len _ _ 3 rfl Tryz.underlying55 (.row rfl) (by simp))) (Ch.s (.d (.int .i64 0)) pm (Ch.nil ?_)))))))
    refine T_block ?_
    refine T_loop (ι := Nat) (fun m => { n := 90, sl := [(1, (.ptr 1000 0)), (3, (.row 3)), (4, (.row 13000)), (5, (.row 15000)), (6, (.d (.int .i64 ((k : Nat) : Int)))), (7, (.d (.int .i64 ((s : Nat) : Int)))), (18, (.d (.int .i64 ((x.codes.length : Nat) : Int)))), (19, (.d (.int .i64 ((k : Nat) : Int)))), (24, (.d (.int .i64 ((x.sigs.length : Nat) : Int)))), (25, (.d (.int .i64 ((s : Nat) : Int)))), (40, (.row 7000002)), (41, (.d (.int .i64 ((((nxTo x x.arcs.length).getD k default).length : Nat) : Int)))), (42, (.d (.int .i64 ((m : Nat) : Int))))], hp := [(3, (some (.row 3 ((pvB x k s ((nxTo x x.arcs.length).getD k default) m).map Pvi.d)))), (1000, (some (.box [(.d (.slice false 2 (x.sigs.map Sgn.d))), (.d (.slice false 1 (x.codes.map D.str))), (.d (.slice false 4 (x.arcs.map Arc.d)))]))), (13000, (some (.row 1 ((masksL x).map (fun n : Nat => D.int .i64 (n : Int)))))), (15000, (some (.row 1 ((((nxTo x x.arcs.length).map intsU)).set k (.hole u1))))), (7000002, (some (.row 1 (((nxTo x x.arcs.length).getD k default).map (fun n : Int => D.int .i64 n))))), (7000003, (some (.head 7000002 u1)))], pin := [] }) (fun m => m ≤ ((nxTo x x.arcs.length).getD k default).length) (fun m => ((nxTo x x.arcs.length).getD k default).length - m) ⟨0, (by omega), (Wk.of rfl rfl (ai rfl (ai rfl (ai rfl (ai rfl (ai rfl (ai rfl (ai rfl (ai rfl (ai rfl (ai rfl (ai rfl (ai rfl (ai (vI (by first | rfl | omega | (simp; done) | (simp; omega))) trivial))))))))))))) (ai (oR (by first | (exact congrArg (List.map _) (pvB_zero x k s _)) | (exact push rfl (pvB_yes (by omega) (by omega) (pvQ_yes (by assumption) (by first | assumption | exact two_i0 hx (by omega) (by assumption)) (by first | exact .inl (by assumption) | exact .inr (by assumption))))) | (exact congrArg (List.map _) (pvB_no (by omega) (pvQ_no1 (by assumption)))) | (exact congrArg (List.map _) (pvB_no (by omega) (pvQ_no2 (by first | assumption | exact two_i1 hx (by omega) (by assumption))))) | (exact congrArg (List.map _) (pvB_no (by omega) (pvQ_no3 (by assumption) (by assumption)))))) (ai rfl (ai rfl (ai rfl (ai rfl (ai rfl trivial)))))))⟩ (fun m hp2 => ?_)
    have hTl := nx_le x _ (Nat.le_refl _) k; have hq := pvB_le hxf hx8.2 (k := k) (s := s) (m := m) (by omega) (by omega) (T := ((nxTo x x.arcs.length).getD k default)) (Nat.le_trans (nx_le x _ (Nat.le_refl _) k) hxf)
    refine T_seq (T_region hc (Ch.s (.d (.bool (decide (((m : Nat) : Int) < ((((nxTo x x.arcs.length).getD k default).length : Nat) : Int))))) (.pure (.int _ _ _ _ _ rfl rfl rfl rfl)) (Ch.nil (T_seq ?_))))
    refine T_cond (b := (decide (((m : Nat) : Int) < ((((nxTo x x.arcs.length).getD k default).length : Nat) : Int)))) rfl (fun h4 => ?_) (fun h4 => ?_)
    ·
     replace h4 := of_decide_eq_true h4
     try have hmk := hm6 k
     try have hnt := (nx_mem hen (j := k) (i := ((nxTo x x.arcs.length).getD k default).getD m default) x.arcs.length (Nat.le_refl _)).1 (getD_mem (by omega))
     try have hek := hen _ (getD_mem (l := x.arcs) (j := (((nxTo x x.arcs.length).getD k default).getD m default).toNat) (d := default) (by omega))
     try have hsk := (hx.sig _ (getD_mem (l := x.arcs) (j := (((nxTo x x.arcs.length).getD k default).getD m default).toNat) (d := default) (by omega))).1
     try have hm7 := hm6 (x.arcs.getD (((nxTo x x.arcs.length).getD k default).getD m default).toNat default).dst.toNat
     refine T_skip (T_seq (T_block (T_seq (T_region hc (Ch.s (.el 7000002 1 m 0) (.pure (.idxRow _ _ _ 3 (m) rfl Tryz.underlying55 sz3 rfl rfl rfl rfl (by first | omega | (simp only [List.length_map, List.length_set]; omega) | (simp; omega)))) (Ch.s (.d (.int .i64 (((nxTo x x.arcs.length).getD k default).getD m default))) (.pure (.loadEl1 _ _ rfl ag3 rfl rfl get_mapA rfl rfl rfl)) (Ch.s (.d (.int .i64 (((nxTo x x.arcs.length).getD k default).getD m default))) pa ?_)))))))
     refine Ch.nil (T_seq (T_region hc (Ch.s (.ptr 1000 2) (.pure (.fldPtr _ _ _ rfl fld35_2 rfl)) (Ch.s (.d (.slice false 4 (x.arcs.map Arc.d))) (.pure (.loadPtr1 _ _ rfl ag33 rfl rfl rfl)) (Ch.s (.d (.int .i64 (((nxTo x x.arcs.length).getD k default).getD m default))) pm (Ch.s (.d (.ref (.agg [(.int .i64 ((x.arcs.getD (((((nxTo x x.arcs.length).getD k default).getD m default)).toNat) default).src)), (.int .i64 ((x.arcs.getD (((((nxTo x x.arcs.length).getD k default).getD m default)).toNat) default).sig)), (.bool ((x.arcs.getD (((((nxTo x x.arcs.length).getD k default).getD m default)).toNat) default).up)), (.int .i64 ((x.arcs.getD (((((nxTo x x.arcs.length).getD k default).getD m default)).toNat) default).dst))]))) (.pure (.idx _ _ _ 125 (((((nxTo x x.arcs.length).getD k default).getD m default)).toNat) rfl Tryz.underlying33 sz125 rfl rfl (by omega) get_mapA)) (Ch.s (.d (.agg [(.int .i64 ((x.arcs.getD (((((nxTo x x.arcs.length).getD k default).getD m default)).toNat) default).src)), (.int .i64 ((x.arcs.getD (((((nxTo x x.arcs.length).getD k default).getD m default)).toNat) default).sig)), (.bool ((x.arcs.getD (((((nxTo x x.arcs.length).getD k default).getD m default)).toNat) default).up)), (.int .i64 ((x.arcs.getD (((((nxTo x x.arcs.length).getD k default).getD m default)).toNat) default).dst))])) (.pure (.loadRefA _ _ rfl ag125 sz125 rfl)) ?_)))))))
     refine Ch.s (.ptr 10000 0) (.alloc 10000 _ rfl zer125) (Ch.s .junk (.storePtr _ _ _ rfl rfl rfl (.aggD _) sz125 (Nat.le_of_ble_eq_true rfl)) (Ch.nil (T_seq (T_region hc (Ch.s (.ptr 10000 1) (.pure (.fldPtr _ _ _ rfl fld125_1 rfl)) (Ch.s (.d (.int .i64 ((x.arcs.getD (((((nxTo x x.arcs.length).getD k default).getD m default)).toNat) default).sig))) (.pure (.loadPtr1 _ _ rfl ag3 rfl rfl rfl)) (Ch.s (.d (.int .i64 ((s : Nat) : Int))) pm ?_)))))))
     refine Ch.s (.d (.bool (!(decide (((x.arcs.getD (((((nxTo x x.arcs.length).getD k default).getD m default)).toNat) default).sig) = ((s : Nat) : Int)))))) (.pure (.int _ _ _ _ _ rfl rfl rfl rfl)) (Ch.s (.d (.bool (!(decide (((x.arcs.getD (((((nxTo x x.arcs.length).getD k default).getD m default)).toNat) default).sig) = ((s : Nat) : Int)))))) pm ?_)
     cases h5 : (decide (((x.arcs.getD (((((nxTo x x.arcs.length).getD k default).getD m default)).toNat) default).sig) = ((s : Nat) : Int))) with
     | true =>
      replace h5 := of_decide_eq_true h5
      refine Ch.skip rfl rfl (Ch.skip rfl rfl (Ch.skip rfl rfl (Ch.skip rfl rfl (Ch.skip rfl rfl (Ch.skip rfl rfl (Ch.skip rfl rfl (Ch.skip rfl rfl ?_)))))))
      refine Ch.skip rfl rfl (Ch.skip rfl rfl (Ch.s (.d (.bool false)) (.pure (.pickF _ _ _ rfl rfl rfl)) (Ch.s (.d (.bool false)) pm (Ch.skip rfl rfl (Ch.skip rfl rfl (Ch.skip rfl rfl (Ch.skip rfl rfl ?_)))))))
      refine Ch.skip rfl rfl (Ch.skip rfl rfl (Ch.skip rfl rfl (Ch.skip rfl rfl (Ch.skip rfl rfl (Ch.skip rfl rfl (Ch.s (.d (.bool false)) (.pure (.pickF _ _ _ rfl rfl rfl)) (Ch.nil ?_)))))))
      refine T_cond (b := false) rfl (fun h => nomatch h) (fun _ => ?_)
      refine T_skip (T_region hc (Ch.s (.d (.int .i64 (((m : Nat) : Int) + 1))) (.pure (.int _ _ _ _ _ rfl rfl rfl intV_addA)) (Ch.s (.d (.int .i64 (((m : Nat) : Int) + 1))) pm (Ch.nil ?_))))
      exact nx (m + 1) (by omega) (Wk.of rfl rfl (ai rfl (ai rfl (ai rfl (ai rfl (ai rfl (ai rfl (ai rfl (ai rfl (ai rfl (ai rfl (ai rfl (ai rfl (ai (vI (by first | rfl | omega | (simp; done) | (simp; omega))) trivial))))))))))))) (ai (oR (by first | (exact congrArg (List.map _) (pvB_zero x k s _)) | (exact push rfl (pvB_yes (by omega) (by omega) (pvQ_yes (by assumption) (by first | assumption | exact two_i0 hx (by omega) (by assumption)) (by first | exact .inl (by assumption) | exact .inr (by assumption))))) | (exact congrArg (List.map _) (pvB_no (by omega) (pvQ_no1 (by assumption)))) | (exact congrArg (List.map _) (pvB_no (by omega) (pvQ_no2 (by first | assumption | exact two_i1 hx (by omega) (by assumption))))) | (exact congrArg (List.map _) (pvB_no (by omega) (pvQ_no3 (by assumption) (by assumption)))))) (ai rfl (ai rfl (ai rfl (ai rfl (ai rfl trivial)))))))
     | false =>
      replace h5 := of_decide_eq_false h5
      refine Ch.s (.row 13000) pm (Ch.s (.ptr 10000 3) (.pure (.fldPtr _ _ _ rfl fld125_3 rfl)) (Ch.s (.d (.int .i64 ((x.arcs.getD (((((nxTo x x.arcs.length).getD k default).getD m default)).toNat) default).dst))) (.pure (.loadPtr1 _ _ rfl ag3 rfl rfl rfl)) (Ch.s (.el 13000 1 ((((x.arcs.getD (((((nxTo x x.arcs.length).getD k default).getD m default)).toNat) default).dst)).toNat) 0) (.pure (.idxRow _ _ _ 3 ((((x.arcs.getD (((((nxTo x x.arcs.length).getD k default).getD m default)).toNat) default).dst)).toNat) rfl Tryz.underlying55 sz3 rfl rfl rfl (by omega) (by first | omega | (simp only [List.length_map, List.length_set]; omega) | (simp; omega)))) (Ch.s (.d (.int .i64 ((((masksL x).getD ((((x.arcs.getD (((((nxTo x x.arcs.length).getD k default).getD m default)).toNat) default).dst)).toNat) default) : Nat) : Int))) (.pure (.loadEl1 _ _ rfl ag3 rfl rfl get_mapA rfl rfl rfl)) (Ch.s (.d (.int .i64 ((s : Nat) : Int))) pm (Ch.s (.d (.int .i64 (2 * ((s : Nat) : Int)))) (.pure (.int _ _ _ _ _ rfl rfl rfl (intV_mul (by first | omega | (simp only [List.length_map, List.length_append, List.length_take, List.length_drop, List.length_cons, List.length_nil]; omega) | (simp; omega) | (simp; done)) (by first | omega | (simp only [List.length_map, List.length_append, List.length_take, List.length_drop, List.length_cons, List.length_nil]; omega) | (simp; omega) | (simp; done))))) (Ch.s (.d (.int .i64 ((((masksL x).getD ((((x.arcs.getD (((((nxTo x x.arcs.length).getD k default).getD m default)).toNat) default).dst)).toNat) default) >>> (((2 * ((s : Nat) : Int))).toNat) : Nat) : Int))) (.pure (.shift _ _ _ _ _ rfl rfl rfl (i64_shr (m := ((masksL x).getD ((((x.arcs.getD (((((nxTo x x.arcs.length).getD k default).getD m default)).toNat) default).dst)).toNat) default)) (n := ((2 * ((s : Nat) : Int))).toNat) (by omega) (by first | omega | (simp only [List.length_map, List.length_append, List.length_take, List.length_drop, List.length_cons, List.length_nil]; omega) | (simp; omega) | (simp; done))))) ?_)))))))
      refine Ch.s (.d (.int .i64 ((two ((masksL x).getD ((((x.arcs.getD (((((nxTo x x.arcs.length).getD k default).getD m default)).toNat) default).dst)).toNat) default) (((2 * ((s : Nat) : Int))).toNat) : Nat) : Int))) (.pure (.int _ _ _ _ _ rfl rfl rfl (i64_and3 (((masksL x).getD ((((x.arcs.getD (((((nxTo x x.arcs.length).getD k default).getD m default)).toNat) default).dst)).toNat) default) >>> (((2 * ((s : Nat) : Int))).toNat))))) (Ch.s (.d (.bool (decide (((two ((masksL x).getD ((((x.arcs.getD (((((nxTo x x.arcs.length).getD k default).getD m default)).toNat) default).dst)).toNat) default) (((2 * ((s : Nat) : Int))).toNat) : Nat) : Int) = 0)))) (.pure (.int _ _ _ _ _ rfl rfl rfl rfl)) (Ch.s (.d (.bool (decide (((two ((masksL x).getD ((((x.arcs.getD (((((nxTo x x.arcs.length).getD k default).getD m default)).toNat) default).dst)).toNat) default) (((2 * ((s : Nat) : Int))).toNat) : Nat) : Int) = 0)))) (.pure (.pickT _ _ _ rfl rfl rfl)) (Ch.s (.d (.bool (decide (((two ((masksL x).getD ((((x.arcs.getD (((((nxTo x x.arcs.length).getD k default).getD m default)).toNat) default).dst)).toNat) default) (((2 * ((s : Nat) : Int))).toNat) : Nat) : Int) = 0)))) pm ?_)))
      cases h6 : (decide (((two ((masksL x).getD ((((x.arcs.getD (((((nxTo x x.arcs.length).getD k default).getD m default)).toNat) default).dst)).toNat) default) (((2 * ((s : Nat) : Int))).toNat) : Nat) : Int) = 0)) with
      | true =>
       replace h6 := of_decide_eq_true h6
       refine Ch.s (.agg [(.d (.slice false 2 (x.sigs.map Sgn.d))), (.d (.slice false 1 (x.codes.map D.str))), (.d (.slice false 4 (x.arcs.map Arc.d)))]) (.pure (.loadPtrA _ _ rfl ag35 sz35 rfl rfl (Nat.le_of_ble_eq_true rfl) rfl)) (Ch.s (.d (.int .i64 ((s : Nat) : Int))) pm (Ch.s (.d (.bool (inputB x ((s : Nat) : Int)))) (.call 70000 298 _ _ _ en298 rfl (.inl rfl) (.cons (.lend (.agg (.cons (.d _) (.cons (.d _) (.cons (.d _) .nil))) rfl)) (.cons (.d _) .nil)) rfl rfl (sp_impl_isInput x ((s : Nat) : Int) (by first | assumption | omega | (rw [List.length_take]; omega) | (have := bulkF_mem hb _ (getD_mem (d := default) (by omega)); assumption) | (unfold bulkS at *; omega) | (simp_all; done)) (by first | assumption | omega)) (.skip _ _ (.skip _ _ .nil)) rfl) (Ch.s (.d (.bool (inputB x ((s : Nat) : Int)))) pm ?_)))
       cases h7 : (inputB x ((s : Nat) : Int)) with
       | true =>
        refine Ch.s (.agg [(.d (.slice false 2 (x.sigs.map Sgn.d))), (.d (.slice false 1 (x.codes.map D.str))), (.d (.slice false 4 (x.arcs.map Arc.d)))]) (.pure (.loadPtrA _ _ rfl ag35 sz35 rfl rfl (Nat.le_of_ble_eq_true rfl) rfl)) (Ch.s (.ptr 10000 1) (.pure (.fldPtr _ _ _ rfl fld125_1 rfl)) (Ch.s (.d (.int .i64 ((x.arcs.getD (((((nxTo x x.arcs.length).getD k default).getD m default)).toNat) default).sig))) (.pure (.loadPtr1 _ _ rfl ag3 rfl rfl rfl)) (Ch.s (.d (.bool (inputB x ((x.arcs.getD (((((nxTo x x.arcs.length).getD k default).getD m default)).toNat) default).sig)))) (.call 75000 298 _ _ _ en298 rfl (.inl rfl) (.cons (.lend (.agg (.cons (.d _) (.cons (.d _) (.cons (.d _) .nil))) rfl)) (.cons (.d _) .nil)) rfl rfl (sp_impl_isInput x ((x.arcs.getD (((((nxTo x x.arcs.length).getD k default).getD m default)).toNat) default).sig) (by first | assumption | omega | (rw [List.length_take]; omega) | (have := bulkF_mem hb _ (getD_mem (d := default) (by omega)); assumption) | (unfold bulkS at *; omega) | (simp_all; done)) (by first | assumption | omega)) (.skip _ _ (.skip _ _ .nil)) rfl) (Ch.s (.d (.bool (inputB x ((x.arcs.getD (((((nxTo x x.arcs.length).getD k default).getD m default)).toNat) default).sig)))) (.pure (.pickT _ _ _ rfl rfl rfl)) (Ch.s (.d (.bool (!(inputB x ((x.arcs.getD (((((nxTo x x.arcs.length).getD k default).getD m default)).toNat) default).sig))))) (.pure (.not _ _ rfl rfl)) (Ch.s (.d (.bool (!(inputB x ((x.arcs.getD (((((nxTo x x.arcs.length).getD k default).getD m default)).toNat) default).sig))))) (.pure (.pickT _ _ _ rfl rfl rfl)) (Ch.nil ?_)))))))
        refine T_cond (b := (!(inputB x ((x.arcs.getD (((((nxTo x x.arcs.length).getD k default).getD m default)).toNat) default).sig)))) rfl (fun h8 => ?_) (fun h8 => ?_)
        ·
         replace h8 := nott h8
         refine T_region hc (Ch.s (.row 3) pm (Ch.s (.d (.int .i64 ((k : Nat) : Int))) pm (Ch.s (.d (.int .i64 ((s : Nat) : Int))) pm (Ch.s (.d (.int .i64 (((nxTo x x.arcs.length).getD k default).getD m default))) pm (Ch.s (.agg [(.d (.int .i64 ((k : Nat) : Int))), (.d (.int .i64 ((s : Nat) : Int))), (.d (.int .i64 (((nxTo x x.arcs.length).getD k default).getD m default)))]) (.build _ _ rfl stru216 (.cons (.one _ rfl) (.cons (.one _ rfl) (.cons (.one _ rfl) .nil))) rfl) (Ch.s (.row 84000) (.slice 84000 _ 216 _ rfl sty175 (xs := [.tmp 83]) rfl rfl (.cons (.agg (.cons (.d _) (.cons (.d _) (.cons (.d _) .nil))) rfl) .nil) rfl rfl (by decide)) ?_))))))
         refine Ch.step (v := (.row 85000)) rfl (.append 85000 _ _ _ 216 rfl sty175 (by decide) (.rowK rfl) (.inr ⟨_, rfl, rfl⟩) (.row rfl rfl) rfl (by first | omega | (simp only [List.length_append, List.length_map, List.length_cons, List.length_nil]; omega) | (simp; omega) | (simp; done))) rfl rfl ?_
         refine Ch.s (.row 85000) pa (Ch.nil (T_region hc (Ch.s (.d (.int .i64 (((m : Nat) : Int) + 1))) (.pure (.int _ _ _ _ _ rfl rfl rfl intV_addA)) (Ch.s (.d (.int .i64 (((m : Nat) : Int) + 1))) pm (Ch.nil ?_)))))
         exact nx (m + 1) (by omega) (Wk.ren [(3, 85000)] rfl rfl rfl rfl (ai rfl (ai rfl (ai rfl (ai rfl (ai rfl (ai rfl (ai rfl (ai rfl (ai rfl (ai rfl (ai rfl (ai rfl (ai (vI (by first | rfl | omega | (simp; done) | (simp; omega))) trivial))))))))))))) (ai (oR (by first | (exact congrArg (List.map _) (pvB_zero x k s _)) | (exact push rfl (pvB_yes (by omega) (by omega) (pvQ_yes (by assumption) (by first | assumption | exact two_i0 hx (by omega) (by assumption)) (by first | exact .inl (by assumption) | exact .inr (by assumption))))) | (exact congrArg (List.map _) (pvB_no (by omega) (pvQ_no1 (by assumption)))) | (exact congrArg (List.map _) (pvB_no (by omega) (pvQ_no2 (by first | assumption | exact two_i1 hx (by omega) (by assumption))))) | (exact congrArg (List.map _) (pvB_no (by omega) (pvQ_no3 (by assumption) (by assumption)))))) (ai rfl (ai rfl (ai rfl (ai rfl (ai rfl trivial)))))))
        ·
         replace h8 := notf h8
         refine T_skip (T_region hc (Ch.s (.d (.int .i64 (((m : Nat) : Int) + 1))) (.pure (.int _ _ _ _ _ rfl rfl rfl intV_addA)) (Ch.s (.d (.int .i64 (((m : Nat) : Int) + 1))) pm (Ch.nil ?_))))
         exact nx (m + 1) (by omega) (Wk.of rfl rfl (ai rfl (ai rfl (ai rfl (ai rfl (ai rfl (ai rfl (ai rfl (ai rfl (ai rfl (ai rfl (ai rfl (ai rfl (ai (vI (by first | rfl | omega | (simp; done) | (simp; omega))) trivial))))))))))))) (ai (oR (by first | (exact congrArg (List.map _) (pvB_zero x k s _)) | (exact push rfl (pvB_yes (by omega) (by omega) (pvQ_yes (by assumption) (by first | assumption | exact two_i0 hx (by omega) (by assumption)) (by first | exact .inl (by assumption) | exact .inr (by assumption))))) | (exact congrArg (List.map _) (pvB_no (by omega) (pvQ_no1 (by assumption)))) | (exact congrArg (List.map _) (pvB_no (by omega) (pvQ_no2 (by first | assumption | exact two_i1 hx (by omega) (by assumption))))) | (exact congrArg (List.map _) (pvB_no (by omega) (pvQ_no3 (by assumption) (by assumption)))))) (ai rfl (ai rfl (ai rfl (ai rfl (ai rfl trivial)))))))
       | false =>
        refine Ch.skip rfl rfl (Ch.skip rfl rfl (Ch.skip rfl rfl (Ch.skip rfl rfl (Ch.s (.d (.bool false)) (.pure (.pickF _ _ _ rfl rfl rfl)) (Ch.s (.d (.bool true)) (.pure (.not (b := false) _ _ rfl rfl)) (Ch.s (.d (.bool true)) (.pure (.pickT _ _ _ rfl rfl rfl)) (Ch.nil ?_)))))))
        refine T_cond (b := true) rfl (fun _ => ?_) (fun h => nomatch h)
        refine T_region hc (Ch.s (.row 3) pm (Ch.s (.d (.int .i64 ((k : Nat) : Int))) pm (Ch.s (.d (.int .i64 ((s : Nat) : Int))) pm (Ch.s (.d (.int .i64 (((nxTo x x.arcs.length).getD k default).getD m default))) pm (Ch.s (.agg [(.d (.int .i64 ((k : Nat) : Int))), (.d (.int .i64 ((s : Nat) : Int))), (.d (.int .i64 (((nxTo x x.arcs.length).getD k default).getD m default)))]) (.build _ _ rfl stru216 (.cons (.one _ rfl) (.cons (.one _ rfl) (.cons (.one _ rfl) .nil))) rfl) (Ch.s (.row 84000) (.slice 84000 _ 216 _ rfl sty175 (xs := [.tmp 83]) rfl rfl (.cons (.agg (.cons (.d _) (.cons (.d _) (.cons (.d _) .nil))) rfl) .nil) rfl rfl (by decide)) ?_))))))
        refine Ch.step (v := (.row 85000)) rfl (.append 85000 _ _ _ 216 rfl sty175 (by decide) (.rowK rfl) (.inr ⟨_, rfl, rfl⟩) (.row rfl rfl) rfl (by first | omega | (simp only [List.length_append, List.length_map, List.length_cons, List.length_nil]; omega) | (simp; omega) | (simp; done))) rfl rfl ?_
        refine Ch.s (.row 85000) pa (Ch.nil (T_region hc (Ch.s (.d (.int .i64 (((m : Nat) : Int) + 1))) (.pure (.int _ _ _ _ _ rfl rfl rfl intV_addA)) (Ch.s (.d (.int .i64 (((m : Nat) : Int) + 1))) pm (Ch.nil ?_)))))
        exact nx (m + 1) (by omega) (Wk.ren [(3, 85000)] rfl rfl rfl rfl (ai rfl (ai rfl (ai rfl (ai rfl (ai rfl (ai rfl (ai rfl (ai rfl (ai rfl (ai rfl (ai rfl (ai rfl (ai (vI (by first | rfl | omega | (simp; done) | (simp; omega))) trivial))))))))))))) (ai (oR (by first | (exact congrArg (List.map _) (pvB_zero x k s _)) | (exact push rfl (pvB_yes (by omega) (by omega) (pvQ_yes (by assumption) (by first | assumption | exact two_i0 hx (by omega) (by assumption)) (by first | exact .inl (by assumption) | exact .inr (by assumption))))) | (exact congrArg (List.map _) (pvB_no (by omega) (pvQ_no1 (by assumption)))) | (exact congrArg (List.map _) (pvB_no (by omega) (pvQ_no2 (by first | assumption | exact two_i1 hx (by omega) (by assumption))))) | (exact congrArg (List.map _) (pvB_no (by omega) (pvQ_no3 (by assumption) (by assumption)))))) (ai rfl (ai rfl (ai rfl (ai rfl (ai rfl trivial)))))))
      | false =>
       replace h6 := of_decide_eq_false h6
       refine Ch.skip rfl rfl (Ch.skip rfl rfl (Ch.skip rfl rfl (Ch.skip rfl rfl (Ch.skip rfl rfl (Ch.skip rfl rfl (Ch.skip rfl rfl (Ch.skip rfl rfl ?_)))))))
       refine Ch.skip rfl rfl (Ch.skip rfl rfl (Ch.s (.d (.bool false)) (.pure (.pickF _ _ _ rfl rfl rfl)) (Ch.nil ?_)))
       refine T_cond (b := false) rfl (fun h => nomatch h) (fun _ => ?_)
       refine T_skip (T_region hc (Ch.s (.d (.int .i64 (((m : Nat) : Int) + 1))) (.pure (.int _ _ _ _ _ rfl rfl rfl intV_addA)) (Ch.s (.d (.int .i64 (((m : Nat) : Int) + 1))) pm (Ch.nil ?_))))
       exact nx (m + 1) (by omega) (Wk.of rfl rfl (ai rfl (ai rfl (ai rfl (ai rfl (ai rfl (ai rfl (ai rfl (ai rfl (ai rfl (ai rfl (ai rfl (ai rfl (ai (vI (by first | rfl | omega | (simp; done) | (simp; omega))) trivial))))))))))))) (ai (oR (by first | (exact congrArg (List.map _) (pvB_zero x k s _)) | (exact push rfl (pvB_yes (by omega) (by omega) (pvQ_yes (by assumption) (by first | assumption | exact two_i0 hx (by omega) (by assumption)) (by first | exact .inl (by assumption) | exact .inr (by assumption))))) | (exact congrArg (List.map _) (pvB_no (by omega) (pvQ_no1 (by assumption)))) | (exact congrArg (List.map _) (pvB_no (by omega) (pvQ_no2 (by first | assumption | exact two_i1 hx (by omega) (by assumption))))) | (exact congrArg (List.map _) (pvB_no (by omega) (pvQ_no3 (by assumption) (by assumption)))))) (ai rfl (ai rfl (ai rfl (ai rfl (ai rfl trivial)))))))
    ·
     replace h4 := of_decide_eq_false h4
     try have hmk := hm6 k
     try have hnt := (nx_mem hen (j := k) (i := ((nxTo x x.arcs.length).getD k default).getD m default) x.arcs.length (Nat.le_refl _)).1 (getD_mem (by omega))
     try have hek := hen _ (getD_mem (l := x.arcs) (j := (((nxTo x x.arcs.length).getD k default).getD m default).toNat) (d := default) (by omega))
     try have hsk := (hx.sig _ (getD_mem (l := x.arcs) (j := (((nxTo x x.arcs.length).getD k default).getD m default).toNat) (d := default) (by omega))).1
     try have hm7 := hm6 (x.arcs.getD (((nxTo x x.arcs.length).getD k default).getD m default).toNat default).dst.toNat
     refine T_exit (T_region hc (Ch.s (.d (.int .i64 (((s : Nat) : Int) + 1))) (.pure (.int _ _ _ _ _ rfl rfl rfl intV_addA)) (Ch.s (.d (.int .i64 (((s : Nat) : Int) + 1))) pm (Ch.nil ?_))))
     exact nx (s + 1) (by omega) (Wk.trans (Wk.give 15000 k 7000002 7000003 rfl (get_set (by first | omega | (simp only [List.length_map, List.length_set]; omega) | (simp; omega))) rfl rfl rfl (set_back (f := intsU) (by omega))) (Wk.of rfl rfl (ai rfl (ai rfl (ai rfl (ai rfl (ai rfl (ai rfl (ai rfl (ai rfl (ai (vI (by first | rfl | omega | (simp; done) | (simp; omega))) trivial))))))))) (ai (oR (by first | (exact congrArg (List.map _) (pvA_zero x k)) | (exact congrArg (List.map _) (pvA_no (by first | assumption | exact two_n0 hx (by omega) (by assumption)))) | (exact congrArg (List.map _) (pvB_end hx (by omega) (two_n1 hx (by omega) (by assumption)) (by omega))) | (exact congrArg (List.map _) (pvC_end (by assumption) (by omega))))) (ai rfl (ai rfl (ai rfl trivial))))))
  ·
   replace h2 := of_decide_eq_false h2
   try have hmk := hm6 k
   try have hnt := (nx_mem hen (j := k) (i := ((nxTo x x.arcs.length).getD k default).getD m default) x.arcs.length (Nat.le_refl _)).1 (getD_mem (by omega))
   try have hek := hen _ (getD_mem (l := x.arcs) (j := (((nxTo x x.arcs.length).getD k default).getD m default).toNat) (d := default) (by omega))
   try have hsk := (hx.sig _ (getD_mem (l := x.arcs) (j := (((nxTo x x.arcs.length).getD k default).getD m default).toNat) (d := default) (by omega))).1
   try have hm7 := hm6 (x.arcs.getD (((nxTo x x.arcs.length).getD k default).getD m default).toNat default).dst.toNat
   refine T_exit (T_region hc (Ch.s (.d (.int .i64 (((k : Nat) : Int) + 1))) (.pure (.int _ _ _ _ _ rfl rfl rfl intV_addA)) (Ch.s (.d (.int .i64 (((k : Nat) : Int) + 1))) pm (Ch.nil ?_))))
   exact nx (k + 1) (by omega) (Wk.of rfl rfl (ai rfl (ai rfl (ai rfl (ai rfl (ai rfl (ai (vI (by first | rfl | omega | (simp; done) | (simp; omega))) trivial)))))) (ai (oR (by first | rfl | (exact congrArg (List.map _) (pvA_end (by omega))))) (ai rfl (ai rfl (ai rfl trivial)))))
 ·
  replace h1 := of_decide_eq_false h1
  refine T_exit (T_seq (T_region hc (Ch.s (.row 3) pm (Ch.s (.row 3) pa (Ch.nil (T_ret ?_))))))
  exact endR [(.row 3)] [] [3] (.cons (.tmp 2 rfl) .nil) (.cons (.any _) .nil) (Exp.of (congrArg (D.slice true 3) (by rw [pvL, show x.codes.length = k by omega])) (.row rfl)) rfl rfl

set_option maxHeartbeats 2000000 in
theorem sp_spec_l6Breaks (x : Sgr) (hb : x.bulk ≤ 1048576) (hx : SgOk x) : Sp Tryz.prog 168 [(.agg [(.slice false 2 (x.sigs.map Sgn.d)), (.slice false 1 (x.codes.map D.str)), (.slice false 4 (x.arcs.map Arc.d))])] [.any] (.slice true 3 ((pvL x).map Pvi.d)) := by
 refine Sp_intro (lend := true) Tryz.func168 rfl rfl rfl (fun _ => rfl) (fun c hc hX => ?_)
 obtain ⟨hp0, hp1, hp2⟩ := Sgr.parts hb
 have hn0 := bulkF_len hp0
 have hn1 := bulk_len hp1
 have hx1 := bulk_mem hp1
 have hn2 := bulkF_len hp2; have hx8 := hx.eight; have hxl := hx.len; have hxf := hx.few; have hen := hx.ends
 refine T_seq (T_region hc (Ch.s (.ptr 1000 0) (.box 1000 _ _ rfl (.aggD _)) (Ch.s (.c (.slice none 0 0)) pa (Ch.nil (T_seq (T_region hc (Ch.s (.c (.slice none 0 0)) pa ?_)))))))
 refine Ch.nil (T_seq (T_seq (T_region hc (Ch.s (.ptr 1000 1) (.pure (.fldPtr _ _ _ rfl fld35_1 rfl)) (Ch.s (.d (.slice false 1 (x.codes.map D.str))) (.pure (.loadPtr1 _ _ rfl ag23 rfl rfl rfl)) (Ch.s (.d (.int .i64 ((x.codes.length : Nat) : Int))) (.pure (.len _ _ 9 rfl Tryz.underlying23 (.sh _ _) (by simp))) (Ch.s (.d (.int .i64 0)) pm ?_)))))))
 refine Ch.nil (T_block ?_)
 refine T_loop (ι := Nat) (fun k => { n := 73, sl := [(1, (.ptr 1000 0)), (3, (.row 3)), (10, (.d (.int .i64 ((x.codes.length : Nat) : Int)))), (11, (.d (.int .i64 ((k : Nat) : Int))))], hp := [(3, (some (.row 3 ((pvTo x k).map Pvi.d)))), (1000, (some (.box [(.d (.slice false 2 (x.sigs.map Sgn.d))), (.d (.slice false 1 (x.codes.map D.str))), (.d (.slice false 4 (x.arcs.map Arc.d)))])))], pin := [] }) (fun k => k ≤ x.codes.length) (fun k => x.codes.length - k) ⟨0, (by omega), (Wk.trans (Wk.nilrow 3 900003 3 rfl rfl rfl) (Wk.ren [(3, 900003)] rfl rfl rfl rfl (ai rfl (ai rfl (ai rfl (ai (vI (by first | rfl | omega | (simp; done) | (simp; omega))) trivial)))) (ai (oR (by first | rfl | (exact congrArg (List.map _) (pvA_end (by omega))))) (ai rfl trivial))))⟩ (fun k hp0 => ?_)
 refine T_seq (T_region hc (Ch.s (.d (.bool (decide (((k : Nat) : Int) < ((x.codes.length : Nat) : Int))))) (.pure (.int _ _ _ _ _ rfl rfl rfl rfl)) (Ch.nil (T_seq ?_))))
 refine T_cond (b := (decide (((k : Nat) : Int) < ((x.codes.length : Nat) : Int)))) rfl (fun h1 => ?_) (fun h1 => ?_)
 ·
  replace h1 := of_decide_eq_true h1
  refine T_skip (T_seq (T_block (T_seq (T_region hc (Ch.s (.d (.int .i64 ((k : Nat) : Int))) pm (Ch.s (.d (.int .i64 ((k : Nat) : Int))) pa (Ch.nil ?_)))))))
  refine T_seq (T_region hc (Ch.s (.ptr 1000 0) (.pure (.fldPtr _ _ _ rfl fld35_0 rfl)) (Ch.s (.d (.slice false 2 (x.sigs.map Sgn.d))) (.pure (.loadPtr1 _ _ rfl ag32 rfl rfl rfl)) (Ch.s (.d (.int .i64 ((x.sigs.length : Nat) : Int))) (.pure (.len _ _ 154 rfl Tryz.underlying32 (.sh _ _) (by simp))) (Ch.s (.d (.int .i64 0)) pm (Ch.nil (T_block ?_)))))))
  refine T_loop (ι := Nat) (fun s => { n := 73, sl := [(1, (.ptr 1000 0)), (3, (.row 3)), (4, (.d (.int .i64 ((k : Nat) : Int)))), (10, (.d (.int .i64 ((x.codes.length : Nat) : Int)))), (11, (.d (.int .i64 ((k : Nat) : Int)))), (16, (.d (.int .i64 ((x.sigs.length : Nat) : Int)))), (17, (.d (.int .i64 ((s : Nat) : Int))))], hp := [(3, (some (.row 3 ((pvA x k s).map Pvi.d)))), (1000, (some (.box [(.d (.slice false 2 (x.sigs.map Sgn.d))), (.d (.slice false 1 (x.codes.map D.str))), (.d (.slice false 4 (x.arcs.map Arc.d)))])))], pin := [] }) (fun s => s ≤ x.sigs.length) (fun s => x.sigs.length - s) ⟨0, (by omega), (Wk.of rfl rfl (ai rfl (ai rfl (ai rfl (ai rfl (ai rfl (ai rfl (ai (vI (by first | rfl | omega | (simp; done) | (simp; omega))) trivial))))))) (ai (oR (by first | (exact congrArg (List.map _) (pvA_zero x k)) | (exact congrArg (List.map _) (pvA_no (by first | assumption | exact two_n0 hx (by omega) (by assumption)))) | (exact congrArg (List.map _) (pvB_end hx (by omega) (two_n1 hx (by omega) (by assumption)) (by omega))) | (exact congrArg (List.map _) (pvC_end (by assumption) (by omega))))) (ai rfl trivial)))⟩ (fun s hp1 => ?_)
  refine T_seq (T_region hc (Ch.s (.d (.bool (decide (((s : Nat) : Int) < ((x.sigs.length : Nat) : Int))))) (.pure (.int _ _ _ _ _ rfl rfl rfl rfl)) (Ch.nil (T_seq ?_))))
  refine T_cond (b := (decide (((s : Nat) : Int) < ((x.sigs.length : Nat) : Int)))) rfl (fun h2 => ?_) (fun h2 => ?_)
  ·
   replace h2 := of_decide_eq_true h2
   refine T_skip (T_seq (T_block (T_seq (T_region hc (Ch.s (.d (.int .i64 ((s : Nat) : Int))) pm (Ch.s (.d (.int .i64 ((s : Nat) : Int))) pa (Ch.nil ?_)))))))
   refine T_seq (T_seq (T_region hc (Ch.s (.agg [(.d (.slice false 2 (x.sigs.map Sgn.d))), (.d (.slice false 1 (x.codes.map D.str))), (.d (.slice false 4 (x.arcs.map Arc.d)))]) (.pure (.loadPtrA _ _ rfl ag35 sz35 rfl rfl (Nat.le_of_ble_eq_true rfl) rfl)) (Ch.s (.d (.int .i64 ((k : Nat) : Int))) pm (Ch.s (.d (.int .i64 ((s : Nat) : Int))) pm (Ch.s (.d (.bool (excB x ((k : Nat) : Int) ((s : Nat) : Int)))) (.call 23000 158 _ _ _ en158 rfl (.inl rfl) (.cons (.lend (.agg (.cons (.d _) (.cons (.d _) (.cons (.d _) .nil))) rfl)) (.cons (.d _) (.cons (.d _) .nil))) rfl rfl (sp_spec_l5Excited x ((k : Nat) : Int) ((s : Nat) : Int) (by first | assumption | omega | (rw [List.length_take]; omega) | (have := bulkF_mem hb _ (getD_mem (d := default) (by omega)); assumption) | (unfold bulkS at *; omega) | (simp_all; done))) (.skip _ _ (.skip _ _ (.skip _ _ .nil))) rfl) (Ch.s (.d (.bool (!(excB x ((k : Nat) : Int) ((s : Nat) : Int))))) (.pure (.not _ _ rfl rfl)) ?_)))))))
   refine Ch.nil ?_
   refine T_cond (b := (!(excB x ((k : Nat) : Int) ((s : Nat) : Int)))) rfl (fun h3 => ?_) (fun h3 => ?_)
   ·
    replace h3 := nott h3
    try have hek := hen _ (getD_mem (l := x.arcs) (j := m) (d := default) (by omega))
    try have hsk := (hx.sig _ (getD_mem (l := x.arcs) (j := m) (d := default) (by omega))).1
    refine T_exit (T_region hc (Ch.s (.d (.int .i64 (((s : Nat) : Int) + 1))) (.pure (.int _ _ _ _ _ rfl rfl rfl intV_addA)) (Ch.s (.d (.int .i64 (((s : Nat) : Int) + 1))) pm (Ch.nil ?_))))
    exact nx (s + 1) (by omega) (Wk.of rfl rfl (ai rfl (ai rfl (ai rfl (ai rfl (ai rfl (ai rfl (ai (vI (by first | rfl | omega | (simp; done) | (simp; omega))) trivial))))))) (ai (oR (by first | (exact congrArg (List.map _) (pvA_zero x k)) | (exact congrArg (List.map _) (pvA_no (by first | assumption | exact two_n0 hx (by omega) (by assumption)))) | (exact congrArg (List.map _) (pvB_end hx (by omega) (two_n1 hx (by omega) (by assumption)) (by omega))) | (exact congrArg (List.map _) (pvC_end (by assumption) (by omega))))) (ai rfl trivial)))
   ·
    replace h3 := notf h3
    try have hek := hen _ (getD_mem (l := x.arcs) (j := m) (d := default) (by omega))
    try have hsk := (hx.sig _ (getD_mem (l := x.arcs) (j := m) (d := default) (by omega))).1
    refine T_skip (T_seq (T_region hc (Ch.s (.ptr 1000 2) (.pure (.fldPtr _ _ _ rfl fld35_2 rfl)) (Ch.s (.d (.slice false 4 (x.arcs.map Arc.d))) (.pure (.loadPtr1 _ _ rfl ag33 rfl rfl rfl)) (Ch.s (.d (.int .i64 ((x.arcs.length : Nat) : Int))) (.pure (.len _ _ 125 rfl Tryz.underlying33 (.sh _ _) (by simp))) (Ch.s (.d (.int .i64 0)) pm (Ch.nil ?_)))))))
    refine T_block ?_
    refine T_loop (ι := Nat) (fun m => { n := 73, sl := [(1, (.ptr 1000 0)), (3, (.row 3)), (4, (.d (.int .i64 ((k : Nat) : Int)))), (5, (.d (.int .i64 ((s : Nat) : Int)))), (10, (.d (.int .i64 ((x.codes.length : Nat) : Int)))), (11, (.d (.int .i64 ((k : Nat) : Int)))), (16, (.d (.int .i64 ((x.sigs.length : Nat) : Int)))), (17, (.d (.int .i64 ((s : Nat) : Int)))), (26, (.d (.slice false 4 (x.arcs.map Arc.d)))), (27, (.d (.int .i64 ((x.arcs.length : Nat) : Int)))), (28, (.d (.int .i64 ((m : Nat) : Int))))], hp := [(3, (some (.row 3 ((pvC x k s m).map Pvi.d)))), (1000, (some (.box [(.d (.slice false 2 (x.sigs.map Sgn.d))), (.d (.slice false 1 (x.codes.map D.str))), (.d (.slice false 4 (x.arcs.map Arc.d)))])))], pin := [] }) (fun m => m ≤ x.arcs.length) (fun m => x.arcs.length - m) ⟨0, (by omega), (Wk.of rfl rfl (ai rfl (ai rfl (ai rfl (ai rfl (ai rfl (ai rfl (ai rfl (ai rfl (ai rfl (ai rfl (ai (vI (by first | rfl | omega | (simp; done) | (simp; omega))) trivial))))))))))) (ai (oR (by first | (exact congrArg (List.map _) (pvC_zero x k s)) | (exact push rfl (pvC_yes (pvP_of (by assumption) (pvQ_yes (by assumption) (by first | assumption | exact two_i0 hx (by omega) (by assumption)) (by first | exact .inl (by assumption) | exact .inr (by assumption)))))) | (exact congrArg (List.map _) (pvC_no (pvP_no (by assumption)))) | (exact congrArg (List.map _) (pvC_no (pvP_of (by assumption) (pvQ_no1 (by assumption))))) | (exact congrArg (List.map _) (pvC_no (pvP_of (by assumption) (pvQ_no2 (by first | assumption | exact two_i1 hx (by omega) (by assumption)))))) | (exact congrArg (List.map _) (pvC_no (pvP_of (by assumption) (pvQ_no3 (by assumption) (by assumption))))))) (ai rfl trivial)))⟩ (fun m hp2 => ?_)
    have hq := pvC_le hxf hx8.2 (k := k) (s := s) (m := m) (by omega) (by omega) (by omega)
    refine T_seq (T_region hc (Ch.s (.d (.bool (decide (((m : Nat) : Int) < ((x.arcs.length : Nat) : Int))))) (.pure (.int _ _ _ _ _ rfl rfl rfl rfl)) (Ch.nil (T_seq ?_))))
    refine T_cond (b := (decide (((m : Nat) : Int) < ((x.arcs.length : Nat) : Int)))) rfl (fun h4 => ?_) (fun h4 => ?_)
    ·
     replace h4 := of_decide_eq_true h4
     try have hek := hen _ (getD_mem (l := x.arcs) (j := m) (d := default) (by omega))
     try have hsk := (hx.sig _ (getD_mem (l := x.arcs) (j := m) (d := default) (by omega))).1
     refine T_skip (T_seq (T_block (T_seq (T_region hc (Ch.s (.d (.int .i64 ((m : Nat) : Int))) pm (Ch.s (.d (.ref (.agg [(.int .i64 ((x.arcs.getD m default).src)), (.int .i64 ((x.arcs.getD m default).sig)), (.bool ((x.arcs.getD m default).up)), (.int .i64 ((x.arcs.getD m default).dst))]))) (.pure (.idx _ _ _ 125 (m) rfl Tryz.underlying33 sz125 rfl rfl rfl get_mapA)) (Ch.s (.d (.agg [(.int .i64 ((x.arcs.getD m default).src)), (.int .i64 ((x.arcs.getD m default).sig)), (.bool ((x.arcs.getD m default).up)), (.int .i64 ((x.arcs.getD m default).dst))])) (.pure (.loadRefA _ _ rfl ag125 sz125 rfl)) ?_)))))))
     refine Ch.s (.ptr 7000 0) (.alloc 7000 _ rfl zer125) (Ch.s (.d (.int .i64 ((m : Nat) : Int))) pa (Ch.s .junk (.storePtr _ _ _ rfl rfl rfl (.aggD _) sz125 (Nat.le_of_ble_eq_true rfl)) (Ch.nil (T_seq (T_region hc (Ch.s (.ptr 7000 0) (.pure (.fldPtr _ _ _ rfl fld125_0 rfl)) (Ch.s (.d (.int .i64 ((x.arcs.getD m default).src))) (.pure (.loadPtr1 _ _ rfl ag3 rfl rfl rfl)) ?_)))))))
     refine Ch.s (.d (.int .i64 ((k : Nat) : Int))) pm (Ch.s (.d (.bool (decide (((x.arcs.getD m default).src) = ((k : Nat) : Int))))) (.pure (.int _ _ _ _ _ rfl rfl rfl rfl)) (Ch.s (.d (.bool (decide (((x.arcs.getD m default).src) = ((k : Nat) : Int))))) pm ?_))
     cases h5 : (decide (((x.arcs.getD m default).src) = ((k : Nat) : Int))) with
     | true =>
      replace h5 := of_decide_eq_true h5
      try have hek := hen _ (getD_mem (l := x.arcs) (j := m) (d := default) (by omega))
      try have hsk := (hx.sig _ (getD_mem (l := x.arcs) (j := m) (d := default) (by omega))).1
      refine Ch.s (.ptr 7000 1) (.pure (.fldPtr _ _ _ rfl fld125_1 rfl)) (Ch.s (.d (.int .i64 ((x.arcs.getD m default).sig))) (.pure (.loadPtr1 _ _ rfl ag3 rfl rfl rfl)) (Ch.s (.d (.int .i64 ((s : Nat) : Int))) pm (Ch.s (.d (.bool (!(decide (((x.arcs.getD m default).sig) = ((s : Nat) : Int)))))) (.pure (.int _ _ _ _ _ rfl rfl rfl rfl)) (Ch.s (.d (.bool (!(decide (((x.arcs.getD m default).sig) = ((s : Nat) : Int)))))) (.pure (.pickT _ _ _ rfl rfl rfl)) (Ch.s (.d (.bool (!(decide (((x.arcs.getD m default).sig) = ((s : Nat) : Int)))))) pm ?_)))))
      cases h6 : (decide (((x.arcs.getD m default).sig) = ((s : Nat) : Int))) with
      | true =>
       replace h6 := of_decide_eq_true h6
       refine Ch.skip rfl rfl (Ch.skip rfl rfl (Ch.skip rfl rfl (Ch.skip rfl rfl (Ch.skip rfl rfl (Ch.skip rfl rfl (Ch.s (.d (.bool false)) (.pure (.pickF _ _ _ rfl rfl rfl)) (Ch.s (.d (.bool false)) pm ?_)))))))
       refine Ch.skip rfl rfl (Ch.skip rfl rfl (Ch.skip rfl rfl (Ch.skip rfl rfl (Ch.skip rfl rfl (Ch.skip rfl rfl (Ch.skip rfl rfl (Ch.skip rfl rfl ?_)))))))
       refine Ch.skip rfl rfl (Ch.s (.d (.bool false)) (.pure (.pickF _ _ _ rfl rfl rfl)) (Ch.nil ?_))
       refine T_cond (b := false) rfl (fun h => nomatch h) (fun _ => ?_)
       refine T_skip (T_region hc (Ch.s (.d (.int .i64 (((m : Nat) : Int) + 1))) (.pure (.int _ _ _ _ _ rfl rfl rfl intV_addA)) (Ch.s (.d (.int .i64 (((m : Nat) : Int) + 1))) pm (Ch.nil ?_))))
       exact nx (m + 1) (by omega) (Wk.of rfl rfl (ai rfl (ai rfl (ai rfl (ai rfl (ai rfl (ai rfl (ai rfl (ai rfl (ai rfl (ai rfl (ai (vI (by first | rfl | omega | (simp; done) | (simp; omega))) trivial))))))))))) (ai (oR (by first | (exact congrArg (List.map _) (pvC_zero x k s)) | (exact push rfl (pvC_yes (pvP_of (by assumption) (pvQ_yes (by assumption) (by first | assumption | exact two_i0 hx (by omega) (by assumption)) (by first | exact .inl (by assumption) | exact .inr (by assumption)))))) | (exact congrArg (List.map _) (pvC_no (pvP_no (by assumption)))) | (exact congrArg (List.map _) (pvC_no (pvP_of (by assumption) (pvQ_no1 (by assumption))))) | (exact congrArg (List.map _) (pvC_no (pvP_of (by assumption) (pvQ_no2 (by first | assumption | exact two_i1 hx (by omega) (by assumption)))))) | (exact congrArg (List.map _) (pvC_no (pvP_of (by assumption) (pvQ_no3 (by assumption) (by assumption))))))) (ai rfl trivial)))
      | false =>
       replace h6 := of_decide_eq_false h6
       refine Ch.s (.agg [(.d (.slice false 2 (x.sigs.map Sgn.d))), (.d (.slice false 1 (x.codes.map D.str))), (.d (.slice false 4 (x.arcs.map Arc.d)))]) (.pure (.loadPtrA _ _ rfl ag35 sz35 rfl rfl (Nat.le_of_ble_eq_true rfl) rfl)) (Ch.s (.ptr 7000 3) (.pure (.fldPtr _ _ _ rfl fld125_3 rfl)) (Ch.s (.d (.int .i64 ((x.arcs.getD m default).dst))) (.pure (.loadPtr1 _ _ rfl ag3 rfl rfl rfl)) (Ch.s (.d (.int .i64 ((s : Nat) : Int))) pm (Ch.s (.d (.bool (excB x ((x.arcs.getD m default).dst) ((s : Nat) : Int)))) (.call 48000 158 _ _ _ en158 rfl (.inl rfl) (.cons (.lend (.agg (.cons (.d _) (.cons (.d _) (.cons (.d _) .nil))) rfl)) (.cons (.d _) (.cons (.d _) .nil))) rfl rfl (sp_spec_l5Excited x ((x.arcs.getD m default).dst) ((s : Nat) : Int) (by first | assumption | omega | (rw [List.length_take]; omega) | (have := bulkF_mem hb _ (getD_mem (d := default) (by omega)); assumption) | (unfold bulkS at *; omega) | (simp_all; done))) (.skip _ _ (.skip _ _ (.skip _ _ .nil))) rfl) (Ch.s (.d (.bool (!(excB x ((x.arcs.getD m default).dst) ((s : Nat) : Int))))) (.pure (.not _ _ rfl rfl)) (Ch.s (.d (.bool (!(excB x ((x.arcs.getD m default).dst) ((s : Nat) : Int))))) (.pure (.pickT _ _ _ rfl rfl rfl)) (Ch.s (.d (.bool (!(excB x ((x.arcs.getD m default).dst) ((s : Nat) : Int))))) pm ?_)))))))
       cases h7 : (excB x ((x.arcs.getD m default).dst) ((s : Nat) : Int)) with
       | true =>
        refine Ch.skip rfl rfl (Ch.skip rfl rfl (Ch.skip rfl rfl (Ch.skip rfl rfl (Ch.skip rfl rfl (Ch.skip rfl rfl (Ch.skip rfl rfl (Ch.skip rfl rfl ?_)))))))
        refine Ch.skip rfl rfl (Ch.s (.d (.bool false)) (.pure (.pickF _ _ _ rfl rfl rfl)) (Ch.nil ?_))
        refine T_cond (b := false) rfl (fun h => nomatch h) (fun _ => ?_)
        refine T_skip (T_region hc (Ch.s (.d (.int .i64 (((m : Nat) : Int) + 1))) (.pure (.int _ _ _ _ _ rfl rfl rfl intV_addA)) (Ch.s (.d (.int .i64 (((m : Nat) : Int) + 1))) pm (Ch.nil ?_))))
        exact nx (m + 1) (by omega) (Wk.of rfl rfl (ai rfl (ai rfl (ai rfl (ai rfl (ai rfl (ai rfl (ai rfl (ai rfl (ai rfl (ai rfl (ai (vI (by first | rfl | omega | (simp; done) | (simp; omega))) trivial))))))))))) (ai (oR (by first | (exact congrArg (List.map _) (pvC_zero x k s)) | (exact push rfl (pvC_yes (pvP_of (by assumption) (pvQ_yes (by assumption) (by first | assumption | exact two_i0 hx (by omega) (by assumption)) (by first | exact .inl (by assumption) | exact .inr (by assumption)))))) | (exact congrArg (List.map _) (pvC_no (pvP_no (by assumption)))) | (exact congrArg (List.map _) (pvC_no (pvP_of (by assumption) (pvQ_no1 (by assumption))))) | (exact congrArg (List.map _) (pvC_no (pvP_of (by assumption) (pvQ_no2 (by first | assumption | exact two_i1 hx (by omega) (by assumption)))))) | (exact congrArg (List.map _) (pvC_no (pvP_of (by assumption) (pvQ_no3 (by assumption) (by assumption))))))) (ai rfl trivial)))
       | false =>
        refine Ch.s (.agg [(.d (.slice false 2 (x.sigs.map Sgn.d))), (.d (.slice false 1 (x.codes.map D.str))), (.d (.slice false 4 (x.arcs.map Arc.d)))]) (.pure (.loadPtrA _ _ rfl ag35 sz35 rfl rfl (Nat.le_of_ble_eq_true rfl) rfl)) (Ch.s (.d (.int .i64 ((s : Nat) : Int))) pm (Ch.s (.d (.bool (!(inputB x ((s : Nat) : Int))))) (.call 54000 203 _ _ _ en203 rfl (.inl rfl) (.cons (.lend (.agg (.cons (.d _) (.cons (.d _) (.cons (.d _) .nil))) rfl)) (.cons (.d _) .nil)) rfl rfl (sp_spec_l6Own x ((s : Nat) : Int) (by first | assumption | omega | (rw [List.length_take]; omega) | (have := bulkF_mem hb _ (getD_mem (d := default) (by omega)); assumption) | (unfold bulkS at *; omega) | (simp_all; done)) (by first | assumption | omega)) (.skip _ _ (.skip _ _ .nil)) rfl) (Ch.s (.d (.bool (!(inputB x ((s : Nat) : Int))))) pm ?_)))
        cases h8 : (inputB x ((s : Nat) : Int)) with
        | true =>
         refine Ch.s (.agg [(.d (.slice false 2 (x.sigs.map Sgn.d))), (.d (.slice false 1 (x.codes.map D.str))), (.d (.slice false 4 (x.arcs.map Arc.d)))]) (.pure (.loadPtrA _ _ rfl ag35 sz35 rfl rfl (Nat.le_of_ble_eq_true rfl) rfl)) (Ch.s (.ptr 7000 1) (.pure (.fldPtr _ _ _ rfl fld125_1 rfl)) (Ch.s (.d (.int .i64 ((x.arcs.getD m default).sig))) (.pure (.loadPtr1 _ _ rfl ag3 rfl rfl rfl)) (Ch.s (.d (.bool (!(inputB x ((x.arcs.getD m default).sig))))) (.call 59000 203 _ _ _ en203 rfl (.inl rfl) (.cons (.lend (.agg (.cons (.d _) (.cons (.d _) (.cons (.d _) .nil))) rfl)) (.cons (.d _) .nil)) rfl rfl (sp_spec_l6Own x ((x.arcs.getD m default).sig) (by first | assumption | omega | (rw [List.length_take]; omega) | (have := bulkF_mem hb _ (getD_mem (d := default) (by omega)); assumption) | (unfold bulkS at *; omega) | (simp_all; done)) (by first | assumption | omega)) (.skip _ _ (.skip _ _ .nil)) rfl) (Ch.s (.d (.bool (!(inputB x ((x.arcs.getD m default).sig))))) (.pure (.pickF _ _ _ rfl rfl rfl)) (Ch.s (.d (.bool (!(inputB x ((x.arcs.getD m default).sig))))) (.pure (.pickT _ _ _ rfl rfl rfl)) (Ch.nil ?_))))))
         refine T_cond (b := (!(inputB x ((x.arcs.getD m default).sig)))) rfl (fun h9 => ?_) (fun h9 => ?_)
         ·
          replace h9 := nott h9
          refine T_region hc (Ch.s (.row 3) pm (Ch.s (.d (.int .i64 ((k : Nat) : Int))) pm (Ch.s (.d (.int .i64 ((s : Nat) : Int))) pm (Ch.s (.d (.int .i64 ((m : Nat) : Int))) pm (Ch.s (.agg [(.d (.int .i64 ((k : Nat) : Int))), (.d (.int .i64 ((s : Nat) : Int))), (.d (.int .i64 ((m : Nat) : Int)))]) (.build _ _ rfl stru216 (.cons (.one _ rfl) (.cons (.one _ rfl) (.cons (.one _ rfl) .nil))) rfl) (Ch.s (.row 67000) (.slice 67000 _ 216 _ rfl sty175 (xs := [.tmp 66]) rfl rfl (.cons (.agg (.cons (.d _) (.cons (.d _) (.cons (.d _) .nil))) rfl) .nil) rfl rfl (by decide)) ?_))))))
          refine Ch.step (v := (.row 68000)) rfl (.append 68000 _ _ _ 216 rfl sty175 (by decide) (.rowK rfl) (.inr ⟨_, rfl, rfl⟩) (.row rfl rfl) rfl (by first | omega | (simp only [List.length_append, List.length_map, List.length_cons, List.length_nil]; omega) | (simp; omega) | (simp; done))) rfl rfl ?_
          refine Ch.s (.row 68000) pa (Ch.nil (T_region hc (Ch.s (.d (.int .i64 (((m : Nat) : Int) + 1))) (.pure (.int _ _ _ _ _ rfl rfl rfl intV_addA)) (Ch.s (.d (.int .i64 (((m : Nat) : Int) + 1))) pm (Ch.nil ?_)))))
          exact nx (m + 1) (by omega) (Wk.ren [(3, 68000)] rfl rfl rfl rfl (ai rfl (ai rfl (ai rfl (ai rfl (ai rfl (ai rfl (ai rfl (ai rfl (ai rfl (ai rfl (ai (vI (by first | rfl | omega | (simp; done) | (simp; omega))) trivial))))))))))) (ai (oR (by first | (exact congrArg (List.map _) (pvC_zero x k s)) | (exact push rfl (pvC_yes (pvP_of (by assumption) (pvQ_yes (by assumption) (by first | assumption | exact two_i0 hx (by omega) (by assumption)) (by first | exact .inl (by assumption) | exact .inr (by assumption)))))) | (exact congrArg (List.map _) (pvC_no (pvP_no (by assumption)))) | (exact congrArg (List.map _) (pvC_no (pvP_of (by assumption) (pvQ_no1 (by assumption))))) | (exact congrArg (List.map _) (pvC_no (pvP_of (by assumption) (pvQ_no2 (by first | assumption | exact two_i1 hx (by omega) (by assumption)))))) | (exact congrArg (List.map _) (pvC_no (pvP_of (by assumption) (pvQ_no3 (by assumption) (by assumption))))))) (ai rfl trivial)))
         ·
          replace h9 := notf h9
          refine T_skip (T_region hc (Ch.s (.d (.int .i64 (((m : Nat) : Int) + 1))) (.pure (.int _ _ _ _ _ rfl rfl rfl intV_addA)) (Ch.s (.d (.int .i64 (((m : Nat) : Int) + 1))) pm (Ch.nil ?_))))
          exact nx (m + 1) (by omega) (Wk.of rfl rfl (ai rfl (ai rfl (ai rfl (ai rfl (ai rfl (ai rfl (ai rfl (ai rfl (ai rfl (ai rfl (ai (vI (by first | rfl | omega | (simp; done) | (simp; omega))) trivial))))))))))) (ai (oR (by first | (exact congrArg (List.map _) (pvC_zero x k s)) | (exact push rfl (pvC_yes (pvP_of (by assumption) (pvQ_yes (by assumption) (by first | assumption | exact two_i0 hx (by omega) (by assumption)) (by first | exact .inl (by assumption) | exact .inr (by assumption)))))) | (exact congrArg (List.map _) (pvC_no (pvP_no (by assumption)))) | (exact congrArg (List.map _) (pvC_no (pvP_of (by assumption) (pvQ_no1 (by assumption))))) | (exact congrArg (List.map _) (pvC_no (pvP_of (by assumption) (pvQ_no2 (by first | assumption | exact two_i1 hx (by omega) (by assumption)))))) | (exact congrArg (List.map _) (pvC_no (pvP_of (by assumption) (pvQ_no3 (by assumption) (by assumption))))))) (ai rfl trivial)))
        | false =>
         refine Ch.skip rfl rfl (Ch.skip rfl rfl (Ch.skip rfl rfl (Ch.skip rfl rfl (Ch.s (.d (.bool true)) (.pure (.pickT _ _ _ rfl rfl rfl)) (Ch.s (.d (.bool true)) (.pure (.pickT _ _ _ rfl rfl rfl)) (Ch.nil ?_))))))
         refine T_cond (b := true) rfl (fun _ => ?_) (fun h => nomatch h)
         refine T_region hc (Ch.s (.row 3) pm (Ch.s (.d (.int .i64 ((k : Nat) : Int))) pm (Ch.s (.d (.int .i64 ((s : Nat) : Int))) pm (Ch.s (.d (.int .i64 ((m : Nat) : Int))) pm (Ch.s (.agg [(.d (.int .i64 ((k : Nat) : Int))), (.d (.int .i64 ((s : Nat) : Int))), (.d (.int .i64 ((m : Nat) : Int)))]) (.build _ _ rfl stru216 (.cons (.one _ rfl) (.cons (.one _ rfl) (.cons (.one _ rfl) .nil))) rfl) (Ch.s (.row 67000) (.slice 67000 _ 216 _ rfl sty175 (xs := [.tmp 66]) rfl rfl (.cons (.agg (.cons (.d _) (.cons (.d _) (.cons (.d _) .nil))) rfl) .nil) rfl rfl (by decide)) ?_))))))
         refine Ch.step (v := (.row 68000)) rfl (.append 68000 _ _ _ 216 rfl sty175 (by decide) (.rowK rfl) (.inr ⟨_, rfl, rfl⟩) (.row rfl rfl) rfl (by first | omega | (simp only [List.length_append, List.length_map, List.length_cons, List.length_nil]; omega) | (simp; omega) | (simp; done))) rfl rfl ?_
         refine Ch.s (.row 68000) pa (Ch.nil (T_region hc (Ch.s (.d (.int .i64 (((m : Nat) : Int) + 1))) (.pure (.int _ _ _ _ _ rfl rfl rfl intV_addA)) (Ch.s (.d (.int .i64 (((m : Nat) : Int) + 1))) pm (Ch.nil ?_)))))
         exact nx (m + 1) (by omega) (Wk.ren [(3, 68000)] rfl rfl rfl rfl (ai rfl (ai rfl (ai rfl (ai rfl (ai rfl (ai rfl (ai rfl (ai rfl (ai rfl (ai rfl (ai (vI (by first | rfl | omega | (simp; done) | (simp; omega))) trivial))))))))))) (ai (oR (by first | (exact congrArg (List.map _) (pvC_zero x k s)) | (exact push rfl (pvC_yes (pvP_of (by assumption) (pvQ_yes (by assumption) (by first | assumption | exact two_i0 hx (by omega) (by assumption)) (by first | exact .inl (by assumption) | exact .inr (by assumption)))))) | (exact congrArg (List.map _) (pvC_no (pvP_no (by assumption)))) | (exact congrArg (List.map _) (pvC_no (pvP_of (by assumption) (pvQ_no1 (by assumption))))) | (exact congrArg (List.map _) (pvC_no (pvP_of (by assumption) (pvQ_no2 (by first | assumption | exact two_i1 hx (by omega) (by assumption)))))) | (exact congrArg (List.map _) (pvC_no (pvP_of (by assumption) (pvQ_no3 (by assumption) (by assumption))))))) (ai rfl trivial)))
     | false =>
      replace h5 := of_decide_eq_false h5
      try have hek := hen _ (getD_mem (l := x.arcs) (j := m) (d := default) (by omega))
      try have hsk := (hx.sig _ (getD_mem (l := x.arcs) (j := m) (d := default) (by omega))).1
      refine Ch.skip rfl rfl (Ch.skip rfl rfl (Ch.skip rfl rfl (Ch.skip rfl rfl (Ch.s (.d (.bool false)) (.pure (.pickF _ _ _ rfl rfl rfl)) (Ch.s (.d (.bool false)) pm (Ch.skip rfl rfl (Ch.skip rfl rfl ?_)))))))
      refine Ch.skip rfl rfl (Ch.skip rfl rfl (Ch.skip rfl rfl (Ch.skip rfl rfl (Ch.s (.d (.bool false)) (.pure (.pickF _ _ _ rfl rfl rfl)) (Ch.s (.d (.bool false)) pm (Ch.skip rfl rfl (Ch.skip rfl rfl ?_)))))))
      refine Ch.skip rfl rfl (Ch.skip rfl rfl (Ch.skip rfl rfl (Ch.skip rfl rfl (Ch.skip rfl rfl (Ch.skip rfl rfl (Ch.skip rfl rfl (Ch.s (.d (.bool false)) (.pure (.pickF _ _ _ rfl rfl rfl)) ?_)))))))
      refine Ch.nil ?_
      refine T_cond (b := false) rfl (fun h => nomatch h) (fun _ => ?_)
      refine T_skip (T_region hc (Ch.s (.d (.int .i64 (((m : Nat) : Int) + 1))) (.pure (.int _ _ _ _ _ rfl rfl rfl intV_addA)) (Ch.s (.d (.int .i64 (((m : Nat) : Int) + 1))) pm (Ch.nil ?_))))
      exact nx (m + 1) (by omega) (Wk.of rfl rfl (ai rfl (ai rfl (ai rfl (ai rfl (ai rfl (ai rfl (ai rfl (ai rfl (ai rfl (ai rfl (ai (vI (by first | rfl | omega | (simp; done) | (simp; omega))) trivial))))))))))) (ai (oR (by first | (exact congrArg (List.map _) (pvC_zero x k s)) | (exact push rfl (pvC_yes (pvP_of (by assumption) (pvQ_yes (by assumption) (by first | assumption | exact two_i0 hx (by omega) (by assumption)) (by first | exact .inl (by assumption) | exact .inr (by assumption)))))) | (exact congrArg (List.map _) (pvC_no (pvP_no (by assumption)))) | (exact congrArg (List.map _) (pvC_no (pvP_of (by assumption) (pvQ_no1 (by assumption))))) | (exact congrArg (List.map _) (pvC_no (pvP_of (by assumption) (pvQ_no2 (by first | assumption | exact two_i1 hx (by omega) (by assumption)))))) | (exact congrArg (List.map _) (pvC_no (pvP_of (by assumption) (pvQ_no3 (by assumption) (by assumption))))))) (ai rfl trivial)))
    ·
     replace h4 := of_decide_eq_false h4
     try have hek := hen _ (getD_mem (l := x.arcs) (j := m) (d := default) (by omega))
     try have hsk := (hx.sig _ (getD_mem (l := x.arcs) (j := m) (d := default) (by omega))).1
     refine T_exit (T_region hc (Ch.s (.d (.int .i64 (((s : Nat) : Int) + 1))) (.pure (.int _ _ _ _ _ rfl rfl rfl intV_addA)) (Ch.s (.d (.int .i64 (((s : Nat) : Int) + 1))) pm (Ch.nil ?_))))
     exact nx (s + 1) (by omega) (Wk.of rfl rfl (ai rfl (ai rfl (ai rfl (ai rfl (ai rfl (ai rfl (ai (vI (by first | rfl | omega | (simp; done) | (simp; omega))) trivial))))))) (ai (oR (by first | (exact congrArg (List.map _) (pvA_zero x k)) | (exact congrArg (List.map _) (pvA_no (by first | assumption | exact two_n0 hx (by omega) (by assumption)))) | (exact congrArg (List.map _) (pvB_end hx (by omega) (two_n1 hx (by omega) (by assumption)) (by omega))) | (exact congrArg (List.map _) (pvC_end (by assumption) (by omega))))) (ai rfl trivial)))
  ·
   replace h2 := of_decide_eq_false h2
   refine T_exit (T_region hc (Ch.s (.d (.int .i64 (((k : Nat) : Int) + 1))) (.pure (.int _ _ _ _ _ rfl rfl rfl intV_addA)) (Ch.s (.d (.int .i64 (((k : Nat) : Int) + 1))) pm (Ch.nil ?_))))
   exact nx (k + 1) (by omega) (Wk.of rfl rfl (ai rfl (ai rfl (ai rfl (ai (vI (by first | rfl | omega | (simp; done) | (simp; omega))) trivial)))) (ai (oR (by first | rfl | (exact congrArg (List.map _) (pvA_end (by omega))))) (ai rfl trivial)))
 ·
  replace h1 := of_decide_eq_false h1
  refine T_exit (T_seq (T_region hc (Ch.s (.row 3) pm (Ch.s (.row 3) pa (Ch.nil (T_ret ?_))))))
  exact endR [(.row 3)] [] [3] (.cons (.tmp 2 rfl) .nil) (.cons (.any _) .nil) (Exp.of (congrArg (D.slice true 3) (by rw [pvL, show x.codes.length = k by omega])) (.row rfl)) rfl rfl

theorem sp_prA (x : Sgr) (hb : x.bulk ≤ 1048576) (hx : SgOk x) : Sp Tryz.prog 221 [(.agg [(.slice false 2 (x.sigs.map Sgn.d)), (.slice false 1 (x.codes.map D.str)), (.slice false 4 (x.arcs.map Arc.d))])] [.any] (.slice true 1 ((prA x).map intsU)) := sp_spec_l6Pairs x hb hx

set_option maxHeartbeats 2000000 in
theorem sp_spec_l6Conflicts (x : Sgr) (hb : x.bulk ≤ 1048576) (hx : SgOk x) : Sp Tryz.prog 169 [(.agg [(.slice false 2 (x.sigs.map Sgn.d)), (.slice false 1 (x.codes.map D.str)), (.slice false 4 (x.arcs.map Arc.d))])] [.any] (.slice true 1 ((cfL x).map intsU)) := by
 refine Sp_intro (lend := true) Tryz.func169 rfl rfl rfl (fun _ => rfl) (fun c hc hX => ?_)
 obtain ⟨hp0, hp1, hp2⟩ := Sgr.parts hb
 have hn0 := bulkF_len hp0
 have hn1 := bulk_len hp1
 have hx1 := bulk_mem hp1
 have hn2 := bulkF_len hp2; have hx8 := hx.eight; have hxl := hx.len; have hxf := hx.few; have hen := hx.ends; have hpl : (prA x).length ≤ 90000 := Nat.le_trans (prTo_le (eqP x) (n := x.codes.length) (by omega) x.codes.length) (by omega); have hol := outs_len x.sigs
 refine T_seq (T_region hc (Ch.s (.ptr 1000 0) (.box 1000 _ _ rfl (.aggD _)) (Ch.s (.c (.slice none 0 0)) pa (Ch.nil (T_seq (T_region hc (Ch.s (.c (.slice none 0 0)) pa ?_)))))))
 refine Ch.nil (T_seq (T_seq (T_region hc (Ch.s (.agg [(.d (.slice false 2 (x.sigs.map Sgn.d))), (.d (.slice false 1 (x.codes.map D.str))), (.d (.slice false 4 (x.arcs.map Arc.d)))]) (.pure (.loadPtrA _ _ rfl ag35 sz35 rfl rfl (Nat.le_of_ble_eq_true rfl) rfl)) ?_))))
 refine Ch.step (v := (.row 10000)) rfl (.call 10000 221 _ _ _ en221 rfl (.inl rfl) (.cons (.lend (.agg (.cons (.d _) (.cons (.d _) (.cons (.d _) .nil))) rfl)) .nil) rfl (sol (solid_row intsU_sol _) rfl) (sp_prA x (by first | assumption | omega | (rw [List.length_take]; omega) | (have := bulkF_mem hb _ (getD_mem (d := default) (by omega)); assumption) | (unfold bulkS at *; omega) | (simp_all; done)) (by assumption)) (.skip _ _ .nil) rfl) rfl rfl ?_
 refine Ch.s (.d (.int .i64 (((prA x).length : Nat) : Int))) (.pure (.len _ _ 55 rfl Tryz.underlying49 (.row rfl) (by simp))) (Ch.s (.d (.int .i64 0)) pm (Ch.nil (T_block ?_)))
 refine T_loop (ι := Nat × List D) (fun q => { n := 47, sl := [(1, (.ptr 1000 0)), (3, (.row 3)), (10, (.row 10000)), (11, (.d (.int .i64 (((prA x).length : Nat) : Int)))), (12, (.d (.int .i64 ((q.1 : Nat) : Int))))], hp := [(3, (some (.row 1 ((unK x q.1).map intsU)))), (1000, (some (.box [(.d (.slice false 2 (x.sigs.map Sgn.d))), (.d (.slice false 1 (x.codes.map D.str))), (.d (.slice false 4 (x.arcs.map Arc.d)))]))), (10000, (some (.row 1 ((q.2 ++ ((prA x).drop q.1).map intsU)))))], pin := [] }) (fun q => q.1 ≤ (prA x).length ∧ q.2.length = q.1) (fun q => (prA x).length - q.1) ⟨(0, []), ⟨by dsimp only; omega, rfl⟩, (Wk.trans (Wk.nilrow 3 900003 1 rfl rfl rfl) (Wk.ren [(3, 900003)] rfl rfl rfl rfl (ai rfl (ai rfl (ai rfl (ai rfl (ai (vI (by first | rfl | omega | (simp; done) | (simp; omega))) trivial))))) (ai (oR (by first | rfl | (exact push rfl (unK_yes (by omega) (by rw [← unM_all (m := m) (by omega)]; assumption))) | (exact congrArg (List.map _) (unK_no (by omega) (by rw [← unM_all (m := m) (by omega)]; assumption))) | (exact mg_set (f := intsU) (xs := prA x) hp0.2 (by omega)))) (ai rfl (ai (oR (by first | rfl | (exact push rfl (unK_yes (by omega) (by rw [← unM_all (m := m) (by omega)]; assumption))) | (exact congrArg (List.map _) (unK_no (by omega) (by rw [← unM_all (m := m) (by omega)]; assumption))) | (exact mg_set (f := intsU) (xs := prA x) hp0.2 (by omega)))) trivial)))))⟩ (fun q hp0 => ?_)
 have hq := unK_le x q.1; have hgl := mg_len (f := intsU) hp0.2 hp0.1
 refine T_seq (T_region hc (Ch.s (.d (.bool (decide (((q.1 : Nat) : Int) < (((prA x).length : Nat) : Int))))) (.pure (.int _ _ _ _ _ rfl rfl rfl rfl)) (Ch.nil (T_seq ?_))))
 refine T_cond (b := (decide (((q.1 : Nat) : Int) < (((prA x).length : Nat) : Int)))) rfl (fun h1 => ?_) (fun h1 => ?_)
 ·
  replace h1 := of_decide_eq_true h1
  try have hpr := prTo_in (Nat.le_refl _) _ (getD_mem (l := prA x) (j := q.1) (d := default) (by omega))
  try have hp2 := hpr.1
  refine T_skip (T_seq (T_block (T_seq ?_)))
  refine T_take 10000 q.1 7000002 7000003 rfl (mg_at hp0.2 (by omega)) rfl rfl (fun u1 => ?_)
  refine T_region hc (Ch.s (.el 10000 1 q.1 0) (.pure (.idxRow _ _ _ 55 (q.1) rfl Tryz.underlying49 sz55 rfl rfl rfl rfl (by first | omega | (simp only [List.length_map, List.length_set]; omega) | (simp; omega)))) (Ch.s (.row 7000002) (.pure (.loadHole (n := 7000002) (m := 7000003) (u := u1) _ _ rfl ag55 rfl rfl (get_set (by first | omega | (simp only [List.length_map, List.length_set]; omega) | (simp; omega))) rfl rfl)) (Ch.s (.row 7000002) pa (Ch.nil (T_seq (T_region hc (Ch.s (.d (.bool false)) pa ?_)))))))
  refine Ch.nil (T_seq (T_seq (T_region hc (Ch.s (.agg [(.d (.slice false 2 (x.sigs.map Sgn.d))), (.d (.slice false 1 (x.codes.map D.str))), (.d (.slice false 4 (x.arcs.map Arc.d)))]) (.pure (.loadPtrA _ _ rfl ag35 sz35 rfl rfl (Nat.le_of_ble_eq_true rfl) rfl)) ?_))))
  refine Ch.step (v := (.row 17000)) rfl (.call 17000 131 _ _ _ en131 rfl (.inl rfl) (.cons (.lend (.agg (.cons (.d _) (.cons (.d _) (.cons (.d _) .nil))) rfl)) .nil) rfl (sol (solid_row (fun _ => rfl) _) rfl) (sp_spec_l6Owned x (by first | assumption | omega | (rw [List.length_take]; omega) | (have := bulkF_mem hb _ (getD_mem (d := default) (by omega)); assumption) | (unfold bulkS at *; omega) | (simp_all; done))) (.skip _ _ .nil) rfl) rfl rfl ?_
  refine Ch.s (.d (.int .i64 (((outsL x.sigs).length : Nat) : Int))) (.pure (.len _ _ 3 rfl Tryz.underlying55 (.row rfl) (by simp))) (Ch.s (.d (.int .i64 0)) pm (Ch.nil (T_block ?_)))
  refine T_loop (ι := Nat) (fun m => { n := 47, sl := [(1, (.ptr 1000 0)), (3, (.row 3)), (5, (.row 7000002)), (6, (.d (.bool (unM x ((prA x).getD q.1 default) m)))), (10, (.row 10000)), (11, (.d (.int .i64 (((prA x).length : Nat) : Int)))), (12, (.d (.int .i64 ((q.1 : Nat) : Int)))), (17, (.row 17000)), (18, (.d (.int .i64 (((outsL x.sigs).length : Nat) : Int)))), (19, (.d (.int .i64 ((m : Nat) : Int))))], hp := [(3, (some (.row 1 ((unK x q.1).map intsU)))), (1000, (some (.box [(.d (.slice false 2 (x.sigs.map Sgn.d))), (.d (.slice false 1 (x.codes.map D.str))), (.d (.slice false 4 (x.arcs.map Arc.d)))]))), (10000, (some (.row 1 ((((q.2 ++ ((prA x).drop q.1).map intsU))).set q.1 (.hole u1))))), (17000, (some (.row 1 ((outsL x.sigs).map (fun n : Int => D.int .i64 n))))), (7000002, (some (.row 1 (((prA x).getD q.1 default).map (fun n : Int => D.int .i64 n))))), (7000003, (some (.head 7000002 u1)))], pin := [] }) (fun m => m ≤ (outsL x.sigs).length) (fun m => (outsL x.sigs).length - m) ⟨0, (by omega), (Wk.of rfl rfl (ai rfl (ai rfl (ai rfl (ai (vB (by first | rfl | (rw [unM_succ (by omega), (by assumption : unM x ((prA x).getD q.1 default) m = true)]; rfl) | (rw [unM_succ (by omega), (by assumption : unM x ((prA x).getD q.1 default) m = false), Bool.false_or]; done))) (ai rfl (ai rfl (ai rfl (ai rfl (ai rfl (ai (vI (by first | rfl | omega | (simp; done) | (simp; omega))) trivial)))))))))) (ai rfl (ai rfl (ai rfl (ai rfl (ai rfl (ai rfl trivial)))))))⟩ (fun m hp1 => ?_)
  refine T_seq (T_region hc (Ch.s (.d (.bool (decide (((m : Nat) : Int) < (((outsL x.sigs).length : Nat) : Int))))) (.pure (.int _ _ _ _ _ rfl rfl rfl rfl)) (Ch.nil (T_seq ?_))))
  refine T_cond (b := (decide (((m : Nat) : Int) < (((outsL x.sigs).length : Nat) : Int)))) rfl (fun h2 => ?_) (fun h2 => ?_)
  ·
   replace h2 := of_decide_eq_true h2
   refine T_skip (T_seq (T_block (T_seq (T_region hc (Ch.s (.el 17000 1 m 0) (.pure (.idxRow _ _ _ 3 (m) rfl Tryz.underlying55 sz3 rfl rfl rfl rfl (by first | omega | (simp only [List.length_map, List.length_set]; omega) | (simp; omega)))) (Ch.s (.d (.int .i64 ((outsL x.sigs).getD m default))) (.pure (.loadEl1 _ _ rfl ag3 rfl rfl get_mapA rfl rfl rfl)) (Ch.s (.d (.int .i64 ((outsL x.sigs).getD m default))) pa ?_)))))))
   refine Ch.nil ?_
   refine T_regionD hc (by kernel_rfl) ?_
   refine ChD.s (.d (.bool (unM x ((prA x).getD q.1 default) m))) [] pm (ChD.s (.d (.bool (unM x ((prA x).getD q.1 default) m))) [] pm ?_)
   cases h3 : (unM x ((prA x).getD q.1 default) m) with
   | true =>
    refine ChD.skip rfl rfl (ChD.skip rfl rfl (ChD.skip rfl rfl (ChD.skip rfl rfl (ChD.skip rfl rfl (ChD.skip rfl rfl (ChD.skip rfl rfl (ChD.skip rfl rfl ?_)))))))
    refine ChD.skip rfl rfl (ChD.skip rfl rfl (ChD.skip rfl rfl (ChD.skip rfl rfl (ChD.skip rfl rfl (ChD.s (.d (.bool true)) [] (.pure (.pickT _ _ _ rfl rfl rfl)) (ChD.s (.d (.bool true)) [] pa ?_))))))
    refine ChD.nil (And.intro ?_ (by kernel_rfl))
    refine T_region hc (Ch.s (.d (.int .i64 (((m : Nat) : Int) + 1))) (.pure (.int _ _ _ _ _ rfl rfl rfl intV_addA)) (Ch.s (.d (.int .i64 (((m : Nat) : Int) + 1))) pm (Ch.nil ?_)))
    exact nx (m + 1) (by omega) (Wk.of rfl rfl (ai rfl (ai rfl (ai rfl (ai (vB (by first | rfl | (rw [unM_succ (by omega), (by assumption : unM x ((prA x).getD q.1 default) m = true)]; rfl) | (rw [unM_succ (by omega), (by assumption : unM x ((prA x).getD q.1 default) m = false), Bool.false_or]; done))) (ai rfl (ai rfl (ai rfl (ai rfl (ai rfl (ai (vI (by first | rfl | omega | (simp; done) | (simp; omega))) trivial)))))))))) (ai rfl (ai rfl (ai rfl (ai rfl (ai rfl (ai rfl trivial)))))))
   | false =>
    refine ChD.s (.agg [(.d (.slice false 2 (x.sigs.map Sgn.d))), (.d (.slice false 1 (x.codes.map D.str))), (.d (.slice false 4 (x.arcs.map Arc.d)))]) [1000] (.pure (.loadPtrA _ _ rfl ag35 sz35 rfl rfl (Nat.le_of_ble_eq_true rfl) rfl)) (ChD.s (.row 7000002) [] pm (ChD.s (.el 7000002 1 0 0) [7000002] (.pure (.idxRow _ _ _ 3 (0) rfl Tryz.underlying55 sz3 rfl rfl rfl rfl (by first | omega | (simp only [List.length_map, List.length_set]; omega) | (simp; omega)))) (ChD.s (.d (.int .i64 (((prA x).getD q.1 default).getD 0 default))) [7000002] (.pure (.loadEl1 _ _ rfl ag3 rfl rfl get_mapA rfl rfl rfl)) (ChD.s (.d (.int .i64 ((outsL x.sigs).getD m default))) [] pm (ChD.s (.d (.bool (excB x (((prA x).getD q.1 default).getD 0 default) ((outsL x.sigs).getD m default)))) [] (.call 30000 158 _ _ _ en158 rfl (.inl rfl) (.cons (.lend (.agg (.cons (.d _) (.cons (.d _) (.cons (.d _) .nil))) rfl)) (.cons (.d _) (.cons (.d _) .nil))) rfl rfl (sp_spec_l5Excited x (((prA x).getD q.1 default).getD 0 default) ((outsL x.sigs).getD m default) (by first | assumption | omega | (rw [List.length_take]; omega) | (have := bulkF_mem hb _ (getD_mem (d := default) (by omega)); assumption) | (unfold bulkS at *; omega) | (simp_all; done))) (.skip _ _ (.skip _ _ (.skip _ _ .nil))) rfl) (ChD.s (.agg [(.d (.slice false 2 (x.sigs.map Sgn.d))), (.d (.slice false 1 (x.codes.map D.str))), (.d (.slice false 4 (x.arcs.map Arc.d)))]) [1000] (.pure (.loadPtrA _ _ rfl ag35 sz35 rfl rfl (Nat.le_of_ble_eq_true rfl) rfl)) (ChD.s (.row 7000002) [] pm ?_)))))))
    refine ChD.s (.el 7000002 1 1 0) [7000002] (.pure (.idxRow _ _ _ 3 (1) rfl Tryz.underlying55 sz3 rfl rfl rfl rfl (by first | omega | (simp only [List.length_map, List.length_set]; omega) | (simp; omega)))) (ChD.s (.d (.int .i64 (((prA x).getD q.1 default).getD 1 default))) [7000002] (.pure (.loadEl1 _ _ rfl ag3 rfl rfl get_mapA rfl rfl rfl)) (ChD.s (.d (.int .i64 ((outsL x.sigs).getD m default))) [] pm (ChD.s (.d (.bool (excB x (((prA x).getD q.1 default).getD 1 default) ((outsL x.sigs).getD m default)))) [] (.call 36000 158 _ _ _ en158 rfl (.inl rfl) (.cons (.lend (.agg (.cons (.d _) (.cons (.d _) (.cons (.d _) .nil))) rfl)) (.cons (.d _) (.cons (.d _) .nil))) rfl rfl (sp_spec_l5Excited x (((prA x).getD q.1 default).getD 1 default) ((outsL x.sigs).getD m default) (by first | assumption | omega | (rw [List.length_take]; omega) | (have := bulkF_mem hb _ (getD_mem (d := default) (by omega)); assumption) | (unfold bulkS at *; omega) | (simp_all; done))) (.skip _ _ (.skip _ _ (.skip _ _ .nil))) rfl) (ChD.s (.d (.bool (!(decide ((excB x (((prA x).getD q.1 default).getD 0 default) ((outsL x.sigs).getD m default)) = (excB x (((prA x).getD q.1 default).getD 1 default) ((outsL x.sigs).getD m default))))))) [] (.pure (.neB _ _ _ _ rfl Tryz.underlying4 rfl rfl)) (ChD.s (.d (.bool (!(decide ((excB x (((prA x).getD q.1 default).getD 0 default) ((outsL x.sigs).getD m default)) = (excB x (((prA x).getD q.1 default).getD 1 default) ((outsL x.sigs).getD m default))))))) [] (.pure (.pickF _ _ _ rfl rfl rfl)) (ChD.s (.d (.bool (!(decide ((excB x (((prA x).getD q.1 default).getD 0 default) ((outsL x.sigs).getD m default)) = (excB x (((prA x).getD q.1 default).getD 1 default) ((outsL x.sigs).getD m default))))))) [] pa ?_))))))
    refine ChD.nil (And.intro ?_ (by kernel_rfl))
    refine T_region hc (Ch.s (.d (.int .i64 (((m : Nat) : Int) + 1))) (.pure (.int _ _ _ _ _ rfl rfl rfl intV_addA)) (Ch.s (.d (.int .i64 (((m : Nat) : Int) + 1))) pm (Ch.nil ?_)))
    exact nx (m + 1) (by omega) (Wk.of rfl rfl (ai rfl (ai rfl (ai rfl (ai (vB (by first | rfl | (rw [unM_succ (by omega), (by assumption : unM x ((prA x).getD q.1 default) m = true)]; rfl) | (rw [unM_succ (by omega), (by assumption : unM x ((prA x).getD q.1 default) m = false), Bool.false_or]; done))) (ai rfl (ai rfl (ai rfl (ai rfl (ai rfl (ai (vI (by first | rfl | omega | (simp; done) | (simp; omega))) trivial)))))))))) (ai rfl (ai rfl (ai rfl (ai rfl (ai rfl (ai rfl trivial)))))))
  ·
   replace h2 := of_decide_eq_false h2
   refine T_exit (T_seq (T_region hc (Ch.s (.d (.bool (unM x ((prA x).getD q.1 default) m))) pm (Ch.nil ?_))))
   refine T_cond (b := (unM x ((prA x).getD q.1 default) m)) rfl (fun h4 => ?_) (fun h4 => ?_)
   ·
    refine T_region hc (Ch.s (.row 3) pm (Ch.s (.row 7000002) pm (Ch.s (.row 43000) (.slice 43000 _ 55 _ rfl sty49 (xs := [.tmp 42]) rfl rfl (.cons (.row rfl) .nil) rfl rfl (by decide)) ?_)))
    refine Ch.step (v := (.row 44000)) rfl (.append 44000 _ _ _ 55 rfl sty49 (by decide) (.rowK rfl) (.inr ⟨_, rfl, rfl⟩) (.rowK rfl) rfl (by first | omega | (simp only [List.length_append, List.length_map, List.length_cons, List.length_nil]; omega) | (simp; omega) | (simp; done))) rfl rfl ?_
    refine Ch.s (.row 44000) pa (Ch.nil (T_region hc (Ch.s (.d (.int .i64 (((q.1 : Nat) : Int) + 1))) (.pure (.int _ _ _ _ _ rfl rfl rfl intV_addA)) (Ch.s (.d (.int .i64 (((q.1 : Nat) : Int) + 1))) pm (Ch.nil ?_)))))
    exact nx (q.1 + 1, q.2 ++ [.hole u1]) ⟨by dsimp only; omega, by dsimp only; rw [List.length_append, hp0.2]; rfl⟩ (Wk.ren [(3, 44000)] rfl rfl rfl rfl (ai rfl (ai rfl (ai rfl (ai rfl (ai (vI (by first | rfl | omega | (simp; done) | (simp; omega))) trivial))))) (ai (oR (by first | rfl | (exact push rfl (unK_yes (by omega) (by rw [← unM_all (m := m) (by omega)]; assumption))) | (exact congrArg (List.map _) (unK_no (by omega) (by rw [← unM_all (m := m) (by omega)]; assumption))) | (exact mg_set (f := intsU) (xs := prA x) hp0.2 (by omega)))) (ai rfl (ai (oR (by first | rfl | (exact push rfl (unK_yes (by omega) (by rw [← unM_all (m := m) (by omega)]; assumption))) | (exact congrArg (List.map _) (unK_no (by omega) (by rw [← unM_all (m := m) (by omega)]; assumption))) | (exact mg_set (f := intsU) (xs := prA x) hp0.2 (by omega)))) trivial))))
   ·
    refine T_skip (T_region hc (Ch.s (.d (.int .i64 (((q.1 : Nat) : Int) + 1))) (.pure (.int _ _ _ _ _ rfl rfl rfl intV_addA)) (Ch.s (.d (.int .i64 (((q.1 : Nat) : Int) + 1))) pm (Ch.nil ?_))))
    exact nx (q.1 + 1, q.2 ++ [.hole u1]) ⟨by dsimp only; omega, by dsimp only; rw [List.length_append, hp0.2]; rfl⟩ (Wk.of rfl rfl (ai rfl (ai rfl (ai rfl (ai rfl (ai (vI (by first | rfl | omega | (simp; done) | (simp; omega))) trivial))))) (ai (oR (by first | rfl | (exact push rfl (unK_yes (by omega) (by rw [← unM_all (m := m) (by omega)]; assumption))) | (exact congrArg (List.map _) (unK_no (by omega) (by rw [← unM_all (m := m) (by omega)]; assumption))) | (exact mg_set (f := intsU) (xs := prA x) hp0.2 (by omega)))) (ai rfl (ai (oR (by first | rfl | (exact push rfl (unK_yes (by omega) (by rw [← unM_all (m := m) (by omega)]; assumption))) | (exact congrArg (List.map _) (unK_no (by omega) (by rw [← unM_all (m := m) (by omega)]; assumption))) | (exact mg_set (f := intsU) (xs := prA x) hp0.2 (by omega)))) trivial))))
 ·
  replace h1 := of_decide_eq_false h1
  try have hpr := prTo_in (Nat.le_refl _) _ (getD_mem (l := prA x) (j := q.1) (d := default) (by omega))
  try have hp2 := hpr.1
  refine T_exit (T_seq (T_region hc (Ch.s (.row 3) pm (Ch.s (.row 3) pa (Ch.nil (T_ret ?_))))))
  exact endR [(.row 3)] [] [3] (.cons (.tmp 2 rfl) .nil) (.cons (.any _) .nil) (Exp.of (congrArg (D.slice true 1) (by rw [← unK_all (k := q.1) (by omega)])) (.row rfl)) rfl rfl

theorem sp_impl_diagnosis_1 (a : Arc) : Sp Tryz.prog 281 [(.agg [(.int .i64 a.src), (.int .i64 a.sig), (.bool (a.up)), (.int .i64 a.dst)])] [.any] (.bool (decide (a.sig = -1))) := by
 refine Sp_intro (lend := true) Tryz.func281 rfl rfl rfl (fun _ => rfl) (fun c hc hX => ?_)
 refine T_seq (T_region hc (Ch.s (.ptr 1000 0) (.box 1000 _ _ rfl (.aggD _)) (Ch.s (.d (.bool false)) pa (Ch.nil (T_seq (T_region hc (Ch.s (.ptr 1000 1) (.pure (.fldPtr _ _ _ rfl fld125_1 rfl)) ?_)))))))
 refine Ch.s (.d (.int .i64 a.sig)) (.pure (.loadPtr1 _ _ rfl ag3 rfl rfl rfl)) (Ch.s (.d (.bool (decide (a.sig = (-1))))) (.pure (.int _ _ _ _ _ rfl rfl rfl rfl)) (Ch.s (.d (.bool (decide (a.sig = (-1))))) pa (Ch.nil (T_ret ?_))))
 exact endR [(.d (.bool (decide (a.sig = (-1)))))] [] [] (.cons (.tmp 2 rfl) .nil) (.cons (.any _) .nil) (Exp.of (congrArg D.bool (by rfl)) (.d _)) rfl rfl

theorem sp_spec_l6Hidden (x : Sgr) (hb : x.bulk ≤ 1048576) (hx : SgOk x) : Sp Tryz.prog 166 [(.agg [(.slice false 2 (x.sigs.map Sgn.d)), (.slice false 1 (x.codes.map D.str)), (.slice false 4 (x.arcs.map Arc.d))])] [.any] (.bool (hidB x)) := by
 refine Sp_intro (lend := true) Tryz.func166 rfl rfl rfl (fun _ => rfl) (fun c hc hX => ?_)
 obtain ⟨hp0, hp1, hp2⟩ := Sgr.parts hb
 have hn0 := bulkF_len hp0
 have hn1 := bulk_len hp1
 have hx1 := bulk_mem hp1
 have hn2 := bulkF_len hp2; have hx8 := hx.eight; have hxl := hx.len; have hxf := hx.few; have hen := hx.ends
 refine T_seq (T_region hc (Ch.s (.ptr 1000 0) (.box 1000 _ _ rfl (.aggD _)) (Ch.s (.d (.bool false)) pa (Ch.nil (T_seq (T_seq (T_region hc ?_)))))))
 refine Ch.s (.ptr 1000 2) (.pure (.fldPtr _ _ _ rfl fld35_2 rfl)) (Ch.s (.d (.slice false 4 (x.arcs.map Arc.d))) (.pure (.loadPtr1 _ _ rfl ag33 rfl rfl rfl)) (Ch.s (.d (.int .i64 ((x.arcs.length : Nat) : Int))) (.pure (.len _ _ 125 rfl Tryz.underlying33 (.sh _ _) (by simp))) (Ch.s (.d (.int .i64 0)) pm (Ch.nil (T_block ?_)))))
 refine T_loop (ι := Nat) (fun k => { n := 16, sl := [(6, (.d (.slice false 4 (x.arcs.map Arc.d)))), (7, (.d (.int .i64 ((x.arcs.length : Nat) : Int)))), (8, (.d (.int .i64 ((k : Nat) : Int))))], hp := [], pin := [] }) (fun k => k ≤ x.arcs.length ∧ ∀ j, j < k → decide ((x.arcs.getD j default).sig = -1) = false) (fun k => x.arcs.length - k) ⟨0, ⟨by omega, fun j hj => by omega⟩, (Wk.of rfl rfl (ai rfl (ai rfl (ai (vI (by first | rfl | omega | (simp; done) | (simp; omega))) trivial))) trivial)⟩ (fun k hp0 => ?_)
 refine T_seq (T_region hc (Ch.s (.d (.bool (decide (((k : Nat) : Int) < ((x.arcs.length : Nat) : Int))))) (.pure (.int _ _ _ _ _ rfl rfl rfl rfl)) (Ch.nil (T_seq ?_))))
 refine T_cond (b := (decide (((k : Nat) : Int) < ((x.arcs.length : Nat) : Int)))) rfl (fun h1 => ?_) (fun h1 => ?_)
 ·
  replace h1 := of_decide_eq_true h1
  try have hsk := (hx.sig _ (getD_mem (l := x.arcs) (j := k) (d := default) (by omega))).2
  refine T_skip (T_seq (T_block (T_seq (T_region hc (Ch.s (.d (.ref (.agg [(.int .i64 ((x.arcs.getD k default).src)), (.int .i64 ((x.arcs.getD k default).sig)), (.bool ((x.arcs.getD k default).up)), (.int .i64 ((x.arcs.getD k default).dst))]))) (.pure (.idx _ _ _ 125 (k) rfl Tryz.underlying33 sz125 rfl rfl rfl get_mapA)) (Ch.s (.d (.agg [(.int .i64 ((x.arcs.getD k default).src)), (.int .i64 ((x.arcs.getD k default).sig)), (.bool ((x.arcs.getD k default).up)), (.int .i64 ((x.arcs.getD k default).dst))])) (.pure (.loadRefA _ _ rfl ag125 sz125 rfl)) (Ch.s (.ptr 4000 0) (.alloc 4000 _ rfl zer125) ?_)))))))
  refine Ch.s .junk (.storePtr _ _ _ rfl rfl rfl (.aggD _) sz125 (Nat.le_of_ble_eq_true rfl)) (Ch.nil (T_seq (T_region hc (Ch.s (.ptr 4000 1) (.pure (.fldPtr _ _ _ rfl fld125_1 rfl)) (Ch.s (.d (.int .i64 ((x.arcs.getD k default).sig))) (.pure (.loadPtr1 _ _ rfl ag3 rfl rfl rfl)) (Ch.s (.d (.bool (decide (((x.arcs.getD k default).sig) < 0)))) (.pure (.int _ _ _ _ _ rfl rfl rfl rfl)) (Ch.nil ?_)))))))
  refine T_cond (b := (decide (((x.arcs.getD k default).sig) < 0))) rfl (fun h2 => ?_) (fun h2 => ?_)
  ·
   replace h2 := of_decide_eq_true h2
   refine T_seq (T_region hc (Ch.s (.d (.bool true)) pa (Ch.nil (T_ret ?_))))
   exact endR [(.d (.bool true))] [] [] (.cons (.tmp 2 rfl) .nil) (.cons (.any _) .nil) (Exp.of (congrArg D.bool (by exact any_yes default k (by omega) (decide_eq_true (by omega)))) (.d _)) rfl rfl
  ·
   replace h2 := of_decide_eq_false h2
   refine T_skip (T_region hc (Ch.s (.d (.int .i64 (((k : Nat) : Int) + 1))) (.pure (.int _ _ _ _ _ rfl rfl rfl intV_addA)) (Ch.s (.d (.int .i64 (((k : Nat) : Int) + 1))) pm (Ch.nil ?_))))
   exact nx (k + 1) ⟨by omega, upto_succ hp0.2 (decide_eq_false (by omega))⟩ (Wk.of rfl rfl (ai rfl (ai rfl (ai (vI (by first | rfl | omega | (simp; done) | (simp; omega))) trivial))) trivial)
 ·
  replace h1 := of_decide_eq_false h1
  try have hsk := (hx.sig _ (getD_mem (l := x.arcs) (j := k) (d := default) (by omega))).2
  refine T_exit (T_seq (T_region hc (Ch.s (.d (.bool false)) pa (Ch.nil (T_ret ?_)))))
  exact endR [(.d (.bool false))] [] [] (.cons (.tmp 2 rfl) .nil) (.cons (.any _) .nil) (Exp.of (congrArg D.bool (by exact any_no default (fun j hj => hp0.2 j (by omega)))) (.d _)) rfl rfl

theorem sp_impl_diagnosis (x : Sgr) (hb : x.bulk ≤ 1048576) (hx : SgOk x) : Sp Tryz.prog 258 [(.agg [(.slice false 2 (x.sigs.map Sgn.d)), (.slice false 1 (x.codes.map D.str)), (.slice false 4 (x.arcs.map Arc.d))])] [.any] (.str (whyW x)) := by
 refine Sp_intro (lend := true) Tryz.func258 rfl rfl rfl (fun _ => rfl) (fun c hc hX => ?_)
 obtain ⟨hp0, hp1, hp2⟩ := Sgr.parts hb
 have hn0 := bulkF_len hp0
 have hn1 := bulk_len hp1
 have hx1 := bulk_mem hp1
 have hn2 := bulkF_len hp2; have hx8 := hx.eight; have hxl := hx.len; have hxf := hx.few; have hen := hx.ends
 refine T_seq (T_region hc (Ch.s (.ptr 1000 0) (.box 1000 _ _ rfl (.aggD _)) (Ch.s (.d (.str [])) pa (Ch.nil (T_seq (T_block (T_seq ?_)))))))
 refine T_region hc (Ch.s (.ptr 1000 2) (.pure (.fldPtr _ _ _ rfl fld35_2 rfl)) (Ch.s (.d (.slice false 4 (x.arcs.map Arc.d))) (.pure (.loadPtr1 _ _ rfl ag33 rfl rfl rfl)) (Ch.s (.d (.bool (x.arcs.any (fun a => decide (a.sig = -1))))) (.call 6000 207 _ _ _ en207 rfl (.inl rfl) (.cons (.d _) (.cons (.lend (.fn .nil)) .nil)) rfl rfl (sp_ContainsFunc_arc x.arcs 281 [] (fun a => decide (a.sig = -1)) en281 (fun a ha => sp_impl_diagnosis_1 a) (by first | omega | assumption | (exact hx _ (getD_mem (by omega))) | (exact hx _ (by assumption)) | (exact Nat.le_trans (hx _ (by assumption)) (by omega)) | (simp only [List.length_append, List.length_take, List.length_drop, List.length_cons, List.length_nil]; omega) | (simp_all; done))) (.skip _ _ (.skip _ _ .nil)) rfl) (Ch.s (.d (.bool (x.arcs.any (fun a => decide (a.sig = -1))))) pa (Ch.nil ?_)))))
 refine T_cond (b := (x.arcs.any (fun a => decide (a.sig = -1)))) rfl (fun h1 => ?_) (fun h1 => ?_)
 ·
  refine T_seq (T_region hc (Ch.s (.d (.str [104, 105, 100, 100, 101, 110])) pa (Ch.nil (T_ret ?_))))
  exact endR [(.d (.str [104, 105, 100, 100, 101, 110]))] [] [] (.cons (.tmp 2 rfl) .nil) (.cons (.any _) .nil) (Exp.of (congrArg D.str (by first | (rw [why_hid h1]; done) | (rw [why_two h1 h2]; done) | (rw [why_brk h1 h2 h3]; done) | (rw [why_cf h1 h2 h3 h4]; done) | (rw [why_made h1 h2 h3 h4]; done))) (.d _)) rfl rfl
 ·
  refine T_seq (T_region hc (Ch.s (.agg [(.d (.slice false 2 (x.sigs.map Sgn.d))), (.d (.slice false 1 (x.codes.map D.str))), (.d (.slice false 4 (x.arcs.map Arc.d)))]) (.pure (.loadPtrA _ _ rfl ag35 sz35 rfl rfl (Nat.le_of_ble_eq_true rfl) rfl)) ?_))
  refine Ch.step (v := (.row 9000)) rfl (.call 9000 282 _ _ _ en282 rfl (.inl rfl) (.cons (.lend (.agg (.cons (.d _) (.cons (.d _) (.cons (.d _) .nil))) rfl)) .nil) rfl (sol (solid_row intsU_sol _) rfl) (sp_impl_twoWays x (by first | assumption | omega | (rw [List.length_take]; omega) | (have := bulkF_mem hb _ (getD_mem (d := default) (by omega)); assumption) | (unfold bulkS at *; omega) | (simp_all; done)) (by assumption)) (.skip _ _ .nil) rfl) rfl rfl ?_
  refine Ch.s (.d (.int .i64 (((twL x).length : Nat) : Int))) (.pure (.len _ _ 55 rfl Tryz.underlying49 (.row rfl) (by simp))) (Ch.s (.d (.bool (decide (0 < (((twL x).length : Nat) : Int))))) (.pure (.int _ _ _ _ _ rfl rfl rfl rfl)) (Ch.s (.d (.bool (decide (0 < (((twL x).length : Nat) : Int))))) pa (Ch.nil ?_)))
  refine T_cond (b := (decide (0 < (((twL x).length : Nat) : Int)))) rfl (fun h2 => ?_) (fun h2 => ?_)
  ·
   replace h2 := of_decide_eq_true h2
   refine T_seq (T_region hc (Ch.s (.d (.str [116, 119, 111, 32, 119, 97, 121, 115])) pa (Ch.nil (T_ret ?_))))
   exact endR [(.d (.str [116, 119, 111, 32, 119, 97, 121, 115]))] [] [] (.cons (.tmp 2 rfl) .nil) (.cons (.any _) .nil) (Exp.of (congrArg D.str (by first | (rw [why_hid h1]; done) | (rw [why_two h1 h2]; done) | (rw [why_brk h1 h2 h3]; done) | (rw [why_cf h1 h2 h3 h4]; done) | (rw [why_made h1 h2 h3 h4]; done))) (.d _)) rfl rfl
  ·
   replace h2 := of_decide_eq_false h2
   refine T_seq (T_region hc (Ch.s (.agg [(.d (.slice false 2 (x.sigs.map Sgn.d))), (.d (.slice false 1 (x.codes.map D.str))), (.d (.slice false 4 (x.arcs.map Arc.d)))]) (.pure (.loadPtrA _ _ rfl ag35 sz35 rfl rfl (Nat.le_of_ble_eq_true rfl) rfl)) ?_))
   refine Ch.step (v := (.row 14000)) rfl (.call 14000 283 _ _ _ en283 rfl (.inl rfl) (.cons (.lend (.agg (.cons (.d _) (.cons (.d _) (.cons (.d _) .nil))) rfl)) .nil) rfl (sol (solid_row (fun _ => rfl) _) rfl) (sp_impl_violations x (by first | assumption | omega | (rw [List.length_take]; omega) | (have := bulkF_mem hb _ (getD_mem (d := default) (by omega)); assumption) | (unfold bulkS at *; omega) | (simp_all; done)) (by assumption)) (.skip _ _ .nil) rfl) rfl rfl ?_
   refine Ch.s (.d (.int .i64 (((pvL x).length : Nat) : Int))) (.pure (.len _ _ 216 rfl Tryz.underlying175 (.row rfl) (by simp))) (Ch.s (.d (.bool (decide (0 < (((pvL x).length : Nat) : Int))))) (.pure (.int _ _ _ _ _ rfl rfl rfl rfl)) (Ch.s (.d (.bool (decide (0 < (((pvL x).length : Nat) : Int))))) pa (Ch.nil ?_)))
   refine T_cond (b := (decide (0 < (((pvL x).length : Nat) : Int)))) rfl (fun h3 => ?_) (fun h3 => ?_)
   ·
    replace h3 := of_decide_eq_true h3
    refine T_seq (T_region hc (Ch.s (.d (.str [98, 114, 101, 97, 107])) pa (Ch.nil (T_ret ?_))))
    exact endR [(.d (.str [98, 114, 101, 97, 107]))] [] [] (.cons (.tmp 2 rfl) .nil) (.cons (.any _) .nil) (Exp.of (congrArg D.str (by first | (rw [why_hid h1]; done) | (rw [why_two h1 h2]; done) | (rw [why_brk h1 h2 h3]; done) | (rw [why_cf h1 h2 h3 h4]; done) | (rw [why_made h1 h2 h3 h4]; done))) (.d _)) rfl rfl
   ·
    replace h3 := of_decide_eq_false h3
    refine T_seq (T_region hc (Ch.s (.agg [(.d (.slice false 2 (x.sigs.map Sgn.d))), (.d (.slice false 1 (x.codes.map D.str))), (.d (.slice false 4 (x.arcs.map Arc.d)))]) (.pure (.loadPtrA _ _ rfl ag35 sz35 rfl rfl (Nat.le_of_ble_eq_true rfl) rfl)) ?_))
    refine Ch.step (v := (.row 19000)) rfl (.call 19000 284 _ _ _ en284 rfl (.inl rfl) (.cons (.lend (.agg (.cons (.d _) (.cons (.d _) (.cons (.d _) .nil))) rfl)) .nil) rfl (sol (solid_row intsU_sol _) rfl) (sp_impl_conflicts x (by first | assumption | omega | (rw [List.length_take]; omega) | (have := bulkF_mem hb _ (getD_mem (d := default) (by omega)); assumption) | (unfold bulkS at *; omega) | (simp_all; done)) (by assumption)) (.skip _ _ .nil) rfl) rfl rfl ?_
    refine Ch.s (.d (.int .i64 (((cfL x).length : Nat) : Int))) (.pure (.len _ _ 55 rfl Tryz.underlying49 (.row rfl) (by simp))) (Ch.s (.d (.bool (decide (0 < (((cfL x).length : Nat) : Int))))) (.pure (.int _ _ _ _ _ rfl rfl rfl rfl)) (Ch.s (.d (.bool (decide (0 < (((cfL x).length : Nat) : Int))))) pa (Ch.nil ?_)))
    refine T_cond (b := (decide (0 < (((cfL x).length : Nat) : Int)))) rfl (fun h4 => ?_) (fun h4 => ?_)
    ·
     replace h4 := of_decide_eq_true h4
     refine T_seq (T_region hc (Ch.s (.d (.str [99, 111, 110, 102, 108, 105, 99, 116])) pa (Ch.nil (T_ret ?_))))
     exact endR [(.d (.str [99, 111, 110, 102, 108, 105, 99, 116]))] [] [] (.cons (.tmp 2 rfl) .nil) (.cons (.any _) .nil) (Exp.of (congrArg D.str (by first | (rw [why_hid h1]; done) | (rw [why_two h1 h2]; done) | (rw [why_brk h1 h2 h3]; done) | (rw [why_cf h1 h2 h3 h4]; done) | (rw [why_made h1 h2 h3 h4]; done))) (.d _)) rfl rfl
    ·
     replace h4 := of_decide_eq_false h4
     refine T_skip (T_seq (T_region hc (Ch.s (.d (.str [109, 97, 100, 101])) pa (Ch.nil (T_ret ?_)))))
     exact endR [(.d (.str [109, 97, 100, 101]))] [] [] (.cons (.tmp 2 rfl) .nil) (.cons (.any _) .nil) (Exp.of (congrArg D.str (by first | (rw [why_hid h1]; done) | (rw [why_two h1 h2]; done) | (rw [why_brk h1 h2 h3]; done) | (rw [why_cf h1 h2 h3 h4]; done) | (rw [why_made h1 h2 h3 h4]; done))) (.d _)) rfl rfl

end Go.AM
