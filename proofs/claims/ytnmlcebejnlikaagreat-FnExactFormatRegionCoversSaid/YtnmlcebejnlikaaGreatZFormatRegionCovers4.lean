/-
  The contracts that the law FnExactFormatRegionCovers needs.
-/
import Derived.Test.YtnmlcebejnlikaaGreatZFormatRegionCovers3
namespace Go.AM
open Go.Proofs
set_option linter.unusedVariables false
set_option linter.unusedSimpArgs false

theorem sp_impl_edgesOf (x : Sgr) (hb : x.bulk ≤ 1048576) (h8 : x.sigs.length ≤ 8) : Sp Tryz.prog 132 [(.agg [(.slice false 2 (x.sigs.map Sgn.d)), (.slice false 1 (x.codes.map D.str)), (.slice false 4 (x.arcs.map Arc.d))])] [.any] (.slice true 2 ((edgesF (outsL x.sigs)).map Lab.d)) := by
 refine Sp_intro (lend := true) Tryz.func132 rfl rfl rfl (fun _ => rfl) (fun c hc hX => ?_)
 obtain ⟨hp0, hp1, hp2⟩ := Sgr.parts hb
 have hn0 := bulkF_len hp0
 have hn1 := bulk_len hp1
 have hx1 := bulk_mem hp1
 have hn2 := bulkF_len hp2; have hol := outs_len x.sigs
 refine T_seq (T_region hc (Ch.s (.ptr 1000 0) (.box 1000 _ _ rfl (.aggD _)) (Ch.s (.c (.slice none 0 0)) pa (Ch.nil (T_seq (T_region hc (Ch.s (.row 6000) (.slice 6000 _ 107 _ rfl sty147 (xs := []) rfl rfl .nil rfl rfl (by decide)) ?_)))))))
 refine Ch.s (.row 6000) pa (Ch.nil (T_seq (T_seq (T_region hc (Ch.s (.agg [(.d (.slice false 2 (x.sigs.map Sgn.d))), (.d (.slice false 1 (x.codes.map D.str))), (.d (.slice false 4 (x.arcs.map Arc.d)))]) (.pure (.loadPtrA _ _ rfl ag35 sz35 rfl rfl (Nat.le_of_ble_eq_true rfl) rfl)) ?_)))))
 refine Ch.step (v := (.row 8000)) rfl (.call 8000 173 _ _ _ en173 rfl (.inl rfl) (.cons (.lend (.agg (.cons (.d _) (.cons (.d _) (.cons (.d _) .nil))) rfl)) .nil) rfl (sol (solid_row (fun _ => rfl) _) rfl) (sp_impl_outputs x (by first | assumption | (show Sgr.bulk (Sgr.mk _ [] []) ≤ 1048576; unfold Sgr.bulk bulkS bulkF; simp only [List.length_nil, List.map_nil, List.sum_nil]; unfold bulkF at *; omega))) (.skip _ _ .nil) rfl) rfl rfl ?_
 refine Ch.s (.d (.int .i64 (((outsL x.sigs).length : Nat) : Int))) (.pure (.len _ _ 3 rfl Tryz.underlying55 (.row rfl) (by simp))) (Ch.s (.d (.int .i64 0)) pm (Ch.nil (T_block ?_)))
 refine T_loop (ι := Nat) (fun k => { n := 23, sl := [(3, (.row 3)), (8, (.row 8000)), (9, (.d (.int .i64 (((outsL x.sigs).length : Nat) : Int)))), (10, (.d (.int .i64 ((k : Nat) : Int))))], hp := [(3, (some (.row 2 ((edgesF ((outsL x.sigs).take k)).map Lab.d)))), (8000, (some (.row 1 ((outsL x.sigs).map (fun n : Int => D.int .i64 n)))))], pin := [] }) (fun k => k ≤ (outsL x.sigs).length) (fun k => (outsL x.sigs).length - k) ⟨0, (by omega), (Wk.ren [(3, 6000)] rfl rfl rfl rfl (ai rfl (ai rfl (ai rfl (ai (vI (by first | rfl | omega | (simp; done) | (simp; omega))) trivial)))) (ai (oR (by first | rfl | (rw [← edges_succ (by omega), List.map_append]; rfl))) (ai rfl trivial)))⟩ (fun k hp0 => ?_)
 have hq := edges_len ((outsL x.sigs).take k); have hq2 : ((outsL x.sigs).take k).length = k := (by rw [List.length_take]; omega)
 refine T_seq (T_region hc (Ch.s (.d (.bool (decide (((k : Nat) : Int) < (((outsL x.sigs).length : Nat) : Int))))) (.pure (.int _ _ _ _ _ rfl rfl rfl rfl)) (Ch.nil (T_seq ?_))))
 refine T_cond (b := (decide (((k : Nat) : Int) < (((outsL x.sigs).length : Nat) : Int)))) rfl (fun h1 => ?_) (fun h1 => ?_)
 ·
  replace h1 := of_decide_eq_true h1
  refine T_skip (T_seq (T_block (T_seq (T_region hc (Ch.s (.el 8000 1 k 0) (.pure (.idxRow _ _ _ 3 (k) rfl Tryz.underlying55 sz3 rfl rfl rfl rfl (by first | omega | (simp only [List.length_map, List.length_set]; omega) | (simp; omega)))) (Ch.s (.d (.int .i64 ((outsL x.sigs).getD k default))) (.pure (.loadEl1 _ _ rfl ag3 rfl rfl get_mapA rfl rfl rfl)) (Ch.s (.d (.int .i64 ((outsL x.sigs).getD k default))) pa ?_)))))))
  refine Ch.nil (T_region hc (Ch.s (.row 3) pm (Ch.s (.d (.int .i64 ((outsL x.sigs).getD k default))) pm (Ch.s (.agg [(.d (.int .i64 ((outsL x.sigs).getD k default))), (.d (.bool true))]) (.build _ _ rfl stru107 (.cons (.one _ rfl) (.cons (.one _ rfl) .nil)) rfl) (Ch.s (.d (.int .i64 ((outsL x.sigs).getD k default))) pm (Ch.s (.agg [(.d (.int .i64 ((outsL x.sigs).getD k default))), (.d (.bool false))]) (.build _ _ rfl stru107 (.cons (.one _ rfl) (.cons (.one _ rfl) .nil)) rfl) (Ch.s (.row 19000) (.slice 19000 _ 107 _ rfl sty147 (xs := [.tmp 16, .tmp 18]) rfl rfl (.cons (.agg (.cons (.d _) (.cons (.d _) .nil)) rfl) (.cons (.agg (.cons (.d _) (.cons (.d _) .nil)) rfl) .nil)) rfl rfl (by decide)) ?_)))))))
  refine Ch.step (v := (.row 20000)) rfl (.append 20000 _ _ _ 107 rfl sty147 (by decide) (.rowK rfl) (.inr ⟨_, rfl, rfl⟩) (.row rfl rfl) rfl (by first | omega | (simp only [List.length_append, List.length_map, List.length_cons, List.length_nil]; omega) | (simp; omega) | (simp; done))) rfl rfl ?_
  refine Ch.s (.row 20000) pa (Ch.nil (T_region hc (Ch.s (.d (.int .i64 (((k : Nat) : Int) + 1))) (.pure (.int _ _ _ _ _ rfl rfl rfl intV_addA)) (Ch.s (.d (.int .i64 (((k : Nat) : Int) + 1))) pm (Ch.nil ?_)))))
  exact nx (k + 1) (by omega) (Wk.ren [(3, 20000)] rfl rfl rfl rfl (ai rfl (ai rfl (ai rfl (ai (vI (by first | rfl | omega | (simp; done) | (simp; omega))) trivial)))) (ai (oR (by first | rfl | (rw [← edges_succ (by omega), List.map_append]; rfl))) (ai rfl trivial)))
 ·
  replace h1 := of_decide_eq_false h1
  refine T_exit (T_seq (T_region hc (Ch.s (.row 3) pm (Ch.s (.row 3) pa (Ch.nil (T_ret ?_))))))
  exact endR [(.row 3)] [] [3] (.cons (.tmp 2 rfl) .nil) (.cons (.any _) .nil) (Exp.of (congrArg (D.slice true 2) (by rw [List.take_of_length_le (by omega)])) (.row rfl)) rfl rfl

set_option maxHeartbeats 1000000 in
theorem sp_impl_isEntryList (x : Sgr) (xs : List Rcv) (hb : x.bulk ≤ 1048576) (h8 : x.sigs.length ≤ 8) (hn : xs.length ≤ 1048576) : Sp Tryz.prog 112 [(.agg [(.slice false 2 (x.sigs.map Sgn.d)), (.slice false 1 (x.codes.map D.str)), (.slice false 4 (x.arcs.map Arc.d))]), (.slice false 3 (xs.map Rcv.d))] [.any, .any] (.bool (entB x xs)) := by
 refine Sp_intro (lend := true) Tryz.func112 rfl rfl rfl (fun _ => rfl) (fun c hc hX => ?_)
 obtain ⟨hp0, hp1, hp2⟩ := Sgr.parts hb
 have hn0 := bulkF_len hp0
 have hn1 := bulk_len hp1
 have hx1 := bulk_mem hp1
 have hn2 := bulkF_len hp2; have hol := outs_len x.sigs; have hel := edges_len (outsL x.sigs)
 refine T_seq (T_region hc (Ch.s (.ptr 2000 0) (.box 2000 _ _ rfl (.aggD _)) (Ch.s (.d (.bool false)) pa (Ch.nil (T_seq (T_region hc (Ch.s (.agg [(.d (.slice false 2 (x.sigs.map Sgn.d))), (.d (.slice false 1 (x.codes.map D.str))), (.d (.slice false 4 (x.arcs.map Arc.d)))]) (.pure (.loadPtrA _ _ rfl ag35 sz35 rfl rfl (Nat.le_of_ble_eq_true rfl) rfl)) ?_)))))))
 refine Ch.step (v := (.row 9000)) rfl (.call 9000 132 _ _ _ en132 rfl (.inl rfl) (.cons (.lend (.agg (.cons (.d _) (.cons (.d _) (.cons (.d _) .nil))) rfl)) .nil) rfl (sol (solid_row (fun _ => rfl) _) rfl) (sp_impl_edgesOf x (by first | assumption | omega | (rw [List.length_take]; omega) | (have := bulkF_mem hb _ (getD_mem (d := default) (by omega)); assumption) | (unfold bulkS at *; omega) | (simp_all; done)) (by first | assumption | omega | (rw [List.length_take]; omega) | (have := bulkF_mem hb _ (getD_mem (d := default) (by omega)); assumption) | (unfold bulkS at *; omega) | (simp_all; done))) (.skip _ _ .nil) rfl) rfl rfl ?_
 refine Ch.s (.row 9000) pa (Ch.nil (T_seq (T_seq (T_region hc (Ch.s (.d (.slice false 3 (xs.map Rcv.d))) pm (Ch.s (.d (.int .i64 ((xs.length : Nat) : Int))) (.pure (.len _ _ 121 rfl Tryz.underlying73 (.sh _ _) (by simp))) (Ch.s (.d (.int .i64 0)) pm ?_)))))))
 refine Ch.nil (T_block ?_)
 refine T_loop (ι := Nat) (fun k => { n := 39, sl := [(1, (.d (.slice false 3 (xs.map Rcv.d)))), (5, (.row 9000)), (10, (.d (.slice false 3 (xs.map Rcv.d)))), (11, (.d (.int .i64 ((xs.length : Nat) : Int)))), (12, (.d (.int .i64 ((k : Nat) : Int))))], hp := [(9000, (some (.row 2 ((edgesF (outsL x.sigs)).map Lab.d))))], pin := [] }) (fun k => k ≤ xs.length ∧ ∀ j, j < k → (edgesF (outsL x.sigs)).getD j default = Lab.mk (xs.getD j default).sig (xs.getD j default).up) (fun k => xs.length - k) ⟨0, ⟨by omega, fun j hj => by omega⟩, (Wk.of rfl rfl (ai rfl (ai rfl (ai rfl (ai rfl (ai (vI (by first | rfl | omega | (simp; done) | (simp; omega))) trivial))))) (ai rfl trivial))⟩ (fun k hp0 => ?_)
 refine T_seq (T_region hc (Ch.s (.d (.bool (decide (((k : Nat) : Int) < ((xs.length : Nat) : Int))))) (.pure (.int _ _ _ _ _ rfl rfl rfl rfl)) (Ch.nil (T_seq ?_))))
 refine T_cond (b := (decide (((k : Nat) : Int) < ((xs.length : Nat) : Int)))) rfl (fun h1 => ?_) (fun h1 => ?_)
 ·
  replace h1 := of_decide_eq_true h1
  refine T_skip (T_seq (T_block (T_seq (T_region hc (Ch.s (.d (.int .i64 ((k : Nat) : Int))) pm (Ch.s (.d (.ref (.agg [(.int .i64 ((xs.getD k default).sig)), (.bool ((xs.getD k default).up)), (.slice false 1 (((xs.getD k default).cubes).map D.str))]))) (.pure (.idx _ _ _ 121 (k) rfl Tryz.underlying73 sz121 rfl rfl rfl get_mapA)) (Ch.s (.d (.agg [(.int .i64 ((xs.getD k default).sig)), (.bool ((xs.getD k default).up)), (.slice false 1 (((xs.getD k default).cubes).map D.str))])) (.pure (.loadRefA _ _ rfl ag121 sz121 rfl)) ?_)))))))
  refine Ch.s (.ptr 7000 0) (.alloc 7000 _ rfl zer121) (Ch.s (.d (.int .i64 ((k : Nat) : Int))) pa (Ch.s .junk (.storePtr _ _ _ rfl rfl rfl (.aggD _) sz121 (Nat.le_of_ble_eq_true rfl)) (Ch.nil (T_seq ?_))))
  refine T_regionD hc (by kernel_rfl) ?_
  refine ChD.s (.d (.int .i64 ((k : Nat) : Int))) [] pm (ChD.s (.row 9000) [] pm (ChD.s (.d (.int .i64 (((edgesF (outsL x.sigs)).length : Nat) : Int))) [9000] (.pure (.len _ _ 107 rfl Tryz.underlying147 (.row rfl) (by simp))) (ChD.s (.d (.bool (decide ((((edgesF (outsL x.sigs)).length : Nat) : Int) ≤ ((k : Nat) : Int))))) [] (.pure (.int _ _ _ _ _ rfl rfl rfl rfl)) (ChD.s (.d (.bool (decide ((((edgesF (outsL x.sigs)).length : Nat) : Int) ≤ ((k : Nat) : Int))))) [] pm ?_))))
  cases h2 : (decide ((((edgesF (outsL x.sigs)).length : Nat) : Int) ≤ ((k : Nat) : Int))) with
  | true =>
   replace h2 := of_decide_eq_true h2
   refine ChD.skip rfl rfl (ChD.skip rfl rfl (ChD.skip rfl rfl (ChD.skip rfl rfl (ChD.skip rfl rfl (ChD.skip rfl rfl (ChD.skip rfl rfl (ChD.skip rfl rfl ?_)))))))
   refine ChD.skip rfl rfl (ChD.skip rfl rfl (ChD.s (.d (.bool true)) [] (.pure (.pickT _ _ _ rfl rfl rfl)) ?_))
   refine ChD.nil (And.intro ?_ (by kernel_rfl))
   refine T_cond (b := true) rfl (fun _ => ?_) (fun h => nomatch h)
   refine T_seq (T_region hc (Ch.s (.d (.bool false)) pa (Ch.nil (T_ret ?_))))
   exact endR [(.d (.bool false))] [] [] (.cons (.tmp 4 rfl) .nil) (.cons (.any _) (.cons (.any _) .nil)) (Exp.of (congrArg D.bool (by exact (ent_len (by omega)).symm)) (.d _)) rfl rfl
  | false =>
   replace h2 := of_decide_eq_false h2
   refine ChD.s (.row 9000) [] pm (ChD.s (.d (.int .i64 ((k : Nat) : Int))) [] pm (ChD.s (.el 9000 2 k 0) [9000] (.pure (.idxRow _ _ _ 107 (k) rfl Tryz.underlying147 sz107 rfl rfl rfl rfl (by first | omega | (simp only [List.length_map, List.length_set]; omega) | (simp; omega)))) (ChD.s (.d (.agg [(.int .i64 (((edgesF (outsL x.sigs)).getD k default).sig)), (.bool (((edgesF (outsL x.sigs)).getD k default).up))])) [9000] (.pure (.loadElA _ _ rfl ag107 sz107 rfl rfl get_mapA rfl)) (ChD.s (.ptr 7000 0) [] (.pure (.fldPtr _ _ _ rfl fld121_0 rfl)) (ChD.s (.d (.int .i64 ((xs.getD k default).sig))) [7000] (.pure (.loadPtr1 _ _ rfl ag3 rfl rfl rfl)) (ChD.s (.ptr 7000 1) [] (.pure (.fldPtr _ _ _ rfl fld121_1 rfl)) (ChD.s (.d (.bool ((xs.getD k default).up))) [7000] (.pure (.loadPtr1 _ _ rfl ag4 rfl rfl rfl)) ?_)))))))
   refine ChD.s (.agg [(.d (.int .i64 ((xs.getD k default).sig))), (.d (.bool ((xs.getD k default).up)))]) [] (.build _ _ rfl stru107 (.cons (.one _ rfl) (.cons (.one _ rfl) .nil)) rfl) (ChD.s (.d (.bool (!(decide (((edgesF (outsL x.sigs)).getD k default) = (Lab.mk ((xs.getD k default).sig) ((xs.getD k default).up))))))) [] (.pure (.neA _ _ _ _ rfl (eqa107 _ _ _ _) (.d _) (.v [(.int .i64 ((xs.getD k default).sig)), (.bool ((xs.getD k default).up))]) (Lab.eqv ((edgesF (outsL x.sigs)).getD k default) (Lab.mk ((xs.getD k default).sig) ((xs.getD k default).up))))) (ChD.s (.d (.bool (!(decide (((edgesF (outsL x.sigs)).getD k default) = (Lab.mk ((xs.getD k default).sig) ((xs.getD k default).up))))))) [] (.pure (.pickF _ _ _ rfl rfl rfl)) ?_))
   refine ChD.nil (And.intro ?_ (by kernel_rfl))
   refine T_cond (b := (!(decide (((edgesF (outsL x.sigs)).getD k default) = (Lab.mk ((xs.getD k default).sig) ((xs.getD k default).up)))))) rfl (fun h3 => ?_) (fun h3 => ?_)
   ·
    replace h3 := nott h3
    replace h3 := of_decide_eq_false h3
    refine T_seq (T_region hc (Ch.s (.d (.bool false)) pa (Ch.nil (T_ret ?_))))
    exact endR [(.d (.bool false))] [] [] (.cons (.tmp 4 rfl) .nil) (.cons (.any _) (.cons (.any _) .nil)) (Exp.of (congrArg D.bool (by exact (ent_no k (by omega) (by assumption)).symm)) (.d _)) rfl rfl
   ·
    replace h3 := notf h3
    replace h3 := of_decide_eq_true h3
    refine T_skip (T_region hc (Ch.s (.d (.int .i64 (((k : Nat) : Int) + 1))) (.pure (.int _ _ _ _ _ rfl rfl rfl intV_addA)) (Ch.s (.d (.int .i64 (((k : Nat) : Int) + 1))) pm (Ch.nil ?_))))
    exact nx (k + 1) ⟨by omega, upto_succ hp0.2 (by assumption)⟩ (Wk.of rfl rfl (ai rfl (ai rfl (ai rfl (ai rfl (ai (vI (by first | rfl | omega | (simp; done) | (simp; omega))) trivial))))) (ai rfl trivial))
 ·
  replace h1 := of_decide_eq_false h1
  refine T_exit (T_seq (T_region hc (Ch.s (.d (.slice false 3 (xs.map Rcv.d))) pm (Ch.s (.d (.int .i64 ((xs.length : Nat) : Int))) (.pure (.len _ _ 121 rfl Tryz.underlying73 (.sh _ _) (by simp))) (Ch.s (.row 9000) pm (Ch.s (.d (.int .i64 (((edgesF (outsL x.sigs)).length : Nat) : Int))) (.pure (.len _ _ 107 rfl Tryz.underlying147 (.row rfl) (by simp))) (Ch.s (.d (.bool (decide (((xs.length : Nat) : Int) = (((edgesF (outsL x.sigs)).length : Nat) : Int))))) (.pure (.int _ _ _ _ _ rfl rfl rfl rfl)) ?_)))))))
  refine Ch.s (.d (.bool (decide (((xs.length : Nat) : Int) = (((edgesF (outsL x.sigs)).length : Nat) : Int))))) pa (Ch.nil (T_ret ?_))
  exact endR [(.d (.bool (decide (((xs.length : Nat) : Int) = (((edgesF (outsL x.sigs)).length : Nat) : Int)))))] [] [] (.cons (.tmp 4 rfl) .nil) (.cons (.any _) (.cons (.any _) .nil)) (Exp.of (congrArg D.bool (by exact ent_end (fun j hj => hp0.2 j (by omega)))) (.d _)) rfl rfl

set_option maxHeartbeats 1000000 in
theorem sp_spec_l17List (x : Sgr) (xs : List Rcv) (hb : x.bulk ≤ 1048576) (h8 : x.sigs.length ≤ 8) (hn : xs.length ≤ 1048576) : Sp Tryz.prog 106 [(.agg [(.slice false 2 (x.sigs.map Sgn.d)), (.slice false 1 (x.codes.map D.str)), (.slice false 4 (x.arcs.map Arc.d))]), (.slice false 3 (xs.map Rcv.d))] [.any, .any] (.bool (entB x xs)) := by
 refine Sp_intro (lend := true) Tryz.func106 rfl rfl rfl (fun _ => rfl) (fun c hc hX => ?_)
 obtain ⟨hp0, hp1, hp2⟩ := Sgr.parts hb
 have hn0 := bulkF_len hp0
 have hn1 := bulk_len hp1
 have hx1 := bulk_mem hp1
 have hn2 := bulkF_len hp2; have hol := outs_len x.sigs; have hel := edges_len (outsL x.sigs)
 refine T_seq (T_region hc (Ch.s (.ptr 2000 0) (.box 2000 _ _ rfl (.aggD _)) (Ch.s (.d (.bool false)) pa (Ch.nil (T_seq (T_region hc (Ch.s (.agg [(.d (.slice false 2 (x.sigs.map Sgn.d))), (.d (.slice false 1 (x.codes.map D.str))), (.d (.slice false 4 (x.arcs.map Arc.d)))]) (.pure (.loadPtrA _ _ rfl ag35 sz35 rfl rfl (Nat.le_of_ble_eq_true rfl) rfl)) ?_)))))))
 refine Ch.step (v := (.row 9000)) rfl (.call 9000 131 _ _ _ en131 rfl (.inl rfl) (.cons (.lend (.agg (.cons (.d _) (.cons (.d _) (.cons (.d _) .nil))) rfl)) .nil) rfl (sol (solid_row (fun _ => rfl) _) rfl) (sp_spec_l6Owned x (by first | assumption | omega | (rw [List.length_take]; omega) | (have := bulkF_mem hb _ (getD_mem (d := default) (by omega)); assumption) | (unfold bulkS at *; omega) | (simp_all; done))) (.skip _ _ .nil) rfl) rfl rfl ?_
 refine Ch.s (.row 9000) pa (Ch.nil (T_seq (T_seq (T_region hc (Ch.s (.d (.slice false 3 (xs.map Rcv.d))) pm (Ch.s (.d (.int .i64 ((xs.length : Nat) : Int))) (.pure (.len _ _ 121 rfl Tryz.underlying73 (.sh _ _) (by simp))) (Ch.s (.row 9000) pm ?_)))))))
 refine Ch.s (.d (.int .i64 (((outsL x.sigs).length : Nat) : Int))) (.pure (.len _ _ 3 rfl Tryz.underlying55 (.row rfl) (by simp))) (Ch.s (.d (.int .i64 (2 * (((outsL x.sigs).length : Nat) : Int)))) (.pure (.int _ _ _ _ _ rfl rfl rfl (intV_mul (by first | omega | (simp only [List.length_map, List.length_append, List.length_take, List.length_drop, List.length_cons, List.length_nil]; omega) | (simp; omega) | (simp; done)) (by first | omega | (simp only [List.length_map, List.length_append, List.length_take, List.length_drop, List.length_cons, List.length_nil]; omega) | (simp; omega) | (simp; done))))) (Ch.s (.d (.bool (!(decide (((xs.length : Nat) : Int) = (2 * (((outsL x.sigs).length : Nat) : Int))))))) (.pure (.int _ _ _ _ _ rfl rfl rfl rfl)) (Ch.nil ?_)))
 refine T_cond (b := (!(decide (((xs.length : Nat) : Int) = (2 * (((outsL x.sigs).length : Nat) : Int)))))) rfl (fun h1 => ?_) (fun h1 => ?_)
 ·
  replace h1 := nott h1
  replace h1 := of_decide_eq_false h1
  refine T_seq (T_region hc (Ch.s (.d (.bool false)) pa (Ch.nil (T_ret ?_))))
  exact endR [(.d (.bool false))] [] [] (.cons (.tmp 4 rfl) .nil) (.cons (.any _) (.cons (.any _) .nil)) (Exp.of (congrArg D.bool (by exact (ent_len (by omega)).symm)) (.d _)) rfl rfl
 ·
  replace h1 := notf h1
  replace h1 := of_decide_eq_true h1
  refine T_skip (T_seq (T_seq (T_region hc (Ch.s (.d (.slice false 3 (xs.map Rcv.d))) pm (Ch.s (.d (.int .i64 ((xs.length : Nat) : Int))) (.pure (.len _ _ 121 rfl Tryz.underlying73 (.sh _ _) (by simp))) (Ch.s (.d (.int .i64 0)) pm (Ch.nil ?_)))))))
  refine T_block ?_
  refine T_loop (ι := Nat) (fun k => { n := 40, sl := [(5, (.row 9000)), (16, (.d (.slice false 3 (xs.map Rcv.d)))), (17, (.d (.int .i64 ((xs.length : Nat) : Int)))), (18, (.d (.int .i64 ((k : Nat) : Int))))], hp := [(9000, (some (.row 1 ((outsL x.sigs).map (fun n : Int => D.int .i64 n)))))], pin := [] }) (fun k => k ≤ xs.length ∧ ∀ j, j < k → (edgesF (outsL x.sigs)).getD j default = Lab.mk (xs.getD j default).sig (xs.getD j default).up) (fun k => xs.length - k) ⟨0, ⟨by omega, fun j hj => by omega⟩, (Wk.of rfl rfl (ai rfl (ai rfl (ai rfl (ai (vI (by first | rfl | omega | (simp; done) | (simp; omega))) trivial)))) (ai rfl trivial))⟩ (fun k hp0 => ?_)
  refine T_seq (T_region hc (Ch.s (.d (.bool (decide (((k : Nat) : Int) < ((xs.length : Nat) : Int))))) (.pure (.int _ _ _ _ _ rfl rfl rfl rfl)) (Ch.nil (T_seq ?_))))
  refine T_cond (b := (decide (((k : Nat) : Int) < ((xs.length : Nat) : Int)))) rfl (fun h2 => ?_) (fun h2 => ?_)
  ·
   replace h2 := of_decide_eq_true h2
   refine T_skip (T_seq (T_block (T_seq (T_region hc (Ch.s (.d (.int .i64 ((k : Nat) : Int))) pm (Ch.s (.d (.ref (.agg [(.int .i64 ((xs.getD k default).sig)), (.bool ((xs.getD k default).up)), (.slice false 1 (((xs.getD k default).cubes).map D.str))]))) (.pure (.idx _ _ _ 121 (k) rfl Tryz.underlying73 sz121 rfl rfl rfl get_mapA)) (Ch.s (.d (.agg [(.int .i64 ((xs.getD k default).sig)), (.bool ((xs.getD k default).up)), (.slice false 1 (((xs.getD k default).cubes).map D.str))])) (.pure (.loadRefA _ _ rfl ag121 sz121 rfl)) ?_)))))))
   refine Ch.s (.ptr 7000 0) (.alloc 7000 _ rfl zer121) (Ch.s (.d (.int .i64 ((k : Nat) : Int))) pa (Ch.s .junk (.storePtr _ _ _ rfl rfl rfl (.aggD _) sz121 (Nat.le_of_ble_eq_true rfl)) (Ch.nil (T_seq ?_))))
   refine T_regionD hc (by kernel_rfl) ?_
   refine ChD.s (.ptr 7000 0) [] (.pure (.fldPtr _ _ _ rfl fld121_0 rfl)) (ChD.s (.d (.int .i64 ((xs.getD k default).sig))) [7000] (.pure (.loadPtr1 _ _ rfl ag3 rfl rfl rfl)) (ChD.s (.row 9000) [] pm (ChD.s (.d (.int .i64 ((k : Nat) : Int))) [] pm (ChD.s (.d (.int .i64 ((k / 2 : Nat) : Int))) [] (.pure (.int _ _ _ _ _ rfl rfl rfl (quoN (n := k) (d := 2) rfl rfl (by decide) (by first | omega | (simp only [List.length_map, List.length_append, List.length_take, List.length_drop, List.length_cons, List.length_nil]; omega) | (simp; omega) | (simp; done))))) (ChD.s (.el 9000 1 (k / 2) 0) [9000] (.pure (.idxRow _ _ _ 3 (k / 2) rfl Tryz.underlying55 sz3 rfl rfl rfl rfl (by first | omega | (simp only [List.length_map, List.length_set]; omega) | (simp; omega)))) (ChD.s (.d (.int .i64 ((outsL x.sigs).getD (k / 2) default))) [9000] (.pure (.loadEl1 _ _ rfl ag3 rfl rfl get_mapA rfl rfl rfl)) (ChD.s (.d (.bool (!(decide (((xs.getD k default).sig) = ((outsL x.sigs).getD (k / 2) default)))))) [] (.pure (.int _ _ _ _ _ rfl rfl rfl rfl)) ?_)))))))
   refine ChD.s (.d (.bool (!(decide (((xs.getD k default).sig) = ((outsL x.sigs).getD (k / 2) default)))))) [] pm ?_
   cases h3 : (decide (((xs.getD k default).sig) = ((outsL x.sigs).getD (k / 2) default))) with
   | true =>
    replace h3 := of_decide_eq_true h3
    refine ChD.s (.ptr 7000 1) [] (.pure (.fldPtr _ _ _ rfl fld121_1 rfl)) (ChD.s (.d (.bool ((xs.getD k default).up))) [7000] (.pure (.loadPtr1 _ _ rfl ag4 rfl rfl rfl)) (ChD.s (.d (.int .i64 ((k : Nat) : Int))) [] pm (ChD.s (.d (.int .i64 ((k % 2 : Nat) : Int))) [] (.pure (.int _ _ _ _ _ rfl rfl rfl (remN (n := k) (d := 2) rfl rfl (by decide)))) (ChD.s (.d (.bool (decide (((k % 2 : Nat) : Int) = 0)))) [] (.pure (.int _ _ _ _ _ rfl rfl rfl rfl)) (ChD.s (.d (.bool (!(decide (((xs.getD k default).up) = (decide (((k % 2 : Nat) : Int) = 0))))))) [] (.pure (.neB _ _ _ _ rfl Tryz.underlying4 rfl rfl)) (ChD.s (.d (.bool (!(decide (((xs.getD k default).up) = (decide (((k % 2 : Nat) : Int) = 0))))))) [] (.pure (.pickF _ _ _ rfl rfl rfl)) ?_))))))
    refine ChD.nil (And.intro ?_ (by kernel_rfl))
    refine T_cond (b := (!(decide (((xs.getD k default).up) = (decide (((k % 2 : Nat) : Int) = 0)))))) rfl (fun h4 => ?_) (fun h4 => ?_)
    ·
     replace h4 := nott h4
     replace h4 := of_decide_eq_false h4
     refine T_seq (T_region hc (Ch.s (.d (.bool false)) pa (Ch.nil (T_ret ?_))))
     exact endR [(.d (.bool false))] [] [] (.cons (.tmp 4 rfl) .nil) (.cons (.any _) (.cons (.any _) .nil)) (Exp.of (congrArg D.bool (by first | (exact (ent_sig (k := k) (by omega) (by omega) (by assumption)).symm) | (exact (ent_up (k := k) (by omega) (by omega) (by assumption)).symm) | (exact (ent_yes (by omega) (fun j hj => hp0.2 j (by omega))).symm))) (.d _)) rfl rfl
    ·
     replace h4 := notf h4
     replace h4 := of_decide_eq_true h4
     refine T_skip (T_region hc (Ch.s (.d (.int .i64 (((k : Nat) : Int) + 1))) (.pure (.int _ _ _ _ _ rfl rfl rfl intV_addA)) (Ch.s (.d (.int .i64 (((k : Nat) : Int) + 1))) pm (Ch.nil ?_))))
     exact nx (k + 1) ⟨by omega, upto_succ hp0.2 (ent_at (by omega) (by assumption) (by assumption))⟩ (Wk.of rfl rfl (ai rfl (ai rfl (ai rfl (ai (vI (by first | rfl | omega | (simp; done) | (simp; omega))) trivial)))) (ai rfl trivial))
   | false =>
    replace h3 := of_decide_eq_false h3
    refine ChD.skip rfl rfl (ChD.skip rfl rfl (ChD.skip rfl rfl (ChD.skip rfl rfl (ChD.skip rfl rfl (ChD.skip rfl rfl (ChD.s (.d (.bool true)) [] (.pure (.pickT _ _ _ rfl rfl rfl)) ?_))))))
    refine ChD.nil (And.intro ?_ (by kernel_rfl))
    refine T_cond (b := true) rfl (fun _ => ?_) (fun h => nomatch h)
    refine T_seq (T_region hc (Ch.s (.d (.bool false)) pa (Ch.nil (T_ret ?_))))
    exact endR [(.d (.bool false))] [] [] (.cons (.tmp 4 rfl) .nil) (.cons (.any _) (.cons (.any _) .nil)) (Exp.of (congrArg D.bool (by first | (exact (ent_sig (k := k) (by omega) (by omega) (by assumption)).symm) | (exact (ent_up (k := k) (by omega) (by omega) (by assumption)).symm) | (exact (ent_yes (by omega) (fun j hj => hp0.2 j (by omega))).symm))) (.d _)) rfl rfl
  ·
   replace h2 := of_decide_eq_false h2
   refine T_exit (T_seq (T_region hc (Ch.s (.d (.bool true)) pa (Ch.nil (T_ret ?_)))))
   exact endR [(.d (.bool true))] [] [] (.cons (.tmp 4 rfl) .nil) (.cons (.any _) (.cons (.any _) .nil)) (Exp.of (congrArg D.bool (by first | (exact (ent_sig (k := k) (by omega) (by omega) (by assumption)).symm) | (exact (ent_up (k := k) (by omega) (by omega) (by assumption)).symm) | (exact (ent_yes (by omega) (fun j hj => hp0.2 j (by omega))).symm))) (.d _)) rfl rfl

theorem sp_impl_edgeText (sg : List Sgn) (l : Lab) (hn : sg.length ≤ 1048576) (hs : l.sig.toNat < sg.length) (hw : ∀ y ∈ sg, y.name.length ≤ 1048576) : Sp Tryz.prog 114 [(.slice false 2 (sg.map Sgn.d)), (.agg [(.int .i64 l.sig), (.bool (l.up))])] [.any, .any] (.str (edgeT sg l)) := by
 refine Sp_intro (lend := true) Tryz.func114 rfl rfl rfl (fun _ => rfl) (fun c hc hX => ?_)
 refine T_seq (T_region hc (Ch.s (.ptr 3000 0) (.box 3000 _ _ rfl (.aggD _)) (Ch.s (.d (.str [])) pa (Ch.nil (T_seq (T_block (T_seq ?_)))))))
 refine T_region hc (Ch.s (.ptr 3000 0) (.pure (.fldPtr _ _ _ rfl fld107_0 rfl)) (Ch.s (.d (.int .i64 l.sig)) (.pure (.loadPtr1 _ _ rfl ag3 rfl rfl rfl)) (Ch.s (.d (.bool (decide (l.sig < 0)))) (.pure (.int _ _ _ _ _ rfl rfl rfl rfl)) (Ch.s (.d (.bool (decide (l.sig < 0)))) pa (Ch.nil ?_)))))
 refine T_cond (b := (decide (l.sig < 0))) rfl (fun h1 => ?_) (fun h1 => ?_)
 ·
  replace h1 := of_decide_eq_true h1
  try have hwk := hw _ (getD_mem (l := sg) (j := l.sig.toNat) (d := default) (by omega))
  refine T_seq (T_region hc (Ch.s (.d (.str [126])) pa (Ch.nil (T_ret ?_))))
  exact endR [(.d (.str [126]))] [] [] (.cons (.tmp 4 rfl) .nil) (.cons (.any _) (.cons (.any _) .nil)) (Exp.of (congrArg D.str (by first | (rw [edgeT, if_pos (by assumption)]; done) | (rw [edgeT, if_neg (by assumption), if_pos (by assumption)]; done) | (rw [edgeT, if_neg (by assumption), if_neg (by simp_all)]; done))) (.d _)) rfl rfl
 ·
  replace h1 := of_decide_eq_false h1
  try have hwk := hw _ (getD_mem (l := sg) (j := l.sig.toNat) (d := default) (by omega))
  refine T_seq (T_region hc (Ch.s (.ptr 3000 1) (.pure (.fldPtr _ _ _ rfl fld107_1 rfl)) (Ch.s (.d (.bool (l.up))) (.pure (.loadPtr1 _ _ rfl ag4 rfl rfl rfl)) (Ch.s (.d (.bool (l.up))) pa (Ch.nil ?_)))))
  refine T_cond (b := (l.up)) rfl (fun h2 => ?_) (fun h2 => ?_)
  ·
   refine T_seq (T_region hc (Ch.s (.d (.slice false 2 (sg.map Sgn.d))) pm (Ch.s (.ptr 3000 0) (.pure (.fldPtr _ _ _ rfl fld107_0 rfl)) (Ch.s (.d (.int .i64 l.sig)) (.pure (.loadPtr1 _ _ rfl ag3 rfl rfl rfl)) (Ch.s (.d (.ref (.agg [(.str ((sg.getD ((l.sig).toNat) default).name)), (.int .i64 ((sg.getD ((l.sig).toNat) default).kind))]))) (.pure (.idx _ _ _ 154 ((l.sig).toNat) rfl Tryz.underlying32 sz154 rfl rfl (by omega) get_mapA)) (Ch.s (.d (.ref (.str ((sg.getD ((l.sig).toNat) default).name)))) (.pure (.fldRef _ _ _ rfl fld154_0 rfl rfl rfl)) (Ch.s (.d (.str ((sg.getD ((l.sig).toNat) default).name))) (.pure (.loadRef1 _ _ rfl ag9 rfl rfl)) ?_)))))))
   refine Ch.s (.d (.str (((sg.getD ((l.sig).toNat) default).name) ++ [43]))) (.pure (.str _ _ _ _ _ rfl rfl rfl (strV_add (by first | omega | (simp only [List.length_map, List.length_append, List.length_take, List.length_drop, List.length_cons, List.length_nil]; omega) | (simp; omega) | (simp; done))))) (Ch.s (.d (.str (((sg.getD ((l.sig).toNat) default).name) ++ [43]))) pa (Ch.nil (T_ret ?_)))
   exact endR [(.d (.str (((sg.getD ((l.sig).toNat) default).name) ++ [43])))] [] [] (.cons (.tmp 4 rfl) .nil) (.cons (.any _) (.cons (.any _) .nil)) (Exp.of (congrArg D.str (by first | (rw [edgeT, if_pos (by assumption)]; done) | (rw [edgeT, if_neg (by assumption), if_pos (by assumption)]; done) | (rw [edgeT, if_neg (by assumption), if_neg (by simp_all)]; done))) (.d _)) rfl rfl
  ·
   refine T_skip (T_seq (T_region hc (Ch.s (.d (.slice false 2 (sg.map Sgn.d))) pm (Ch.s (.ptr 3000 0) (.pure (.fldPtr _ _ _ rfl fld107_0 rfl)) (Ch.s (.d (.int .i64 l.sig)) (.pure (.loadPtr1 _ _ rfl ag3 rfl rfl rfl)) (Ch.s (.d (.ref (.agg [(.str ((sg.getD ((l.sig).toNat) default).name)), (.int .i64 ((sg.getD ((l.sig).toNat) default).kind))]))) (.pure (.idx _ _ _ 154 ((l.sig).toNat) rfl Tryz.underlying32 sz154 rfl rfl (by omega) get_mapA)) (Ch.s (.d (.ref (.str ((sg.getD ((l.sig).toNat) default).name)))) (.pure (.fldRef _ _ _ rfl fld154_0 rfl rfl rfl)) ?_)))))))
   refine Ch.s (.d (.str ((sg.getD ((l.sig).toNat) default).name))) (.pure (.loadRef1 _ _ rfl ag9 rfl rfl)) (Ch.s (.d (.str (((sg.getD ((l.sig).toNat) default).name) ++ [45]))) (.pure (.str _ _ _ _ _ rfl rfl rfl (strV_add (by first | omega | (simp only [List.length_map, List.length_append, List.length_take, List.length_drop, List.length_cons, List.length_nil]; omega) | (simp; omega) | (simp; done))))) (Ch.s (.d (.str (((sg.getD ((l.sig).toNat) default).name) ++ [45]))) pa (Ch.nil (T_ret ?_))))
   exact endR [(.d (.str (((sg.getD ((l.sig).toNat) default).name) ++ [45])))] [] [] (.cons (.tmp 4 rfl) .nil) (.cons (.any _) (.cons (.any _) .nil)) (Exp.of (congrArg D.str (by first | (rw [edgeT, if_pos (by assumption)]; done) | (rw [edgeT, if_neg (by assumption), if_pos (by assumption)]; done) | (rw [edgeT, if_neg (by assumption), if_neg (by simp_all)]; done))) (.d _)) rfl rfl

theorem sp_spec_l6Word (x : Sgr) (a : Arc) (hb : x.bulk ≤ 1048576) (hs : a.sig.toNat < x.sigs.length) (hw : ∀ y ∈ x.sigs, y.name.length ≤ 1048576) : Sp Tryz.prog 108 [(.agg [(.slice false 2 (x.sigs.map Sgn.d)), (.slice false 1 (x.codes.map D.str)), (.slice false 4 (x.arcs.map Arc.d))]), (.agg [(.int .i64 a.src), (.int .i64 a.sig), (.bool (a.up)), (.int .i64 a.dst)])] [.any, .any] (.str (edgeT x.sigs (Lab.mk a.sig a.up))) := by
 refine Sp_intro (lend := true) Tryz.func108 rfl rfl rfl (fun _ => rfl) (fun c hc hX => ?_)
 obtain ⟨hp0, hp1, hp2⟩ := Sgr.parts hb
 have hn0 := bulkF_len hp0
 have hn1 := bulk_len hp1
 have hx1 := bulk_mem hp1
 have hn2 := bulkF_len hp2
 refine T_seq (T_region hc (Ch.s (.ptr 2000 0) (.box 2000 _ _ rfl (.aggD _)) (Ch.s (.ptr 3000 0) (.box 3000 _ _ rfl (.aggD _)) (Ch.s (.d (.str [])) pa (Ch.nil (T_seq (T_block ?_)))))))
 refine T_seq (T_region hc (Ch.s (.ptr 3000 1) (.pure (.fldPtr _ _ _ rfl fld125_1 rfl)) (Ch.s (.d (.int .i64 a.sig)) (.pure (.loadPtr1 _ _ rfl ag3 rfl rfl rfl)) (Ch.s (.d (.bool (decide (a.sig < 0)))) (.pure (.int _ _ _ _ _ rfl rfl rfl rfl)) (Ch.s (.d (.bool (decide (a.sig < 0)))) pa (Ch.nil ?_))))))
 refine T_cond (b := (decide (a.sig < 0))) rfl (fun h1 => ?_) (fun h1 => ?_)
 ·
  replace h1 := of_decide_eq_true h1
  try have hwk := hw _ (getD_mem (l := x.sigs) (j := a.sig.toNat) (d := default) (by omega))
  refine T_seq (T_region hc (Ch.s (.d (.str [126])) pa (Ch.nil (T_ret ?_))))
  exact endR [(.d (.str [126]))] [] [] (.cons (.tmp 4 rfl) .nil) (.cons (.any _) (.cons (.any _) .nil)) (Exp.of (congrArg D.str (by first | (rw [edgeT, if_pos (by assumption)]; done) | (rw [edgeT, if_neg (by assumption), if_pos (by assumption)]; done) | (rw [edgeT, if_neg (by assumption), if_neg (by simp_all)]; done))) (.d _)) rfl rfl
 ·
  replace h1 := of_decide_eq_false h1
  try have hwk := hw _ (getD_mem (l := x.sigs) (j := a.sig.toNat) (d := default) (by omega))
  refine T_seq (T_region hc (Ch.s (.ptr 3000 2) (.pure (.fldPtr _ _ _ rfl fld125_2 rfl)) (Ch.s (.d (.bool (a.up))) (.pure (.loadPtr1 _ _ rfl ag4 rfl rfl rfl)) (Ch.s (.d (.bool (a.up))) pa (Ch.nil ?_)))))
  refine T_cond (b := (a.up)) rfl (fun h2 => ?_) (fun h2 => ?_)
  ·
   refine T_seq (T_region hc (Ch.s (.ptr 2000 0) (.pure (.fldPtr _ _ _ rfl fld35_0 rfl)) (Ch.s (.d (.slice false 2 (x.sigs.map Sgn.d))) (.pure (.loadPtr1 _ _ rfl ag32 rfl rfl rfl)) (Ch.s (.ptr 3000 1) (.pure (.fldPtr _ _ _ rfl fld125_1 rfl)) (Ch.s (.d (.int .i64 a.sig)) (.pure (.loadPtr1 _ _ rfl ag3 rfl rfl rfl)) (Ch.s (.d (.ref (.agg [(.str ((x.sigs.getD ((a.sig).toNat) default).name)), (.int .i64 ((x.sigs.getD ((a.sig).toNat) default).kind))]))) (.pure (.idx _ _ _ 154 ((a.sig).toNat) rfl Tryz.underlying32 sz154 rfl rfl (by omega) get_mapA)) (Ch.s (.d (.ref (.str ((x.sigs.getD ((a.sig).toNat) default).name)))) (.pure (.fldRef _ _ _ rfl fld154_0 rfl rfl rfl)) ?_)))))))
   refine Ch.s (.d (.str ((x.sigs.getD ((a.sig).toNat) default).name))) (.pure (.loadRef1 _ _ rfl ag9 rfl rfl)) (Ch.s (.d (.str (((x.sigs.getD ((a.sig).toNat) default).name) ++ [43]))) (.pure (.str _ _ _ _ _ rfl rfl rfl (strV_add (by first | omega | (simp only [List.length_map, List.length_append, List.length_take, List.length_drop, List.length_cons, List.length_nil]; omega) | (simp; omega) | (simp; done))))) (Ch.s (.d (.str (((x.sigs.getD ((a.sig).toNat) default).name) ++ [43]))) pa (Ch.nil (T_ret ?_))))
   exact endR [(.d (.str (((x.sigs.getD ((a.sig).toNat) default).name) ++ [43])))] [] [] (.cons (.tmp 4 rfl) .nil) (.cons (.any _) (.cons (.any _) .nil)) (Exp.of (congrArg D.str (by first | (rw [edgeT, if_pos (by assumption)]; done) | (rw [edgeT, if_neg (by assumption), if_pos (by assumption)]; done) | (rw [edgeT, if_neg (by assumption), if_neg (by simp_all)]; done))) (.d _)) rfl rfl
  ·
   refine T_skip (T_seq (T_region hc (Ch.s (.ptr 2000 0) (.pure (.fldPtr _ _ _ rfl fld35_0 rfl)) (Ch.s (.d (.slice false 2 (x.sigs.map Sgn.d))) (.pure (.loadPtr1 _ _ rfl ag32 rfl rfl rfl)) (Ch.s (.ptr 3000 1) (.pure (.fldPtr _ _ _ rfl fld125_1 rfl)) (Ch.s (.d (.int .i64 a.sig)) (.pure (.loadPtr1 _ _ rfl ag3 rfl rfl rfl)) (Ch.s (.d (.ref (.agg [(.str ((x.sigs.getD ((a.sig).toNat) default).name)), (.int .i64 ((x.sigs.getD ((a.sig).toNat) default).kind))]))) (.pure (.idx _ _ _ 154 ((a.sig).toNat) rfl Tryz.underlying32 sz154 rfl rfl (by omega) get_mapA)) ?_)))))))
   refine Ch.s (.d (.ref (.str ((x.sigs.getD ((a.sig).toNat) default).name)))) (.pure (.fldRef _ _ _ rfl fld154_0 rfl rfl rfl)) (Ch.s (.d (.str ((x.sigs.getD ((a.sig).toNat) default).name))) (.pure (.loadRef1 _ _ rfl ag9 rfl rfl)) (Ch.s (.d (.str (((x.sigs.getD ((a.sig).toNat) default).name) ++ [45]))) (.pure (.str _ _ _ _ _ rfl rfl rfl (strV_add (by first | omega | (simp only [List.length_map, List.length_append, List.length_take, List.length_drop, List.length_cons, List.length_nil]; omega) | (simp; omega) | (simp; done))))) (Ch.s (.d (.str (((x.sigs.getD ((a.sig).toNat) default).name) ++ [45]))) pa (Ch.nil (T_ret ?_)))))
   exact endR [(.d (.str (((x.sigs.getD ((a.sig).toNat) default).name) ++ [45])))] [] [] (.cons (.tmp 4 rfl) .nil) (.cons (.any _) (.cons (.any _) .nil)) (Exp.of (congrArg D.str (by first | (rw [edgeT, if_pos (by assumption)]; done) | (rw [edgeT, if_neg (by assumption), if_pos (by assumption)]; done) | (rw [edgeT, if_neg (by assumption), if_neg (by simp_all)]; done))) (.d _)) rfl rfl

theorem sp_laws_szRegionCoversS (xs : List (Rcv)) (left : Int) (h0 : 0 ≤ left) (h0u : left ≤ 1048576) (hn : xs.length ≤ 9223372036854775807) (hx : ∀ y ∈ xs, Rcv.wide y) : Sp Tryz.prog 49 [(.slice false 3 (xs.map Rcv.d)), (.int .i64 left)] [.any, .any] (.int .i64 (szR (bulkF Rcv.bulk xs) left)) := by
 refine Sp_intro (lend := true) Tryz.func49 rfl rfl rfl (fun _ => rfl) (fun c hc hX => ?_)
 refine T_seq (T_region hc (Ch.s (.d (.int .i64 0)) pa (Ch.nil (T_seq (T_region hc (Ch.s (.d (.int .i64 left)) pm (Ch.s (.d (.slice false 3 (xs.map Rcv.d))) pm ?_)))))))
 refine Ch.s (.d (.int .i64 ((xs.length : Nat) : Int))) (.pure (.len _ _ 119 rfl Tryz.underlying69 (.sh _ _) (by simp))) (Ch.s (.d (.int .i64 (left - ((xs.length : Nat) : Int)))) (.pure (.int _ _ _ _ _ rfl rfl rfl intV_subA)) (Ch.s (.d (.int .i64 (left - ((xs.length : Nat) : Int)))) pa (Ch.nil (T_seq (T_seq (T_region hc (Ch.s (.d (.int .i64 (left - ((xs.length : Nat) : Int)))) pm ?_)))))))
 refine Ch.s (.d (.bool (decide ((left - ((xs.length : Nat) : Int)) < 0)))) (.pure (.int _ _ _ _ _ rfl rfl rfl rfl)) (Ch.nil ?_)
 refine T_cond (b := (decide ((left - ((xs.length : Nat) : Int)) < 0))) rfl (fun h1 => ?_) (fun h1 => ?_)
 ·
  replace h1 := of_decide_eq_true h1
  refine T_seq (T_region hc (Ch.s (.d (.int .i64 (-1))) pa (Ch.nil (T_ret ?_))))
  exact endR [(.d (.int .i64 (-1)))] [] [] (.cons (.tmp 4 rfl) .nil) (.cons (.any _) (.cons (.any _) .nil)) (Exp.of (congrArg (D.int .i64) (by first | (have hal := sumF_all Rcv.bulk (xs := xs) (k := k) (by omega); rw [szR, bulkF]; split <;> omega) | (rw [szR, bulkF]; split <;> omega))) (.d _)) rfl rfl
 ·
  replace h1 := of_decide_eq_false h1
  refine T_skip (T_seq (T_seq (T_region hc (Ch.s (.d (.int .i64 0)) pa (Ch.nil (T_block ?_))))))
  refine T_loop (ι := Nat) (fun k => { n := 27, sl := [(0, (.d (.slice false 3 (xs.map Rcv.d)))), (1, (.d (.int .i64 (left - xs.length - sumF Rcv.bulk xs k)))), (5, (.d (.int .i64 ((k : Nat) : Int))))], hp := [], pin := [] }) (fun k => k ≤ xs.length ∧ 0 ≤ left - xs.length - sumF Rcv.bulk xs k) (fun k => xs.length - k) ⟨0, ⟨by omega, by rw [sumF_zero]; omega⟩, (Wk.of rfl rfl (ai rfl (ai (vI (by first | (rw [sumF_zero]; omega) | (rw [sumF_succ _ (by omega)]; omega))) (ai (vI (by first | rfl | omega | (simp; done) | (simp; omega))) trivial))) trivial)⟩ (fun k hp0 => ?_)
  have hsl := sumF_le Rcv.bulk xs k; have hsc := szR_cases (Rcv.bulk (xs.getD k default)) (left - xs.length - sumF Rcv.bulk xs k)
  refine T_seq (T_seq (T_region hc (Ch.s (.d (.int .i64 ((k : Nat) : Int))) pm (Ch.s (.d (.slice false 3 (xs.map Rcv.d))) pm (Ch.s (.d (.int .i64 ((xs.length : Nat) : Int))) (.pure (.len _ _ 119 rfl Tryz.underlying69 (.sh _ _) (by simp))) (Ch.s (.d (.bool (decide (((k : Nat) : Int) < ((xs.length : Nat) : Int))))) (.pure (.int _ _ _ _ _ rfl rfl rfl rfl)) (Ch.nil ?_)))))))
  refine T_cond (b := (decide (((k : Nat) : Int) < ((xs.length : Nat) : Int)))) rfl (fun h2 => ?_) (fun h2 => ?_)
  ·
   replace h2 := of_decide_eq_true h2
   try have hk := hx _ (getD_mem (l := xs) (j := k) (d := default) (by omega))
   try have hs1 := sumF_succ Rcv.bulk (xs := xs) (k := k) (by omega)
   try have hs2 := sumF_le Rcv.bulk xs (k + 1)
   refine T_skip (T_seq (T_block (T_seq (T_region hc (Ch.s (.d (.slice false 3 (xs.map Rcv.d))) pm (Ch.s (.d (.int .i64 ((k : Nat) : Int))) pm (Ch.s (.d (.ref (.agg [(.int .i64 ((xs.getD k default).sig)), (.bool ((xs.getD k default).up)), (.slice false 1 (((xs.getD k default).cubes).map D.str))]))) (.pure (.idx _ _ _ 119 (k) rfl Tryz.underlying69 sz119 rfl rfl rfl get_mapA)) ?_)))))))
   refine Ch.s (.d (.agg [(.int .i64 ((xs.getD k default).sig)), (.bool ((xs.getD k default).up)), (.slice false 1 (((xs.getD k default).cubes).map D.str))])) (.pure (.loadRefA _ _ rfl ag119 sz119 rfl)) (Ch.s (.d (.int .i64 (left - xs.length - sumF Rcv.bulk xs k))) pm (Ch.s (.d (.int .i64 (szR (xs.getD k default).bulk (left - xs.length - sumF Rcv.bulk xs k)))) (.call 23000 105 _ _ _ en105 rfl (.inl rfl) (.cons (.d _) (.cons (.d _) .nil)) rfl rfl (sp_laws_szRegionCovers (xs.getD k default) (left - xs.length - sumF Rcv.bulk xs k) (by first | omega | assumption | (exact hx _ (getD_mem (by omega))) | (exact hx _ (by assumption)) | (exact Nat.le_trans (hx _ (by assumption)) (by omega)) | (simp only [List.length_append, List.length_take, List.length_drop, List.length_cons, List.length_nil]; omega) | (simp_all; done)) (by first | omega | assumption | (exact hx _ (getD_mem (by omega))) | (exact hx _ (by assumption)) | (exact Nat.le_trans (hx _ (by assumption)) (by omega)) | (simp only [List.length_append, List.length_take, List.length_drop, List.length_cons, List.length_nil]; omega) | (simp_all; done)) (by first | assumption | omega | trivial | (simp_all; done) | (exact fun _ _ => trivial) | (exact hx _ (by assumption)) | (refine ⟨?_, ?_⟩ <;> first | assumption | omega))) (.skip _ _ (.skip _ _ .nil)) rfl) (Ch.s (.d (.int .i64 (szR (xs.getD k default).bulk (left - xs.length - sumF Rcv.bulk xs k)))) pa (Ch.nil (T_seq (T_region hc (Ch.s (.d (.int .i64 (szR (xs.getD k default).bulk (left - xs.length - sumF Rcv.bulk xs k)))) pm ?_)))))))
   refine Ch.s (.d (.bool (decide ((szR (xs.getD k default).bulk (left - xs.length - sumF Rcv.bulk xs k)) < 0)))) (.pure (.int _ _ _ _ _ rfl rfl rfl rfl)) (Ch.nil ?_)
   refine T_cond (b := (decide ((szR (xs.getD k default).bulk (left - xs.length - sumF Rcv.bulk xs k)) < 0))) rfl (fun h3 => ?_) (fun h3 => ?_)
   ·
    replace h3 := of_decide_eq_true h3
    refine T_seq (T_region hc (Ch.s (.d (.int .i64 (-1))) pa (Ch.nil (T_ret ?_))))
    exact endR [(.d (.int .i64 (-1)))] [] [] (.cons (.tmp 4 rfl) .nil) (.cons (.any _) (.cons (.any _) .nil)) (Exp.of (congrArg (D.int .i64) (by first | (have hal := sumF_all Rcv.bulk (xs := xs) (k := k) (by omega); rw [szR, bulkF]; split <;> omega) | (rw [szR, bulkF]; split <;> omega))) (.d _)) rfl rfl
   ·
    replace h3 := of_decide_eq_false h3
    refine T_skip (T_region hc (Ch.s (.d (.int .i64 ((k : Nat) : Int))) pm (Ch.s (.d (.int .i64 (((k : Nat) : Int) + 1))) (.pure (.int _ _ _ _ _ rfl rfl rfl intV_addA)) (Ch.s (.d (.int .i64 (((k : Nat) : Int) + 1))) pa (Ch.nil ?_)))))
    exact nx (k + 1) ⟨by omega, by rw [sumF_succ _ (by omega)]; omega⟩ (Wk.of rfl rfl (ai rfl (ai (vI (by first | (rw [sumF_zero]; omega) | (rw [sumF_succ _ (by omega)]; omega))) (ai (vI (by first | rfl | omega | (simp; done) | (simp; omega))) trivial))) trivial)
  ·
   replace h2 := of_decide_eq_false h2
   try have hk := hx _ (getD_mem (l := xs) (j := k) (d := default) (by omega))
   try have hs1 := sumF_succ Rcv.bulk (xs := xs) (k := k) (by omega)
   try have hs2 := sumF_le Rcv.bulk xs (k + 1)
   refine T_exit (T_seq (T_region hc (Ch.s (.d (.int .i64 (left - xs.length - sumF Rcv.bulk xs k))) pm (Ch.s (.d (.int .i64 (left - xs.length - sumF Rcv.bulk xs k))) pa (Ch.nil (T_ret ?_))))))
   exact endR [(.d (.int .i64 (left - xs.length - sumF Rcv.bulk xs k)))] [] [] (.cons (.tmp 4 rfl) .nil) (.cons (.any _) (.cons (.any _) .nil)) (Exp.of (congrArg (D.int .i64) (by first | (have hal := sumF_all Rcv.bulk (xs := xs) (k := k) (by omega); rw [szR, bulkF]; split <;> omega) | (rw [szR, bulkF]; split <;> omega))) (.d _)) rfl rfl

theorem sp_laws_toRegionCoversS (xs : List (Rcv)) (hb : bulkF Rcv.bulk xs ≤ 1048576) : Sp Tryz.prog 51 [(.slice false 3 (xs.map Rcv.d))] [.any] (.slice true 3 (xs.map Rcv.u)) := by
 refine Sp_intro (lend := true) Tryz.func51 rfl rfl rfl (fun _ => rfl) (fun c hc hX => ?_)
 have hn := bulkF_len hb
 refine T_seq (T_region hc (Ch.s (.c (.slice none 0 0)) pa (Ch.nil (T_seq (T_region hc (Ch.s (.d (.slice false 3 (xs.map Rcv.d))) pm (Ch.s (.d (.int .i64 ((xs.length : Nat) : Int))) (.pure (.len _ _ 119 rfl Tryz.underlying69 (.sh _ _) (by simp))) ?_)))))))
 refine Ch.s (.row 7000) (.make 7000 _ 121 _ _ (xs.length) (xs.length) rfl sty73 rfl rfl rfl rfl (by first | omega | (simp only [List.length_map, List.length_append, List.length_take, List.length_drop, List.length_cons, List.length_nil]; omega) | (simp; omega) | (simp; done)) (by first | omega | (simp only [List.length_map, List.length_append, List.length_take, List.length_drop, List.length_cons, List.length_nil]; omega) | (simp; omega) | (simp; done)) (by first | omega | (simp only [List.length_map, List.length_append, List.length_take, List.length_drop, List.length_cons, List.length_nil]; omega) | (simp; omega) | (simp; done)) (zeroD_mk (zd := (.agg [(.int .i64 0), (.bool false), (.slice false 1 [])])) zr121 (by intro S w; exact dr_agg rfl (drs_cons dr_int (drs_cons dr_bool (drs_cons (nil_reads false 1) drs_nil)))) rfl)) (Ch.s (.row 7000) pa (Ch.nil (T_seq (T_seq (T_region hc (Ch.s (.d (.int .i64 0)) pa (Ch.nil ?_)))))))
 refine T_block ?_
 refine T_loop (ι := Nat) (fun k => { n := 23, sl := [(0, (.d (.slice false 3 (xs.map Rcv.d)))), (3, (.row 3)), (4, (.d (.int .i64 ((k : Nat) : Int))))], hp := [(3, (some (.row 3 (fill (xs.map Rcv.u) (Rcv.d default) k))))], pin := [] }) (fun k => k ≤ xs.length) (fun k => xs.length - k) ⟨0, (by omega), (Wk.ren [(3, 7000)] rfl rfl rfl rfl (ai rfl (ai rfl (ai (vI (by first | rfl | omega | (simp; done) | (simp; omega))) trivial))) (ai (oR (by first | (rw [fill_zero, List.length_map]; rfl) | (exact fill_setD (by omega)))) trivial))⟩ (fun k hp0 => ?_)
 refine T_seq (T_seq (T_region hc (Ch.s (.d (.int .i64 ((k : Nat) : Int))) pm (Ch.s (.d (.slice false 3 (xs.map Rcv.d))) pm (Ch.s (.d (.int .i64 ((xs.length : Nat) : Int))) (.pure (.len _ _ 119 rfl Tryz.underlying69 (.sh _ _) (by simp))) (Ch.s (.d (.bool (decide (((k : Nat) : Int) < ((xs.length : Nat) : Int))))) (.pure (.int _ _ _ _ _ rfl rfl rfl rfl)) (Ch.nil ?_)))))))
 refine T_cond (b := (decide (((k : Nat) : Int) < ((xs.length : Nat) : Int)))) rfl (fun h1 => ?_) (fun h1 => ?_)
 ·
  replace h1 := of_decide_eq_true h1
  try have hk := bulkF_mem hb _ (getD_mem (l := xs) (j := k) (d := default) (by omega))
  refine T_skip (T_seq (T_block (T_region hc (Ch.s (.row 3) pm (Ch.s (.d (.int .i64 ((k : Nat) : Int))) pm (Ch.s (.d (.slice false 3 (xs.map Rcv.d))) pm (Ch.s (.d (.int .i64 ((k : Nat) : Int))) pm ?_)))))))
  refine Ch.s (.d (.ref (.agg [(.int .i64 ((xs.getD k default).sig)), (.bool ((xs.getD k default).up)), (.slice false 1 (((xs.getD k default).cubes).map D.str))]))) (.pure (.idx _ _ _ 119 (k) rfl Tryz.underlying69 sz119 rfl rfl rfl get_mapA)) (Ch.s (.d (.agg [(.int .i64 ((xs.getD k default).sig)), (.bool ((xs.getD k default).up)), (.slice false 1 (((xs.getD k default).cubes).map D.str))])) (.pure (.loadRefA _ _ rfl ag119 sz119 rfl)) ?_)
  refine Ch.step (v := (.agg [(.d (.int .i64 ((xs.getD k default).sig))), (.d (.bool ((xs.getD k default).up))), (.row 20000)])) rfl (.call 20000 110 _ _ _ en110 rfl (.inl rfl) (.cons (.d _) .nil) rfl (sol (Rcv.sol _) rfl) (sp_laws_toRegionCovers (xs.getD k default) (by first | assumption | omega | (rw [List.length_take]; omega) | (have := bulkF_mem hb _ (getD_mem (d := default) (by omega)); assumption) | (unfold bulkS at *; omega) | (simp_all; done))) (.skip _ _ .nil) rfl) rfl rfl ?_
  refine Ch.s (.el 3 3 k 0) (.pure (.idxRow _ _ _ 121 (k) rfl Tryz.underlying73 sz121 rfl rfl rfl rfl (by first | omega | (simp only [List.length_map, List.length_set]; omega) | (simp; omega)))) (Ch.s .junk (.storeElK (y' := (.agg [(.int .i64 ((xs.getD k default).sig)), (.bool ((xs.getD k default).up)), (.slice true 1 (((xs.getD k default).cubes).map D.str))])) _ _ _ rfl rfl rfl (.agg (.cons (.d _) (.cons (.d _) (.cons (.row rfl) .nil))) rfl) rfl rfl rfl sz121 rfl (get_fill (l := xs.map Rcv.u) (by simp; omega)) rfl rfl) (Ch.nil (T_region hc (Ch.s (.d (.int .i64 ((k : Nat) : Int))) pm (Ch.s (.d (.int .i64 (((k : Nat) : Int) + 1))) (.pure (.int _ _ _ _ _ rfl rfl rfl intV_addA)) (Ch.s (.d (.int .i64 (((k : Nat) : Int) + 1))) pa (Ch.nil ?_)))))))
  exact nx (k + 1) (by omega) (Wk.of rfl rfl (ai rfl (ai rfl (ai (vI (by first | rfl | omega | (simp; done) | (simp; omega))) trivial))) (ai (oR (by first | (rw [fill_zero, List.length_map]; rfl) | (exact fill_setD (by omega)))) trivial))
 ·
  replace h1 := of_decide_eq_false h1
  try have hk := bulkF_mem hb _ (getD_mem (l := xs) (j := k) (d := default) (by omega))
  refine T_exit (T_seq (T_region hc (Ch.s (.row 3) pm (Ch.s (.row 3) pa (Ch.nil (T_ret ?_))))))
  exact endR [(.row 3)] [] [3] (.cons (.tmp 2 rfl) .nil) (.cons (.any _) .nil) (Exp.of (congrArg (D.slice true 3) (by rw [fill_all _ _ (by simp; omega)])) (.row rfl)) rfl rfl

theorem sp_laws_eqRegionCoversS (xs ys : List (Rcv)) (hb : bulkF Rcv.bulk xs ≤ 1048576) : Sp Tryz.prog 53 [(.slice false 3 (xs.map Rcv.d)), (.slice false 3 (ys.map Rcv.d))] [.any, .any] (.bool (decide (xs = ys))) := by
 refine Sp_intro (lend := true) Tryz.func53 rfl rfl rfl (fun _ => rfl) (fun c hc hX => ?_)
 have hn := bulkF_len hb
 refine T_seq (T_region hc (Ch.s (.d (.bool false)) pa (Ch.nil (T_seq (T_seq (T_region hc (Ch.s (.d (.slice false 3 (xs.map Rcv.d))) pm ?_)))))))
 refine Ch.s (.d (.int .i64 ((xs.length : Nat) : Int))) (.pure (.len _ _ 121 rfl Tryz.underlying73 (.sh _ _) (by simp))) (Ch.s (.d (.slice false 3 (ys.map Rcv.d))) pm (Ch.s (.d (.int .i64 ((ys.length : Nat) : Int))) (.pure (.len _ _ 121 rfl Tryz.underlying73 (.sh _ _) (by simp))) (Ch.s (.d (.bool (!(decide (((xs.length : Nat) : Int) = ((ys.length : Nat) : Int)))))) (.pure (.int _ _ _ _ _ rfl rfl rfl rfl)) (Ch.nil ?_))))
 refine T_cond (b := (!(decide (((xs.length : Nat) : Int) = ((ys.length : Nat) : Int))))) rfl (fun h1 => ?_) (fun h1 => ?_)
 ·
  replace h1 := nott h1
  replace h1 := of_decide_eq_false h1
  refine T_seq (T_region hc (Ch.s (.d (.bool false)) pa (Ch.nil (T_ret ?_))))
  exact endR [(.d (.bool false))] [] [] (.cons (.tmp 4 rfl) .nil) (.cons (.any _) (.cons (.any _) .nil)) (Exp.of (congrArg D.bool (by exact eqL_len (by omega))) (.d _)) rfl rfl
 ·
  replace h1 := notf h1
  replace h1 := of_decide_eq_true h1
  refine T_skip (T_seq (T_seq (T_region hc (Ch.s (.d (.int .i64 0)) pa (Ch.nil (T_block ?_))))))
  refine T_loop (ι := Nat) (fun k => { n := 27, sl := [(0, (.d (.slice false 3 (xs.map Rcv.d)))), (1, (.d (.slice false 3 (ys.map Rcv.d)))), (5, (.d (.int .i64 ((k : Nat) : Int))))], hp := [], pin := [] }) (fun k => k ≤ xs.length ∧ ∀ j, j < k → xs.getD j default = ys.getD j default) (fun k => xs.length - k) ⟨0, ⟨by omega, fun j hj => by omega⟩, (Wk.of rfl rfl (ai rfl (ai rfl (ai (vI (by first | rfl | omega | (simp; done) | (simp; omega))) trivial))) trivial)⟩ (fun k hp0 => ?_)
  refine T_seq (T_seq (T_region hc (Ch.s (.d (.int .i64 ((k : Nat) : Int))) pm (Ch.s (.d (.slice false 3 (xs.map Rcv.d))) pm (Ch.s (.d (.int .i64 ((xs.length : Nat) : Int))) (.pure (.len _ _ 121 rfl Tryz.underlying73 (.sh _ _) (by simp))) (Ch.s (.d (.bool (decide (((k : Nat) : Int) < ((xs.length : Nat) : Int))))) (.pure (.int _ _ _ _ _ rfl rfl rfl rfl)) (Ch.nil ?_)))))))
  refine T_cond (b := (decide (((k : Nat) : Int) < ((xs.length : Nat) : Int)))) rfl (fun h2 => ?_) (fun h2 => ?_)
  ·
   replace h2 := of_decide_eq_true h2
   try have hk := bulkF_mem hb _ (getD_mem (l := xs) (j := k) (d := default) (by omega))
   refine T_skip (T_seq (T_block (T_seq ?_)))
   refine T_regionD hc (by kernel_rfl) ?_
   refine ChD.s (.d (.slice false 3 (xs.map Rcv.d))) [] pm (ChD.s (.d (.int .i64 ((k : Nat) : Int))) [] pm (ChD.s (.d (.ref (.agg [(.int .i64 ((xs.getD k default).sig)), (.bool ((xs.getD k default).up)), (.slice false 1 (((xs.getD k default).cubes).map D.str))]))) [] (.pure (.idx _ _ _ 121 (k) rfl Tryz.underlying73 sz121 rfl rfl rfl get_mapA)) (ChD.s (.d (.agg [(.int .i64 ((xs.getD k default).sig)), (.bool ((xs.getD k default).up)), (.slice false 1 (((xs.getD k default).cubes).map D.str))])) [] (.pure (.loadRefA _ _ rfl ag121 sz121 rfl)) (ChD.s (.d (.slice false 3 (ys.map Rcv.d))) [] pm (ChD.s (.d (.int .i64 ((k : Nat) : Int))) [] pm (ChD.s (.d (.ref (.agg [(.int .i64 ((ys.getD k default).sig)), (.bool ((ys.getD k default).up)), (.slice false 1 (((ys.getD k default).cubes).map D.str))]))) [] (.pure (.idx _ _ _ 121 (k) rfl Tryz.underlying73 sz121 rfl rfl rfl get_mapA)) (ChD.s (.d (.agg [(.int .i64 ((ys.getD k default).sig)), (.bool ((ys.getD k default).up)), (.slice false 1 (((ys.getD k default).cubes).map D.str))])) [] (.pure (.loadRefA _ _ rfl ag121 sz121 rfl)) ?_)))))))
   refine ChD.s (.d (.bool (decide ((xs.getD k default) = (ys.getD k default))))) [] (.call 25000 116 _ _ _ en116 rfl (.inl rfl) (.cons (.d _) (.cons (.d _) .nil)) rfl rfl (sp_laws_eqRegionCovers (xs.getD k default) (ys.getD k default) (by first | assumption | omega | (rw [List.length_take]; omega) | (have := bulkF_mem hb _ (getD_mem (d := default) (by omega)); assumption) | (unfold bulkS at *; omega) | (simp_all; done))) (.skip _ _ (.skip _ _ .nil)) rfl) (ChD.s (.d (.bool (!(decide ((xs.getD k default) = (ys.getD k default)))))) [] (.pure (.not _ _ rfl rfl)) ?_)
   refine ChD.nil (And.intro ?_ (by kernel_rfl))
   refine T_cond (b := (!(decide ((xs.getD k default) = (ys.getD k default))))) rfl (fun h3 => ?_) (fun h3 => ?_)
   ·
    replace h3 := nott h3
    replace h3 := of_decide_eq_false h3
    refine T_seq (T_region hc (Ch.s (.d (.bool false)) pa (Ch.nil (T_ret ?_))))
    exact endR [(.d (.bool false))] [] [] (.cons (.tmp 4 rfl) .nil) (.cons (.any _) (.cons (.any _) .nil)) (Exp.of (congrArg D.bool (by exact eqL_at default k (by assumption))) (.d _)) rfl rfl
   ·
    replace h3 := notf h3
    replace h3 := of_decide_eq_true h3
    refine T_skip (T_region hc (Ch.s (.d (.int .i64 ((k : Nat) : Int))) pm (Ch.s (.d (.int .i64 (((k : Nat) : Int) + 1))) (.pure (.int _ _ _ _ _ rfl rfl rfl intV_addA)) (Ch.s (.d (.int .i64 (((k : Nat) : Int) + 1))) pa (Ch.nil ?_)))))
    exact nx (k + 1) ⟨by omega, upto_succ hp0.2 (by assumption)⟩ (Wk.of rfl rfl (ai rfl (ai rfl (ai (vI (by first | rfl | omega | (simp; done) | (simp; omega))) trivial))) trivial)
  ·
   replace h2 := of_decide_eq_false h2
   try have hk := bulkF_mem hb _ (getD_mem (l := xs) (j := k) (d := default) (by omega))
   refine T_exit (T_seq (T_region hc (Ch.s (.d (.bool true)) pa (Ch.nil (T_ret ?_)))))
   exact endR [(.d (.bool true))] [] [] (.cons (.tmp 4 rfl) .nil) (.cons (.any _) (.cons (.any _) .nil)) (Exp.of (congrArg D.bool (by exact eqL_all default (by omega) (fun j hj => hp0.2 j (by omega)))) (.d _)) rfl rfl

def rcT (x : Sgr) (r : Rcv) : List UInt8 := edgeT x.sigs (Lab.mk r.sig r.up) ++ [32, 61, 32] ++ covT x.sigs r.cubes ++ [10]

def rcTo (x : Sgr) (l : List Rcv) : Nat → List UInt8
 | 0 => []
 | k + 1 => rcTo x l k ++ rcT x (l.getD k default)

def rcOk (x : Sgr) (r : Rcv) : Bool := goodB (x.sigs.length : Int) r.cubes

def rcfB (x : Sgr) (l : List Rcv) : Bool := madeB x && (entB x l && allOf l (rcOk x))

def rcfT (x : Sgr) (l : List Rcv) : List UInt8 := if rcfB x l then rcTo x l l.length else []

theorem rcT_le {x : Sgr} (hs : sgOk x.sigs) {r : Rcv} (h : rcOk x r = true) (hr : 0 ≤ r.sig ∧ r.sig.toNat < x.sigs.length) : (rcT x r).length ≤ 4100 := by
  have h6 := covT_le hs (covGd_of h)
  have h5 := (hs.2 _ (getD_mem (l := x.sigs) (j := r.sig.toNat) (d := default) hr.2)).2
  unfold rcT edgeT
  rw [if_neg (by show ¬ r.sig < 0; omega)]
  split <;> simp only [List.length_append, List.length_cons, List.length_nil] <;> omega

theorem rcTo_le {x : Sgr} (hs : sgOk x.sigs) {l : List Rcv} (hl : ∀ r ∈ l, 0 ≤ r.sig ∧ r.sig.toNat < x.sigs.length) : ∀ k, k ≤ l.length → (∀ j, j < k → rcOk x (l.getD j default) = true) → (rcTo x l k).length ≤ k * 4100
 | 0, _, _ => Nat.le_refl _
 | k + 1, hk, h => by
  have h1 := rcTo_le hs hl k (by omega) (fun j hj => h j (by omega))
  have h2 := rcT_le hs (h k (by omega)) (hl _ (getD_mem (l := l) (j := k) (d := default) (by omega)))
  rw [rcTo, List.length_append]; omega

theorem rcTo_next {x : Sgr} {l : List Rcv} {k : Nat} : rcTo x l k ++ (edgeT x.sigs (Lab.mk (l.getD k default).sig (l.getD k default).up) ++ [32, 61, 32] ++ covT x.sigs (l.getD k default).cubes ++ [10]) = rcTo x l (k + 1) := rfl

theorem rcf_yes {x : Sgr} {l : List Rcv} (h1 : madeB x = true) (h2 : entB x l = true) (h3 : ∀ j, j < l.length → rcOk x (l.getD j default) = true) : rcfB x l = true := by
 rw [rcfB, h1, h2]; exact allB_of h3

theorem rcf_no {x : Sgr} {l : List Rcv} (k : Nat) (hk : k < l.length) (h3 : rcOk x (l.getD k default) = false) : rcfB x l = false := by
 have : allOf l (rcOk x) = false := allB_no k hk h3
 rw [rcfB, this, Bool.and_false, Bool.and_false]

theorem rcf_no1 {x : Sgr} {l : List Rcv} (h : madeB x = false) : rcfB x l = false := by rw [rcfB, h]; rfl

theorem rcf_no2 {x : Sgr} {l : List Rcv} (h : entB x l = false) : rcfB x l = false := by rw [rcfB, h, Bool.false_and, Bool.and_false]

theorem rcfT_no {x : Sgr} {l : List Rcv} (h : rcfB x l = false) : rcfT x l = [] := by rw [rcfT, h]; rfl

theorem rcfT_yes {x : Sgr} {l : List Rcv} {k : Nat} (h : rcfB x l = true) (hk : k = l.length) : rcfT x l = rcTo x l k := by rw [rcfT, if_pos h, hk]

set_option maxHeartbeats 2000000 in
theorem sp_impl_FormatRegionCovers (x : Sgr) (xs : List Rcv) (hb : x.bulk ≤ 1048576) (hcr : bulkF Rcv.bulk xs ≤ 1048576) : Sp Tryz.prog 52 [(.agg [(.slice false 2 (x.sigs.map Sgn.d)), (.slice false 1 (x.codes.map D.str)), (.slice false 4 (x.arcs.map Arc.d))]), (.slice false 3 (xs.map Rcv.d))] [.any, .any] (.tup [(.str (rcfT x xs)), (.bool (rcfB x xs))]) := by
 refine Sp_intro (lend := true) Tryz.func52 rfl rfl rfl (fun _ => rfl) (fun c hc hX => ?_)
 obtain ⟨hp0, hp1, hp2⟩ := Sgr.parts hb
 have hn0 := bulkF_len hp0
 have hn1 := bulk_len hp1
 have hx1 := bulk_mem hp1
 have hn2 := bulkF_len hp2; have hnr := bulkF_len hcr; have hol := outs_len x.sigs
 refine T_seq (T_region hc (Ch.s (.ptr 2000 0) (.box 2000 _ _ rfl (.aggD _)) (Ch.s (.d (.str [])) pa (Ch.s (.d (.bool false)) pa (Ch.nil (T_seq (T_seq ?_)))))))
 refine T_region hc (Ch.s (.agg [(.d (.slice false 2 (x.sigs.map Sgn.d))), (.d (.slice false 1 (x.codes.map D.str))), (.d (.slice false 4 (x.arcs.map Arc.d)))]) (.pure (.loadPtrA _ _ rfl ag35 sz35 rfl rfl (Nat.le_of_ble_eq_true rfl) rfl)) (Ch.s (.d (.bool (madeB x))) (.call 10000 111 _ _ _ en111 rfl (.inl rfl) (.cons (.lend (.agg (.cons (.d _) (.cons (.d _) (.cons (.d _) .nil))) rfl)) .nil) rfl rfl (sp_impl_isMade x (by first | assumption | omega | (rw [List.length_take]; omega) | (have := bulkF_mem hb _ (getD_mem (d := default) (by omega)); assumption) | (unfold bulkS at *; omega) | (simp_all; done))) (.skip _ _ .nil) rfl) (Ch.s (.d (.bool (!(madeB x)))) (.pure (.not _ _ rfl rfl)) (Ch.s (.d (.bool (!(madeB x)))) pm ?_))))
 cases h1 : (madeB x) with
 | true =>
  try have hx := sg_has (by first | assumption | exact made_sg h1)
  try have h8 := hx.eight.2
  try have hsg := sgOk_of hx.sigs
  refine Ch.s (.agg [(.d (.slice false 2 (x.sigs.map Sgn.d))), (.d (.slice false 1 (x.codes.map D.str))), (.d (.slice false 4 (x.arcs.map Arc.d)))]) (.pure (.loadPtrA _ _ rfl ag35 sz35 rfl rfl (Nat.le_of_ble_eq_true rfl) rfl)) (Ch.s (.d (.slice false 3 (xs.map Rcv.d))) pm (Ch.s (.d (.bool (entB x xs))) (.call 15000 112 _ _ _ en112 rfl (.inl rfl) (.cons (.lend (.agg (.cons (.d _) (.cons (.d _) (.cons (.d _) .nil))) rfl)) (.cons (.d _) .nil)) rfl rfl (sp_impl_isEntryList x xs (by first | assumption | omega | (rw [List.length_take]; omega) | (have := bulkF_mem hb _ (getD_mem (d := default) (by omega)); assumption) | (unfold bulkS at *; omega) | (simp_all; done)) (by first | assumption | omega | (rw [List.length_take]; omega) | (have := bulkF_mem hb _ (getD_mem (d := default) (by omega)); assumption) | (unfold bulkS at *; omega) | (simp_all; done)) (by first | assumption | omega | (rw [List.length_take]; omega) | (have := bulkF_mem hb _ (getD_mem (d := default) (by omega)); assumption) | (unfold bulkS at *; omega) | (simp_all; done))) (.skip _ _ (.skip _ _ .nil)) rfl) (Ch.s (.d (.bool (!(entB x xs)))) (.pure (.not _ _ rfl rfl)) (Ch.s (.d (.bool (!(entB x xs)))) (.pure (.pickF _ _ _ rfl rfl rfl)) (Ch.nil ?_)))))
  refine T_cond (b := (!(entB x xs))) rfl (fun h2 => ?_) (fun h2 => ?_)
  ·
   replace h2 := nott h2
   try have hmd : madeB x = true := by first | assumption | (rw [madeB, h1, Bool.true_and]; exact decide_eq_true h2)
   try have het := ent_has (by assumption : entB x xs = true)
   refine T_seq (T_region hc (Ch.s (.d (.str [])) pa (Ch.s (.d (.bool false)) pa (Ch.nil (T_ret ?_)))))
   exact endR [(.d (.str [])), (.d (.bool false))] [] [] (.cons (.tmp 4 rfl) (.cons (.tmp 5 rfl) .nil)) (.cons (.any _) (.cons (.any _) .nil)) (.tup (.cons (Exp.of (congrArg D.str (by first | (rw [rcfT_no (rcf_no k (by omega) (by assumption))]; done) | (exact (rcf_no k (by omega) (by assumption)).symm) | (rw [rcfT_yes (rcf_yes hmd (by assumption) (fun j hj => hp0.2 j (by omega))) (by omega : k = xs.length)]; done) | (exact (rcf_yes hmd (by assumption) (fun j hj => hp0.2 j (by omega))).symm) | (rw [rcfT_no (rcf_no1 (by first | assumption | exact made_no0 (by assumption) | exact made_no1 (by assumption)))]; done) | (exact (rcf_no1 (by first | assumption | exact made_no0 (by assumption) | exact made_no1 (by assumption))).symm) | (rw [rcfT_no (rcf_no2 (by assumption))]; done) | (exact (rcf_no2 (by assumption)).symm))) (.d _)) (.cons (Exp.of (congrArg D.bool (by first | (rw [rcfT_no (rcf_no k (by omega) (by assumption))]; done) | (exact (rcf_no k (by omega) (by assumption)).symm) | (rw [rcfT_yes (rcf_yes hmd (by assumption) (fun j hj => hp0.2 j (by omega))) (by omega : k = xs.length)]; done) | (exact (rcf_yes hmd (by assumption) (fun j hj => hp0.2 j (by omega))).symm) | (rw [rcfT_no (rcf_no1 (by first | assumption | exact made_no0 (by assumption) | exact made_no1 (by assumption)))]; done) | (exact (rcf_no1 (by first | assumption | exact made_no0 (by assumption) | exact made_no1 (by assumption))).symm) | (rw [rcfT_no (rcf_no2 (by assumption))]; done) | (exact (rcf_no2 (by assumption)).symm))) (.d _)) .nil))) rfl rfl
  ·
   replace h2 := notf h2
   try have hmd : madeB x = true := by first | assumption | (rw [madeB, h1, Bool.true_and]; exact decide_eq_true h2)
   try have het := ent_has (by assumption : entB x xs = true)
   refine T_skip (T_seq (T_region hc (Ch.s (.d (.str [])) pa (Ch.nil (T_seq (T_seq (T_region hc ?_)))))))
   refine Ch.s (.d (.slice false 3 (xs.map Rcv.d))) pm (Ch.s (.d (.int .i64 ((xs.length : Nat) : Int))) (.pure (.len _ _ 121 rfl Tryz.underlying73 (.sh _ _) (by simp))) (Ch.s (.d (.int .i64 0)) pm (Ch.nil (T_block ?_))))
   refine T_loop (ι := Nat) (fun k => { n := 51, sl := [(2, (.ptr 2000 0)), (6, (.d (.str (rcTo x xs k)))), (18, (.d (.slice false 3 (xs.map Rcv.d)))), (19, (.d (.int .i64 ((xs.length : Nat) : Int)))), (20, (.d (.int .i64 ((k : Nat) : Int))))], hp := [(2000, (some (.box [(.d (.slice false 2 (x.sigs.map Sgn.d))), (.d (.slice false 1 (x.codes.map D.str))), (.d (.slice false 4 (x.arcs.map Arc.d)))])))], pin := [] }) (fun k => k ≤ xs.length ∧ ∀ j, j < k → rcOk x (xs.getD j default) = true) (fun k => xs.length - k) ⟨0, ⟨by omega, fun j hj => by omega⟩, (Wk.of rfl rfl (ai rfl (ai (vS (by first | rfl | (exact rcTo_next) | (simp only [List.append_assoc]; rfl))) (ai rfl (ai rfl (ai (vI (by first | rfl | omega | (simp; done) | (simp; omega))) trivial))))) (ai rfl trivial))⟩ (fun k hp0 => ?_)
   have hct := rcTo_le hsg het.2 k hp0.1 hp0.2
   refine T_seq (T_region hc (Ch.s (.d (.bool (decide (((k : Nat) : Int) < ((xs.length : Nat) : Int))))) (.pure (.int _ _ _ _ _ rfl rfl rfl rfl)) (Ch.nil (T_seq ?_))))
   refine T_cond (b := (decide (((k : Nat) : Int) < ((xs.length : Nat) : Int)))) rfl (fun h3 => ?_) (fun h3 => ?_)
   ·
    replace h3 := of_decide_eq_true h3
    try have het := ent_has (by assumption : entB x xs = true)
    try have hbk := bulkF_mem hcr _ (getD_mem (l := xs) (j := k) (d := default) (by omega))
    try have hck := bulk_len (show bulkS (xs.getD k default).cubes ≤ 1048576 from hbk)
    try have hcm := bulk_mem (show bulkS (xs.getD k default).cubes ≤ 1048576 from hbk)
    try have hrk := het.2 _ (getD_mem (l := xs) (j := k) (d := default) (by omega))
    try have hcv := covT_le hsg (covGd_of (by assumption : goodB (x.sigs.length : Int) (xs.getD k default).cubes = true))
    try have hrt := rcT_le hsg (r := xs.getD k default) (by assumption) hrk
    try have hcg := covGd_of (by assumption : goodB (x.sigs.length : Int) (xs.getD k default).cubes = true)
    try have hetl : (edgeT x.sigs (Lab.mk (xs.getD k default).sig (xs.getD k default).up)).length ≤ 4100 := by (unfold rcT at hrt; simp only [List.length_append] at hrt; omega)
    refine T_skip (T_seq (T_block (T_seq (T_region hc (Ch.s (.d (.ref (.agg [(.int .i64 ((xs.getD k default).sig)), (.bool ((xs.getD k default).up)), (.slice false 1 (((xs.getD k default).cubes).map D.str))]))) (.pure (.idx _ _ _ 121 (k) rfl Tryz.underlying73 sz121 rfl rfl rfl get_mapA)) (Ch.s (.d (.agg [(.int .i64 ((xs.getD k default).sig)), (.bool ((xs.getD k default).up)), (.slice false 1 (((xs.getD k default).cubes).map D.str))])) (.pure (.loadRefA _ _ rfl ag121 sz121 rfl)) (Ch.s (.ptr 8000 0) (.alloc 8000 _ rfl zer121) ?_)))))))
    refine Ch.s .junk (.storePtr _ _ _ rfl rfl rfl (.aggD _) sz121 (Nat.le_of_ble_eq_true rfl)) (Ch.nil (T_seq (T_seq (T_region hc (Ch.s (.ptr 2000 0) (.pure (.fldPtr _ _ _ rfl fld35_0 rfl)) (Ch.s (.d (.slice false 2 (x.sigs.map Sgn.d))) (.pure (.loadPtr1 _ _ rfl ag32 rfl rfl rfl)) (Ch.s (.d (.int .i64 ((x.sigs.length : Nat) : Int))) (.pure (.len _ _ 154 rfl Tryz.underlying32 (.sh _ _) (by simp))) ?_)))))))
    refine Ch.s (.ptr 8000 2) (.pure (.fldPtr _ _ _ rfl fld121_2 rfl)) (Ch.s (.d (.slice false 1 (((xs.getD k default).cubes).map D.str))) (.pure (.loadPtr1 _ _ rfl ag23 rfl rfl rfl)) (Ch.s (.d (.bool (goodB ((x.sigs.length : Nat) : Int) ((xs.getD k default).cubes)))) (.call 29000 113 _ _ _ en113 rfl (.inl rfl) (.cons (.d _) (.cons (.d _) .nil)) rfl rfl (sp_impl_IsValidCover ((x.sigs.length : Nat) : Int) ((xs.getD k default).cubes) (by first | omega | assumption | (exact hx _ (getD_mem (by omega))) | (exact hx _ (by assumption)) | (exact Nat.le_trans (hx _ (by assumption)) (by omega)) | (simp only [List.length_append, List.length_take, List.length_drop, List.length_cons, List.length_nil]; omega) | (simp_all; done)) (by first | omega | assumption | (exact hx _ (getD_mem (by omega))) | (exact hx _ (by assumption)) | (exact Nat.le_trans (hx _ (by assumption)) (by omega)) | (simp only [List.length_append, List.length_take, List.length_drop, List.length_cons, List.length_nil]; omega) | (simp_all; done))) (.skip _ _ (.skip _ _ .nil)) rfl) (Ch.s (.d (.bool (!(goodB ((x.sigs.length : Nat) : Int) ((xs.getD k default).cubes))))) (.pure (.not _ _ rfl rfl)) (Ch.nil ?_))))
    refine T_cond (b := (!(goodB ((x.sigs.length : Nat) : Int) ((xs.getD k default).cubes)))) rfl (fun h4 => ?_) (fun h4 => ?_)
    ·
     replace h4 := nott h4
     try have hbk := bulkF_mem hcr _ (getD_mem (l := xs) (j := k) (d := default) (by omega))
     try have hck := bulk_len (show bulkS (xs.getD k default).cubes ≤ 1048576 from hbk)
     try have hcm := bulk_mem (show bulkS (xs.getD k default).cubes ≤ 1048576 from hbk)
     try have hrk := het.2 _ (getD_mem (l := xs) (j := k) (d := default) (by omega))
     try have hcv := covT_le hsg (covGd_of (by assumption : goodB (x.sigs.length : Int) (xs.getD k default).cubes = true))
     try have hrt := rcT_le hsg (r := xs.getD k default) (by assumption) hrk
     try have hcg := covGd_of (by assumption : goodB (x.sigs.length : Int) (xs.getD k default).cubes = true)
     try have hetl : (edgeT x.sigs (Lab.mk (xs.getD k default).sig (xs.getD k default).up)).length ≤ 4100 := by (unfold rcT at hrt; simp only [List.length_append] at hrt; omega)
     refine T_seq (T_region hc (Ch.s (.d (.str [])) pa (Ch.s (.d (.bool false)) pa (Ch.nil (T_ret ?_)))))
     exact endR [(.d (.str [])), (.d (.bool false))] [] [] (.cons (.tmp 4 rfl) (.cons (.tmp 5 rfl) .nil)) (.cons (.any _) (.cons (.any _) .nil)) (.tup (.cons (Exp.of (congrArg D.str (by first | (rw [rcfT_no (rcf_no k (by omega) (by assumption))]; done) | (exact (rcf_no k (by omega) (by assumption)).symm) | (rw [rcfT_yes (rcf_yes hmd (by assumption) (fun j hj => hp0.2 j (by omega))) (by omega : k = xs.length)]; done) | (exact (rcf_yes hmd (by assumption) (fun j hj => hp0.2 j (by omega))).symm) | (rw [rcfT_no (rcf_no1 (by first | assumption | exact made_no0 (by assumption) | exact made_no1 (by assumption)))]; done) | (exact (rcf_no1 (by first | assumption | exact made_no0 (by assumption) | exact made_no1 (by assumption))).symm) | (rw [rcfT_no (rcf_no2 (by assumption))]; done) | (exact (rcf_no2 (by assumption)).symm))) (.d _)) (.cons (Exp.of (congrArg D.bool (by first | (rw [rcfT_no (rcf_no k (by omega) (by assumption))]; done) | (exact (rcf_no k (by omega) (by assumption)).symm) | (rw [rcfT_yes (rcf_yes hmd (by assumption) (fun j hj => hp0.2 j (by omega))) (by omega : k = xs.length)]; done) | (exact (rcf_yes hmd (by assumption) (fun j hj => hp0.2 j (by omega))).symm) | (rw [rcfT_no (rcf_no1 (by first | assumption | exact made_no0 (by assumption) | exact made_no1 (by assumption)))]; done) | (exact (rcf_no1 (by first | assumption | exact made_no0 (by assumption) | exact made_no1 (by assumption))).symm) | (rw [rcfT_no (rcf_no2 (by assumption))]; done) | (exact (rcf_no2 (by assumption)).symm))) (.d _)) .nil))) rfl rfl
    ·
     replace h4 := notf h4
     try have hbk := bulkF_mem hcr _ (getD_mem (l := xs) (j := k) (d := default) (by omega))
     try have hck := bulk_len (show bulkS (xs.getD k default).cubes ≤ 1048576 from hbk)
     try have hcm := bulk_mem (show bulkS (xs.getD k default).cubes ≤ 1048576 from hbk)
     try have hrk := het.2 _ (getD_mem (l := xs) (j := k) (d := default) (by omega))
     try have hcv := covT_le hsg (covGd_of (by assumption : goodB (x.sigs.length : Int) (xs.getD k default).cubes = true))
     try have hrt := rcT_le hsg (r := xs.getD k default) (by assumption) hrk
     try have hcg := covGd_of (by assumption : goodB (x.sigs.length : Int) (xs.getD k default).cubes = true)
     try have hetl : (edgeT x.sigs (Lab.mk (xs.getD k default).sig (xs.getD k default).up)).length ≤ 4100 := by (unfold rcT at hrt; simp only [List.length_append] at hrt; omega)
     refine T_skip ?_
     refine T_regionD hc (by kernel_rfl) ?_
     refine ChD.s (.d (.str (rcTo x xs k))) [] pm (ChD.s (.ptr 2000 0) [] (.pure (.fldPtr _ _ _ rfl fld35_0 rfl)) (ChD.s (.d (.slice false 2 (x.sigs.map Sgn.d))) [2000] (.pure (.loadPtr1 _ _ rfl ag32 rfl rfl rfl)) (ChD.s (.ptr 8000 0) [] (.pure (.fldPtr _ _ _ rfl fld121_0 rfl)) (ChD.s (.d (.int .i64 ((xs.getD k default).sig))) [8000] (.pure (.loadPtr1 _ _ rfl ag3 rfl rfl rfl)) (ChD.s (.ptr 8000 1) [] (.pure (.fldPtr _ _ _ rfl fld121_1 rfl)) (ChD.s (.d (.bool ((xs.getD k default).up))) [8000] (.pure (.loadPtr1 _ _ rfl ag4 rfl rfl rfl)) (ChD.s (.agg [(.d (.int .i64 ((xs.getD k default).sig))), (.d (.bool ((xs.getD k default).up)))]) [] (.build _ _ rfl stru107 (.cons (.one _ rfl) (.cons (.one _ rfl) .nil)) rfl) ?_)))))))
     refine ChD.s (.d (.str (edgeT x.sigs (Lab.mk ((xs.getD k default).sig) ((xs.getD k default).up))))) [] (.call 39000 114 _ _ _ en114 rfl (.inl rfl) (.cons (.d _) (.cons (.lend (.agg (.cons (.d _) (.cons (.d _) .nil)) rfl)) .nil)) rfl rfl (sp_impl_edgeText x.sigs (Lab.mk ((xs.getD k default).sig) ((xs.getD k default).up)) (by first | assumption | omega | (rw [List.length_take]; omega) | (have := bulkF_mem hb _ (getD_mem (d := default) (by omega)); assumption) | (unfold bulkS at *; omega) | (simp_all; done)) (by first | assumption | exact hrk.2 | omega) (by first | assumption | (exact fun y hy => by have := (hsg.2 y hy).2; omega))) (.skip _ _ (.skip _ _ .nil)) rfl) (ChD.s (.d (.str ((edgeT x.sigs (Lab.mk ((xs.getD k default).sig) ((xs.getD k default).up))) ++ [32, 61, 32]))) [] (.pure (.str _ _ _ _ _ rfl rfl rfl (strV_add (by first | omega | (simp only [List.length_map, List.length_append, List.length_take, List.length_drop, List.length_cons, List.length_nil]; omega) | (simp; omega) | (simp; done))))) (ChD.s (.ptr 2000 0) [] (.pure (.fldPtr _ _ _ rfl fld35_0 rfl)) (ChD.s (.d (.slice false 2 (x.sigs.map Sgn.d))) [2000] (.pure (.loadPtr1 _ _ rfl ag32 rfl rfl rfl)) (ChD.s (.ptr 8000 2) [] (.pure (.fldPtr _ _ _ rfl fld121_2 rfl)) (ChD.s (.d (.slice false 1 (((xs.getD k default).cubes).map D.str))) [8000] (.pure (.loadPtr1 _ _ rfl ag23 rfl rfl rfl)) (ChD.s (.d (.str (covT x.sigs ((xs.getD k default).cubes)))) [] (.call 45000 115 _ _ _ en115 rfl (.inl rfl) (.cons (.d _) (.cons (.d _) .nil)) rfl rfl (sp_impl_coverText x.sigs ((xs.getD k default).cubes) (by first | assumption | omega) (by first | assumption | omega)) (.skip _ _ (.skip _ _ .nil)) rfl) (ChD.s (.d (.str (((edgeT x.sigs (Lab.mk ((xs.getD k default).sig) ((xs.getD k default).up))) ++ [32, 61, 32]) ++ (covT x.sigs ((xs.getD k default).cubes))))) [] (.pure (.str _ _ _ _ _ rfl rfl rfl (strV_add (by first | omega | (simp only [List.length_map, List.length_append, List.length_take, List.length_drop, List.length_cons, List.length_nil]; omega) | (simp; omega) | (simp; done))))) ?_)))))))
     refine ChD.s (.d (.str ((((edgeT x.sigs (Lab.mk ((xs.getD k default).sig) ((xs.getD k default).up))) ++ [32, 61, 32]) ++ (covT x.sigs ((xs.getD k default).cubes))) ++ [10]))) [] (.pure (.str _ _ _ _ _ rfl rfl rfl (strV_add (by first | omega | (simp only [List.length_map, List.length_append, List.length_take, List.length_drop, List.length_cons, List.length_nil]; omega) | (simp; omega) | (simp; done))))) (ChD.s (.d (.str ((rcTo x xs k) ++ ((((edgeT x.sigs (Lab.mk ((xs.getD k default).sig) ((xs.getD k default).up))) ++ [32, 61, 32]) ++ (covT x.sigs ((xs.getD k default).cubes))) ++ [10])))) [] (.pure (.str _ _ _ _ _ rfl rfl rfl (strV_add (by first | omega | (simp only [List.length_map, List.length_append, List.length_take, List.length_drop, List.length_cons, List.length_nil]; omega) | (simp; omega) | (simp; done))))) (ChD.s (.d (.str ((rcTo x xs k) ++ ((((edgeT x.sigs (Lab.mk ((xs.getD k default).sig) ((xs.getD k default).up))) ++ [32, 61, 32]) ++ (covT x.sigs ((xs.getD k default).cubes))) ++ [10])))) [] pa ?_))
     refine ChD.nil (And.intro ?_ (by kernel_rfl))
     refine T_region hc (Ch.s (.d (.int .i64 (((k : Nat) : Int) + 1))) (.pure (.int _ _ _ _ _ rfl rfl rfl intV_addA)) (Ch.s (.d (.int .i64 (((k : Nat) : Int) + 1))) pm (Ch.nil ?_)))
     exact nx (k + 1) ⟨by omega, upto_succ hp0.2 (by assumption)⟩ (Wk.of rfl rfl (ai rfl (ai (vS (by first | rfl | (exact rcTo_next) | (simp only [List.append_assoc]; rfl))) (ai rfl (ai rfl (ai (vI (by first | rfl | omega | (simp; done) | (simp; omega))) trivial))))) (ai rfl trivial))
   ·
    replace h3 := of_decide_eq_false h3
    try have het := ent_has (by assumption : entB x xs = true)
    try have hbk := bulkF_mem hcr _ (getD_mem (l := xs) (j := k) (d := default) (by omega))
    try have hck := bulk_len (show bulkS (xs.getD k default).cubes ≤ 1048576 from hbk)
    try have hcm := bulk_mem (show bulkS (xs.getD k default).cubes ≤ 1048576 from hbk)
    try have hrk := het.2 _ (getD_mem (l := xs) (j := k) (d := default) (by omega))
    try have hcv := covT_le hsg (covGd_of (by assumption : goodB (x.sigs.length : Int) (xs.getD k default).cubes = true))
    try have hrt := rcT_le hsg (r := xs.getD k default) (by assumption) hrk
    try have hcg := covGd_of (by assumption : goodB (x.sigs.length : Int) (xs.getD k default).cubes = true)
    try have hetl : (edgeT x.sigs (Lab.mk (xs.getD k default).sig (xs.getD k default).up)).length ≤ 4100 := by (unfold rcT at hrt; simp only [List.length_append] at hrt; omega)
    refine T_exit (T_seq (T_region hc (Ch.s (.d (.str (rcTo x xs k))) pm (Ch.s (.d (.str (rcTo x xs k))) pa (Ch.s (.d (.bool true)) pa (Ch.nil (T_ret ?_)))))))
    exact endR [(.d (.str (rcTo x xs k))), (.d (.bool true))] [] [] (.cons (.tmp 4 rfl) (.cons (.tmp 5 rfl) .nil)) (.cons (.any _) (.cons (.any _) .nil)) (.tup (.cons (Exp.of (congrArg D.str (by first | (rw [rcfT_no (rcf_no k (by omega) (by assumption))]; done) | (exact (rcf_no k (by omega) (by assumption)).symm) | (rw [rcfT_yes (rcf_yes hmd (by assumption) (fun j hj => hp0.2 j (by omega))) (by omega : k = xs.length)]; done) | (exact (rcf_yes hmd (by assumption) (fun j hj => hp0.2 j (by omega))).symm) | (rw [rcfT_no (rcf_no1 (by first | assumption | exact made_no0 (by assumption) | exact made_no1 (by assumption)))]; done) | (exact (rcf_no1 (by first | assumption | exact made_no0 (by assumption) | exact made_no1 (by assumption))).symm) | (rw [rcfT_no (rcf_no2 (by assumption))]; done) | (exact (rcf_no2 (by assumption)).symm))) (.d _)) (.cons (Exp.of (congrArg D.bool (by first | (rw [rcfT_no (rcf_no k (by omega) (by assumption))]; done) | (exact (rcf_no k (by omega) (by assumption)).symm) | (rw [rcfT_yes (rcf_yes hmd (by assumption) (fun j hj => hp0.2 j (by omega))) (by omega : k = xs.length)]; done) | (exact (rcf_yes hmd (by assumption) (fun j hj => hp0.2 j (by omega))).symm) | (rw [rcfT_no (rcf_no1 (by first | assumption | exact made_no0 (by assumption) | exact made_no1 (by assumption)))]; done) | (exact (rcf_no1 (by first | assumption | exact made_no0 (by assumption) | exact made_no1 (by assumption))).symm) | (rw [rcfT_no (rcf_no2 (by assumption))]; done) | (exact (rcf_no2 (by assumption)).symm))) (.d _)) .nil))) rfl rfl
 | false =>
  try have hx := sg_has (by first | assumption | exact made_sg h1)
  try have h8 := hx.eight.2
  try have hsg := sgOk_of hx.sigs
  refine Ch.skip rfl rfl (Ch.skip rfl rfl (Ch.skip rfl rfl (Ch.skip rfl rfl (Ch.s (.d (.bool true)) (.pure (.pickT _ _ _ rfl rfl rfl)) (Ch.nil ?_)))))
  refine T_cond (b := true) rfl (fun _ => ?_) (fun h => nomatch h)
  refine T_seq (T_region hc (Ch.s (.d (.str [])) pa (Ch.s (.d (.bool false)) pa (Ch.nil (T_ret ?_)))))
  exact endR [(.d (.str [])), (.d (.bool false))] [] [] (.cons (.tmp 4 rfl) (.cons (.tmp 5 rfl) .nil)) (.cons (.any _) (.cons (.any _) .nil)) (.tup (.cons (Exp.of (congrArg D.str (by first | (rw [rcfT_no (rcf_no k (by omega) (by assumption))]; done) | (exact (rcf_no k (by omega) (by assumption)).symm) | (rw [rcfT_yes (rcf_yes hmd (by assumption) (fun j hj => hp0.2 j (by omega))) (by omega : k = xs.length)]; done) | (exact (rcf_yes hmd (by assumption) (fun j hj => hp0.2 j (by omega))).symm) | (rw [rcfT_no (rcf_no1 (by first | assumption | exact made_no0 (by assumption) | exact made_no1 (by assumption)))]; done) | (exact (rcf_no1 (by first | assumption | exact made_no0 (by assumption) | exact made_no1 (by assumption))).symm) | (rw [rcfT_no (rcf_no2 (by assumption))]; done) | (exact (rcf_no2 (by assumption)).symm))) (.d _)) (.cons (Exp.of (congrArg D.bool (by first | (rw [rcfT_no (rcf_no k (by omega) (by assumption))]; done) | (exact (rcf_no k (by omega) (by assumption)).symm) | (rw [rcfT_yes (rcf_yes hmd (by assumption) (fun j hj => hp0.2 j (by omega))) (by omega : k = xs.length)]; done) | (exact (rcf_yes hmd (by assumption) (fun j hj => hp0.2 j (by omega))).symm) | (rw [rcfT_no (rcf_no1 (by first | assumption | exact made_no0 (by assumption) | exact made_no1 (by assumption)))]; done) | (exact (rcf_no1 (by first | assumption | exact made_no0 (by assumption) | exact made_no1 (by assumption))).symm) | (rw [rcfT_no (rcf_no2 (by assumption))]; done) | (exact (rcf_no2 (by assumption)).symm))) (.d _)) .nil))) rfl rfl

set_option maxHeartbeats 2000000 in
theorem sp_spec_FormatRegionCovers (x : Sgr) (xs : List Rcv) (hb : x.bulk ≤ 1048576) (hcr : bulkF Rcv.bulk xs ≤ 1048576) : Sp Tryz.prog 50 [(.agg [(.slice false 2 (x.sigs.map Sgn.d)), (.slice false 1 (x.codes.map D.str)), (.slice false 4 (x.arcs.map Arc.d))]), (.slice false 3 (xs.map Rcv.d))] [.any, .any] (.tup [(.str (rcfT x xs)), (.bool (rcfB x xs))]) := by
 refine Sp_intro (lend := true) Tryz.func50 rfl rfl rfl (fun _ => rfl) (fun c hc hX => ?_)
 obtain ⟨hp0, hp1, hp2⟩ := Sgr.parts hb
 have hn0 := bulkF_len hp0
 have hn1 := bulk_len hp1
 have hx1 := bulk_mem hp1
 have hn2 := bulkF_len hp2; have hnr := bulkF_len hcr; have hol := outs_len x.sigs
 refine T_seq (T_region hc (Ch.s (.ptr 2000 0) (.box 2000 _ _ rfl (.aggD _)) (Ch.s (.d (.str [])) pa (Ch.s (.d (.bool false)) pa (Ch.nil (T_seq (T_seq ?_)))))))
 refine T_region hc (Ch.s (.agg [(.d (.slice false 2 (x.sigs.map Sgn.d))), (.d (.slice false 1 (x.codes.map D.str))), (.d (.slice false 4 (x.arcs.map Arc.d)))]) (.pure (.loadPtrA _ _ rfl ag35 sz35 rfl rfl (Nat.le_of_ble_eq_true rfl) rfl)) (Ch.s (.d (.bool (sgB x))) (.call 10000 93 _ _ _ en93 rfl (.inl rfl) (.cons (.lend (.agg (.cons (.d _) (.cons (.d _) (.cons (.d _) .nil))) rfl)) .nil) rfl rfl (sp_spec_l5Good x (by first | assumption | omega | (rw [List.length_take]; omega) | (have := bulkF_mem hb _ (getD_mem (d := default) (by omega)); assumption) | (unfold bulkS at *; omega) | (simp_all; done))) (.skip _ _ .nil) rfl) (Ch.s (.d (.bool (!(sgB x)))) (.pure (.not _ _ rfl rfl)) (Ch.s (.d (.bool (!(sgB x)))) pm ?_))))
 cases h1 : (sgB x) with
 | true =>
  try have hx := sg_has (by first | assumption | exact made_sg h1)
  try have h8 := hx.eight.2
  try have hsg := sgOk_of hx.sigs
  refine Ch.s (.agg [(.d (.slice false 2 (x.sigs.map Sgn.d))), (.d (.slice false 1 (x.codes.map D.str))), (.d (.slice false 4 (x.arcs.map Arc.d)))]) (.pure (.loadPtrA _ _ rfl ag35 sz35 rfl rfl (Nat.le_of_ble_eq_true rfl) rfl)) (Ch.s (.d (.str (whyW x))) (.call 14000 94 _ _ _ en94 rfl (.inl rfl) (.cons (.lend (.agg (.cons (.d _) (.cons (.d _) (.cons (.d _) .nil))) rfl)) .nil) rfl rfl (sp_spec_l6Why x (by first | assumption | omega | (rw [List.length_take]; omega) | (have := bulkF_mem hb _ (getD_mem (d := default) (by omega)); assumption) | (unfold bulkS at *; omega) | (simp_all; done)) (by assumption)) (.skip _ _ .nil) rfl) (Ch.s (.d (.bool (!(decide ((whyW x) = [109, 97, 100, 101]))))) (.pure (.str _ _ _ _ _ rfl rfl rfl rfl)) (Ch.s (.d (.bool (!(decide ((whyW x) = [109, 97, 100, 101]))))) (.pure (.pickF _ _ _ rfl rfl rfl)) (Ch.s (.d (.bool (!(decide ((whyW x) = [109, 97, 100, 101]))))) pm ?_))))
  cases h2 : (decide ((whyW x) = [109, 97, 100, 101])) with
  | true =>
   replace h2 := of_decide_eq_true h2
   try have hmd : madeB x = true := by first | assumption | (rw [madeB, h1, Bool.true_and]; exact decide_eq_true h2)
   try have het := ent_has (by assumption : entB x xs = true)
   refine Ch.s (.agg [(.d (.slice false 2 (x.sigs.map Sgn.d))), (.d (.slice false 1 (x.codes.map D.str))), (.d (.slice false 4 (x.arcs.map Arc.d)))]) (.pure (.loadPtrA _ _ rfl ag35 sz35 rfl rfl (Nat.le_of_ble_eq_true rfl) rfl)) (Ch.s (.d (.slice false 3 (xs.map Rcv.d))) pm (Ch.s (.d (.bool (entB x xs))) (.call 20000 106 _ _ _ en106 rfl (.inl rfl) (.cons (.lend (.agg (.cons (.d _) (.cons (.d _) (.cons (.d _) .nil))) rfl)) (.cons (.d _) .nil)) rfl rfl (sp_spec_l17List x xs (by first | assumption | omega | (rw [List.length_take]; omega) | (have := bulkF_mem hb _ (getD_mem (d := default) (by omega)); assumption) | (unfold bulkS at *; omega) | (simp_all; done)) (by first | assumption | omega | (rw [List.length_take]; omega) | (have := bulkF_mem hb _ (getD_mem (d := default) (by omega)); assumption) | (unfold bulkS at *; omega) | (simp_all; done)) (by first | assumption | omega | (rw [List.length_take]; omega) | (have := bulkF_mem hb _ (getD_mem (d := default) (by omega)); assumption) | (unfold bulkS at *; omega) | (simp_all; done))) (.skip _ _ (.skip _ _ .nil)) rfl) (Ch.s (.d (.bool (!(entB x xs)))) (.pure (.not _ _ rfl rfl)) (Ch.s (.d (.bool (!(entB x xs)))) (.pure (.pickF _ _ _ rfl rfl rfl)) (Ch.nil ?_)))))
   refine T_cond (b := (!(entB x xs))) rfl (fun h3 => ?_) (fun h3 => ?_)
   ·
    replace h3 := nott h3
    try have het := ent_has (by assumption : entB x xs = true)
    try have hbk := bulkF_mem hcr _ (getD_mem (l := xs) (j := k) (d := default) (by omega))
    try have hck := bulk_len (show bulkS (xs.getD k default).cubes ≤ 1048576 from hbk)
    try have hcm := bulk_mem (show bulkS (xs.getD k default).cubes ≤ 1048576 from hbk)
    try have hrk := het.2 _ (getD_mem (l := xs) (j := k) (d := default) (by omega))
    try have hcv := covT_le hsg (covGd_of (by assumption : goodB (x.sigs.length : Int) (xs.getD k default).cubes = true))
    try have hrt := rcT_le hsg (r := xs.getD k default) (by assumption) hrk
    try have hcg := covGd_of (by assumption : goodB (x.sigs.length : Int) (xs.getD k default).cubes = true)
    try have hetl : (edgeT x.sigs (Lab.mk (xs.getD k default).sig (xs.getD k default).up)).length ≤ 4100 := by (unfold rcT at hrt; simp only [List.length_append] at hrt; omega)
    refine T_seq (T_region hc (Ch.s (.d (.str [])) pa (Ch.s (.d (.bool false)) pa (Ch.nil (T_ret ?_)))))
    exact endR [(.d (.str [])), (.d (.bool false))] [] [] (.cons (.tmp 4 rfl) (.cons (.tmp 5 rfl) .nil)) (.cons (.any _) (.cons (.any _) .nil)) (.tup (.cons (Exp.of (congrArg D.str (by first | (rw [rcfT_no (rcf_no k (by omega) (by assumption))]; done) | (exact (rcf_no k (by omega) (by assumption)).symm) | (rw [rcfT_yes (rcf_yes hmd (by assumption) (fun j hj => hp0.2 j (by omega))) (by omega : k = xs.length)]; done) | (exact (rcf_yes hmd (by assumption) (fun j hj => hp0.2 j (by omega))).symm) | (rw [rcfT_no (rcf_no1 (by first | assumption | exact made_no0 (by assumption) | exact made_no1 (by assumption)))]; done) | (exact (rcf_no1 (by first | assumption | exact made_no0 (by assumption) | exact made_no1 (by assumption))).symm) | (rw [rcfT_no (rcf_no2 (by assumption))]; done) | (exact (rcf_no2 (by assumption)).symm))) (.d _)) (.cons (Exp.of (congrArg D.bool (by first | (rw [rcfT_no (rcf_no k (by omega) (by assumption))]; done) | (exact (rcf_no k (by omega) (by assumption)).symm) | (rw [rcfT_yes (rcf_yes hmd (by assumption) (fun j hj => hp0.2 j (by omega))) (by omega : k = xs.length)]; done) | (exact (rcf_yes hmd (by assumption) (fun j hj => hp0.2 j (by omega))).symm) | (rw [rcfT_no (rcf_no1 (by first | assumption | exact made_no0 (by assumption) | exact made_no1 (by assumption)))]; done) | (exact (rcf_no1 (by first | assumption | exact made_no0 (by assumption) | exact made_no1 (by assumption))).symm) | (rw [rcfT_no (rcf_no2 (by assumption))]; done) | (exact (rcf_no2 (by assumption)).symm))) (.d _)) .nil))) rfl rfl
   ·
    replace h3 := notf h3
    try have het := ent_has (by assumption : entB x xs = true)
    try have hbk := bulkF_mem hcr _ (getD_mem (l := xs) (j := k) (d := default) (by omega))
    try have hck := bulk_len (show bulkS (xs.getD k default).cubes ≤ 1048576 from hbk)
    try have hcm := bulk_mem (show bulkS (xs.getD k default).cubes ≤ 1048576 from hbk)
    try have hrk := het.2 _ (getD_mem (l := xs) (j := k) (d := default) (by omega))
    try have hcv := covT_le hsg (covGd_of (by assumption : goodB (x.sigs.length : Int) (xs.getD k default).cubes = true))
    try have hrt := rcT_le hsg (r := xs.getD k default) (by assumption) hrk
    try have hcg := covGd_of (by assumption : goodB (x.sigs.length : Int) (xs.getD k default).cubes = true)
    try have hetl : (edgeT x.sigs (Lab.mk (xs.getD k default).sig (xs.getD k default).up)).length ≤ 4100 := by (unfold rcT at hrt; simp only [List.length_append] at hrt; omega)
    refine T_skip (T_seq (T_region hc (Ch.s (.d (.str [])) pa (Ch.nil (T_seq (T_seq (T_region hc ?_)))))))
    refine Ch.s (.d (.slice false 3 (xs.map Rcv.d))) pm (Ch.s (.d (.int .i64 ((xs.length : Nat) : Int))) (.pure (.len _ _ 121 rfl Tryz.underlying73 (.sh _ _) (by simp))) (Ch.s (.d (.int .i64 0)) pm (Ch.nil (T_block ?_))))
    refine T_loop (ι := Nat) (fun k => { n := 55, sl := [(2, (.ptr 2000 0)), (6, (.d (.str (rcTo x xs k)))), (23, (.d (.slice false 3 (xs.map Rcv.d)))), (24, (.d (.int .i64 ((xs.length : Nat) : Int)))), (25, (.d (.int .i64 ((k : Nat) : Int))))], hp := [(2000, (some (.box [(.d (.slice false 2 (x.sigs.map Sgn.d))), (.d (.slice false 1 (x.codes.map D.str))), (.d (.slice false 4 (x.arcs.map Arc.d)))])))], pin := [] }) (fun k => k ≤ xs.length ∧ ∀ j, j < k → rcOk x (xs.getD j default) = true) (fun k => xs.length - k) ⟨0, ⟨by omega, fun j hj => by omega⟩, (Wk.of rfl rfl (ai rfl (ai (vS (by first | rfl | (exact rcTo_next) | (simp only [List.append_assoc]; rfl))) (ai rfl (ai rfl (ai (vI (by first | rfl | omega | (simp; done) | (simp; omega))) trivial))))) (ai rfl trivial))⟩ (fun k hp0 => ?_)
    have hct := rcTo_le hsg het.2 k hp0.1 hp0.2
    refine T_seq (T_region hc (Ch.s (.d (.bool (decide (((k : Nat) : Int) < ((xs.length : Nat) : Int))))) (.pure (.int _ _ _ _ _ rfl rfl rfl rfl)) (Ch.nil (T_seq ?_))))
    refine T_cond (b := (decide (((k : Nat) : Int) < ((xs.length : Nat) : Int)))) rfl (fun h4 => ?_) (fun h4 => ?_)
    ·
     replace h4 := of_decide_eq_true h4
     try have hbk := bulkF_mem hcr _ (getD_mem (l := xs) (j := k) (d := default) (by omega))
     try have hck := bulk_len (show bulkS (xs.getD k default).cubes ≤ 1048576 from hbk)
     try have hcm := bulk_mem (show bulkS (xs.getD k default).cubes ≤ 1048576 from hbk)
     try have hrk := het.2 _ (getD_mem (l := xs) (j := k) (d := default) (by omega))
     try have hcv := covT_le hsg (covGd_of (by assumption : goodB (x.sigs.length : Int) (xs.getD k default).cubes = true))
     try have hrt := rcT_le hsg (r := xs.getD k default) (by assumption) hrk
     try have hcg := covGd_of (by assumption : goodB (x.sigs.length : Int) (xs.getD k default).cubes = true)
     try have hetl : (edgeT x.sigs (Lab.mk (xs.getD k default).sig (xs.getD k default).up)).length ≤ 4100 := by (unfold rcT at hrt; simp only [List.length_append] at hrt; omega)
     refine T_skip (T_seq (T_block (T_seq (T_region hc (Ch.s (.d (.ref (.agg [(.int .i64 ((xs.getD k default).sig)), (.bool ((xs.getD k default).up)), (.slice false 1 (((xs.getD k default).cubes).map D.str))]))) (.pure (.idx _ _ _ 121 (k) rfl Tryz.underlying73 sz121 rfl rfl rfl get_mapA)) (Ch.s (.d (.agg [(.int .i64 ((xs.getD k default).sig)), (.bool ((xs.getD k default).up)), (.slice false 1 (((xs.getD k default).cubes).map D.str))])) (.pure (.loadRefA _ _ rfl ag121 sz121 rfl)) (Ch.s (.ptr 8000 0) (.alloc 8000 _ rfl zer121) ?_)))))))
     refine Ch.s .junk (.storePtr _ _ _ rfl rfl rfl (.aggD _) sz121 (Nat.le_of_ble_eq_true rfl)) (Ch.nil (T_seq (T_seq (T_region hc (Ch.s (.ptr 2000 0) (.pure (.fldPtr _ _ _ rfl fld35_0 rfl)) (Ch.s (.d (.slice false 2 (x.sigs.map Sgn.d))) (.pure (.loadPtr1 _ _ rfl ag32 rfl rfl rfl)) (Ch.s (.d (.int .i64 ((x.sigs.length : Nat) : Int))) (.pure (.len _ _ 154 rfl Tryz.underlying32 (.sh _ _) (by simp))) ?_)))))))
     refine Ch.s (.ptr 8000 2) (.pure (.fldPtr _ _ _ rfl fld121_2 rfl)) (Ch.s (.d (.slice false 1 (((xs.getD k default).cubes).map D.str))) (.pure (.loadPtr1 _ _ rfl ag23 rfl rfl rfl)) (Ch.s (.d (.bool (goodB ((x.sigs.length : Nat) : Int) ((xs.getD k default).cubes)))) (.call 34000 107 _ _ _ en107 rfl (.inl rfl) (.cons (.d _) (.cons (.d _) .nil)) rfl rfl (sp_spec_l13Good ((x.sigs.length : Nat) : Int) ((xs.getD k default).cubes) (by first | omega | assumption | (exact hx _ (getD_mem (by omega))) | (exact hx _ (by assumption)) | (exact Nat.le_trans (hx _ (by assumption)) (by omega)) | (simp only [List.length_append, List.length_take, List.length_drop, List.length_cons, List.length_nil]; omega) | (simp_all; done)) (by first | omega | assumption | (exact hx _ (getD_mem (by omega))) | (exact hx _ (by assumption)) | (exact Nat.le_trans (hx _ (by assumption)) (by omega)) | (simp only [List.length_append, List.length_take, List.length_drop, List.length_cons, List.length_nil]; omega) | (simp_all; done))) (.skip _ _ (.skip _ _ .nil)) rfl) (Ch.s (.d (.bool (!(goodB ((x.sigs.length : Nat) : Int) ((xs.getD k default).cubes))))) (.pure (.not _ _ rfl rfl)) (Ch.nil ?_))))
     refine T_cond (b := (!(goodB ((x.sigs.length : Nat) : Int) ((xs.getD k default).cubes)))) rfl (fun h5 => ?_) (fun h5 => ?_)
     ·
      replace h5 := nott h5
      try have hbk := bulkF_mem hcr _ (getD_mem (l := xs) (j := k) (d := default) (by omega))
      try have hck := bulk_len (show bulkS (xs.getD k default).cubes ≤ 1048576 from hbk)
      try have hcm := bulk_mem (show bulkS (xs.getD k default).cubes ≤ 1048576 from hbk)
      try have hrk := het.2 _ (getD_mem (l := xs) (j := k) (d := default) (by omega))
      try have hcv := covT_le hsg (covGd_of (by assumption : goodB (x.sigs.length : Int) (xs.getD k default).cubes = true))
      try have hrt := rcT_le hsg (r := xs.getD k default) (by assumption) hrk
      try have hcg := covGd_of (by assumption : goodB (x.sigs.length : Int) (xs.getD k default).cubes = true)
      try have hetl : (edgeT x.sigs (Lab.mk (xs.getD k default).sig (xs.getD k default).up)).length ≤ 4100 := by (unfold rcT at hrt; simp only [List.length_append] at hrt; omega)
      refine T_seq (T_region hc (Ch.s (.d (.str [])) pa (Ch.s (.d (.bool false)) pa (Ch.nil (T_ret ?_)))))
      exact endR [(.d (.str [])), (.d (.bool false))] [] [] (.cons (.tmp 4 rfl) (.cons (.tmp 5 rfl) .nil)) (.cons (.any _) (.cons (.any _) .nil)) (.tup (.cons (Exp.of (congrArg D.str (by first | (rw [rcfT_no (rcf_no k (by omega) (by assumption))]; done) | (exact (rcf_no k (by omega) (by assumption)).symm) | (rw [rcfT_yes (rcf_yes hmd (by assumption) (fun j hj => hp0.2 j (by omega))) (by omega : k = xs.length)]; done) | (exact (rcf_yes hmd (by assumption) (fun j hj => hp0.2 j (by omega))).symm) | (rw [rcfT_no (rcf_no1 (by first | assumption | exact made_no0 (by assumption) | exact made_no1 (by assumption)))]; done) | (exact (rcf_no1 (by first | assumption | exact made_no0 (by assumption) | exact made_no1 (by assumption))).symm) | (rw [rcfT_no (rcf_no2 (by assumption))]; done) | (exact (rcf_no2 (by assumption)).symm))) (.d _)) (.cons (Exp.of (congrArg D.bool (by first | (rw [rcfT_no (rcf_no k (by omega) (by assumption))]; done) | (exact (rcf_no k (by omega) (by assumption)).symm) | (rw [rcfT_yes (rcf_yes hmd (by assumption) (fun j hj => hp0.2 j (by omega))) (by omega : k = xs.length)]; done) | (exact (rcf_yes hmd (by assumption) (fun j hj => hp0.2 j (by omega))).symm) | (rw [rcfT_no (rcf_no1 (by first | assumption | exact made_no0 (by assumption) | exact made_no1 (by assumption)))]; done) | (exact (rcf_no1 (by first | assumption | exact made_no0 (by assumption) | exact made_no1 (by assumption))).symm) | (rw [rcfT_no (rcf_no2 (by assumption))]; done) | (exact (rcf_no2 (by assumption)).symm))) (.d _)) .nil))) rfl rfl
     ·
      replace h5 := notf h5
      try have hbk := bulkF_mem hcr _ (getD_mem (l := xs) (j := k) (d := default) (by omega))
      try have hck := bulk_len (show bulkS (xs.getD k default).cubes ≤ 1048576 from hbk)
      try have hcm := bulk_mem (show bulkS (xs.getD k default).cubes ≤ 1048576 from hbk)
      try have hrk := het.2 _ (getD_mem (l := xs) (j := k) (d := default) (by omega))
      try have hcv := covT_le hsg (covGd_of (by assumption : goodB (x.sigs.length : Int) (xs.getD k default).cubes = true))
      try have hrt := rcT_le hsg (r := xs.getD k default) (by assumption) hrk
      try have hcg := covGd_of (by assumption : goodB (x.sigs.length : Int) (xs.getD k default).cubes = true)
      try have hetl : (edgeT x.sigs (Lab.mk (xs.getD k default).sig (xs.getD k default).up)).length ≤ 4100 := by (unfold rcT at hrt; simp only [List.length_append] at hrt; omega)
      refine T_skip ?_
      refine T_regionD hc (by kernel_rfl) ?_
      refine ChD.s (.d (.str (rcTo x xs k))) [] pm (ChD.s (.agg [(.d (.slice false 2 (x.sigs.map Sgn.d))), (.d (.slice false 1 (x.codes.map D.str))), (.d (.slice false 4 (x.arcs.map Arc.d)))]) [2000] (.pure (.loadPtrA _ _ rfl ag35 sz35 rfl rfl (Nat.le_of_ble_eq_true rfl) rfl)) (ChD.s (.ptr 8000 0) [] (.pure (.fldPtr _ _ _ rfl fld121_0 rfl)) (ChD.s (.d (.int .i64 ((xs.getD k default).sig))) [8000] (.pure (.loadPtr1 _ _ rfl ag3 rfl rfl rfl)) (ChD.s (.ptr 8000 1) [] (.pure (.fldPtr _ _ _ rfl fld121_1 rfl)) (ChD.s (.d (.bool ((xs.getD k default).up))) [8000] (.pure (.loadPtr1 _ _ rfl ag4 rfl rfl rfl)) (ChD.s (.agg [(.d (.int .i64 0)), (.d (.int .i64 ((xs.getD k default).sig))), (.d (.bool ((xs.getD k default).up))), (.d (.int .i64 0))]) [] (.build _ _ rfl stru125 (.cons (.one _ rfl) (.cons (.one _ rfl) .nil)) rfl) (ChD.s (.d (.str (edgeT x.sigs (Lab.mk (Arc.mk 0 ((xs.getD k default).sig) ((xs.getD k default).up) 0).sig (Arc.mk 0 ((xs.getD k default).sig) ((xs.getD k default).up) 0).up)))) [] (.call 43000 108 _ _ _ en108 rfl (.inl rfl) (.cons (.lend (.agg (.cons (.d _) (.cons (.d _) (.cons (.d _) .nil))) rfl)) (.cons (.lend (.agg (.cons (.d _) (.cons (.d _) (.cons (.d _) (.cons (.d _) .nil)))) rfl)) .nil)) rfl rfl (sp_spec_l6Word x (Arc.mk 0 ((xs.getD k default).sig) ((xs.getD k default).up) 0) (by first | assumption | omega | (rw [List.length_take]; omega) | (have := bulkF_mem hb _ (getD_mem (d := default) (by omega)); assumption) | (unfold bulkS at *; omega) | (simp_all; done)) (by first | assumption | exact hrk.2 | omega) (by first | assumption | (exact fun y hy => by have := (hsg.2 y hy).2; omega))) (.skip _ _ (.skip _ _ .nil)) rfl) ?_)))))))
      refine ChD.s (.d (.str ((edgeT x.sigs (Lab.mk (Arc.mk 0 ((xs.getD k default).sig) ((xs.getD k default).up) 0).sig (Arc.mk 0 ((xs.getD k default).sig) ((xs.getD k default).up) 0).up)) ++ [32, 61, 32]))) [] (.pure (.str _ _ _ _ _ rfl rfl rfl (strV_add (by first | omega | (simp only [List.length_map, List.length_append, List.length_take, List.length_drop, List.length_cons, List.length_nil]; omega) | (simp; omega) | (simp; done))))) (ChD.s (.ptr 2000 0) [] (.pure (.fldPtr _ _ _ rfl fld35_0 rfl)) (ChD.s (.d (.slice false 2 (x.sigs.map Sgn.d))) [2000] (.pure (.loadPtr1 _ _ rfl ag32 rfl rfl rfl)) (ChD.s (.ptr 8000 2) [] (.pure (.fldPtr _ _ _ rfl fld121_2 rfl)) (ChD.s (.d (.slice false 1 (((xs.getD k default).cubes).map D.str))) [8000] (.pure (.loadPtr1 _ _ rfl ag23 rfl rfl rfl)) (ChD.s (.d (.str (covT x.sigs ((xs.getD k default).cubes)))) [] (.call 49000 109 _ _ _ en109 rfl (.inl rfl) (.cons (.d _) (.cons (.d _) .nil)) rfl rfl (sp_spec_l13Text x.sigs ((xs.getD k default).cubes) (by first | assumption | omega) (by first | assumption | omega)) (.skip _ _ (.skip _ _ .nil)) rfl) (ChD.s (.d (.str (((edgeT x.sigs (Lab.mk (Arc.mk 0 ((xs.getD k default).sig) ((xs.getD k default).up) 0).sig (Arc.mk 0 ((xs.getD k default).sig) ((xs.getD k default).up) 0).up)) ++ [32, 61, 32]) ++ (covT x.sigs ((xs.getD k default).cubes))))) [] (.pure (.str _ _ _ _ _ rfl rfl rfl (strV_add (by first | omega | (simp only [List.length_map, List.length_append, List.length_take, List.length_drop, List.length_cons, List.length_nil]; omega) | (simp; omega) | (simp; done))))) (ChD.s (.d (.str ((((edgeT x.sigs (Lab.mk (Arc.mk 0 ((xs.getD k default).sig) ((xs.getD k default).up) 0).sig (Arc.mk 0 ((xs.getD k default).sig) ((xs.getD k default).up) 0).up)) ++ [32, 61, 32]) ++ (covT x.sigs ((xs.getD k default).cubes))) ++ [10]))) [] (.pure (.str _ _ _ _ _ rfl rfl rfl (strV_add (by first | omega | (simp only [List.length_map, List.length_append, List.length_take, List.length_drop, List.length_cons, List.length_nil]; omega) | (simp; omega) | (simp; done))))) ?_)))))))
      refine ChD.s (.d (.str ((rcTo x xs k) ++ ((((edgeT x.sigs (Lab.mk (Arc.mk 0 ((xs.getD k default).sig) ((xs.getD k default).up) 0).sig (Arc.mk 0 ((xs.getD k default).sig) ((xs.getD k default).up) 0).up)) ++ [32, 61, 32]) ++ (covT x.sigs ((xs.getD k default).cubes))) ++ [10])))) [] (.pure (.str _ _ _ _ _ rfl rfl rfl (strV_add (by first | omega | (simp only [List.length_map, List.length_append, List.length_take, List.length_drop, List.length_cons, List.length_nil]; omega) | (simp; omega) | (simp; done))))) (ChD.s (.d (.str ((rcTo x xs k) ++ ((((edgeT x.sigs (Lab.mk (Arc.mk 0 ((xs.getD k default).sig) ((xs.getD k default).up) 0).sig (Arc.mk 0 ((xs.getD k default).sig) ((xs.getD k default).up) 0).up)) ++ [32, 61, 32]) ++ (covT x.sigs ((xs.getD k default).cubes))) ++ [10])))) [] pa ?_)
      refine ChD.nil (And.intro ?_ (by kernel_rfl))
      refine T_region hc (Ch.s (.d (.int .i64 (((k : Nat) : Int) + 1))) (.pure (.int _ _ _ _ _ rfl rfl rfl intV_addA)) (Ch.s (.d (.int .i64 (((k : Nat) : Int) + 1))) pm (Ch.nil ?_)))
      exact nx (k + 1) ⟨by omega, upto_succ hp0.2 (by assumption)⟩ (Wk.of rfl rfl (ai rfl (ai (vS (by first | rfl | (exact rcTo_next) | (simp only [List.append_assoc]; rfl))) (ai rfl (ai rfl (ai (vI (by first | rfl | omega | (simp; done) | (simp; omega))) trivial))))) (ai rfl trivial))
    ·
     replace h4 := of_decide_eq_false h4
     try have hbk := bulkF_mem hcr _ (getD_mem (l := xs) (j := k) (d := default) (by omega))
     try have hck := bulk_len (show bulkS (xs.getD k default).cubes ≤ 1048576 from hbk)
     try have hcm := bulk_mem (show bulkS (xs.getD k default).cubes ≤ 1048576 from hbk)
     try have hrk := het.2 _ (getD_mem (l := xs) (j := k) (d := default) (by omega))
     try have hcv := covT_le hsg (covGd_of (by assumption : goodB (x.sigs.length : Int) (xs.getD k default).cubes = true))
     try have hrt := rcT_le hsg (r := xs.getD k default) (by assumption) hrk
     try have hcg := covGd_of (by assumption : goodB (x.sigs.length : Int) (xs.getD k default).cubes = true)
     try have hetl : (edgeT x.sigs (Lab.mk (xs.getD k default).sig (xs.getD k default).up)).length ≤ 4100 := by (unfold rcT at hrt; simp only [List.length_append] at hrt; omega)
     refine T_exit (T_seq (T_region hc (Ch.s (.d (.str (rcTo x xs k))) pm (Ch.s (.d (.str (rcTo x xs k))) pa (Ch.s (.d (.bool true)) pa (Ch.nil (T_ret ?_)))))))
     exact endR [(.d (.str (rcTo x xs k))), (.d (.bool true))] [] [] (.cons (.tmp 4 rfl) (.cons (.tmp 5 rfl) .nil)) (.cons (.any _) (.cons (.any _) .nil)) (.tup (.cons (Exp.of (congrArg D.str (by first | (rw [rcfT_no (rcf_no k (by omega) (by assumption))]; done) | (exact (rcf_no k (by omega) (by assumption)).symm) | (rw [rcfT_yes (rcf_yes hmd (by assumption) (fun j hj => hp0.2 j (by omega))) (by omega : k = xs.length)]; done) | (exact (rcf_yes hmd (by assumption) (fun j hj => hp0.2 j (by omega))).symm) | (rw [rcfT_no (rcf_no1 (by first | assumption | exact made_no0 (by assumption) | exact made_no1 (by assumption)))]; done) | (exact (rcf_no1 (by first | assumption | exact made_no0 (by assumption) | exact made_no1 (by assumption))).symm) | (rw [rcfT_no (rcf_no2 (by assumption))]; done) | (exact (rcf_no2 (by assumption)).symm))) (.d _)) (.cons (Exp.of (congrArg D.bool (by first | (rw [rcfT_no (rcf_no k (by omega) (by assumption))]; done) | (exact (rcf_no k (by omega) (by assumption)).symm) | (rw [rcfT_yes (rcf_yes hmd (by assumption) (fun j hj => hp0.2 j (by omega))) (by omega : k = xs.length)]; done) | (exact (rcf_yes hmd (by assumption) (fun j hj => hp0.2 j (by omega))).symm) | (rw [rcfT_no (rcf_no1 (by first | assumption | exact made_no0 (by assumption) | exact made_no1 (by assumption)))]; done) | (exact (rcf_no1 (by first | assumption | exact made_no0 (by assumption) | exact made_no1 (by assumption))).symm) | (rw [rcfT_no (rcf_no2 (by assumption))]; done) | (exact (rcf_no2 (by assumption)).symm))) (.d _)) .nil))) rfl rfl
  | false =>
   replace h2 := of_decide_eq_false h2
   try have hmd : madeB x = true := by first | assumption | (rw [madeB, h1, Bool.true_and]; exact decide_eq_true h2)
   try have het := ent_has (by assumption : entB x xs = true)
   refine Ch.skip rfl rfl (Ch.skip rfl rfl (Ch.skip rfl rfl (Ch.skip rfl rfl (Ch.s (.d (.bool true)) (.pure (.pickT _ _ _ rfl rfl rfl)) (Ch.nil ?_)))))
   refine T_cond (b := true) rfl (fun _ => ?_) (fun h => nomatch h)
   refine T_seq (T_region hc (Ch.s (.d (.str [])) pa (Ch.s (.d (.bool false)) pa (Ch.nil (T_ret ?_)))))
   exact endR [(.d (.str [])), (.d (.bool false))] [] [] (.cons (.tmp 4 rfl) (.cons (.tmp 5 rfl) .nil)) (.cons (.any _) (.cons (.any _) .nil)) (.tup (.cons (Exp.of (congrArg D.str (by first | (rw [rcfT_no (rcf_no k (by omega) (by assumption))]; done) | (exact (rcf_no k (by omega) (by assumption)).symm) | (rw [rcfT_yes (rcf_yes hmd (by assumption) (fun j hj => hp0.2 j (by omega))) (by omega : k = xs.length)]; done) | (exact (rcf_yes hmd (by assumption) (fun j hj => hp0.2 j (by omega))).symm) | (rw [rcfT_no (rcf_no1 (by first | assumption | exact made_no0 (by assumption) | exact made_no1 (by assumption)))]; done) | (exact (rcf_no1 (by first | assumption | exact made_no0 (by assumption) | exact made_no1 (by assumption))).symm) | (rw [rcfT_no (rcf_no2 (by assumption))]; done) | (exact (rcf_no2 (by assumption)).symm))) (.d _)) (.cons (Exp.of (congrArg D.bool (by first | (rw [rcfT_no (rcf_no k (by omega) (by assumption))]; done) | (exact (rcf_no k (by omega) (by assumption)).symm) | (rw [rcfT_yes (rcf_yes hmd (by assumption) (fun j hj => hp0.2 j (by omega))) (by omega : k = xs.length)]; done) | (exact (rcf_yes hmd (by assumption) (fun j hj => hp0.2 j (by omega))).symm) | (rw [rcfT_no (rcf_no1 (by first | assumption | exact made_no0 (by assumption) | exact made_no1 (by assumption)))]; done) | (exact (rcf_no1 (by first | assumption | exact made_no0 (by assumption) | exact made_no1 (by assumption))).symm) | (rw [rcfT_no (rcf_no2 (by assumption))]; done) | (exact (rcf_no2 (by assumption)).symm))) (.d _)) .nil))) rfl rfl
 | false =>
  try have hx := sg_has (by first | assumption | exact made_sg h1)
  try have h8 := hx.eight.2
  try have hsg := sgOk_of hx.sigs
  refine Ch.skip rfl rfl (Ch.skip rfl rfl (Ch.skip rfl rfl (Ch.s (.d (.bool true)) (.pure (.pickT _ _ _ rfl rfl rfl)) (Ch.s (.d (.bool true)) pm (Ch.skip rfl rfl (Ch.skip rfl rfl (Ch.skip rfl rfl ?_)))))))
  refine Ch.skip rfl rfl (Ch.s (.d (.bool true)) (.pure (.pickT _ _ _ rfl rfl rfl)) (Ch.nil ?_))
  refine T_cond (b := true) rfl (fun _ => ?_) (fun h => nomatch h)
  refine T_seq (T_region hc (Ch.s (.d (.str [])) pa (Ch.s (.d (.bool false)) pa (Ch.nil (T_ret ?_)))))
  exact endR [(.d (.str [])), (.d (.bool false))] [] [] (.cons (.tmp 4 rfl) (.cons (.tmp 5 rfl) .nil)) (.cons (.any _) (.cons (.any _) .nil)) (.tup (.cons (Exp.of (congrArg D.str (by first | (rw [rcfT_no (rcf_no k (by omega) (by assumption))]; done) | (exact (rcf_no k (by omega) (by assumption)).symm) | (rw [rcfT_yes (rcf_yes hmd (by assumption) (fun j hj => hp0.2 j (by omega))) (by omega : k = xs.length)]; done) | (exact (rcf_yes hmd (by assumption) (fun j hj => hp0.2 j (by omega))).symm) | (rw [rcfT_no (rcf_no1 (by first | assumption | exact made_no0 (by assumption) | exact made_no1 (by assumption)))]; done) | (exact (rcf_no1 (by first | assumption | exact made_no0 (by assumption) | exact made_no1 (by assumption))).symm) | (rw [rcfT_no (rcf_no2 (by assumption))]; done) | (exact (rcf_no2 (by assumption)).symm))) (.d _)) (.cons (Exp.of (congrArg D.bool (by first | (rw [rcfT_no (rcf_no k (by omega) (by assumption))]; done) | (exact (rcf_no k (by omega) (by assumption)).symm) | (rw [rcfT_yes (rcf_yes hmd (by assumption) (fun j hj => hp0.2 j (by omega))) (by omega : k = xs.length)]; done) | (exact (rcf_yes hmd (by assumption) (fun j hj => hp0.2 j (by omega))).symm) | (rw [rcfT_no (rcf_no1 (by first | assumption | exact made_no0 (by assumption) | exact made_no1 (by assumption)))]; done) | (exact (rcf_no1 (by first | assumption | exact made_no0 (by assumption) | exact made_no1 (by assumption))).symm) | (rw [rcfT_no (rcf_no2 (by assumption))]; done) | (exact (rcf_no2 (by assumption)).symm))) (.d _)) .nil))) rfl rfl

set_option maxHeartbeats 1000000 in
theorem sp_laws_FnExactFormatRegionCovers (x : Sgr) (xs : List Rcv) (hwx : x.wide) (hn : xs.length ≤ 9223372036854775807) (hx : ∀ y ∈ xs, y.wide) : Sp Tryz.prog 10 [(.agg [(.slice false 2 (x.sigs.map Sgn.d)), (.slice false 1 (x.codes.map D.str)), (.slice false 4 (x.arcs.map Arc.d))]), (.slice false 3 (xs.map Rcv.d))] [.any, .any] (.bool true) := by
 refine Sp_intro (lend := true) Tryz.func10 rfl rfl rfl (fun _ => rfl) (fun c hc hX => ?_)
 refine T_seq (T_region hc (Ch.s (.ptr 2000 0) (.box 2000 _ _ rfl (.aggD _)) (Ch.s (.d (.bool false)) pa (Ch.nil (T_seq (T_region hc (Ch.s (.d (.int .i64 1048576)) pa ?_)))))))
 refine Ch.nil (T_seq (T_region hc (Ch.s (.agg [(.d (.slice false 2 (x.sigs.map Sgn.d))), (.d (.slice false 1 (x.codes.map D.str))), (.d (.slice false 4 (x.arcs.map Arc.d)))]) (.pure (.loadPtrA _ _ rfl ag26 sz26 rfl rfl (Nat.le_of_ble_eq_true rfl) rfl)) (Ch.s (.d (.int .i64 1048576)) pm (Ch.s (.d (.int .i64 (szR x.bulk 1048576))) (.call 14000 16 _ _ _ en16 rfl (.inl rfl) (.cons (.lend (.agg (.cons (.d _) (.cons (.d _) (.cons (.d _) .nil))) rfl)) (.cons (.d _) .nil)) rfl rfl (sp_laws_szStateGraph x 1048576 (by first | omega | assumption | (exact hx _ (getD_mem (by omega))) | (exact hx _ (by assumption)) | (exact Nat.le_trans (hx _ (by assumption)) (by omega)) | (simp only [List.length_append, List.length_take, List.length_drop, List.length_cons, List.length_nil]; omega) | (simp_all; done)) (by first | omega | assumption | (exact hx _ (getD_mem (by omega))) | (exact hx _ (by assumption)) | (exact Nat.le_trans (hx _ (by assumption)) (by omega)) | (simp only [List.length_append, List.length_take, List.length_drop, List.length_cons, List.length_nil]; omega) | (simp_all; done)) (by first | assumption | omega | trivial | (simp_all; done) | (exact fun _ _ => trivial) | (exact hx _ (by assumption)) | (refine ⟨?_, ?_⟩ <;> first | assumption | omega))) (.skip _ _ (.skip _ _ .nil)) rfl) (Ch.s (.d (.int .i64 (szR x.bulk 1048576))) pa (Ch.nil ?_)))))))
 refine T_seq (T_seq (T_region hc (Ch.s (.d (.int .i64 (szR x.bulk 1048576))) pm (Ch.s (.d (.bool (decide ((szR x.bulk 1048576) < 0)))) (.pure (.int _ _ _ _ _ rfl rfl rfl rfl)) (Ch.nil ?_)))))
 refine T_cond (b := (decide ((szR x.bulk 1048576) < 0))) rfl (fun h1 => ?_) (fun h1 => ?_)
 ·
  replace h1 := of_decide_eq_true h1
  try have hz := szR_ok (t := x.bulk) (left := 1048576) h1 (by omega)
  try have hb : x.bulk ≤ 1048576 := by omega
  try have hl := hz.2
  refine T_seq (T_region hc (Ch.s (.d (.bool true)) pa (Ch.nil (T_ret ?_))))
  exact endR [(.d (.bool true))] [] [] (.cons (.tmp 4 rfl) .nil) (.cons (.any _) (.cons (.any _) .nil)) (.d _) rfl rfl
 ·
  replace h1 := of_decide_eq_false h1
  try have hz := szR_ok (t := x.bulk) (left := 1048576) h1 (by omega)
  try have hb : x.bulk ≤ 1048576 := by omega
  try have hl := hz.2
  refine T_skip (T_seq (T_region hc (Ch.s (.d (.slice false 3 (xs.map Rcv.d))) pm (Ch.s (.d (.int .i64 (szR x.bulk 1048576))) pm (Ch.s (.d (.int .i64 (szR (bulkF Rcv.bulk xs) (szR x.bulk 1048576)))) (.call 19000 49 _ _ _ en49 rfl (.inl rfl) (.cons (.d _) (.cons (.d _) .nil)) rfl rfl (sp_laws_szRegionCoversS xs (szR x.bulk 1048576) (by first | omega | assumption | (exact hx _ (getD_mem (by omega))) | (exact hx _ (by assumption)) | (exact Nat.le_trans (hx _ (by assumption)) (by omega)) | (simp only [List.length_append, List.length_take, List.length_drop, List.length_cons, List.length_nil]; omega) | (simp_all; done)) (by first | omega | assumption | (exact hx _ (getD_mem (by omega))) | (exact hx _ (by assumption)) | (exact Nat.le_trans (hx _ (by assumption)) (by omega)) | (simp only [List.length_append, List.length_take, List.length_drop, List.length_cons, List.length_nil]; omega) | (simp_all; done)) (by first | assumption | omega | trivial | (simp_all; done) | (exact fun _ _ => trivial) | (exact hx _ (by assumption)) | (refine ⟨?_, ?_⟩ <;> first | assumption | omega)) (by first | assumption | omega | trivial | (simp_all; done) | (exact fun _ _ => trivial) | (exact hx _ (by assumption)) | (refine ⟨?_, ?_⟩ <;> first | assumption | omega))) (.skip _ _ (.skip _ _ .nil)) rfl) (Ch.s (.d (.int .i64 (szR (bulkF Rcv.bulk xs) (szR x.bulk 1048576)))) pa (Ch.nil ?_)))))))
  refine T_seq (T_seq (T_region hc (Ch.s (.d (.int .i64 (szR (bulkF Rcv.bulk xs) (szR x.bulk 1048576)))) pm (Ch.s (.d (.bool (decide ((szR (bulkF Rcv.bulk xs) (szR x.bulk 1048576)) < 0)))) (.pure (.int _ _ _ _ _ rfl rfl rfl rfl)) (Ch.nil ?_)))))
  refine T_cond (b := (decide ((szR (bulkF Rcv.bulk xs) (szR x.bulk 1048576)) < 0))) rfl (fun h2 => ?_) (fun h2 => ?_)
  ·
   replace h2 := of_decide_eq_true h2
   try have hzy := szR_ok (t := bulkF Rcv.bulk xs) (left := (szR x.bulk 1048576)) h2 (by omega)
   try have hby : bulkF Rcv.bulk xs ≤ 1048576 := by omega
   try have hly := hzy.2
   refine T_seq (T_region hc (Ch.s (.d (.bool true)) pa (Ch.nil (T_ret ?_))))
   exact endR [(.d (.bool true))] [] [] (.cons (.tmp 4 rfl) .nil) (.cons (.any _) (.cons (.any _) .nil)) (.d _) rfl rfl
  ·
   replace h2 := of_decide_eq_false h2
   try have hzy := szR_ok (t := bulkF Rcv.bulk xs) (left := (szR x.bulk 1048576)) h2 (by omega)
   try have hby : bulkF Rcv.bulk xs ≤ 1048576 := by omega
   try have hly := hzy.2
   refine T_skip (T_seq (T_region hc (Ch.s (.agg [(.d (.slice false 2 (x.sigs.map Sgn.d))), (.d (.slice false 1 (x.codes.map D.str))), (.d (.slice false 4 (x.arcs.map Arc.d)))]) (.pure (.loadPtrA _ _ rfl ag26 sz26 rfl rfl (Nat.le_of_ble_eq_true rfl) rfl)) ?_)))
   refine Ch.step (v := (.agg [(.row 24000), (.row 24001), (.row 24002)])) rfl (.call 24000 18 _ _ _ en18 rfl (.inl rfl) (.cons (.lend (.agg (.cons (.d _) (.cons (.d _) (.cons (.d _) .nil))) rfl)) .nil) rfl (sol (Sgr.sol _) rfl) (sp_laws_toStateGraph x (by first | assumption | omega | (rw [List.length_take]; omega) | (have := bulkF_mem hb _ (getD_mem (d := default) (by omega)); assumption) | (unfold bulkS at *; omega) | (simp_all; done))) (.skip _ _ .nil) rfl) rfl rfl ?_
   refine Ch.s (.d (.slice false 3 (xs.map Rcv.d))) pm ?_
   refine Ch.step (v := (.row 26000)) rfl (.call 26000 51 _ _ _ en51 rfl (.inl rfl) (.cons (.d _) .nil) rfl (sol (solid_row Rcv.sol _) rfl) (sp_laws_toRegionCoversS xs (by first | assumption | omega | (rw [List.length_take]; omega) | (have := bulkF_mem hb _ (getD_mem (d := default) (by omega)); assumption) | (unfold bulkS at *; omega) | (simp_all; done))) (.skip _ _ .nil) rfl) rfl rfl ?_
   refine Ch.s (.tup [(.d (.str (rcfT x xs))), (.d (.bool (rcfB x xs)))]) (.call 27000 50 _ _ _ en50 rfl (.inl rfl) (.cons (.lend (.agg (.cons (.row rfl (frozs_map (fun _ => rfl) _)) (.cons (.row rfl (frozs_map (fun _ => rfl) _)) (.cons (.row rfl (frozs_map (fun _ => rfl) _)) .nil))) rfl)) (.cons (.lend (.row rfl (frozs_to Rcv.fz _))) .nil)) rfl rfl (sp_spec_FormatRegionCovers x xs (by first | assumption | omega | (rw [List.length_take]; omega) | (have := bulkF_mem hb _ (getD_mem (d := default) (by omega)); assumption) | (unfold bulkS at *; omega) | (simp_all; done)) (by first | assumption | omega | (rw [List.length_take]; omega) | (have := bulkF_mem hb _ (getD_mem (d := default) (by omega)); assumption) | (unfold bulkS at *; omega) | (simp_all; done))) (.skip _ _ (.skip _ _ .nil)) rfl) (Ch.s (.tup [(.d (.str (rcfT x xs))), (.d (.bool (rcfB x xs)))]) pm (Ch.s (.d (.str (rcfT x xs))) (.pure (.extract _ rfl rfl rfl)) (Ch.s (.d (.bool (rcfB x xs))) (.pure (.extract _ rfl rfl rfl)) (Ch.s (.d (.str (rcfT x xs))) pa (Ch.s (.d (.bool (rcfB x xs))) pa (Ch.nil (T_seq ?_)))))))
   refine T_region hc (Ch.s (.agg [(.d (.slice false 2 (x.sigs.map Sgn.d))), (.d (.slice false 1 (x.codes.map D.str))), (.d (.slice false 4 (x.arcs.map Arc.d)))]) (.pure (.loadPtrA _ _ rfl ag26 sz26 rfl rfl (Nat.le_of_ble_eq_true rfl) rfl)) ?_)
   refine Ch.step (v := (.agg [(.row 31000), (.row 31001), (.row 31002)])) rfl (.call 31000 18 _ _ _ en18 rfl (.inl rfl) (.cons (.lend (.agg (.cons (.d _) (.cons (.d _) (.cons (.d _) .nil))) rfl)) .nil) rfl (sol (Sgr.sol _) rfl) (sp_laws_toStateGraph x (by first | assumption | omega | (rw [List.length_take]; omega) | (have := bulkF_mem hb _ (getD_mem (d := default) (by omega)); assumption) | (unfold bulkS at *; omega) | (simp_all; done))) (.skip _ _ .nil) rfl) rfl rfl ?_
   refine Ch.s (.ptr 8000 0) (.alloc 8000 _ rfl zer35) (Ch.s .junk (.storePtr _ _ _ rfl rfl rfl (.agg _ rfl) sz35 (Nat.le_of_ble_eq_true rfl)) (Ch.nil (T_seq (T_region hc (Ch.s (.d (.slice false 3 (xs.map Rcv.d))) pm ?_)))))
   refine Ch.step (v := (.row 33000)) rfl (.call 33000 51 _ _ _ en51 rfl (.inl rfl) (.cons (.d _) .nil) rfl (sol (solid_row Rcv.sol _) rfl) (sp_laws_toRegionCoversS xs (by first | assumption | omega | (rw [List.length_take]; omega) | (have := bulkF_mem hb _ (getD_mem (d := default) (by omega)); assumption) | (unfold bulkS at *; omega) | (simp_all; done))) (.skip _ _ .nil) rfl) rfl rfl ?_
   refine Ch.s (.row 33000) pa (Ch.nil (T_seq (T_region hc (Ch.s (.agg [(.row 31000), (.row 31001), (.row 31002)]) (.pure (.loadPtrA _ _ rfl ag35 sz35 rfl rfl (Nat.le_of_ble_eq_true rfl) rfl)) (Ch.s (.row 33000) pm (Ch.s (.tup [(.d (.str (rcfT x xs))), (.d (.bool (rcfB x xs)))]) (.call 37000 52 _ _ _ en52 rfl (.inl rfl) (.cons (.lend (.agg (.cons (.row rfl (frozs_map (fun _ => rfl) _)) (.cons (.row rfl (frozs_map (fun _ => rfl) _)) (.cons (.row rfl (frozs_map (fun _ => rfl) _)) .nil))) rfl)) (.cons (.lend (.row rfl (frozs_to Rcv.fz _))) .nil)) rfl rfl (sp_impl_FormatRegionCovers x xs (by first | assumption | omega | (rw [List.length_take]; omega) | (have := bulkF_mem hb _ (getD_mem (d := default) (by omega)); assumption) | (unfold bulkS at *; omega) | (simp_all; done)) (by first | assumption | omega | (rw [List.length_take]; omega) | (have := bulkF_mem hb _ (getD_mem (d := default) (by omega)); assumption) | (unfold bulkS at *; omega) | (simp_all; done))) (.skip _ _ (.skip _ _ .nil)) rfl) (Ch.s (.tup [(.d (.str (rcfT x xs))), (.d (.bool (rcfB x xs)))]) pm ?_)))))))
   refine Ch.s (.d (.str (rcfT x xs))) (.pure (.extract _ rfl rfl rfl)) (Ch.s (.d (.bool (rcfB x xs))) (.pure (.extract _ rfl rfl rfl)) (Ch.s (.d (.str (rcfT x xs))) pa (Ch.s (.d (.bool (rcfB x xs))) pa (Ch.nil (T_seq (T_seq (T_region hc ?_)))))))
   refine Ch.s (.d (.str (rcfT x xs))) pm (Ch.s (.d (.str (rcfT x xs))) pm (Ch.s (.d (.bool (!(decide ((rcfT x xs) = (rcfT x xs)))))) (.pure (.str _ _ _ _ _ rfl rfl rfl rfl)) (Ch.s (.d (.bool (!(decide ((rcfT x xs) = (rcfT x xs)))))) pm ?_)))
   cases h3 : (decide ((rcfT x xs) = (rcfT x xs))) with
   | true =>
    replace h3 := of_decide_eq_true h3
    refine Ch.s (.d (.bool (rcfB x xs))) pm (Ch.s (.d (.bool (rcfB x xs))) pm (Ch.s (.d (.bool (!(decide ((rcfB x xs) = (rcfB x xs)))))) (.pure (.neB _ _ _ _ rfl Tryz.underlying4 rfl rfl)) (Ch.s (.d (.bool (!(decide ((rcfB x xs) = (rcfB x xs)))))) (.pure (.pickF _ _ _ rfl rfl rfl)) (Ch.nil ?_))))
    refine T_cond (b := (!(decide ((rcfB x xs) = (rcfB x xs))))) rfl (fun h4 => ?_) (fun h4 => ?_)
    ·
     replace h4 := nott h4
     replace h4 := of_decide_eq_false h4
     refine T_seq (T_region hc (Ch.s (.d (.bool false)) pa (Ch.nil (T_ret ?_))))
     exact endR [(.d (.bool false))] [] [] (.cons (.tmp 4 rfl) .nil) (.cons (.any _) (.cons (.any _) .nil)) (Exp.of (congrArg D.bool (by first | rfl | contradiction | (exfalso; omega) | (simp_all; done) | (exfalso; simp_all; omega))) (.d _)) rfl rfl
    ·
     replace h4 := notf h4
     replace h4 := of_decide_eq_true h4
     refine T_skip (T_seq (T_seq ?_))
     refine T_regionD hc (by kernel_rfl) ?_
     refine ChD.s (.agg [(.row 31000), (.row 31001), (.row 31002)]) [8000, 31000, 31001, 31002] (.pure (.loadPtrA _ _ rfl ag35 sz35 rfl rfl (Nat.le_of_ble_eq_true rfl) rfl)) (ChD.s (.agg [(.d (.slice false 2 (x.sigs.map Sgn.d))), (.d (.slice false 1 (x.codes.map D.str))), (.d (.slice false 4 (x.arcs.map Arc.d)))]) [2000] (.pure (.loadPtrA _ _ rfl ag26 sz26 rfl rfl (Nat.le_of_ble_eq_true rfl) rfl)) (ChD.s (.agg [(.row 50000), (.row 50001), (.row 50002)]) [] (.call 50000 18 _ _ _ en18 rfl (.inl rfl) (.cons (.lend (.agg (.cons (.d _) (.cons (.d _) (.cons (.d _) .nil))) rfl)) .nil) rfl (sol (Sgr.sol _) rfl) (sp_laws_toStateGraph x (by first | assumption | omega | (rw [List.length_take]; omega) | (have := bulkF_mem hb _ (getD_mem (d := default) (by omega)); assumption) | (unfold bulkS at *; omega) | (simp_all; done))) (.skip _ _ .nil) rfl) (ChD.s (.d (.bool (decide (x = x)))) [31000, 31001, 31002, 50000, 50001, 50002] (.call 51000 21 _ _ _ en21 rfl (.inl rfl) (.cons (.lend (.agg (.cons (.row rfl (frozs_map (fun _ => rfl) _)) (.cons (.row rfl (frozs_map (fun _ => rfl) _)) (.cons (.row rfl (frozs_map (fun _ => rfl) _)) .nil))) rfl)) (.cons (.lend (.agg (.cons (.row rfl (frozs_map (fun _ => rfl) _)) (.cons (.row rfl (frozs_map (fun _ => rfl) _)) (.cons (.row rfl (frozs_map (fun _ => rfl) _)) .nil))) rfl)) .nil)) rfl rfl (sp_laws_eqStateGraph x x (by first | assumption | omega | (rw [List.length_take]; omega) | (have := bulkF_mem hb _ (getD_mem (d := default) (by omega)); assumption) | (unfold bulkS at *; omega) | (simp_all; done))) (.skip _ _ (.skip _ _ .nil)) rfl) (ChD.s (.d (.bool (!(decide (x = x))))) [] (.pure (.not _ _ rfl rfl)) ?_))))
     refine ChD.nil (And.intro ?_ (by kernel_rfl))
     refine T_cond (b := (!(decide (x = x)))) rfl (fun h5 => ?_) (fun h5 => ?_)
     ·
      replace h5 := nott h5
      replace h5 := of_decide_eq_false h5
      refine T_seq (T_region hc (Ch.s (.d (.bool false)) pa (Ch.nil (T_ret ?_))))
      exact endR [(.d (.bool false))] [] [] (.cons (.tmp 4 rfl) .nil) (.cons (.any _) (.cons (.any _) .nil)) (Exp.of (congrArg D.bool (by first | rfl | contradiction | (exfalso; omega) | (simp_all; done) | (exfalso; simp_all; omega))) (.d _)) rfl rfl
     ·
      replace h5 := notf h5
      replace h5 := of_decide_eq_true h5
      refine T_skip (T_seq (T_seq (T_region hc (Ch.s (.row 33000) pm (Ch.s (.d (.slice false 3 (xs.map Rcv.d))) pm ?_)))))
      refine Ch.step (v := (.row 55000)) rfl (.call 55000 51 _ _ _ en51 rfl (.inl rfl) (.cons (.d _) .nil) rfl (sol (solid_row Rcv.sol _) rfl) (sp_laws_toRegionCoversS xs (by first | assumption | omega | (rw [List.length_take]; omega) | (have := bulkF_mem hb _ (getD_mem (d := default) (by omega)); assumption) | (unfold bulkS at *; omega) | (simp_all; done))) (.skip _ _ .nil) rfl) rfl rfl ?_
      refine Ch.s (.d (.bool (decide (xs = xs)))) (.call 56000 53 _ _ _ en53 rfl (.inl rfl) (.cons (.lend (.row rfl (frozs_to Rcv.fz _))) (.cons (.lend (.row rfl (frozs_to Rcv.fz _))) .nil)) rfl rfl (sp_laws_eqRegionCoversS xs xs (by first | assumption | omega | (rw [List.length_take]; omega) | (have := bulkF_mem hb _ (getD_mem (d := default) (by omega)); assumption) | (unfold bulkS at *; omega) | (simp_all; done))) (.skip _ _ (.skip _ _ .nil)) rfl) (Ch.s (.d (.bool (!(decide (xs = xs))))) (.pure (.not _ _ rfl rfl)) (Ch.nil ?_))
      refine T_cond (b := (!(decide (xs = xs)))) rfl (fun h6 => ?_) (fun h6 => ?_)
      ·
       replace h6 := nott h6
       replace h6 := of_decide_eq_false h6
       refine T_seq (T_region hc (Ch.s (.d (.bool false)) pa (Ch.nil (T_ret ?_))))
       exact endR [(.d (.bool false))] [] [] (.cons (.tmp 4 rfl) .nil) (.cons (.any _) (.cons (.any _) .nil)) (Exp.of (congrArg D.bool (by first | rfl | contradiction | (exfalso; omega) | (simp_all; done) | (exfalso; simp_all; omega))) (.d _)) rfl rfl
      ·
       replace h6 := notf h6
       replace h6 := of_decide_eq_true h6
       refine T_skip (T_seq (T_region hc (Ch.s (.d (.bool true)) pa (Ch.nil (T_ret ?_)))))
       exact endR [(.d (.bool true))] [] [] (.cons (.tmp 4 rfl) .nil) (.cons (.any _) (.cons (.any _) .nil)) (.d _) rfl rfl
   | false =>
    replace h3 := of_decide_eq_false h3
    refine Ch.skip rfl rfl (Ch.skip rfl rfl (Ch.skip rfl rfl (Ch.s (.d (.bool true)) (.pure (.pickT _ _ _ rfl rfl rfl)) (Ch.nil ?_))))
    refine T_cond (b := true) rfl (fun _ => ?_) (fun h => nomatch h)
    refine T_seq (T_region hc (Ch.s (.d (.bool false)) pa (Ch.nil (T_ret ?_))))
    exact endR [(.d (.bool false))] [] [] (.cons (.tmp 4 rfl) .nil) (.cons (.any _) (.cons (.any _) .nil)) (Exp.of (congrArg D.bool (by first | rfl | contradiction | (exfalso; omega) | (simp_all; done) | (exfalso; simp_all; omega))) (.d _)) rfl rfl

end Go.AM
