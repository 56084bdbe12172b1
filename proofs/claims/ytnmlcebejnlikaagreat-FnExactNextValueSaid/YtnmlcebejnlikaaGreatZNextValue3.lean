/-
  The contracts that the law FnExactNextValue needs.
-/
import Derived.Test.YtnmlcebejnlikaaGreatZNextValue2
import Derived.Test.YtnmlcebejnlikaaGreatSh
namespace Go.AM
open Go.Proofs
set_option linter.unusedVariables false
set_option linter.unusedSimpArgs false

set_option maxHeartbeats 2000000 in
theorem sp_spec_l5All (x : Sgr) (hb : x.bulk ≤ 1048576) (hn : 1 ≤ x.codes.length) (hen : ends x.codes.length x.arcs) : Sp Tryz.prog 165 [(.agg [(.slice false 2 (x.sigs.map Sgn.d)), (.slice false 1 (x.codes.map D.str)), (.slice false 4 (x.arcs.map Arc.d))])] [.any] (.bool (!hasI (distF x.codes.length (stepsOf x.arcs) 0) (-1))) := by
 refine Sp_intro (lend := true) Tryz.func165 rfl rfl rfl (fun _ => rfl) (fun c hc hX => ?_)
 obtain ⟨hp0, hp1, hp2⟩ := Sgr.parts hb
 have hn0 := bulkF_len hp0
 have hn1 := bulk_len hp1
 have hx1 := bulk_mem hp1
 have hn2 := bulkF_len hp2
 refine T_seq ?_
 refine T_region hc ?_
 refine Ch.s (.ptr 1000 0) (.box 1000 _ _ rfl (.aggD _)) ?_
 refine Ch.s (.d (.bool false)) (.pure (.assign _ rfl rfl)) ?_
 refine Ch.nil ?_
 refine T_seq ?_
 refine T_region hc ?_
 refine Ch.s (.ptr 1000 1) (.pure (.fldPtr _ _ _ rfl fld35_1 rfl)) ?_
 refine Ch.s (.d (.slice false 1 (x.codes.map D.str))) (.pure (.loadPtr1 _ _ rfl ag23 rfl rfl rfl)) ?_
 refine Ch.s (.d (.int .i64 ((x.codes.length : Nat) : Int))) (.pure (.len _ _ 9 rfl Tryz.underlying23 (.sh _ _) (by simp))) ?_
 refine Ch.s (.row 11000) (.make 11000 _ 4 _ _ (x.codes.length) (x.codes.length) rfl sty146 rfl rfl rfl rfl (by first | omega | (simp only [List.length_map, List.length_append, List.length_take, List.length_drop, List.length_cons, List.length_nil]; omega) | (simp; omega) | (simp; done)) (by first | omega | (simp only [List.length_map, List.length_append, List.length_take, List.length_drop, List.length_cons, List.length_nil]; omega) | (simp; omega) | (simp; done)) (by first | omega | (simp only [List.length_map, List.length_append, List.length_take, List.length_drop, List.length_cons, List.length_nil]; omega) | (simp; omega) | (simp; done)) (zeroD_mk (zd := (.bool false)) zr4 (by intro S w; rw [DR]; exact ⟨rfl, rfl⟩) rfl)) ?_
 refine Ch.s (.row 11000) (.pure (.assign _ rfl rfl)) ?_
 refine Ch.nil ?_
 refine T_seq ?_
 refine T_region hc ?_
 refine Ch.s (.row 11000) (.pure (.move _ rfl rfl)) ?_
 refine Ch.s (.el 11000 1 0 0) (.pure (.idxRow _ _ _ 4 (0) rfl Tryz.underlying146 sz4 rfl rfl rfl rfl (by first | omega | (simp only [List.length_map, List.length_set]; omega) | (simp; omega)))) ?_
 refine Ch.s .junk (.storeEl (y' := (.bool true)) _ _ _ rfl rfl rfl (.d _) rfl sz4 rfl (by rw [List.getElem?_replicate, if_pos (by omega)]) rfl rfl) ?_
 refine Ch.nil ?_
 refine T_seq ?_
 refine T_seq ?_
 refine T_region hc ?_
 refine Ch.s (.ptr 1000 1) (.pure (.fldPtr _ _ _ rfl fld35_1 rfl)) ?_
 refine Ch.s (.d (.slice false 1 (x.codes.map D.str))) (.pure (.loadPtr1 _ _ rfl ag23 rfl rfl rfl)) ?_
 refine Ch.s (.d (.int .i64 ((x.codes.length : Nat) : Int))) (.pure (.len _ _ 9 rfl Tryz.underlying23 (.sh _ _) (by simp))) ?_
 refine Ch.s (.d (.int .i64 0)) (.pure (.move _ rfl rfl)) ?_
 refine Ch.nil ?_
 refine T_block ?_
 refine T_loop (ι := Nat) (fun k => { n := 46, sl := [(1, (.ptr 1000 0)), (3, (.row 3)), (16, (.d (.int .i64 ((x.codes.length : Nat) : Int)))), (17, (.d (.int .i64 ((k : Nat) : Int))))], hp := [(3, (some (.row 1 ((metIt x k).map D.bool)))), (1000, (some (.box [(.d (.slice false 2 (x.sigs.map Sgn.d))), (.d (.slice false 1 (x.codes.map D.str))), (.d (.slice false 4 (x.arcs.map Arc.d)))])))], pin := [] }) (fun k => k ≤ x.codes.length) (fun k => x.codes.length - k) ⟨0, (by omega), (Wk.ren [(3, 11000)] rfl rfl rfl rfl (And.intro rfl (And.intro rfl (And.intro rfl (And.intro (vI (by first | rfl | omega | (simp; done) | (simp; omega))) trivial)))) (And.intro (oR (by first | (exact metIt_start x) | (rw [metTo_all x k (by omega)]; done))) (And.intro rfl trivial)))⟩ (fun k hp0 => ?_)
 have hml := metIt_len x k
 refine T_seq ?_
 refine T_region hc ?_
 refine Ch.s (.d (.bool (decide (((k : Nat) : Int) < ((x.codes.length : Nat) : Int))))) (.pure (.int _ _ _ _ _ rfl rfl rfl rfl)) ?_
 refine Ch.nil ?_
 refine T_seq ?_
 refine T_cond (b := (decide (((k : Nat) : Int) < ((x.codes.length : Nat) : Int)))) rfl (fun h1 => ?_) (fun h1 => ?_)
 ·
  replace h1 := of_decide_eq_true h1
  refine T_skip ?_
  refine T_seq ?_
  refine T_block ?_
  refine T_seq ?_
  refine T_region hc ?_
  refine Ch.s (.ptr 1000 2) (.pure (.fldPtr _ _ _ rfl fld35_2 rfl)) ?_
  refine Ch.s (.d (.slice false 4 (x.arcs.map Arc.d))) (.pure (.loadPtr1 _ _ rfl ag33 rfl rfl rfl)) ?_
  refine Ch.s (.d (.int .i64 ((x.arcs.length : Nat) : Int))) (.pure (.len _ _ 125 rfl Tryz.underlying33 (.sh _ _) (by simp))) ?_
  refine Ch.s (.d (.int .i64 0)) (.pure (.move _ rfl rfl)) ?_
  refine Ch.nil ?_
  refine T_block ?_
  refine T_loop (ι := Nat) (fun m => { n := 46, sl := [(1, (.ptr 1000 0)), (3, (.row 3)), (16, (.d (.int .i64 ((x.codes.length : Nat) : Int)))), (17, (.d (.int .i64 ((k : Nat) : Int)))), (20, (.d (.slice false 4 (x.arcs.map Arc.d)))), (21, (.d (.int .i64 ((x.arcs.length : Nat) : Int)))), (22, (.d (.int .i64 ((m : Nat) : Int))))], hp := [(3, (some (.row 1 ((metTo x k m).map D.bool)))), (1000, (some (.box [(.d (.slice false 2 (x.sigs.map Sgn.d))), (.d (.slice false 1 (x.codes.map D.str))), (.d (.slice false 4 (x.arcs.map Arc.d)))])))], pin := [] }) (fun m => m ≤ x.arcs.length) (fun m => x.arcs.length - m) ⟨0, (by omega), (Wk.of rfl rfl (And.intro rfl (And.intro rfl (And.intro rfl (And.intro rfl (And.intro rfl (And.intro rfl (And.intro (vI (by first | rfl | omega | (simp; done) | (simp; omega))) trivial))))))) (And.intro (oR (by first | rfl | (exact metTo_yes (by omega) (by assumption)) | (exact congrArg (List.map _) (metTo_no (by omega) (by assumption))))) (And.intro rfl trivial)))⟩ (fun m hp1 => ?_)
  have hmt := metTo_len x k m
  refine T_seq ?_
  refine T_region hc ?_
  refine Ch.s (.d (.bool (decide (((m : Nat) : Int) < ((x.arcs.length : Nat) : Int))))) (.pure (.int _ _ _ _ _ rfl rfl rfl rfl)) ?_
  refine Ch.nil ?_
  refine T_seq ?_
  refine T_cond (b := (decide (((m : Nat) : Int) < ((x.arcs.length : Nat) : Int)))) rfl (fun h2 => ?_) (fun h2 => ?_)
  ·
   replace h2 := of_decide_eq_true h2
   try have hee := hen _ (getD_mem (l := x.arcs) (j := m) (d := default) (by omega))
   refine T_skip ?_
   refine T_seq ?_
   refine T_block ?_
   refine T_seq ?_
   refine T_region hc ?_
   refine Ch.s (.d (.ref (.agg [(.int .i64 ((x.arcs.getD m default).src)), (.int .i64 ((x.arcs.getD m default).sig)), (.bool ((x.arcs.getD m default).up)), (.int .i64 ((x.arcs.getD m default).dst))]))) (.pure (.idx _ _ _ 125 (m) rfl Tryz.underlying33 sz125 rfl rfl rfl get_mapA)) ?_
   refine Ch.s (.d (.agg [(.int .i64 ((x.arcs.getD m default).src)), (.int .i64 ((x.arcs.getD m default).sig)), (.bool ((x.arcs.getD m default).up)), (.int .i64 ((x.arcs.getD m default).dst))])) (.pure (.loadRefA _ _ rfl ag125 sz125 rfl)) ?_
   refine Ch.s (.ptr 5000 0) (.alloc 5000 _ rfl zer125) ?_
   refine Ch.s .junk (.storePtr _ _ _ rfl rfl rfl (.aggD _) sz125 (Nat.le_of_ble_eq_true rfl)) ?_
   refine Ch.nil ?_
   refine T_seq ?_
   refine T_region hc ?_
   refine Ch.s (.row 3) (.pure (.move _ rfl rfl)) ?_
   refine Ch.s (.ptr 5000 0) (.pure (.fldPtr _ _ _ rfl fld125_0 rfl)) ?_
   refine Ch.s (.d (.int .i64 ((x.arcs.getD m default).src))) (.pure (.loadPtr1 _ _ rfl ag3 rfl rfl rfl)) ?_
   refine Ch.s (.el 3 1 ((((x.arcs.getD m default).src)).toNat) 0) (.pure (.idxRow _ _ _ 4 ((((x.arcs.getD m default).src)).toNat) rfl Tryz.underlying146 sz4 rfl rfl rfl (by omega) (by first | omega | (simp only [List.length_map, List.length_set]; omega) | (simp; omega)))) ?_
   refine Ch.s (.d (.bool (((metTo x k m).getD ((((x.arcs.getD m default).src)).toNat) default)))) (.pure (.loadEl1 _ _ rfl ag4 rfl rfl get_mapA rfl rfl rfl)) ?_
   refine Ch.nil ?_
   refine T_cond (b := (((metTo x k m).getD ((((x.arcs.getD m default).src)).toNat) default))) rfl (fun h3 => ?_) (fun h3 => ?_)
   ·
    refine T_region hc ?_
    refine Ch.s (.row 3) (.pure (.move _ rfl rfl)) ?_
    refine Ch.s (.ptr 5000 3) (.pure (.fldPtr _ _ _ rfl fld125_3 rfl)) ?_
    refine Ch.s (.d (.int .i64 ((x.arcs.getD m default).dst))) (.pure (.loadPtr1 _ _ rfl ag3 rfl rfl rfl)) ?_
    refine Ch.s (.el 3 1 ((((x.arcs.getD m default).dst)).toNat) 0) (.pure (.idxRow _ _ _ 4 ((((x.arcs.getD m default).dst)).toNat) rfl Tryz.underlying146 sz4 rfl rfl rfl (by omega) (by first | omega | (simp only [List.length_map, List.length_set]; omega) | (simp; omega)))) ?_
    refine Ch.s .junk (.storeEl (y' := (.bool true)) _ _ _ rfl rfl rfl (.d _) rfl sz4 rfl get_mapA rfl rfl) ?_
    refine Ch.nil ?_
    refine T_region hc ?_
    refine Ch.s (.d (.int .i64 (((m : Nat) : Int) + 1))) (.pure (.int _ _ _ _ _ rfl rfl rfl intV_addA)) ?_
    refine Ch.s (.d (.int .i64 (((m : Nat) : Int) + 1))) (.pure (.move _ rfl rfl)) ?_
    refine Ch.nil ?_
    refine Exists.intro (m + 1) (And.intro (by omega) (And.intro (by first | omega | (dsimp only; omega)) (Wk.of rfl rfl (And.intro rfl (And.intro rfl (And.intro rfl (And.intro rfl (And.intro rfl (And.intro rfl (And.intro (vI (by first | rfl | omega | (simp; done) | (simp; omega))) trivial))))))) (And.intro (oR (by first | rfl | (exact metTo_yes (by omega) (by assumption)) | (exact congrArg (List.map _) (metTo_no (by omega) (by assumption))))) (And.intro rfl trivial)))))
   ·
    refine T_skip ?_
    refine T_region hc ?_
    refine Ch.s (.d (.int .i64 (((m : Nat) : Int) + 1))) (.pure (.int _ _ _ _ _ rfl rfl rfl intV_addA)) ?_
    refine Ch.s (.d (.int .i64 (((m : Nat) : Int) + 1))) (.pure (.move _ rfl rfl)) ?_
    refine Ch.nil ?_
    refine Exists.intro (m + 1) (And.intro (by omega) (And.intro (by first | omega | (dsimp only; omega)) (Wk.of rfl rfl (And.intro rfl (And.intro rfl (And.intro rfl (And.intro rfl (And.intro rfl (And.intro rfl (And.intro (vI (by first | rfl | omega | (simp; done) | (simp; omega))) trivial))))))) (And.intro (oR (by first | rfl | (exact metTo_yes (by omega) (by assumption)) | (exact congrArg (List.map _) (metTo_no (by omega) (by assumption))))) (And.intro rfl trivial)))))
  ·
   replace h2 := of_decide_eq_false h2
   try have hee := hen _ (getD_mem (l := x.arcs) (j := m) (d := default) (by omega))
   refine T_exit ?_
   refine T_region hc ?_
   refine Ch.s (.d (.int .i64 (((k : Nat) : Int) + 1))) (.pure (.int _ _ _ _ _ rfl rfl rfl intV_addA)) ?_
   refine Ch.s (.d (.int .i64 (((k : Nat) : Int) + 1))) (.pure (.move _ rfl rfl)) ?_
   refine Ch.nil ?_
   refine Exists.intro (k + 1) (And.intro (by omega) (And.intro (by first | omega | (dsimp only; omega)) (Wk.of rfl rfl (And.intro rfl (And.intro rfl (And.intro rfl (And.intro (vI (by first | rfl | omega | (simp; done) | (simp; omega))) trivial)))) (And.intro (oR (by first | (exact metIt_start x) | (rw [metTo_all x k (by omega)]; done))) (And.intro rfl trivial)))))
 ·
  replace h1 := of_decide_eq_false h1
  refine T_exit ?_
  refine T_seq ?_
  refine T_seq ?_
  refine T_region hc ?_
  refine Ch.s (.row 3) (.pure (.move _ rfl rfl)) ?_
  refine Ch.s (.d (.int .i64 (((metIt x k).length : Nat) : Int))) (.pure (.len _ _ 4 rfl Tryz.underlying146 (.row rfl) (by simp))) ?_
  refine Ch.s (.d (.int .i64 0)) (.pure (.move _ rfl rfl)) ?_
  refine Ch.nil ?_
  refine T_block ?_
  refine T_loop (ι := Nat) (fun m => { n := 46, sl := [(37, (.row 3)), (38, (.d (.int .i64 (((metIt x k).length : Nat) : Int)))), (39, (.d (.int .i64 ((m : Nat) : Int))))], hp := [(3, (some (.row 1 ((metIt x k).map D.bool))))], pin := [] }) (fun m => m ≤ x.codes.length ∧ ∀ j, j < m → (metIt x k).getD j default = true) (fun m => x.codes.length - m) ⟨0, ⟨by omega, fun j hj => by omega⟩, (Wk.of rfl rfl (And.intro rfl (And.intro rfl (And.intro (vI (by first | rfl | omega | (simp; done) | (simp; omega))) trivial))) (And.intro rfl trivial))⟩ (fun m hp2 => ?_)
  refine T_seq ?_
  refine T_region hc ?_
  refine Ch.s (.d (.bool (decide (((m : Nat) : Int) < (((metIt x k).length : Nat) : Int))))) (.pure (.int _ _ _ _ _ rfl rfl rfl rfl)) ?_
  refine Ch.nil ?_
  refine T_seq ?_
  refine T_cond (b := (decide (((m : Nat) : Int) < (((metIt x k).length : Nat) : Int)))) rfl (fun h4 => ?_) (fun h4 => ?_)
  ·
   replace h4 := of_decide_eq_true h4
   refine T_skip ?_
   refine T_seq ?_
   refine T_block ?_
   refine T_seq ?_
   refine T_region hc ?_
   refine Ch.s (.el 3 1 m 0) (.pure (.idxRow _ _ _ 4 (m) rfl Tryz.underlying146 sz4 rfl rfl rfl rfl (by first | omega | (simp only [List.length_map, List.length_set]; omega) | (simp; omega)))) ?_
   refine Ch.s (.d (.bool (((metIt x k).getD m default)))) (.pure (.loadEl1 _ _ rfl ag4 rfl rfl get_mapA rfl rfl rfl)) ?_
   refine Ch.s (.d (.bool (((metIt x k).getD m default)))) (.pure (.assign _ rfl rfl)) ?_
   refine Ch.nil ?_
   refine T_seq ?_
   refine T_region hc ?_
   refine Ch.s (.d (.bool (((metIt x k).getD m default)))) (.pure (.move _ rfl rfl)) ?_
   refine Ch.s (.d (.bool (!(((metIt x k).getD m default))))) (.pure (.not _ _ rfl rfl)) ?_
   refine Ch.nil ?_
   refine T_cond (b := (!(((metIt x k).getD m default)))) rfl (fun h5 => ?_) (fun h5 => ?_)
   ·
    replace h5 := nott h5
    refine T_seq ?_
    refine T_region hc ?_
    refine Ch.s (.d (.bool false)) (.pure (.assign _ rfl rfl)) ?_
    refine Ch.nil ?_
    refine T_ret ?_
    refine And.intro (.inr rfl) ?_
    exact Exists.intro [(.d (.bool false))] (Exists.intro [] (Exists.intro [] (And.intro (.cons (.tmp 2 rfl) .nil) (And.intro (.cons (.any _) .nil) (And.intro (Exp.of (congrArg D.bool (by first | (exact met_no hn hen (k := k) (by omega) m (by omega) (by assumption)) | (exact met_yes hn hen (k := k) (by omega) (fun j hj => hp2.2 j (by clear hp2; omega))) | (have hge : x.codes.length ≤ m := (by omega); exact met_yes hn hen (k := k) (by omega) (fun j hj => hp2.2 j (Nat.lt_of_lt_of_le hj hge))))) (.d _)) (And.intro rfl rfl))))))
   ·
    replace h5 := notf h5
    refine T_skip ?_
    refine T_region hc ?_
    refine Ch.s (.d (.int .i64 (((m : Nat) : Int) + 1))) (.pure (.int _ _ _ _ _ rfl rfl rfl intV_addA)) ?_
    refine Ch.s (.d (.int .i64 (((m : Nat) : Int) + 1))) (.pure (.move _ rfl rfl)) ?_
    refine Ch.nil ?_
    refine Exists.intro (m + 1) (And.intro ⟨by omega, upto_succ hp2.2 (by assumption)⟩ (And.intro (by first | omega | (dsimp only; omega)) (Wk.of rfl rfl (And.intro rfl (And.intro rfl (And.intro (vI (by first | rfl | omega | (simp; done) | (simp; omega))) trivial))) (And.intro rfl trivial))))
  ·
   replace h4 := of_decide_eq_false h4
   refine T_exit ?_
   refine T_seq ?_
   refine T_region hc ?_
   refine Ch.s (.d (.bool true)) (.pure (.assign _ rfl rfl)) ?_
   refine Ch.nil ?_
   refine T_ret ?_
   refine And.intro (.inr rfl) ?_
   exact Exists.intro [(.d (.bool true))] (Exists.intro [] (Exists.intro [] (And.intro (.cons (.tmp 2 rfl) .nil) (And.intro (.cons (.any _) .nil) (And.intro (Exp.of (congrArg D.bool (by first | (exact met_no hn hen (k := k) (by omega) m (by omega) (by assumption)) | (exact met_yes hn hen (k := k) (by omega) (fun j hj => hp2.2 j (by clear hp2; omega))) | (have hge : x.codes.length ≤ m := (by omega); exact met_yes hn hen (k := k) (by omega) (fun j hj => hp2.2 j (Nat.lt_of_lt_of_le hj hge))))) (.d _)) (And.intro rfl rfl))))))

set_option maxHeartbeats 2000000 in
theorem sp_spec_l5Good (x : Sgr) (hb : x.bulk ≤ 1048576) : Sp Tryz.prog 93 [(.agg [(.slice false 2 (x.sigs.map Sgn.d)), (.slice false 1 (x.codes.map D.str)), (.slice false 4 (x.arcs.map Arc.d))])] [.any] (.bool (sgB x)) := by
 refine Sp_intro (lend := true) Tryz.func93 rfl rfl rfl (fun _ => rfl) (fun c hc hX => ?_)
 obtain ⟨hp0, hp1, hp2⟩ := Sgr.parts hb
 have hn0 := bulkF_len hp0
 have hn1 := bulk_len hp1
 have hx1 := bulk_mem hp1
 have hn2 := bulkF_len hp2
 refine T_seq ?_
 refine T_region hc ?_
 refine Ch.s (.ptr 1000 0) (.box 1000 _ _ rfl (.aggD _)) ?_
 refine Ch.s (.d (.bool false)) (.pure (.assign _ rfl rfl)) ?_
 refine Ch.nil ?_
 refine T_seq ?_
 refine T_seq ?_
 refine T_region hc ?_
 refine Ch.s (.ptr 1000 0) (.pure (.fldPtr _ _ _ rfl fld35_0 rfl)) ?_
 refine Ch.s (.d (.slice false 2 (x.sigs.map Sgn.d))) (.pure (.loadPtr1 _ _ rfl ag32 rfl rfl rfl)) ?_
 refine Ch.s (.d (.bool (sigsB x.sigs))) (.call 9000 162 _ _ _ en162 rfl (.inl rfl) (.cons (.d _) .nil) rfl rfl (sp_spec_l2Signals x.sigs (by first | assumption | omega | (rw [List.length_take]; omega) | (have := bulkF_mem hb _ (getD_mem (d := default) (by omega)); assumption) | (unfold bulkS at *; omega) | (simp_all; done))) (.skip _ _ .nil) rfl) ?_
 refine Ch.s (.d (.bool (!(sigsB x.sigs)))) (.pure (.not _ _ rfl rfl)) ?_
 refine Ch.s (.d (.bool (!(sigsB x.sigs)))) (.pure (.move _ rfl rfl)) ?_
 cases h1 : (sigsB x.sigs) with
 | true =>
  try have hs8 := within_two (sigsB_len h1)
  refine Ch.s (.ptr 1000 1) (.pure (.fldPtr _ _ _ rfl fld35_1 rfl)) ?_
  refine Ch.s (.d (.slice false 1 (x.codes.map D.str))) (.pure (.loadPtr1 _ _ rfl ag23 rfl rfl rfl)) ?_
  refine Ch.s (.d (.int .i64 ((x.codes.length : Nat) : Int))) (.pure (.len _ _ 9 rfl Tryz.underlying23 (.sh _ _) (by simp))) ?_
  refine Ch.s (.d (.bool (withinB ((x.codes.length : Nat) : Int) 1 300))) (.call 15000 89 _ _ _ en89 rfl (.inl rfl) (.cons (.d _) (.cons (.d _) (.cons (.d _) .nil))) rfl rfl (sp_spec_l1In ((x.codes.length : Nat) : Int) 1 300) (.skip _ _ (.skip _ _ (.skip _ _ .nil))) rfl) ?_
  refine Ch.s (.d (.bool (!(withinB ((x.codes.length : Nat) : Int) 1 300)))) (.pure (.not _ _ rfl rfl)) ?_
  refine Ch.s (.d (.bool (!(withinB ((x.codes.length : Nat) : Int) 1 300)))) (.pure (.pickF _ _ _ rfl rfl rfl)) ?_
  refine Ch.s (.d (.bool (!(withinB ((x.codes.length : Nat) : Int) 1 300)))) (.pure (.move _ rfl rfl)) ?_
  cases h2 : (withinB ((x.codes.length : Nat) : Int) 1 300) with
  | true =>
   try have hw2 := within_two h2
   refine Ch.s (.ptr 1000 2) (.pure (.fldPtr _ _ _ rfl fld35_2 rfl)) ?_
   refine Ch.s (.d (.slice false 4 (x.arcs.map Arc.d))) (.pure (.loadPtr1 _ _ rfl ag33 rfl rfl rfl)) ?_
   refine Ch.s (.d (.int .i64 ((x.arcs.length : Nat) : Int))) (.pure (.len _ _ 125 rfl Tryz.underlying33 (.sh _ _) (by simp))) ?_
   refine Ch.s (.d (.bool (decide (4000 < ((x.arcs.length : Nat) : Int))))) (.pure (.int _ _ _ _ _ rfl rfl rfl rfl)) ?_
   refine Ch.s (.d (.bool (decide (4000 < ((x.arcs.length : Nat) : Int))))) (.pure (.pickF _ _ _ rfl rfl rfl)) ?_
   refine Ch.nil ?_
   refine T_cond (b := (decide (4000 < ((x.arcs.length : Nat) : Int)))) rfl (fun h3 => ?_) (fun h3 => ?_)
   ·
    replace h3 := of_decide_eq_true h3
    refine T_seq ?_
    refine T_region hc ?_
    refine Ch.s (.d (.bool false)) (.pure (.assign _ rfl rfl)) ?_
    refine Ch.nil ?_
    refine T_ret ?_
    refine And.intro (.inr rfl) ?_
    exact Exists.intro [(.d (.bool false))] (Exists.intro [] (Exists.intro [] (And.intro (.cons (.tmp 2 rfl) .nil) (And.intro (.cons (.any _) .nil) (And.intro (Exp.of (congrArg D.bool (by first | (rw [sgB, h1]; rfl) | (rw [sgB, h1, h2]; rfl) | (rw [sgB, h1, h2, decide_eq_true (by omega)]; rfl) | (exact (sg_no_code (k := k) (by omega) (by assumption)).symm) | (exact (sg_no_arc (k := m) (by omega) (by first | assumption | (unfold arcB codeAt; simp_all; done))).symm) | (rw [← sg_end h1 h2 (by omega) hcl hal]; done) | (exact sg_end h1 h2 (by omega) hcl hal))) (.d _)) (And.intro rfl rfl))))))
   ·
    replace h3 := of_decide_eq_false h3
    refine T_skip ?_
    refine T_seq ?_
    refine T_seq ?_
    refine T_region hc ?_
    refine Ch.s (.ptr 1000 1) (.pure (.fldPtr _ _ _ rfl fld35_1 rfl)) ?_
    refine Ch.s (.d (.slice false 1 (x.codes.map D.str))) (.pure (.loadPtr1 _ _ rfl ag23 rfl rfl rfl)) ?_
    refine Ch.s (.d (.int .i64 ((x.codes.length : Nat) : Int))) (.pure (.len _ _ 9 rfl Tryz.underlying23 (.sh _ _) (by simp))) ?_
    refine Ch.s (.d (.int .i64 0)) (.pure (.move _ rfl rfl)) ?_
    refine Ch.nil ?_
    refine T_block ?_
    refine T_loop (ι := Nat) (fun k => { n := 52, sl := [(1, (.ptr 1000 0)), (25, (.d (.slice false 1 (x.codes.map D.str)))), (26, (.d (.int .i64 ((x.codes.length : Nat) : Int)))), (27, (.d (.int .i64 ((k : Nat) : Int))))], hp := [(1000, (some (.box [(.d (.slice false 2 (x.sigs.map Sgn.d))), (.d (.slice false 1 (x.codes.map D.str))), (.d (.slice false 4 (x.arcs.map Arc.d)))])))], pin := [] }) (fun k => k ≤ x.codes.length ∧ ∀ j, j < k → codeN (x.codes.getD j default) (x.sigs.length : Int) = true) (fun k => x.codes.length - k) ⟨0, ⟨by omega, fun j hj => by omega⟩, (Wk.of rfl rfl (And.intro rfl (And.intro rfl (And.intro rfl (And.intro (vI (by first | rfl | omega | (simp; done) | (simp; omega))) trivial)))) (And.intro rfl trivial))⟩ (fun k hp0 => ?_)
    refine T_seq ?_
    refine T_region hc ?_
    refine Ch.s (.d (.bool (decide (((k : Nat) : Int) < ((x.codes.length : Nat) : Int))))) (.pure (.int _ _ _ _ _ rfl rfl rfl rfl)) ?_
    refine Ch.nil ?_
    refine T_seq ?_
    refine T_cond (b := (decide (((k : Nat) : Int) < ((x.codes.length : Nat) : Int)))) rfl (fun h4 => ?_) (fun h4 => ?_)
    ·
     replace h4 := of_decide_eq_true h4
     try have hcl := sg_codes (x := x) (k := k) (by omega) hp0.2
     try have hca := codes_at hcl
     refine T_skip ?_
     refine T_seq ?_
     refine T_block ?_
     refine T_seq ?_
     refine T_region hc ?_
     refine Ch.s (.d (.ref (.str (x.codes.getD k default)))) (.pure (.idx _ _ _ 9 (k) rfl Tryz.underlying23 sz9 rfl rfl rfl get_mapA)) ?_
     refine Ch.s (.d (.str (x.codes.getD k default))) (.pure (.loadRef1 _ _ rfl ag9 rfl rfl)) ?_
     refine Ch.s (.d (.str (x.codes.getD k default))) (.pure (.assign _ rfl rfl)) ?_
     refine Ch.nil ?_
     refine T_seq ?_
     refine T_region hc ?_
     refine Ch.s (.d (.str (x.codes.getD k default))) (.pure (.move _ rfl rfl)) ?_
     refine Ch.s (.ptr 1000 0) (.pure (.fldPtr _ _ _ rfl fld35_0 rfl)) ?_
     refine Ch.s (.d (.slice false 2 (x.sigs.map Sgn.d))) (.pure (.loadPtr1 _ _ rfl ag32 rfl rfl rfl)) ?_
     refine Ch.s (.d (.int .i64 ((x.sigs.length : Nat) : Int))) (.pure (.len _ _ 154 rfl Tryz.underlying32 (.sh _ _) (by simp))) ?_
     refine Ch.s (.d (.bool (codeN (x.codes.getD k default) ((x.sigs.length : Nat) : Int)))) (.call 35000 163 _ _ _ en163 rfl (.inl rfl) (.cons (.d _) (.cons (.d _) .nil)) rfl rfl (sp_spec_l5Code (x.codes.getD k default) ((x.sigs.length : Nat) : Int) (by first | omega | assumption | (exact hx _ (getD_mem (by omega))) | (exact hx _ (by assumption)) | (exact Nat.le_trans (hx _ (by assumption)) (by omega)) | (simp only [List.length_append, List.length_take, List.length_drop, List.length_cons, List.length_nil]; omega) | (simp_all; done))) (.skip _ _ (.skip _ _ .nil)) rfl) ?_
     refine Ch.s (.d (.bool (!(codeN (x.codes.getD k default) ((x.sigs.length : Nat) : Int))))) (.pure (.not _ _ rfl rfl)) ?_
     refine Ch.nil ?_
     refine T_cond (b := (!(codeN (x.codes.getD k default) ((x.sigs.length : Nat) : Int)))) rfl (fun h5 => ?_) (fun h5 => ?_)
     ·
      replace h5 := nott h5
      refine T_seq ?_
      refine T_region hc ?_
      refine Ch.s (.d (.bool false)) (.pure (.assign _ rfl rfl)) ?_
      refine Ch.nil ?_
      refine T_ret ?_
      refine And.intro (.inr rfl) ?_
      exact Exists.intro [(.d (.bool false))] (Exists.intro [] (Exists.intro [] (And.intro (.cons (.tmp 2 rfl) .nil) (And.intro (.cons (.any _) .nil) (And.intro (Exp.of (congrArg D.bool (by first | (rw [sgB, h1]; rfl) | (rw [sgB, h1, h2]; rfl) | (rw [sgB, h1, h2, decide_eq_true (by omega)]; rfl) | (exact (sg_no_code (k := k) (by omega) (by assumption)).symm) | (exact (sg_no_arc (k := m) (by omega) (by first | assumption | (unfold arcB codeAt; simp_all; done))).symm) | (rw [← sg_end h1 h2 (by omega) hcl hal]; done) | (exact sg_end h1 h2 (by omega) hcl hal))) (.d _)) (And.intro rfl rfl))))))
     ·
      replace h5 := notf h5
      refine T_skip ?_
      refine T_region hc ?_
      refine Ch.s (.d (.int .i64 (((k : Nat) : Int) + 1))) (.pure (.int _ _ _ _ _ rfl rfl rfl intV_addA)) ?_
      refine Ch.s (.d (.int .i64 (((k : Nat) : Int) + 1))) (.pure (.move _ rfl rfl)) ?_
      refine Ch.nil ?_
      refine Exists.intro (k + 1) (And.intro ⟨by omega, upto_succ hp0.2 (by assumption)⟩ (And.intro (by first | omega | (dsimp only; omega)) (Wk.of rfl rfl (And.intro rfl (And.intro rfl (And.intro rfl (And.intro (vI (by first | rfl | omega | (simp; done) | (simp; omega))) trivial)))) (And.intro rfl trivial))))
    ·
     replace h4 := of_decide_eq_false h4
     try have hcl := sg_codes (x := x) (k := k) (by omega) hp0.2
     try have hca := codes_at hcl
     refine T_exit ?_
     refine T_seq ?_
     refine T_seq ?_
     refine T_region hc ?_
     refine Ch.s (.ptr 1000 2) (.pure (.fldPtr _ _ _ rfl fld35_2 rfl)) ?_
     refine Ch.s (.d (.slice false 4 (x.arcs.map Arc.d))) (.pure (.loadPtr1 _ _ rfl ag33 rfl rfl rfl)) ?_
     refine Ch.s (.d (.int .i64 ((x.arcs.length : Nat) : Int))) (.pure (.len _ _ 125 rfl Tryz.underlying33 (.sh _ _) (by simp))) ?_
     refine Ch.s (.d (.int .i64 0)) (.pure (.move _ rfl rfl)) ?_
     refine Ch.nil ?_
     refine T_block ?_
     refine T_loop (ι := Nat) (fun m => { n := 52, sl := [(1, (.ptr 1000 0)), (39, (.d (.slice false 4 (x.arcs.map Arc.d)))), (40, (.d (.int .i64 ((x.arcs.length : Nat) : Int)))), (41, (.d (.int .i64 ((m : Nat) : Int))))], hp := [(1000, (some (.box [(.d (.slice false 2 (x.sigs.map Sgn.d))), (.d (.slice false 1 (x.codes.map D.str))), (.d (.slice false 4 (x.arcs.map Arc.d)))])))], pin := [] }) (fun m => m ≤ x.arcs.length ∧ ∀ j, j < m → arcB x (x.arcs.getD j default) = true) (fun m => x.arcs.length - m) ⟨0, ⟨by omega, fun j hj => by omega⟩, (Wk.of rfl rfl (And.intro rfl (And.intro rfl (And.intro rfl (And.intro (vI (by first | rfl | omega | (simp; done) | (simp; omega))) trivial)))) (And.intro rfl trivial))⟩ (fun m hp1 => ?_)
     refine T_seq ?_
     refine T_region hc ?_
     refine Ch.s (.d (.bool (decide (((m : Nat) : Int) < ((x.arcs.length : Nat) : Int))))) (.pure (.int _ _ _ _ _ rfl rfl rfl rfl)) ?_
     refine Ch.nil ?_
     refine T_seq ?_
     refine T_cond (b := (decide (((m : Nat) : Int) < ((x.arcs.length : Nat) : Int)))) rfl (fun h6 => ?_) (fun h6 => ?_)
     ·
      replace h6 := of_decide_eq_true h6
      try have hal := sg_arcs (x := x) (k := m) (by omega) hp1.2
      try have hen := arc_ends hal
      try have hse := steps_ends hen
      try have hsl := stepsOf_len x.arcs
      try have hdl := distF_len (n := x.codes.length) (s := 0) (by omega) hse
      refine T_skip ?_
      refine T_seq ?_
      refine T_block ?_
      refine T_seq ?_
      refine T_region hc ?_
      refine Ch.s (.d (.ref (.agg [(.int .i64 ((x.arcs.getD m default).src)), (.int .i64 ((x.arcs.getD m default).sig)), (.bool ((x.arcs.getD m default).up)), (.int .i64 ((x.arcs.getD m default).dst))]))) (.pure (.idx _ _ _ 125 (m) rfl Tryz.underlying33 sz125 rfl rfl rfl get_mapA)) ?_
      refine Ch.s (.d (.agg [(.int .i64 ((x.arcs.getD m default).src)), (.int .i64 ((x.arcs.getD m default).sig)), (.bool ((x.arcs.getD m default).up)), (.int .i64 ((x.arcs.getD m default).dst))])) (.pure (.loadRefA _ _ rfl ag125 sz125 rfl)) ?_
      refine Ch.s (.ptr 6000 0) (.alloc 6000 _ rfl zer125) ?_
      refine Ch.s .junk (.storePtr _ _ _ rfl rfl rfl (.aggD _) sz125 (Nat.le_of_ble_eq_true rfl)) ?_
      refine Ch.nil ?_
      refine T_seq ?_
      refine T_region hc ?_
      refine Ch.s (.agg [(.d (.slice false 2 (x.sigs.map Sgn.d))), (.d (.slice false 1 (x.codes.map D.str))), (.d (.slice false 4 (x.arcs.map Arc.d)))]) (.pure (.loadPtrA _ _ rfl ag35 sz35 rfl rfl (Nat.le_of_ble_eq_true rfl) rfl)) ?_
      refine Ch.s (.agg [(.d (.int .i64 ((x.arcs.getD m default).src))), (.d (.int .i64 ((x.arcs.getD m default).sig))), (.d (.bool ((x.arcs.getD m default).up))), (.d (.int .i64 ((x.arcs.getD m default).dst)))]) (.pure (.loadPtrA _ _ rfl ag125 sz125 rfl rfl (Nat.le_of_ble_eq_true rfl) rfl)) ?_
      refine Ch.s (.d (.bool (arcB x (x.arcs.getD m default)))) (.call 47000 164 _ _ _ en164 rfl (.inl rfl) (.cons (.lend (.agg (.cons (.d _) (.cons (.d _) (.cons (.d _) .nil))) rfl)) (.cons (.lend (.agg (.cons (.d _) (.cons (.d _) (.cons (.d _) (.cons (.d _) .nil)))) rfl)) .nil)) rfl rfl (sp_spec_l5Arc x (x.arcs.getD m default) (by first | assumption | omega | (rw [List.length_take]; omega) | (have := bulkF_mem hb _ (getD_mem (d := default) (by omega)); assumption) | (unfold bulkS at *; omega) | (simp_all; done)) (by first | assumption | omega | (rw [List.length_take]; omega) | (have := bulkF_mem hb _ (getD_mem (d := default) (by omega)); assumption) | (unfold bulkS at *; omega) | (simp_all; done)) (by assumption)) (.skip _ _ (.skip _ _ .nil)) rfl) ?_
      refine Ch.s (.d (.bool (!(arcB x (x.arcs.getD m default))))) (.pure (.not _ _ rfl rfl)) ?_
      refine Ch.nil ?_
      refine T_cond (b := (!(arcB x (x.arcs.getD m default)))) rfl (fun h7 => ?_) (fun h7 => ?_)
      ·
       replace h7 := nott h7
       refine T_seq ?_
       refine T_region hc ?_
       refine Ch.s (.d (.bool false)) (.pure (.assign _ rfl rfl)) ?_
       refine Ch.nil ?_
       refine T_ret ?_
       refine And.intro (.inr rfl) ?_
       exact Exists.intro [(.d (.bool false))] (Exists.intro [] (Exists.intro [] (And.intro (.cons (.tmp 2 rfl) .nil) (And.intro (.cons (.any _) .nil) (And.intro (Exp.of (congrArg D.bool (by first | (rw [sgB, h1]; rfl) | (rw [sgB, h1, h2]; rfl) | (rw [sgB, h1, h2, decide_eq_true (by omega)]; rfl) | (exact (sg_no_code (k := k) (by omega) (by assumption)).symm) | (exact (sg_no_arc (k := m) (by omega) (by first | assumption | (unfold arcB codeAt; simp_all; done))).symm) | (rw [← sg_end h1 h2 (by omega) hcl hal]; done) | (exact sg_end h1 h2 (by omega) hcl hal))) (.d _)) (And.intro rfl rfl))))))
      ·
       replace h7 := notf h7
       refine T_skip ?_
       refine T_region hc ?_
       refine Ch.s (.d (.int .i64 (((m : Nat) : Int) + 1))) (.pure (.int _ _ _ _ _ rfl rfl rfl intV_addA)) ?_
       refine Ch.s (.d (.int .i64 (((m : Nat) : Int) + 1))) (.pure (.move _ rfl rfl)) ?_
       refine Ch.nil ?_
       refine Exists.intro (m + 1) (And.intro ⟨by omega, upto_succ hp1.2 (by first | assumption | (unfold arcB codeAt; simp_all; done))⟩ (And.intro (by first | omega | (dsimp only; omega)) (Wk.of rfl rfl (And.intro rfl (And.intro rfl (And.intro rfl (And.intro (vI (by first | rfl | omega | (simp; done) | (simp; omega))) trivial)))) (And.intro rfl trivial))))
     ·
      replace h6 := of_decide_eq_false h6
      try have hal := sg_arcs (x := x) (k := m) (by omega) hp1.2
      try have hen := arc_ends hal
      try have hse := steps_ends hen
      try have hsl := stepsOf_len x.arcs
      try have hdl := distF_len (n := x.codes.length) (s := 0) (by omega) hse
      refine T_exit ?_
      refine T_seq ?_
      refine T_region hc ?_
      refine Ch.s (.agg [(.d (.slice false 2 (x.sigs.map Sgn.d))), (.d (.slice false 1 (x.codes.map D.str))), (.d (.slice false 4 (x.arcs.map Arc.d)))]) (.pure (.loadPtrA _ _ rfl ag35 sz35 rfl rfl (Nat.le_of_ble_eq_true rfl) rfl)) ?_
      refine Ch.s (.d (.bool (!hasI (distF x.codes.length (stepsOf x.arcs) 0) (-1)))) (.call 51000 165 _ _ _ en165 rfl (.inl rfl) (.cons (.lend (.agg (.cons (.d _) (.cons (.d _) (.cons (.d _) .nil))) rfl)) .nil) rfl rfl (sp_spec_l5All x (by first | assumption | omega | (rw [List.length_take]; omega) | (have := bulkF_mem hb _ (getD_mem (d := default) (by omega)); assumption) | (unfold bulkS at *; omega) | (simp_all; done)) (by first | assumption | omega | (rw [List.length_take]; omega) | (have := bulkF_mem hb _ (getD_mem (d := default) (by omega)); assumption) | (unfold bulkS at *; omega) | (simp_all; done)) (by assumption)) (.skip _ _ .nil) rfl) ?_
      refine Ch.s (.d (.bool (!hasI (distF x.codes.length (stepsOf x.arcs) 0) (-1)))) (.pure (.assign _ rfl rfl)) ?_
      refine Ch.nil ?_
      refine T_ret ?_
      refine And.intro (.inr rfl) ?_
      exact Exists.intro [(.d (.bool (!hasI (distF x.codes.length (stepsOf x.arcs) 0) (-1))))] (Exists.intro [] (Exists.intro [] (And.intro (.cons (.tmp 2 rfl) .nil) (And.intro (.cons (.any _) .nil) (And.intro (Exp.of (congrArg D.bool (by first | (rw [sgB, h1]; rfl) | (rw [sgB, h1, h2]; rfl) | (rw [sgB, h1, h2, decide_eq_true (by omega)]; rfl) | (exact (sg_no_code (k := k) (by omega) (by assumption)).symm) | (exact (sg_no_arc (k := m) (by omega) (by first | assumption | (unfold arcB codeAt; simp_all; done))).symm) | (rw [← sg_end h1 h2 (by omega) hcl hal]; done) | (exact sg_end h1 h2 (by omega) hcl hal))) (.d _)) (And.intro rfl rfl))))))
  | false =>
   try have hw2 := within_two h2
   refine Ch.skip rfl rfl ?_
   refine Ch.skip rfl rfl ?_
   refine Ch.skip rfl rfl ?_
   refine Ch.skip rfl rfl ?_
   refine Ch.s (.d (.bool true)) (.pure (.pickT _ _ _ rfl rfl rfl)) ?_
   refine Ch.nil ?_
   refine T_cond (b := true) rfl (fun _ => ?_) (fun h => nomatch h)
   refine T_seq ?_
   refine T_region hc ?_
   refine Ch.s (.d (.bool false)) (.pure (.assign _ rfl rfl)) ?_
   refine Ch.nil ?_
   refine T_ret ?_
   refine And.intro (.inr rfl) ?_
   exact Exists.intro [(.d (.bool false))] (Exists.intro [] (Exists.intro [] (And.intro (.cons (.tmp 2 rfl) .nil) (And.intro (.cons (.any _) .nil) (And.intro (Exp.of (congrArg D.bool (by first | (rw [sgB, h1]; rfl) | (rw [sgB, h1, h2]; rfl) | (rw [sgB, h1, h2, decide_eq_true (by omega)]; rfl) | (exact (sg_no_code (k := k) (by omega) (by assumption)).symm) | (exact (sg_no_arc (k := m) (by omega) (by first | assumption | (unfold arcB codeAt; simp_all; done))).symm) | (rw [← sg_end h1 h2 (by omega) hcl hal]; done) | (exact sg_end h1 h2 (by omega) hcl hal))) (.d _)) (And.intro rfl rfl))))))
 | false =>
  try have hs8 := within_two (sigsB_len h1)
  refine Ch.skip rfl rfl ?_
  refine Ch.skip rfl rfl ?_
  refine Ch.skip rfl rfl ?_
  refine Ch.skip rfl rfl ?_
  refine Ch.skip rfl rfl ?_
  refine Ch.s (.d (.bool true)) (.pure (.pickT _ _ _ rfl rfl rfl)) ?_
  refine Ch.s (.d (.bool true)) (.pure (.move _ rfl rfl)) ?_
  refine Ch.skip rfl rfl ?_
  refine Ch.skip rfl rfl ?_
  refine Ch.skip rfl rfl ?_
  refine Ch.skip rfl rfl ?_
  refine Ch.s (.d (.bool true)) (.pure (.pickT _ _ _ rfl rfl rfl)) ?_
  refine Ch.nil ?_
  refine T_cond (b := true) rfl (fun _ => ?_) (fun h => nomatch h)
  refine T_seq ?_
  refine T_region hc ?_
  refine Ch.s (.d (.bool false)) (.pure (.assign _ rfl rfl)) ?_
  refine Ch.nil ?_
  refine T_ret ?_
  refine And.intro (.inr rfl) ?_
  exact Exists.intro [(.d (.bool false))] (Exists.intro [] (Exists.intro [] (And.intro (.cons (.tmp 2 rfl) .nil) (And.intro (.cons (.any _) .nil) (And.intro (Exp.of (congrArg D.bool (by first | (rw [sgB, h1]; rfl) | (rw [sgB, h1, h2]; rfl) | (rw [sgB, h1, h2, decide_eq_true (by omega)]; rfl) | (exact (sg_no_code (k := k) (by omega) (by assumption)).symm) | (exact (sg_no_arc (k := m) (by omega) (by first | assumption | (unfold arcB codeAt; simp_all; done))).symm) | (rw [← sg_end h1 h2 (by omega) hcl hal]; done) | (exact sg_end h1 h2 (by omega) hcl hal))) (.d _)) (And.intro rfl rfl))))))

theorem en120 : Enters Tryz.prog 120 := ⟨_, Tryz.func120, by kernel_rfl, rfl⟩

theorem en208 : Enters Tryz.prog 208 := ⟨_, Tryz.func208, by kernel_rfl, rfl⟩

theorem en207 : Enters Tryz.prog 207 := ⟨_, Tryz.func207, by kernel_rfl, rfl⟩

structure SgOk (x : Sgr) : Prop where
  sigs : sigsB x.sigs = true
  eight : 1 ≤ x.sigs.length ∧ x.sigs.length ≤ 8
  len : 1 ≤ x.codes.length ∧ x.codes.length ≤ 300
  few : x.arcs.length ≤ 4000
  codes : allOf x.codes (fun u => codeN u (x.sigs.length : Int)) = true
  arcs : allOf x.arcs (arcB x) = true
  ends : ends x.codes.length x.arcs

theorem sg_has {x : Sgr} (h : sgB x = true) : SgOk x := by
  unfold sgB at h
  simp only [Bool.and_eq_true] at h
  obtain ⟨h1, h2, h3, h4, h5, _⟩ := h
  have h6 := within_two h2
  have h7 := within_two (sigsB_len h1)
  have h8 : ¬ (4000 : Int) < (x.arcs.length : Int) := by simpa using h3
  exact ⟨h1, by omega, by omega, by omega, h4, h5, arc_ends h5⟩

theorem SgOk.sig {x : Sgr} (h : SgOk x) : ∀ a ∈ x.arcs, a.sig < (x.sigs.length : Int) ∧ (0 ≤ a.sig ∨ a.sig = -1) := by
  intro a ha
  obtain ⟨j, hj, rfl⟩ := List.mem_iff_getElem.1 ha
  have := allB_true.1 h.arcs j hj
  rw [show x.arcs.getD j default = x.arcs[j] by simp [hj]] at this
  unfold arcB at this
  simp only [Bool.and_eq_true] at this
  have h2 := this.2.2.1
  unfold edgeB at h2
  simp only [Bool.or_eq_true, Bool.and_eq_true, decide_eq_true_iff] at h2
  have h8 := h.eight
  rcases h2 with h2 | h2
  · have := within_two h2
    omega
  · have := h2.1
    omega

def hasSigB (x : Sgr) (sig : Int) : Bool := sgB x && withinB sig 0 ((x.sigs.length : Int) - 1)

theorem has_sig {x : Sgr} {sig : Int} (h : hasSigB x sig = true) : sgB x = true ∧ (0 ≤ sig ∧ sig.toNat < x.sigs.length) := by
  unfold hasSigB at h
  rw [Bool.and_eq_true] at h
  have := within_two h.2
  exact ⟨h.1, by omega, by omega⟩

def isArc (k sig : Int) (a : Arc) : Bool := decide (a.src = k) && decide (a.sig = sig)

def excB (x : Sgr) (k sig : Int) : Bool := x.arcs.any (isArc k sig)

theorem sp_impl_hasSignal (x : Sgr) (sig : Int) (hb : x.bulk ≤ 1048576) : Sp Tryz.prog 206 [(.agg [(.slice false 2 (x.sigs.map Sgn.d)), (.slice false 1 (x.codes.map D.str)), (.slice false 4 (x.arcs.map Arc.d))]), (.int .i64 sig)] [.any, .any] (.bool (hasSigB x sig)) := by
 refine Sp_intro (lend := true) Tryz.func206 rfl rfl rfl (fun _ => rfl) (fun c hc hX => ?_)
 obtain ⟨hp0, hp1, hp2⟩ := Sgr.parts hb
 have hn0 := bulkF_len hp0
 have hn1 := bulk_len hp1
 have hx1 := bulk_mem hp1
 have hn2 := bulkF_len hp2
 refine T_seq ?_
 refine T_region hc ?_
 refine Ch.s (.ptr 2000 0) (.box 2000 _ _ rfl (.aggD _)) ?_
 refine Ch.s (.d (.bool false)) (.pure (.assign _ rfl rfl)) ?_
 refine Ch.nil ?_
 refine T_seq ?_
 refine T_region hc ?_
 refine Ch.s (.agg [(.d (.slice false 2 (x.sigs.map Sgn.d))), (.d (.slice false 1 (x.codes.map D.str))), (.d (.slice false 4 (x.arcs.map Arc.d)))]) (.pure (.loadPtrA _ _ rfl ag35 sz35 rfl rfl (Nat.le_of_ble_eq_true rfl) rfl)) ?_
 refine Ch.s (.d (.bool (sgB x))) (.call 6000 120 _ _ _ en120 rfl (.inl rfl) (.cons (.lend (.agg (.cons (.d _) (.cons (.d _) (.cons (.d _) .nil))) rfl)) .nil) rfl rfl (sp_impl_IsValidStateGraph x (by first | assumption | omega | (rw [List.length_take]; omega) | (have := bulkF_mem hb _ (getD_mem (d := default) (by omega)); assumption) | (unfold bulkS at *; omega) | (simp_all; done))) (.skip _ _ .nil) rfl) ?_
 refine Ch.s (.d (.bool (sgB x))) (.pure (.move _ rfl rfl)) ?_
 cases h1 : (sgB x) with
 | true =>
  refine Ch.s (.d (.int .i64 sig)) (.pure (.move _ rfl rfl)) ?_
  refine Ch.s (.ptr 2000 0) (.pure (.fldPtr _ _ _ rfl fld35_0 rfl)) ?_
  refine Ch.s (.d (.slice false 2 (x.sigs.map Sgn.d))) (.pure (.loadPtr1 _ _ rfl ag32 rfl rfl rfl)) ?_
  refine Ch.s (.d (.int .i64 ((x.sigs.length : Nat) : Int))) (.pure (.len _ _ 154 rfl Tryz.underlying32 (.sh _ _) (by simp))) ?_
  refine Ch.s (.d (.int .i64 (((x.sigs.length : Nat) : Int) - 1))) (.pure (.int _ _ _ _ _ rfl rfl rfl intV_subA)) ?_
  refine Ch.s (.d (.bool (withinB sig 0 (((x.sigs.length : Nat) : Int) - 1)))) (.call 13000 91 _ _ _ en91 rfl (.inl rfl) (.cons (.d _) (.cons (.d _) (.cons (.d _) .nil))) rfl rfl (sp_impl_within sig 0 (((x.sigs.length : Nat) : Int) - 1)) (.skip _ _ (.skip _ _ (.skip _ _ .nil))) rfl) ?_
  refine Ch.s (.d (.bool (withinB sig 0 (((x.sigs.length : Nat) : Int) - 1)))) (.pure (.pickT _ _ _ rfl rfl rfl)) ?_
  refine Ch.s (.d (.bool (withinB sig 0 (((x.sigs.length : Nat) : Int) - 1)))) (.pure (.assign _ rfl rfl)) ?_
  refine Ch.nil ?_
  refine T_ret ?_
  refine And.intro (.inr rfl) ?_
  exact Exists.intro [(.d (.bool (withinB sig 0 (((x.sigs.length : Nat) : Int) - 1))))] (Exists.intro [] (Exists.intro [] (And.intro (.cons (.tmp 4 rfl) .nil) (And.intro (.cons (.any _) (.cons (.any _) .nil)) (And.intro (Exp.of (congrArg D.bool (by first | (rw [hasSigB, h1]; rfl) | (simp_all [hasSigB]; done))) (.d _)) (And.intro rfl rfl))))))
 | false =>
  refine Ch.skip rfl rfl ?_
  refine Ch.skip rfl rfl ?_
  refine Ch.skip rfl rfl ?_
  refine Ch.skip rfl rfl ?_
  refine Ch.skip rfl rfl ?_
  refine Ch.skip rfl rfl ?_
  refine Ch.s (.d (.bool false)) (.pure (.pickF _ _ _ rfl rfl rfl)) ?_
  refine Ch.s (.d (.bool false)) (.pure (.assign _ rfl rfl)) ?_
  refine Ch.nil ?_
  refine T_ret ?_
  refine And.intro (.inr rfl) ?_
  exact Exists.intro [(.d (.bool false))] (Exists.intro [] (Exists.intro [] (And.intro (.cons (.tmp 4 rfl) .nil) (And.intro (.cons (.any _) (.cons (.any _) .nil)) (And.intro (Exp.of (congrArg D.bool (by first | (rw [hasSigB, h1]; rfl) | (simp_all [hasSigB]; done))) (.d _)) (And.intro rfl rfl))))))

theorem sp_impl_isExcited_1 (a : Arc) (k sig : Int) : Sp Tryz.prog 208 [(.agg [(.int .i64 a.src), (.int .i64 a.sig), (.bool (a.up)), (.int .i64 a.dst)]), (.ref (.int .i64 k)), (.ref (.int .i64 sig))] [.any, .any, .any] (.bool (isArc k sig a)) := by
 refine Sp_intro (lend := true) Tryz.func208 rfl rfl rfl (fun _ => rfl) (fun c hc hX => ?_)
 refine T_seq ?_
 refine T_region hc ?_
 refine Ch.s (.ptr 3000 0) (.box 3000 _ _ rfl (.aggD _)) ?_
 refine Ch.s (.d (.bool false)) (.pure (.assign _ rfl rfl)) ?_
 refine Ch.nil ?_
 refine T_seq ?_
 refine T_region hc ?_
 refine Ch.s (.ptr 3000 0) (.pure (.fldPtr _ _ _ rfl fld125_0 rfl)) ?_
 refine Ch.s (.d (.int .i64 a.src)) (.pure (.loadPtr1 _ _ rfl ag3 rfl rfl rfl)) ?_
 refine Ch.s (.d (.int .i64 k)) (.pure (.loadRef1 _ _ rfl ag3 rfl rfl)) ?_
 refine Ch.s (.d (.bool (decide (a.src = k)))) (.pure (.int _ _ _ _ _ rfl rfl rfl rfl)) ?_
 refine Ch.s (.d (.bool (decide (a.src = k)))) (.pure (.move _ rfl rfl)) ?_
 cases h1 : (decide (a.src = k)) with
 | true =>
  replace h1 := of_decide_eq_true h1
  refine Ch.s (.ptr 3000 1) (.pure (.fldPtr _ _ _ rfl fld125_1 rfl)) ?_
  refine Ch.s (.d (.int .i64 a.sig)) (.pure (.loadPtr1 _ _ rfl ag3 rfl rfl rfl)) ?_
  refine Ch.s (.d (.int .i64 sig)) (.pure (.loadRef1 _ _ rfl ag3 rfl rfl)) ?_
  refine Ch.s (.d (.bool (decide (a.sig = sig)))) (.pure (.int _ _ _ _ _ rfl rfl rfl rfl)) ?_
  refine Ch.s (.d (.bool (decide (a.sig = sig)))) (.pure (.pickT _ _ _ rfl rfl rfl)) ?_
  refine Ch.s (.d (.bool (decide (a.sig = sig)))) (.pure (.assign _ rfl rfl)) ?_
  refine Ch.nil ?_
  refine T_ret ?_
  refine And.intro (.inr rfl) ?_
  exact Exists.intro [(.d (.bool (decide (a.sig = sig))))] (Exists.intro [] (Exists.intro [] (And.intro (.cons (.tmp 4 rfl) .nil) (And.intro (.cons (.any _) (.cons (.any _) (.cons (.any _) .nil))) (And.intro (Exp.of (congrArg D.bool (by first | (simp only [isArc, *, decide_true, decide_false, Bool.and_true, Bool.true_and, Bool.and_false, Bool.false_and, Bool.or_false, Bool.false_or, Bool.or_true, Bool.true_or, Bool.not_true, Bool.not_false, not_false_eq_true, Bool.false_eq_true, if_true, if_false, reduceIte, ite_true, ite_false]; done) | (simp_all [isArc]; done))) (.d _)) (And.intro rfl rfl))))))
 | false =>
  replace h1 := of_decide_eq_false h1
  refine Ch.skip rfl rfl ?_
  refine Ch.skip rfl rfl ?_
  refine Ch.skip rfl rfl ?_
  refine Ch.skip rfl rfl ?_
  refine Ch.s (.d (.bool false)) (.pure (.pickF _ _ _ rfl rfl rfl)) ?_
  refine Ch.s (.d (.bool false)) (.pure (.assign _ rfl rfl)) ?_
  refine Ch.nil ?_
  refine T_ret ?_
  refine And.intro (.inr rfl) ?_
  exact Exists.intro [(.d (.bool false))] (Exists.intro [] (Exists.intro [] (And.intro (.cons (.tmp 4 rfl) .nil) (And.intro (.cons (.any _) (.cons (.any _) (.cons (.any _) .nil))) (And.intro (Exp.of (congrArg D.bool (by first | (simp only [isArc, *, decide_true, decide_false, Bool.and_true, Bool.true_and, Bool.and_false, Bool.false_and, Bool.or_false, Bool.false_or, Bool.or_true, Bool.true_or, Bool.not_true, Bool.not_false, not_false_eq_true, Bool.false_eq_true, if_true, if_false, reduceIte, ite_true, ite_false]; done) | (simp_all [isArc]; done))) (.d _)) (And.intro rfl rfl))))))

theorem sp_impl_isExcited (x : Sgr) (k sig : Int) (hb : x.bulk ≤ 1048576) : Sp Tryz.prog 141 [(.agg [(.slice false 2 (x.sigs.map Sgn.d)), (.slice false 1 (x.codes.map D.str)), (.slice false 4 (x.arcs.map Arc.d))]), (.int .i64 k), (.int .i64 sig)] [.any, .any, .any] (.bool (excB x k sig)) := by
 refine Sp_intro (lend := true) Tryz.func141 rfl rfl rfl (fun _ => rfl) (fun c hc hX => ?_)
 obtain ⟨hp0, hp1, hp2⟩ := Sgr.parts hb
 have hn0 := bulkF_len hp0
 have hn1 := bulk_len hp1
 have hx1 := bulk_mem hp1
 have hn2 := bulkF_len hp2
 refine T_seq ?_
 refine T_region hc ?_
 refine Ch.s (.ptr 3000 0) (.box 3000 _ _ rfl (.aggD _)) ?_
 refine Ch.s (.ptr 4000 0) (.box 4000 _ _ rfl (.one _ rfl)) ?_
 refine Ch.s (.ptr 5000 0) (.box 5000 _ _ rfl (.one _ rfl)) ?_
 refine Ch.s (.d (.bool false)) (.pure (.assign _ rfl rfl)) ?_
 refine Ch.nil ?_
 refine T_seq ?_
 refine T_region hc ?_
 refine Ch.s (.ptr 3000 2) (.pure (.fldPtr _ _ _ rfl fld35_2 rfl)) ?_
 refine Ch.s (.d (.slice false 4 (x.arcs.map Arc.d))) (.pure (.loadPtr1 _ _ rfl ag33 rfl rfl rfl)) ?_
 refine Ch.s (.fn 208 [(.ptr 4000 0), (.ptr 5000 0)]) (.pure (.func _ _ rfl rfl)) ?_
 refine Ch.s (.d (.bool (x.arcs.any (isArc k sig)))) (.call 10000 207 _ _ _ en207 rfl (.inl rfl) (.cons (.d _) (.cons (.lend (.fn (.cons (.ptr rfl (.one (.d _) rfl)) (.cons (.ptr rfl (.one (.d _) rfl)) .nil)))) .nil)) rfl rfl (sp_ContainsFunc_arc x.arcs 208 [(.ref (.int .i64 k)), (.ref (.int .i64 sig))] (isArc k sig) en208 (fun a ha => sp_impl_isExcited_1 a k sig) (by first | omega | assumption | (exact hx _ (getD_mem (by omega))) | (exact hx _ (by assumption)) | (exact Nat.le_trans (hx _ (by assumption)) (by omega)) | (simp only [List.length_append, List.length_take, List.length_drop, List.length_cons, List.length_nil]; omega) | (simp_all; done))) (.skip _ _ (.skip _ _ .nil)) rfl) ?_
 refine Ch.s (.d (.bool (x.arcs.any (isArc k sig)))) (.pure (.assign _ rfl rfl)) ?_
 refine Ch.nil ?_
 refine T_ret ?_
 refine And.intro (.inr rfl) ?_
 exact Exists.intro [(.d (.bool (x.arcs.any (isArc k sig))))] (Exists.intro [] (Exists.intro [] (And.intro (.cons (.tmp 6 rfl) .nil) (And.intro (.cons (.any _) (.cons (.any _) (.cons (.any _) .nil))) (And.intro (Exp.of (congrArg D.bool (by rfl)) (.d _)) (And.intro rfl rfl))))))

theorem sp_spec_l5Excited (x : Sgr) (k sig : Int) (hb : x.bulk ≤ 1048576) : Sp Tryz.prog 158 [(.agg [(.slice false 2 (x.sigs.map Sgn.d)), (.slice false 1 (x.codes.map D.str)), (.slice false 4 (x.arcs.map Arc.d))]), (.int .i64 k), (.int .i64 sig)] [.any, .any, .any] (.bool (excB x k sig)) := by
 refine Sp_intro (lend := true) Tryz.func158 rfl rfl rfl (fun _ => rfl) (fun c hc hX => ?_)
 obtain ⟨hp0, hp1, hp2⟩ := Sgr.parts hb
 have hn0 := bulkF_len hp0
 have hn1 := bulk_len hp1
 have hx1 := bulk_mem hp1
 have hn2 := bulkF_len hp2
 refine T_seq ?_
 refine T_region hc ?_
 refine Ch.s (.ptr 3000 0) (.box 3000 _ _ rfl (.aggD _)) ?_
 refine Ch.s (.d (.bool false)) (.pure (.assign _ rfl rfl)) ?_
 refine Ch.nil ?_
 refine T_seq ?_
 refine T_seq ?_
 refine T_region hc ?_
 refine Ch.s (.ptr 3000 2) (.pure (.fldPtr _ _ _ rfl fld35_2 rfl)) ?_
 refine Ch.s (.d (.slice false 4 (x.arcs.map Arc.d))) (.pure (.loadPtr1 _ _ rfl ag33 rfl rfl rfl)) ?_
 refine Ch.s (.d (.int .i64 ((x.arcs.length : Nat) : Int))) (.pure (.len _ _ 125 rfl Tryz.underlying33 (.sh _ _) (by simp))) ?_
 refine Ch.s (.d (.int .i64 0)) (.pure (.move _ rfl rfl)) ?_
 refine Ch.nil ?_
 refine T_block ?_
 refine T_loop (ι := Nat) (fun m => { n := 27, sl := [(1, (.d (.int .i64 k))), (2, (.d (.int .i64 sig))), (10, (.d (.slice false 4 (x.arcs.map Arc.d)))), (11, (.d (.int .i64 ((x.arcs.length : Nat) : Int)))), (12, (.d (.int .i64 ((m : Nat) : Int))))], hp := [], pin := [] }) (fun m => m ≤ x.arcs.length ∧ ∀ j, j < m → isArc k sig (x.arcs.getD j default) = false) (fun m => x.arcs.length - m) ⟨0, ⟨by omega, fun j hj => by omega⟩, (Wk.of rfl rfl (And.intro rfl (And.intro rfl (And.intro rfl (And.intro rfl (And.intro (vI (by first | rfl | omega | (simp; done) | (simp; omega))) trivial))))) trivial)⟩ (fun m hp0 => ?_)
 refine T_seq ?_
 refine T_region hc ?_
 refine Ch.s (.d (.bool (decide (((m : Nat) : Int) < ((x.arcs.length : Nat) : Int))))) (.pure (.int _ _ _ _ _ rfl rfl rfl rfl)) ?_
 refine Ch.nil ?_
 refine T_seq ?_
 refine T_cond (b := (decide (((m : Nat) : Int) < ((x.arcs.length : Nat) : Int)))) rfl (fun h1 => ?_) (fun h1 => ?_)
 ·
  replace h1 := of_decide_eq_true h1
  refine T_skip ?_
  refine T_seq ?_
  refine T_block ?_
  refine T_seq ?_
  refine T_region hc ?_
  refine Ch.s (.d (.ref (.agg [(.int .i64 ((x.arcs.getD m default).src)), (.int .i64 ((x.arcs.getD m default).sig)), (.bool ((x.arcs.getD m default).up)), (.int .i64 ((x.arcs.getD m default).dst))]))) (.pure (.idx _ _ _ 125 (m) rfl Tryz.underlying33 sz125 rfl rfl rfl get_mapA)) ?_
  refine Ch.s (.d (.agg [(.int .i64 ((x.arcs.getD m default).src)), (.int .i64 ((x.arcs.getD m default).sig)), (.bool ((x.arcs.getD m default).up)), (.int .i64 ((x.arcs.getD m default).dst))])) (.pure (.loadRefA _ _ rfl ag125 sz125 rfl)) ?_
  refine Ch.s (.ptr 8000 0) (.alloc 8000 _ rfl zer125) ?_
  refine Ch.s .junk (.storePtr _ _ _ rfl rfl rfl (.aggD _) sz125 (Nat.le_of_ble_eq_true rfl)) ?_
  refine Ch.nil ?_
  refine T_seq ?_
  refine T_region hc ?_
  refine Ch.s (.ptr 8000 0) (.pure (.fldPtr _ _ _ rfl fld125_0 rfl)) ?_
  refine Ch.s (.d (.int .i64 ((x.arcs.getD m default).src))) (.pure (.loadPtr1 _ _ rfl ag3 rfl rfl rfl)) ?_
  refine Ch.s (.d (.int .i64 k)) (.pure (.move _ rfl rfl)) ?_
  refine Ch.s (.d (.bool (decide (((x.arcs.getD m default).src) = k)))) (.pure (.int _ _ _ _ _ rfl rfl rfl rfl)) ?_
  refine Ch.s (.d (.bool (decide (((x.arcs.getD m default).src) = k)))) (.pure (.move _ rfl rfl)) ?_
  cases h2 : (decide (((x.arcs.getD m default).src) = k)) with
  | true =>
   replace h2 := of_decide_eq_true h2
   refine Ch.s (.ptr 8000 1) (.pure (.fldPtr _ _ _ rfl fld125_1 rfl)) ?_
   refine Ch.s (.d (.int .i64 ((x.arcs.getD m default).sig))) (.pure (.loadPtr1 _ _ rfl ag3 rfl rfl rfl)) ?_
   refine Ch.s (.d (.int .i64 sig)) (.pure (.move _ rfl rfl)) ?_
   refine Ch.s (.d (.bool (decide (((x.arcs.getD m default).sig) = sig)))) (.pure (.int _ _ _ _ _ rfl rfl rfl rfl)) ?_
   refine Ch.s (.d (.bool (decide (((x.arcs.getD m default).sig) = sig)))) (.pure (.pickT _ _ _ rfl rfl rfl)) ?_
   refine Ch.nil ?_
   refine T_cond (b := (decide (((x.arcs.getD m default).sig) = sig))) rfl (fun h3 => ?_) (fun h3 => ?_)
   ·
    replace h3 := of_decide_eq_true h3
    refine T_seq ?_
    refine T_region hc ?_
    refine Ch.s (.d (.bool true)) (.pure (.assign _ rfl rfl)) ?_
    refine Ch.nil ?_
    refine T_ret ?_
    refine And.intro (.inr rfl) ?_
    exact Exists.intro [(.d (.bool true))] (Exists.intro [] (Exists.intro [] (And.intro (.cons (.tmp 6 rfl) .nil) (And.intro (.cons (.any _) (.cons (.any _) (.cons (.any _) .nil))) (And.intro (Exp.of (congrArg D.bool (by exact any_yes default m (by omega) (by simp_all [isArc]))) (.d _)) (And.intro rfl rfl))))))
   ·
    replace h3 := of_decide_eq_false h3
    refine T_skip ?_
    refine T_region hc ?_
    refine Ch.s (.d (.int .i64 (((m : Nat) : Int) + 1))) (.pure (.int _ _ _ _ _ rfl rfl rfl intV_addA)) ?_
    refine Ch.s (.d (.int .i64 (((m : Nat) : Int) + 1))) (.pure (.move _ rfl rfl)) ?_
    refine Ch.nil ?_
    refine Exists.intro (m + 1) (And.intro ⟨by omega, upto_succ hp0.2 (by simp_all [isArc])⟩ (And.intro (by first | omega | (dsimp only; omega)) (Wk.of rfl rfl (And.intro rfl (And.intro rfl (And.intro rfl (And.intro rfl (And.intro (vI (by first | rfl | omega | (simp; done) | (simp; omega))) trivial))))) trivial)))
  | false =>
   replace h2 := of_decide_eq_false h2
   refine Ch.skip rfl rfl ?_
   refine Ch.skip rfl rfl ?_
   refine Ch.skip rfl rfl ?_
   refine Ch.skip rfl rfl ?_
   refine Ch.s (.d (.bool false)) (.pure (.pickF _ _ _ rfl rfl rfl)) ?_
   refine Ch.nil ?_
   refine T_cond (b := false) rfl (fun h => nomatch h) (fun _ => ?_)
   refine T_skip ?_
   refine T_region hc ?_
   refine Ch.s (.d (.int .i64 (((m : Nat) : Int) + 1))) (.pure (.int _ _ _ _ _ rfl rfl rfl intV_addA)) ?_
   refine Ch.s (.d (.int .i64 (((m : Nat) : Int) + 1))) (.pure (.move _ rfl rfl)) ?_
   refine Ch.nil ?_
   refine Exists.intro (m + 1) (And.intro ⟨by omega, upto_succ hp0.2 (by simp_all [isArc])⟩ (And.intro (by first | omega | (dsimp only; omega)) (Wk.of rfl rfl (And.intro rfl (And.intro rfl (And.intro rfl (And.intro rfl (And.intro (vI (by first | rfl | omega | (simp; done) | (simp; omega))) trivial))))) trivial)))
 ·
  replace h1 := of_decide_eq_false h1
  refine T_exit ?_
  refine T_seq ?_
  refine T_region hc ?_
  refine Ch.s (.d (.bool false)) (.pure (.assign _ rfl rfl)) ?_
  refine Ch.nil ?_
  refine T_ret ?_
  refine And.intro (.inr rfl) ?_
  exact Exists.intro [(.d (.bool false))] (Exists.intro [] (Exists.intro [] (And.intro (.cons (.tmp 6 rfl) .nil) (And.intro (.cons (.any _) (.cons (.any _) (.cons (.any _) .nil))) (And.intro (Exp.of (congrArg D.bool (by exact any_no default (fun j hj => hp0.2 j (by omega)))) (.d _)) (And.intro rfl rfl))))))

def two (m s : Nat) : Nat := m >>> s &&& 3

theorem en124 : Enters Tryz.prog 124 := ⟨_, Tryz.func124, by kernel_rfl, rfl⟩

theorem en209 : Enters Tryz.prog 209 := ⟨_, Tryz.func209, by kernel_rfl, rfl⟩

structure Lin {α : Type} (le : α → α → Bool) : Prop where
  trans : ∀ a b c : α, le a b = true → le b c = true → le a c = true
  total : ∀ a b : α, (le a b || le b a) = true
  anti : ∀ a b : α, le a b = true → le b a = true → a = b

def Rise {α : Type} (le : α → α → Bool) (l : List α) : Prop := l.Pairwise fun a b => le a b = true ∧ a ≠ b

theorem rise_ext {α : Type} {le : α → α → Bool} (h : Lin le) : ∀ {l m : List α}, Rise le l → Rise le m → (∀ a, a ∈ l ↔ a ∈ m) → l = m
  | [], [], _, _, _ => rfl
  | [], b :: m, _, _, e => absurd ((e b).2 List.mem_cons_self) List.not_mem_nil
  | a :: l, [], _, _, e => absurd ((e a).1 List.mem_cons_self) List.not_mem_nil
  | a :: l, b :: m, hl, hm, e => by
    unfold Rise at hl hm
    rw [List.pairwise_cons] at hl hm
    have hab : a = b := by
      rcases List.mem_cons.1 ((e a).1 List.mem_cons_self) with h1 | h1
      · exact h1
      · rcases List.mem_cons.1 ((e b).2 List.mem_cons_self) with h2 | h2
        · exact h2.symm
        · exact h.anti _ _ (hl.1 b h2).1 (hm.1 a h1).1
    subst hab
    congr 1
    refine rise_ext h hl.2 hm.2 fun x => ⟨fun hx => ?_, fun hx => ?_⟩
    · rcases List.mem_cons.1 ((e x).1 (List.mem_cons_of_mem _ hx)) with h1 | h1
      · exact absurd h1.symm (hl.1 x hx).2
      · exact h1
    · rcases List.mem_cons.1 ((e x).2 (List.mem_cons_of_mem _ hx)) with h1 | h1
      · exact absurd h1.symm (hm.1 x hx).2
      · exact h1

theorem upTo_rise {α : Type} [Inhabited α] [DecidableEq α] {le : α → α → Bool} (h : Lin le) {zs : List α} (hz : zs.Pairwise fun a b => le a b = true) : ∀ m, m ≤ zs.length →
    Rise le (Lib.compactUpTo zs.toArray m) ∧ (∀ a, a ∈ Lib.compactUpTo zs.toArray m ↔ a ∈ zs.take m) ∧ ∀ a ∈ Lib.compactUpTo zs.toArray m, 0 < m ∧ le a (zs.getD (m - 1) default) = true
  | 0, _ => ⟨List.Pairwise.nil, fun a => by simp [Lib.compactUpTo], fun a ha => by simp [Lib.compactUpTo] at ha⟩
  | m + 1, hm => by
    obtain ⟨h1, h2, h3⟩ := upTo_rise h hz m (by omega)
    have hg : ∀ j, j < zs.length → zs.toArray[j]! = zs.getD j default := by intro j hj; simp [hj]
    have hml : zs.getD m default = zs[m] := by simp [show m < zs.length by omega]
    have hrefl : ∀ a : α, le a a = true := fun a => by have := h.total a a; rwa [Bool.or_self] at this
    have hstep : 0 < m → le (zs.getD (m - 1) default) (zs.getD m default) = true := by
      intro h0
      have := List.pairwise_iff_getElem.1 hz (m - 1) m (by omega) (by omega) (by omega)
      rw [hml, show zs.getD (m - 1) default = zs[m - 1] by simp [show m - 1 < zs.length by omega]]; exact this
    rw [Lib.compactUpTo_succ, List.take_succ_eq_append_getElem (by omega), ← hml]
    cases hk : Lib.keeps zs.toArray m with
    | false =>
      have h4 : ¬ (m = 0 ∨ zs.toArray[m]! ≠ zs.toArray[m - 1]!) := by
        unfold Lib.keeps at hk
        exact of_decide_eq_false hk
      have h0 : 0 < m := Nat.pos_of_ne_zero fun e => h4 (.inl e)
      have h5 : zs.getD m default = zs.getD (m - 1) default := by
        rw [← hg m (by omega), ← hg (m - 1) (by omega)]
        exact Classical.byContradiction fun e => h4 (.inr e)
      rw [if_neg (by decide), List.append_nil]
      refine ⟨h1, fun a => ?_, fun a ha => ⟨by omega, ?_⟩⟩
      · rw [h2, List.mem_append, List.mem_singleton]
        refine ⟨.inl, fun hh => hh.elim id fun e => ?_⟩
        rw [e, h5, show zs.getD (m - 1) default = zs[m - 1] by simp [show m - 1 < zs.length by omega]]
        exact List.mem_take_iff_getElem.2 ⟨m - 1, by omega, rfl⟩
      · show le a (zs.getD m default) = true
        rw [h5]; exact (h3 a ha).2
    | true =>
      have h4 : m = 0 ∨ zs.toArray[m]! ≠ zs.toArray[m - 1]! := by
        unfold Lib.keeps at hk
        exact of_decide_eq_true hk
      rw [if_pos rfl, hg m (by omega)]
      refine ⟨?_, fun a => ?_, fun a ha => ⟨by omega, ?_⟩⟩
      · unfold Rise at h1 ⊢
        rw [List.pairwise_append]
        refine ⟨h1, List.pairwise_singleton _ _, fun a ha b hb => ?_⟩
        rw [List.mem_singleton] at hb
        subst hb
        obtain ⟨h0, h5⟩ := h3 a ha
        refine ⟨h.trans _ _ _ h5 (hstep h0), fun e => ?_⟩
        rcases h4 with h4 | h4
        · omega
        · rw [hg m (by omega), hg (m - 1) (by omega)] at h4
          subst e
          exact h4 (h.anti _ _ h5 (hstep h0))
      · rw [List.mem_append, List.mem_append, h2]
      · show le a (zs.getD m default) = true
        rcases List.mem_append.1 ha with ha | ha
        · exact h.trans _ _ _ (h3 a ha).2 (hstep (h3 a ha).1)
        · rw [List.mem_singleton] at ha; subst ha; exact hrefl _

def tid {α : Type} [Inhabited α] [DecidableEq α] (le : α → α → Bool) (l : List α) : List α := Lib.compact (l.mergeSort le)

theorem tid_rise {α : Type} [Inhabited α] [DecidableEq α] {le : α → α → Bool} (h : Lin le) (l : List α) : Rise le (tid le l) :=
  (upTo_rise h (List.pairwise_mergeSort (fun a b c h1 h2 => h.trans a b c h1 h2) (fun a b => h.total a b) l) _ (Nat.le_refl _)).1

theorem tid_mem {α : Type} [Inhabited α] [DecidableEq α] {le : α → α → Bool} (h : Lin le) {l : List α} {a : α} : a ∈ tid le l ↔ a ∈ l := by
  have := (upTo_rise h (List.pairwise_mergeSort (fun a b c h1 h2 => h.trans a b c h1 h2) (fun a b => h.total a b) l) _ (Nat.le_refl _)).2.1 a
  rw [List.take_length, List.mem_mergeSort] at this
  exact this

theorem tid_nil {α : Type} [Inhabited α] [DecidableEq α] (le : α → α → Bool) : tid le ([] : List α) = [] := by
  rw [tid, List.mergeSort_nil]; rfl

theorem upTo_len {α : Type} [Inhabited α] [DecidableEq α] (d : Array α) (m : Nat) : (Lib.compactUpTo d m).length ≤ m := by
  unfold Lib.compactUpTo
  rw [List.length_map]
  have := List.length_filter_le (Lib.keeps d) (List.range m)
  rwa [List.length_range] at this

theorem compact_len {α : Type} [Inhabited α] [DecidableEq α] (l : List α) : (Lib.compact l).length ≤ l.length := upTo_len _ _

theorem tid_len {α : Type} [Inhabited α] [DecidableEq α] (le : α → α → Bool) (l : List α) : (tid le l).length ≤ l.length := by
  have := compact_len (l.mergeSort le)
  rwa [List.length_mergeSort] at this

theorem bl_irr : ∀ x : List UInt8, Op.bytesLess x x = false
  | [] => rfl
  | a :: x => by
    rw [Op.bytesLess, bl_irr x, Bool.and_false, Bool.or_false]
    simp

theorem u8_lt {a b : UInt8} : a < b ↔ a.toNat < b.toNat := UInt8.lt_iff_toNat_lt

theorem bl_cons {a b : UInt8} {x y : List UInt8} : Op.bytesLess (a :: x) (b :: y) = true ↔ a.toNat < b.toNat ∨ (a.toNat = b.toNat ∧ Op.bytesLess x y = true) := by
  rw [Op.bytesLess, Bool.or_eq_true, decide_eq_true_iff, Bool.and_eq_true, beq_iff_eq, u8_lt, UInt8.toNat_inj]

theorem bl_trans : ∀ {x y z : List UInt8}, Op.bytesLess x y = true → Op.bytesLess y z = true → Op.bytesLess x z = true
  | [], [], _, h, _ => by simp [Op.bytesLess] at h
  | [], b :: y, [], _, h => by simp [Op.bytesLess] at h
  | [], b :: y, c :: z, _, _ => rfl
  | a :: x, [], _, h, _ => by simp [Op.bytesLess] at h
  | a :: x, b :: y, [], _, h => by simp [Op.bytesLess] at h
  | a :: x, b :: y, c :: z, h1, h2 => by
    rw [bl_cons] at h1 h2 ⊢
    rcases h1 with h1 | ⟨h1, h3⟩ <;> rcases h2 with h2 | ⟨h2, h4⟩
    · exact .inl (by omega)
    · exact .inl (by omega)
    · exact .inl (by omega)
    · exact .inr ⟨by omega, bl_trans h3 h4⟩

theorem bl_tri : ∀ {x y : List UInt8}, ¬ Op.bytesLess x y = true → ¬ Op.bytesLess y x = true → x = y
  | [], [], _, _ => rfl
  | [], b :: y, h, _ => absurd rfl h
  | a :: x, [], _, h => absurd rfl h
  | a :: x, b :: y, h1, h2 => by
    rw [bl_cons] at h1 h2
    have e : a = b := UInt8.toNat_inj.1 (by
      have h3 : ¬ a.toNat < b.toNat := fun h => h1 (.inl h)
      have h4 : ¬ b.toNat < a.toNat := fun h => h2 (.inl h)
      omega)
    subst e
    rw [bl_tri (fun h => h1 (.inr ⟨rfl, h⟩)) (fun h => h2 (.inr ⟨rfl, h⟩))]

theorem bl_lt : ∀ x y : List UInt8, (Op.bytesLess x y = true) ↔ x < y
  | [], [] => by simp [Op.bytesLess]
  | _ :: _, [] => by simp [Op.bytesLess]
  | [], _ :: _ => by simp [Op.bytesLess]
  | a :: x, b :: y => by
    rw [bl_cons, List.cons_lt_cons_iff, u8_lt, bl_lt x y, UInt8.toNat_inj]

def leS (x y : List UInt8) : Bool := decide (x ≤ y)

theorem leS_bl (x y : List UInt8) : leS x y = !Op.bytesLess y x := by
  unfold leS
  rw [Bool.eq_iff_iff, decide_eq_true_iff, Bool.not_eq_true', ← List.not_lt, ← bl_lt]
  simp

theorem linS : Lin leS := by
  refine ⟨fun a b c h1 h2 => ?_, fun a b => ?_, fun a b h1 h2 => ?_⟩
  · rw [leS_bl, Bool.not_eq_true'] at h1 h2 ⊢
    rw [Bool.eq_false_iff] at *
    intro hc
    by_cases hab : a = b
    · subst hab; exact h2 hc
    · by_cases h3 : Op.bytesLess a b = true
      · exact h2 (bl_trans hc h3)
      · exact hab (bl_tri h3 h1)
  · rw [leS_bl, leS_bl]
    cases hab : Op.bytesLess a b with
    | false => simp
    | true =>
      cases hba : Op.bytesLess b a with
      | false => rfl
      | true => have := bl_trans hab hba; rw [bl_irr] at this; cases this
  · rw [leS_bl, Bool.not_eq_true', Bool.eq_false_iff] at h1 h2
    exact bl_tri h2 h1

def tidS (l : List (List UInt8)) : List (List UInt8) := tid leS l

def put14 (l : List (List UInt8)) (x : List UInt8) : List (List UInt8) := l.takeWhile (fun b => Op.bytesLess b x) ++ x :: l.dropWhile (fun b => Op.bytesLess b x)

def put15 (l : List (List UInt8)) (x : List UInt8) : List (List UInt8) := if hasS l x then l else put14 l x

theorem put14_mem {l : List (List UInt8)} {x a : List UInt8} : a ∈ put14 l x ↔ a ∈ l ∨ a = x := by
  unfold put14
  rw [List.mem_append, List.mem_cons]
  have e : a ∈ l ↔ a ∈ l.takeWhile (fun b => Op.bytesLess b x) ∨ a ∈ l.dropWhile (fun b => Op.bytesLess b x) := by
    rw [← List.mem_append, List.takeWhile_append_dropWhile]
  rw [e]
  constructor
  · rintro (h1 | h1 | h1)
    · exact .inl (.inl h1)
    · exact .inr h1
    · exact .inl (.inr h1)
  · rintro ((h1 | h1) | h1)
    · exact .inl h1
    · exact .inr (.inr h1)
    · exact .inr (.inl h1)

theorem hasS_mem {l : List (List UInt8)} {x : List UInt8} : hasS l x = true ↔ x ∈ l := by
  unfold hasS
  rw [List.any_eq_true]
  constructor
  · rintro ⟨a, ha, h⟩
    have := of_decide_eq_true h
    subst this; exact ha
  · intro h
    exact ⟨x, h, decide_eq_true rfl⟩

theorem put15_mem {l : List (List UInt8)} {x a : List UInt8} : a ∈ put15 l x ↔ a ∈ l ∨ a = x := by
  unfold put15
  split
  · rename_i h
    constructor
    · exact .inl
    · rintro (h1 | rfl)
      · exact h1
      · exact hasS_mem.1 h
  · exact put14_mem

theorem dropS_rise {x : List UInt8} : ∀ {l : List (List UInt8)}, Rise leS l → ¬ x ∈ l → ∀ a ∈ l.dropWhile (fun b => Op.bytesLess b x), leS x a = true ∧ x ≠ a
  | [], _, _, a, ha => by simp at ha
  | b :: l, hl, hx, a, ha => by
    unfold Rise at hl
    rw [List.pairwise_cons] at hl
    rw [List.dropWhile_cons] at ha
    split at ha
    · exact dropS_rise hl.2 (fun h => hx (List.mem_cons_of_mem _ h)) a ha
    · rename_i hb
      have h1 : leS x b = true := by rw [leS_bl]; simpa using hb
      rcases List.mem_cons.1 ha with rfl | ha
      · exact ⟨h1, fun e => hx (e ▸ List.mem_cons_self)⟩
      · exact ⟨linS.trans _ _ _ h1 (hl.1 a ha).1, fun e => hx (e ▸ List.mem_cons_of_mem _ ha)⟩

theorem whileS_lt {x : List UInt8} : ∀ {l : List (List UInt8)} {a : List UInt8}, a ∈ l.takeWhile (fun b => Op.bytesLess b x) → Op.bytesLess a x = true
  | [], a, h => by simp at h
  | b :: l, a, h => by
    rw [List.takeWhile_cons] at h
    split at h
    · rename_i hb
      rcases List.mem_cons.1 h with rfl | h
      · exact hb
      · exact whileS_lt h
    · simp at h

theorem bl_le {a b : List UInt8} (h : Op.bytesLess a b = true) : leS a b = true ∧ a ≠ b := by
  refine ⟨?_, fun e => ?_⟩
  · rw [leS_bl]
    cases hba : Op.bytesLess b a with
    | false => rfl
    | true => have := bl_trans h hba; rw [bl_irr] at this; cases this
  · subst e; rw [bl_irr] at h; cases h

theorem put15_rise {l : List (List UInt8)} {x : List UInt8} (hl : Rise leS l) : Rise leS (put15 l x) := by
  unfold put15
  split
  · exact hl
  · rename_i h
    have hn : ¬ x ∈ l := fun hm => h (hasS_mem.2 hm)
    have hd := dropS_rise hl hn
    unfold Rise at hl ⊢
    unfold put14
    rw [List.pairwise_append, List.pairwise_cons]
    refine ⟨hl.sublist (List.takeWhile_sublist _), ⟨hd, hl.sublist (List.dropWhile_sublist _)⟩, fun a ha b hb => ?_⟩
    have h3 := bl_le (whileS_lt ha)
    rcases List.mem_cons.1 hb with rfl | hb
    · exact h3
    · have h4 := hd b hb
      refine ⟨linS.trans _ _ _ h3.1 h4.1, fun e => ?_⟩
      subst e
      exact h3.2 (linS.anti _ _ h3.1 h4.1)

theorem put15_tid (l : List (List UInt8)) (x : List UInt8) : put15 (tidS l) x = tidS (l ++ [x]) :=
  rise_ext linS (put15_rise (tid_rise linS l)) (tid_rise linS _) fun a => by
    rw [put15_mem, tidS, tid_mem linS, tidS, tid_mem linS, List.mem_append, List.mem_singleton]

theorem sp_Sort_str (xs : List (List UInt8)) (hn : xs.length ≤ 1048576) : Sp Tryz.prog 124 [.slice true 1 (xs.map D.str)] [.slice true 1 ((xs.mergeSort leS).map D.str)] (.tup []) :=
  sp_turnRow encStrD (srt := fun l => l.mergeSort leS) (fun l => List.length_mergeSort l) List.mergeSort_nil Tryz.slices_Sort_string_none Tryz.slices_Sort_string xs hn

theorem sp_Compact_str (xs : List (List UInt8)) (hn : xs.length ≤ 1048576) : Sp Tryz.prog 209 [.slice true 1 (xs.map D.str)] [.any] (.slice true 1 ((Lib.compact xs).map D.str)) := by
  have h := sp_cutRow (P := Tryz.prog) (fn := 209) encStrD (more := []) (mvs := []) (fun S w vs F hd => by rw [DRs] at hd; exact hd) (fun S w => by rw [List.map_nil, DRs]; exact ⟨rfl, rfl⟩) xs (Lib.compact xs ++ List.replicate (xs.length - (Lib.compact xs).length) []) (Lib.compact xs).length
    (by have := compact_len xs; rw [List.length_append, List.length_replicate]; omega) (by rw [List.length_append]; omega) (fun _ p cap w => Tryz.slices_Compact_string_empty p cap w) (fun blk cap w hH hc hm => Tryz.slices_Compact_string blk 0 cap xs w hH (by omega) hc)
  rw [List.take_left] at h
  exact h

theorem en206 : Enters Tryz.prog 206 := ⟨_, Tryz.func206, by kernel_rfl, rfl⟩

theorem en93 : Enters Tryz.prog 93 := ⟨_, Tryz.func93, by kernel_rfl, rfl⟩

theorem en141 : Enters Tryz.prog 141 := ⟨_, Tryz.func141, by kernel_rfl, rfl⟩

theorem en147 : Enters Tryz.prog 147 := ⟨_, Tryz.func147, by kernel_rfl, rfl⟩

theorem zr29 : (Tryz.prog.info? 29).bind (·.zero) = some (.agg #[.slice none 0 0, .slice none 0 0]) := by kernel_rfl

theorem zer29 : ∃ i z, Tryz.prog.info? 29 = some i ∧ i.zero = some z ∧ z.cells = List.toArray [.slice none 0 0, .slice none 0 0] := zero_mk zr29 rfl

theorem stru29 : StructIs Tryz.prog 29 [.slice none 0 0, .slice none 0 0] [(0, 1), (1, 1)] := structIs_mk (by kernel_rfl) Tryz.underlying29 (by kernel_rfl)

theorem sz29 : SizeIs Tryz.prog 29 2 := by unfold SizeIs; kernel_rfl

theorem en152 : Enters Tryz.prog 152 := ⟨_, Tryz.func152, by kernel_rfl, rfl⟩

theorem ag29 : AggIs Tryz.prog 29 true := by unfold AggIs; kernel_rfl

theorem en139 : Enters Tryz.prog 139 := ⟨_, Tryz.func139, by kernel_rfl, rfl⟩

theorem en146 : Enters Tryz.prog 146 := ⟨_, Tryz.func146, by kernel_rfl, rfl⟩

theorem en148 : Enters Tryz.prog 148 := ⟨_, Tryz.func148, by kernel_rfl, rfl⟩

theorem en143 : Enters Tryz.prog 143 := ⟨_, Tryz.func143, by kernel_rfl, rfl⟩

theorem en183 : Enters Tryz.prog 183 := ⟨_, Tryz.func183, by kernel_rfl, rfl⟩

theorem en250 : Enters Tryz.prog 250 := ⟨_, Tryz.func250, by kernel_rfl, rfl⟩

theorem en158 : Enters Tryz.prog 158 := ⟨_, Tryz.func158, by kernel_rfl, rfl⟩

theorem en204 : Enters Tryz.prog 204 := ⟨_, Tryz.func204, by kernel_rfl, rfl⟩

theorem en134 : Enters Tryz.prog 134 := ⟨_, Tryz.func134, by kernel_rfl, rfl⟩

theorem en135 : Enters Tryz.prog 135 := ⟨_, Tryz.func135, by kernel_rfl, rfl⟩

theorem en69 : Enters Tryz.prog 69 := ⟨_, Tryz.func69, by kernel_rfl, rfl⟩

theorem ag26 : AggIs Tryz.prog 26 true := by unfold AggIs; kernel_rfl

theorem sz26 : SizeIs Tryz.prog 26 3 := by unfold SizeIs; kernel_rfl

theorem en16 : Enters Tryz.prog 16 := ⟨_, Tryz.func16, by kernel_rfl, rfl⟩

theorem en18 : Enters Tryz.prog 18 := ⟨_, Tryz.func18, by kernel_rfl, rfl⟩

theorem en21 : Enters Tryz.prog 21 := ⟨_, Tryz.func21, by kernel_rfl, rfl⟩

def bitQ (x : Sgr) (sig : Int) (j : Nat) : Bool := decide ((x.codes.getD j default).getD sig.toNat 0 = 49)

def wayN (w : List UInt8) : Nat := if w = [117, 112] then 1 else if w = [100, 111, 119, 110] then 2 else 0

def wayOn (w : Nat) (b e : Bool) : Bool := if w = 1 then e && !b else if w = 2 then e && b else !decide (e = b)

def wayOff (w : Nat) (b e : Bool) : Bool := if w = 1 then decide (e = b) else if w = 2 then !decide (e = b) else decide (e = b)

def onQ (x : Sgr) (sig : Int) (w : Nat) (j : Nat) : Bool := wayOn w (bitQ x sig j) (excB x (j : Int) sig)

def offQ (x : Sgr) (sig : Int) (w : Nat) (j : Nat) : Bool := wayOff w (bitQ x sig j) (excB x (j : Int) sig)

def selC (x : Sgr) (Q : Nat → Bool) (k : Nat) : List (List UInt8) := selTo k Q fun j => x.codes.getD j default

def osTo (x : Sgr) (Q : Nat → Bool) (k : Nat) : List (List UInt8) := tidS (selC x Q k)

def osL (x : Sgr) (Q : Nat → Bool) : List (List UInt8) := osTo x Q x.codes.length

theorem selC_le (x : Sgr) (Q : Nat → Bool) (k : Nat) : (selC x Q k).length ≤ k := selTo_le _ _ _

theorem osTo_le (x : Sgr) (Q : Nat → Bool) (k : Nat) : (osTo x Q k).length ≤ k := Nat.le_trans (tid_len leS _) (selC_le x Q k)

theorem selC_in {x : Sgr} {Q : Nat → Bool} {k : Nat} (hk : k ≤ x.codes.length) : ∀ u ∈ selC x Q k, u ∈ x.codes := by
  intro u hu
  obtain ⟨j, hj, rfl⟩ := List.mem_map.1 hu
  have := List.mem_range.1 (List.mem_filter.1 hj).1
  exact getD_mem (by omega)

theorem osTo_in {x : Sgr} {Q : Nat → Bool} {k : Nat} (hk : k ≤ x.codes.length) : ∀ u ∈ osTo x Q k, u ∈ x.codes := fun u hu => selC_in hk u ((tid_mem linS).1 hu)

theorem osTo_zero (x : Sgr) (Q : Nat → Bool) : osTo x Q 0 = [] := tid_nil leS

theorem osTo_yes {x : Sgr} {Q : Nat → Bool} {k : Nat} (h : Q k = true) : put15 (osTo x Q k) (x.codes.getD k default) = osTo x Q (k + 1) := by
  unfold osTo selC
  rw [put15_tid, selTo_yes (f := fun j => x.codes.getD j default) h]

theorem osTo_no {x : Sgr} {Q : Nat → Bool} {k : Nat} (h : Q k = false) : osTo x Q k = osTo x Q (k + 1) := by
  unfold osTo selC
  rw [selTo_no (f := fun j => x.codes.getD j default) h]

theorem put14_new {l : List (List UInt8)} {u : List UInt8} {k : Nat} (hk : k ≤ l.length) (h1 : ∀ j, j < k → Op.bytesLess (l.getD j default) u = true) (h2 : k < l.length → Op.bytesLess (l.getD k default) u = false) : l.take k ++ [u] ++ l.drop k = put14 l u := by
  have key : ∀ (l : List (List UInt8)) (k : Nat), k ≤ l.length → (∀ j, j < k → Op.bytesLess (l.getD j default) u = true) → (k < l.length → Op.bytesLess (l.getD k default) u = false) → l.takeWhile (fun b => Op.bytesLess b u) = l.take k ∧ l.dropWhile (fun b => Op.bytesLess b u) = l.drop k := by
    intro l
    induction l with
    | nil => intro k _ _ _; simp
    | cons b l ih =>
      intro k hk h1 h2
      cases k with
      | zero =>
        have h3 := h2 (by simp)
        have h4 : Op.bytesLess b u = false := by simpa using h3
        rw [List.takeWhile_cons, List.dropWhile_cons]
        simp [h4]
      | succ k =>
        have h3 : Op.bytesLess b u = true := by simpa using h1 0 (by omega)
        obtain ⟨e1, e2⟩ := ih k (by simpa using hk) (fun j hj => by simpa using h1 (j + 1) (by omega)) (fun hl => by simpa using h2 (by simpa using hl))
        rw [List.takeWhile_cons, List.dropWhile_cons]
        simp [h3, e1, e2]
  obtain ⟨e1, e2⟩ := key l k hk h1 h2
  unfold put14
  rw [e1, e2]
  simp

def outSig (x : Sgr) (sig : Int) : Bool := hasSigB x sig && !decide ((x.sigs.getD sig.toNat default).kind = 1)

theorem outSig_has {x : Sgr} {sig : Int} (h : outSig x sig = true) : sgB x = true ∧ (0 ≤ sig ∧ sig.toNat < x.sigs.length) := by
  unfold outSig at h
  exact has_sig (Bool.and_eq_true_iff.1 h).1

theorem sig_both {x : Sgr} {sig : Int} (h : sgB x = true) (h2 : withinB sig 0 ((x.sigs.length : Int) - 1) = true) : hasSigB x sig = true := by rw [hasSigB, h, h2]; rfl

def setsOk (x : Sgr) (p q : Nat → Bool) : Bool := onoffB (x.sigs.length : Int) (osL x p) (osL x q)

def setsOn (x : Sgr) (p q : Nat → Bool) : List (List UInt8) := if setsOk x p q then osL x p else []

def setsOff (x : Sgr) (p q : Nat → Bool) : List (List UInt8) := if setsOk x p q then osL x q else []

def osOk (x : Sgr) (sig : Int) (w : Nat) : Bool := outSig x sig && setsOk x (onQ x sig w) (offQ x sig w)

def osOn (x : Sgr) (sig : Int) (w : Nat) : List (List UInt8) := if outSig x sig then setsOn x (onQ x sig w) (offQ x sig w) else []

def osOff (x : Sgr) (sig : Int) (w : Nat) : List (List UInt8) := if outSig x sig then setsOff x (onQ x sig w) (offQ x sig w) else []

theorem setsOn_le (x : Sgr) (p q : Nat → Bool) : (setsOn x p q).length ≤ x.codes.length := by
  unfold setsOn; split
  · exact osTo_le _ _ _
  · exact Nat.zero_le _

theorem setsOff_le (x : Sgr) (p q : Nat → Bool) : (setsOff x p q).length ≤ x.codes.length := by
  unfold setsOff; split
  · exact osTo_le _ _ _
  · exact Nat.zero_le _

theorem osOn_le (x : Sgr) (sig : Int) (w : Nat) : (osOn x sig w).length ≤ x.codes.length := by
  unfold osOn; split
  · exact setsOn_le _ _ _
  · exact Nat.zero_le _

theorem osOff_le (x : Sgr) (sig : Int) (w : Nat) : (osOff x sig w).length ≤ x.codes.length := by
  unfold osOff; split
  · exact setsOff_le _ _ _
  · exact Nat.zero_le _

theorem onQ_next (x : Sgr) (sig : Int) (m : Nat) : (!decide (bitQ x sig m = excB x (m : Int) sig)) = onQ x sig 0 m := by
  unfold onQ wayOn
  rw [if_neg (by decide), if_neg (by decide)]
  cases bitQ x sig m <;> cases excB x (m : Int) sig <;> rfl

theorem selC_zero (x : Sgr) (Q : Nat → Bool) : selC x Q 0 = [] := by simp [selC, selTo]

theorem selC_yes {x : Sgr} {Q : Nat → Bool} {k : Nat} (h : Q k = true) : selC x Q k ++ [x.codes.getD k default] = selC x Q (k + 1) := selTo_yes (f := fun j => x.codes.getD j default) h

theorem selC_no {x : Sgr} {Q : Nat → Bool} {k : Nat} (h : Q k = false) : selC x Q k = selC x Q (k + 1) := selTo_no (f := fun j => x.codes.getD j default) h

theorem sets_is {x : Sgr} {p q : Nat → Bool} {k : Nat} {b : Bool} (hk : x.codes.length = k) (h : onoffB (x.sigs.length : Int) (Lib.compact ((selC x p k).mergeSort leS)) (Lib.compact ((selC x q k).mergeSort leS)) = b) : setsOk x p q = b := by subst hk; exact h

theorem setsOn_yes {x : Sgr} {p q : Nat → Bool} {k : Nat} (hk : x.codes.length = k) (h : onoffB (x.sigs.length : Int) (Lib.compact ((selC x p k).mergeSort leS)) (Lib.compact ((selC x q k).mergeSort leS)) = true) : setsOn x p q = Lib.compact ((selC x p k).mergeSort leS) := by
  rw [setsOn, sets_is hk h, if_pos rfl]; subst hk; rfl

theorem setsOff_yes {x : Sgr} {p q : Nat → Bool} {k : Nat} (hk : x.codes.length = k) (h : onoffB (x.sigs.length : Int) (Lib.compact ((selC x p k).mergeSort leS)) (Lib.compact ((selC x q k).mergeSort leS)) = true) : setsOff x p q = Lib.compact ((selC x q k).mergeSort leS) := by
  rw [setsOff, sets_is hk h, if_pos rfl]; subst hk; rfl

theorem setsOn_no {x : Sgr} {p q : Nat → Bool} (h : setsOk x p q = false) : setsOn x p q = [] := by rw [setsOn, h]; rfl

theorem setsOff_no {x : Sgr} {p q : Nat → Bool} (h : setsOk x p q = false) : setsOff x p q = [] := by rw [setsOff, h]; rfl

theorem sp_impl_isOutput (x : Sgr) (sig : Int) (hb : x.bulk ≤ 1048576) : Sp Tryz.prog 139 [(.agg [(.slice false 2 (x.sigs.map Sgn.d)), (.slice false 1 (x.codes.map D.str)), (.slice false 4 (x.arcs.map Arc.d))]), (.int .i64 sig)] [.any, .any] (.bool (outSig x sig)) := by
 refine Sp_intro (lend := true) Tryz.func139 rfl rfl rfl (fun _ => rfl) (fun c hc hX => ?_)
 obtain ⟨hp0, hp1, hp2⟩ := Sgr.parts hb
 have hn0 := bulkF_len hp0
 have hn1 := bulk_len hp1
 have hx1 := bulk_mem hp1
 have hn2 := bulkF_len hp2
 refine T_seq ?_
 refine T_region hc ?_
 refine Ch.s (.ptr 2000 0) (.box 2000 _ _ rfl (.aggD _)) ?_
 refine Ch.s (.d (.bool false)) (.pure (.assign _ rfl rfl)) ?_
 refine Ch.nil ?_
 refine T_seq ?_
 refine T_region hc ?_
 refine Ch.s (.agg [(.d (.slice false 2 (x.sigs.map Sgn.d))), (.d (.slice false 1 (x.codes.map D.str))), (.d (.slice false 4 (x.arcs.map Arc.d)))]) (.pure (.loadPtrA _ _ rfl ag35 sz35 rfl rfl (Nat.le_of_ble_eq_true rfl) rfl)) ?_
 refine Ch.s (.d (.int .i64 sig)) (.pure (.move _ rfl rfl)) ?_
 refine Ch.s (.d (.bool (hasSigB x sig))) (.call 7000 206 _ _ _ en206 rfl (.inl rfl) (.cons (.lend (.agg (.cons (.d _) (.cons (.d _) (.cons (.d _) .nil))) rfl)) (.cons (.d _) .nil)) rfl rfl (sp_impl_hasSignal x sig (by first | assumption | omega | (rw [List.length_take]; omega) | (have := bulkF_mem hb _ (getD_mem (d := default) (by omega)); assumption) | (unfold bulkS at *; omega) | (simp_all; done))) (.skip _ _ (.skip _ _ .nil)) rfl) ?_
 refine Ch.s (.d (.bool (hasSigB x sig))) (.pure (.move _ rfl rfl)) ?_
 cases h1 : (hasSigB x sig) with
 | true =>
  try have hsg := has_sig h1
  refine Ch.s (.ptr 2000 0) (.pure (.fldPtr _ _ _ rfl fld35_0 rfl)) ?_
  refine Ch.s (.d (.slice false 2 (x.sigs.map Sgn.d))) (.pure (.loadPtr1 _ _ rfl ag32 rfl rfl rfl)) ?_
  refine Ch.s (.d (.int .i64 sig)) (.pure (.move _ rfl rfl)) ?_
  refine Ch.s (.d (.ref (.agg [(.str ((x.sigs.getD ((sig).toNat) default).name)), (.int .i64 ((x.sigs.getD ((sig).toNat) default).kind))]))) (.pure (.idx _ _ _ 154 ((sig).toNat) rfl Tryz.underlying32 sz154 rfl rfl (by omega) get_mapA)) ?_
  refine Ch.s (.d (.ref (.int .i64 ((x.sigs.getD ((sig).toNat) default).kind)))) (.pure (.fldRef _ _ _ rfl fld154_1 rfl rfl rfl)) ?_
  refine Ch.s (.d (.int .i64 ((x.sigs.getD ((sig).toNat) default).kind))) (.pure (.loadRef1 _ _ rfl ag3 rfl rfl)) ?_
  refine Ch.s (.d (.bool (!(decide (((x.sigs.getD ((sig).toNat) default).kind) = 1))))) (.pure (.int _ _ _ _ _ rfl rfl rfl rfl)) ?_
  refine Ch.s (.d (.bool (!(decide (((x.sigs.getD ((sig).toNat) default).kind) = 1))))) (.pure (.pickT _ _ _ rfl rfl rfl)) ?_
  refine Ch.s (.d (.bool (!(decide (((x.sigs.getD ((sig).toNat) default).kind) = 1))))) (.pure (.assign _ rfl rfl)) ?_
  refine Ch.nil ?_
  refine T_ret ?_
  refine And.intro (.inr rfl) ?_
  exact Exists.intro [(.d (.bool (!(decide (((x.sigs.getD ((sig).toNat) default).kind) = 1)))))] (Exists.intro [] (Exists.intro [] (And.intro (.cons (.tmp 4 rfl) .nil) (And.intro (.cons (.any _) (.cons (.any _) .nil)) (And.intro (Exp.of (congrArg D.bool (by first | (rw [outSig, h1]; done) | (rw [outSig, h1]; rfl) | (rw [outSig, sig_both h1 h2]; done) | (rw [outSig, sig_both h1 h2]; rfl) | (simp_all [outSig, hasSigB]; done))) (.d _)) (And.intro rfl rfl))))))
 | false =>
  try have hsg := has_sig h1
  refine Ch.skip rfl rfl ?_
  refine Ch.skip rfl rfl ?_
  refine Ch.skip rfl rfl ?_
  refine Ch.skip rfl rfl ?_
  refine Ch.skip rfl rfl ?_
  refine Ch.skip rfl rfl ?_
  refine Ch.skip rfl rfl ?_
  refine Ch.s (.d (.bool false)) (.pure (.pickF _ _ _ rfl rfl rfl)) ?_
  refine Ch.s (.d (.bool false)) (.pure (.assign _ rfl rfl)) ?_
  refine Ch.nil ?_
  refine T_ret ?_
  refine And.intro (.inr rfl) ?_
  exact Exists.intro [(.d (.bool false))] (Exists.intro [] (Exists.intro [] (And.intro (.cons (.tmp 4 rfl) .nil) (And.intro (.cons (.any _) (.cons (.any _) .nil)) (And.intro (Exp.of (congrArg D.bool (by first | (rw [outSig, h1]; done) | (rw [outSig, h1]; rfl) | (rw [outSig, sig_both h1 h2]; done) | (rw [outSig, sig_both h1 h2]; rfl) | (simp_all [outSig, hasSigB]; done))) (.d _)) (And.intro rfl rfl))))))

theorem sp_spec_l15Asked (x : Sgr) (sig : Int) (hb : x.bulk ≤ 1048576) : Sp Tryz.prog 134 [(.agg [(.slice false 2 (x.sigs.map Sgn.d)), (.slice false 1 (x.codes.map D.str)), (.slice false 4 (x.arcs.map Arc.d))]), (.int .i64 sig)] [.any, .any] (.bool (outSig x sig)) := by
 refine Sp_intro (lend := true) Tryz.func134 rfl rfl rfl (fun _ => rfl) (fun c hc hX => ?_)
 obtain ⟨hp0, hp1, hp2⟩ := Sgr.parts hb
 have hn0 := bulkF_len hp0
 have hn1 := bulk_len hp1
 have hx1 := bulk_mem hp1
 have hn2 := bulkF_len hp2
 refine T_seq ?_
 refine T_region hc ?_
 refine Ch.s (.ptr 2000 0) (.box 2000 _ _ rfl (.aggD _)) ?_
 refine Ch.s (.d (.bool false)) (.pure (.assign _ rfl rfl)) ?_
 refine Ch.nil ?_
 refine T_seq ?_
 refine T_region hc ?_
 refine Ch.s (.agg [(.d (.slice false 2 (x.sigs.map Sgn.d))), (.d (.slice false 1 (x.codes.map D.str))), (.d (.slice false 4 (x.arcs.map Arc.d)))]) (.pure (.loadPtrA _ _ rfl ag35 sz35 rfl rfl (Nat.le_of_ble_eq_true rfl) rfl)) ?_
 refine Ch.s (.d (.bool (sgB x))) (.call 6000 93 _ _ _ en93 rfl (.inl rfl) (.cons (.lend (.agg (.cons (.d _) (.cons (.d _) (.cons (.d _) .nil))) rfl)) .nil) rfl rfl (sp_spec_l5Good x (by first | assumption | omega | (rw [List.length_take]; omega) | (have := bulkF_mem hb _ (getD_mem (d := default) (by omega)); assumption) | (unfold bulkS at *; omega) | (simp_all; done))) (.skip _ _ .nil) rfl) ?_
 refine Ch.s (.d (.bool (sgB x))) (.pure (.move _ rfl rfl)) ?_
 cases h1 : (sgB x) with
 | true =>
  refine Ch.s (.d (.int .i64 sig)) (.pure (.move _ rfl rfl)) ?_
  refine Ch.s (.ptr 2000 0) (.pure (.fldPtr _ _ _ rfl fld35_0 rfl)) ?_
  refine Ch.s (.d (.slice false 2 (x.sigs.map Sgn.d))) (.pure (.loadPtr1 _ _ rfl ag32 rfl rfl rfl)) ?_
  refine Ch.s (.d (.int .i64 ((x.sigs.length : Nat) : Int))) (.pure (.len _ _ 154 rfl Tryz.underlying32 (.sh _ _) (by simp))) ?_
  refine Ch.s (.d (.int .i64 (((x.sigs.length : Nat) : Int) - 1))) (.pure (.int _ _ _ _ _ rfl rfl rfl intV_subA)) ?_
  refine Ch.s (.d (.bool (withinB sig 0 (((x.sigs.length : Nat) : Int) - 1)))) (.call 13000 89 _ _ _ en89 rfl (.inl rfl) (.cons (.d _) (.cons (.d _) (.cons (.d _) .nil))) rfl rfl (sp_spec_l1In sig 0 (((x.sigs.length : Nat) : Int) - 1)) (.skip _ _ (.skip _ _ (.skip _ _ .nil))) rfl) ?_
  refine Ch.s (.d (.bool (withinB sig 0 (((x.sigs.length : Nat) : Int) - 1)))) (.pure (.pickT _ _ _ rfl rfl rfl)) ?_
  refine Ch.s (.d (.bool (withinB sig 0 (((x.sigs.length : Nat) : Int) - 1)))) (.pure (.move _ rfl rfl)) ?_
  cases h2 : (withinB sig 0 (((x.sigs.length : Nat) : Int) - 1)) with
  | true =>
   try have hsg := has_sig (sig_both h1 h2)
   refine Ch.s (.ptr 2000 0) (.pure (.fldPtr _ _ _ rfl fld35_0 rfl)) ?_
   refine Ch.s (.d (.slice false 2 (x.sigs.map Sgn.d))) (.pure (.loadPtr1 _ _ rfl ag32 rfl rfl rfl)) ?_
   refine Ch.s (.d (.int .i64 sig)) (.pure (.move _ rfl rfl)) ?_
   refine Ch.s (.d (.ref (.agg [(.str ((x.sigs.getD ((sig).toNat) default).name)), (.int .i64 ((x.sigs.getD ((sig).toNat) default).kind))]))) (.pure (.idx _ _ _ 154 ((sig).toNat) rfl Tryz.underlying32 sz154 rfl rfl (by omega) get_mapA)) ?_
   refine Ch.s (.d (.ref (.int .i64 ((x.sigs.getD ((sig).toNat) default).kind)))) (.pure (.fldRef _ _ _ rfl fld154_1 rfl rfl rfl)) ?_
   refine Ch.s (.d (.int .i64 ((x.sigs.getD ((sig).toNat) default).kind))) (.pure (.loadRef1 _ _ rfl ag3 rfl rfl)) ?_
   refine Ch.s (.d (.bool (!(decide (((x.sigs.getD ((sig).toNat) default).kind) = 1))))) (.pure (.int _ _ _ _ _ rfl rfl rfl rfl)) ?_
   refine Ch.s (.d (.bool (!(decide (((x.sigs.getD ((sig).toNat) default).kind) = 1))))) (.pure (.pickT _ _ _ rfl rfl rfl)) ?_
   refine Ch.s (.d (.bool (!(decide (((x.sigs.getD ((sig).toNat) default).kind) = 1))))) (.pure (.assign _ rfl rfl)) ?_
   refine Ch.nil ?_
   refine T_ret ?_
   refine And.intro (.inr rfl) ?_
   exact Exists.intro [(.d (.bool (!(decide (((x.sigs.getD ((sig).toNat) default).kind) = 1)))))] (Exists.intro [] (Exists.intro [] (And.intro (.cons (.tmp 4 rfl) .nil) (And.intro (.cons (.any _) (.cons (.any _) .nil)) (And.intro (Exp.of (congrArg D.bool (by first | (rw [outSig, h1]; done) | (rw [outSig, h1]; rfl) | (rw [outSig, sig_both h1 h2]; done) | (rw [outSig, sig_both h1 h2]; rfl) | (simp_all [outSig, hasSigB]; done))) (.d _)) (And.intro rfl rfl))))))
  | false =>
   try have hsg := has_sig (sig_both h1 h2)
   refine Ch.skip rfl rfl ?_
   refine Ch.skip rfl rfl ?_
   refine Ch.skip rfl rfl ?_
   refine Ch.skip rfl rfl ?_
   refine Ch.skip rfl rfl ?_
   refine Ch.skip rfl rfl ?_
   refine Ch.skip rfl rfl ?_
   refine Ch.s (.d (.bool false)) (.pure (.pickF _ _ _ rfl rfl rfl)) ?_
   refine Ch.s (.d (.bool false)) (.pure (.assign _ rfl rfl)) ?_
   refine Ch.nil ?_
   refine T_ret ?_
   refine And.intro (.inr rfl) ?_
   exact Exists.intro [(.d (.bool false))] (Exists.intro [] (Exists.intro [] (And.intro (.cons (.tmp 4 rfl) .nil) (And.intro (.cons (.any _) (.cons (.any _) .nil)) (And.intro (Exp.of (congrArg D.bool (by first | (rw [outSig, h1]; done) | (rw [outSig, h1]; rfl) | (rw [outSig, sig_both h1 h2]; done) | (rw [outSig, sig_both h1 h2]; rfl) | (simp_all [outSig, hasSigB]; done))) (.d _)) (And.intro rfl rfl))))))
 | false =>
  refine Ch.skip rfl rfl ?_
  refine Ch.skip rfl rfl ?_
  refine Ch.skip rfl rfl ?_
  refine Ch.skip rfl rfl ?_
  refine Ch.skip rfl rfl ?_
  refine Ch.skip rfl rfl ?_
  refine Ch.s (.d (.bool false)) (.pure (.pickF _ _ _ rfl rfl rfl)) ?_
  refine Ch.s (.d (.bool false)) (.pure (.move _ rfl rfl)) ?_
  refine Ch.skip rfl rfl ?_
  refine Ch.skip rfl rfl ?_
  refine Ch.skip rfl rfl ?_
  refine Ch.skip rfl rfl ?_
  refine Ch.skip rfl rfl ?_
  refine Ch.skip rfl rfl ?_
  refine Ch.skip rfl rfl ?_
  refine Ch.s (.d (.bool false)) (.pure (.pickF _ _ _ rfl rfl rfl)) ?_
  refine Ch.s (.d (.bool false)) (.pure (.assign _ rfl rfl)) ?_
  refine Ch.nil ?_
  refine T_ret ?_
  refine And.intro (.inr rfl) ?_
  exact Exists.intro [(.d (.bool false))] (Exists.intro [] (Exists.intro [] (And.intro (.cons (.tmp 4 rfl) .nil) (And.intro (.cons (.any _) (.cons (.any _) .nil)) (And.intro (Exp.of (congrArg D.bool (by first | (rw [outSig, h1]; done) | (rw [outSig, h1]; rfl) | (rw [outSig, sig_both h1 h2]; done) | (rw [outSig, sig_both h1 h2]; rfl) | (simp_all [outSig, hasSigB]; done))) (.d _)) (And.intro rfl rfl))))))

theorem sp_impl_nextIsOne (m : Nat) (x : Sgr) (sig : Int) (hb : x.bulk ≤ 1048576) (hx : SgOk x) (hs : 0 ≤ sig ∧ sig.toNat < x.sigs.length) (hm : m < x.codes.length) : Sp Tryz.prog 147 [(.agg [(.slice false 2 (x.sigs.map Sgn.d)), (.slice false 1 (x.codes.map D.str)), (.slice false 4 (x.arcs.map Arc.d))]), (.int .i64 ((m : Nat) : Int)), (.int .i64 sig)] [.any, .any, .any] (.bool (onQ x sig 0 m)) := by
 refine Sp_intro (lend := true) Tryz.func147 rfl rfl rfl (fun _ => rfl) (fun c hc hX => ?_)
 obtain ⟨hp0, hp1, hp2⟩ := Sgr.parts hb
 have hn0 := bulkF_len hp0
 have hn1 := bulk_len hp1
 have hx1 := bulk_mem hp1
 have hn2 := bulkF_len hp2; have hxl := hx.len; have hlk : (x.codes.getD m default).length = x.sigs.length := (codes_at hx.codes (m : Int) (by omega) (by omega)).2
 refine T_seq ?_
 refine T_region hc ?_
 refine Ch.s (.ptr 3000 0) (.box 3000 _ _ rfl (.aggD _)) ?_
 refine Ch.s (.d (.bool false)) (.pure (.assign _ rfl rfl)) ?_
 refine Ch.nil ?_
 refine T_seq ?_
 refine T_regionD hc (by kernel_rfl) ?_
 refine ChD.s (.ptr 3000 1) [] (.pure (.fldPtr _ _ _ rfl fld35_1 rfl)) ?_
 refine ChD.s (.d (.slice false 1 (x.codes.map D.str))) [3000] (.pure (.loadPtr1 _ _ rfl ag23 rfl rfl rfl)) ?_
 refine ChD.s (.d (.int .i64 ((m : Nat) : Int))) [] (.pure (.move _ rfl rfl)) ?_
 refine ChD.s (.d (.ref (.str (x.codes.getD m default)))) [] (.pure (.idx _ _ _ 9 (m) rfl Tryz.underlying23 sz9 rfl rfl rfl get_mapA)) ?_
 refine ChD.s (.d (.str (x.codes.getD m default))) [] (.pure (.loadRef1 _ _ rfl ag9 rfl rfl)) ?_
 refine ChD.s (.d (.int .i64 sig)) [] (.pure (.move _ rfl rfl)) ?_
 refine ChD.s (.d (.int .u8 (((x.codes.getD m default).getD ((sig).toNat) 0).toNat : Int))) [] (.pure (.idxStr _ _ _ ((sig).toNat) rfl Tryz.underlying9 rfl rfl (by omega) get_strA)) ?_
 refine ChD.s (.d (.bool (decide ((((x.codes.getD m default).getD ((sig).toNat) 0) : UInt8) = 49)))) [] (.pure (.int _ _ _ _ _ rfl rfl rfl (u8_eql (((x.codes.getD m default).getD ((sig).toNat) 0) : UInt8) 49 rfl rfl))) ?_
 refine ChD.s (.agg [(.d (.slice false 2 (x.sigs.map Sgn.d))), (.d (.slice false 1 (x.codes.map D.str))), (.d (.slice false 4 (x.arcs.map Arc.d)))]) [3000] (.pure (.loadPtrA _ _ rfl ag35 sz35 rfl rfl (Nat.le_of_ble_eq_true rfl) rfl)) ?_
 refine ChD.s (.d (.int .i64 ((m : Nat) : Int))) [] (.pure (.move _ rfl rfl)) ?_
 refine ChD.s (.d (.int .i64 sig)) [] (.pure (.move _ rfl rfl)) ?_
 refine ChD.s (.d (.bool (excB x ((m : Nat) : Int) sig))) [] (.call 18000 141 _ _ _ en141 rfl (.inl rfl) (.cons (.lend (.agg (.cons (.d _) (.cons (.d _) (.cons (.d _) .nil))) rfl)) (.cons (.d _) (.cons (.d _) .nil))) rfl rfl (sp_impl_isExcited x ((m : Nat) : Int) sig (by first | assumption | omega | (rw [List.length_take]; omega) | (have := bulkF_mem hb _ (getD_mem (d := default) (by omega)); assumption) | (unfold bulkS at *; omega) | (simp_all; done))) (.skip _ _ (.skip _ _ (.skip _ _ .nil))) rfl) ?_
 refine ChD.s (.d (.bool (!(decide ((decide ((((x.codes.getD m default).getD ((sig).toNat) 0) : UInt8) = 49)) = (excB x ((m : Nat) : Int) sig)))))) [] (.pure (.neB _ _ _ _ rfl Tryz.underlying4 rfl rfl)) ?_
 refine ChD.s (.d (.bool (!(decide ((decide ((((x.codes.getD m default).getD ((sig).toNat) 0) : UInt8) = 49)) = (excB x ((m : Nat) : Int) sig)))))) [] (.pure (.assign _ rfl rfl)) ?_
 refine ChD.nil (And.intro ?_ (by kernel_rfl))
 refine T_ret ?_
 refine And.intro (.inr rfl) ?_
 exact Exists.intro [(.d (.bool (!(decide ((decide ((((x.codes.getD m default).getD ((sig).toNat) 0) : UInt8) = 49)) = (excB x ((m : Nat) : Int) sig))))))] (Exists.intro [] (Exists.intro [] (And.intro (.cons (.tmp 6 rfl) .nil) (And.intro (.cons (.any _) (.cons (.any _) (.cons (.any _) .nil))) (And.intro (Exp.of (congrArg D.bool (by first | rfl | (exact onQ_next x sig m) | (simp [onQ, offQ, bitQ, wayOn, wayOff, *]; done) | (simp only [onQ, offQ, bitQ, wayOn, wayOff, *]; done))) (.d _)) (And.intro rfl rfl))))))

theorem sp_impl_NextStateSets_1 (m : Nat) (x : Sgr) (sig : Int) (hb : x.bulk ≤ 1048576) (hx : SgOk x) (hs : 0 ≤ sig ∧ sig.toNat < x.sigs.length) (hm : m < x.codes.length) : Sp Tryz.prog 146 [(.int .i64 ((m : Nat) : Int)), (.ref (.agg [(.slice false 2 (x.sigs.map Sgn.d)), (.slice false 1 (x.codes.map D.str)), (.slice false 4 (x.arcs.map Arc.d))])), (.ref (.int .i64 sig))] [.any, .any, .any] (.bool (onQ x sig 0 m)) := by
 refine Sp_intro (lend := true) Tryz.func146 rfl rfl rfl (fun _ => rfl) (fun c hc hX => ?_)
 obtain ⟨hp0, hp1, hp2⟩ := Sgr.parts hb
 have hn0 := bulkF_len hp0
 have hn1 := bulk_len hp1
 have hx1 := bulk_mem hp1
 have hn2 := bulkF_len hp2; have hxl := hx.len; have hlk : (x.codes.getD m default).length = x.sigs.length := (codes_at hx.codes (m : Int) (by omega) (by omega)).2
 refine T_seq ?_
 refine T_region hc ?_
 refine Ch.s (.d (.bool false)) (.pure (.assign _ rfl rfl)) ?_
 refine Ch.nil ?_
 refine T_seq ?_
 refine T_region hc ?_
 refine Ch.s (.d (.agg [(.slice false 2 (x.sigs.map Sgn.d)), (.slice false 1 (x.codes.map D.str)), (.slice false 4 (x.arcs.map Arc.d))])) (.pure (.loadRefA _ _ rfl ag35 sz35 rfl)) ?_
 refine Ch.s (.d (.int .i64 ((m : Nat) : Int))) (.pure (.move _ rfl rfl)) ?_
 refine Ch.s (.d (.int .i64 sig)) (.pure (.loadRef1 _ _ rfl ag3 rfl rfl)) ?_
 refine Ch.s (.d (.bool (onQ x sig 0 m))) (.call 8000 147 _ _ _ en147 rfl (.inl rfl) (.cons (.d _) (.cons (.d _) (.cons (.d _) .nil))) rfl rfl (sp_impl_nextIsOne m x sig (by first | assumption | omega | (rw [List.length_take]; omega) | (have := bulkF_mem hb _ (getD_mem (d := default) (by omega)); assumption) | (unfold bulkS at *; omega) | (simp_all; done)) (by assumption) (by omega) (by omega)) (.skip _ _ (.skip _ _ (.skip _ _ .nil))) rfl) ?_
 refine Ch.s (.d (.bool (onQ x sig 0 m))) (.pure (.assign _ rfl rfl)) ?_
 refine Ch.nil ?_
 refine T_ret ?_
 refine And.intro (.inr rfl) ?_
 exact Exists.intro [(.d (.bool (onQ x sig 0 m)))] (Exists.intro [] (Exists.intro [] (And.intro (.cons (.tmp 4 rfl) .nil) (And.intro (.cons (.any _) (.cons (.any _) (.cons (.any _) .nil))) (And.intro (.d _) (And.intro rfl rfl))))))

theorem sp_impl_NextStateSets_2 (m : Nat) (x : Sgr) (sig : Int) (hb : x.bulk ≤ 1048576) (hx : SgOk x) (hs : 0 ≤ sig ∧ sig.toNat < x.sigs.length) (hm : m < x.codes.length) : Sp Tryz.prog 148 [(.int .i64 ((m : Nat) : Int)), (.ref (.agg [(.slice false 2 (x.sigs.map Sgn.d)), (.slice false 1 (x.codes.map D.str)), (.slice false 4 (x.arcs.map Arc.d))])), (.ref (.int .i64 sig))] [.any, .any, .any] (.bool (offQ x sig 0 m)) := by
 refine Sp_intro (lend := true) Tryz.func148 rfl rfl rfl (fun _ => rfl) (fun c hc hX => ?_)
 obtain ⟨hp0, hp1, hp2⟩ := Sgr.parts hb
 have hn0 := bulkF_len hp0
 have hn1 := bulk_len hp1
 have hx1 := bulk_mem hp1
 have hn2 := bulkF_len hp2; have hxl := hx.len; have hlk : (x.codes.getD m default).length = x.sigs.length := (codes_at hx.codes (m : Int) (by omega) (by omega)).2
 refine T_seq ?_
 refine T_region hc ?_
 refine Ch.s (.d (.bool false)) (.pure (.assign _ rfl rfl)) ?_
 refine Ch.nil ?_
 refine T_seq ?_
 refine T_region hc ?_
 refine Ch.s (.d (.agg [(.slice false 2 (x.sigs.map Sgn.d)), (.slice false 1 (x.codes.map D.str)), (.slice false 4 (x.arcs.map Arc.d))])) (.pure (.loadRefA _ _ rfl ag35 sz35 rfl)) ?_
 refine Ch.s (.d (.int .i64 ((m : Nat) : Int))) (.pure (.move _ rfl rfl)) ?_
 refine Ch.s (.d (.int .i64 sig)) (.pure (.loadRef1 _ _ rfl ag3 rfl rfl)) ?_
 refine Ch.s (.d (.bool (onQ x sig 0 m))) (.call 8000 147 _ _ _ en147 rfl (.inl rfl) (.cons (.d _) (.cons (.d _) (.cons (.d _) .nil))) rfl rfl (sp_impl_nextIsOne m x sig (by first | assumption | omega | (rw [List.length_take]; omega) | (have := bulkF_mem hb _ (getD_mem (d := default) (by omega)); assumption) | (unfold bulkS at *; omega) | (simp_all; done)) (by assumption) (by omega) (by omega)) (.skip _ _ (.skip _ _ (.skip _ _ .nil))) rfl) ?_
 refine Ch.s (.d (.bool (!(onQ x sig 0 m)))) (.pure (.not _ _ rfl rfl)) ?_
 refine Ch.s (.d (.bool (!(onQ x sig 0 m)))) (.pure (.assign _ rfl rfl)) ?_
 refine Ch.nil ?_
 refine T_ret ?_
 refine And.intro (.inr rfl) ?_
 exact Exists.intro [(.d (.bool (!(onQ x sig 0 m))))] (Exists.intro [] (Exists.intro [] (And.intro (.cons (.tmp 4 rfl) .nil) (And.intro (.cons (.any _) (.cons (.any _) (.cons (.any _) .nil))) (And.intro (Exp.of (congrArg D.bool (by first | rfl | (exact onQ_next x sig m) | (simp [onQ, offQ, bitQ, wayOn, wayOff, *]; done) | (simp only [onQ, offQ, bitQ, wayOn, wayOff, *]; done))) (.d _)) (And.intro rfl rfl))))))

theorem sp_impl_setsOf (x : Sgr) (f1 f2 : FuncId) (caps1 caps2 : List D) (p q : Nat → Bool) (hf1 : Enters Tryz.prog f1) (hf2 : Enters Tryz.prog f2) (hp : ∀ k : Nat, k < x.codes.length → Sp Tryz.prog f1 (.int .i64 (k : Int) :: caps1) (.any :: anys caps1) (.bool (p k))) (hq : ∀ k : Nat, k < x.codes.length → Sp Tryz.prog f2 (.int .i64 (k : Int) :: caps2) (.any :: anys caps2) (.bool (q k))) (hb : x.bulk ≤ 1048576) (hx : SgOk x) : Sp Tryz.prog 143 [(.agg [(.slice false 2 (x.sigs.map Sgn.d)), (.slice false 1 (x.codes.map D.str)), (.slice false 4 (x.arcs.map Arc.d))]), (.fn f1 caps1), (.fn f2 caps2)] [.any, .any, .any] (.tup [(.agg [(.slice true 1 ((setsOn x p q).map D.str)), (.slice true 1 ((setsOff x p q).map D.str))]), (.bool (setsOk x p q))]) := by
 refine Sp_intro (lend := true) Tryz.func143 rfl rfl rfl (fun _ => rfl) (fun c hc hX => ?_)
 obtain ⟨hp0, hp1, hp2⟩ := Sgr.parts hb
 have hn0 := bulkF_len hp0
 have hn1 := bulk_len hp1
 have hx1 := bulk_mem hp1
 have hn2 := bulkF_len hp2; have hxl := hx.len; have hxf := hx.few; have hop := osTo_le x p x.codes.length; have hoq := osTo_le x q x.codes.length; have hsp := selC_le x p x.codes.length; have hsq := selC_le x q x.codes.length
 refine T_seq ?_
 refine T_region hc ?_
 refine Ch.s (.ptr 3000 0) (.box 3000 _ _ rfl (.aggD _)) ?_
 refine Ch.s (.ptr 6000 0) (.alloc 6000 _ rfl zer29) ?_
 refine Ch.s (.d (.bool false)) (.pure (.assign _ rfl rfl)) ?_
 refine Ch.nil ?_
 refine T_seq ?_
 refine T_region hc ?_
 refine Ch.s (.agg [(.c (.slice none 0 0)), (.c (.slice none 0 0))]) (.build _ _ rfl stru29 .nil rfl) ?_
 refine Ch.s (.ptr 8000 0) (.alloc 8000 _ rfl zer29) ?_
 refine Ch.s .junk (.storePtr _ _ _ rfl rfl rfl (.agg _ rfl) sz29 (Nat.le_of_ble_eq_true rfl)) ?_
 refine Ch.nil ?_
 refine T_seq ?_
 refine T_seq ?_
 refine T_region hc ?_
 refine Ch.s (.ptr 3000 1) (.pure (.fldPtr _ _ _ rfl fld35_1 rfl)) ?_
 refine Ch.s (.d (.slice false 1 (x.codes.map D.str))) (.pure (.loadPtr1 _ _ rfl ag23 rfl rfl rfl)) ?_
 refine Ch.s (.d (.int .i64 ((x.codes.length : Nat) : Int))) (.pure (.len _ _ 9 rfl Tryz.underlying23 (.sh _ _) (by simp))) ?_
 refine Ch.s (.d (.int .i64 0)) (.pure (.move _ rfl rfl)) ?_
 refine Ch.nil ?_
 refine T_block ?_
 refine T_loop (ι := Nat) (fun k => { n := 64, sl := [(1, (.d (.fn f1 caps1))), (2, (.d (.fn f2 caps2))), (3, (.ptr 3000 0)), (6, (.ptr 6000 0)), (8, (.ptr 8000 0)), (13, (.d (.slice false 1 (x.codes.map D.str)))), (14, (.d (.int .i64 ((x.codes.length : Nat) : Int)))), (15, (.d (.int .i64 ((k : Nat) : Int))))], hp := [(3000, (some (.box [(.d (.slice false 2 (x.sigs.map Sgn.d))), (.d (.slice false 1 (x.codes.map D.str))), (.d (.slice false 4 (x.arcs.map Arc.d)))]))), (6000, (some (.box [(.c (.slice none 0 0)), (.c (.slice none 0 0))]))), (7700, (some (.row 1 ((selC x p k).map D.str)))), (7701, (some (.row 1 ((selC x q k).map D.str)))), (8000, (some (.box [(.row 7700), (.row 7701)])))], pin := [] }) (fun k => k ≤ x.codes.length) (fun k => x.codes.length - k) ⟨0, (by omega), (Wk.trans (Wk.nilcell 8000 0 990000 1 rfl rfl rfl) (Wk.trans (Wk.nilcell 8000 1 990001 1 rfl rfl rfl) (Wk.ren [(7700, 990000), (7701, 990001)] rfl rfl rfl rfl (And.intro rfl (And.intro rfl (And.intro rfl (And.intro rfl (And.intro rfl (And.intro rfl (And.intro rfl (And.intro (vI (by first | rfl | omega | (simp; done) | (simp; omega))) trivial)))))))) (And.intro rfl (And.intro rfl (And.intro (oR (by first | (rw [selC_zero]; rfl) | (exact push rfl (selC_yes (by assumption))) | (exact congrArg (List.map D.str) (selC_no (by assumption))))) (And.intro (oR (by first | (rw [selC_zero]; rfl) | (exact push rfl (selC_yes (by assumption))) | (exact congrArg (List.map D.str) (selC_no (by assumption))))) (And.intro (oB (Eq.trans (b := [(.row 990000), (.row 990001)]) rfl (by rfl))) trivial))))))))⟩ (fun k hp0 => ?_)
 have hpk := selC_le x p k; have hqk := selC_le x q k; have hpo : (Lib.compact ((selC x p k).mergeSort leS)).length ≤ k := osTo_le x p k; have hqo : (Lib.compact ((selC x q k).mergeSort leS)).length ≤ k := osTo_le x q k; have hpx : ∀ u ∈ Lib.compact ((selC x p k).mergeSort leS), u.length ≤ 1048576 := fun u hu => hx1 u (osTo_in (Q := p) hp0 u hu); have hqx : ∀ u ∈ Lib.compact ((selC x q k).mergeSort leS), u.length ≤ 1048576 := fun u hu => hx1 u (osTo_in (Q := q) hp0 u hu)
 refine T_seq ?_
 refine T_region hc ?_
 refine Ch.s (.d (.bool (decide (((k : Nat) : Int) < ((x.codes.length : Nat) : Int))))) (.pure (.int _ _ _ _ _ rfl rfl rfl rfl)) ?_
 refine Ch.nil ?_
 refine T_seq ?_
 refine T_cond (b := (decide (((k : Nat) : Int) < ((x.codes.length : Nat) : Int)))) rfl (fun h1 => ?_) (fun h1 => ?_)
 ·
  replace h1 := of_decide_eq_true h1
  refine T_skip ?_
  refine T_seq ?_
  refine T_block ?_
  refine T_seq ?_
  refine T_region hc ?_
  refine Ch.s (.d (.int .i64 ((k : Nat) : Int))) (.pure (.move _ rfl rfl)) ?_
  refine Ch.s (.d (.ref (.str (x.codes.getD k default)))) (.pure (.idx _ _ _ 9 (k) rfl Tryz.underlying23 sz9 rfl rfl rfl get_mapA)) ?_
  refine Ch.s (.d (.str (x.codes.getD k default))) (.pure (.loadRef1 _ _ rfl ag9 rfl rfl)) ?_
  refine Ch.s (.d (.int .i64 ((k : Nat) : Int))) (.pure (.assign _ rfl rfl)) ?_
  refine Ch.s (.d (.str (x.codes.getD k default))) (.pure (.assign _ rfl rfl)) ?_
  refine Ch.nil ?_
  refine T_seq ?_
  refine T_seq ?_
  refine T_region hc ?_
  refine Ch.s (.d (.fn f1 caps1)) (.pure (.move _ rfl rfl)) ?_
  refine Ch.s (.d (.int .i64 ((k : Nat) : Int))) (.pure (.move _ rfl rfl)) ?_
  refine Ch.step (v := (.d (.bool (p k)))) rfl (.callS 22000 f1 _ #[.tmp 21] _ hf1 rfl (.inr ⟨caps1, rfl, rfl⟩) (.cons (.d _) (exps_ds caps1)) rfl (hp _ (by omega)) (.skip _ _ (back_anys caps1)) rfl) rfl rfl ?_
  refine Ch.nil ?_
  refine T_cond (b := (p k)) rfl (fun h2 => ?_) (fun h2 => ?_)
  ·
   refine T_region hc ?_
   refine Ch.s (.ptr 8000 0) (.pure (.fldPtr _ _ _ rfl fld29_0 rfl)) ?_
   refine Ch.s (.row 7700) (.pure (.loadPtr1 _ _ rfl ag23 rfl rfl rfl)) ?_
   refine Ch.s (.d (.str (x.codes.getD k default))) (.pure (.move _ rfl rfl)) ?_
   refine Ch.s (.row 26000) (.slice 26000 _ 9 _ rfl sty23 (xs := [.tmp 25]) rfl rfl (.cons (.d _) .nil) rfl rfl (by decide)) ?_
   refine Ch.step (v := (.row 27000)) rfl (.append 27000 _ _ _ 9 rfl sty23 (by decide) (.rowK rfl) (.inr ⟨_, rfl, rfl⟩) (.row rfl rfl) rfl (by first | omega | (simp only [List.length_append, List.length_map, List.length_cons, List.length_nil]; omega) | (simp; omega) | (simp; done))) rfl rfl ?_
   refine Ch.s (.ptr 8000 0) (.pure (.fldPtr _ _ _ rfl fld29_0 rfl)) ?_
   refine Ch.s .junk (.storePtr _ _ _ rfl rfl rfl (.one _ rfl) sz23 (Nat.le_of_ble_eq_true rfl)) ?_
   refine Ch.nil ?_
   refine T_seq ?_
   refine T_region hc ?_
   refine Ch.s (.d (.fn f2 caps2)) (.pure (.move _ rfl rfl)) ?_
   refine Ch.s (.d (.int .i64 ((k : Nat) : Int))) (.pure (.move _ rfl rfl)) ?_
   refine Ch.step (v := (.d (.bool (q k)))) rfl (.callS 31000 f2 _ #[.tmp 30] _ hf2 rfl (.inr ⟨caps2, rfl, rfl⟩) (.cons (.d _) (exps_ds caps2)) rfl (hq _ (by omega)) (.skip _ _ (back_anys caps2)) rfl) rfl rfl ?_
   refine Ch.nil ?_
   refine T_cond (b := (q k)) rfl (fun h3 => ?_) (fun h3 => ?_)
   ·
    refine T_region hc ?_
    refine Ch.s (.ptr 8000 1) (.pure (.fldPtr _ _ _ rfl fld29_1 rfl)) ?_
    refine Ch.s (.row 7701) (.pure (.loadPtr1 _ _ rfl ag23 rfl rfl rfl)) ?_
    refine Ch.s (.d (.str (x.codes.getD k default))) (.pure (.move _ rfl rfl)) ?_
    refine Ch.s (.row 35000) (.slice 35000 _ 9 _ rfl sty23 (xs := [.tmp 34]) rfl rfl (.cons (.d _) .nil) rfl rfl (by decide)) ?_
    refine Ch.step (v := (.row 36000)) rfl (.append 36000 _ _ _ 9 rfl sty23 (by decide) (.rowK rfl) (.inr ⟨_, rfl, rfl⟩) (.row rfl rfl) rfl (by first | omega | (simp only [List.length_append, List.length_map, List.length_cons, List.length_nil]; omega) | (simp; omega) | (simp; done))) rfl rfl ?_
    refine Ch.s (.ptr 8000 1) (.pure (.fldPtr _ _ _ rfl fld29_1 rfl)) ?_
    refine Ch.s .junk (.storePtr _ _ _ rfl rfl rfl (.one _ rfl) sz23 (Nat.le_of_ble_eq_true rfl)) ?_
    refine Ch.nil ?_
    refine T_region hc ?_
    refine Ch.s (.d (.int .i64 (((k : Nat) : Int) + 1))) (.pure (.int _ _ _ _ _ rfl rfl rfl intV_addA)) ?_
    refine Ch.s (.d (.int .i64 (((k : Nat) : Int) + 1))) (.pure (.move _ rfl rfl)) ?_
    refine Ch.nil ?_
    refine Exists.intro (k + 1) (And.intro (by omega) (And.intro (by first | omega | (dsimp only; omega)) (Wk.ren [(7700, 27000), (7701, 36000)] rfl rfl rfl rfl (And.intro rfl (And.intro rfl (And.intro rfl (And.intro rfl (And.intro rfl (And.intro rfl (And.intro rfl (And.intro (vI (by first | rfl | omega | (simp; done) | (simp; omega))) trivial)))))))) (And.intro rfl (And.intro rfl (And.intro (oR (by first | (rw [selC_zero]; rfl) | (exact push rfl (selC_yes (by assumption))) | (exact congrArg (List.map D.str) (selC_no (by assumption))))) (And.intro (oR (by first | (rw [selC_zero]; rfl) | (exact push rfl (selC_yes (by assumption))) | (exact congrArg (List.map D.str) (selC_no (by assumption))))) (And.intro (oB (Eq.trans (b := [(.row 27000), (.row 36000)]) rfl (by rfl))) trivial))))))))
   ·
    refine T_skip ?_
    refine T_region hc ?_
    refine Ch.s (.d (.int .i64 (((k : Nat) : Int) + 1))) (.pure (.int _ _ _ _ _ rfl rfl rfl intV_addA)) ?_
    refine Ch.s (.d (.int .i64 (((k : Nat) : Int) + 1))) (.pure (.move _ rfl rfl)) ?_
    refine Ch.nil ?_
    refine Exists.intro (k + 1) (And.intro (by omega) (And.intro (by first | omega | (dsimp only; omega)) (Wk.ren [(7700, 27000)] rfl rfl rfl rfl (And.intro rfl (And.intro rfl (And.intro rfl (And.intro rfl (And.intro rfl (And.intro rfl (And.intro rfl (And.intro (vI (by first | rfl | omega | (simp; done) | (simp; omega))) trivial)))))))) (And.intro rfl (And.intro rfl (And.intro (oR (by first | (rw [selC_zero]; rfl) | (exact push rfl (selC_yes (by assumption))) | (exact congrArg (List.map D.str) (selC_no (by assumption))))) (And.intro (oR (by first | (rw [selC_zero]; rfl) | (exact push rfl (selC_yes (by assumption))) | (exact congrArg (List.map D.str) (selC_no (by assumption))))) (And.intro (oB (Eq.trans (b := [(.row 27000), (.row 7701)]) rfl (by rfl))) trivial))))))))
  ·
   refine T_skip ?_
   refine T_seq ?_
   refine T_region hc ?_
   refine Ch.s (.d (.fn f2 caps2)) (.pure (.move _ rfl rfl)) ?_
   refine Ch.s (.d (.int .i64 ((k : Nat) : Int))) (.pure (.move _ rfl rfl)) ?_
   refine Ch.step (v := (.d (.bool (q k)))) rfl (.callS 31000 f2 _ #[.tmp 30] _ hf2 rfl (.inr ⟨caps2, rfl, rfl⟩) (.cons (.d _) (exps_ds caps2)) rfl (hq _ (by omega)) (.skip _ _ (back_anys caps2)) rfl) rfl rfl ?_
   refine Ch.nil ?_
   refine T_cond (b := (q k)) rfl (fun h4 => ?_) (fun h4 => ?_)
   ·
    refine T_region hc ?_
    refine Ch.s (.ptr 8000 1) (.pure (.fldPtr _ _ _ rfl fld29_1 rfl)) ?_
    refine Ch.s (.row 7701) (.pure (.loadPtr1 _ _ rfl ag23 rfl rfl rfl)) ?_
    refine Ch.s (.d (.str (x.codes.getD k default))) (.pure (.move _ rfl rfl)) ?_
    refine Ch.s (.row 35000) (.slice 35000 _ 9 _ rfl sty23 (xs := [.tmp 34]) rfl rfl (.cons (.d _) .nil) rfl rfl (by decide)) ?_
    refine Ch.step (v := (.row 36000)) rfl (.append 36000 _ _ _ 9 rfl sty23 (by decide) (.rowK rfl) (.inr ⟨_, rfl, rfl⟩) (.row rfl rfl) rfl (by first | omega | (simp only [List.length_append, List.length_map, List.length_cons, List.length_nil]; omega) | (simp; omega) | (simp; done))) rfl rfl ?_
    refine Ch.s (.ptr 8000 1) (.pure (.fldPtr _ _ _ rfl fld29_1 rfl)) ?_
    refine Ch.s .junk (.storePtr _ _ _ rfl rfl rfl (.one _ rfl) sz23 (Nat.le_of_ble_eq_true rfl)) ?_
    refine Ch.nil ?_
    refine T_region hc ?_
    refine Ch.s (.d (.int .i64 (((k : Nat) : Int) + 1))) (.pure (.int _ _ _ _ _ rfl rfl rfl intV_addA)) ?_
    refine Ch.s (.d (.int .i64 (((k : Nat) : Int) + 1))) (.pure (.move _ rfl rfl)) ?_
    refine Ch.nil ?_
    refine Exists.intro (k + 1) (And.intro (by omega) (And.intro (by first | omega | (dsimp only; omega)) (Wk.ren [(7701, 36000)] rfl rfl rfl rfl (And.intro rfl (And.intro rfl (And.intro rfl (And.intro rfl (And.intro rfl (And.intro rfl (And.intro rfl (And.intro (vI (by first | rfl | omega | (simp; done) | (simp; omega))) trivial)))))))) (And.intro rfl (And.intro rfl (And.intro (oR (by first | (rw [selC_zero]; rfl) | (exact push rfl (selC_yes (by assumption))) | (exact congrArg (List.map D.str) (selC_no (by assumption))))) (And.intro (oR (by first | (rw [selC_zero]; rfl) | (exact push rfl (selC_yes (by assumption))) | (exact congrArg (List.map D.str) (selC_no (by assumption))))) (And.intro (oB (Eq.trans (b := [(.row 7700), (.row 36000)]) rfl (by rfl))) trivial))))))))
   ·
    refine T_skip ?_
    refine T_region hc ?_
    refine Ch.s (.d (.int .i64 (((k : Nat) : Int) + 1))) (.pure (.int _ _ _ _ _ rfl rfl rfl intV_addA)) ?_
    refine Ch.s (.d (.int .i64 (((k : Nat) : Int) + 1))) (.pure (.move _ rfl rfl)) ?_
    refine Ch.nil ?_
    refine Exists.intro (k + 1) (And.intro (by omega) (And.intro (by first | omega | (dsimp only; omega)) (Wk.of rfl rfl (And.intro rfl (And.intro rfl (And.intro rfl (And.intro rfl (And.intro rfl (And.intro rfl (And.intro rfl (And.intro (vI (by first | rfl | omega | (simp; done) | (simp; omega))) trivial)))))))) (And.intro rfl (And.intro rfl (And.intro (oR (by first | (rw [selC_zero]; rfl) | (exact push rfl (selC_yes (by assumption))) | (exact congrArg (List.map D.str) (selC_no (by assumption))))) (And.intro (oR (by first | (rw [selC_zero]; rfl) | (exact push rfl (selC_yes (by assumption))) | (exact congrArg (List.map D.str) (selC_no (by assumption))))) (And.intro rfl trivial))))))))
 ·
  replace h1 := of_decide_eq_false h1
  refine T_exit ?_
  refine T_seq ?_
  refine T_region hc ?_
  refine Ch.s (.ptr 8000 0) (.pure (.fldPtr _ _ _ rfl fld29_0 rfl)) ?_
  refine Ch.s (.row 7700) (.pure (.loadPtr1 _ _ rfl ag23 rfl rfl rfl)) ?_
  refine Ch.step (v := (.tup [])) rfl (.call 41000 124 _ _ _ en124 rfl (.inl rfl) (.cons (.row rfl) .nil) rfl (sol rfl (solids_c (solid_row (fun _ => rfl) _) rfl)) (sp_Sort_str (selC x p k) (by first | assumption | omega | (rw [List.length_take]; omega) | (have := bulkF_mem hb _ (getD_mem (d := default) (by omega)); assumption) | (unfold bulkS at *; omega) | (simp_all; done))) (.row _ _ _ .nil) rfl) rfl rfl ?_
  refine Ch.nil ?_
  refine T_seq ?_
  refine T_region hc ?_
  refine Ch.s (.ptr 8000 1) (.pure (.fldPtr _ _ _ rfl fld29_1 rfl)) ?_
  refine Ch.s (.row 7701) (.pure (.loadPtr1 _ _ rfl ag23 rfl rfl rfl)) ?_
  refine Ch.step (v := (.tup [])) rfl (.call 44000 124 _ _ _ en124 rfl (.inl rfl) (.cons (.row rfl) .nil) rfl (sol rfl (solids_c (solid_row (fun _ => rfl) _) rfl)) (sp_Sort_str (selC x q k) (by first | assumption | omega | (rw [List.length_take]; omega) | (have := bulkF_mem hb _ (getD_mem (d := default) (by omega)); assumption) | (unfold bulkS at *; omega) | (simp_all; done))) (.row _ _ _ .nil) rfl) rfl rfl ?_
  refine Ch.nil ?_
  refine T_seq ?_
  refine T_regionD hc (by kernel_rfl) ?_
  refine ChD.s (.ptr 8000 0) [] (.pure (.fldPtr _ _ _ rfl fld29_0 rfl)) ?_
  refine ChD.s (.row 7700) [8000] (.pure (.loadPtr1 _ _ rfl ag23 rfl rfl rfl)) ?_
  refine ChD.s (.row 47000) [7700] (.call 47000 209 _ _ _ en209 rfl (.inl rfl) (.cons (.row rfl) .nil) rfl (sol (solid_row (fun _ => rfl) _) rfl) (sp_Compact_str ((selC x p k).mergeSort leS) (by first | assumption | omega | (rw [List.length_mergeSort]; assumption) | (rw [List.length_mergeSort]; omega))) (.skip _ _ .nil) rfl) ?_
  refine ChD.s (.ptr 8000 1) [] (.pure (.fldPtr _ _ _ rfl fld29_1 rfl)) ?_
  refine ChD.s (.row 7701) [8000] (.pure (.loadPtr1 _ _ rfl ag23 rfl rfl rfl)) ?_
  refine ChD.s (.row 50000) [7701] (.call 50000 209 _ _ _ en209 rfl (.inl rfl) (.cons (.row rfl) .nil) rfl (sol (solid_row (fun _ => rfl) _) rfl) (sp_Compact_str ((selC x q k).mergeSort leS) (by first | assumption | omega | (rw [List.length_mergeSort]; assumption) | (rw [List.length_mergeSort]; omega))) (.skip _ _ .nil) rfl) ?_
  refine ChD.s (.ptr 8000 0) [] (.pure (.fldPtr _ _ _ rfl fld29_0 rfl)) ?_
  refine ChD.s .junk [7700, 7701, 8000, 47000] (.storePtr _ _ _ rfl rfl rfl (.one _ rfl) sz23 (Nat.le_of_ble_eq_true rfl)) ?_
  refine ChD.s (.ptr 8000 1) [] (.pure (.fldPtr _ _ _ rfl fld29_1 rfl)) ?_
  refine ChD.s .junk [7701, 8000, 47000, 50000] (.storePtr _ _ _ rfl rfl rfl (.one _ rfl) sz23 (Nat.le_of_ble_eq_true rfl)) ?_
  refine ChD.nil (And.intro ?_ (by kernel_rfl))
  refine T_seq ?_
  refine T_seq ?_
  refine T_region hc ?_
  refine Ch.s (.ptr 3000 0) (.pure (.fldPtr _ _ _ rfl fld35_0 rfl)) ?_
  refine Ch.s (.d (.slice false 2 (x.sigs.map Sgn.d))) (.pure (.loadPtr1 _ _ rfl ag32 rfl rfl rfl)) ?_
  refine Ch.s (.d (.int .i64 ((x.sigs.length : Nat) : Int))) (.pure (.len _ _ 154 rfl Tryz.underlying32 (.sh _ _) (by simp))) ?_
  refine Ch.s (.ptr 8000 0) (.pure (.fldPtr _ _ _ rfl fld29_0 rfl)) ?_
  refine Ch.s (.row 47000) (.pure (.loadPtr1 _ _ rfl ag23 rfl rfl rfl)) ?_
  refine Ch.s (.ptr 8000 1) (.pure (.fldPtr _ _ _ rfl fld29_1 rfl)) ?_
  refine Ch.s (.row 50000) (.pure (.loadPtr1 _ _ rfl ag23 rfl rfl rfl)) ?_
  refine Ch.s (.d (.bool (onoffB ((x.sigs.length : Nat) : Int) (Lib.compact ((selC x p k).mergeSort leS)) (Lib.compact ((selC x q k).mergeSort leS))))) (.call 60000 152 _ _ _ en152 rfl (.inl rfl) (.cons (.d _) (.cons (.lend (.row rfl (frozs_map (fun _ => rfl) _))) (.cons (.lend (.row rfl (frozs_map (fun _ => rfl) _))) .nil))) rfl rfl (sp_impl_IsValidOnOff ((x.sigs.length : Nat) : Int) (Lib.compact ((selC x p k).mergeSort leS)) (Lib.compact ((selC x q k).mergeSort leS)) (by first | omega | assumption | (exact hx _ (getD_mem (by omega))) | (exact hx _ (by assumption)) | (exact Nat.le_trans (hx _ (by assumption)) (by omega)) | (simp only [List.length_append, List.length_take, List.length_drop, List.length_cons, List.length_nil]; omega) | (simp_all; done)) (by first | omega | assumption | (exact hx _ (getD_mem (by omega))) | (exact hx _ (by assumption)) | (exact Nat.le_trans (hx _ (by assumption)) (by omega)) | (simp only [List.length_append, List.length_take, List.length_drop, List.length_cons, List.length_nil]; omega) | (simp_all; done)) (by first | omega | assumption | (exact hx _ (getD_mem (by omega))) | (exact hx _ (by assumption)) | (exact Nat.le_trans (hx _ (by assumption)) (by omega)) | (simp only [List.length_append, List.length_take, List.length_drop, List.length_cons, List.length_nil]; omega) | (simp_all; done)) (by first | omega | assumption | (exact hx _ (getD_mem (by omega))) | (exact hx _ (by assumption)) | (exact Nat.le_trans (hx _ (by assumption)) (by omega)) | (simp only [List.length_append, List.length_take, List.length_drop, List.length_cons, List.length_nil]; omega) | (simp_all; done))) (.skip _ _ (.skip _ _ (.skip _ _ .nil))) rfl) ?_
  refine Ch.s (.d (.bool (!(onoffB ((x.sigs.length : Nat) : Int) (Lib.compact ((selC x p k).mergeSort leS)) (Lib.compact ((selC x q k).mergeSort leS)))))) (.pure (.not _ _ rfl rfl)) ?_
  refine Ch.nil ?_
  refine T_cond (b := (!(onoffB ((x.sigs.length : Nat) : Int) (Lib.compact ((selC x p k).mergeSort leS)) (Lib.compact ((selC x q k).mergeSort leS))))) rfl (fun h5 => ?_) (fun h5 => ?_)
  ·
   replace h5 := nott h5
   refine T_seq ?_
   refine T_region hc ?_
   refine Ch.s (.agg [(.c (.slice none 0 0)), (.c (.slice none 0 0))]) (.build _ _ rfl stru29 .nil rfl) ?_
   refine Ch.s .junk (.storePtr _ _ _ rfl rfl rfl (.agg _ rfl) sz29 (Nat.le_of_ble_eq_true rfl)) ?_
   refine Ch.s (.d (.bool false)) (.pure (.assign _ rfl rfl)) ?_
   refine Ch.nil ?_
   refine T_ret ?_
   refine And.intro (.inr rfl) ?_
   exact Exists.intro [(.agg [(.c (.slice none 0 0)), (.c (.slice none 0 0))]), (.d (.bool false))] (Exists.intro [] (Exists.intro [] (And.intro (.cons (.cellA _ _ rfl rfl ag29 sz29) (.cons (.tmp 7 rfl) .nil)) (And.intro (.cons (.any _) (.cons (.any _) (.cons (.any _) .nil))) (And.intro (.tup (.cons (.agg (.cons (Exp.of (congrArg (D.slice true 1) (by have hke : x.codes.length = k := (by omega); first | (rw [setsOn_yes hke (by assumption)]; done) | (rw [setsOff_yes hke (by assumption)]; done) | (rw [setsOn_no (sets_is hke (by assumption))]; rfl) | (rw [setsOff_no (sets_is hke (by assumption))]; rfl) | (rw [sets_is hke (by assumption)]; done) | (exact (sets_is hke (by assumption)).symm))) (.nil true 1)) (.cons (Exp.of (congrArg (D.slice true 1) (by have hke : x.codes.length = k := (by omega); first | (rw [setsOn_yes hke (by assumption)]; done) | (rw [setsOff_yes hke (by assumption)]; done) | (rw [setsOn_no (sets_is hke (by assumption))]; rfl) | (rw [setsOff_no (sets_is hke (by assumption))]; rfl) | (rw [sets_is hke (by assumption)]; done) | (exact (sets_is hke (by assumption)).symm))) (.nil true 1)) .nil)) rfl) (.cons (Exp.of (congrArg D.bool (by have hke : x.codes.length = k := (by omega); first | (rw [setsOn_yes hke (by assumption)]; done) | (rw [setsOff_yes hke (by assumption)]; done) | (rw [setsOn_no (sets_is hke (by assumption))]; rfl) | (rw [setsOff_no (sets_is hke (by assumption))]; rfl) | (rw [sets_is hke (by assumption)]; done) | (exact (sets_is hke (by assumption)).symm))) (.d _)) .nil))) (And.intro rfl rfl))))))
  ·
   replace h5 := notf h5
   refine T_skip ?_
   refine T_seq ?_
   refine T_region hc ?_
   refine Ch.s (.agg [(.row 47000), (.row 50000)]) (.pure (.loadPtrA _ _ rfl ag29 sz29 rfl rfl (Nat.le_of_ble_eq_true rfl) rfl)) ?_
   refine Ch.s .junk (.storePtr _ _ _ rfl rfl rfl (.agg _ rfl) sz29 (Nat.le_of_ble_eq_true rfl)) ?_
   refine Ch.s (.d (.bool true)) (.pure (.assign _ rfl rfl)) ?_
   refine Ch.nil ?_
   refine T_ret ?_
   refine And.intro (.inr rfl) ?_
   exact Exists.intro [(.agg [(.row 47000), (.row 50000)]), (.d (.bool true))] (Exists.intro [] (Exists.intro [47000, 50000] (And.intro (.cons (.cellA _ _ rfl rfl ag29 sz29) (.cons (.tmp 7 rfl) .nil)) (And.intro (.cons (.any _) (.cons (.any _) (.cons (.any _) .nil))) (And.intro (.tup (.cons (.agg (.cons (Exp.of (congrArg (D.slice true 1) (by have hke : x.codes.length = k := (by omega); first | (rw [setsOn_yes hke (by assumption)]; done) | (rw [setsOff_yes hke (by assumption)]; done) | (rw [setsOn_no (sets_is hke (by assumption))]; rfl) | (rw [setsOff_no (sets_is hke (by assumption))]; rfl) | (rw [sets_is hke (by assumption)]; done) | (exact (sets_is hke (by assumption)).symm))) (.row rfl)) (.cons (Exp.of (congrArg (D.slice true 1) (by have hke : x.codes.length = k := (by omega); first | (rw [setsOn_yes hke (by assumption)]; done) | (rw [setsOff_yes hke (by assumption)]; done) | (rw [setsOn_no (sets_is hke (by assumption))]; rfl) | (rw [setsOff_no (sets_is hke (by assumption))]; rfl) | (rw [sets_is hke (by assumption)]; done) | (exact (sets_is hke (by assumption)).symm))) (.row rfl)) .nil)) rfl) (.cons (Exp.of (congrArg D.bool (by have hke : x.codes.length = k := (by omega); first | (rw [setsOn_yes hke (by assumption)]; done) | (rw [setsOff_yes hke (by assumption)]; done) | (rw [setsOn_no (sets_is hke (by assumption))]; rfl) | (rw [setsOff_no (sets_is hke (by assumption))]; rfl) | (rw [sets_is hke (by assumption)]; done) | (exact (sets_is hke (by assumption)).symm))) (.d _)) .nil))) (And.intro rfl rfl))))))

theorem sp_impl_NextStateSets (x : Sgr) (sig : Int) (hb : x.bulk ≤ 1048576) : Sp Tryz.prog 80 [(.agg [(.slice false 2 (x.sigs.map Sgn.d)), (.slice false 1 (x.codes.map D.str)), (.slice false 4 (x.arcs.map Arc.d))]), (.int .i64 sig)] [.any, .any] (.tup [(.agg [(.slice true 1 ((osOn x sig 0).map D.str)), (.slice true 1 ((osOff x sig 0).map D.str))]), (.bool (osOk x sig 0))]) := by
 refine Sp_intro (lend := true) Tryz.func80 rfl rfl rfl (fun _ => rfl) (fun c hc hX => ?_)
 obtain ⟨hp0, hp1, hp2⟩ := Sgr.parts hb
 have hn0 := bulkF_len hp0
 have hn1 := bulk_len hp1
 have hx1 := bulk_mem hp1
 have hn2 := bulkF_len hp2
 refine T_seq ?_
 refine T_region hc ?_
 refine Ch.s (.ptr 2000 0) (.box 2000 _ _ rfl (.aggD _)) ?_
 refine Ch.s (.ptr 3000 0) (.box 3000 _ _ rfl (.one _ rfl)) ?_
 refine Ch.s (.ptr 4000 0) (.alloc 4000 _ rfl zer29) ?_
 refine Ch.s (.d (.bool false)) (.pure (.assign _ rfl rfl)) ?_
 refine Ch.nil ?_
 refine T_seq ?_
 refine T_seq ?_
 refine T_region hc ?_
 refine Ch.s (.agg [(.d (.slice false 2 (x.sigs.map Sgn.d))), (.d (.slice false 1 (x.codes.map D.str))), (.d (.slice false 4 (x.arcs.map Arc.d)))]) (.pure (.loadPtrA _ _ rfl ag35 sz35 rfl rfl (Nat.le_of_ble_eq_true rfl) rfl)) ?_
 refine Ch.s (.d (.int .i64 sig)) (.pure (.loadPtr1 _ _ rfl ag3 rfl rfl rfl)) ?_
 refine Ch.s (.d (.bool (outSig x sig))) (.call 8000 139 _ _ _ en139 rfl (.inl rfl) (.cons (.lend (.agg (.cons (.d _) (.cons (.d _) (.cons (.d _) .nil))) rfl)) (.cons (.d _) .nil)) rfl rfl (sp_impl_isOutput x sig (by first | assumption | omega | (rw [List.length_take]; omega) | (have := bulkF_mem hb _ (getD_mem (d := default) (by omega)); assumption) | (unfold bulkS at *; omega) | (simp_all; done))) (.skip _ _ (.skip _ _ .nil)) rfl) ?_
 refine Ch.s (.d (.bool (!(outSig x sig)))) (.pure (.not _ _ rfl rfl)) ?_
 refine Ch.nil ?_
 refine T_cond (b := (!(outSig x sig))) rfl (fun h1 => ?_) (fun h1 => ?_)
 ·
  replace h1 := nott h1
  try have hsr := outSig_has h1
  try have hx := sg_has hsr.1
  try have hsx := hsr.2
  refine T_seq ?_
  refine T_region hc ?_
  refine Ch.s (.agg [(.c (.slice none 0 0)), (.c (.slice none 0 0))]) (.build _ _ rfl stru29 .nil rfl) ?_
  refine Ch.s .junk (.storePtr _ _ _ rfl rfl rfl (.agg _ rfl) sz29 (Nat.le_of_ble_eq_true rfl)) ?_
  refine Ch.s (.d (.bool false)) (.pure (.assign _ rfl rfl)) ?_
  refine Ch.nil ?_
  refine T_ret ?_
  refine And.intro (.inr rfl) ?_
  exact Exists.intro [(.agg [(.c (.slice none 0 0)), (.c (.slice none 0 0))]), (.d (.bool false))] (Exists.intro [] (Exists.intro [] (And.intro (.cons (.cellA _ _ rfl rfl ag29 sz29) (.cons (.tmp 5 rfl) .nil)) (And.intro (.cons (.any _) (.cons (.any _) .nil)) (And.intro (.tup (.cons (.agg (.cons (Exp.of (congrArg (D.slice true 1) (by first | (rw [osOn, h1, if_pos rfl]; done) | (rw [osOff, h1, if_pos rfl]; done) | (rw [osOk, h1, Bool.true_and]; done) | (rw [osOn, h1]; rfl) | (rw [osOff, h1]; rfl) | (rw [osOk, h1]; rfl))) (.nil true 1)) (.cons (Exp.of (congrArg (D.slice true 1) (by first | (rw [osOn, h1, if_pos rfl]; done) | (rw [osOff, h1, if_pos rfl]; done) | (rw [osOk, h1, Bool.true_and]; done) | (rw [osOn, h1]; rfl) | (rw [osOff, h1]; rfl) | (rw [osOk, h1]; rfl))) (.nil true 1)) .nil)) rfl) (.cons (Exp.of (congrArg D.bool (by first | (rw [osOn, h1, if_pos rfl]; done) | (rw [osOff, h1, if_pos rfl]; done) | (rw [osOk, h1, Bool.true_and]; done) | (rw [osOn, h1]; rfl) | (rw [osOff, h1]; rfl) | (rw [osOk, h1]; rfl))) (.d _)) .nil))) (And.intro rfl rfl))))))
 ·
  replace h1 := notf h1
  try have hsr := outSig_has h1
  try have hx := sg_has hsr.1
  try have hsx := hsr.2
  refine T_skip ?_
  refine T_seq ?_
  refine T_region hc ?_
  refine Ch.s (.agg [(.d (.slice false 2 (x.sigs.map Sgn.d))), (.d (.slice false 1 (x.codes.map D.str))), (.d (.slice false 4 (x.arcs.map Arc.d)))]) (.pure (.loadPtrA _ _ rfl ag35 sz35 rfl rfl (Nat.le_of_ble_eq_true rfl) rfl)) ?_
  refine Ch.s (.fn 146 [(.ptr 2000 0), (.ptr 3000 0)]) (.pure (.func _ _ rfl rfl)) ?_
  refine Ch.s (.fn 148 [(.ptr 2000 0), (.ptr 3000 0)]) (.pure (.func _ _ rfl rfl)) ?_
  refine Ch.step (v := (.tup [(.agg [(.row 14000), (.row 14001)]), (.d (.bool (setsOk x (onQ x sig 0) (offQ x sig 0))))])) rfl (.call 14000 143 _ _ _ en143 rfl (.inl rfl) (.cons (.lend (.agg (.cons (.d _) (.cons (.d _) (.cons (.d _) .nil))) rfl)) (.cons (.lend (.fn (.cons (.ptr rfl (.agg (.cons (.d _) (.cons (.d _) (.cons (.d _) .nil))) rfl)) (.cons (.ptr rfl (.one (.d _) rfl)) .nil)))) (.cons (.lend (.fn (.cons (.ptr rfl (.agg (.cons (.d _) (.cons (.d _) (.cons (.d _) .nil))) rfl)) (.cons (.ptr rfl (.one (.d _) rfl)) .nil)))) .nil))) rfl (sol (by rw [D.solid]; exact solids_c (by rw [D.solid]; exact solids_c (solid_row (fun _ => rfl) _) (solids_c (solid_row (fun _ => rfl) _) rfl)) rfl) rfl) (sp_impl_setsOf x 146 148 [(.ref (.agg [(.slice false 2 (x.sigs.map Sgn.d)), (.slice false 1 (x.codes.map D.str)), (.slice false 4 (x.arcs.map Arc.d))])), (.ref (.int .i64 sig))] [(.ref (.agg [(.slice false 2 (x.sigs.map Sgn.d)), (.slice false 1 (x.codes.map D.str)), (.slice false 4 (x.arcs.map Arc.d))])), (.ref (.int .i64 sig))] (onQ x sig 0) (offQ x sig 0) en146 en148 (fun m hm => sp_impl_NextStateSets_1 m x sig (by first | assumption | omega | (rw [List.length_take]; omega) | (have := bulkF_mem hb _ (getD_mem (d := default) (by omega)); assumption) | (unfold bulkS at *; omega) | (simp_all; done)) (by assumption) (by omega) hm) (fun m hm => sp_impl_NextStateSets_2 m x sig (by first | assumption | omega | (rw [List.length_take]; omega) | (have := bulkF_mem hb _ (getD_mem (d := default) (by omega)); assumption) | (unfold bulkS at *; omega) | (simp_all; done)) (by assumption) (by omega) hm) (by first | assumption | omega | (rw [List.length_take]; omega) | (have := bulkF_mem hb _ (getD_mem (d := default) (by omega)); assumption) | (unfold bulkS at *; omega) | (simp_all; done)) (by assumption)) (.skip _ _ (.skip _ _ (.skip _ _ .nil))) rfl) rfl rfl ?_
  refine Ch.s (.agg [(.row 14000), (.row 14001)]) (.pure (.extract _ rfl rfl rfl)) ?_
  refine Ch.s (.d (.bool (setsOk x (onQ x sig 0) (offQ x sig 0)))) (.pure (.extract _ rfl rfl rfl)) ?_
  refine Ch.s .junk (.storePtr _ _ _ rfl rfl rfl (.agg _ rfl) sz29 (Nat.le_of_ble_eq_true rfl)) ?_
  refine Ch.s (.d (.bool (setsOk x (onQ x sig 0) (offQ x sig 0)))) (.pure (.assign _ rfl rfl)) ?_
  refine Ch.nil ?_
  refine T_ret ?_
  refine And.intro (.inr rfl) ?_
  exact Exists.intro [(.agg [(.row 14000), (.row 14001)]), (.d (.bool (setsOk x (onQ x sig 0) (offQ x sig 0))))] (Exists.intro [] (Exists.intro [14000, 14001] (And.intro (.cons (.cellA _ _ rfl rfl ag29 sz29) (.cons (.tmp 5 rfl) .nil)) (And.intro (.cons (.any _) (.cons (.any _) .nil)) (And.intro (.tup (.cons (.agg (.cons (Exp.of (congrArg (D.slice true 1) (by first | (rw [osOn, h1, if_pos rfl]; done) | (rw [osOff, h1, if_pos rfl]; done) | (rw [osOk, h1, Bool.true_and]; done) | (rw [osOn, h1]; rfl) | (rw [osOff, h1]; rfl) | (rw [osOk, h1]; rfl))) (.row rfl)) (.cons (Exp.of (congrArg (D.slice true 1) (by first | (rw [osOn, h1, if_pos rfl]; done) | (rw [osOff, h1, if_pos rfl]; done) | (rw [osOk, h1, Bool.true_and]; done) | (rw [osOn, h1]; rfl) | (rw [osOff, h1]; rfl) | (rw [osOk, h1]; rfl))) (.row rfl)) .nil)) rfl) (.cons (Exp.of (congrArg D.bool (by first | (rw [osOn, h1, if_pos rfl]; done) | (rw [osOff, h1, if_pos rfl]; done) | (rw [osOk, h1, Bool.true_and]; done) | (rw [osOn, h1]; rfl) | (rw [osOff, h1]; rfl) | (rw [osOk, h1]; rfl))) (.d _)) .nil))) (And.intro rfl rfl))))))

theorem sp_spec_l14Put (xs : List (List UInt8)) (u : List UInt8) (hn : xs.length ≤ 1000000) : Sp Tryz.prog 250 [(.slice false 1 (xs.map D.str)), (.str u)] [.any, .any] (.slice true 1 ((put14 xs u).map D.str)) := by
 refine Sp_intro (lend := true) Tryz.func250 rfl rfl rfl (fun _ => rfl) (fun c hc hX => ?_)
 refine T_seq ?_
 refine T_region hc ?_
 refine Ch.s (.c (.slice none 0 0)) (.pure (.assign _ rfl rfl)) ?_
 refine Ch.nil ?_
 refine T_seq ?_
 refine T_region hc ?_
 refine Ch.s (.d (.int .i64 0)) (.pure (.assign _ rfl rfl)) ?_
 refine Ch.nil ?_
 refine T_seq ?_
 refine T_block ?_
 refine T_loop (ι := Nat) (fun k => { n := 31, sl := [(0, (.d (.slice false 1 (xs.map D.str)))), (1, (.d (.str u))), (5, (.d (.int .i64 ((k : Nat) : Int))))], hp := [], pin := [] }) (fun k => k ≤ xs.length ∧ ∀ j, j < k → Op.bytesLess (xs.getD j default) u = true) (fun k => xs.length - k) ⟨0, ⟨by omega, fun j hj => by omega⟩, (Wk.of rfl rfl (And.intro rfl (And.intro rfl (And.intro (vI (by first | rfl | omega | (simp; done) | (simp; omega))) trivial))) trivial)⟩ (fun k hp0 => ?_)
 refine T_seq ?_
 refine T_seq ?_
 refine T_region hc ?_
 refine Ch.s (.d (.int .i64 ((k : Nat) : Int))) (.pure (.move _ rfl rfl)) ?_
 refine Ch.s (.d (.slice false 1 (xs.map D.str))) (.pure (.move _ rfl rfl)) ?_
 refine Ch.s (.d (.int .i64 ((xs.length : Nat) : Int))) (.pure (.len _ _ 9 rfl Tryz.underlying23 (.sh _ _) (by simp))) ?_
 refine Ch.s (.d (.bool (decide (((k : Nat) : Int) < ((xs.length : Nat) : Int))))) (.pure (.int _ _ _ _ _ rfl rfl rfl rfl)) ?_
 refine Ch.s (.d (.bool (decide (((k : Nat) : Int) < ((xs.length : Nat) : Int))))) (.pure (.move _ rfl rfl)) ?_
 cases h1 : (decide (((k : Nat) : Int) < ((xs.length : Nat) : Int))) with
 | true =>
  replace h1 := of_decide_eq_true h1
  refine Ch.s (.d (.slice false 1 (xs.map D.str))) (.pure (.move _ rfl rfl)) ?_
  refine Ch.s (.d (.int .i64 ((k : Nat) : Int))) (.pure (.move _ rfl rfl)) ?_
  refine Ch.s (.d (.ref (.str (xs.getD k default)))) (.pure (.idx _ _ _ 9 (k) rfl Tryz.underlying23 sz9 rfl rfl rfl get_mapA)) ?_
  refine Ch.s (.d (.str (xs.getD k default))) (.pure (.loadRef1 _ _ rfl ag9 rfl rfl)) ?_
  refine Ch.s (.d (.str u)) (.pure (.move _ rfl rfl)) ?_
  refine Ch.s (.d (.bool (Op.bytesLess (xs.getD k default) u))) (.pure (.str _ _ _ _ _ rfl rfl rfl rfl)) ?_
  refine Ch.s (.d (.bool (Op.bytesLess (xs.getD k default) u))) (.pure (.pickT _ _ _ rfl rfl rfl)) ?_
  refine Ch.nil ?_
  refine T_cond (b := (Op.bytesLess (xs.getD k default) u)) rfl (fun h2 => ?_) (fun h2 => ?_)
  ·
   refine T_skip ?_
   refine T_block ?_
   refine T_region hc ?_
   refine Ch.s (.d (.int .i64 ((k : Nat) : Int))) (.pure (.move _ rfl rfl)) ?_
   refine Ch.s (.d (.int .i64 (((k : Nat) : Int) + 1))) (.pure (.int _ _ _ _ _ rfl rfl rfl intV_addA)) ?_
   refine Ch.s (.d (.int .i64 (((k : Nat) : Int) + 1))) (.pure (.assign _ rfl rfl)) ?_
   refine Ch.nil ?_
   refine Exists.intro (k + 1) (And.intro ⟨by omega, upto_succ hp0.2 (by assumption)⟩ (And.intro (by first | omega | (dsimp only; omega)) (Wk.of rfl rfl (And.intro rfl (And.intro rfl (And.intro (vI (by first | rfl | omega | (simp; done) | (simp; omega))) trivial))) trivial)))
  ·
   refine T_exit ?_
   refine T_seq ?_
   refine T_regionD hc (by kernel_rfl) ?_
   refine ChD.s (.d (.slice false 1 (xs.map D.str))) [] (.pure (.move _ rfl rfl)) ?_
   refine ChD.s (.d (.int .i64 ((k : Nat) : Int))) [] (.pure (.move _ rfl rfl)) ?_
   refine ChD.s (.d (.slice false 1 ((xs.take k).map D.str))) [] (.pure (.sliceSh _ _ _ _ 9 (0) (k) rfl Tryz.underlying23 sz9 rfl (bndN rfl) (bndS rfl rfl) (by simp <;> omega) (by simp <;> omega) (by first | (simp [List.map_take, List.map_drop]; done) | (rw [List.take_length, List.map_drop]; done)))) ?_
   refine ChD.s (.row 23000) [] (.call 23000 183 _ _ _ en183 rfl (.inl rfl) (.cons (.d _) .nil) rfl (sol (solid_row (fun _ => rfl) _) rfl) (sp_spec_l1OwnS (xs.take k) (by first | omega | assumption | (exact hx _ (getD_mem (by omega))) | (exact hx _ (by assumption)) | (exact Nat.le_trans (hx _ (by assumption)) (by omega)) | (simp only [List.length_append, List.length_take, List.length_drop, List.length_cons, List.length_nil]; omega) | (simp_all; done))) (.skip _ _ .nil) rfl) ?_
   refine ChD.s (.d (.str u)) [] (.pure (.move _ rfl rfl)) ?_
   refine ChD.s (.row 25000) [] (.slice 25000 _ 9 _ rfl sty23 (xs := [.tmp 24]) rfl rfl (.cons (.d _) .nil) rfl rfl (by decide)) ?_
   refine ChD.s (.row 26000) [23000, 25000] (.append 26000 _ _ _ 9 rfl sty23 (by decide) (.rowK rfl) (.inr ⟨_, rfl, rfl⟩) (.row rfl rfl) rfl (by first | omega | (simp only [List.length_append, List.length_map, List.length_cons, List.length_nil]; omega) | (simp; omega) | (simp; done))) ?_
   refine ChD.s (.d (.slice false 1 (xs.map D.str))) [] (.pure (.move _ rfl rfl)) ?_
   refine ChD.s (.d (.int .i64 ((k : Nat) : Int))) [] (.pure (.move _ rfl rfl)) ?_
   refine ChD.s (.d (.slice false 1 ((xs.drop k).map D.str))) [] (.pure (.sliceSh _ _ _ _ 9 (k) ((xs.map D.str).length) rfl Tryz.underlying23 sz9 rfl (bndS rfl rfl) (bndN rfl) (by simp <;> omega) (by simp <;> omega) (by first | (simp [List.map_take, List.map_drop]; done) | (rw [List.take_length, List.map_drop]; done)))) ?_
   refine ChD.s (.row 30000) [26000] (.append 30000 _ _ _ 9 rfl sty23 (by decide) (.rowK rfl) (.inr ⟨_, rfl, rfl⟩) (.sh _ _) rfl (by first | omega | (simp only [List.length_append, List.length_map, List.length_cons, List.length_nil]; omega) | (simp; omega) | (simp; done))) ?_
   refine ChD.s (.row 30000) [] (.pure (.assign _ rfl rfl)) ?_
   refine ChD.nil (And.intro ?_ (by kernel_rfl))
   refine T_ret ?_
   refine And.intro (.inr rfl) ?_
   exact Exists.intro [(.row 30000)] (Exists.intro [] (Exists.intro [30000] (And.intro (.cons (.tmp 4 rfl) .nil) (And.intro (.cons (.any _) (.cons (.any _) .nil)) (And.intro (Exp.of (congrArg (D.slice true 1) (by (rw [← put14_new (k := k) (by omega) hp0.2 (fun hl => by first | assumption | (exfalso; omega))]; simp only [List.map_append, List.map_take, List.map_drop]; rfl))) (.row rfl)) (And.intro rfl rfl))))))
 | false =>
  replace h1 := of_decide_eq_false h1
  refine Ch.skip rfl rfl ?_
  refine Ch.skip rfl rfl ?_
  refine Ch.skip rfl rfl ?_
  refine Ch.skip rfl rfl ?_
  refine Ch.skip rfl rfl ?_
  refine Ch.skip rfl rfl ?_
  refine Ch.s (.d (.bool false)) (.pure (.pickF _ _ _ rfl rfl rfl)) ?_
  refine Ch.nil ?_
  refine T_cond (b := false) rfl (fun h => nomatch h) (fun _ => ?_)
  refine T_exit ?_
  refine T_seq ?_
  refine T_regionD hc (by kernel_rfl) ?_
  refine ChD.s (.d (.slice false 1 (xs.map D.str))) [] (.pure (.move _ rfl rfl)) ?_
  refine ChD.s (.d (.int .i64 ((k : Nat) : Int))) [] (.pure (.move _ rfl rfl)) ?_
  refine ChD.s (.d (.slice false 1 ((xs.take k).map D.str))) [] (.pure (.sliceSh _ _ _ _ 9 (0) (k) rfl Tryz.underlying23 sz9 rfl (bndN rfl) (bndS rfl rfl) (by simp <;> omega) (by simp <;> omega) (by first | (simp [List.map_take, List.map_drop]; done) | (rw [List.take_length, List.map_drop]; done)))) ?_
  refine ChD.s (.row 23000) [] (.call 23000 183 _ _ _ en183 rfl (.inl rfl) (.cons (.d _) .nil) rfl (sol (solid_row (fun _ => rfl) _) rfl) (sp_spec_l1OwnS (xs.take k) (by first | omega | assumption | (exact hx _ (getD_mem (by omega))) | (exact hx _ (by assumption)) | (exact Nat.le_trans (hx _ (by assumption)) (by omega)) | (simp only [List.length_append, List.length_take, List.length_drop, List.length_cons, List.length_nil]; omega) | (simp_all; done))) (.skip _ _ .nil) rfl) ?_
  refine ChD.s (.d (.str u)) [] (.pure (.move _ rfl rfl)) ?_
  refine ChD.s (.row 25000) [] (.slice 25000 _ 9 _ rfl sty23 (xs := [.tmp 24]) rfl rfl (.cons (.d _) .nil) rfl rfl (by decide)) ?_
  refine ChD.s (.row 26000) [23000, 25000] (.append 26000 _ _ _ 9 rfl sty23 (by decide) (.rowK rfl) (.inr ⟨_, rfl, rfl⟩) (.row rfl rfl) rfl (by first | omega | (simp only [List.length_append, List.length_map, List.length_cons, List.length_nil]; omega) | (simp; omega) | (simp; done))) ?_
  refine ChD.s (.d (.slice false 1 (xs.map D.str))) [] (.pure (.move _ rfl rfl)) ?_
  refine ChD.s (.d (.int .i64 ((k : Nat) : Int))) [] (.pure (.move _ rfl rfl)) ?_
  refine ChD.s (.d (.slice false 1 ((xs.drop k).map D.str))) [] (.pure (.sliceSh _ _ _ _ 9 (k) ((xs.map D.str).length) rfl Tryz.underlying23 sz9 rfl (bndS rfl rfl) (bndN rfl) (by simp <;> omega) (by simp <;> omega) (by first | (simp [List.map_take, List.map_drop]; done) | (rw [List.take_length, List.map_drop]; done)))) ?_
  refine ChD.s (.row 30000) [26000] (.append 30000 _ _ _ 9 rfl sty23 (by decide) (.rowK rfl) (.inr ⟨_, rfl, rfl⟩) (.sh _ _) rfl (by first | omega | (simp only [List.length_append, List.length_map, List.length_cons, List.length_nil]; omega) | (simp; omega) | (simp; done))) ?_
  refine ChD.s (.row 30000) [] (.pure (.assign _ rfl rfl)) ?_
  refine ChD.nil (And.intro ?_ (by kernel_rfl))
  refine T_ret ?_
  refine And.intro (.inr rfl) ?_
  exact Exists.intro [(.row 30000)] (Exists.intro [] (Exists.intro [30000] (And.intro (.cons (.tmp 4 rfl) .nil) (And.intro (.cons (.any _) (.cons (.any _) .nil)) (And.intro (Exp.of (congrArg (D.slice true 1) (by (rw [← put14_new (k := k) (by omega) hp0.2 (fun hl => by first | assumption | (exfalso; omega))]; simp only [List.map_append, List.map_take, List.map_drop]; rfl))) (.row rfl)) (And.intro rfl rfl))))))

theorem sp_spec_l15Put (xs : List (List UInt8)) (u : List UInt8) (hn : xs.length ≤ 1000000) : Sp Tryz.prog 204 [(.slice true 1 (xs.map D.str)), (.str u)] [.any, .any] (.slice true 1 ((put15 xs u).map D.str)) := by
 refine Sp_intro (lend := false) Tryz.func204 rfl rfl rfl (fun h => nomatch h) (fun c hc hX => ?_)
 refine T_seq ?_
 refine T_region hc ?_
 refine Ch.s (.c (.slice none 0 0)) (.pure (.assign _ rfl rfl)) ?_
 refine Ch.nil ?_
 refine T_seq ?_
 refine T_seq ?_
 refine T_region hc ?_
 refine Ch.s (.row 1) (.pure (.move _ rfl rfl)) ?_
 refine Ch.s (.d (.str u)) (.pure (.move _ rfl rfl)) ?_
 refine Ch.s (.d (.bool (hasS xs u))) (.call 7000 79 _ _ _ en79 rfl (.inl rfl) (.cons (.lend (.row rfl (frozs_map (fun _ => rfl) _))) (.cons (.d _) .nil)) rfl rfl (sp_spec_l1HasS xs u (by first | omega | assumption | (exact hx _ (getD_mem (by omega))) | (exact hx _ (by assumption)) | (exact Nat.le_trans (hx _ (by assumption)) (by omega)) | (simp only [List.length_append, List.length_take, List.length_drop, List.length_cons, List.length_nil]; omega) | (simp_all; done))) (.skip _ _ (.skip _ _ .nil)) rfl) ?_
 refine Ch.nil ?_
 refine T_cond (b := (hasS xs u)) rfl (fun h1 => ?_) (fun h1 => ?_)
 ·
  refine T_seq ?_
  refine T_region hc ?_
  refine Ch.s (.row 1) (.pure (.move _ rfl rfl)) ?_
  refine Ch.s (.row 1) (.pure (.assign _ rfl rfl)) ?_
  refine Ch.nil ?_
  refine T_ret ?_
  refine And.intro (.inr rfl) ?_
  exact Exists.intro [(.row 1)] (Exists.intro [] (Exists.intro [1] (And.intro (.cons (.tmp 4 rfl) .nil) (And.intro (.cons (.any _) (.cons (.any _) .nil)) (And.intro (Exp.of (congrArg (D.slice true 1) (by first | (rw [put15, h1]; rfl) | (rw [put15, h1]; done))) (.row rfl)) (And.intro rfl rfl))))))
 ·
  refine T_skip ?_
  refine T_seq ?_
  refine T_region hc ?_
  refine Ch.s (.row 1) (.pure (.move _ rfl rfl)) ?_
  refine Ch.s (.d (.str u)) (.pure (.move _ rfl rfl)) ?_
  refine Ch.step (v := (.row 11000)) rfl (.call 11000 250 _ _ _ en250 rfl (.inl rfl) (.cons (.lend (.row rfl (frozs_map (fun _ => rfl) _))) (.cons (.d _) .nil)) rfl (sol (solid_row (fun _ => rfl) _) rfl) (sp_spec_l14Put xs u (by first | assumption | omega | (rw [List.length_take]; omega) | (have := bulkF_mem hb _ (getD_mem (d := default) (by omega)); assumption) | (unfold bulkS at *; omega) | (simp_all; done))) (.skip _ _ (.skip _ _ .nil)) rfl) rfl rfl ?_
  refine Ch.s (.row 11000) (.pure (.assign _ rfl rfl)) ?_
  refine Ch.nil ?_
  refine T_ret ?_
  refine And.intro (.inr rfl) ?_
  exact Exists.intro [(.row 11000)] (Exists.intro [] (Exists.intro [11000] (And.intro (.cons (.tmp 4 rfl) .nil) (And.intro (.cons (.any _) (.cons (.any _) .nil)) (And.intro (Exp.of (congrArg (D.slice true 1) (by first | (rw [put15, h1]; rfl) | (rw [put15, h1]; done))) (.row rfl)) (And.intro rfl rfl))))))

set_option maxHeartbeats 2000000 in
theorem sp_spec_l15Sets (x : Sgr) (sig : Int) (w : List UInt8) (hb : x.bulk ≤ 1048576) (hx : SgOk x) (hs : 0 ≤ sig ∧ sig.toNat < x.sigs.length) : Sp Tryz.prog 135 [(.agg [(.slice false 2 (x.sigs.map Sgn.d)), (.slice false 1 (x.codes.map D.str)), (.slice false 4 (x.arcs.map Arc.d))]), (.int .i64 sig), (.str w)] [.any, .any, .any] (.agg [(.slice true 1 ((osL x (onQ x sig (wayN w))).map D.str)), (.slice true 1 ((osL x (offQ x sig (wayN w))).map D.str))]) := by
 refine Sp_intro (lend := true) Tryz.func135 rfl rfl rfl (fun _ => rfl) (fun c hc hX => ?_)
 obtain ⟨hp0, hp1, hp2⟩ := Sgr.parts hb
 have hn0 := bulkF_len hp0
 have hn1 := bulk_len hp1
 have hx1 := bulk_mem hp1
 have hn2 := bulkF_len hp2; have hxl := hx.len; have hxf := hx.few; have hck := codes_at hx.codes
 refine T_seq ?_
 refine T_region hc ?_
 refine Ch.s (.ptr 3000 0) (.box 3000 _ _ rfl (.aggD _)) ?_
 refine Ch.s (.ptr 6000 0) (.alloc 6000 _ rfl zer29) ?_
 refine Ch.nil ?_
 refine T_seq ?_
 refine T_region hc ?_
 refine Ch.s (.ptr 7000 0) (.alloc 7000 _ rfl zer29) ?_
 refine Ch.nil ?_
 refine T_seq ?_
 refine T_seq ?_
 refine T_region hc ?_
 refine Ch.s (.ptr 3000 1) (.pure (.fldPtr _ _ _ rfl fld35_1 rfl)) ?_
 refine Ch.s (.d (.slice false 1 (x.codes.map D.str))) (.pure (.loadPtr1 _ _ rfl ag23 rfl rfl rfl)) ?_
 refine Ch.s (.d (.int .i64 ((x.codes.length : Nat) : Int))) (.pure (.len _ _ 9 rfl Tryz.underlying23 (.sh _ _) (by simp))) ?_
 refine Ch.s (.d (.int .i64 0)) (.pure (.move _ rfl rfl)) ?_
 refine Ch.nil ?_
 refine T_block ?_
 refine T_loop (ι := Nat) (fun k => { n := 69, sl := [(1, (.d (.int .i64 sig))), (2, (.d (.str w))), (3, (.ptr 3000 0)), (6, (.ptr 6000 0)), (7, (.ptr 7000 0)), (15, (.d (.slice false 1 (x.codes.map D.str)))), (16, (.d (.int .i64 ((x.codes.length : Nat) : Int)))), (17, (.d (.int .i64 ((k : Nat) : Int))))], hp := [(3000, (some (.box [(.d (.slice false 2 (x.sigs.map Sgn.d))), (.d (.slice false 1 (x.codes.map D.str))), (.d (.slice false 4 (x.arcs.map Arc.d)))]))), (6000, (some (.box [(.c (.slice none 0 0)), (.c (.slice none 0 0))]))), (7000, (some (.box [(.row 7700), (.row 7701)]))), (7700, (some (.row 1 ((osTo x (onQ x sig (wayN w)) k).map D.str)))), (7701, (some (.row 1 ((osTo x (offQ x sig (wayN w)) k).map D.str))))], pin := [] }) (fun k => k ≤ x.codes.length) (fun k => x.codes.length - k) ⟨0, (by omega), (Wk.trans (Wk.nilcell 7000 0 980000 1 rfl rfl rfl) (Wk.trans (Wk.nilcell 7000 1 980001 1 rfl rfl rfl) (Wk.ren [(7700, 980000), (7701, 980001)] rfl rfl rfl rfl (And.intro rfl (And.intro rfl (And.intro rfl (And.intro rfl (And.intro rfl (And.intro rfl (And.intro rfl (And.intro (vI (by first | rfl | omega | (simp; done) | (simp; omega))) trivial)))))))) (And.intro rfl (And.intro rfl (And.intro (oB (Eq.trans (b := [(.row 980000), (.row 980001)]) rfl (by rfl))) (And.intro (oR (by first | (rw [osTo_zero]; rfl) | (exact congrArg (List.map D.str) (osTo_yes (by simp_all [onQ, offQ, wayOn, wayOff, wayN, bitQ]; done))) | (exact congrArg (List.map D.str) (osTo_no (by simp_all [onQ, offQ, wayOn, wayOff, wayN, bitQ]; done))))) (And.intro (oR (by first | (rw [osTo_zero]; rfl) | (exact congrArg (List.map D.str) (osTo_yes (by simp_all [onQ, offQ, wayOn, wayOff, wayN, bitQ]; done))) | (exact congrArg (List.map D.str) (osTo_no (by simp_all [onQ, offQ, wayOn, wayOff, wayN, bitQ]; done))))) trivial))))))))⟩ (fun k hp0 => ?_)
 have hpk := osTo_le x (onQ x sig (wayN w)) k; have hqk := osTo_le x (offQ x sig (wayN w)) k
 refine T_seq ?_
 refine T_region hc ?_
 refine Ch.s (.d (.bool (decide (((k : Nat) : Int) < ((x.codes.length : Nat) : Int))))) (.pure (.int _ _ _ _ _ rfl rfl rfl rfl)) ?_
 refine Ch.nil ?_
 refine T_seq ?_
 refine T_cond (b := (decide (((k : Nat) : Int) < ((x.codes.length : Nat) : Int)))) rfl (fun h1 => ?_) (fun h1 => ?_)
 ·
  replace h1 := of_decide_eq_true h1
  try have hlk : (x.codes.getD k default).length = x.sigs.length := (hck (k : Int) (by omega) (by omega)).2
  refine T_skip ?_
  refine T_seq ?_
  refine T_block ?_
  refine T_seq ?_
  refine T_region hc ?_
  refine Ch.s (.d (.int .i64 ((k : Nat) : Int))) (.pure (.move _ rfl rfl)) ?_
  refine Ch.s (.d (.ref (.str (x.codes.getD k default)))) (.pure (.idx _ _ _ 9 (k) rfl Tryz.underlying23 sz9 rfl rfl rfl get_mapA)) ?_
  refine Ch.s (.d (.str (x.codes.getD k default))) (.pure (.loadRef1 _ _ rfl ag9 rfl rfl)) ?_
  refine Ch.s (.d (.int .i64 ((k : Nat) : Int))) (.pure (.assign _ rfl rfl)) ?_
  refine Ch.s (.d (.str (x.codes.getD k default))) (.pure (.assign _ rfl rfl)) ?_
  refine Ch.nil ?_
  refine T_seq ?_
  refine T_regionD hc (by kernel_rfl) ?_
  refine ChD.s (.d (.str (x.codes.getD k default))) [] (.pure (.move _ rfl rfl)) ?_
  refine ChD.s (.d (.int .i64 sig)) [] (.pure (.move _ rfl rfl)) ?_
  refine ChD.s (.d (.int .u8 (((x.codes.getD k default).getD ((sig).toNat) 0).toNat : Int))) [] (.pure (.idxStr _ _ _ ((sig).toNat) rfl Tryz.underlying9 rfl rfl (by omega) get_strA)) ?_
  refine ChD.s (.d (.bool (decide ((((x.codes.getD k default).getD ((sig).toNat) 0) : UInt8) = 49)))) [] (.pure (.int _ _ _ _ _ rfl rfl rfl (u8_eql (((x.codes.getD k default).getD ((sig).toNat) 0) : UInt8) 49 rfl rfl))) ?_
  refine ChD.s (.agg [(.d (.slice false 2 (x.sigs.map Sgn.d))), (.d (.slice false 1 (x.codes.map D.str))), (.d (.slice false 4 (x.arcs.map Arc.d)))]) [3000] (.pure (.loadPtrA _ _ rfl ag35 sz35 rfl rfl (Nat.le_of_ble_eq_true rfl) rfl)) ?_
  refine ChD.s (.d (.int .i64 ((k : Nat) : Int))) [] (.pure (.move _ rfl rfl)) ?_
  refine ChD.s (.d (.int .i64 sig)) [] (.pure (.move _ rfl rfl)) ?_
  refine ChD.s (.d (.bool (excB x ((k : Nat) : Int) sig))) [] (.call 29000 158 _ _ _ en158 rfl (.inl rfl) (.cons (.lend (.agg (.cons (.d _) (.cons (.d _) (.cons (.d _) .nil))) rfl)) (.cons (.d _) (.cons (.d _) .nil))) rfl rfl (sp_spec_l5Excited x ((k : Nat) : Int) sig (by first | assumption | omega | (rw [List.length_take]; omega) | (have := bulkF_mem hb _ (getD_mem (d := default) (by omega)); assumption) | (unfold bulkS at *; omega) | (simp_all; done))) (.skip _ _ (.skip _ _ (.skip _ _ .nil))) rfl) ?_
  refine ChD.s (.d (.bool (decide ((((x.codes.getD k default).getD ((sig).toNat) 0) : UInt8) = 49)))) [] (.pure (.assign _ rfl rfl)) ?_
  refine ChD.s (.d (.bool (excB x ((k : Nat) : Int) sig))) [] (.pure (.assign _ rfl rfl)) ?_
  refine ChD.nil (And.intro ?_ (by kernel_rfl))
  refine T_seq ?_
  refine T_region hc ?_
  refine Ch.s (.d (.bool (excB x ((k : Nat) : Int) sig))) (.pure (.move _ rfl rfl)) ?_
  refine Ch.s (.d (.bool (decide ((((x.codes.getD k default).getD ((sig).toNat) 0) : UInt8) = 49)))) (.pure (.move _ rfl rfl)) ?_
  refine Ch.s (.d (.bool (!(decide ((excB x ((k : Nat) : Int) sig) = (decide ((((x.codes.getD k default).getD ((sig).toNat) 0) : UInt8) = 49))))))) (.pure (.neB _ _ _ _ rfl Tryz.underlying4 rfl rfl)) ?_
  refine Ch.s (.d (.bool (excB x ((k : Nat) : Int) sig))) (.pure (.move _ rfl rfl)) ?_
  refine Ch.s (.d (.bool (decide ((((x.codes.getD k default).getD ((sig).toNat) 0) : UInt8) = 49)))) (.pure (.move _ rfl rfl)) ?_
  refine Ch.s (.d (.bool (decide ((excB x ((k : Nat) : Int) sig) = (decide ((((x.codes.getD k default).getD ((sig).toNat) 0) : UInt8) = 49)))))) (.pure (.eqB _ _ _ _ rfl Tryz.underlying4 rfl rfl)) ?_
  refine Ch.s (.d (.bool (!(decide ((excB x ((k : Nat) : Int) sig) = (decide ((((x.codes.getD k default).getD ((sig).toNat) 0) : UInt8) = 49))))))) (.pure (.assign _ rfl rfl)) ?_
  refine Ch.s (.d (.bool (decide ((excB x ((k : Nat) : Int) sig) = (decide ((((x.codes.getD k default).getD ((sig).toNat) 0) : UInt8) = 49)))))) (.pure (.assign _ rfl rfl)) ?_
  refine Ch.nil ?_
  refine T_seq ?_
  refine T_seq ?_
  refine T_region hc ?_
  refine Ch.s (.d (.str w)) (.pure (.move _ rfl rfl)) ?_
  refine Ch.s (.d (.bool (decide (w = [117, 112])))) (.pure (.str _ _ _ _ _ rfl rfl rfl rfl)) ?_
  refine Ch.nil ?_
  refine T_cond (b := (decide (w = [117, 112]))) rfl (fun h2 => ?_) (fun h2 => ?_)
  ·
   replace h2 := of_decide_eq_true h2
   refine T_region hc ?_
   refine Ch.s (.d (.bool (excB x ((k : Nat) : Int) sig))) (.pure (.move _ rfl rfl)) ?_
   refine Ch.s (.d (.bool (excB x ((k : Nat) : Int) sig))) (.pure (.move _ rfl rfl)) ?_
   cases h3 : (excB x ((k : Nat) : Int) sig) with
   | true =>
    refine Ch.s (.d (.bool (decide ((((x.codes.getD k default).getD ((sig).toNat) 0) : UInt8) = 49)))) (.pure (.move _ rfl rfl)) ?_
    refine Ch.s (.d (.bool (!(decide ((((x.codes.getD k default).getD ((sig).toNat) 0) : UInt8) = 49))))) (.pure (.not _ _ rfl rfl)) ?_
    refine Ch.s (.d (.bool (!(decide ((((x.codes.getD k default).getD ((sig).toNat) 0) : UInt8) = 49))))) (.pure (.pickT _ _ _ rfl rfl rfl)) ?_
    refine Ch.s (.d (.bool true)) (.pure (.move _ rfl rfl)) ?_
    refine Ch.s (.d (.bool (decide ((((x.codes.getD k default).getD ((sig).toNat) 0) : UInt8) = 49)))) (.pure (.move _ rfl rfl)) ?_
    refine Ch.s (.d (.bool (decide (true = (decide ((((x.codes.getD k default).getD ((sig).toNat) 0) : UInt8) = 49)))))) (.pure (.eqB _ _ _ _ rfl Tryz.underlying4 rfl rfl)) ?_
    refine Ch.s (.d (.bool (!(decide ((((x.codes.getD k default).getD ((sig).toNat) 0) : UInt8) = 49))))) (.pure (.assign _ rfl rfl)) ?_
    refine Ch.s (.d (.bool (decide (true = (decide ((((x.codes.getD k default).getD ((sig).toNat) 0) : UInt8) = 49)))))) (.pure (.assign _ rfl rfl)) ?_
    refine Ch.nil ?_
    refine T_seq ?_
    refine T_seq ?_
    refine T_region hc ?_
    refine Ch.s (.d (.str w)) (.pure (.move _ rfl rfl)) ?_
    refine Ch.s (.d (.bool (decide (w = [100, 111, 119, 110])))) (.pure (.str _ _ _ _ _ rfl rfl rfl rfl)) ?_
    refine Ch.nil ?_
    refine T_cond (b := (decide (w = [100, 111, 119, 110]))) rfl (fun h4 => ?_) (fun h4 => ?_)
    ·
     replace h4 := of_decide_eq_true h4
     refine T_region hc ?_
     refine Ch.s (.d (.bool true)) (.pure (.move _ rfl rfl)) ?_
     refine Ch.s (.d (.bool true)) (.pure (.move _ rfl rfl)) ?_
     refine Ch.s (.d (.bool (decide ((((x.codes.getD k default).getD ((sig).toNat) 0) : UInt8) = 49)))) (.pure (.move _ rfl rfl)) ?_
     refine Ch.s (.d (.bool (decide ((((x.codes.getD k default).getD ((sig).toNat) 0) : UInt8) = 49)))) (.pure (.pickT _ _ _ rfl rfl rfl)) ?_
     refine Ch.s (.d (.bool true)) (.pure (.move _ rfl rfl)) ?_
     refine Ch.s (.d (.bool (decide ((((x.codes.getD k default).getD ((sig).toNat) 0) : UInt8) = 49)))) (.pure (.move _ rfl rfl)) ?_
     refine Ch.s (.d (.bool (!(decide (true = (decide ((((x.codes.getD k default).getD ((sig).toNat) 0) : UInt8) = 49))))))) (.pure (.neB _ _ _ _ rfl Tryz.underlying4 rfl rfl)) ?_
     refine Ch.s (.d (.bool (decide ((((x.codes.getD k default).getD ((sig).toNat) 0) : UInt8) = 49)))) (.pure (.assign _ rfl rfl)) ?_
     refine Ch.s (.d (.bool (!(decide (true = (decide ((((x.codes.getD k default).getD ((sig).toNat) 0) : UInt8) = 49))))))) (.pure (.assign _ rfl rfl)) ?_
     refine Ch.nil ?_
     refine T_seq ?_
     refine T_seq ?_
     refine T_region hc ?_
     refine Ch.s (.d (.bool (decide ((((x.codes.getD k default).getD ((sig).toNat) 0) : UInt8) = 49)))) (.pure (.move _ rfl rfl)) ?_
     refine Ch.nil ?_
     refine T_cond (b := (decide ((((x.codes.getD k default).getD ((sig).toNat) 0) : UInt8) = 49))) rfl (fun h5 => ?_) (fun h5 => ?_)
     ·
      replace h5 := of_decide_eq_true h5
      refine T_region hc ?_
      refine Ch.s (.ptr 7000 0) (.pure (.fldPtr _ _ _ rfl fld29_0 rfl)) ?_
      refine Ch.s (.row 7700) (.pure (.loadPtr1 _ _ rfl ag23 rfl rfl rfl)) ?_
      refine Ch.s (.d (.str (x.codes.getD k default))) (.pure (.move _ rfl rfl)) ?_
      refine Ch.step (v := (.row 59000)) rfl (.call 59000 204 _ _ _ en204 rfl (.inl rfl) (.cons (.row rfl) (.cons (.d _) .nil)) rfl (sol (solid_row (fun _ => rfl) _) rfl) (sp_spec_l15Put (osTo x (onQ x sig (wayN w)) k) (x.codes.getD k default) (by first | assumption | omega | (rw [List.length_take]; omega) | (have := bulkF_mem hb _ (getD_mem (d := default) (by omega)); assumption) | (unfold bulkS at *; omega) | (simp_all; done))) (.skip _ _ (.skip _ _ .nil)) rfl) rfl rfl ?_
      refine Ch.s (.ptr 7000 0) (.pure (.fldPtr _ _ _ rfl fld29_0 rfl)) ?_
      refine Ch.s .junk (.storePtr _ _ _ rfl rfl rfl (.one _ rfl) sz23 (Nat.le_of_ble_eq_true rfl)) ?_
      refine Ch.nil ?_
      refine T_seq ?_
      refine T_region hc ?_
      refine Ch.s (.d (.bool (!(decide (true = (decide ((((x.codes.getD k default).getD ((sig).toNat) 0) : UInt8) = 49))))))) (.pure (.move _ rfl rfl)) ?_
      refine Ch.nil ?_
      refine T_cond (b := (!(decide (true = (decide ((((x.codes.getD k default).getD ((sig).toNat) 0) : UInt8) = 49)))))) rfl (fun h6 => ?_) (fun h6 => ?_)
      ·
       replace h6 := nott h6
       replace h6 := of_decide_eq_false h6
       refine T_region hc ?_
       refine Ch.s (.ptr 7000 1) (.pure (.fldPtr _ _ _ rfl fld29_1 rfl)) ?_
       refine Ch.s (.row 7701) (.pure (.loadPtr1 _ _ rfl ag23 rfl rfl rfl)) ?_
       refine Ch.s (.d (.str (x.codes.getD k default))) (.pure (.move _ rfl rfl)) ?_
       refine Ch.step (v := (.row 65000)) rfl (.call 65000 204 _ _ _ en204 rfl (.inl rfl) (.cons (.row rfl) (.cons (.d _) .nil)) rfl (sol (solid_row (fun _ => rfl) _) rfl) (sp_spec_l15Put (osTo x (offQ x sig (wayN w)) k) (x.codes.getD k default) (by first | assumption | omega | (rw [List.length_take]; omega) | (have := bulkF_mem hb _ (getD_mem (d := default) (by omega)); assumption) | (unfold bulkS at *; omega) | (simp_all; done))) (.skip _ _ (.skip _ _ .nil)) rfl) rfl rfl ?_
       refine Ch.s (.ptr 7000 1) (.pure (.fldPtr _ _ _ rfl fld29_1 rfl)) ?_
       refine Ch.s .junk (.storePtr _ _ _ rfl rfl rfl (.one _ rfl) sz23 (Nat.le_of_ble_eq_true rfl)) ?_
       refine Ch.nil ?_
       refine T_region hc ?_
       refine Ch.s (.d (.int .i64 (((k : Nat) : Int) + 1))) (.pure (.int _ _ _ _ _ rfl rfl rfl intV_addA)) ?_
       refine Ch.s (.d (.int .i64 (((k : Nat) : Int) + 1))) (.pure (.move _ rfl rfl)) ?_
       refine Ch.nil ?_
       refine Exists.intro (k + 1) (And.intro (by omega) (And.intro (by first | omega | (dsimp only; omega)) (Wk.ren [(7700, 59000), (7701, 65000)] rfl rfl rfl rfl (And.intro rfl (And.intro rfl (And.intro rfl (And.intro rfl (And.intro rfl (And.intro rfl (And.intro rfl (And.intro (vI (by first | rfl | omega | (simp; done) | (simp; omega))) trivial)))))))) (And.intro rfl (And.intro rfl (And.intro (oB (Eq.trans (b := [(.row 59000), (.row 65000)]) rfl (by rfl))) (And.intro (oR (by first | (rw [osTo_zero]; rfl) | (exact congrArg (List.map D.str) (osTo_yes (by simp_all [onQ, offQ, wayOn, wayOff, wayN, bitQ]; done))) | (exact congrArg (List.map D.str) (osTo_no (by simp_all [onQ, offQ, wayOn, wayOff, wayN, bitQ]; done))))) (And.intro (oR (by first | (rw [osTo_zero]; rfl) | (exact congrArg (List.map D.str) (osTo_yes (by simp_all [onQ, offQ, wayOn, wayOff, wayN, bitQ]; done))) | (exact congrArg (List.map D.str) (osTo_no (by simp_all [onQ, offQ, wayOn, wayOff, wayN, bitQ]; done))))) trivial))))))))
      ·
       replace h6 := notf h6
       replace h6 := of_decide_eq_true h6
       refine T_skip ?_
       refine T_region hc ?_
       refine Ch.s (.d (.int .i64 (((k : Nat) : Int) + 1))) (.pure (.int _ _ _ _ _ rfl rfl rfl intV_addA)) ?_
       refine Ch.s (.d (.int .i64 (((k : Nat) : Int) + 1))) (.pure (.move _ rfl rfl)) ?_
       refine Ch.nil ?_
       refine Exists.intro (k + 1) (And.intro (by omega) (And.intro (by first | omega | (dsimp only; omega)) (Wk.ren [(7700, 59000)] rfl rfl rfl rfl (And.intro rfl (And.intro rfl (And.intro rfl (And.intro rfl (And.intro rfl (And.intro rfl (And.intro rfl (And.intro (vI (by first | rfl | omega | (simp; done) | (simp; omega))) trivial)))))))) (And.intro rfl (And.intro rfl (And.intro (oB (Eq.trans (b := [(.row 59000), (.row 7701)]) rfl (by rfl))) (And.intro (oR (by first | (rw [osTo_zero]; rfl) | (exact congrArg (List.map D.str) (osTo_yes (by simp_all [onQ, offQ, wayOn, wayOff, wayN, bitQ]; done))) | (exact congrArg (List.map D.str) (osTo_no (by simp_all [onQ, offQ, wayOn, wayOff, wayN, bitQ]; done))))) (And.intro (oR (by first | (rw [osTo_zero]; rfl) | (exact congrArg (List.map D.str) (osTo_yes (by simp_all [onQ, offQ, wayOn, wayOff, wayN, bitQ]; done))) | (exact congrArg (List.map D.str) (osTo_no (by simp_all [onQ, offQ, wayOn, wayOff, wayN, bitQ]; done))))) trivial))))))))
     ·
      replace h5 := of_decide_eq_false h5
      refine T_skip ?_
      refine T_seq ?_
      refine T_region hc ?_
      refine Ch.s (.d (.bool (!(decide (true = (decide ((((x.codes.getD k default).getD ((sig).toNat) 0) : UInt8) = 49))))))) (.pure (.move _ rfl rfl)) ?_
      refine Ch.nil ?_
      refine T_cond (b := (!(decide (true = (decide ((((x.codes.getD k default).getD ((sig).toNat) 0) : UInt8) = 49)))))) rfl (fun h7 => ?_) (fun h7 => ?_)
      ·
       replace h7 := nott h7
       replace h7 := of_decide_eq_false h7
       refine T_region hc ?_
       refine Ch.s (.ptr 7000 1) (.pure (.fldPtr _ _ _ rfl fld29_1 rfl)) ?_
       refine Ch.s (.row 7701) (.pure (.loadPtr1 _ _ rfl ag23 rfl rfl rfl)) ?_
       refine Ch.s (.d (.str (x.codes.getD k default))) (.pure (.move _ rfl rfl)) ?_
       refine Ch.step (v := (.row 65000)) rfl (.call 65000 204 _ _ _ en204 rfl (.inl rfl) (.cons (.row rfl) (.cons (.d _) .nil)) rfl (sol (solid_row (fun _ => rfl) _) rfl) (sp_spec_l15Put (osTo x (offQ x sig (wayN w)) k) (x.codes.getD k default) (by first | assumption | omega | (rw [List.length_take]; omega) | (have := bulkF_mem hb _ (getD_mem (d := default) (by omega)); assumption) | (unfold bulkS at *; omega) | (simp_all; done))) (.skip _ _ (.skip _ _ .nil)) rfl) rfl rfl ?_
       refine Ch.s (.ptr 7000 1) (.pure (.fldPtr _ _ _ rfl fld29_1 rfl)) ?_
       refine Ch.s .junk (.storePtr _ _ _ rfl rfl rfl (.one _ rfl) sz23 (Nat.le_of_ble_eq_true rfl)) ?_
       refine Ch.nil ?_
       refine T_region hc ?_
       refine Ch.s (.d (.int .i64 (((k : Nat) : Int) + 1))) (.pure (.int _ _ _ _ _ rfl rfl rfl intV_addA)) ?_
       refine Ch.s (.d (.int .i64 (((k : Nat) : Int) + 1))) (.pure (.move _ rfl rfl)) ?_
       refine Ch.nil ?_
       refine Exists.intro (k + 1) (And.intro (by omega) (And.intro (by first | omega | (dsimp only; omega)) (Wk.ren [(7701, 65000)] rfl rfl rfl rfl (And.intro rfl (And.intro rfl (And.intro rfl (And.intro rfl (And.intro rfl (And.intro rfl (And.intro rfl (And.intro (vI (by first | rfl | omega | (simp; done) | (simp; omega))) trivial)))))))) (And.intro rfl (And.intro rfl (And.intro (oB (Eq.trans (b := [(.row 7700), (.row 65000)]) rfl (by rfl))) (And.intro (oR (by first | (rw [osTo_zero]; rfl) | (exact congrArg (List.map D.str) (osTo_yes (by simp_all [onQ, offQ, wayOn, wayOff, wayN, bitQ]; done))) | (exact congrArg (List.map D.str) (osTo_no (by simp_all [onQ, offQ, wayOn, wayOff, wayN, bitQ]; done))))) (And.intro (oR (by first | (rw [osTo_zero]; rfl) | (exact congrArg (List.map D.str) (osTo_yes (by simp_all [onQ, offQ, wayOn, wayOff, wayN, bitQ]; done))) | (exact congrArg (List.map D.str) (osTo_no (by simp_all [onQ, offQ, wayOn, wayOff, wayN, bitQ]; done))))) trivial))))))))
      ·
       replace h7 := notf h7
       replace h7 := of_decide_eq_true h7
       refine T_skip ?_
       refine T_region hc ?_
       refine Ch.s (.d (.int .i64 (((k : Nat) : Int) + 1))) (.pure (.int _ _ _ _ _ rfl rfl rfl intV_addA)) ?_
       refine Ch.s (.d (.int .i64 (((k : Nat) : Int) + 1))) (.pure (.move _ rfl rfl)) ?_
       refine Ch.nil ?_
       refine Exists.intro (k + 1) (And.intro (by omega) (And.intro (by first | omega | (dsimp only; omega)) (Wk.of rfl rfl (And.intro rfl (And.intro rfl (And.intro rfl (And.intro rfl (And.intro rfl (And.intro rfl (And.intro rfl (And.intro (vI (by first | rfl | omega | (simp; done) | (simp; omega))) trivial)))))))) (And.intro rfl (And.intro rfl (And.intro rfl (And.intro (oR (by first | (rw [osTo_zero]; rfl) | (exact congrArg (List.map D.str) (osTo_yes (by simp_all [onQ, offQ, wayOn, wayOff, wayN, bitQ]; done))) | (exact congrArg (List.map D.str) (osTo_no (by simp_all [onQ, offQ, wayOn, wayOff, wayN, bitQ]; done))))) (And.intro (oR (by first | (rw [osTo_zero]; rfl) | (exact congrArg (List.map D.str) (osTo_yes (by simp_all [onQ, offQ, wayOn, wayOff, wayN, bitQ]; done))) | (exact congrArg (List.map D.str) (osTo_no (by simp_all [onQ, offQ, wayOn, wayOff, wayN, bitQ]; done))))) trivial))))))))
    ·
     replace h4 := of_decide_eq_false h4
     refine T_skip ?_
     refine T_seq ?_
     refine T_seq ?_
     refine T_region hc ?_
     refine Ch.s (.d (.bool (!(decide ((((x.codes.getD k default).getD ((sig).toNat) 0) : UInt8) = 49))))) (.pure (.move _ rfl rfl)) ?_
     refine Ch.nil ?_
     refine T_cond (b := (!(decide ((((x.codes.getD k default).getD ((sig).toNat) 0) : UInt8) = 49)))) rfl (fun h8 => ?_) (fun h8 => ?_)
     ·
      replace h8 := nott h8
      replace h8 := of_decide_eq_false h8
      refine T_region hc ?_
      refine Ch.s (.ptr 7000 0) (.pure (.fldPtr _ _ _ rfl fld29_0 rfl)) ?_
      refine Ch.s (.row 7700) (.pure (.loadPtr1 _ _ rfl ag23 rfl rfl rfl)) ?_
      refine Ch.s (.d (.str (x.codes.getD k default))) (.pure (.move _ rfl rfl)) ?_
      refine Ch.step (v := (.row 59000)) rfl (.call 59000 204 _ _ _ en204 rfl (.inl rfl) (.cons (.row rfl) (.cons (.d _) .nil)) rfl (sol (solid_row (fun _ => rfl) _) rfl) (sp_spec_l15Put (osTo x (onQ x sig (wayN w)) k) (x.codes.getD k default) (by first | assumption | omega | (rw [List.length_take]; omega) | (have := bulkF_mem hb _ (getD_mem (d := default) (by omega)); assumption) | (unfold bulkS at *; omega) | (simp_all; done))) (.skip _ _ (.skip _ _ .nil)) rfl) rfl rfl ?_
      refine Ch.s (.ptr 7000 0) (.pure (.fldPtr _ _ _ rfl fld29_0 rfl)) ?_
      refine Ch.s .junk (.storePtr _ _ _ rfl rfl rfl (.one _ rfl) sz23 (Nat.le_of_ble_eq_true rfl)) ?_
      refine Ch.nil ?_
      refine T_seq ?_
      refine T_region hc ?_
      refine Ch.s (.d (.bool (decide (true = (decide ((((x.codes.getD k default).getD ((sig).toNat) 0) : UInt8) = 49)))))) (.pure (.move _ rfl rfl)) ?_
      refine Ch.nil ?_
      refine T_cond (b := (decide (true = (decide ((((x.codes.getD k default).getD ((sig).toNat) 0) : UInt8) = 49))))) rfl (fun h9 => ?_) (fun h9 => ?_)
      ·
       replace h9 := of_decide_eq_true h9
       refine T_region hc ?_
       refine Ch.s (.ptr 7000 1) (.pure (.fldPtr _ _ _ rfl fld29_1 rfl)) ?_
       refine Ch.s (.row 7701) (.pure (.loadPtr1 _ _ rfl ag23 rfl rfl rfl)) ?_
       refine Ch.s (.d (.str (x.codes.getD k default))) (.pure (.move _ rfl rfl)) ?_
       refine Ch.step (v := (.row 65000)) rfl (.call 65000 204 _ _ _ en204 rfl (.inl rfl) (.cons (.row rfl) (.cons (.d _) .nil)) rfl (sol (solid_row (fun _ => rfl) _) rfl) (sp_spec_l15Put (osTo x (offQ x sig (wayN w)) k) (x.codes.getD k default) (by first | assumption | omega | (rw [List.length_take]; omega) | (have := bulkF_mem hb _ (getD_mem (d := default) (by omega)); assumption) | (unfold bulkS at *; omega) | (simp_all; done))) (.skip _ _ (.skip _ _ .nil)) rfl) rfl rfl ?_
       refine Ch.s (.ptr 7000 1) (.pure (.fldPtr _ _ _ rfl fld29_1 rfl)) ?_
       refine Ch.s .junk (.storePtr _ _ _ rfl rfl rfl (.one _ rfl) sz23 (Nat.le_of_ble_eq_true rfl)) ?_
       refine Ch.nil ?_
       refine T_region hc ?_
       refine Ch.s (.d (.int .i64 (((k : Nat) : Int) + 1))) (.pure (.int _ _ _ _ _ rfl rfl rfl intV_addA)) ?_
       refine Ch.s (.d (.int .i64 (((k : Nat) : Int) + 1))) (.pure (.move _ rfl rfl)) ?_
       refine Ch.nil ?_
       refine Exists.intro (k + 1) (And.intro (by omega) (And.intro (by first | omega | (dsimp only; omega)) (Wk.ren [(7700, 59000), (7701, 65000)] rfl rfl rfl rfl (And.intro rfl (And.intro rfl (And.intro rfl (And.intro rfl (And.intro rfl (And.intro rfl (And.intro rfl (And.intro (vI (by first | rfl | omega | (simp; done) | (simp; omega))) trivial)))))))) (And.intro rfl (And.intro rfl (And.intro (oB (Eq.trans (b := [(.row 59000), (.row 65000)]) rfl (by rfl))) (And.intro (oR (by first | (rw [osTo_zero]; rfl) | (exact congrArg (List.map D.str) (osTo_yes (by simp_all [onQ, offQ, wayOn, wayOff, wayN, bitQ]; done))) | (exact congrArg (List.map D.str) (osTo_no (by simp_all [onQ, offQ, wayOn, wayOff, wayN, bitQ]; done))))) (And.intro (oR (by first | (rw [osTo_zero]; rfl) | (exact congrArg (List.map D.str) (osTo_yes (by simp_all [onQ, offQ, wayOn, wayOff, wayN, bitQ]; done))) | (exact congrArg (List.map D.str) (osTo_no (by simp_all [onQ, offQ, wayOn, wayOff, wayN, bitQ]; done))))) trivial))))))))
      ·
       replace h9 := of_decide_eq_false h9
       refine T_skip ?_
       refine T_region hc ?_
       refine Ch.s (.d (.int .i64 (((k : Nat) : Int) + 1))) (.pure (.int _ _ _ _ _ rfl rfl rfl intV_addA)) ?_
       refine Ch.s (.d (.int .i64 (((k : Nat) : Int) + 1))) (.pure (.move _ rfl rfl)) ?_
       refine Ch.nil ?_
       refine Exists.intro (k + 1) (And.intro (by omega) (And.intro (by first | omega | (dsimp only; omega)) (Wk.ren [(7700, 59000)] rfl rfl rfl rfl (And.intro rfl (And.intro rfl (And.intro rfl (And.intro rfl (And.intro rfl (And.intro rfl (And.intro rfl (And.intro (vI (by first | rfl | omega | (simp; done) | (simp; omega))) trivial)))))))) (And.intro rfl (And.intro rfl (And.intro (oB (Eq.trans (b := [(.row 59000), (.row 7701)]) rfl (by rfl))) (And.intro (oR (by first | (rw [osTo_zero]; rfl) | (exact congrArg (List.map D.str) (osTo_yes (by simp_all [onQ, offQ, wayOn, wayOff, wayN, bitQ]; done))) | (exact congrArg (List.map D.str) (osTo_no (by simp_all [onQ, offQ, wayOn, wayOff, wayN, bitQ]; done))))) (And.intro (oR (by first | (rw [osTo_zero]; rfl) | (exact congrArg (List.map D.str) (osTo_yes (by simp_all [onQ, offQ, wayOn, wayOff, wayN, bitQ]; done))) | (exact congrArg (List.map D.str) (osTo_no (by simp_all [onQ, offQ, wayOn, wayOff, wayN, bitQ]; done))))) trivial))))))))
     ·
      replace h8 := notf h8
      replace h8 := of_decide_eq_true h8
      refine T_skip ?_
      refine T_seq ?_
      refine T_region hc ?_
      refine Ch.s (.d (.bool (decide (true = (decide ((((x.codes.getD k default).getD ((sig).toNat) 0) : UInt8) = 49)))))) (.pure (.move _ rfl rfl)) ?_
      refine Ch.nil ?_
      refine T_cond (b := (decide (true = (decide ((((x.codes.getD k default).getD ((sig).toNat) 0) : UInt8) = 49))))) rfl (fun h10 => ?_) (fun h10 => ?_)
      ·
       replace h10 := of_decide_eq_true h10
       refine T_region hc ?_
       refine Ch.s (.ptr 7000 1) (.pure (.fldPtr _ _ _ rfl fld29_1 rfl)) ?_
       refine Ch.s (.row 7701) (.pure (.loadPtr1 _ _ rfl ag23 rfl rfl rfl)) ?_
       refine Ch.s (.d (.str (x.codes.getD k default))) (.pure (.move _ rfl rfl)) ?_
       refine Ch.step (v := (.row 65000)) rfl (.call 65000 204 _ _ _ en204 rfl (.inl rfl) (.cons (.row rfl) (.cons (.d _) .nil)) rfl (sol (solid_row (fun _ => rfl) _) rfl) (sp_spec_l15Put (osTo x (offQ x sig (wayN w)) k) (x.codes.getD k default) (by first | assumption | omega | (rw [List.length_take]; omega) | (have := bulkF_mem hb _ (getD_mem (d := default) (by omega)); assumption) | (unfold bulkS at *; omega) | (simp_all; done))) (.skip _ _ (.skip _ _ .nil)) rfl) rfl rfl ?_
       refine Ch.s (.ptr 7000 1) (.pure (.fldPtr _ _ _ rfl fld29_1 rfl)) ?_
       refine Ch.s .junk (.storePtr _ _ _ rfl rfl rfl (.one _ rfl) sz23 (Nat.le_of_ble_eq_true rfl)) ?_
       refine Ch.nil ?_
       refine T_region hc ?_
       refine Ch.s (.d (.int .i64 (((k : Nat) : Int) + 1))) (.pure (.int _ _ _ _ _ rfl rfl rfl intV_addA)) ?_
       refine Ch.s (.d (.int .i64 (((k : Nat) : Int) + 1))) (.pure (.move _ rfl rfl)) ?_
       refine Ch.nil ?_
       refine Exists.intro (k + 1) (And.intro (by omega) (And.intro (by first | omega | (dsimp only; omega)) (Wk.ren [(7701, 65000)] rfl rfl rfl rfl (And.intro rfl (And.intro rfl (And.intro rfl (And.intro rfl (And.intro rfl (And.intro rfl (And.intro rfl (And.intro (vI (by first | rfl | omega | (simp; done) | (simp; omega))) trivial)))))))) (And.intro rfl (And.intro rfl (And.intro (oB (Eq.trans (b := [(.row 7700), (.row 65000)]) rfl (by rfl))) (And.intro (oR (by first | (rw [osTo_zero]; rfl) | (exact congrArg (List.map D.str) (osTo_yes (by simp_all [onQ, offQ, wayOn, wayOff, wayN, bitQ]; done))) | (exact congrArg (List.map D.str) (osTo_no (by simp_all [onQ, offQ, wayOn, wayOff, wayN, bitQ]; done))))) (And.intro (oR (by first | (rw [osTo_zero]; rfl) | (exact congrArg (List.map D.str) (osTo_yes (by simp_all [onQ, offQ, wayOn, wayOff, wayN, bitQ]; done))) | (exact congrArg (List.map D.str) (osTo_no (by simp_all [onQ, offQ, wayOn, wayOff, wayN, bitQ]; done))))) trivial))))))))
      ·
       replace h10 := of_decide_eq_false h10
       refine T_skip ?_
       refine T_region hc ?_
       refine Ch.s (.d (.int .i64 (((k : Nat) : Int) + 1))) (.pure (.int _ _ _ _ _ rfl rfl rfl intV_addA)) ?_
       refine Ch.s (.d (.int .i64 (((k : Nat) : Int) + 1))) (.pure (.move _ rfl rfl)) ?_
       refine Ch.nil ?_
       refine Exists.intro (k + 1) (And.intro (by omega) (And.intro (by first | omega | (dsimp only; omega)) (Wk.of rfl rfl (And.intro rfl (And.intro rfl (And.intro rfl (And.intro rfl (And.intro rfl (And.intro rfl (And.intro rfl (And.intro (vI (by first | rfl | omega | (simp; done) | (simp; omega))) trivial)))))))) (And.intro rfl (And.intro rfl (And.intro rfl (And.intro (oR (by first | (rw [osTo_zero]; rfl) | (exact congrArg (List.map D.str) (osTo_yes (by simp_all [onQ, offQ, wayOn, wayOff, wayN, bitQ]; done))) | (exact congrArg (List.map D.str) (osTo_no (by simp_all [onQ, offQ, wayOn, wayOff, wayN, bitQ]; done))))) (And.intro (oR (by first | (rw [osTo_zero]; rfl) | (exact congrArg (List.map D.str) (osTo_yes (by simp_all [onQ, offQ, wayOn, wayOff, wayN, bitQ]; done))) | (exact congrArg (List.map D.str) (osTo_no (by simp_all [onQ, offQ, wayOn, wayOff, wayN, bitQ]; done))))) trivial))))))))
   | false =>
    refine Ch.skip rfl rfl ?_
    refine Ch.skip rfl rfl ?_
    refine Ch.s (.d (.bool false)) (.pure (.pickF _ _ _ rfl rfl rfl)) ?_
    refine Ch.s (.d (.bool false)) (.pure (.move _ rfl rfl)) ?_
    refine Ch.s (.d (.bool (decide ((((x.codes.getD k default).getD ((sig).toNat) 0) : UInt8) = 49)))) (.pure (.move _ rfl rfl)) ?_
    refine Ch.s (.d (.bool (decide (false = (decide ((((x.codes.getD k default).getD ((sig).toNat) 0) : UInt8) = 49)))))) (.pure (.eqB _ _ _ _ rfl Tryz.underlying4 rfl rfl)) ?_
    refine Ch.s (.d (.bool false)) (.pure (.assign _ rfl rfl)) ?_
    refine Ch.s (.d (.bool (decide (false = (decide ((((x.codes.getD k default).getD ((sig).toNat) 0) : UInt8) = 49)))))) (.pure (.assign _ rfl rfl)) ?_
    refine Ch.nil ?_
    refine T_seq ?_
    refine T_seq ?_
    refine T_region hc ?_
    refine Ch.s (.d (.str w)) (.pure (.move _ rfl rfl)) ?_
    refine Ch.s (.d (.bool (decide (w = [100, 111, 119, 110])))) (.pure (.str _ _ _ _ _ rfl rfl rfl rfl)) ?_
    refine Ch.nil ?_
    refine T_cond (b := (decide (w = [100, 111, 119, 110]))) rfl (fun h11 => ?_) (fun h11 => ?_)
    ·
     replace h11 := of_decide_eq_true h11
     refine T_region hc ?_
     refine Ch.s (.d (.bool false)) (.pure (.move _ rfl rfl)) ?_
     refine Ch.s (.d (.bool false)) (.pure (.move _ rfl rfl)) ?_
     refine Ch.skip rfl rfl ?_
     refine Ch.s (.d (.bool false)) (.pure (.pickF _ _ _ rfl rfl rfl)) ?_
     refine Ch.s (.d (.bool false)) (.pure (.move _ rfl rfl)) ?_
     refine Ch.s (.d (.bool (decide ((((x.codes.getD k default).getD ((sig).toNat) 0) : UInt8) = 49)))) (.pure (.move _ rfl rfl)) ?_
     refine Ch.s (.d (.bool (!(decide (false = (decide ((((x.codes.getD k default).getD ((sig).toNat) 0) : UInt8) = 49))))))) (.pure (.neB _ _ _ _ rfl Tryz.underlying4 rfl rfl)) ?_
     refine Ch.s (.d (.bool false)) (.pure (.assign _ rfl rfl)) ?_
     refine Ch.s (.d (.bool (!(decide (false = (decide ((((x.codes.getD k default).getD ((sig).toNat) 0) : UInt8) = 49))))))) (.pure (.assign _ rfl rfl)) ?_
     refine Ch.nil ?_
     refine T_seq ?_
     refine T_seq ?_
     refine T_region hc ?_
     refine Ch.s (.d (.bool false)) (.pure (.move _ rfl rfl)) ?_
     refine Ch.nil ?_
     refine T_cond (b := false) rfl (fun h => nomatch h) (fun _ => ?_)
     refine T_skip ?_
     refine T_seq ?_
     refine T_region hc ?_
     refine Ch.s (.d (.bool (!(decide (false = (decide ((((x.codes.getD k default).getD ((sig).toNat) 0) : UInt8) = 49))))))) (.pure (.move _ rfl rfl)) ?_
     refine Ch.nil ?_
     refine T_cond (b := (!(decide (false = (decide ((((x.codes.getD k default).getD ((sig).toNat) 0) : UInt8) = 49)))))) rfl (fun h12 => ?_) (fun h12 => ?_)
     ·
      replace h12 := nott h12
      replace h12 := of_decide_eq_false h12
      refine T_region hc ?_
      refine Ch.s (.ptr 7000 1) (.pure (.fldPtr _ _ _ rfl fld29_1 rfl)) ?_
      refine Ch.s (.row 7701) (.pure (.loadPtr1 _ _ rfl ag23 rfl rfl rfl)) ?_
      refine Ch.s (.d (.str (x.codes.getD k default))) (.pure (.move _ rfl rfl)) ?_
      refine Ch.step (v := (.row 65000)) rfl (.call 65000 204 _ _ _ en204 rfl (.inl rfl) (.cons (.row rfl) (.cons (.d _) .nil)) rfl (sol (solid_row (fun _ => rfl) _) rfl) (sp_spec_l15Put (osTo x (offQ x sig (wayN w)) k) (x.codes.getD k default) (by first | assumption | omega | (rw [List.length_take]; omega) | (have := bulkF_mem hb _ (getD_mem (d := default) (by omega)); assumption) | (unfold bulkS at *; omega) | (simp_all; done))) (.skip _ _ (.skip _ _ .nil)) rfl) rfl rfl ?_
      refine Ch.s (.ptr 7000 1) (.pure (.fldPtr _ _ _ rfl fld29_1 rfl)) ?_
      refine Ch.s .junk (.storePtr _ _ _ rfl rfl rfl (.one _ rfl) sz23 (Nat.le_of_ble_eq_true rfl)) ?_
      refine Ch.nil ?_
      refine T_region hc ?_
      refine Ch.s (.d (.int .i64 (((k : Nat) : Int) + 1))) (.pure (.int _ _ _ _ _ rfl rfl rfl intV_addA)) ?_
      refine Ch.s (.d (.int .i64 (((k : Nat) : Int) + 1))) (.pure (.move _ rfl rfl)) ?_
      refine Ch.nil ?_
      refine Exists.intro (k + 1) (And.intro (by omega) (And.intro (by first | omega | (dsimp only; omega)) (Wk.ren [(7701, 65000)] rfl rfl rfl rfl (And.intro rfl (And.intro rfl (And.intro rfl (And.intro rfl (And.intro rfl (And.intro rfl (And.intro rfl (And.intro (vI (by first | rfl | omega | (simp; done) | (simp; omega))) trivial)))))))) (And.intro rfl (And.intro rfl (And.intro (oB (Eq.trans (b := [(.row 7700), (.row 65000)]) rfl (by rfl))) (And.intro (oR (by first | (rw [osTo_zero]; rfl) | (exact congrArg (List.map D.str) (osTo_yes (by simp_all [onQ, offQ, wayOn, wayOff, wayN, bitQ]; done))) | (exact congrArg (List.map D.str) (osTo_no (by simp_all [onQ, offQ, wayOn, wayOff, wayN, bitQ]; done))))) (And.intro (oR (by first | (rw [osTo_zero]; rfl) | (exact congrArg (List.map D.str) (osTo_yes (by simp_all [onQ, offQ, wayOn, wayOff, wayN, bitQ]; done))) | (exact congrArg (List.map D.str) (osTo_no (by simp_all [onQ, offQ, wayOn, wayOff, wayN, bitQ]; done))))) trivial))))))))
     ·
      replace h12 := notf h12
      replace h12 := of_decide_eq_true h12
      refine T_skip ?_
      refine T_region hc ?_
      refine Ch.s (.d (.int .i64 (((k : Nat) : Int) + 1))) (.pure (.int _ _ _ _ _ rfl rfl rfl intV_addA)) ?_
      refine Ch.s (.d (.int .i64 (((k : Nat) : Int) + 1))) (.pure (.move _ rfl rfl)) ?_
      refine Ch.nil ?_
      refine Exists.intro (k + 1) (And.intro (by omega) (And.intro (by first | omega | (dsimp only; omega)) (Wk.of rfl rfl (And.intro rfl (And.intro rfl (And.intro rfl (And.intro rfl (And.intro rfl (And.intro rfl (And.intro rfl (And.intro (vI (by first | rfl | omega | (simp; done) | (simp; omega))) trivial)))))))) (And.intro rfl (And.intro rfl (And.intro rfl (And.intro (oR (by first | (rw [osTo_zero]; rfl) | (exact congrArg (List.map D.str) (osTo_yes (by simp_all [onQ, offQ, wayOn, wayOff, wayN, bitQ]; done))) | (exact congrArg (List.map D.str) (osTo_no (by simp_all [onQ, offQ, wayOn, wayOff, wayN, bitQ]; done))))) (And.intro (oR (by first | (rw [osTo_zero]; rfl) | (exact congrArg (List.map D.str) (osTo_yes (by simp_all [onQ, offQ, wayOn, wayOff, wayN, bitQ]; done))) | (exact congrArg (List.map D.str) (osTo_no (by simp_all [onQ, offQ, wayOn, wayOff, wayN, bitQ]; done))))) trivial))))))))
    ·
     replace h11 := of_decide_eq_false h11
     refine T_skip ?_
     refine T_seq ?_
     refine T_seq ?_
     refine T_region hc ?_
     refine Ch.s (.d (.bool false)) (.pure (.move _ rfl rfl)) ?_
     refine Ch.nil ?_
     refine T_cond (b := false) rfl (fun h => nomatch h) (fun _ => ?_)
     refine T_skip ?_
     refine T_seq ?_
     refine T_region hc ?_
     refine Ch.s (.d (.bool (decide (false = (decide ((((x.codes.getD k default).getD ((sig).toNat) 0) : UInt8) = 49)))))) (.pure (.move _ rfl rfl)) ?_
     refine Ch.nil ?_
     refine T_cond (b := (decide (false = (decide ((((x.codes.getD k default).getD ((sig).toNat) 0) : UInt8) = 49))))) rfl (fun h13 => ?_) (fun h13 => ?_)
     ·
      replace h13 := of_decide_eq_true h13
      refine T_region hc ?_
      refine Ch.s (.ptr 7000 1) (.pure (.fldPtr _ _ _ rfl fld29_1 rfl)) ?_
      refine Ch.s (.row 7701) (.pure (.loadPtr1 _ _ rfl ag23 rfl rfl rfl)) ?_
      refine Ch.s (.d (.str (x.codes.getD k default))) (.pure (.move _ rfl rfl)) ?_
      refine Ch.step (v := (.row 65000)) rfl (.call 65000 204 _ _ _ en204 rfl (.inl rfl) (.cons (.row rfl) (.cons (.d _) .nil)) rfl (sol (solid_row (fun _ => rfl) _) rfl) (sp_spec_l15Put (osTo x (offQ x sig (wayN w)) k) (x.codes.getD k default) (by first | assumption | omega | (rw [List.length_take]; omega) | (have := bulkF_mem hb _ (getD_mem (d := default) (by omega)); assumption) | (unfold bulkS at *; omega) | (simp_all; done))) (.skip _ _ (.skip _ _ .nil)) rfl) rfl rfl ?_
      refine Ch.s (.ptr 7000 1) (.pure (.fldPtr _ _ _ rfl fld29_1 rfl)) ?_
      refine Ch.s .junk (.storePtr _ _ _ rfl rfl rfl (.one _ rfl) sz23 (Nat.le_of_ble_eq_true rfl)) ?_
      refine Ch.nil ?_
      refine T_region hc ?_
      refine Ch.s (.d (.int .i64 (((k : Nat) : Int) + 1))) (.pure (.int _ _ _ _ _ rfl rfl rfl intV_addA)) ?_
      refine Ch.s (.d (.int .i64 (((k : Nat) : Int) + 1))) (.pure (.move _ rfl rfl)) ?_
      refine Ch.nil ?_
      refine Exists.intro (k + 1) (And.intro (by omega) (And.intro (by first | omega | (dsimp only; omega)) (Wk.ren [(7701, 65000)] rfl rfl rfl rfl (And.intro rfl (And.intro rfl (And.intro rfl (And.intro rfl (And.intro rfl (And.intro rfl (And.intro rfl (And.intro (vI (by first | rfl | omega | (simp; done) | (simp; omega))) trivial)))))))) (And.intro rfl (And.intro rfl (And.intro (oB (Eq.trans (b := [(.row 7700), (.row 65000)]) rfl (by rfl))) (And.intro (oR (by first | (rw [osTo_zero]; rfl) | (exact congrArg (List.map D.str) (osTo_yes (by simp_all [onQ, offQ, wayOn, wayOff, wayN, bitQ]; done))) | (exact congrArg (List.map D.str) (osTo_no (by simp_all [onQ, offQ, wayOn, wayOff, wayN, bitQ]; done))))) (And.intro (oR (by first | (rw [osTo_zero]; rfl) | (exact congrArg (List.map D.str) (osTo_yes (by simp_all [onQ, offQ, wayOn, wayOff, wayN, bitQ]; done))) | (exact congrArg (List.map D.str) (osTo_no (by simp_all [onQ, offQ, wayOn, wayOff, wayN, bitQ]; done))))) trivial))))))))
     ·
      replace h13 := of_decide_eq_false h13
      refine T_skip ?_
      refine T_region hc ?_
      refine Ch.s (.d (.int .i64 (((k : Nat) : Int) + 1))) (.pure (.int _ _ _ _ _ rfl rfl rfl intV_addA)) ?_
      refine Ch.s (.d (.int .i64 (((k : Nat) : Int) + 1))) (.pure (.move _ rfl rfl)) ?_
      refine Ch.nil ?_
      refine Exists.intro (k + 1) (And.intro (by omega) (And.intro (by first | omega | (dsimp only; omega)) (Wk.of rfl rfl (And.intro rfl (And.intro rfl (And.intro rfl (And.intro rfl (And.intro rfl (And.intro rfl (And.intro rfl (And.intro (vI (by first | rfl | omega | (simp; done) | (simp; omega))) trivial)))))))) (And.intro rfl (And.intro rfl (And.intro rfl (And.intro (oR (by first | (rw [osTo_zero]; rfl) | (exact congrArg (List.map D.str) (osTo_yes (by simp_all [onQ, offQ, wayOn, wayOff, wayN, bitQ]; done))) | (exact congrArg (List.map D.str) (osTo_no (by simp_all [onQ, offQ, wayOn, wayOff, wayN, bitQ]; done))))) (And.intro (oR (by first | (rw [osTo_zero]; rfl) | (exact congrArg (List.map D.str) (osTo_yes (by simp_all [onQ, offQ, wayOn, wayOff, wayN, bitQ]; done))) | (exact congrArg (List.map D.str) (osTo_no (by simp_all [onQ, offQ, wayOn, wayOff, wayN, bitQ]; done))))) trivial))))))))
  ·
   replace h2 := of_decide_eq_false h2
   refine T_skip ?_
   refine T_seq ?_
   refine T_seq ?_
   refine T_region hc ?_
   refine Ch.s (.d (.str w)) (.pure (.move _ rfl rfl)) ?_
   refine Ch.s (.d (.bool (decide (w = [100, 111, 119, 110])))) (.pure (.str _ _ _ _ _ rfl rfl rfl rfl)) ?_
   refine Ch.nil ?_
   refine T_cond (b := (decide (w = [100, 111, 119, 110]))) rfl (fun h14 => ?_) (fun h14 => ?_)
   ·
    replace h14 := of_decide_eq_true h14
    refine T_region hc ?_
    refine Ch.s (.d (.bool (excB x ((k : Nat) : Int) sig))) (.pure (.move _ rfl rfl)) ?_
    refine Ch.s (.d (.bool (excB x ((k : Nat) : Int) sig))) (.pure (.move _ rfl rfl)) ?_
    cases h15 : (excB x ((k : Nat) : Int) sig) with
    | true =>
     refine Ch.s (.d (.bool (decide ((((x.codes.getD k default).getD ((sig).toNat) 0) : UInt8) = 49)))) (.pure (.move _ rfl rfl)) ?_
     refine Ch.s (.d (.bool (decide ((((x.codes.getD k default).getD ((sig).toNat) 0) : UInt8) = 49)))) (.pure (.pickT _ _ _ rfl rfl rfl)) ?_
     refine Ch.s (.d (.bool true)) (.pure (.move _ rfl rfl)) ?_
     refine Ch.s (.d (.bool (decide ((((x.codes.getD k default).getD ((sig).toNat) 0) : UInt8) = 49)))) (.pure (.move _ rfl rfl)) ?_
     refine Ch.s (.d (.bool (!(decide (true = (decide ((((x.codes.getD k default).getD ((sig).toNat) 0) : UInt8) = 49))))))) (.pure (.neB _ _ _ _ rfl Tryz.underlying4 rfl rfl)) ?_
     refine Ch.s (.d (.bool (decide ((((x.codes.getD k default).getD ((sig).toNat) 0) : UInt8) = 49)))) (.pure (.assign _ rfl rfl)) ?_
     refine Ch.s (.d (.bool (!(decide (true = (decide ((((x.codes.getD k default).getD ((sig).toNat) 0) : UInt8) = 49))))))) (.pure (.assign _ rfl rfl)) ?_
     refine Ch.nil ?_
     refine T_seq ?_
     refine T_seq ?_
     refine T_region hc ?_
     refine Ch.s (.d (.bool (decide ((((x.codes.getD k default).getD ((sig).toNat) 0) : UInt8) = 49)))) (.pure (.move _ rfl rfl)) ?_
     refine Ch.nil ?_
     refine T_cond (b := (decide ((((x.codes.getD k default).getD ((sig).toNat) 0) : UInt8) = 49))) rfl (fun h16 => ?_) (fun h16 => ?_)
     ·
      replace h16 := of_decide_eq_true h16
      refine T_region hc ?_
      refine Ch.s (.ptr 7000 0) (.pure (.fldPtr _ _ _ rfl fld29_0 rfl)) ?_
      refine Ch.s (.row 7700) (.pure (.loadPtr1 _ _ rfl ag23 rfl rfl rfl)) ?_
      refine Ch.s (.d (.str (x.codes.getD k default))) (.pure (.move _ rfl rfl)) ?_
      refine Ch.step (v := (.row 59000)) rfl (.call 59000 204 _ _ _ en204 rfl (.inl rfl) (.cons (.row rfl) (.cons (.d _) .nil)) rfl (sol (solid_row (fun _ => rfl) _) rfl) (sp_spec_l15Put (osTo x (onQ x sig (wayN w)) k) (x.codes.getD k default) (by first | assumption | omega | (rw [List.length_take]; omega) | (have := bulkF_mem hb _ (getD_mem (d := default) (by omega)); assumption) | (unfold bulkS at *; omega) | (simp_all; done))) (.skip _ _ (.skip _ _ .nil)) rfl) rfl rfl ?_
      refine Ch.s (.ptr 7000 0) (.pure (.fldPtr _ _ _ rfl fld29_0 rfl)) ?_
      refine Ch.s .junk (.storePtr _ _ _ rfl rfl rfl (.one _ rfl) sz23 (Nat.le_of_ble_eq_true rfl)) ?_
      refine Ch.nil ?_
      refine T_seq ?_
      refine T_region hc ?_
      refine Ch.s (.d (.bool (!(decide (true = (decide ((((x.codes.getD k default).getD ((sig).toNat) 0) : UInt8) = 49))))))) (.pure (.move _ rfl rfl)) ?_
      refine Ch.nil ?_
      refine T_cond (b := (!(decide (true = (decide ((((x.codes.getD k default).getD ((sig).toNat) 0) : UInt8) = 49)))))) rfl (fun h17 => ?_) (fun h17 => ?_)
      ·
       replace h17 := nott h17
       replace h17 := of_decide_eq_false h17
       refine T_region hc ?_
       refine Ch.s (.ptr 7000 1) (.pure (.fldPtr _ _ _ rfl fld29_1 rfl)) ?_
       refine Ch.s (.row 7701) (.pure (.loadPtr1 _ _ rfl ag23 rfl rfl rfl)) ?_
       refine Ch.s (.d (.str (x.codes.getD k default))) (.pure (.move _ rfl rfl)) ?_
       refine Ch.step (v := (.row 65000)) rfl (.call 65000 204 _ _ _ en204 rfl (.inl rfl) (.cons (.row rfl) (.cons (.d _) .nil)) rfl (sol (solid_row (fun _ => rfl) _) rfl) (sp_spec_l15Put (osTo x (offQ x sig (wayN w)) k) (x.codes.getD k default) (by first | assumption | omega | (rw [List.length_take]; omega) | (have := bulkF_mem hb _ (getD_mem (d := default) (by omega)); assumption) | (unfold bulkS at *; omega) | (simp_all; done))) (.skip _ _ (.skip _ _ .nil)) rfl) rfl rfl ?_
       refine Ch.s (.ptr 7000 1) (.pure (.fldPtr _ _ _ rfl fld29_1 rfl)) ?_
       refine Ch.s .junk (.storePtr _ _ _ rfl rfl rfl (.one _ rfl) sz23 (Nat.le_of_ble_eq_true rfl)) ?_
       refine Ch.nil ?_
       refine T_region hc ?_
       refine Ch.s (.d (.int .i64 (((k : Nat) : Int) + 1))) (.pure (.int _ _ _ _ _ rfl rfl rfl intV_addA)) ?_
       refine Ch.s (.d (.int .i64 (((k : Nat) : Int) + 1))) (.pure (.move _ rfl rfl)) ?_
       refine Ch.nil ?_
       refine Exists.intro (k + 1) (And.intro (by omega) (And.intro (by first | omega | (dsimp only; omega)) (Wk.ren [(7700, 59000), (7701, 65000)] rfl rfl rfl rfl (And.intro rfl (And.intro rfl (And.intro rfl (And.intro rfl (And.intro rfl (And.intro rfl (And.intro rfl (And.intro (vI (by first | rfl | omega | (simp; done) | (simp; omega))) trivial)))))))) (And.intro rfl (And.intro rfl (And.intro (oB (Eq.trans (b := [(.row 59000), (.row 65000)]) rfl (by rfl))) (And.intro (oR (by first | (rw [osTo_zero]; rfl) | (exact congrArg (List.map D.str) (osTo_yes (by simp_all [onQ, offQ, wayOn, wayOff, wayN, bitQ]; done))) | (exact congrArg (List.map D.str) (osTo_no (by simp_all [onQ, offQ, wayOn, wayOff, wayN, bitQ]; done))))) (And.intro (oR (by first | (rw [osTo_zero]; rfl) | (exact congrArg (List.map D.str) (osTo_yes (by simp_all [onQ, offQ, wayOn, wayOff, wayN, bitQ]; done))) | (exact congrArg (List.map D.str) (osTo_no (by simp_all [onQ, offQ, wayOn, wayOff, wayN, bitQ]; done))))) trivial))))))))
      ·
       replace h17 := notf h17
       replace h17 := of_decide_eq_true h17
       refine T_skip ?_
       refine T_region hc ?_
       refine Ch.s (.d (.int .i64 (((k : Nat) : Int) + 1))) (.pure (.int _ _ _ _ _ rfl rfl rfl intV_addA)) ?_
       refine Ch.s (.d (.int .i64 (((k : Nat) : Int) + 1))) (.pure (.move _ rfl rfl)) ?_
       refine Ch.nil ?_
       refine Exists.intro (k + 1) (And.intro (by omega) (And.intro (by first | omega | (dsimp only; omega)) (Wk.ren [(7700, 59000)] rfl rfl rfl rfl (And.intro rfl (And.intro rfl (And.intro rfl (And.intro rfl (And.intro rfl (And.intro rfl (And.intro rfl (And.intro (vI (by first | rfl | omega | (simp; done) | (simp; omega))) trivial)))))))) (And.intro rfl (And.intro rfl (And.intro (oB (Eq.trans (b := [(.row 59000), (.row 7701)]) rfl (by rfl))) (And.intro (oR (by first | (rw [osTo_zero]; rfl) | (exact congrArg (List.map D.str) (osTo_yes (by simp_all [onQ, offQ, wayOn, wayOff, wayN, bitQ]; done))) | (exact congrArg (List.map D.str) (osTo_no (by simp_all [onQ, offQ, wayOn, wayOff, wayN, bitQ]; done))))) (And.intro (oR (by first | (rw [osTo_zero]; rfl) | (exact congrArg (List.map D.str) (osTo_yes (by simp_all [onQ, offQ, wayOn, wayOff, wayN, bitQ]; done))) | (exact congrArg (List.map D.str) (osTo_no (by simp_all [onQ, offQ, wayOn, wayOff, wayN, bitQ]; done))))) trivial))))))))
     ·
      replace h16 := of_decide_eq_false h16
      refine T_skip ?_
      refine T_seq ?_
      refine T_region hc ?_
      refine Ch.s (.d (.bool (!(decide (true = (decide ((((x.codes.getD k default).getD ((sig).toNat) 0) : UInt8) = 49))))))) (.pure (.move _ rfl rfl)) ?_
      refine Ch.nil ?_
      refine T_cond (b := (!(decide (true = (decide ((((x.codes.getD k default).getD ((sig).toNat) 0) : UInt8) = 49)))))) rfl (fun h18 => ?_) (fun h18 => ?_)
      ·
       replace h18 := nott h18
       replace h18 := of_decide_eq_false h18
       refine T_region hc ?_
       refine Ch.s (.ptr 7000 1) (.pure (.fldPtr _ _ _ rfl fld29_1 rfl)) ?_
       refine Ch.s (.row 7701) (.pure (.loadPtr1 _ _ rfl ag23 rfl rfl rfl)) ?_
       refine Ch.s (.d (.str (x.codes.getD k default))) (.pure (.move _ rfl rfl)) ?_
       refine Ch.step (v := (.row 65000)) rfl (.call 65000 204 _ _ _ en204 rfl (.inl rfl) (.cons (.row rfl) (.cons (.d _) .nil)) rfl (sol (solid_row (fun _ => rfl) _) rfl) (sp_spec_l15Put (osTo x (offQ x sig (wayN w)) k) (x.codes.getD k default) (by first | assumption | omega | (rw [List.length_take]; omega) | (have := bulkF_mem hb _ (getD_mem (d := default) (by omega)); assumption) | (unfold bulkS at *; omega) | (simp_all; done))) (.skip _ _ (.skip _ _ .nil)) rfl) rfl rfl ?_
       refine Ch.s (.ptr 7000 1) (.pure (.fldPtr _ _ _ rfl fld29_1 rfl)) ?_
       refine Ch.s .junk (.storePtr _ _ _ rfl rfl rfl (.one _ rfl) sz23 (Nat.le_of_ble_eq_true rfl)) ?_
       refine Ch.nil ?_
       refine T_region hc ?_
       refine Ch.s (.d (.int .i64 (((k : Nat) : Int) + 1))) (.pure (.int _ _ _ _ _ rfl rfl rfl intV_addA)) ?_
       refine Ch.s (.d (.int .i64 (((k : Nat) : Int) + 1))) (.pure (.move _ rfl rfl)) ?_
       refine Ch.nil ?_
       refine Exists.intro (k + 1) (And.intro (by omega) (And.intro (by first | omega | (dsimp only; omega)) (Wk.ren [(7701, 65000)] rfl rfl rfl rfl (And.intro rfl (And.intro rfl (And.intro rfl (And.intro rfl (And.intro rfl (And.intro rfl (And.intro rfl (And.intro (vI (by first | rfl | omega | (simp; done) | (simp; omega))) trivial)))))))) (And.intro rfl (And.intro rfl (And.intro (oB (Eq.trans (b := [(.row 7700), (.row 65000)]) rfl (by rfl))) (And.intro (oR (by first | (rw [osTo_zero]; rfl) | (exact congrArg (List.map D.str) (osTo_yes (by simp_all [onQ, offQ, wayOn, wayOff, wayN, bitQ]; done))) | (exact congrArg (List.map D.str) (osTo_no (by simp_all [onQ, offQ, wayOn, wayOff, wayN, bitQ]; done))))) (And.intro (oR (by first | (rw [osTo_zero]; rfl) | (exact congrArg (List.map D.str) (osTo_yes (by simp_all [onQ, offQ, wayOn, wayOff, wayN, bitQ]; done))) | (exact congrArg (List.map D.str) (osTo_no (by simp_all [onQ, offQ, wayOn, wayOff, wayN, bitQ]; done))))) trivial))))))))
      ·
       replace h18 := notf h18
       replace h18 := of_decide_eq_true h18
       refine T_skip ?_
       refine T_region hc ?_
       refine Ch.s (.d (.int .i64 (((k : Nat) : Int) + 1))) (.pure (.int _ _ _ _ _ rfl rfl rfl intV_addA)) ?_
       refine Ch.s (.d (.int .i64 (((k : Nat) : Int) + 1))) (.pure (.move _ rfl rfl)) ?_
       refine Ch.nil ?_
       refine Exists.intro (k + 1) (And.intro (by omega) (And.intro (by first | omega | (dsimp only; omega)) (Wk.of rfl rfl (And.intro rfl (And.intro rfl (And.intro rfl (And.intro rfl (And.intro rfl (And.intro rfl (And.intro rfl (And.intro (vI (by first | rfl | omega | (simp; done) | (simp; omega))) trivial)))))))) (And.intro rfl (And.intro rfl (And.intro rfl (And.intro (oR (by first | (rw [osTo_zero]; rfl) | (exact congrArg (List.map D.str) (osTo_yes (by simp_all [onQ, offQ, wayOn, wayOff, wayN, bitQ]; done))) | (exact congrArg (List.map D.str) (osTo_no (by simp_all [onQ, offQ, wayOn, wayOff, wayN, bitQ]; done))))) (And.intro (oR (by first | (rw [osTo_zero]; rfl) | (exact congrArg (List.map D.str) (osTo_yes (by simp_all [onQ, offQ, wayOn, wayOff, wayN, bitQ]; done))) | (exact congrArg (List.map D.str) (osTo_no (by simp_all [onQ, offQ, wayOn, wayOff, wayN, bitQ]; done))))) trivial))))))))
    | false =>
     refine Ch.skip rfl rfl ?_
     refine Ch.s (.d (.bool false)) (.pure (.pickF _ _ _ rfl rfl rfl)) ?_
     refine Ch.s (.d (.bool false)) (.pure (.move _ rfl rfl)) ?_
     refine Ch.s (.d (.bool (decide ((((x.codes.getD k default).getD ((sig).toNat) 0) : UInt8) = 49)))) (.pure (.move _ rfl rfl)) ?_
     refine Ch.s (.d (.bool (!(decide (false = (decide ((((x.codes.getD k default).getD ((sig).toNat) 0) : UInt8) = 49))))))) (.pure (.neB _ _ _ _ rfl Tryz.underlying4 rfl rfl)) ?_
     refine Ch.s (.d (.bool false)) (.pure (.assign _ rfl rfl)) ?_
     refine Ch.s (.d (.bool (!(decide (false = (decide ((((x.codes.getD k default).getD ((sig).toNat) 0) : UInt8) = 49))))))) (.pure (.assign _ rfl rfl)) ?_
     refine Ch.nil ?_
     refine T_seq ?_
     refine T_seq ?_
     refine T_region hc ?_
     refine Ch.s (.d (.bool false)) (.pure (.move _ rfl rfl)) ?_
     refine Ch.nil ?_
     refine T_cond (b := false) rfl (fun h => nomatch h) (fun _ => ?_)
     refine T_skip ?_
     refine T_seq ?_
     refine T_region hc ?_
     refine Ch.s (.d (.bool (!(decide (false = (decide ((((x.codes.getD k default).getD ((sig).toNat) 0) : UInt8) = 49))))))) (.pure (.move _ rfl rfl)) ?_
     refine Ch.nil ?_
     refine T_cond (b := (!(decide (false = (decide ((((x.codes.getD k default).getD ((sig).toNat) 0) : UInt8) = 49)))))) rfl (fun h19 => ?_) (fun h19 => ?_)
     ·
      replace h19 := nott h19
      replace h19 := of_decide_eq_false h19
      refine T_region hc ?_
      refine Ch.s (.ptr 7000 1) (.pure (.fldPtr _ _ _ rfl fld29_1 rfl)) ?_
      refine Ch.s (.row 7701) (.pure (.loadPtr1 _ _ rfl ag23 rfl rfl rfl)) ?_
      refine Ch.s (.d (.str (x.codes.getD k default))) (.pure (.move _ rfl rfl)) ?_
      refine Ch.step (v := (.row 65000)) rfl (.call 65000 204 _ _ _ en204 rfl (.inl rfl) (.cons (.row rfl) (.cons (.d _) .nil)) rfl (sol (solid_row (fun _ => rfl) _) rfl) (sp_spec_l15Put (osTo x (offQ x sig (wayN w)) k) (x.codes.getD k default) (by first | assumption | omega | (rw [List.length_take]; omega) | (have := bulkF_mem hb _ (getD_mem (d := default) (by omega)); assumption) | (unfold bulkS at *; omega) | (simp_all; done))) (.skip _ _ (.skip _ _ .nil)) rfl) rfl rfl ?_
      refine Ch.s (.ptr 7000 1) (.pure (.fldPtr _ _ _ rfl fld29_1 rfl)) ?_
      refine Ch.s .junk (.storePtr _ _ _ rfl rfl rfl (.one _ rfl) sz23 (Nat.le_of_ble_eq_true rfl)) ?_
      refine Ch.nil ?_
      refine T_region hc ?_
      refine Ch.s (.d (.int .i64 (((k : Nat) : Int) + 1))) (.pure (.int _ _ _ _ _ rfl rfl rfl intV_addA)) ?_
      refine Ch.s (.d (.int .i64 (((k : Nat) : Int) + 1))) (.pure (.move _ rfl rfl)) ?_
      refine Ch.nil ?_
      refine Exists.intro (k + 1) (And.intro (by omega) (And.intro (by first | omega | (dsimp only; omega)) (Wk.ren [(7701, 65000)] rfl rfl rfl rfl (And.intro rfl (And.intro rfl (And.intro rfl (And.intro rfl (And.intro rfl (And.intro rfl (And.intro rfl (And.intro (vI (by first | rfl | omega | (simp; done) | (simp; omega))) trivial)))))))) (And.intro rfl (And.intro rfl (And.intro (oB (Eq.trans (b := [(.row 7700), (.row 65000)]) rfl (by rfl))) (And.intro (oR (by first | (rw [osTo_zero]; rfl) | (exact congrArg (List.map D.str) (osTo_yes (by simp_all [onQ, offQ, wayOn, wayOff, wayN, bitQ]; done))) | (exact congrArg (List.map D.str) (osTo_no (by simp_all [onQ, offQ, wayOn, wayOff, wayN, bitQ]; done))))) (And.intro (oR (by first | (rw [osTo_zero]; rfl) | (exact congrArg (List.map D.str) (osTo_yes (by simp_all [onQ, offQ, wayOn, wayOff, wayN, bitQ]; done))) | (exact congrArg (List.map D.str) (osTo_no (by simp_all [onQ, offQ, wayOn, wayOff, wayN, bitQ]; done))))) trivial))))))))
     ·
      replace h19 := notf h19
      replace h19 := of_decide_eq_true h19
      refine T_skip ?_
      refine T_region hc ?_
      refine Ch.s (.d (.int .i64 (((k : Nat) : Int) + 1))) (.pure (.int _ _ _ _ _ rfl rfl rfl intV_addA)) ?_
      refine Ch.s (.d (.int .i64 (((k : Nat) : Int) + 1))) (.pure (.move _ rfl rfl)) ?_
      refine Ch.nil ?_
      refine Exists.intro (k + 1) (And.intro (by omega) (And.intro (by first | omega | (dsimp only; omega)) (Wk.of rfl rfl (And.intro rfl (And.intro rfl (And.intro rfl (And.intro rfl (And.intro rfl (And.intro rfl (And.intro rfl (And.intro (vI (by first | rfl | omega | (simp; done) | (simp; omega))) trivial)))))))) (And.intro rfl (And.intro rfl (And.intro rfl (And.intro (oR (by first | (rw [osTo_zero]; rfl) | (exact congrArg (List.map D.str) (osTo_yes (by simp_all [onQ, offQ, wayOn, wayOff, wayN, bitQ]; done))) | (exact congrArg (List.map D.str) (osTo_no (by simp_all [onQ, offQ, wayOn, wayOff, wayN, bitQ]; done))))) (And.intro (oR (by first | (rw [osTo_zero]; rfl) | (exact congrArg (List.map D.str) (osTo_yes (by simp_all [onQ, offQ, wayOn, wayOff, wayN, bitQ]; done))) | (exact congrArg (List.map D.str) (osTo_no (by simp_all [onQ, offQ, wayOn, wayOff, wayN, bitQ]; done))))) trivial))))))))
   ·
    replace h14 := of_decide_eq_false h14
    refine T_skip ?_
    refine T_seq ?_
    refine T_seq ?_
    refine T_region hc ?_
    refine Ch.s (.d (.bool (!(decide ((excB x ((k : Nat) : Int) sig) = (decide ((((x.codes.getD k default).getD ((sig).toNat) 0) : UInt8) = 49))))))) (.pure (.move _ rfl rfl)) ?_
    refine Ch.nil ?_
    refine T_cond (b := (!(decide ((excB x ((k : Nat) : Int) sig) = (decide ((((x.codes.getD k default).getD ((sig).toNat) 0) : UInt8) = 49)))))) rfl (fun h20 => ?_) (fun h20 => ?_)
    ·
     replace h20 := nott h20
     replace h20 := of_decide_eq_false h20
     refine T_region hc ?_
     refine Ch.s (.ptr 7000 0) (.pure (.fldPtr _ _ _ rfl fld29_0 rfl)) ?_
     refine Ch.s (.row 7700) (.pure (.loadPtr1 _ _ rfl ag23 rfl rfl rfl)) ?_
     refine Ch.s (.d (.str (x.codes.getD k default))) (.pure (.move _ rfl rfl)) ?_
     refine Ch.step (v := (.row 59000)) rfl (.call 59000 204 _ _ _ en204 rfl (.inl rfl) (.cons (.row rfl) (.cons (.d _) .nil)) rfl (sol (solid_row (fun _ => rfl) _) rfl) (sp_spec_l15Put (osTo x (onQ x sig (wayN w)) k) (x.codes.getD k default) (by first | assumption | omega | (rw [List.length_take]; omega) | (have := bulkF_mem hb _ (getD_mem (d := default) (by omega)); assumption) | (unfold bulkS at *; omega) | (simp_all; done))) (.skip _ _ (.skip _ _ .nil)) rfl) rfl rfl ?_
     refine Ch.s (.ptr 7000 0) (.pure (.fldPtr _ _ _ rfl fld29_0 rfl)) ?_
     refine Ch.s .junk (.storePtr _ _ _ rfl rfl rfl (.one _ rfl) sz23 (Nat.le_of_ble_eq_true rfl)) ?_
     refine Ch.nil ?_
     refine T_seq ?_
     refine T_region hc ?_
     refine Ch.s (.d (.bool (decide ((excB x ((k : Nat) : Int) sig) = (decide ((((x.codes.getD k default).getD ((sig).toNat) 0) : UInt8) = 49)))))) (.pure (.move _ rfl rfl)) ?_
     refine Ch.nil ?_
     refine T_cond (b := (decide ((excB x ((k : Nat) : Int) sig) = (decide ((((x.codes.getD k default).getD ((sig).toNat) 0) : UInt8) = 49))))) rfl (fun h21 => ?_) (fun h21 => ?_)
     ·
      replace h21 := of_decide_eq_true h21
      refine T_region hc ?_
      refine Ch.s (.ptr 7000 1) (.pure (.fldPtr _ _ _ rfl fld29_1 rfl)) ?_
      refine Ch.s (.row 7701) (.pure (.loadPtr1 _ _ rfl ag23 rfl rfl rfl)) ?_
      refine Ch.s (.d (.str (x.codes.getD k default))) (.pure (.move _ rfl rfl)) ?_
      refine Ch.step (v := (.row 65000)) rfl (.call 65000 204 _ _ _ en204 rfl (.inl rfl) (.cons (.row rfl) (.cons (.d _) .nil)) rfl (sol (solid_row (fun _ => rfl) _) rfl) (sp_spec_l15Put (osTo x (offQ x sig (wayN w)) k) (x.codes.getD k default) (by first | assumption | omega | (rw [List.length_take]; omega) | (have := bulkF_mem hb _ (getD_mem (d := default) (by omega)); assumption) | (unfold bulkS at *; omega) | (simp_all; done))) (.skip _ _ (.skip _ _ .nil)) rfl) rfl rfl ?_
      refine Ch.s (.ptr 7000 1) (.pure (.fldPtr _ _ _ rfl fld29_1 rfl)) ?_
      refine Ch.s .junk (.storePtr _ _ _ rfl rfl rfl (.one _ rfl) sz23 (Nat.le_of_ble_eq_true rfl)) ?_
      refine Ch.nil ?_
      refine T_region hc ?_
      refine Ch.s (.d (.int .i64 (((k : Nat) : Int) + 1))) (.pure (.int _ _ _ _ _ rfl rfl rfl intV_addA)) ?_
      refine Ch.s (.d (.int .i64 (((k : Nat) : Int) + 1))) (.pure (.move _ rfl rfl)) ?_
      refine Ch.nil ?_
      refine Exists.intro (k + 1) (And.intro (by omega) (And.intro (by first | omega | (dsimp only; omega)) (Wk.ren [(7700, 59000), (7701, 65000)] rfl rfl rfl rfl (And.intro rfl (And.intro rfl (And.intro rfl (And.intro rfl (And.intro rfl (And.intro rfl (And.intro rfl (And.intro (vI (by first | rfl | omega | (simp; done) | (simp; omega))) trivial)))))))) (And.intro rfl (And.intro rfl (And.intro (oB (Eq.trans (b := [(.row 59000), (.row 65000)]) rfl (by rfl))) (And.intro (oR (by first | (rw [osTo_zero]; rfl) | (exact congrArg (List.map D.str) (osTo_yes (by simp_all [onQ, offQ, wayOn, wayOff, wayN, bitQ]; done))) | (exact congrArg (List.map D.str) (osTo_no (by simp_all [onQ, offQ, wayOn, wayOff, wayN, bitQ]; done))))) (And.intro (oR (by first | (rw [osTo_zero]; rfl) | (exact congrArg (List.map D.str) (osTo_yes (by simp_all [onQ, offQ, wayOn, wayOff, wayN, bitQ]; done))) | (exact congrArg (List.map D.str) (osTo_no (by simp_all [onQ, offQ, wayOn, wayOff, wayN, bitQ]; done))))) trivial))))))))
     ·
      replace h21 := of_decide_eq_false h21
      refine T_skip ?_
      refine T_region hc ?_
      refine Ch.s (.d (.int .i64 (((k : Nat) : Int) + 1))) (.pure (.int _ _ _ _ _ rfl rfl rfl intV_addA)) ?_
      refine Ch.s (.d (.int .i64 (((k : Nat) : Int) + 1))) (.pure (.move _ rfl rfl)) ?_
      refine Ch.nil ?_
      refine Exists.intro (k + 1) (And.intro (by omega) (And.intro (by first | omega | (dsimp only; omega)) (Wk.ren [(7700, 59000)] rfl rfl rfl rfl (And.intro rfl (And.intro rfl (And.intro rfl (And.intro rfl (And.intro rfl (And.intro rfl (And.intro rfl (And.intro (vI (by first | rfl | omega | (simp; done) | (simp; omega))) trivial)))))))) (And.intro rfl (And.intro rfl (And.intro (oB (Eq.trans (b := [(.row 59000), (.row 7701)]) rfl (by rfl))) (And.intro (oR (by first | (rw [osTo_zero]; rfl) | (exact congrArg (List.map D.str) (osTo_yes (by simp_all [onQ, offQ, wayOn, wayOff, wayN, bitQ]; done))) | (exact congrArg (List.map D.str) (osTo_no (by simp_all [onQ, offQ, wayOn, wayOff, wayN, bitQ]; done))))) (And.intro (oR (by first | (rw [osTo_zero]; rfl) | (exact congrArg (List.map D.str) (osTo_yes (by simp_all [onQ, offQ, wayOn, wayOff, wayN, bitQ]; done))) | (exact congrArg (List.map D.str) (osTo_no (by simp_all [onQ, offQ, wayOn, wayOff, wayN, bitQ]; done))))) trivial))))))))
    ·
     replace h20 := notf h20
     replace h20 := of_decide_eq_true h20
     refine T_skip ?_
     refine T_seq ?_
     refine T_region hc ?_
     refine Ch.s (.d (.bool (decide ((excB x ((k : Nat) : Int) sig) = (decide ((((x.codes.getD k default).getD ((sig).toNat) 0) : UInt8) = 49)))))) (.pure (.move _ rfl rfl)) ?_
     refine Ch.nil ?_
     refine T_cond (b := (decide ((excB x ((k : Nat) : Int) sig) = (decide ((((x.codes.getD k default).getD ((sig).toNat) 0) : UInt8) = 49))))) rfl (fun h22 => ?_) (fun h22 => ?_)
     ·
      replace h22 := of_decide_eq_true h22
      refine T_region hc ?_
      refine Ch.s (.ptr 7000 1) (.pure (.fldPtr _ _ _ rfl fld29_1 rfl)) ?_
      refine Ch.s (.row 7701) (.pure (.loadPtr1 _ _ rfl ag23 rfl rfl rfl)) ?_
      refine Ch.s (.d (.str (x.codes.getD k default))) (.pure (.move _ rfl rfl)) ?_
      refine Ch.step (v := (.row 65000)) rfl (.call 65000 204 _ _ _ en204 rfl (.inl rfl) (.cons (.row rfl) (.cons (.d _) .nil)) rfl (sol (solid_row (fun _ => rfl) _) rfl) (sp_spec_l15Put (osTo x (offQ x sig (wayN w)) k) (x.codes.getD k default) (by first | assumption | omega | (rw [List.length_take]; omega) | (have := bulkF_mem hb _ (getD_mem (d := default) (by omega)); assumption) | (unfold bulkS at *; omega) | (simp_all; done))) (.skip _ _ (.skip _ _ .nil)) rfl) rfl rfl ?_
      refine Ch.s (.ptr 7000 1) (.pure (.fldPtr _ _ _ rfl fld29_1 rfl)) ?_
      refine Ch.s .junk (.storePtr _ _ _ rfl rfl rfl (.one _ rfl) sz23 (Nat.le_of_ble_eq_true rfl)) ?_
      refine Ch.nil ?_
      refine T_region hc ?_
      refine Ch.s (.d (.int .i64 (((k : Nat) : Int) + 1))) (.pure (.int _ _ _ _ _ rfl rfl rfl intV_addA)) ?_
      refine Ch.s (.d (.int .i64 (((k : Nat) : Int) + 1))) (.pure (.move _ rfl rfl)) ?_
      refine Ch.nil ?_
      refine Exists.intro (k + 1) (And.intro (by omega) (And.intro (by first | omega | (dsimp only; omega)) (Wk.ren [(7701, 65000)] rfl rfl rfl rfl (And.intro rfl (And.intro rfl (And.intro rfl (And.intro rfl (And.intro rfl (And.intro rfl (And.intro rfl (And.intro (vI (by first | rfl | omega | (simp; done) | (simp; omega))) trivial)))))))) (And.intro rfl (And.intro rfl (And.intro (oB (Eq.trans (b := [(.row 7700), (.row 65000)]) rfl (by rfl))) (And.intro (oR (by first | (rw [osTo_zero]; rfl) | (exact congrArg (List.map D.str) (osTo_yes (by simp_all [onQ, offQ, wayOn, wayOff, wayN, bitQ]; done))) | (exact congrArg (List.map D.str) (osTo_no (by simp_all [onQ, offQ, wayOn, wayOff, wayN, bitQ]; done))))) (And.intro (oR (by first | (rw [osTo_zero]; rfl) | (exact congrArg (List.map D.str) (osTo_yes (by simp_all [onQ, offQ, wayOn, wayOff, wayN, bitQ]; done))) | (exact congrArg (List.map D.str) (osTo_no (by simp_all [onQ, offQ, wayOn, wayOff, wayN, bitQ]; done))))) trivial))))))))
     ·
      replace h22 := of_decide_eq_false h22
      refine T_skip ?_
      refine T_region hc ?_
      refine Ch.s (.d (.int .i64 (((k : Nat) : Int) + 1))) (.pure (.int _ _ _ _ _ rfl rfl rfl intV_addA)) ?_
      refine Ch.s (.d (.int .i64 (((k : Nat) : Int) + 1))) (.pure (.move _ rfl rfl)) ?_
      refine Ch.nil ?_
      refine Exists.intro (k + 1) (And.intro (by omega) (And.intro (by first | omega | (dsimp only; omega)) (Wk.of rfl rfl (And.intro rfl (And.intro rfl (And.intro rfl (And.intro rfl (And.intro rfl (And.intro rfl (And.intro rfl (And.intro (vI (by first | rfl | omega | (simp; done) | (simp; omega))) trivial)))))))) (And.intro rfl (And.intro rfl (And.intro rfl (And.intro (oR (by first | (rw [osTo_zero]; rfl) | (exact congrArg (List.map D.str) (osTo_yes (by simp_all [onQ, offQ, wayOn, wayOff, wayN, bitQ]; done))) | (exact congrArg (List.map D.str) (osTo_no (by simp_all [onQ, offQ, wayOn, wayOff, wayN, bitQ]; done))))) (And.intro (oR (by first | (rw [osTo_zero]; rfl) | (exact congrArg (List.map D.str) (osTo_yes (by simp_all [onQ, offQ, wayOn, wayOff, wayN, bitQ]; done))) | (exact congrArg (List.map D.str) (osTo_no (by simp_all [onQ, offQ, wayOn, wayOff, wayN, bitQ]; done))))) trivial))))))))
 ·
  replace h1 := of_decide_eq_false h1
  try have hlk : (x.codes.getD k default).length = x.sigs.length := (hck (k : Int) (by omega) (by omega)).2
  refine T_exit ?_
  refine T_seq ?_
  refine T_region hc ?_
  refine Ch.s (.agg [(.row 7700), (.row 7701)]) (.pure (.loadPtrA _ _ rfl ag29 sz29 rfl rfl (Nat.le_of_ble_eq_true rfl) rfl)) ?_
  refine Ch.s .junk (.storePtr _ _ _ rfl rfl rfl (.agg _ rfl) sz29 (Nat.le_of_ble_eq_true rfl)) ?_
  refine Ch.nil ?_
  refine T_ret ?_
  refine And.intro (.inr rfl) ?_
  exact Exists.intro [(.agg [(.row 7700), (.row 7701)])] (Exists.intro [] (Exists.intro [7700, 7701] (And.intro (.cons (.cellA _ _ rfl rfl ag29 sz29) .nil) (And.intro (.cons (.any _) (.cons (.any _) (.cons (.any _) .nil))) (And.intro (.agg (.cons (Exp.of (congrArg (D.slice true 1) (by rw [osL, show x.codes.length = k by omega])) (.row rfl)) (.cons (Exp.of (congrArg (D.slice true 1) (by rw [osL, show x.codes.length = k by omega])) (.row rfl)) .nil)) rfl) (And.intro rfl rfl))))))

theorem sp_spec_l15Told (x : Sgr) (sig : Int) (w : List UInt8) (hb : x.bulk ≤ 1048576) : Sp Tryz.prog 69 [(.agg [(.slice false 2 (x.sigs.map Sgn.d)), (.slice false 1 (x.codes.map D.str)), (.slice false 4 (x.arcs.map Arc.d))]), (.int .i64 sig), (.str w)] [.any, .any, .any] (.tup [(.agg [(.slice true 1 ((osOn x sig (wayN w)).map D.str)), (.slice true 1 ((osOff x sig (wayN w)).map D.str))]), (.bool (osOk x sig (wayN w)))]) := by
 refine Sp_intro (lend := true) Tryz.func69 rfl rfl rfl (fun _ => rfl) (fun c hc hX => ?_)
 obtain ⟨hp0, hp1, hp2⟩ := Sgr.parts hb
 have hn0 := bulkF_len hp0
 have hn1 := bulk_len hp1
 have hx1 := bulk_mem hp1
 have hn2 := bulkF_len hp2
 refine T_seq ?_
 refine T_region hc ?_
 refine Ch.s (.ptr 3000 0) (.box 3000 _ _ rfl (.aggD _)) ?_
 refine Ch.s (.ptr 6000 0) (.alloc 6000 _ rfl zer29) ?_
 refine Ch.s (.d (.bool false)) (.pure (.assign _ rfl rfl)) ?_
 refine Ch.nil ?_
 refine T_seq ?_
 refine T_seq ?_
 refine T_region hc ?_
 refine Ch.s (.agg [(.d (.slice false 2 (x.sigs.map Sgn.d))), (.d (.slice false 1 (x.codes.map D.str))), (.d (.slice false 4 (x.arcs.map Arc.d)))]) (.pure (.loadPtrA _ _ rfl ag35 sz35 rfl rfl (Nat.le_of_ble_eq_true rfl) rfl)) ?_
 refine Ch.s (.d (.int .i64 sig)) (.pure (.move _ rfl rfl)) ?_
 refine Ch.s (.d (.bool (outSig x sig))) (.call 11000 134 _ _ _ en134 rfl (.inl rfl) (.cons (.lend (.agg (.cons (.d _) (.cons (.d _) (.cons (.d _) .nil))) rfl)) (.cons (.d _) .nil)) rfl rfl (sp_spec_l15Asked x sig (by first | assumption | omega | (rw [List.length_take]; omega) | (have := bulkF_mem hb _ (getD_mem (d := default) (by omega)); assumption) | (unfold bulkS at *; omega) | (simp_all; done))) (.skip _ _ (.skip _ _ .nil)) rfl) ?_
 refine Ch.s (.d (.bool (!(outSig x sig)))) (.pure (.not _ _ rfl rfl)) ?_
 refine Ch.nil ?_
 refine T_cond (b := (!(outSig x sig))) rfl (fun h1 => ?_) (fun h1 => ?_)
 ·
  replace h1 := nott h1
  try have hsr := outSig_has h1
  try have hx := sg_has hsr.1
  try have hsx := hsr.2
  try have hxl := hx.len
  try have hop : (osL x (onQ x sig (wayN w))).length ≤ x.codes.length := osTo_le x (onQ x sig (wayN w)) x.codes.length
  try have hoq : (osL x (offQ x sig (wayN w))).length ≤ x.codes.length := osTo_le x (offQ x sig (wayN w)) x.codes.length
  try have hpx : ∀ u ∈ osL x (onQ x sig (wayN w)), u.length ≤ 1048576 := fun u hu => hx1 u (osTo_in (Nat.le_refl _) u hu)
  try have hqx : ∀ u ∈ osL x (offQ x sig (wayN w)), u.length ≤ 1048576 := fun u hu => hx1 u (osTo_in (Nat.le_refl _) u hu)
  refine T_seq ?_
  refine T_region hc ?_
  refine Ch.s (.agg [(.c (.slice none 0 0)), (.c (.slice none 0 0))]) (.build _ _ rfl stru29 .nil rfl) ?_
  refine Ch.s .junk (.storePtr _ _ _ rfl rfl rfl (.agg _ rfl) sz29 (Nat.le_of_ble_eq_true rfl)) ?_
  refine Ch.s (.d (.bool false)) (.pure (.assign _ rfl rfl)) ?_
  refine Ch.nil ?_
  refine T_ret ?_
  refine And.intro (.inr rfl) ?_
  exact Exists.intro [(.agg [(.c (.slice none 0 0)), (.c (.slice none 0 0))]), (.d (.bool false))] (Exists.intro [] (Exists.intro [] (And.intro (.cons (.cellA _ _ rfl rfl ag29 sz29) (.cons (.tmp 7 rfl) .nil)) (And.intro (.cons (.any _) (.cons (.any _) (.cons (.any _) .nil))) (And.intro (.tup (.cons (.agg (.cons (Exp.of (congrArg (D.slice true 1) (by first | (have hk : setsOk x (onQ x sig (wayN w)) (offQ x sig (wayN w)) = true := h2; first | (rw [osOn, h1, if_pos rfl, setsOn, hk]; rfl) | (rw [osOff, h1, if_pos rfl, setsOff, hk]; rfl) | (rw [osOk, h1, hk]; rfl)) | (have hk : setsOk x (onQ x sig (wayN w)) (offQ x sig (wayN w)) = false := h2; first | (rw [osOn, h1, if_pos rfl, setsOn_no hk]; rfl) | (rw [osOff, h1, if_pos rfl, setsOff_no hk]; rfl) | (rw [osOk, h1, hk]; rfl)) | (rw [osOn, h1]; rfl) | (rw [osOff, h1]; rfl) | (rw [osOk, h1]; rfl))) (.nil true 1)) (.cons (Exp.of (congrArg (D.slice true 1) (by first | (have hk : setsOk x (onQ x sig (wayN w)) (offQ x sig (wayN w)) = true := h2; first | (rw [osOn, h1, if_pos rfl, setsOn, hk]; rfl) | (rw [osOff, h1, if_pos rfl, setsOff, hk]; rfl) | (rw [osOk, h1, hk]; rfl)) | (have hk : setsOk x (onQ x sig (wayN w)) (offQ x sig (wayN w)) = false := h2; first | (rw [osOn, h1, if_pos rfl, setsOn_no hk]; rfl) | (rw [osOff, h1, if_pos rfl, setsOff_no hk]; rfl) | (rw [osOk, h1, hk]; rfl)) | (rw [osOn, h1]; rfl) | (rw [osOff, h1]; rfl) | (rw [osOk, h1]; rfl))) (.nil true 1)) .nil)) rfl) (.cons (Exp.of (congrArg D.bool (by first | (have hk : setsOk x (onQ x sig (wayN w)) (offQ x sig (wayN w)) = true := h2; first | (rw [osOn, h1, if_pos rfl, setsOn, hk]; rfl) | (rw [osOff, h1, if_pos rfl, setsOff, hk]; rfl) | (rw [osOk, h1, hk]; rfl)) | (have hk : setsOk x (onQ x sig (wayN w)) (offQ x sig (wayN w)) = false := h2; first | (rw [osOn, h1, if_pos rfl, setsOn_no hk]; rfl) | (rw [osOff, h1, if_pos rfl, setsOff_no hk]; rfl) | (rw [osOk, h1, hk]; rfl)) | (rw [osOn, h1]; rfl) | (rw [osOff, h1]; rfl) | (rw [osOk, h1]; rfl))) (.d _)) .nil))) (And.intro rfl rfl))))))
 ·
  replace h1 := notf h1
  try have hsr := outSig_has h1
  try have hx := sg_has hsr.1
  try have hsx := hsr.2
  try have hxl := hx.len
  try have hop : (osL x (onQ x sig (wayN w))).length ≤ x.codes.length := osTo_le x (onQ x sig (wayN w)) x.codes.length
  try have hoq : (osL x (offQ x sig (wayN w))).length ≤ x.codes.length := osTo_le x (offQ x sig (wayN w)) x.codes.length
  try have hpx : ∀ u ∈ osL x (onQ x sig (wayN w)), u.length ≤ 1048576 := fun u hu => hx1 u (osTo_in (Nat.le_refl _) u hu)
  try have hqx : ∀ u ∈ osL x (offQ x sig (wayN w)), u.length ≤ 1048576 := fun u hu => hx1 u (osTo_in (Nat.le_refl _) u hu)
  refine T_skip ?_
  refine T_seq ?_
  refine T_region hc ?_
  refine Ch.s (.agg [(.d (.slice false 2 (x.sigs.map Sgn.d))), (.d (.slice false 1 (x.codes.map D.str))), (.d (.slice false 4 (x.arcs.map Arc.d)))]) (.pure (.loadPtrA _ _ rfl ag35 sz35 rfl rfl (Nat.le_of_ble_eq_true rfl) rfl)) ?_
  refine Ch.s (.d (.int .i64 sig)) (.pure (.move _ rfl rfl)) ?_
  refine Ch.s (.d (.str w)) (.pure (.move _ rfl rfl)) ?_
  refine Ch.step (v := (.agg [(.row 17000), (.row 17001)])) rfl (.call 17000 135 _ _ _ en135 rfl (.inl rfl) (.cons (.lend (.agg (.cons (.d _) (.cons (.d _) (.cons (.d _) .nil))) rfl)) (.cons (.d _) (.cons (.d _) .nil))) rfl (sol (by rw [D.solid]; exact solids_c (solid_row (fun _ => rfl) _) (solids_c (solid_row (fun _ => rfl) _) rfl)) rfl) (sp_spec_l15Sets x sig w (by first | assumption | omega | (rw [List.length_take]; omega) | (have := bulkF_mem hb _ (getD_mem (d := default) (by omega)); assumption) | (unfold bulkS at *; omega) | (simp_all; done)) (by assumption) (by omega)) (.skip _ _ (.skip _ _ (.skip _ _ .nil))) rfl) rfl rfl ?_
  refine Ch.s (.ptr 8000 0) (.alloc 8000 _ rfl zer29) ?_
  refine Ch.s .junk (.storePtr _ _ _ rfl rfl rfl (.agg _ rfl) sz29 (Nat.le_of_ble_eq_true rfl)) ?_
  refine Ch.nil ?_
  refine T_seq ?_
  refine T_seq ?_
  refine T_region hc ?_
  refine Ch.s (.ptr 3000 0) (.pure (.fldPtr _ _ _ rfl fld35_0 rfl)) ?_
  refine Ch.s (.d (.slice false 2 (x.sigs.map Sgn.d))) (.pure (.loadPtr1 _ _ rfl ag32 rfl rfl rfl)) ?_
  refine Ch.s (.d (.int .i64 ((x.sigs.length : Nat) : Int))) (.pure (.len _ _ 154 rfl Tryz.underlying32 (.sh _ _) (by simp))) ?_
  refine Ch.s (.ptr 8000 0) (.pure (.fldPtr _ _ _ rfl fld29_0 rfl)) ?_
  refine Ch.s (.row 17000) (.pure (.loadPtr1 _ _ rfl ag23 rfl rfl rfl)) ?_
  refine Ch.s (.ptr 8000 1) (.pure (.fldPtr _ _ _ rfl fld29_1 rfl)) ?_
  refine Ch.s (.row 17001) (.pure (.loadPtr1 _ _ rfl ag23 rfl rfl rfl)) ?_
  refine Ch.s (.d (.bool (onoffB ((x.sigs.length : Nat) : Int) (osL x (onQ x sig (wayN w))) (osL x (offQ x sig (wayN w)))))) (.call 25000 136 _ _ _ en136 rfl (.inl rfl) (.cons (.d _) (.cons (.lend (.row rfl (frozs_map (fun _ => rfl) _))) (.cons (.lend (.row rfl (frozs_map (fun _ => rfl) _))) .nil))) rfl rfl (sp_spec_l14Sets ((x.sigs.length : Nat) : Int) (osL x (onQ x sig (wayN w))) (osL x (offQ x sig (wayN w))) (by first | omega | assumption | (exact hx _ (getD_mem (by omega))) | (exact hx _ (by assumption)) | (exact Nat.le_trans (hx _ (by assumption)) (by omega)) | (simp only [List.length_append, List.length_take, List.length_drop, List.length_cons, List.length_nil]; omega) | (simp_all; done)) (by first | omega | assumption | (exact hx _ (getD_mem (by omega))) | (exact hx _ (by assumption)) | (exact Nat.le_trans (hx _ (by assumption)) (by omega)) | (simp only [List.length_append, List.length_take, List.length_drop, List.length_cons, List.length_nil]; omega) | (simp_all; done)) (by first | omega | assumption | (exact hx _ (getD_mem (by omega))) | (exact hx _ (by assumption)) | (exact Nat.le_trans (hx _ (by assumption)) (by omega)) | (simp only [List.length_append, List.length_take, List.length_drop, List.length_cons, List.length_nil]; omega) | (simp_all; done)) (by first | omega | assumption | (exact hx _ (getD_mem (by omega))) | (exact hx _ (by assumption)) | (exact Nat.le_trans (hx _ (by assumption)) (by omega)) | (simp only [List.length_append, List.length_take, List.length_drop, List.length_cons, List.length_nil]; omega) | (simp_all; done))) (.skip _ _ (.skip _ _ (.skip _ _ .nil))) rfl) ?_
  refine Ch.s (.d (.bool (!(onoffB ((x.sigs.length : Nat) : Int) (osL x (onQ x sig (wayN w))) (osL x (offQ x sig (wayN w))))))) (.pure (.not _ _ rfl rfl)) ?_
  refine Ch.nil ?_
  refine T_cond (b := (!(onoffB ((x.sigs.length : Nat) : Int) (osL x (onQ x sig (wayN w))) (osL x (offQ x sig (wayN w)))))) rfl (fun h2 => ?_) (fun h2 => ?_)
  ·
   replace h2 := nott h2
   refine T_seq ?_
   refine T_region hc ?_
   refine Ch.s (.agg [(.c (.slice none 0 0)), (.c (.slice none 0 0))]) (.build _ _ rfl stru29 .nil rfl) ?_
   refine Ch.s .junk (.storePtr _ _ _ rfl rfl rfl (.agg _ rfl) sz29 (Nat.le_of_ble_eq_true rfl)) ?_
   refine Ch.s (.d (.bool false)) (.pure (.assign _ rfl rfl)) ?_
   refine Ch.nil ?_
   refine T_ret ?_
   refine And.intro (.inr rfl) ?_
   exact Exists.intro [(.agg [(.c (.slice none 0 0)), (.c (.slice none 0 0))]), (.d (.bool false))] (Exists.intro [] (Exists.intro [] (And.intro (.cons (.cellA _ _ rfl rfl ag29 sz29) (.cons (.tmp 7 rfl) .nil)) (And.intro (.cons (.any _) (.cons (.any _) (.cons (.any _) .nil))) (And.intro (.tup (.cons (.agg (.cons (Exp.of (congrArg (D.slice true 1) (by first | (have hk : setsOk x (onQ x sig (wayN w)) (offQ x sig (wayN w)) = true := h2; first | (rw [osOn, h1, if_pos rfl, setsOn, hk]; rfl) | (rw [osOff, h1, if_pos rfl, setsOff, hk]; rfl) | (rw [osOk, h1, hk]; rfl)) | (have hk : setsOk x (onQ x sig (wayN w)) (offQ x sig (wayN w)) = false := h2; first | (rw [osOn, h1, if_pos rfl, setsOn_no hk]; rfl) | (rw [osOff, h1, if_pos rfl, setsOff_no hk]; rfl) | (rw [osOk, h1, hk]; rfl)) | (rw [osOn, h1]; rfl) | (rw [osOff, h1]; rfl) | (rw [osOk, h1]; rfl))) (.nil true 1)) (.cons (Exp.of (congrArg (D.slice true 1) (by first | (have hk : setsOk x (onQ x sig (wayN w)) (offQ x sig (wayN w)) = true := h2; first | (rw [osOn, h1, if_pos rfl, setsOn, hk]; rfl) | (rw [osOff, h1, if_pos rfl, setsOff, hk]; rfl) | (rw [osOk, h1, hk]; rfl)) | (have hk : setsOk x (onQ x sig (wayN w)) (offQ x sig (wayN w)) = false := h2; first | (rw [osOn, h1, if_pos rfl, setsOn_no hk]; rfl) | (rw [osOff, h1, if_pos rfl, setsOff_no hk]; rfl) | (rw [osOk, h1, hk]; rfl)) | (rw [osOn, h1]; rfl) | (rw [osOff, h1]; rfl) | (rw [osOk, h1]; rfl))) (.nil true 1)) .nil)) rfl) (.cons (Exp.of (congrArg D.bool (by first | (have hk : setsOk x (onQ x sig (wayN w)) (offQ x sig (wayN w)) = true := h2; first | (rw [osOn, h1, if_pos rfl, setsOn, hk]; rfl) | (rw [osOff, h1, if_pos rfl, setsOff, hk]; rfl) | (rw [osOk, h1, hk]; rfl)) | (have hk : setsOk x (onQ x sig (wayN w)) (offQ x sig (wayN w)) = false := h2; first | (rw [osOn, h1, if_pos rfl, setsOn_no hk]; rfl) | (rw [osOff, h1, if_pos rfl, setsOff_no hk]; rfl) | (rw [osOk, h1, hk]; rfl)) | (rw [osOn, h1]; rfl) | (rw [osOff, h1]; rfl) | (rw [osOk, h1]; rfl))) (.d _)) .nil))) (And.intro rfl rfl))))))
  ·
   replace h2 := notf h2
   refine T_skip ?_
   refine T_seq ?_
   refine T_region hc ?_
   refine Ch.s (.agg [(.row 17000), (.row 17001)]) (.pure (.loadPtrA _ _ rfl ag29 sz29 rfl rfl (Nat.le_of_ble_eq_true rfl) rfl)) ?_
   refine Ch.s .junk (.storePtr _ _ _ rfl rfl rfl (.agg _ rfl) sz29 (Nat.le_of_ble_eq_true rfl)) ?_
   refine Ch.s (.d (.bool true)) (.pure (.assign _ rfl rfl)) ?_
   refine Ch.nil ?_
   refine T_ret ?_
   refine And.intro (.inr rfl) ?_
   exact Exists.intro [(.agg [(.row 17000), (.row 17001)]), (.d (.bool true))] (Exists.intro [] (Exists.intro [17000, 17001] (And.intro (.cons (.cellA _ _ rfl rfl ag29 sz29) (.cons (.tmp 7 rfl) .nil)) (And.intro (.cons (.any _) (.cons (.any _) (.cons (.any _) .nil))) (And.intro (.tup (.cons (.agg (.cons (Exp.of (congrArg (D.slice true 1) (by first | (have hk : setsOk x (onQ x sig (wayN w)) (offQ x sig (wayN w)) = true := h2; first | (rw [osOn, h1, if_pos rfl, setsOn, hk]; rfl) | (rw [osOff, h1, if_pos rfl, setsOff, hk]; rfl) | (rw [osOk, h1, hk]; rfl)) | (have hk : setsOk x (onQ x sig (wayN w)) (offQ x sig (wayN w)) = false := h2; first | (rw [osOn, h1, if_pos rfl, setsOn_no hk]; rfl) | (rw [osOff, h1, if_pos rfl, setsOff_no hk]; rfl) | (rw [osOk, h1, hk]; rfl)) | (rw [osOn, h1]; rfl) | (rw [osOff, h1]; rfl) | (rw [osOk, h1]; rfl))) (.row rfl)) (.cons (Exp.of (congrArg (D.slice true 1) (by first | (have hk : setsOk x (onQ x sig (wayN w)) (offQ x sig (wayN w)) = true := h2; first | (rw [osOn, h1, if_pos rfl, setsOn, hk]; rfl) | (rw [osOff, h1, if_pos rfl, setsOff, hk]; rfl) | (rw [osOk, h1, hk]; rfl)) | (have hk : setsOk x (onQ x sig (wayN w)) (offQ x sig (wayN w)) = false := h2; first | (rw [osOn, h1, if_pos rfl, setsOn_no hk]; rfl) | (rw [osOff, h1, if_pos rfl, setsOff_no hk]; rfl) | (rw [osOk, h1, hk]; rfl)) | (rw [osOn, h1]; rfl) | (rw [osOff, h1]; rfl) | (rw [osOk, h1]; rfl))) (.row rfl)) .nil)) rfl) (.cons (Exp.of (congrArg D.bool (by first | (have hk : setsOk x (onQ x sig (wayN w)) (offQ x sig (wayN w)) = true := h2; first | (rw [osOn, h1, if_pos rfl, setsOn, hk]; rfl) | (rw [osOff, h1, if_pos rfl, setsOff, hk]; rfl) | (rw [osOk, h1, hk]; rfl)) | (have hk : setsOk x (onQ x sig (wayN w)) (offQ x sig (wayN w)) = false := h2; first | (rw [osOn, h1, if_pos rfl, setsOn_no hk]; rfl) | (rw [osOff, h1, if_pos rfl, setsOff_no hk]; rfl) | (rw [osOk, h1, hk]; rfl)) | (rw [osOn, h1]; rfl) | (rw [osOff, h1]; rfl) | (rw [osOk, h1]; rfl))) (.d _)) .nil))) (And.intro rfl rfl))))))

theorem sp_spec_NextStateSets (x : Sgr) (sig : Int) (hb : x.bulk ≤ 1048576) : Sp Tryz.prog 78 [(.agg [(.slice false 2 (x.sigs.map Sgn.d)), (.slice false 1 (x.codes.map D.str)), (.slice false 4 (x.arcs.map Arc.d))]), (.int .i64 sig)] [.any, .any] (.tup [(.agg [(.slice true 1 ((osOn x sig 0).map D.str)), (.slice true 1 ((osOff x sig 0).map D.str))]), (.bool (osOk x sig 0))]) := by
 refine Sp_intro (lend := true) Tryz.func78 rfl rfl rfl (fun _ => rfl) (fun c hc hX => ?_)
 obtain ⟨hp0, hp1, hp2⟩ := Sgr.parts hb
 have hn0 := bulkF_len hp0
 have hn1 := bulk_len hp1
 have hx1 := bulk_mem hp1
 have hn2 := bulkF_len hp2
 refine T_seq ?_
 refine T_region hc ?_
 refine Ch.s (.ptr 2000 0) (.box 2000 _ _ rfl (.aggD _)) ?_
 refine Ch.s (.ptr 4000 0) (.alloc 4000 _ rfl zer29) ?_
 refine Ch.s (.d (.bool false)) (.pure (.assign _ rfl rfl)) ?_
 refine Ch.nil ?_
 refine T_seq ?_
 refine T_region hc ?_
 refine Ch.s (.agg [(.d (.slice false 2 (x.sigs.map Sgn.d))), (.d (.slice false 1 (x.codes.map D.str))), (.d (.slice false 4 (x.arcs.map Arc.d)))]) (.pure (.loadPtrA _ _ rfl ag35 sz35 rfl rfl (Nat.le_of_ble_eq_true rfl) rfl)) ?_
 refine Ch.s (.d (.int .i64 sig)) (.pure (.move _ rfl rfl)) ?_
 refine Ch.step (v := (.tup [(.agg [(.row 8000), (.row 8001)]), (.d (.bool (osOk x sig (wayN ([110, 101, 120, 116])))))])) rfl (.call 8000 69 _ _ _ en69 rfl (.inl rfl) (.cons (.lend (.agg (.cons (.d _) (.cons (.d _) (.cons (.d _) .nil))) rfl)) (.cons (.d _) (.cons (.d _) .nil))) rfl (sol (by rw [D.solid]; exact solids_c (by rw [D.solid]; exact solids_c (solid_row (fun _ => rfl) _) (solids_c (solid_row (fun _ => rfl) _) rfl)) rfl) rfl) (sp_spec_l15Told x sig ([110, 101, 120, 116]) (by first | assumption | omega | (rw [List.length_take]; omega) | (have := bulkF_mem hb _ (getD_mem (d := default) (by omega)); assumption) | (unfold bulkS at *; omega) | (simp_all; done))) (.skip _ _ (.skip _ _ (.skip _ _ .nil))) rfl) rfl rfl ?_
 refine Ch.s (.agg [(.row 8000), (.row 8001)]) (.pure (.extract _ rfl rfl rfl)) ?_
 refine Ch.s (.d (.bool (osOk x sig (wayN ([110, 101, 120, 116]))))) (.pure (.extract _ rfl rfl rfl)) ?_
 refine Ch.s .junk (.storePtr _ _ _ rfl rfl rfl (.agg _ rfl) sz29 (Nat.le_of_ble_eq_true rfl)) ?_
 refine Ch.s (.d (.bool (osOk x sig (wayN ([110, 101, 120, 116]))))) (.pure (.assign _ rfl rfl)) ?_
 refine Ch.nil ?_
 refine T_ret ?_
 refine And.intro (.inr rfl) ?_
 exact Exists.intro [(.agg [(.row 8000), (.row 8001)]), (.d (.bool (osOk x sig (wayN ([110, 101, 120, 116])))))] (Exists.intro [] (Exists.intro [8000, 8001] (And.intro (.cons (.cellA _ _ rfl rfl ag29 sz29) (.cons (.tmp 5 rfl) .nil)) (And.intro (.cons (.any _) (.cons (.any _) .nil)) (And.intro (.tup (.cons (.agg (.cons (Exp.of (congrArg (D.slice true 1) (by rfl)) (.row rfl)) (.cons (Exp.of (congrArg (D.slice true 1) (by rfl)) (.row rfl)) .nil)) rfl) (.cons (Exp.of (congrArg D.bool (by rfl)) (.d _)) .nil))) (And.intro rfl rfl))))))

theorem en80 : Enters Tryz.prog 80 := ⟨_, Tryz.func80, by kernel_rfl, rfl⟩

theorem en78 : Enters Tryz.prog 78 := ⟨_, Tryz.func78, by kernel_rfl, rfl⟩

theorem en25 : Enters Tryz.prog 25 := ⟨_, Tryz.func25, by kernel_rfl, rfl⟩

theorem en26 : Enters Tryz.prog 26 := ⟨_, Tryz.func26, by kernel_rfl, rfl⟩

def nvB (x : Sgr) (u : List UInt8) (sig : Int) : Bool := osOk x sig 0 && (hasS (osOn x sig 0) u || hasS (osOff x sig 0) u)

def nvV (x : Sgr) (u : List UInt8) (sig : Int) : Bool := osOk x sig 0 && hasS (osOn x sig 0) u

theorem sp_impl_NextValue (x : Sgr) (u : List UInt8) (sig : Int) (hb : x.bulk ≤ 1048576) : Sp Tryz.prog 26 [(.agg [(.slice false 2 (x.sigs.map Sgn.d)), (.slice false 1 (x.codes.map D.str)), (.slice false 4 (x.arcs.map Arc.d))]), (.str u), (.int .i64 sig)] [.any, .any, .any] (.tup [(.bool (nvV x u sig)), (.bool (nvB x u sig))]) := by
 refine Sp_intro (lend := true) Tryz.func26 rfl rfl rfl (fun _ => rfl) (fun c hc hX => ?_)
 obtain ⟨hp0, hp1, hp2⟩ := Sgr.parts hb
 have hn0 := bulkF_len hp0
 have hn1 := bulk_len hp1
 have hx1 := bulk_mem hp1
 have hn2 := bulkF_len hp2; have hol : (osOn x sig 0).length ≤ 1048576 := Nat.le_trans (osOn_le x sig 0) hn1; have hfl : (osOff x sig 0).length ≤ 1048576 := Nat.le_trans (osOff_le x sig 0) hn1
 refine T_seq ?_
 refine T_region hc ?_
 refine Ch.s (.ptr 3000 0) (.box 3000 _ _ rfl (.aggD _)) ?_
 refine Ch.s (.d (.bool false)) (.pure (.assign _ rfl rfl)) ?_
 refine Ch.s (.d (.bool false)) (.pure (.assign _ rfl rfl)) ?_
 refine Ch.nil ?_
 refine T_seq ?_
 refine T_region hc ?_
 refine Ch.s (.agg [(.d (.slice false 2 (x.sigs.map Sgn.d))), (.d (.slice false 1 (x.codes.map D.str))), (.d (.slice false 4 (x.arcs.map Arc.d)))]) (.pure (.loadPtrA _ _ rfl ag35 sz35 rfl rfl (Nat.le_of_ble_eq_true rfl) rfl)) ?_
 refine Ch.s (.d (.int .i64 sig)) (.pure (.move _ rfl rfl)) ?_
 refine Ch.step (v := (.tup [(.agg [(.row 14000), (.row 14001)]), (.d (.bool (osOk x sig 0)))])) rfl (.call 14000 80 _ _ _ en80 rfl (.inl rfl) (.cons (.lend (.agg (.cons (.d _) (.cons (.d _) (.cons (.d _) .nil))) rfl)) (.cons (.d _) .nil)) rfl (sol (by rw [D.solid]; exact solids_c (by rw [D.solid]; exact solids_c (solid_row (fun _ => rfl) _) (solids_c (solid_row (fun _ => rfl) _) rfl)) rfl) rfl) (sp_impl_NextStateSets x sig (by first | assumption | omega | (rw [List.length_take]; omega) | (have := bulkF_mem hb _ (getD_mem (d := default) (by omega)); assumption) | (unfold bulkS at *; omega) | (simp_all; done))) (.skip _ _ (.skip _ _ .nil)) rfl) rfl rfl ?_
 refine Ch.s (.tup [(.agg [(.row 14000), (.row 14001)]), (.d (.bool (osOk x sig 0)))]) (.pure (.move _ rfl rfl)) ?_
 refine Ch.s (.agg [(.row 14000), (.row 14001)]) (.pure (.extract _ rfl rfl rfl)) ?_
 refine Ch.s (.d (.bool (osOk x sig 0))) (.pure (.extract _ rfl rfl rfl)) ?_
 refine Ch.s (.ptr 8000 0) (.alloc 8000 _ rfl zer29) ?_
 refine Ch.s .junk (.storePtr _ _ _ rfl rfl rfl (.agg _ rfl) sz29 (Nat.le_of_ble_eq_true rfl)) ?_
 refine Ch.s (.d (.bool (osOk x sig 0))) (.pure (.assign _ rfl rfl)) ?_
 refine Ch.nil ?_
 refine T_seq ?_
 refine T_region hc ?_
 refine Ch.s (.ptr 8000 0) (.pure (.fldPtr _ _ _ rfl fld29_0 rfl)) ?_
 refine Ch.s (.row 14000) (.pure (.loadPtr1 _ _ rfl ag23 rfl rfl rfl)) ?_
 refine Ch.s (.d (.str u)) (.pure (.move _ rfl rfl)) ?_
 refine Ch.s (.d (.bool (hasS (osOn x sig 0) u))) (.call 20000 81 _ _ _ en81 rfl (.inl rfl) (.cons (.lend (.row rfl (frozs_map (fun _ => rfl) _))) (.cons (.d _) .nil)) rfl rfl (sp_Contains_str (osOn x sig 0) u (by first | omega | assumption | (exact hx _ (getD_mem (by omega))) | (exact hx _ (by assumption)) | (exact Nat.le_trans (hx _ (by assumption)) (by omega)) | (simp only [List.length_append, List.length_take, List.length_drop, List.length_cons, List.length_nil]; omega) | (simp_all; done))) (.skip _ _ (.skip _ _ .nil)) rfl) ?_
 refine Ch.s (.d (.bool (hasS (osOn x sig 0) u))) (.pure (.assign _ rfl rfl)) ?_
 refine Ch.nil ?_
 refine T_seq ?_
 refine T_seq ?_
 refine T_region hc ?_
 refine Ch.s (.d (.bool (osOk x sig 0))) (.pure (.move _ rfl rfl)) ?_
 refine Ch.s (.d (.bool (!(osOk x sig 0)))) (.pure (.not _ _ rfl rfl)) ?_
 refine Ch.s (.d (.bool (!(osOk x sig 0)))) (.pure (.move _ rfl rfl)) ?_
 cases h1 : (osOk x sig 0) with
 | true =>
  refine Ch.s (.d (.bool (hasS (osOn x sig 0) u))) (.pure (.move _ rfl rfl)) ?_
  refine Ch.s (.d (.bool (!(hasS (osOn x sig 0) u)))) (.pure (.not _ _ rfl rfl)) ?_
  refine Ch.s (.d (.bool (!(hasS (osOn x sig 0) u)))) (.pure (.move _ rfl rfl)) ?_
  cases h2 : (hasS (osOn x sig 0) u) with
  | true =>
   refine Ch.skip rfl rfl ?_
   refine Ch.skip rfl rfl ?_
   refine Ch.skip rfl rfl ?_
   refine Ch.skip rfl rfl ?_
   refine Ch.skip rfl rfl ?_
   refine Ch.s (.d (.bool false)) (.pure (.pickF _ _ _ rfl rfl rfl)) ?_
   refine Ch.s (.d (.bool false)) (.pure (.pickF _ _ _ rfl rfl rfl)) ?_
   refine Ch.nil ?_
   refine T_cond (b := false) rfl (fun h => nomatch h) (fun _ => ?_)
   refine T_skip ?_
   refine T_seq ?_
   refine T_region hc ?_
   refine Ch.s (.d (.bool true)) (.pure (.move _ rfl rfl)) ?_
   refine Ch.s (.d (.bool true)) (.pure (.assign _ rfl rfl)) ?_
   refine Ch.s (.d (.bool true)) (.pure (.assign _ rfl rfl)) ?_
   refine Ch.nil ?_
   refine T_ret ?_
   refine And.intro (.inr rfl) ?_
   exact Exists.intro [(.d (.bool true)), (.d (.bool true))] (Exists.intro [] (Exists.intro [] (And.intro (.cons (.tmp 6 rfl) (.cons (.tmp 7 rfl) .nil)) (And.intro (.cons (.any _) (.cons (.any _) (.cons (.any _) .nil))) (And.intro (.tup (.cons (Exp.of (congrArg D.bool (by first | (simp_all [nvV, nvB]; done) | (unfold nvV nvB; simp_all; done))) (.d _)) (.cons (Exp.of (congrArg D.bool (by first | (simp_all [nvV, nvB]; done) | (unfold nvV nvB; simp_all; done))) (.d _)) .nil))) (And.intro rfl rfl))))))
  | false =>
   refine Ch.s (.ptr 8000 1) (.pure (.fldPtr _ _ _ rfl fld29_1 rfl)) ?_
   refine Ch.s (.row 14001) (.pure (.loadPtr1 _ _ rfl ag23 rfl rfl rfl)) ?_
   refine Ch.s (.d (.str u)) (.pure (.move _ rfl rfl)) ?_
   refine Ch.s (.d (.bool (hasS (osOff x sig 0) u))) (.call 30000 81 _ _ _ en81 rfl (.inl rfl) (.cons (.lend (.row rfl (frozs_map (fun _ => rfl) _))) (.cons (.d _) .nil)) rfl rfl (sp_Contains_str (osOff x sig 0) u (by first | omega | assumption | (exact hx _ (getD_mem (by omega))) | (exact hx _ (by assumption)) | (exact Nat.le_trans (hx _ (by assumption)) (by omega)) | (simp only [List.length_append, List.length_take, List.length_drop, List.length_cons, List.length_nil]; omega) | (simp_all; done))) (.skip _ _ (.skip _ _ .nil)) rfl) ?_
   refine Ch.s (.d (.bool (!(hasS (osOff x sig 0) u)))) (.pure (.not _ _ rfl rfl)) ?_
   refine Ch.s (.d (.bool (!(hasS (osOff x sig 0) u)))) (.pure (.pickT _ _ _ rfl rfl rfl)) ?_
   refine Ch.s (.d (.bool (!(hasS (osOff x sig 0) u)))) (.pure (.pickF _ _ _ rfl rfl rfl)) ?_
   refine Ch.nil ?_
   refine T_cond (b := (!(hasS (osOff x sig 0) u))) rfl (fun h3 => ?_) (fun h3 => ?_)
   ·
    replace h3 := nott h3
    refine T_seq ?_
    refine T_region hc ?_
    refine Ch.s (.d (.bool false)) (.pure (.assign _ rfl rfl)) ?_
    refine Ch.s (.d (.bool false)) (.pure (.assign _ rfl rfl)) ?_
    refine Ch.nil ?_
    refine T_ret ?_
    refine And.intro (.inr rfl) ?_
    exact Exists.intro [(.d (.bool false)), (.d (.bool false))] (Exists.intro [] (Exists.intro [] (And.intro (.cons (.tmp 6 rfl) (.cons (.tmp 7 rfl) .nil)) (And.intro (.cons (.any _) (.cons (.any _) (.cons (.any _) .nil))) (And.intro (.tup (.cons (Exp.of (congrArg D.bool (by first | (simp_all [nvV, nvB]; done) | (unfold nvV nvB; simp_all; done))) (.d _)) (.cons (Exp.of (congrArg D.bool (by first | (simp_all [nvV, nvB]; done) | (unfold nvV nvB; simp_all; done))) (.d _)) .nil))) (And.intro rfl rfl))))))
   ·
    replace h3 := notf h3
    refine T_skip ?_
    refine T_seq ?_
    refine T_region hc ?_
    refine Ch.s (.d (.bool false)) (.pure (.move _ rfl rfl)) ?_
    refine Ch.s (.d (.bool false)) (.pure (.assign _ rfl rfl)) ?_
    refine Ch.s (.d (.bool true)) (.pure (.assign _ rfl rfl)) ?_
    refine Ch.nil ?_
    refine T_ret ?_
    refine And.intro (.inr rfl) ?_
    exact Exists.intro [(.d (.bool false)), (.d (.bool true))] (Exists.intro [] (Exists.intro [] (And.intro (.cons (.tmp 6 rfl) (.cons (.tmp 7 rfl) .nil)) (And.intro (.cons (.any _) (.cons (.any _) (.cons (.any _) .nil))) (And.intro (.tup (.cons (Exp.of (congrArg D.bool (by first | (simp_all [nvV, nvB]; done) | (unfold nvV nvB; simp_all; done))) (.d _)) (.cons (Exp.of (congrArg D.bool (by first | (simp_all [nvV, nvB]; done) | (unfold nvV nvB; simp_all; done))) (.d _)) .nil))) (And.intro rfl rfl))))))
 | false =>
  refine Ch.skip rfl rfl ?_
  refine Ch.skip rfl rfl ?_
  refine Ch.skip rfl rfl ?_
  refine Ch.skip rfl rfl ?_
  refine Ch.skip rfl rfl ?_
  refine Ch.skip rfl rfl ?_
  refine Ch.skip rfl rfl ?_
  refine Ch.skip rfl rfl ?_
  refine Ch.skip rfl rfl ?_
  refine Ch.s (.d (.bool true)) (.pure (.pickT _ _ _ rfl rfl rfl)) ?_
  refine Ch.nil ?_
  refine T_cond (b := true) rfl (fun _ => ?_) (fun h => nomatch h)
  refine T_seq ?_
  refine T_region hc ?_
  refine Ch.s (.d (.bool false)) (.pure (.assign _ rfl rfl)) ?_
  refine Ch.s (.d (.bool false)) (.pure (.assign _ rfl rfl)) ?_
  refine Ch.nil ?_
  refine T_ret ?_
  refine And.intro (.inr rfl) ?_
  exact Exists.intro [(.d (.bool false)), (.d (.bool false))] (Exists.intro [] (Exists.intro [] (And.intro (.cons (.tmp 6 rfl) (.cons (.tmp 7 rfl) .nil)) (And.intro (.cons (.any _) (.cons (.any _) (.cons (.any _) .nil))) (And.intro (.tup (.cons (Exp.of (congrArg D.bool (by first | (simp_all [nvV, nvB]; done) | (unfold nvV nvB; simp_all; done))) (.d _)) (.cons (Exp.of (congrArg D.bool (by first | (simp_all [nvV, nvB]; done) | (unfold nvV nvB; simp_all; done))) (.d _)) .nil))) (And.intro rfl rfl))))))

theorem sp_spec_NextValue (x : Sgr) (u : List UInt8) (sig : Int) (hb : x.bulk ≤ 1048576) : Sp Tryz.prog 25 [(.agg [(.slice false 2 (x.sigs.map Sgn.d)), (.slice false 1 (x.codes.map D.str)), (.slice false 4 (x.arcs.map Arc.d))]), (.str u), (.int .i64 sig)] [.any, .any, .any] (.tup [(.bool (nvV x u sig)), (.bool (nvB x u sig))]) := by
 refine Sp_intro (lend := true) Tryz.func25 rfl rfl rfl (fun _ => rfl) (fun c hc hX => ?_)
 obtain ⟨hp0, hp1, hp2⟩ := Sgr.parts hb
 have hn0 := bulkF_len hp0
 have hn1 := bulk_len hp1
 have hx1 := bulk_mem hp1
 have hn2 := bulkF_len hp2; have hol : (osOn x sig 0).length ≤ 1048576 := Nat.le_trans (osOn_le x sig 0) hn1; have hfl : (osOff x sig 0).length ≤ 1048576 := Nat.le_trans (osOff_le x sig 0) hn1
 refine T_seq ?_
 refine T_region hc ?_
 refine Ch.s (.ptr 3000 0) (.box 3000 _ _ rfl (.aggD _)) ?_
 refine Ch.s (.d (.bool false)) (.pure (.assign _ rfl rfl)) ?_
 refine Ch.s (.d (.bool false)) (.pure (.assign _ rfl rfl)) ?_
 refine Ch.nil ?_
 refine T_seq ?_
 refine T_region hc ?_
 refine Ch.s (.agg [(.d (.slice false 2 (x.sigs.map Sgn.d))), (.d (.slice false 1 (x.codes.map D.str))), (.d (.slice false 4 (x.arcs.map Arc.d)))]) (.pure (.loadPtrA _ _ rfl ag35 sz35 rfl rfl (Nat.le_of_ble_eq_true rfl) rfl)) ?_
 refine Ch.s (.d (.int .i64 sig)) (.pure (.move _ rfl rfl)) ?_
 refine Ch.step (v := (.tup [(.agg [(.row 13000), (.row 13001)]), (.d (.bool (osOk x sig 0)))])) rfl (.call 13000 78 _ _ _ en78 rfl (.inl rfl) (.cons (.lend (.agg (.cons (.d _) (.cons (.d _) (.cons (.d _) .nil))) rfl)) (.cons (.d _) .nil)) rfl (sol (by rw [D.solid]; exact solids_c (by rw [D.solid]; exact solids_c (solid_row (fun _ => rfl) _) (solids_c (solid_row (fun _ => rfl) _) rfl)) rfl) rfl) (sp_spec_NextStateSets x sig (by first | assumption | omega | (rw [List.length_take]; omega) | (have := bulkF_mem hb _ (getD_mem (d := default) (by omega)); assumption) | (unfold bulkS at *; omega) | (simp_all; done))) (.skip _ _ (.skip _ _ .nil)) rfl) rfl rfl ?_
 refine Ch.s (.tup [(.agg [(.row 13000), (.row 13001)]), (.d (.bool (osOk x sig 0)))]) (.pure (.move _ rfl rfl)) ?_
 refine Ch.s (.agg [(.row 13000), (.row 13001)]) (.pure (.extract _ rfl rfl rfl)) ?_
 refine Ch.s (.d (.bool (osOk x sig 0))) (.pure (.extract _ rfl rfl rfl)) ?_
 refine Ch.s (.ptr 8000 0) (.alloc 8000 _ rfl zer29) ?_
 refine Ch.s .junk (.storePtr _ _ _ rfl rfl rfl (.agg _ rfl) sz29 (Nat.le_of_ble_eq_true rfl)) ?_
 refine Ch.s (.d (.bool (osOk x sig 0))) (.pure (.assign _ rfl rfl)) ?_
 refine Ch.nil ?_
 refine T_seq ?_
 refine T_seq ?_
 refine T_region hc ?_
 refine Ch.s (.d (.bool (osOk x sig 0))) (.pure (.move _ rfl rfl)) ?_
 refine Ch.s (.d (.bool (!(osOk x sig 0)))) (.pure (.not _ _ rfl rfl)) ?_
 refine Ch.s (.d (.bool (!(osOk x sig 0)))) (.pure (.move _ rfl rfl)) ?_
 cases h1 : (osOk x sig 0) with
 | true =>
  refine Ch.s (.ptr 8000 0) (.pure (.fldPtr _ _ _ rfl fld29_0 rfl)) ?_
  refine Ch.s (.row 13000) (.pure (.loadPtr1 _ _ rfl ag23 rfl rfl rfl)) ?_
  refine Ch.s (.d (.str u)) (.pure (.move _ rfl rfl)) ?_
  refine Ch.s (.d (.bool (hasS (osOn x sig 0) u))) (.call 22000 79 _ _ _ en79 rfl (.inl rfl) (.cons (.lend (.row rfl (frozs_map (fun _ => rfl) _))) (.cons (.d _) .nil)) rfl rfl (sp_spec_l1HasS (osOn x sig 0) u (by first | omega | assumption | (exact hx _ (getD_mem (by omega))) | (exact hx _ (by assumption)) | (exact Nat.le_trans (hx _ (by assumption)) (by omega)) | (simp only [List.length_append, List.length_take, List.length_drop, List.length_cons, List.length_nil]; omega) | (simp_all; done))) (.skip _ _ (.skip _ _ .nil)) rfl) ?_
  refine Ch.s (.d (.bool (!(hasS (osOn x sig 0) u)))) (.pure (.not _ _ rfl rfl)) ?_
  refine Ch.s (.d (.bool (!(hasS (osOn x sig 0) u)))) (.pure (.move _ rfl rfl)) ?_
  cases h2 : (hasS (osOn x sig 0) u) with
  | true =>
   refine Ch.skip rfl rfl ?_
   refine Ch.skip rfl rfl ?_
   refine Ch.skip rfl rfl ?_
   refine Ch.skip rfl rfl ?_
   refine Ch.skip rfl rfl ?_
   refine Ch.s (.d (.bool false)) (.pure (.pickF _ _ _ rfl rfl rfl)) ?_
   refine Ch.s (.d (.bool false)) (.pure (.pickF _ _ _ rfl rfl rfl)) ?_
   refine Ch.nil ?_
   refine T_cond (b := false) rfl (fun h => nomatch h) (fun _ => ?_)
   refine T_skip ?_
   refine T_seq ?_
   refine T_region hc ?_
   refine Ch.s (.ptr 8000 0) (.pure (.fldPtr _ _ _ rfl fld29_0 rfl)) ?_
   refine Ch.s (.row 13000) (.pure (.loadPtr1 _ _ rfl ag23 rfl rfl rfl)) ?_
   refine Ch.s (.d (.str u)) (.pure (.move _ rfl rfl)) ?_
   refine Ch.s (.d (.bool (hasS (osOn x sig 0) u))) (.call 35000 79 _ _ _ en79 rfl (.inl rfl) (.cons (.lend (.row rfl (frozs_map (fun _ => rfl) _))) (.cons (.d _) .nil)) rfl rfl (sp_spec_l1HasS (osOn x sig 0) u (by first | omega | assumption | (exact hx _ (getD_mem (by omega))) | (exact hx _ (by assumption)) | (exact Nat.le_trans (hx _ (by assumption)) (by omega)) | (simp only [List.length_append, List.length_take, List.length_drop, List.length_cons, List.length_nil]; omega) | (simp_all; done))) (.skip _ _ (.skip _ _ .nil)) rfl) ?_
   refine Ch.s (.d (.bool (hasS (osOn x sig 0) u))) (.pure (.assign _ rfl rfl)) ?_
   refine Ch.s (.d (.bool true)) (.pure (.assign _ rfl rfl)) ?_
   refine Ch.nil ?_
   refine T_ret ?_
   refine And.intro (.inr rfl) ?_
   exact Exists.intro [(.d (.bool (hasS (osOn x sig 0) u))), (.d (.bool true))] (Exists.intro [] (Exists.intro [] (And.intro (.cons (.tmp 6 rfl) (.cons (.tmp 7 rfl) .nil)) (And.intro (.cons (.any _) (.cons (.any _) (.cons (.any _) .nil))) (And.intro (.tup (.cons (Exp.of (congrArg D.bool (by first | (simp_all [nvV, nvB]; done) | (unfold nvV nvB; simp_all; done))) (.d _)) (.cons (Exp.of (congrArg D.bool (by first | (simp_all [nvV, nvB]; done) | (unfold nvV nvB; simp_all; done))) (.d _)) .nil))) (And.intro rfl rfl))))))
  | false =>
   refine Ch.s (.ptr 8000 1) (.pure (.fldPtr _ _ _ rfl fld29_1 rfl)) ?_
   refine Ch.s (.row 13001) (.pure (.loadPtr1 _ _ rfl ag23 rfl rfl rfl)) ?_
   refine Ch.s (.d (.str u)) (.pure (.move _ rfl rfl)) ?_
   refine Ch.s (.d (.bool (hasS (osOff x sig 0) u))) (.call 28000 79 _ _ _ en79 rfl (.inl rfl) (.cons (.lend (.row rfl (frozs_map (fun _ => rfl) _))) (.cons (.d _) .nil)) rfl rfl (sp_spec_l1HasS (osOff x sig 0) u (by first | omega | assumption | (exact hx _ (getD_mem (by omega))) | (exact hx _ (by assumption)) | (exact Nat.le_trans (hx _ (by assumption)) (by omega)) | (simp only [List.length_append, List.length_take, List.length_drop, List.length_cons, List.length_nil]; omega) | (simp_all; done))) (.skip _ _ (.skip _ _ .nil)) rfl) ?_
   refine Ch.s (.d (.bool (!(hasS (osOff x sig 0) u)))) (.pure (.not _ _ rfl rfl)) ?_
   refine Ch.s (.d (.bool (!(hasS (osOff x sig 0) u)))) (.pure (.pickT _ _ _ rfl rfl rfl)) ?_
   refine Ch.s (.d (.bool (!(hasS (osOff x sig 0) u)))) (.pure (.pickF _ _ _ rfl rfl rfl)) ?_
   refine Ch.nil ?_
   refine T_cond (b := (!(hasS (osOff x sig 0) u))) rfl (fun h3 => ?_) (fun h3 => ?_)
   ·
    replace h3 := nott h3
    refine T_seq ?_
    refine T_region hc ?_
    refine Ch.s (.d (.bool false)) (.pure (.assign _ rfl rfl)) ?_
    refine Ch.s (.d (.bool false)) (.pure (.assign _ rfl rfl)) ?_
    refine Ch.nil ?_
    refine T_ret ?_
    refine And.intro (.inr rfl) ?_
    exact Exists.intro [(.d (.bool false)), (.d (.bool false))] (Exists.intro [] (Exists.intro [] (And.intro (.cons (.tmp 6 rfl) (.cons (.tmp 7 rfl) .nil)) (And.intro (.cons (.any _) (.cons (.any _) (.cons (.any _) .nil))) (And.intro (.tup (.cons (Exp.of (congrArg D.bool (by first | (simp_all [nvV, nvB]; done) | (unfold nvV nvB; simp_all; done))) (.d _)) (.cons (Exp.of (congrArg D.bool (by first | (simp_all [nvV, nvB]; done) | (unfold nvV nvB; simp_all; done))) (.d _)) .nil))) (And.intro rfl rfl))))))
   ·
    replace h3 := notf h3
    refine T_skip ?_
    refine T_seq ?_
    refine T_region hc ?_
    refine Ch.s (.ptr 8000 0) (.pure (.fldPtr _ _ _ rfl fld29_0 rfl)) ?_
    refine Ch.s (.row 13000) (.pure (.loadPtr1 _ _ rfl ag23 rfl rfl rfl)) ?_
    refine Ch.s (.d (.str u)) (.pure (.move _ rfl rfl)) ?_
    refine Ch.s (.d (.bool (hasS (osOn x sig 0) u))) (.call 35000 79 _ _ _ en79 rfl (.inl rfl) (.cons (.lend (.row rfl (frozs_map (fun _ => rfl) _))) (.cons (.d _) .nil)) rfl rfl (sp_spec_l1HasS (osOn x sig 0) u (by first | omega | assumption | (exact hx _ (getD_mem (by omega))) | (exact hx _ (by assumption)) | (exact Nat.le_trans (hx _ (by assumption)) (by omega)) | (simp only [List.length_append, List.length_take, List.length_drop, List.length_cons, List.length_nil]; omega) | (simp_all; done))) (.skip _ _ (.skip _ _ .nil)) rfl) ?_
    refine Ch.s (.d (.bool (hasS (osOn x sig 0) u))) (.pure (.assign _ rfl rfl)) ?_
    refine Ch.s (.d (.bool true)) (.pure (.assign _ rfl rfl)) ?_
    refine Ch.nil ?_
    refine T_ret ?_
    refine And.intro (.inr rfl) ?_
    exact Exists.intro [(.d (.bool (hasS (osOn x sig 0) u))), (.d (.bool true))] (Exists.intro [] (Exists.intro [] (And.intro (.cons (.tmp 6 rfl) (.cons (.tmp 7 rfl) .nil)) (And.intro (.cons (.any _) (.cons (.any _) (.cons (.any _) .nil))) (And.intro (.tup (.cons (Exp.of (congrArg D.bool (by first | (simp_all [nvV, nvB]; done) | (unfold nvV nvB; simp_all; done))) (.d _)) (.cons (Exp.of (congrArg D.bool (by first | (simp_all [nvV, nvB]; done) | (unfold nvV nvB; simp_all; done))) (.d _)) .nil))) (And.intro rfl rfl))))))
 | false =>
  refine Ch.skip rfl rfl ?_
  refine Ch.skip rfl rfl ?_
  refine Ch.skip rfl rfl ?_
  refine Ch.skip rfl rfl ?_
  refine Ch.skip rfl rfl ?_
  refine Ch.skip rfl rfl ?_
  refine Ch.skip rfl rfl ?_
  refine Ch.skip rfl rfl ?_
  refine Ch.skip rfl rfl ?_
  refine Ch.skip rfl rfl ?_
  refine Ch.skip rfl rfl ?_
  refine Ch.skip rfl rfl ?_
  refine Ch.s (.d (.bool true)) (.pure (.pickT _ _ _ rfl rfl rfl)) ?_
  refine Ch.nil ?_
  refine T_cond (b := true) rfl (fun _ => ?_) (fun h => nomatch h)
  refine T_seq ?_
  refine T_region hc ?_
  refine Ch.s (.d (.bool false)) (.pure (.assign _ rfl rfl)) ?_
  refine Ch.s (.d (.bool false)) (.pure (.assign _ rfl rfl)) ?_
  refine Ch.nil ?_
  refine T_ret ?_
  refine And.intro (.inr rfl) ?_
  exact Exists.intro [(.d (.bool false)), (.d (.bool false))] (Exists.intro [] (Exists.intro [] (And.intro (.cons (.tmp 6 rfl) (.cons (.tmp 7 rfl) .nil)) (And.intro (.cons (.any _) (.cons (.any _) (.cons (.any _) .nil))) (And.intro (.tup (.cons (Exp.of (congrArg D.bool (by first | (simp_all [nvV, nvB]; done) | (unfold nvV nvB; simp_all; done))) (.d _)) (.cons (Exp.of (congrArg D.bool (by first | (simp_all [nvV, nvB]; done) | (unfold nvV nvB; simp_all; done))) (.d _)) .nil))) (And.intro rfl rfl))))))

end Go.AM
