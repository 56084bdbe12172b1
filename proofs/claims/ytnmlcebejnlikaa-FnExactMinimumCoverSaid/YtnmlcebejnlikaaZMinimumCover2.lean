/-
  The contracts that the law FnExactMinimumCover needs.
-/
import Derived.Test.YtnmlcebejnlikaaZMinimumCover1
namespace Go.AM
open Go.Proofs
set_option linter.unusedVariables false
set_option linter.unusedSimpArgs false

set_option maxHeartbeats 2000000 in
theorem sp_choose_step (u : Value) (pr : List (List UInt8)) (n m : Nat) (z : Int) (on l : List (List UInt8)) (p : (List (List UInt8) × Bool)) (hz : z = (m : Int)) (hn6 : n ≤ 8) (hpr : ∀ q ∈ pr, q.length = n) (hprl : pr.length ≤ 1048576) (hon : ∀ c ∈ on, c.length = n) (honl : on.length ≤ 1048576) (hl : ∀ q ∈ l, q.length = n) (hlm : l.length + m ≤ 7) (hp : POk n 7 p) (ih : ∀ (j : Nat) (z : Int) (on l : List (List UInt8)) (p : (List (List UInt8) × Bool)), j + 1 = m → z = (j : Int) → (∀ c ∈ on, c.length = n) → on.length ≤ 1048576 → (∀ q ∈ l, q.length = n) → l.length + j ≤ 7 → POk n 7 p → SpQ (fun S w _ => DRs S w [.slice false 1 (pr.map D.str)] [u] []) Try.prog 25 [(.box [(.hole u), (.slice true 1 (p.1.map D.str)), (.bool (p.2))]), .slice false 1 (on.map D.str), .slice false 1 (l.map D.str), .int .i64 z] [(.box [(.hole u), (.slice true 1 (((chF pr j on l p).1).map D.str)), (.bool ((chF pr j on l p).2))]), .any, .any, .any] (.tup [])) : SpQ (fun S w _ => DRs S w [(.slice false 1 (pr.map D.str))] [u] []) Try.prog 25 [(.box [(.hole u), (.slice true 1 (p.1.map D.str)), (.bool (p.2))]), (.slice false 1 (on.map D.str)), (.slice false 1 (l.map D.str)), (.int .i64 z)] [(.box [(.hole u), (.slice true 1 (((chF pr m on l p).1).map D.str)), (.bool ((chF pr m on l p).2))]), .any, .any, .any] (.tup []) := by
 refine SpG_intro Try.func25 rfl [900001] rfl rfl rfl (fun c hc => ?_)
 refine T_open 1 8000010 rfl rfl rfl ?_
 have hll : l.length ≤ 7 := by omega
 have hl2 : l.length ≤ 1048576 := by omega
 have hpb := bulk_small hn6 hp.len hp.all
 have hs7 : (l.mergeSort leS).length ≤ 7 := (by rw [List.length_mergeSort]; exact hll)
 have hsb : bulkS (l.mergeSort leS) ≤ 1048576 := bulk_small hn6 hs7 (fun q hq => hl q (List.mem_mergeSort.1 hq))
 have hs8 : (l.mergeSort leS).length ≤ 1048576 := by omega
 refine T_seq (T_seq (T_region hc (Ch.s (.d (.slice false 1 (on.map D.str))) pm (Ch.s (.d (.int .i64 (on.length : Int))) (.pure (.len _ _ 9 rfl Try.underlying22 (.sh _ _) (by simp))) (Ch.s (.d (.bool (decide ((on.length : Int) = 0)))) (iX rfl rfl rfl) (Ch.nil ?_))))))
 refine T_condD (p := ((on.length : Int) = 0)) rfl (fun h1 => ?_) (fun h1 => ?_)
 ·
  refine T_seq (T_region hc (Ch.s (.d (.slice false 1 (l.map D.str))) pm ?_))
  refine Ch.step (v := (.row 16000)) rfl (.call 16000 44 _ _ _ en44 rfl (.inl rfl) (.cons (.d _) .nil) rfl (sol (solid_row (fun _ => rfl) _) rfl) (sp_Clone_str l a8) (.skip _ _ .nil) rfl) rfl rfl ?_
  refine Ch.s (.row 16000) pa (Ch.nil (T_seq (T_region hc (Ch.s (.row 16000) pm ?_))))
  refine Ch.step (v := (.tup [])) rfl (.call 18000 45 _ _ _ en45 rfl (.inl rfl) (.cons (.row rfl) .nil) rfl (sol rfl (solids_c (solid_row (fun _ => rfl) _) rfl)) (sp_Sort_str l a17) (.row _ _ _ .nil) rfl) rfl rfl ?_
  refine Ch.nil (T_seq (T_seq (T_region hc (Ch.s (.row 16000) pm ?_))))
  refine Ch.step (v := (.row 20000)) rfl (.call 20000 44 _ _ _ en44 rfl (.inl rfl) (.cons (.lend (.row rfl (frozs_map (fun _ => rfl) _))) .nil) rfl (sol (solid_row (fun _ => rfl) _) rfl) (sp_Clone_str (l.mergeSort leS) a8) (.skip _ _ .nil) rfl) rfl rfl ?_
  refine Ch.step (v := (.row 21000)) rfl (.call 21000 46 _ _ _ en46 rfl (.inl rfl) (.cons (.row rfl) .nil) rfl (sol (solid_row (fun _ => rfl) _) rfl) (sp_Compact_str (l.mergeSort leS) (by first | assumption | omega | (rw [List.length_mergeSort]; assumption) | (rw [List.length_mergeSort]; omega))) (.skip _ _ .nil) rfl) rfl rfl ?_
  refine Ch.s (.d (.int .i64 ((Lib.compact (l.mergeSort leS)).length : Int))) (.pure (.len _ _ 9 rfl Try.underlying22 (.row rfl) (by simp))) (Ch.s (.d (.slice false 1 (l.map D.str))) pm (Ch.s (.d (.int .i64 (l.length : Int))) (.pure (.len _ _ 9 rfl Try.underlying22 (.sh _ _) (by simp))) (Ch.s (.d (.bool (decide (((Lib.compact (l.mergeSort leS)).length : Int) = (l.length : Int))))) (iX rfl rfl rfl) (Ch.s (.d (.bool (decide (((Lib.compact (l.mergeSort leS)).length : Int) = (l.length : Int))))) pm ?_))))
  cases h2 : (decide (((Lib.compact (l.mergeSort leS)).length : Int) = (l.length : Int))) with
  | true =>
   replace h2 := of_decide_eq_true h2
   refine Ch.s (.d (.int .i64 z)) pm (Ch.s (.d (.bool (decide (z = 0)))) (iX rfl rfl rfl) (Ch.s (.d (.bool (decide (z = 0)))) (.pure (.pickT _ _ _ rfl rfl rfl)) (Ch.s (.d (.bool (decide (z = 0)))) pm ?_)))
   cases h3 : (decide (z = 0)) with
   | true =>
    replace h3 := of_decide_eq_true h3
    refine Ch.s (.ptr 1 0) pm (Ch.s (.row 16000) pm ?_)
    refine Ch.step (v := (.d (.bool (betI (l.mergeSort leS) (p.1, (p.2)))))) rfl (.call 33000 47 _ _ _ en47 rfl (.inl rfl) (.cons (.box rfl (.cons (.d _) (.cons (.row rfl) (.cons (.d _) .nil))) rfl) (.cons (.lend (.row rfl (frozs_map (fun _ => rfl) _))) .nil)) rfl (sol rfl (solids_c a40 rfl)) (sp_isBetter u p.1 (l.mergeSort leS) (p.2) (by assumption) (by assumption)) (.box _ _ (.skip _ _ .nil)) rfl) rfl rfl ?_
    refine Ch.opens 1 8000020 rfl rfl rfl ?_
    refine Ch.s (.d (.bool (betI (l.mergeSort leS) (p.1, (p.2))))) (.pure (.pickT _ _ _ rfl rfl rfl)) (Ch.nil ?_)
    refine T_cond (b := (betI (l.mergeSort leS) (p.1, (p.2)))) rfl (fun h4 => ?_) (fun h4 => ?_)
    ·
     try have hqk := hpr _ (getD_mem (l := pr) (j := k) (d := default) (by omega))
     try have hok := hon _ (getD_mem (l := on) (j := 0) (d := default) (by omega))
     refine T_region hc (Ch.s (.ptr 1 0) pm (Ch.s (.ptr 1 0) pm (Ch.s (.row 16000) pm (Ch.s (.ptr 1 0) (.pure (.nilPtr _ rfl rfl)) (Ch.s (.ptr 1 1) (.pure (.fldPtr _ _ _ rfl fld42_1 rfl)) (Ch.s .junk (.storePtr _ _ _ rfl rfl rfl (.one _ rfl) sz22 (lb rfl)) (Ch.s (.ptr 1 0) (.pure (.nilPtr _ rfl rfl)) ?_)))))))
     refine Ch.s (.ptr 1 2) (.pure (.fldPtr _ _ _ rfl fld42_2 rfl)) (Ch.s .junk (.storePtr _ _ _ rfl rfl rfl (.one _ rfl) sz4 (lb rfl)) (Ch.nil (T_ret ?_)))
     exact endR [] [1, 16000] [] .nil (.cons (.box rfl (.cons (.d _) (.cons (Exp.of (congrArg (D.slice true 1) a6) (.row rfl)) (.cons (Exp.of (congrArg D.bool a6) (.d _)) .nil))) rfl) (.cons (.any _) (.cons (.any _) (.cons (.any _) .nil)))) (.tup .nil) rfl rfl
    ·
     try have hqk := hpr _ (getD_mem (l := pr) (j := k) (d := default) (by omega))
     try have hok := hon _ (getD_mem (l := on) (j := 0) (d := default) (by omega))
     refine T_skip (T_ret ?_)
     exact endR [] [1, 8000020] [] .nil (.cons (.box rfl (.cons (.d _) (.cons (Exp.of (congrArg (D.slice true 1) a6) (.row rfl)) (.cons (Exp.of (congrArg D.bool a6) (.d _)) .nil))) rfl) (.cons (.any _) (.cons (.any _) (.cons (.any _) .nil)))) (.tup .nil) rfl rfl
   | false =>
    replace h3 := of_decide_eq_false h3
    refine Ch.skip rfl rfl (Ch.skip rfl rfl (Ch.skip rfl rfl (Ch.s (.d (.bool false)) (.pure (.pickF _ _ _ rfl rfl rfl)) (Ch.nil ?_))))
    refine T_cond (b := false) rfl (fun h => nomatch h) (fun _ => ?_)
    refine T_skip (T_ret ?_)
    exact endR [] [1, 8000010] [] .nil (.cons (.box rfl (.cons (.d _) (.cons (Exp.of (congrArg (D.slice true 1) a6) (.row rfl)) (.cons (Exp.of (congrArg D.bool a6) (.d _)) .nil))) rfl) (.cons (.any _) (.cons (.any _) (.cons (.any _) .nil)))) (.tup .nil) rfl rfl
  | false =>
   replace h2 := of_decide_eq_false h2
   refine Ch.skip rfl rfl (Ch.skip rfl rfl (Ch.s (.d (.bool false)) (.pure (.pickF _ _ _ rfl rfl rfl)) (Ch.s (.d (.bool false)) pm (Ch.skip rfl rfl (Ch.skip rfl rfl (Ch.skip rfl rfl (Ch.s (.d (.bool false)) (.pure (.pickF _ _ _ rfl rfl rfl)) ?_)))))))
   refine Ch.nil ?_
   refine T_cond (b := false) rfl (fun h => nomatch h) (fun _ => ?_)
   refine T_skip (T_ret ?_)
   exact endR [] [1, 8000010] [] .nil (.cons (.box rfl (.cons (.d _) (.cons (Exp.of (congrArg (D.slice true 1) a6) (.row rfl)) (.cons (Exp.of (congrArg D.bool a6) (.d _)) .nil))) rfl) (.cons (.any _) (.cons (.any _) (.cons (.any _) .nil)))) (.tup .nil) rfl rfl
 ·
  refine T_skip (T_seq (T_seq (T_region hc (Ch.s (.d (.int .i64 z)) pm (Ch.s (.d (.bool (decide (z = 0)))) (iX rfl rfl rfl) (Ch.nil ?_))))))
  refine T_condD (p := (z = 0)) rfl (fun h5 => ?_) (fun h5 => ?_)
  ·
   try have hqk := hpr _ (getD_mem (l := pr) (j := k) (d := default) (by omega))
   try have hok := hon _ (getD_mem (l := on) (j := 0) (d := default) (by omega))
   refine T_ret ?_
   exact endR [] [1, 8000010] [] .nil (.cons (.box rfl (.cons (.d _) (.cons (Exp.of (congrArg (D.slice true 1) a6) (.row rfl)) (.cons (Exp.of (congrArg D.bool a6) (.d _)) .nil))) rfl) (.cons (.any _) (.cons (.any _) (.cons (.any _) .nil)))) (.tup .nil) rfl rfl
  ·
   try have hqk := hpr _ (getD_mem (l := pr) (j := k) (d := default) (by omega))
   try have hok := hon _ (getD_mem (l := on) (j := 0) (d := default) (by omega))
   refine T_skip (T_seq (T_region hc (Ch.s (.ptr 1 0) pm (Ch.s (.ptr 1 0) (.pure (.nilPtr _ rfl rfl)) (Ch.s (.ptr 1 0) (.pure (.fldPtr _ _ _ rfl fld42_0 rfl)) (Ch.s (.d (.hole u)) (.pure (.loadPtr1 _ _ rfl ag22 rfl rfl rfl)) ?_))))))
   refine Ch.see 47 900001 rfl rfl rfl ?_
   refine Ch.s (.d (.int .i64 (pr.length : Int))) (.pure (.len _ _ 9 rfl Try.underlying22 (.sh _ _) (by simp))) (Ch.s (.d (.int .i64 0)) pm (Ch.nil (T_block ?_)))
   refine T_loop (ι := Nat) (fun k => { n := 77, sl := [(0, (.ptr 1 0)), (1, (.d (.slice false 1 (on.map D.str)))), (2, (.d (.slice false 1 (l.map D.str)))), (3, (.d (.int .i64 z))), (47, (.d (.slice false 1 (pr.map D.str)))), (48, (.d (.int .i64 (pr.length : Int)))), (49, (.d (.int .i64 (k : Int))))], hp := [(1, (some (.box [(.d (.hole u)), (.row 7700), (.d (.bool ((chTo pr (m - 1) on l p k).2)))]))), (7700, (some (.row 1 (((chTo pr (m - 1) on l p k).1).map D.str)))), (900001, (some (.ghost (.slice false 1 (pr.map D.str)) u)))], pin := [1] }) (fun k => k ≤ pr.length) (fun k => pr.length - k) ⟨0, (by omega), (Wk.ren [(7700, 8000010)] rfl rfl rfl rfl (ai rfl (ai rfl (ai rfl (ai rfl (ai rfl (ai rfl (ai (vI a50) trivial))))))) (ai (oB (Eq.trans (b := [(.d (.hole u)), (.row 8000010), (.d (.bool (p.2)))]) rfl a5)) (ai (oR a12) (ai rfl trivial))))⟩ (fun k hp0 => ?_)
   have hpk := chTo_ok hpr (m := m - 1) (on := on) (l := l) (p := p) (N := 7) (by omega) hl hp k hp0
   refine T_seq (T_region hc (Ch.s (.d (.bool (decide ((k : Int) < (pr.length : Int))))) (iX rfl rfl rfl) (Ch.nil (T_seq ?_))))
   refine T_condD (p := ((k : Int) < (pr.length : Int))) rfl (fun h6 => ?_) (fun h6 => ?_)
   ·
    try have hqk := hpr _ (getD_mem (l := pr) (j := k) (d := default) (by omega))
    try have hok := hon _ (getD_mem (l := on) (j := 0) (d := default) (by omega))
    refine T_skip (T_seq (T_block (T_seq (T_region hc (Ch.s (.d (.ref (.str (pr.getD k default)))) (.pure (.idx _ _ _ 9 (k) rfl Try.underlying22 sz9 rfl rfl rfl get_mapA)) (Ch.s (.d (.str (pr.getD k default))) (.pure (.loadRef1 _ _ rfl ag9 rfl rfl)) (Ch.s (.ptr 10000 0) (.alloc 10000 _ rfl zer9) ?_)))))))
    refine Ch.s .junk (.storePtr _ _ _ rfl rfl rfl (.one _ rfl) sz9 (lb rfl)) (Ch.nil (T_seq ?_))
    refine T_regionD hc (by kernel_rfl) ?_
    refine ChD.s (.d (.str (pr.getD k default))) [10000] (.pure (.loadPtr1 _ _ rfl ag9 rfl rfl rfl)) (ChD.s (.d (.slice false 1 (on.map D.str))) [] pm (ChD.s (.d (.ref (.str (on.getD 0 default)))) [] (.pure (.idx _ _ _ 9 (0) rfl Try.underlying22 sz9 rfl rfl rfl get_mapA)) (ChD.s (.d (.str (on.getD 0 default))) [] (.pure (.loadRef1 _ _ rfl ag9 rfl rfl)) (ChD.s (.d (.bool (hasB (pr.getD k default) (on.getD 0 default)))) [] (.call 57000 48 _ _ _ en48 rfl (.inl rfl) (.cons (.d _) (.cons (.d _) .nil)) rfl rfl (sp_impl_contains (pr.getD k default) (on.getD 0 default) a8 a8) (.skip _ _ (.skip _ _ .nil)) rfl) ?_))))
    refine ChD.nil (And.intro ?_ (by kernel_rfl))
    refine T_cond (b := (hasB (pr.getD k default) (on.getD 0 default))) rfl (fun h7 => ?_) (fun h7 => ?_)
    ·
     try have hqk := hpr _ (getD_mem (l := pr) (j := k) (d := default) (by omega))
     try have hok := hon _ (getD_mem (l := on) (j := 0) (d := default) (by omega))
     refine T_seq (T_region hc (Ch.s (.d (.slice false 1 (on.map D.str))) pm ?_))
     refine Ch.step (v := (.row 59000)) rfl (.call 59000 44 _ _ _ en44 rfl (.inl rfl) (.cons (.d _) .nil) rfl (sol (solid_row (fun _ => rfl) _) rfl) (sp_Clone_str on a8) (.skip _ _ .nil) rfl) rfl rfl ?_
     refine Ch.s (.fn 49 [(.ptr 10000 0)]) (.pure (.func _ _ rfl rfl)) ?_
     refine Ch.step (v := (.row 61000)) rfl (.call 61000 39 _ _ _ en39 rfl (.inl rfl) (.cons (.row rfl) (.cons (.lend (.fn (.cons (.ptr rfl (.one (.d _) rfl)) .nil))) .nil)) rfl (sol (solid_row (fun _ => rfl) _) rfl) (sp_DeleteFunc_str on 49 [(.ref (.str (pr.getD k default)))] (hasB (pr.getD k default)) en49 (fun v hv => sp_choose_1 v (pr.getD k default) (by omega) (by have := hon v hv; omega)) a8) (.skip _ _ (.skip _ _ .nil)) rfl) rfl rfl ?_
     refine Ch.s (.row 61000) pa (Ch.nil ?_)
     refine T_regionD hc (by kernel_rfl) ?_
     refine ChD.s (.ptr 1 0) [] pm (ChD.s (.row 61000) [] pm (ChD.s (.d (.slice false 1 (l.map D.str))) [] pm (ChD.s (.d (.slice false 1 (l.map D.str))) [] pm (ChD.s (.d (.int .i64 (l.length : Int))) [] (.pure (.len _ _ 9 rfl Try.underlying22 (.sh _ _) (by simp))) (ChD.s (.d (.slice false 1 (l.map D.str))) [] pm (ChD.s (.d (.int .i64 (l.length : Int))) [] (.pure (.len _ _ 9 rfl Try.underlying22 (.sh _ _) (by simp))) (ChD.s (.tight 1 (l.map D.str)) [] (tightA 9 Try.underlying22 sz9 (.inl rfl) ⟨_, rfl, (bndS rfl rfl)⟩ (bndS rfl rfl) (by simp)) ?_)))))))
     refine ChD.s (.d (.str (pr.getD k default))) [10000] (.pure (.loadPtr1 _ _ rfl ag9 rfl rfl rfl)) (ChD.s (.row 71000) [] (.slice 71000 _ 9 _ rfl sty22 (xs := [.tmp 70]) rfl rfl (.cons (.d _) .nil) rfl rfl (by decide)) (ChD.s (.row 72000) [71000] (.appendT 72000 _ _ _ 9 rfl sty22 (by decide) rfl (.row rfl rfl) (by simp) a20) (ChD.s (.d (.int .i64 z)) [] pm (ChD.s (.d (.int .i64 (z - 1))) [] (iX rfl rfl intV_subA) (ChD.s (.tup []) [1, 7700, 61000, 72000, 900001] (.callG (ms := [900001]) 75000 25 _ _ _ en25 rfl (.inl rfl) (.cons (.box rfl (.cons (.d _) (.cons (.row rfl) (.cons (.d _) .nil))) rfl) (.cons (.lend (.row rfl (frozs_map (fun _ => rfl) _))) (.cons (.lend (.row rfl (snocS _ _))) (.cons (.d _) .nil)))) rfl (sol rfl (solids_c a40 rfl)) (ih (m - 1) (z - 1) (on.filter (fun u => !(hasB (pr.getD k default)) u)) (l ++ [(pr.getD k default)]) (chTo pr (m - 1) on l p k) (by omega) (by omega) (fun c hc => hon c (List.mem_filter.1 hc).1) (Nat.le_trans (List.length_filter_le _ _) honl) (snoc_all hl (hpr _ (getD_mem (by omega)))) a49 hpk) ⟨rfl, trivial⟩ (.box _ _ (.skip _ _ (.skip _ _ (.skip _ _ .nil)))) rfl) ?_)))))
     refine ChD.nil (And.intro ?_ (by kernel_rfl))
     refine T_open 1 8000030 rfl rfl rfl ?_
     refine T_region hc (Ch.s (.d (.int .i64 ((k : Int) + 1))) (iX rfl rfl intV_addA) (Ch.s (.d (.int .i64 ((k : Int) + 1))) pm (Ch.nil ?_)))
     exact nx (k + 1) (by omega) (Wk.ren [(7700, 8000030)] rfl rfl rfl rfl (ai rfl (ai rfl (ai rfl (ai rfl (ai rfl (ai rfl (ai (vI a50) trivial))))))) (ai (oB (Eq.trans (b := [(.d (.hole u)), (.row 8000030), (.d (.bool ((chF pr (m - 1) (on.filter (fun u => !(hasB (pr.getD k default)) u)) (l ++ [(pr.getD k default)]) (chTo pr (m - 1) on l p k)).2)))]) rfl a5)) (ai (oR a12) (ai rfl trivial))))
    ·
     try have hqk := hpr _ (getD_mem (l := pr) (j := k) (d := default) (by omega))
     try have hok := hon _ (getD_mem (l := on) (j := 0) (d := default) (by omega))
     refine T_skip (T_region hc (Ch.s (.d (.int .i64 ((k : Int) + 1))) (iX rfl rfl intV_addA) (Ch.s (.d (.int .i64 ((k : Int) + 1))) pm (Ch.nil ?_))))
     exact nx (k + 1) (by omega) (Wk.of rfl rfl (ai rfl (ai rfl (ai rfl (ai rfl (ai rfl (ai rfl (ai (vI a50) trivial))))))) (ai (oB (Eq.trans (b := [(.d (.hole u)), (.row 7700), (.d (.bool ((chTo pr (m - 1) on l p k).2)))]) rfl a5)) (ai (oR a12) (ai rfl trivial))))
   ·
    try have hqk := hpr _ (getD_mem (l := pr) (j := k) (d := default) (by omega))
    try have hok := hon _ (getD_mem (l := on) (j := 0) (d := default) (by omega))
    refine T_exit ?_
    exact endN [] [1, 7700] [] .nil (.cons (.box rfl (.cons (.d _) (.cons (Exp.of (congrArg (D.slice true 1) a6) (.row rfl)) (.cons (Exp.of (congrArg D.bool a6) (.d _)) .nil))) rfl) (.cons (.any _) (.cons (.any _) (.cons (.any _) .nil)))) (.tup .nil) rfl rfl

theorem sp_choose (u : Value) (pr : List (List UInt8)) (n : Nat) (hn6 : n ≤ 8) (hpr : ∀ q ∈ pr, q.length = n) (hprl : pr.length ≤ 1048576) : ∀ (m : Nat) (z : Int) (on l : List (List UInt8)) (p : (List (List UInt8) × Bool)), z = (m : Int) → (∀ c ∈ on, c.length = n) → on.length ≤ 1048576 → (∀ q ∈ l, q.length = n) → l.length + m ≤ 7 → POk n 7 p → SpQ (fun S w _ => DRs S w [.slice false 1 (pr.map D.str)] [u] []) Try.prog 25 [(.box [(.hole u), (.slice true 1 (p.1.map D.str)), (.bool (p.2))]), .slice false 1 (on.map D.str), .slice false 1 (l.map D.str), .int .i64 z] [(.box [(.hole u), (.slice true 1 (((chF pr m on l p).1).map D.str)), (.bool ((chF pr m on l p).2))]), .any, .any, .any] (.tup []) := by
 intro m
 induction m with
 | zero => intro z on l p hz a b c d e; exact sp_choose_step u pr n 0 z on l p hz hn6 hpr hprl a b c d e (fun j _ _ _ _ h => by omega)
 | succ m ih =>
  intro z on l p hz a b c d e
  exact sp_choose_step u pr n (m + 1) z on l p hz hn6 hpr hprl a b c d e (fun j z2 on2 l2 p2 h hz2 a2 b2 c2 d2 e2 => by
   have e1 : j = m := by omega
   subst e1
   exact ih z2 on2 l2 p2 hz2 a2 b2 c2 d2 e2)

theorem name_R {c : Ctx} {α : St} {a : Act} {w : World} (s m : Nat) {d : D} (hs : α.get s = .d d) (h1 : d.one = true) (hsn : Nat.blt s α.n = true) (hf : freshB [m] α = true) (hR : R c α a w) : ∃ u, R c ((α.ghosted m d u).put (some s) (.d (.hole u))) a w := by
 obtain ⟨β, φ, H⟩ := hR
 have hv := H.slots s
 rw [hs, VR] at hv
 obtain ⟨φ', H', _⟩ := ghost_Rel m (freshB_spec hf m (by simp)) hv H
 have hlt : s < a.tmps.size := by rw [H.size]; exact Nat.le_of_ble_eq_true hsn
 have h2 := H'.pure (some s) (fun d hd => by cases hd; exact Nat.le_of_ble_eq_true hsn) (.d (.hole (a.tmps.getD s undef))) (a.tmps.getD s undef) (by rw [VR, DR]; exact ⟨⟨rfl, cells_of_one h1 hv⟩, rfl⟩)
 have e : a.put (some s) (a.tmps.getD s undef) = a := by
  unfold Act.put
  cases a with
  | mk tmps defers =>
   simp only [Act.mk.injEq, and_true]
   exact set_same hlt
 rw [e] at h2
 exact ⟨_, β, φ', h2⟩

theorem ch_name {P : Program} {all : Array Oper} {K : St → Prop} {l : List Oper} {α : St} (s m : Nat) {d : D} (hs : α.get s = .d d) (h1 : d.one = true) (hsn : Nat.blt s α.n = true) (hf : freshB [m] α = true) (h : ∀ u, Ch P all K l ((α.ghosted m d u).put (some s) (.d (.hole u)))) : Ch P all K l α :=
 .ghost (ι := Value) (fun u => (α.ghosted m d u).put (some s) (.d (.hole u))) (fun _ _ _ hR => name_R s m hs h1 hsn hf hR) h

def minI (n : Nat) (on off : List (List UInt8)) : (List (List UInt8) × Bool) := if decide (((primL n on off).length : Int) ≤ 60) then minF (primL n on off) on else ([], false)

set_option maxHeartbeats 1000000 in
theorem sp_impl_minimum (n : Int) (on off : List (List UInt8)) (h0 : 0 ≤ n) (h8 : n ≤ 8) (hn1 : on.length ≤ 1048576) (hn2 : off.length ≤ 1048576) (ho1 : ∀ u ∈ on, (u.length : Int) = n) (ho2 : ∀ u ∈ off, (u.length : Int) = n) : Sp Try.prog 14 [(.int .i64 n), (.slice false 1 (on.map D.str)), (.slice false 1 (off.map D.str))] [.any, .any, .any] (.tup [(.slice true 1 (((minI n.toNat on off).1).map D.str)), (.bool ((minI n.toNat on off).2))]) := by
 refine Sp_intro (lend := true) Try.func14 rfl rfl rfl (fun _ => rfl) (fun c hc hX => ?_)
 have hon : ∀ c ∈ on, c.length = n.toNat := fun c hc => (by have := ho1 c hc; omega)
 have hpl := primL_le n.toNat on off
 have hp3 : 3 ^ n.toNat ≤ 3 ^ 8 := Nat.pow_le_pow_right (by omega) (by omega)
 have hpl2 : (primL n.toNat on off).length ≤ 1048576 := (by omega)
 have hp7 : POk n.toNat 7 ([], false) := ⟨by simp, fun q hq => by cases hq⟩
 refine T_seq (T_region hc (Ch.s (.c (.slice none 0 0)) pa (Ch.s (.d (.bool false)) pa (Ch.nil (T_seq (T_region hc (Ch.s (.d (.int .i64 n)) pm ?_)))))))
 refine Ch.s (.d (.slice false 1 (on.map D.str))) pm (Ch.s (.d (.slice false 1 (off.map D.str))) pm (Ch.s (.tup [(.d (.slice false 1 ((primL n.toNat on off).map D.str))), (.d (.bool (decide (((primL n.toNat on off).length : Int) ≤ 60))))]) (.callFz 16000 24 _ _ _ en24 rfl (.inl rfl) (.cons (.d _) (.cons (.d _) (.cons (.d _) .nil))) a46 (sp_impl_primes n on off (by assumption) (by assumption) (by assumption) (by assumption) (by assumption) (by assumption)) (tup_froz (froz_c (slice_froz (frozs_map (fun _ => rfl) _)) rfl)) rfl) (Ch.s (.tup [(.d (.slice false 1 ((primL n.toNat on off).map D.str))), (.d (.bool (decide (((primL n.toNat on off).length : Int) ≤ 60))))]) pm (Ch.s (.d (.slice false 1 ((primL n.toNat on off).map D.str))) (.pure (.extract _ rfl rfl rfl)) (Ch.s (.d (.bool (decide (((primL n.toNat on off).length : Int) ≤ 60)))) (.pure (.extract _ rfl rfl rfl)) (Ch.s (.d (.slice false 1 ((primL n.toNat on off).map D.str))) pa (Ch.s (.d (.bool (decide (((primL n.toNat on off).length : Int) ≤ 60)))) pa ?_)))))))
 refine Ch.nil (T_seq (T_seq (T_region hc (Ch.s (.d (.bool (decide (((primL n.toNat on off).length : Int) ≤ 60)))) pm (Ch.s (.d (.bool (!(decide (((primL n.toNat on off).length : Int) ≤ 60))))) (.pure (.not _ _ rfl rfl)) (Ch.nil ?_))))))
 refine T_condN (b := (decide (((primL n.toNat on off).length : Int) ≤ 60))) rfl (fun h1 => ?_) (fun h1 => ?_)
 ·
  replace h1 := of_decide_eq_false h1
  refine T_seq (T_region hc (Ch.s (.c (.slice none 0 0)) pa (Ch.s (.d (.bool false)) pa (Ch.nil (T_ret ?_)))))
  exact endR [(.c (.slice none 0 0)), (.d (.bool false))] [] [] (.cons (.tmp 6 rfl) (.cons (.tmp 7 rfl) .nil)) (.cons (.any _) (.cons (.any _) (.cons (.any _) .nil))) (.tup (.cons (Exp.of (congrArg (D.slice true 1) a9) (.nil true 1)) (.cons (Exp.of (congrArg D.bool a9) (.d _)) .nil))) rfl rfl
 ·
  replace h1 := of_decide_eq_true h1
  refine T_skip (T_seq (T_seq (T_region hc (Ch.s (.d (.int .i64 0)) pm (Ch.nil (T_block ?_))))))
  refine T_loop (ι := Nat) (fun m => { n := 40, sl := [(1, (.d (.slice false 1 (on.map D.str)))), (8, (.d (.slice false 1 ((primL n.toNat on off).map D.str)))), (21, (.d (.int .i64 (m : Int))))], hp := [], pin := [] }) (fun m => m ≤ 7 ∧ ∀ j, j < m → (rndI (primL n.toNat on off) on j).2 = false) (fun m => 7 - m) ⟨0, ⟨by omega, fun j hj => by omega⟩, (Wk.of rfl rfl (ai rfl (ai rfl (ai (vI a50) trivial))) trivial)⟩ (fun m hp0 => ?_)
  refine T_seq (T_region hc (Ch.s (.d (.bool (decide ((m : Int) < 7)))) (iX rfl rfl rfl) (Ch.nil (T_seq ?_))))
  refine T_condD (p := ((m : Int) < 7)) rfl (fun h2 => ?_) (fun h2 => ?_)
  ·
   refine T_skip (T_seq (T_block (T_seq (T_region hc (Ch.s (.d (.int .i64 (m : Int))) pm (Ch.s (.d (.int .i64 (m : Int))) pa (Ch.nil ?_)))))))
   refine T_seq (T_region hc (Ch.s (.d (.slice false 1 ((primL n.toNat on off).map D.str))) pm ?_))
   refine ch_name 24 900101 rfl rfl rfl rfl (fun g1 => ?_)
   refine Ch.s (.agg [(.d (.hole g1)), (.c (.slice none 0 0)), (.d (.bool false))]) (.build _ _ rfl stru42 (.cons (.one _ rfl) .nil) rfl) (Ch.s (.ptr 26000 0) (.box 26000 _ _ rfl (.agg _ rfl)) (Ch.s (.ptr 26000 0) pa (Ch.nil (T_seq (T_region hc (Ch.s (.ptr 26000 0) pm (Ch.s (.d (.slice false 1 (on.map D.str))) pm ?_)))))))
   refine Ch.s (.d (.int .i64 (m : Int))) pm ?_
   refine Ch.step (v := (.tup [])) rfl (.callG (ms := [900101]) 30000 25 _ _ _ en25 rfl (.inl rfl) (.cons (.box rfl (.cons (.d _) (.cons (.nil true 1) (.cons (.d _) .nil))) rfl) (.cons (.d _) (.cons (.lend (.nil false 1)) (.cons (.d _) .nil)))) rfl (sol rfl (solids_c a40 rfl)) (sp_choose g1 (primL n.toNat on off) n.toNat (by omega) primL_mem hpl2 m (m : Int) on [] ([], false) rfl hon (by assumption) (fun q hq => by cases hq) (by simp; omega) hp7) ⟨rfl, trivial⟩ (.box _ _ (.skip _ _ (.skip _ _ (.skip _ _ .nil)))) rfl) rfl rfl ?_
   refine Ch.opens 26000 8000010 rfl rfl rfl ?_
   refine Ch.nil (T_seq (T_region hc (Ch.s (.ptr 26000 0) pm (Ch.s (.ptr 26000 0) (.pure (.nilPtr _ rfl rfl)) (Ch.s (.ptr 26000 2) (.pure (.fldPtr _ _ _ rfl fld42_2 rfl)) (Ch.s (.d (.bool ((rndI (primL n.toNat on off) on m).2))) (.pure (.loadPtr1 _ _ rfl ag4 rfl rfl rfl)) (Ch.nil ?_)))))))
   refine T_cond (b := ((rndI (primL n.toNat on off) on m).2)) rfl (fun h3 => ?_) (fun h3 => ?_)
   ·
    refine T_seq (T_region hc (Ch.s (.ptr 26000 0) pm (Ch.s (.ptr 26000 0) (.pure (.nilPtr _ rfl rfl)) (Ch.s (.ptr 26000 1) (.pure (.fldPtr _ _ _ rfl fld42_1 rfl)) (Ch.s (.row 8000010) (.pure (.loadPtr1 _ _ rfl ag22 rfl rfl rfl)) (Ch.s (.row 8000010) pa (Ch.s (.d (.bool true)) pa ?_)))))))
    refine Ch.nil (T_ret ?_)
    exact endR [(.row 8000010), (.d (.bool true))] [] [8000010] (.cons (.tmp 6 rfl) (.cons (.tmp 7 rfl) .nil)) (.cons (.any _) (.cons (.any _) (.cons (.any _) .nil))) (.tup (.cons (Exp.of (congrArg (D.slice true 1) a9) (.row rfl)) (.cons (Exp.of (congrArg D.bool a9) (.d _)) .nil))) rfl rfl
   ·
    refine T_skip (T_region hc (Ch.s (.d (.int .i64 ((m : Int) + 1))) (iX rfl rfl intV_addA) (Ch.s (.d (.int .i64 ((m : Int) + 1))) pm (Ch.nil ?_))))
    exact nx (m + 1) ⟨by omega, upto_succ hp0.2 (by assumption)⟩ (Wk.of rfl rfl (ai rfl (ai rfl (ai (vI a50) trivial))) trivial)
  ·
   refine T_exit (T_seq (T_region hc (Ch.s (.c (.slice none 0 0)) pa (Ch.s (.d (.bool false)) pa (Ch.nil (T_ret ?_))))))
   exact endR [(.c (.slice none 0 0)), (.d (.bool false))] [] [] (.cons (.tmp 6 rfl) (.cons (.tmp 7 rfl) .nil)) (.cons (.any _) (.cons (.any _) (.cons (.any _) .nil))) (.tup (.cons (Exp.of (congrArg (D.slice true 1) a9) (.nil true 1)) (.cons (Exp.of (congrArg D.bool a9) (.d _)) .nil))) rfl rfl

def srT (pr on : List (List UInt8)) (m : Nat) (t : List (List UInt8)) (p : List (List UInt8) × Bool) (v : Nat) : List (List UInt8) × Bool := if m = 0 then p else srTo pr on (m - 1) t p v

theorem srT_zero {pr on : List (List UInt8)} {m : Nat} {t : List (List UInt8)} {p : List (List UInt8) × Bool} : srT pr on m t p 0 = p := by
  unfold srT; split
  · rfl
  · rfl

theorem srT_yes {pr on : List (List UInt8)} {m : Nat} {t : List (List UInt8)} {p : List (List UInt8) × Bool} {v : Nat} {c : List UInt8} (h : v < pr.length) (hm : ¬ m = 0) (hc : (unc on t).getD 0 default = c) (hb : hasB (pr.getD v default) c = true) : srF pr on (m - 1) (put14 t (pr.getD v default)) (srT pr on m t p v) = srT pr on m t p (v + 1) := by
 unfold srT
 rw [if_neg hm, if_neg hm, srTo_succ h, hc, if_pos hb]

theorem srT_no1 {pr on : List (List UInt8)} {m : Nat} {t : List (List UInt8)} {p : List (List UInt8) × Bool} {v : Nat} (hm : m = 0) : srT pr on m t p v = srT pr on m t p (v + 1) := by
 unfold srT
 rw [if_pos hm, if_pos hm]

theorem srT_no2 {pr on : List (List UInt8)} {m : Nat} {t : List (List UInt8)} {p : List (List UInt8) × Bool} {v : Nat} {c : List UInt8} (h : v < pr.length) (hc : (unc on t).getD 0 default = c) (hb : hasB (pr.getD v default) c = false) : srT pr on m t p v = srT pr on m t p (v + 1) := by
  unfold srT
  split
  · rfl
  · rw [srTo_succ h, hc, hb]; rfl

theorem srF_all {pr on : List (List UInt8)} {m : Nat} {t : List (List UInt8)} {p : List (List UInt8) × Bool} {v : Nat} (h : ¬ unc on t = []) (hv : pr.length ≤ v) : srF pr on m t p = srT pr on m t p v := by
 cases m with
 | zero => rw [srF_zero h]; rfl
 | succ m => rw [srF_next h hv]; rfl

theorem unc_nil_of {on t : List (List UInt8)} {k : Nat} (h : ∀ j, j < k → inB t (on.getD j default) = true) (hk : on.length ≤ k) : unc on t = [] := by
 unfold unc
 rw [List.filter_eq_nil_iff]
 intro c hc
 obtain ⟨j, hj, e⟩ := List.mem_iff_getElem.1 hc
 have := h j (by omega)
 rw [show on.getD j default = c from by simp [hj, e]] at this
 simp [this]

theorem unc_head {on t : List (List UInt8)} {k : Nat} (h : ∀ j, j < k → inB t (on.getD j default) = true) (hk : k < on.length) (hb : inB t (on.getD k default) = false) : (unc on t).getD 0 default = on.getD k default ∧ ¬ unc on t = [] := by
 have h1 : unc (on.take k) t = [] := unc_nil_of (k := k) (fun j hj => by
  have := h j hj
  rw [show (on.take k).getD j default = on.getD j default from by simp [hj]]
  exact this) (by rw [List.length_take]; omega)
 have hg : on.getD k default = on[k] := by simp [hk]
 have h2 : unc on t = on.getD k default :: unc (on.drop (k + 1)) t := by
  have e : on = on.take k ++ on[k] :: on.drop (k + 1) := by rw [← List.drop_eq_getElem_cons hk, List.take_append_drop]
  have e2 : unc on t = unc (on.take k) t ++ unc (on[k] :: on.drop (k + 1)) t := by
   unfold unc
   rw [← List.filter_append, ← e]
  rw [e2, h1, List.nil_append, hg]
  unfold unc
  rw [List.filter_cons_of_pos (by rw [← hg, hb]; rfl)]
 rw [h2]
 exact ⟨rfl, by simp⟩

theorem lexB_next {l m : List (List UInt8)} {k : Nat} (h1 : k < l.length) (h2 : k < m.length) : lexB (l.drop k) (m.drop k) = if l.getD k default = m.getD k default then lexB (l.drop (k + 1)) (m.drop (k + 1)) else Op.bytesLess (l.getD k default) (m.getD k default) := by
 rw [List.drop_eq_getElem_cons h1, List.drop_eq_getElem_cons h2, lexB]
 simp [h1, h2]

theorem lexB_end {l m : List (List UInt8)} {k : Nat} (h1 : l.length ≤ k) : lexB (l.drop k) m = false := by
 rw [List.drop_of_length_le h1]; unfold lexB; rfl

theorem betB_eq {t l : List (List UInt8)} {f : Bool} : betB t (l, f) = (!f || (decide ((lits t : Int) < (lits l : Int)) || (decide ((lits t : Int) = (lits l : Int)) && lexB t l))) := by
 unfold betB
 rw [show decide ((lits t : Int) < (lits l : Int)) = decide (lits t < lits l) from decide_eq_decide.2 (by omega), show decide ((lits t : Int) = (lits l : Int)) = decide (lits t = lits l) from decide_eq_decide.2 (by omega)]

theorem put14_all {l : List (List UInt8)} {q : List UInt8} {n : Nat} (h : ∀ a ∈ l, a.length = n) (hq : q.length = n) : ∀ a ∈ put14 l q, a.length = n := fun a ha => by
  rcases put14_mem.1 ha with ha | ha
  · exact h a ha
  · rw [ha]; exact hq

theorem srF_ok {pr on : List (List UInt8)} {n N : Nat} (hpr : ∀ q ∈ pr, q.length = n) : ∀ (m : Nat) (t : List (List UInt8)) (p : List (List UInt8) × Bool), t.length + m ≤ N → (∀ q ∈ t, q.length = n) → POk n N p → POk n N (srF pr on m t p) := by
  have hend : ∀ (t : List (List UInt8)) (p : List (List UInt8) × Bool), t.length ≤ N → (∀ q ∈ t, q.length = n) → POk n N p → POk n N (endS t p) := by
    intro t p h1 h2 h3
    unfold endS
    split
    · exact ⟨h1, h2⟩
    · exact h3
  intro m
  induction m with
  | zero =>
    intro t p h1 h2 h3
    rw [srF]
    split
    · exact hend _ _ (by omega) h2 h3
    · exact h3
  | succ m ih =>
    intro t p h1 h2 h3
    rw [srF]
    split
    · exact hend _ _ (by omega) h2 h3
    · refine fold_ok (Q := POk n N) h3 fun p q hq hp => ?_
      split
      · exact ih _ _ (by rw [put14_len]; omega) (put14_all h2 (hpr q hq)) hp
      · exact hp

theorem srT_ok {pr on : List (List UInt8)} {n N m : Nat} {t : List (List UInt8)} {p : List (List UInt8) × Bool} (hpr : ∀ q ∈ pr, q.length = n) (h1 : t.length + m ≤ N) (h2 : ∀ q ∈ t, q.length = n) (h3 : POk n N p) (k : Nat) (hk : k ≤ pr.length) : POk n N (srT pr on m t p k) := by
  unfold srT
  split
  · exact h3
  · unfold srTo
    refine fold_ok (Q := POk n N) h3 fun p q hq hp => ?_
    split
    · exact srF_ok hpr _ _ _ (by rw [put14_len]; omega) (put14_all h2 (hpr q (List.mem_of_mem_take hq))) hp
    · exact hp

theorem srT_bok {pr on : List (List UInt8)} {N m : Nat} {t : List (List UInt8)} {p : List (List UInt8) × Bool} (h1 : t.length + m = N) (h2 : noShort pr on m t) (h3 : BOk N p) (k : Nat) : BOk N (srT pr on m t p k) := by
  unfold srT
  split
  · exact h3
  · obtain ⟨q, rfl⟩ : ∃ q, m = q + 1 := ⟨m - 1, by omega⟩
    unfold srTo
    refine fold_ok (Q := BOk N) h3 fun p c hq hp => ?_
    split
    · rename_i hb
      exact srF_bok _ _ _ (by rw [put14_len, Nat.add_sub_cancel]; omega) (ns_step h2 (List.mem_of_mem_take hq) hb) hp
    · exact hp

theorem ns_at {pr on : List (List UInt8)} {m : Nat} {t : List (List UInt8)} {q c : List UInt8} (hm : ¬ m = 0) (h : noShort pr on m t) (hq : q ∈ pr) (hc : (unc on t).getD 0 default = c) (hb : hasB q c = true) : noShort pr on (m - 1) (put14 t q) := by
 obtain ⟨j, rfl⟩ : ∃ j, m = j + 1 := ⟨m - 1, by omega⟩
 exact ns_step h hq (by rw [hc]; exact hb)

theorem ns_end {pr on : List (List UInt8)} {m : Nat} {t : List (List UInt8)} (h : noShort pr on m t) (e : unc on t = []) : m = 0 := by
 cases m with
 | zero => rfl
 | succ m => exact absurd e (ns_not h)

theorem srF_fin {pr on : List (List UInt8)} {m : Nat} {t : List (List UInt8)} {p : List (List UInt8) × Bool} (e : unc on t = []) : srF pr on m t p = endS t p := srF_end m e

theorem endS_yes {t : List (List UInt8)} {p : List (List UInt8) × Bool} (h : betB t (p.1, p.2) = true) : endS t p = (t, true) := by
 unfold endS; rw [if_pos (show betB t p = true from h)]

theorem endS_no {t : List (List UInt8)} {p : List (List UInt8) × Bool} (h : betB t (p.1, p.2) = false) : endS t p = p := by
 unfold endS; rw [if_neg (by rw [show betB t p = false from h]; simp)]

theorem rndI_of {pr on : List (List UInt8)} {m : Nat} (h : ∀ j, j < m → (rndS pr on j).2 = false) : ∀ j, j < m → (rndI pr on j).2 = false := fun j hj => by
 rw [rnd_eq (fun i hi => h i (by omega))]; exact h j hj

theorem minS_yes {pr on : List (List UInt8)} {m : Nat} (hm : m < 7) (h : ∀ j, j < m → (rndS pr on j).2 = false) (h2 : (rndS pr on m).2 = true) : minF pr on = ((rndS pr on m).1, true) := by
 have e := rnd_eq h
 rw [min_yes hm (rndI_of h) (by rw [e]; exact h2), e]

theorem minS_no {pr on : List (List UInt8)} (h : ∀ j, j < 7 → (rndS pr on j).2 = false) : minF pr on = ([], false) := min_no (rndI_of h)

theorem lst_ok {f : Nat → List (List UInt8) × Bool} {n N : Nat} (h : ∀ j, j < 7 → POk n N (f j)) : ∀ k j, j + k ≤ 7 → POk n N (lstF f k j)
  | 0, j, _ => ⟨Nat.zero_le _, fun q hq => by cases hq⟩
  | k + 1, j, hj => by
    rw [lstF]
    split
    · exact ⟨(h j (by omega)).len, (h j (by omega)).all⟩
    · exact lst_ok h k (j + 1) (by omega)

theorem minF_ok {pr on : List (List UInt8)} {n : Nat} (hpr : ∀ q ∈ pr, q.length = n) : POk n 7 (minF pr on) := by
 unfold minF
 exact lst_ok (fun j hj => chF_ok hpr j on [] ([], false) (by simp; omega) (fun q hq => by cases hq) ⟨Nat.zero_le _, fun q hq => by cases hq⟩) 7 0 (by omega)

def mcvF (n : Int) (on off : List (List UInt8)) : List (List UInt8) × Bool := if primOk n on off then minF (primL n.toNat on off) on else ([], false)

theorem mcvF_len (n : Int) (on off : List (List UInt8)) : (mcvF n on off).1.length ≤ 7 := by
  unfold mcvF
  split
  · exact (minF_ok primL_mem).len
  · exact Nat.zero_le _

theorem mcvF_no0 {n : Int} {on off : List (List UInt8)} (h : onoffB n on off = false) : mcvF n on off = ([], false) := by rw [mcvF, primOk, h]; rfl

theorem mcvF_no {n : Int} {on off : List (List UInt8)} (h : primOk n on off = false) : mcvF n on off = ([], false) := by rw [mcvF, h]; rfl

theorem mcvF_yes {n : Int} {on off : List (List UInt8)} (h : primOk n on off = true) : mcvF n on off = minF (primL n.toNat on off) on := by rw [mcvF, h]; rfl

theorem mcvF_min {n : Int} {on off : List (List UInt8)} (h : onoffB n on off = true) : mcvF n on off = minI n.toNat on off := by
 unfold mcvF minI primOk
 rw [h, Bool.true_and]

theorem primOk_on {n : Int} {on off : List (List UInt8)} (h : primOk n on off = true) : onoffB n on off = true := by
 unfold primOk at h; rw [Bool.and_eq_true] at h; exact h.1

theorem put14_new {l : List (List UInt8)} {u : List UInt8} {k : Nat} (hk : k ≤ l.length) (h1 : ∀ j, j < k → Op.bytesLess (l.getD j default) u = true) (h2 : k < l.length → Op.bytesLess (l.getD k default) u = false) : l.take k ++ [u] ++ l.drop k = put14 l u := by
 have key : ∀ (l : List (List UInt8)) (k : Nat), k ≤ l.length → (∀ j, j < k → Op.bytesLess (l.getD j default) u = true) → (k < l.length → Op.bytesLess (l.getD k default) u = false) → l.takeWhile (fun b => Op.bytesLess b u) = l.take k ∧ l.dropWhile (fun b => Op.bytesLess b u) = l.drop k := by
  intro l
  induction l with
  | nil => intro k _ _ _; simp
  | cons b l ih =>
   intro k hk h1 h2
   cases k with
   | zero =>
    have h3 := h2 (by simp)
    have h4 : Op.bytesLess b u = false := by simpa using h3
    rw [List.takeWhile_cons, List.dropWhile_cons]
    simp [h4]
   | succ k =>
    have h3 : Op.bytesLess b u = true := by simpa using h1 0 (by omega)
    obtain ⟨e1, e2⟩ := ih k (by simpa using hk) (fun j hj => by simpa using h1 (j + 1) (by omega)) (fun hl => by simpa using h2 (by simpa using hl))
    rw [List.takeWhile_cons, List.dropWhile_cons]
    simp [h3, e1, e2]
 obtain ⟨e1, e2⟩ := key l k hk h1 h2
 unfold put14
 rw [e1, e2]
 simp

theorem sp_spec_l14Put (xs : List (List UInt8)) (u : List UInt8) (hn : xs.length ≤ 1000000) : Sp Try.prog 34 [(.slice false 1 (xs.map D.str)), (.str u)] [.any, .any] (.slice true 1 ((put14 xs u).map D.str)) := by
 refine Sp_intro (lend := true) Try.func34 rfl rfl rfl (fun _ => rfl) (fun c hc hX => ?_)
 refine T_seq (T_region hc (Ch.s (.c (.slice none 0 0)) pa (Ch.nil (T_seq (T_region hc (Ch.s (.d (.int .i64 0)) pa (Ch.nil ?_)))))))
 refine T_seq (T_block ?_)
 refine T_loop (ι := Nat) (fun k => { n := 31, sl := [(0, (.d (.slice false 1 (xs.map D.str)))), (1, (.d (.str u))), (5, (.d (.int .i64 (k : Int))))], hp := [], pin := [] }) (fun k => k ≤ xs.length ∧ ∀ j, j < k → Op.bytesLess (xs.getD j default) u = true) (fun k => xs.length - k) ⟨0, ⟨by omega, fun j hj => by omega⟩, (Wk.of rfl rfl (ai rfl (ai rfl (ai (vI a50) trivial))) trivial)⟩ (fun k hp0 => ?_)
 refine T_seq (T_seq (T_region hc (Ch.s (.d (.int .i64 (k : Int))) pm (Ch.s (.d (.slice false 1 (xs.map D.str))) pm (Ch.s (.d (.int .i64 (xs.length : Int))) (.pure (.len _ _ 9 rfl Try.underlying22 (.sh _ _) (by simp))) (Ch.s (.d (.bool (decide ((k : Int) < (xs.length : Int))))) (iX rfl rfl rfl) (Ch.s (.d (.bool (decide ((k : Int) < (xs.length : Int))))) pm ?_)))))))
 cases h1 : (decide ((k : Int) < (xs.length : Int))) with
 | true =>
  replace h1 := of_decide_eq_true h1
  refine Ch.s (.d (.slice false 1 (xs.map D.str))) pm (Ch.s (.d (.int .i64 (k : Int))) pm (Ch.s (.d (.ref (.str (xs.getD k default)))) (.pure (.idx _ _ _ 9 (k) rfl Try.underlying22 sz9 rfl rfl rfl get_mapA)) (Ch.s (.d (.str (xs.getD k default))) (.pure (.loadRef1 _ _ rfl ag9 rfl rfl)) (Ch.s (.d (.str u)) pm (Ch.s (.d (.bool (Op.bytesLess (xs.getD k default) u))) (.pure (.str _ _ _ _ _ rfl rfl rfl rfl)) (Ch.s (.d (.bool (Op.bytesLess (xs.getD k default) u))) (.pure (.pickT _ _ _ rfl rfl rfl)) (Ch.nil ?_)))))))
  refine T_cond (b := (Op.bytesLess (xs.getD k default) u)) rfl (fun h2 => ?_) (fun h2 => ?_)
  ·
   refine T_skip (T_block (T_region hc (Ch.s (.d (.int .i64 (k : Int))) pm (Ch.s (.d (.int .i64 ((k : Int) + 1))) (iX rfl rfl intV_addA) (Ch.s (.d (.int .i64 ((k : Int) + 1))) pa (Ch.nil ?_))))))
   exact nx (k + 1) ⟨by omega, upto_succ hp0.2 (by assumption)⟩ (Wk.of rfl rfl (ai rfl (ai rfl (ai (vI a50) trivial))) trivial)
  ·
   refine T_exit (T_seq ?_)
   refine T_regionD hc (by kernel_rfl) ?_
   refine ChD.s (.d (.slice false 1 (xs.map D.str))) [] pm (ChD.s (.d (.int .i64 (k : Int))) [] pm (ChD.s (.d (.slice false 1 ((xs.take k).map D.str))) [] (.pure (.sliceSh _ _ _ _ 9 (0) (k) rfl Try.underlying22 sz9 rfl (bndN rfl) (bndS rfl rfl) (by simp <;> omega) (by simp <;> omega) a34)) (ChD.s (.row 23000) [] (.call 23000 52 _ _ _ en52 rfl (.inl rfl) (.cons (.d _) .nil) rfl (sol (solid_row (fun _ => rfl) _) rfl) (sp_spec_l1OwnS (xs.take k) a8) (.skip _ _ .nil) rfl) (ChD.s (.d (.str u)) [] pm (ChD.s (.row 25000) [] (.slice 25000 _ 9 _ rfl sty22 (xs := [.tmp 24]) rfl rfl (.cons (.d _) .nil) rfl rfl (by decide)) (ChD.s (.row 26000) [23000, 25000] (.append 26000 _ _ _ 9 rfl sty22 (by decide) (.rowK rfl) (.inr ⟨_, rfl, rfl⟩) (.row rfl rfl) rfl a27) (ChD.s (.d (.slice false 1 (xs.map D.str))) [] pm ?_)))))))
   refine ChD.s (.d (.int .i64 (k : Int))) [] pm (ChD.s (.d (.slice false 1 ((xs.drop k).map D.str))) [] (.pure (.sliceSh _ _ _ _ 9 (k) ((xs.map D.str).length) rfl Try.underlying22 sz9 rfl (bndS rfl rfl) (bndN rfl) (by simp <;> omega) (by simp <;> omega) a34)) (ChD.s (.row 30000) [26000] (.append 30000 _ _ _ 9 rfl sty22 (by decide) (.rowK rfl) (.inr ⟨_, rfl, rfl⟩) (.sh _ _) rfl a27) (ChD.s (.row 30000) [] pa ?_)))
   refine ChD.nil (And.intro ?_ (by kernel_rfl))
   refine T_ret ?_
   exact endR [(.row 30000)] [] [30000] (.cons (.tmp 4 rfl) .nil) (.cons (.any _) (.cons (.any _) .nil)) (Exp.of (congrArg (D.slice true 1) a22) (.row rfl)) rfl rfl
 | false =>
  replace h1 := of_decide_eq_false h1
  refine Ch.skip rfl rfl (Ch.skip rfl rfl (Ch.skip rfl rfl (Ch.skip rfl rfl (Ch.skip rfl rfl (Ch.skip rfl rfl (Ch.s (.d (.bool false)) (.pure (.pickF _ _ _ rfl rfl rfl)) (Ch.nil ?_)))))))
  refine T_cond (b := false) rfl (fun h => nomatch h) (fun _ => ?_)
  refine T_exit (T_seq ?_)
  refine T_regionD hc (by kernel_rfl) ?_
  refine ChD.s (.d (.slice false 1 (xs.map D.str))) [] pm (ChD.s (.d (.int .i64 (k : Int))) [] pm (ChD.s (.d (.slice false 1 ((xs.take k).map D.str))) [] (.pure (.sliceSh _ _ _ _ 9 (0) (k) rfl Try.underlying22 sz9 rfl (bndN rfl) (bndS rfl rfl) (by simp <;> omega) (by simp <;> omega) a34)) (ChD.s (.row 23000) [] (.call 23000 52 _ _ _ en52 rfl (.inl rfl) (.cons (.d _) .nil) rfl (sol (solid_row (fun _ => rfl) _) rfl) (sp_spec_l1OwnS (xs.take k) a8) (.skip _ _ .nil) rfl) (ChD.s (.d (.str u)) [] pm (ChD.s (.row 25000) [] (.slice 25000 _ 9 _ rfl sty22 (xs := [.tmp 24]) rfl rfl (.cons (.d _) .nil) rfl rfl (by decide)) (ChD.s (.row 26000) [23000, 25000] (.append 26000 _ _ _ 9 rfl sty22 (by decide) (.rowK rfl) (.inr ⟨_, rfl, rfl⟩) (.row rfl rfl) rfl a27) (ChD.s (.d (.slice false 1 (xs.map D.str))) [] pm ?_)))))))
  refine ChD.s (.d (.int .i64 (k : Int))) [] pm (ChD.s (.d (.slice false 1 ((xs.drop k).map D.str))) [] (.pure (.sliceSh _ _ _ _ 9 (k) ((xs.map D.str).length) rfl Try.underlying22 sz9 rfl (bndS rfl rfl) (bndN rfl) (by simp <;> omega) (by simp <;> omega) a34)) (ChD.s (.row 30000) [26000] (.append 30000 _ _ _ 9 rfl sty22 (by decide) (.rowK rfl) (.inr ⟨_, rfl, rfl⟩) (.sh _ _) rfl a27) (ChD.s (.row 30000) [] pa ?_)))
  refine ChD.nil (And.intro ?_ (by kernel_rfl))
  refine T_ret ?_
  exact endR [(.row 30000)] [] [30000] (.cons (.tmp 4 rfl) .nil) (.cons (.any _) (.cons (.any _) .nil)) (Exp.of (congrArg (D.slice true 1) a22) (.row rfl)) rfl rfl

theorem sp_better (u v : Value) (l t : List (List UInt8)) (f : Bool) (hl : bulkS l ≤ 1048576) (ht : bulkS t ≤ 1048576) (hf : f = true → l.length = t.length) : Sp Try.prog 35 [(.box [(.hole u), (.hole v), (.slice true 1 (l.map D.str)), (.bool (f))]), (.slice false 1 (t.map D.str))] [(.box [(.hole u), (.hole v), (.slice true 1 (l.map D.str)), (.bool (f))]), .any] (.bool (betB t (l, f))) := by
 refine Sp_intro (lend := false) Try.func35 rfl rfl rfl (fun h => nomatch h) (fun c hc hX => ?_)
 refine T_open 1 8000010 rfl rfl rfl ?_
 have hn := bulk_len hl; have hm := bulk_len ht
 refine T_seq (T_region hc (Ch.s (.d (.bool false)) pa (Ch.nil (T_seq ?_))))
 refine T_regionD hc (by kernel_rfl) ?_
 refine ChD.s (.d (.slice false 1 (t.map D.str))) [] pm (ChD.s (.d (.int .i64 (lits t : Int))) [] (.call 9000 53 _ _ _ en53 rfl (.inl rfl) (.cons (.d _) .nil) rfl rfl (sp_spec_l14Literals t a8) (.skip _ _ .nil) rfl) (ChD.s (.ptr 1 0) [] pm (ChD.s (.ptr 1 0) [] (.pure (.nilPtr _ rfl rfl)) (ChD.s (.ptr 1 2) [] (.pure (.fldPtr _ _ _ rfl fld33_2 rfl)) (ChD.s (.row 8000010) [1] (.pure (.loadPtr1 _ _ rfl ag22 rfl rfl rfl)) (ChD.s (.d (.int .i64 (lits l : Int))) [8000010] (.call 14000 53 _ _ _ en53 rfl (.inl rfl) (.cons (.lend (.row rfl (frozs_map (fun _ => rfl) _))) .nil) rfl rfl (sp_spec_l14Literals l a8) (.skip _ _ .nil) rfl) (ChD.s (.d (.int .i64 (lits t : Int))) [] pa ?_)))))))
 refine ChD.s (.d (.int .i64 (lits l : Int))) [] pa ?_
 refine ChD.nil (And.intro ?_ (by kernel_rfl))
 refine T_seq (T_seq (T_region hc (Ch.s (.ptr 1 0) pm (Ch.s (.ptr 1 0) (.pure (.nilPtr _ rfl rfl)) (Ch.s (.ptr 1 3) (.pure (.fldPtr _ _ _ rfl fld33_3 rfl)) (Ch.s (.d (.bool (f))) (.pure (.loadPtr1 _ _ rfl ag4 rfl rfl rfl)) (Ch.s (.d (.bool (!(f)))) (.pure (.not _ _ rfl rfl)) ?_)))))))
 refine Ch.s (.d (.bool (!(f)))) pm ?_
 cases h1 : (f) with
 | true =>
  refine Ch.s (.d (.int .i64 (lits t : Int))) pm (Ch.s (.d (.int .i64 (lits l : Int))) pm (Ch.s (.d (.bool (!(decide ((lits t : Int) = (lits l : Int)))))) (iX rfl rfl rfl) (Ch.s (.d (.bool (!(decide ((lits t : Int) = (lits l : Int)))))) (.pure (.pickF _ _ _ rfl rfl rfl)) (Ch.nil ?_))))
  refine T_condN (b := (decide ((lits t : Int) = (lits l : Int)))) rfl (fun h2 => ?_) (fun h2 => ?_)
  ·
   replace h2 := of_decide_eq_false h2
   refine T_seq (T_region hc (Ch.s (.ptr 1 0) pm (Ch.s (.ptr 1 0) (.pure (.nilPtr _ rfl rfl)) (Ch.s (.ptr 1 3) (.pure (.fldPtr _ _ _ rfl fld33_3 rfl)) (Ch.s (.d (.bool true)) (.pure (.loadPtr1 _ _ rfl ag4 rfl rfl rfl)) (Ch.s (.d (.bool false)) (.pure (.not (b := true) _ _ rfl rfl)) (Ch.s (.d (.bool false)) pm ?_)))))))
   refine Ch.s (.d (.int .i64 (lits t : Int))) pm (Ch.s (.d (.int .i64 (lits l : Int))) pm (Ch.s (.d (.bool (decide ((lits t : Int) < (lits l : Int))))) (iX rfl rfl rfl) (Ch.s (.d (.bool (decide ((lits t : Int) < (lits l : Int))))) (.pure (.pickF _ _ _ rfl rfl rfl)) (Ch.s (.d (.bool (decide ((lits t : Int) < (lits l : Int))))) pa (Ch.nil (T_ret ?_))))))
   exact endR [(.d (.bool (decide ((lits t : Int) < (lits l : Int)))))] [1, 8000010] [] (.cons (.tmp 4 rfl) .nil) (.cons (.box rfl (.cons (.d _) (.cons (.d _) (.cons (.row rfl) (.cons (Exp.of (congrArg D.bool a2) (.d _)) .nil)))) rfl) (.cons (.any _) .nil)) (Exp.of (congrArg D.bool a2) (.d _)) rfl rfl
  ·
   replace h2 := of_decide_eq_true h2
   refine T_skip (T_seq (T_seq (T_region hc (Ch.s (.d (.slice false 1 (t.map D.str))) pm (Ch.s (.d (.int .i64 (t.length : Int))) (.pure (.len _ _ 9 rfl Try.underlying22 (.sh _ _) (by simp))) (Ch.s (.d (.int .i64 0)) pm (Ch.nil ?_)))))))
   refine T_block ?_
   refine T_loop (ι := Nat) (fun k => { n := 65, sl := [(0, (.ptr 1 0)), (1, (.d (.slice false 1 (t.map D.str)))), (36, (.d (.int .i64 (t.length : Int)))), (37, (.d (.int .i64 (k : Int))))], hp := [(1, (some (.box [(.d (.hole u)), (.d (.hole v)), (.row 8000010), (.d (.bool true))]))), (8000010, (some (.row 1 (l.map D.str))))], pin := [1] }) (fun k => k ≤ t.length ∧ lexB t l = lexB (t.drop k) (l.drop k)) (fun k => t.length - k) ⟨0, ⟨by omega, rfl⟩, (Wk.of rfl rfl (ai rfl (ai rfl (ai rfl (ai (vI a50) trivial)))) (ai rfl (ai rfl trivial)))⟩ (fun k hp0 => ?_)
   have hfl : l.length = t.length := hf (by first | assumption | rfl)
   refine T_seq (T_region hc (Ch.s (.d (.bool (decide ((k : Int) < (t.length : Int))))) (iX rfl rfl rfl) (Ch.nil (T_seq ?_))))
   refine T_condD (p := ((k : Int) < (t.length : Int))) rfl (fun h3 => ?_) (fun h3 => ?_)
   ·
    refine T_skip (T_seq (T_block (T_seq (T_region hc (Ch.s (.d (.int .i64 (k : Int))) pm (Ch.s (.d (.int .i64 (k : Int))) pa (Ch.nil ?_)))))))
    refine T_seq ?_
    refine T_regionD hc (by kernel_rfl) ?_
    refine ChD.s (.d (.slice false 1 (t.map D.str))) [] pm (ChD.s (.d (.int .i64 (k : Int))) [] pm (ChD.s (.d (.ref (.str (t.getD k default)))) [] (.pure (.idx _ _ _ 9 (k) rfl Try.underlying22 sz9 rfl rfl rfl get_mapA)) (ChD.s (.d (.str (t.getD k default))) [] (.pure (.loadRef1 _ _ rfl ag9 rfl rfl)) (ChD.s (.ptr 1 0) [] pm (ChD.s (.ptr 1 0) [] (.pure (.nilPtr _ rfl rfl)) (ChD.s (.ptr 1 2) [] (.pure (.fldPtr _ _ _ rfl fld33_2 rfl)) (ChD.s (.row 8000010) [1] (.pure (.loadPtr1 _ _ rfl ag22 rfl rfl rfl)) ?_)))))))
    refine ChD.s (.d (.int .i64 (k : Int))) [] pm (ChD.s (.el 8000010 1 k 0) [8000010] (.pure (.idxRow _ _ _ 9 (k) rfl Try.underlying22 sz9 rfl rfl rfl rfl a38)) (ChD.s (.d (.str (l.getD k default))) [8000010] (.pure (.loadEl1 _ _ rfl ag9 rfl rfl get_mapA rfl rfl rfl)) (ChD.s (.d (.bool (!(decide ((t.getD k default) = (l.getD k default)))))) [] (.pure (.str _ _ _ _ _ rfl rfl rfl rfl)) ?_)))
    refine ChD.nil (And.intro ?_ (by kernel_rfl))
    refine T_condN (b := (decide ((t.getD k default) = (l.getD k default)))) rfl (fun h4 => ?_) (fun h4 => ?_)
    ·
     replace h4 := of_decide_eq_false h4
     refine T_seq ?_
     refine T_regionD hc (by kernel_rfl) ?_
     refine ChD.s (.d (.slice false 1 (t.map D.str))) [] pm (ChD.s (.d (.int .i64 (k : Int))) [] pm (ChD.s (.d (.ref (.str (t.getD k default)))) [] (.pure (.idx _ _ _ 9 (k) rfl Try.underlying22 sz9 rfl rfl rfl get_mapA)) (ChD.s (.d (.str (t.getD k default))) [] (.pure (.loadRef1 _ _ rfl ag9 rfl rfl)) (ChD.s (.ptr 1 0) [] pm (ChD.s (.ptr 1 0) [] (.pure (.nilPtr _ rfl rfl)) (ChD.s (.ptr 1 2) [] (.pure (.fldPtr _ _ _ rfl fld33_2 rfl)) (ChD.s (.row 8000010) [1] (.pure (.loadPtr1 _ _ rfl ag22 rfl rfl rfl)) ?_)))))))
     refine ChD.s (.d (.int .i64 (k : Int))) [] pm (ChD.s (.el 8000010 1 k 0) [8000010] (.pure (.idxRow _ _ _ 9 (k) rfl Try.underlying22 sz9 rfl rfl rfl rfl a38)) (ChD.s (.d (.str (l.getD k default))) [8000010] (.pure (.loadEl1 _ _ rfl ag9 rfl rfl get_mapA rfl rfl rfl)) (ChD.s (.d (.bool (Op.bytesLess (t.getD k default) (l.getD k default)))) [] (.pure (.str _ _ _ _ _ rfl rfl rfl rfl)) (ChD.s (.d (.bool (Op.bytesLess (t.getD k default) (l.getD k default)))) [] pa ?_))))
     refine ChD.nil (And.intro ?_ (by kernel_rfl))
     refine T_ret ?_
     exact endR [(.d (.bool (Op.bytesLess (t.getD k default) (l.getD k default))))] [1, 8000010] [] (.cons (.tmp 4 rfl) .nil) (.cons (.box rfl (.cons (.d _) (.cons (.d _) (.cons (.row rfl) (.cons (Exp.of (congrArg D.bool a2) (.d _)) .nil)))) rfl) (.cons (.any _) .nil)) (Exp.of (congrArg D.bool a2) (.d _)) rfl rfl
    ·
     replace h4 := of_decide_eq_true h4
     refine T_skip (T_region hc (Ch.s (.d (.int .i64 ((k : Int) + 1))) (iX rfl rfl intV_addA) (Ch.s (.d (.int .i64 ((k : Int) + 1))) pm (Ch.nil ?_))))
     exact nx (k + 1) ⟨by omega, by rw [hp0.2, lexB_next (by omega) (by omega), if_pos (by assumption)]⟩ (Wk.of rfl rfl (ai rfl (ai rfl (ai rfl (ai (vI a50) trivial)))) (ai rfl (ai rfl trivial)))
   ·
    refine T_exit (T_seq (T_region hc (Ch.s (.d (.bool false)) pa (Ch.nil (T_ret ?_)))))
    exact endR [(.d (.bool false))] [1, 8000010] [] (.cons (.tmp 4 rfl) .nil) (.cons (.box rfl (.cons (.d _) (.cons (.d _) (.cons (.row rfl) (.cons (Exp.of (congrArg D.bool a2) (.d _)) .nil)))) rfl) (.cons (.any _) .nil)) (Exp.of (congrArg D.bool a2) (.d _)) rfl rfl
 | false =>
  refine Ch.skip rfl rfl (Ch.skip rfl rfl (Ch.skip rfl rfl (Ch.s (.d (.bool true)) (.pure (.pickT _ _ _ rfl rfl rfl)) (Ch.nil ?_))))
  refine T_cond (b := true) rfl (fun _ => ?_) (fun h => nomatch h)
  refine T_seq (T_region hc (Ch.s (.ptr 1 0) pm (Ch.s (.ptr 1 0) (.pure (.nilPtr _ rfl rfl)) (Ch.s (.ptr 1 3) (.pure (.fldPtr _ _ _ rfl fld33_3 rfl)) (Ch.s (.d (.bool false)) (.pure (.loadPtr1 _ _ rfl ag4 rfl rfl rfl)) (Ch.s (.d (.bool true)) (.pure (.not (b := false) _ _ rfl rfl)) (Ch.s (.d (.bool true)) pm ?_)))))))
  refine Ch.skip rfl rfl (Ch.skip rfl rfl (Ch.skip rfl rfl (Ch.s (.d (.bool true)) (.pure (.pickT _ _ _ rfl rfl rfl)) (Ch.s (.d (.bool true)) pa (Ch.nil (T_ret ?_))))))
  exact endR [(.d (.bool true))] [1, 8000010] [] (.cons (.tmp 4 rfl) .nil) (.cons (.box rfl (.cons (.d _) (.cons (.d _) (.cons (.row rfl) (.cons (Exp.of (congrArg D.bool a2) (.d _)) .nil)))) rfl) (.cons (.any _) .nil)) (Exp.of (congrArg D.bool a2) (.d _)) rfl rfl

set_option maxHeartbeats 2000000 in
theorem sp_search_step (u v : Value) (pr on : List (List UInt8)) (n N m : Nat) (z : Int) (t : List (List UInt8)) (p : (List (List UInt8) × Bool)) (hz : z = (m : Int)) (hn8 : n ≤ 8) (hpr : ∀ q ∈ pr, q.length = n) (hprl : pr.length ≤ 1048576) (hon : ∀ c ∈ on, c.length = n) (honl : on.length ≤ 1048576) (hN7 : N ≤ 7) (ht : ∀ q ∈ t, q.length = n) (hN : t.length + m = N) (hns : noShort pr on m t) (hp : POk n 7 p) (hb : BOk N p) (ih : ∀ (j : Nat) (z : Int) (t : List (List UInt8)) (p : (List (List UInt8) × Bool)), j + 1 = m → z = (j : Int) → (∀ q ∈ t, q.length = n) → t.length + j = N → noShort pr on j t → POk n 7 p → BOk N p → SpQ (fun S w _ => DRs S w [.slice false 1 (pr.map D.str), .slice false 1 (on.map D.str)] [u, v] []) Try.prog 18 [(.box [(.hole u), (.hole v), (.slice true 1 (p.1.map D.str)), (.bool (p.2))]), .slice true 1 (t.map D.str), .int .i64 z] [(.box [(.hole u), (.hole v), (.slice true 1 (((srF pr on j t p).1).map D.str)), (.bool ((srF pr on j t p).2))]), .any, .any] (.tup [])) : SpQ (fun S w _ => DRs S w [(.slice false 1 (pr.map D.str)), (.slice false 1 (on.map D.str))] [u, v] []) Try.prog 18 [(.box [(.hole u), (.hole v), (.slice true 1 (p.1.map D.str)), (.bool (p.2))]), (.slice true 1 (t.map D.str)), (.int .i64 z)] [(.box [(.hole u), (.hole v), (.slice true 1 (((srF pr on m t p).1).map D.str)), (.bool ((srF pr on m t p).2))]), .any, .any] (.tup []) := by
 refine SpG_intro Try.func18 rfl [900001, 900002] rfl rfl rfl (fun c hc => ?_)
 refine T_open 1 8000010 rfl rfl rfl ?_
 have htl : t.length ≤ 1048576 := (by omega)
 have hpb := bulk_small hn8 hp.len hp.all
 have htb : bulkS t ≤ 1048576 := bulk_small hn8 (by omega) ht
 refine T_seq (T_seq (T_region hc (Ch.s (.ptr 1 0) pm (Ch.s (.ptr 1 0) (.pure (.nilPtr _ rfl rfl)) (Ch.s (.ptr 1 1) (.pure (.fldPtr _ _ _ rfl fld33_1 rfl)) (Ch.s (.d (.hole v)) (.pure (.loadPtr1 _ _ rfl ag22 rfl rfl rfl)) ?_))))))
 refine Ch.see 13 900002 rfl rfl rfl ?_
 refine Ch.s (.d (.int .i64 (on.length : Int))) (.pure (.len _ _ 9 rfl Try.underlying22 (.sh _ _) (by simp))) (Ch.s (.d (.int .i64 0)) pm (Ch.nil (T_block ?_)))
 refine T_loop (ι := Nat) (fun k => { n := 57, sl := [(0, (.ptr 1 0)), (1, (.row 2)), (2, (.d (.int .i64 z))), (13, (.d (.slice false 1 (on.map D.str)))), (14, (.d (.int .i64 (on.length : Int)))), (15, (.d (.int .i64 (k : Int))))], hp := [(1, (some (.box [(.d (.hole u)), (.d (.hole v)), (.row 8000010), (.d (.bool (p.2)))]))), (2, (some (.row 1 (t.map D.str)))), (900001, (some (.ghost (.slice false 1 (pr.map D.str)) u))), (900002, (some (.ghost (.slice false 1 (on.map D.str)) v))), (8000010, (some (.row 1 (p.1.map D.str))))], pin := [1, 2] }) (fun k => k ≤ on.length ∧ ∀ j, j < k → inB t (on.getD j default) = true) (fun k => on.length - k) ⟨0, ⟨by omega, fun j hj => by omega⟩, (Wk.of rfl rfl (ai rfl (ai rfl (ai rfl (ai rfl (ai rfl (ai (vI a50) trivial)))))) (ai rfl (ai rfl (ai rfl (ai rfl (ai rfl trivial))))))⟩ (fun k hp0 => ?_)
 refine T_seq (T_region hc (Ch.s (.d (.bool (decide ((k : Int) < (on.length : Int))))) (iX rfl rfl rfl) (Ch.nil (T_seq ?_))))
 refine T_condD (p := ((k : Int) < (on.length : Int))) rfl (fun h1 => ?_) (fun h1 => ?_)
 ·
  try have hox := hon _ (getD_mem (l := on) (j := k) (d := default) (by omega))
  try have hol : (on.getD k default).length ≤ 1048576 := by omega
  try have htx : ∀ a ∈ t, a.length ≤ (on.getD k default).length := fun a ha => by (have := ht a ha; omega)
  try have hnil := unc_nil_of hp0.2 (by omega)
  try have hm0 := ns_end hns hnil
  try have hfb : p.2 = true → p.1.length = t.length := fun h => by (have := hb.len h; omega)
  refine T_skip (T_seq (T_block (T_seq (T_region hc (Ch.s (.d (.ref (.str (on.getD k default)))) (.pure (.idx _ _ _ 9 (k) rfl Try.underlying22 sz9 rfl rfl rfl get_mapA)) (Ch.s (.d (.str (on.getD k default))) (.pure (.loadRef1 _ _ rfl ag9 rfl rfl)) (Ch.s (.d (.str (on.getD k default))) pa ?_)))))))
  refine Ch.nil (T_seq (T_seq (T_region hc (Ch.s (.row 2) pm (Ch.s (.d (.str (on.getD k default))) pm (Ch.s (.d (.bool (inB t (on.getD k default)))) (.call 21000 32 _ _ _ en32 rfl (.inl rfl) (.cons (.lend (.row rfl (frozs_map (fun _ => rfl) _))) (.cons (.d _) .nil)) rfl rfl (sp_spec_l13In t (on.getD k default) a8 a8 a8) (.skip _ _ (.skip _ _ .nil)) rfl) (Ch.nil ?_)))))))
  refine T_cond (b := (inB t (on.getD k default))) rfl (fun h2 => ?_) (fun h2 => ?_)
  ·
   try have huh := unc_head hp0.2 (by omega) (by assumption)
   refine T_exit (T_region hc (Ch.s (.d (.int .i64 ((k : Int) + 1))) (iX rfl rfl intV_addA) (Ch.s (.d (.int .i64 ((k : Int) + 1))) pm (Ch.nil ?_))))
   exact nx (k + 1) ⟨by omega, upto_succ hp0.2 (by assumption)⟩ (Wk.of rfl rfl (ai rfl (ai rfl (ai rfl (ai rfl (ai rfl (ai (vI a50) trivial)))))) (ai rfl (ai rfl (ai rfl (ai rfl (ai rfl trivial))))))
  ·
   try have huh := unc_head hp0.2 (by omega) (by assumption)
   refine T_skip (T_seq (T_seq (T_region hc (Ch.s (.ptr 1 0) pm (Ch.s (.ptr 1 0) (.pure (.nilPtr _ rfl rfl)) (Ch.s (.ptr 1 0) (.pure (.fldPtr _ _ _ rfl fld33_0 rfl)) (Ch.s (.d (.hole u)) (.pure (.loadPtr1 _ _ rfl ag22 rfl rfl rfl)) ?_)))))))
   refine Ch.see 25 900001 rfl rfl rfl ?_
   refine Ch.s (.d (.int .i64 (pr.length : Int))) (.pure (.len _ _ 9 rfl Try.underlying22 (.sh _ _) (by simp))) (Ch.s (.d (.int .i64 0)) pm (Ch.nil (T_block ?_)))
   refine T_loop (ι := Nat) (fun e => { n := 57, sl := [(0, (.ptr 1 0)), (1, (.row 2)), (2, (.d (.int .i64 z))), (7, (.d (.str (on.getD k default)))), (25, (.d (.slice false 1 (pr.map D.str)))), (26, (.d (.int .i64 (pr.length : Int)))), (27, (.d (.int .i64 (e : Int))))], hp := [(1, (some (.box [(.d (.hole u)), (.d (.hole v)), (.row 7700), (.d (.bool ((srT pr on m t p e).2)))]))), (2, (some (.row 1 (t.map D.str)))), (7700, (some (.row 1 (((srT pr on m t p e).1).map D.str)))), (900001, (some (.ghost (.slice false 1 (pr.map D.str)) u))), (900002, (some (.ghost (.slice false 1 (on.map D.str)) v)))], pin := [1, 2] }) (fun e => e ≤ pr.length) (fun e => pr.length - e) ⟨0, (by omega), (Wk.ren [(7700, 8000010)] rfl rfl rfl rfl (ai rfl (ai rfl (ai rfl (ai rfl (ai rfl (ai rfl (ai (vI a50) trivial))))))) (ai (oB (Eq.trans (b := [(.d (.hole u)), (.d (.hole v)), (.row 8000010), (.d (.bool (p.2)))]) rfl a1)) (ai rfl (ai (oR a4) (ai rfl (ai rfl trivial))))))⟩ (fun e hp1 => ?_)
   have hpk := srT_ok (N := 7) (on := on) (m := m) hpr (by omega) ht hp e hp1; have hbk := srT_bok hN hns hb e
   refine T_seq (T_region hc (Ch.s (.d (.bool (decide ((e : Int) < (pr.length : Int))))) (iX rfl rfl rfl) (Ch.nil (T_seq ?_))))
   refine T_condD (p := ((e : Int) < (pr.length : Int))) rfl (fun h3 => ?_) (fun h3 => ?_)
   ·
    try have hqe := hpr _ (getD_mem (l := pr) (j := e) (d := default) (by omega))
    try have hql : (pr.getD e default).length ≤ 1048576 := by omega
    refine T_skip (T_seq (T_block (T_seq (T_region hc (Ch.s (.d (.ref (.str (pr.getD e default)))) (.pure (.idx _ _ _ 9 (e) rfl Try.underlying22 sz9 rfl rfl rfl get_mapA)) (Ch.s (.d (.str (pr.getD e default))) (.pure (.loadRef1 _ _ rfl ag9 rfl rfl)) (Ch.s (.d (.str (pr.getD e default))) pa ?_)))))))
    refine Ch.nil (T_seq (T_region hc (Ch.s (.d (.int .i64 z)) pm (Ch.s (.d (.bool (decide (0 < z)))) (iX rfl rfl rfl) (Ch.s (.d (.bool (decide (0 < z)))) pm ?_)))))
    cases h4 : (decide (0 < z)) with
    | true =>
     replace h4 := of_decide_eq_true h4
     try have hqe := hpr _ (getD_mem (l := pr) (j := e) (d := default) (by omega))
     try have hql : (pr.getD e default).length ≤ 1048576 := by omega
     refine Ch.s (.d (.str (pr.getD e default))) pm (Ch.s (.d (.str (on.getD k default))) pm (Ch.s (.d (.bool (hasB (pr.getD e default) (on.getD k default)))) (.call 36000 33 _ _ _ en33 rfl (.inl rfl) (.cons (.d _) (.cons (.d _) .nil)) rfl rfl (sp_spec_l13Has (pr.getD e default) (on.getD k default) a8 a8) (.skip _ _ (.skip _ _ .nil)) rfl) (Ch.s (.d (.bool (hasB (pr.getD e default) (on.getD k default)))) (.pure (.pickT _ _ _ rfl rfl rfl)) (Ch.nil ?_))))
     refine T_cond (b := (hasB (pr.getD e default) (on.getD k default))) rfl (fun h5 => ?_) (fun h5 => ?_)
     ·
      refine T_region hc (Ch.s (.ptr 1 0) pm (Ch.s (.row 2) pm (Ch.s (.d (.str (pr.getD e default))) pm ?_)))
      refine Ch.step (v := (.row 41000)) rfl (.call 41000 34 _ _ _ en34 rfl (.inl rfl) (.cons (.lend (.row rfl (frozs_map (fun _ => rfl) _))) (.cons (.d _) .nil)) rfl (sol (solid_row (fun _ => rfl) _) rfl) (sp_spec_l14Put t (pr.getD e default) a17) (.skip _ _ (.skip _ _ .nil)) rfl) rfl rfl ?_
      refine Ch.s (.d (.int .i64 z)) pm (Ch.s (.d (.int .i64 (z - 1))) (iX rfl rfl intV_subA) ?_)
      refine Ch.step (v := (.tup [])) rfl (.callG (ms := [900001, 900002]) 44000 18 _ _ _ en18 rfl (.inl rfl) (.cons (.box rfl (.cons (.d _) (.cons (.d _) (.cons (.row rfl) (.cons (.d _) .nil)))) rfl) (.cons (.row rfl) (.cons (.d _) .nil))) rfl (sol rfl (solids_c a35 rfl)) (ih (m - 1) (z - 1) (put14 t (pr.getD e default)) (srT pr on m t p e) (by omega) (by omega) (put14_all ht (hpr _ (getD_mem (by omega)))) (by rw [put14_len]; omega) (ns_at (by omega) hns (getD_mem (by omega)) huh.1 (by assumption)) hpk hbk) ⟨rfl, ⟨rfl, trivial⟩⟩ (.box _ _ (.skip _ _ (.skip _ _ .nil))) rfl) rfl rfl ?_
      refine Ch.opens 1 8000020 rfl rfl rfl ?_
      refine Ch.nil (T_region hc (Ch.s (.d (.int .i64 ((e : Int) + 1))) (iX rfl rfl intV_addA) (Ch.s (.d (.int .i64 ((e : Int) + 1))) pm (Ch.nil ?_))))
      exact nx (e + 1) (by omega) (Wk.ren [(7700, 8000020)] rfl rfl rfl rfl (ai rfl (ai rfl (ai rfl (ai rfl (ai rfl (ai rfl (ai (vI a50) trivial))))))) (ai (oB (Eq.trans (b := [(.d (.hole u)), (.d (.hole v)), (.row 8000020), (.d (.bool ((srF pr on (m - 1) (put14 t (pr.getD e default)) (srT pr on m t p e)).2)))]) rfl a1)) (ai rfl (ai (oR a4) (ai rfl (ai rfl trivial))))))
     ·
      refine T_skip (T_region hc (Ch.s (.d (.int .i64 ((e : Int) + 1))) (iX rfl rfl intV_addA) (Ch.s (.d (.int .i64 ((e : Int) + 1))) pm (Ch.nil ?_))))
      exact nx (e + 1) (by omega) (Wk.of rfl rfl (ai rfl (ai rfl (ai rfl (ai rfl (ai rfl (ai rfl (ai (vI a50) trivial))))))) (ai (oB (Eq.trans (b := [(.d (.hole u)), (.d (.hole v)), (.row 7700), (.d (.bool ((srT pr on m t p e).2)))]) rfl a1)) (ai rfl (ai (oR a4) (ai rfl (ai rfl trivial))))))
    | false =>
     replace h4 := of_decide_eq_false h4
     try have hqe := hpr _ (getD_mem (l := pr) (j := e) (d := default) (by omega))
     try have hql : (pr.getD e default).length ≤ 1048576 := by omega
     refine Ch.skip rfl rfl (Ch.skip rfl rfl (Ch.skip rfl rfl (Ch.s (.d (.bool false)) (.pure (.pickF _ _ _ rfl rfl rfl)) (Ch.nil ?_))))
     refine T_cond (b := false) rfl (fun h => nomatch h) (fun _ => ?_)
     refine T_skip (T_region hc (Ch.s (.d (.int .i64 ((e : Int) + 1))) (iX rfl rfl intV_addA) (Ch.s (.d (.int .i64 ((e : Int) + 1))) pm (Ch.nil ?_))))
     exact nx (e + 1) (by omega) (Wk.of rfl rfl (ai rfl (ai rfl (ai rfl (ai rfl (ai rfl (ai rfl (ai (vI a50) trivial))))))) (ai (oB (Eq.trans (b := [(.d (.hole u)), (.d (.hole v)), (.row 7700), (.d (.bool ((srT pr on m t p e).2)))]) rfl a1)) (ai rfl (ai (oR a4) (ai rfl (ai rfl trivial))))))
   ·
    try have hqe := hpr _ (getD_mem (l := pr) (j := e) (d := default) (by omega))
    try have hql : (pr.getD e default).length ≤ 1048576 := by omega
    refine T_exit (T_ret ?_)
    exact endR [] [1, 7700] [] .nil (.cons (.box rfl (.cons (.d _) (.cons (.d _) (.cons (Exp.of (congrArg (D.slice true 1) a14) (.row rfl)) (.cons (Exp.of (congrArg D.bool a14) (.d _)) .nil)))) rfl) (.cons (.any _) (.cons (.any _) .nil))) (.tup .nil) rfl rfl
 ·
  try have hox := hon _ (getD_mem (l := on) (j := k) (d := default) (by omega))
  try have hol : (on.getD k default).length ≤ 1048576 := by omega
  try have htx : ∀ a ∈ t, a.length ≤ (on.getD k default).length := fun a ha => by (have := ht a ha; omega)
  try have hnil := unc_nil_of hp0.2 (by omega)
  try have hm0 := ns_end hns hnil
  try have hfb : p.2 = true → p.1.length = t.length := fun h => by (have := hb.len h; omega)
  refine T_exit (T_seq (T_region hc (Ch.s (.ptr 1 0) pm (Ch.s (.row 2) pm ?_))))
  refine Ch.step (v := (.d (.bool (betB t (p.1, (p.2)))))) rfl (.call 49000 35 _ _ _ en35 rfl (.inl rfl) (.cons (.box rfl (.cons (.d _) (.cons (.d _) (.cons (.row rfl) (.cons (.d _) .nil)))) rfl) (.cons (.lend (.row rfl (frozs_map (fun _ => rfl) _))) .nil)) rfl (sol rfl (solids_c a35 rfl)) (sp_better u v p.1 t (p.2) (by assumption) (by assumption) (by assumption)) (.box _ _ (.skip _ _ .nil)) rfl) rfl rfl ?_
  refine Ch.opens 1 8000030 rfl rfl rfl ?_
  refine Ch.nil ?_
  refine T_cond (b := (betB t (p.1, (p.2)))) rfl (fun h6 => ?_) (fun h6 => ?_)
  ·
   refine T_seq (T_region hc (Ch.s (.ptr 1 0) pm (Ch.s (.row 2) pm (Ch.s (.ptr 1 0) (.pure (.nilPtr _ rfl rfl)) (Ch.s (.ptr 1 2) (.pure (.fldPtr _ _ _ rfl fld33_2 rfl)) (Ch.s .junk (.storePtr _ _ _ rfl rfl rfl (.one _ rfl) sz22 (lb rfl)) (Ch.nil ?_)))))))
   refine T_region hc (Ch.s (.ptr 1 0) pm (Ch.s (.ptr 1 0) (.pure (.nilPtr _ rfl rfl)) (Ch.s (.ptr 1 3) (.pure (.fldPtr _ _ _ rfl fld33_3 rfl)) (Ch.s .junk (.storePtr _ _ _ rfl rfl rfl (.one _ rfl) sz4 (lb rfl)) (Ch.nil ?_)))))
   exact endN [] [1, 2] [] .nil (.cons (.box rfl (.cons (.d _) (.cons (.d _) (.cons (Exp.of (congrArg (D.slice true 1) a14) (.row rfl)) (.cons (Exp.of (congrArg D.bool a14) (.d _)) .nil)))) rfl) (.cons (.any _) (.cons (.any _) .nil))) (.tup .nil) rfl rfl
  ·
   refine T_skip ?_
   exact endN [] [1, 8000030] [] .nil (.cons (.box rfl (.cons (.d _) (.cons (.d _) (.cons (Exp.of (congrArg (D.slice true 1) a14) (.row rfl)) (.cons (Exp.of (congrArg D.bool a14) (.d _)) .nil)))) rfl) (.cons (.any _) (.cons (.any _) .nil))) (.tup .nil) rfl rfl

theorem sp_search (u v : Value) (pr on : List (List UInt8)) (n N : Nat) (hn8 : n ≤ 8) (hpr : ∀ q ∈ pr, q.length = n) (hprl : pr.length ≤ 1048576) (hon : ∀ c ∈ on, c.length = n) (honl : on.length ≤ 1048576) (hN7 : N ≤ 7) : ∀ (m : Nat) (z : Int) (t : List (List UInt8)) (p : (List (List UInt8) × Bool)), z = (m : Int) → (∀ q ∈ t, q.length = n) → t.length + m = N → noShort pr on m t → POk n 7 p → BOk N p → SpQ (fun S w _ => DRs S w [.slice false 1 (pr.map D.str), .slice false 1 (on.map D.str)] [u, v] []) Try.prog 18 [(.box [(.hole u), (.hole v), (.slice true 1 (p.1.map D.str)), (.bool (p.2))]), .slice true 1 (t.map D.str), .int .i64 z] [(.box [(.hole u), (.hole v), (.slice true 1 (((srF pr on m t p).1).map D.str)), (.bool ((srF pr on m t p).2))]), .any, .any] (.tup []) := by
 intro m
 induction m with
 | zero => intro z t p hz a b c d e; exact sp_search_step u v pr on n N 0 z t p hz hn8 hpr hprl hon honl hN7 a b c d e (fun j _ _ _ h => by omega)
 | succ m ih =>
  intro z t p hz a b c d e
  exact sp_search_step u v pr on n N (m + 1) z t p hz hn8 hpr hprl hon honl hN7 a b c d e (fun j z2 t2 p2 h hz2 a2 b2 c2 d2 e2 => by
   have e1 : j = m := by omega
   subst e1
   exact ih z2 t2 p2 hz2 a2 b2 c2 d2 e2)

set_option maxHeartbeats 1000000 in
theorem sp_spec_l14Least (n : Int) (on off : List (List UInt8)) (h0 : 0 ≤ n) (h8 : n ≤ 8) (hn1 : on.length ≤ 1048576) (hn2 : off.length ≤ 1048576) (ho1 : ∀ u ∈ on, (u.length : Int) = n) (ho2 : ∀ u ∈ off, (u.length : Int) = n) : Sp Try.prog 12 [(.int .i64 n), (.slice false 1 (on.map D.str)), (.slice false 1 (off.map D.str))] [.any, .any, .any] (.tup [(.slice true 1 (((minF (primL n.toNat on off) on).1).map D.str)), (.bool ((minF (primL n.toNat on off) on).2))]) := by
 refine Sp_intro (lend := true) Try.func12 rfl rfl rfl (fun _ => rfl) (fun c hc hX => ?_)
 have hon : ∀ c ∈ on, c.length = n.toNat := fun c hc => (by have := ho1 c hc; omega)
 have hpl := primL_le n.toNat on off
 have hp3 : 3 ^ n.toNat ≤ 3 ^ 8 := Nat.pow_le_pow_right (by omega) (by omega)
 have hpl2 : (primL n.toNat on off).length ≤ 1048576 := (by omega)
 have hp7 : POk n.toNat 7 ([], false) := ⟨by simp, fun q hq => by cases hq⟩
 refine T_seq (T_region hc (Ch.s (.c (.slice none 0 0)) pa (Ch.s (.d (.bool false)) pa (Ch.nil (T_seq (T_seq (T_region hc ?_)))))))
 refine Ch.s (.d (.int .i64 0)) pa (Ch.nil (T_block ?_))
 refine T_loop (ι := Nat) (fun m => { n := 32, sl := [(0, (.d (.int .i64 n))), (1, (.d (.slice false 1 (on.map D.str)))), (2, (.d (.slice false 1 (off.map D.str)))), (8, (.d (.int .i64 (m : Int))))], hp := [], pin := [] }) (fun m => m ≤ 7 ∧ ∀ j, j < m → (rndS (primL n.toNat on off) on j).2 = false) (fun m => 7 - m) ⟨0, ⟨by omega, fun j hj => by omega⟩, (Wk.of rfl rfl (ai rfl (ai rfl (ai rfl (ai (vI a50) trivial)))) trivial)⟩ (fun m hp0 => ?_)
 refine T_seq (T_seq (T_region hc (Ch.s (.d (.int .i64 (m : Int))) pm (Ch.s (.d (.bool (decide ((m : Int) ≤ 6)))) (iX rfl rfl rfl) (Ch.nil ?_)))))
 refine T_condD (p := ((m : Int) ≤ 6)) rfl (fun h1 => ?_) (fun h1 => ?_)
 ·
  refine T_skip (T_seq (T_block (T_seq (T_region hc (Ch.s (.d (.int .i64 n)) pm (Ch.s (.d (.slice false 1 (on.map D.str))) pm (Ch.s (.d (.slice false 1 (off.map D.str))) pm ?_)))))))
  refine Ch.s (.d (.slice false 1 ((primL n.toNat on off).map D.str))) (.callFz 17000 17 _ _ _ en17 rfl (.inl rfl) (.cons (.d _) (.cons (.d _) (.cons (.d _) .nil))) (solid_row (fun _ => rfl) _) (sp_spec_l14Primes n on off (by assumption) (by assumption) (by assumption) (by assumption) (by assumption) (by assumption)) (slice_froz (frozs_map (fun _ => rfl) _)) rfl) (Ch.s (.d (.slice false 1 (on.map D.str))) pm ?_)
  refine ch_name 17 900101 rfl rfl rfl rfl (fun g1 => ?_)
  refine ch_name 18 900102 rfl rfl rfl rfl (fun g2 => ?_)
  refine Ch.s (.agg [(.d (.hole g1)), (.d (.hole g2)), (.c (.slice none 0 0)), (.d (.bool false))]) (.build _ _ rfl stru33 (.cons (.one _ rfl) (.cons (.one _ rfl) .nil)) rfl) (Ch.s (.ptr 20000 0) (.box 20000 _ _ rfl (.agg _ rfl)) (Ch.s (.ptr 20000 0) pa (Ch.nil (T_seq (T_region hc (Ch.s (.ptr 20000 0) pm (Ch.s (.d (.int .i64 (m : Int))) pm ?_)))))))
  refine Ch.step (v := (.tup [])) rfl (.callG (ms := [900101, 900102]) 23000 18 _ _ _ en18 rfl (.inl rfl) (.cons (.box rfl (.cons (.d _) (.cons (.d _) (.cons (.nil true 1) (.cons (.d _) .nil)))) rfl) (.cons (.nil true 1) (.cons (.d _) .nil))) rfl (sol rfl (solids_c a35 rfl)) (sp_search g1 g2 (primL n.toNat on off) on n.toNat m (by omega) primL_mem hpl2 hon (by assumption) (by omega) m (m : Int) [] ([], false) rfl (fun q hq => by cases hq) (by simp) (ns_of hp0.2) hp7 ⟨fun e => by cases e⟩) ⟨rfl, ⟨rfl, trivial⟩⟩ (.box _ _ (.skip _ _ (.skip _ _ .nil))) rfl) rfl rfl ?_
  refine Ch.opens 20000 8000010 rfl rfl rfl ?_
  refine Ch.nil (T_seq (T_region hc (Ch.s (.ptr 20000 0) pm (Ch.s (.ptr 20000 0) (.pure (.nilPtr _ rfl rfl)) (Ch.s (.ptr 20000 3) (.pure (.fldPtr _ _ _ rfl fld33_3 rfl)) (Ch.s (.d (.bool ((rndS (primL n.toNat on off) on m).2))) (.pure (.loadPtr1 _ _ rfl ag4 rfl rfl rfl)) (Ch.nil ?_)))))))
  refine T_cond (b := ((rndS (primL n.toNat on off) on m).2)) rfl (fun h2 => ?_) (fun h2 => ?_)
  ·
   refine T_seq (T_region hc (Ch.s (.ptr 20000 0) pm (Ch.s (.ptr 20000 0) (.pure (.nilPtr _ rfl rfl)) (Ch.s (.ptr 20000 2) (.pure (.fldPtr _ _ _ rfl fld33_2 rfl)) (Ch.s (.row 8000010) (.pure (.loadPtr1 _ _ rfl ag22 rfl rfl rfl)) (Ch.s (.row 8000010) pa (Ch.s (.d (.bool true)) pa ?_)))))))
   refine Ch.nil (T_ret ?_)
   exact endR [(.row 8000010), (.d (.bool true))] [] [8000010] (.cons (.tmp 6 rfl) (.cons (.tmp 7 rfl) .nil)) (.cons (.any _) (.cons (.any _) (.cons (.any _) .nil))) (.tup (.cons (Exp.of (congrArg (D.slice true 1) a23) (.row rfl)) (.cons (Exp.of (congrArg D.bool a23) (.d _)) .nil))) rfl rfl
  ·
   refine T_skip (T_region hc (Ch.s (.d (.int .i64 (m : Int))) pm (Ch.s (.d (.int .i64 ((m : Int) + 1))) (iX rfl rfl intV_addA) (Ch.s (.d (.int .i64 ((m : Int) + 1))) pa (Ch.nil ?_)))))
   exact nx (m + 1) ⟨by omega, upto_succ hp0.2 (by assumption)⟩ (Wk.of rfl rfl (ai rfl (ai rfl (ai rfl (ai (vI a50) trivial)))) trivial)
 ·
  refine T_exit (T_seq (T_region hc (Ch.s (.c (.slice none 0 0)) pa (Ch.s (.d (.bool false)) pa (Ch.nil (T_ret ?_))))))
  exact endR [(.c (.slice none 0 0)), (.d (.bool false))] [] [] (.cons (.tmp 6 rfl) (.cons (.tmp 7 rfl) .nil)) (.cons (.any _) (.cons (.any _) (.cons (.any _) .nil))) (.tup (.cons (Exp.of (congrArg (D.slice true 1) a23) (.nil true 1)) (.cons (Exp.of (congrArg D.bool a23) (.d _)) .nil))) rfl rfl

theorem sp_impl_MinimumCover (n : Int) (on off : List (List UInt8)) (hn1 : on.length ≤ 1048576) (hx1 : ∀ x ∈ on, x.length ≤ 1048576) (hn2 : off.length ≤ 1048576) (hx2 : ∀ x ∈ off, x.length ≤ 1048576) : Sp Try.prog 7 [(.int .i64 n), (.slice false 1 (on.map D.str)), (.slice false 1 (off.map D.str))] [.any, .any, .any] (.tup [(.slice true 1 (((mcvF n on off).1).map D.str)), (.bool ((mcvF n on off).2))]) := by
 refine Sp_intro (lend := true) Try.func7 rfl rfl rfl (fun _ => rfl) (fun c hc hX => ?_)
 refine T_seq (T_region hc (Ch.s (.c (.slice none 0 0)) pa (Ch.s (.d (.bool false)) pa (Ch.nil (T_seq (T_seq (T_region hc ?_)))))))
 refine Ch.s (.d (.int .i64 n)) pm (Ch.s (.d (.slice false 1 (on.map D.str))) pm (Ch.s (.d (.slice false 1 (off.map D.str))) pm (Ch.s (.d (.bool (onoffB n on off))) (.call 11000 13 _ _ _ en13 rfl (.inl rfl) (.cons (.d _) (.cons (.d _) (.cons (.d _) .nil))) rfl rfl (sp_impl_IsValidOnOff n on off a8 a8 a8 a8) (.skip _ _ (.skip _ _ (.skip _ _ .nil))) rfl) (Ch.s (.d (.bool (!(onoffB n on off)))) (.pure (.not _ _ rfl rfl)) (Ch.nil ?_)))))
 refine T_condN (b := (onoffB n on off)) rfl (fun h1 => ?_) (fun h1 => ?_)
 ·
  try have hop := onoff_parts (by first | assumption | exact primOk_on (by assumption) : onoffB n on off = true)
  try have h0 : 0 ≤ n := by (have := hop.1; omega)
  try have h8 : n ≤ 8 := by (have := hop.1.2; omega)
  try have ho1 := hop.2.2.2.1
  try have ho2 := hop.2.2.2.2
  refine T_seq (T_region hc (Ch.s (.c (.slice none 0 0)) pa (Ch.s (.d (.bool false)) pa (Ch.nil (T_ret ?_)))))
  exact endR [(.c (.slice none 0 0)), (.d (.bool false))] [] [] (.cons (.tmp 6 rfl) (.cons (.tmp 7 rfl) .nil)) (.cons (.any _) (.cons (.any _) (.cons (.any _) .nil))) (.tup (.cons (Exp.of (congrArg (D.slice true 1) a13) (.nil true 1)) (.cons (Exp.of (congrArg D.bool a13) (.d _)) .nil))) rfl rfl
 ·
  try have hop := onoff_parts (by first | assumption | exact primOk_on (by assumption) : onoffB n on off = true)
  try have h0 : 0 ≤ n := by (have := hop.1; omega)
  try have h8 : n ≤ 8 := by (have := hop.1.2; omega)
  try have ho1 := hop.2.2.2.1
  try have ho2 := hop.2.2.2.2
  refine T_skip (T_seq (T_region hc (Ch.s (.d (.int .i64 n)) pm (Ch.s (.d (.slice false 1 (on.map D.str))) pm (Ch.s (.d (.slice false 1 (off.map D.str))) pm ?_)))))
  refine Ch.step (v := (.tup [(.row 16000), (.d (.bool ((minI n.toNat on off).2)))])) rfl (.call 16000 14 _ _ _ en14 rfl (.inl rfl) (.cons (.d _) (.cons (.d _) (.cons (.d _) .nil))) rfl (sol a46 rfl) (sp_impl_minimum n on off a53 a53 a53 a53 a53 a53) (.skip _ _ (.skip _ _ (.skip _ _ .nil))) rfl) rfl rfl ?_
  refine Ch.s (.row 16000) (.pure (.extract _ rfl rfl rfl)) (Ch.s (.d (.bool ((minI n.toNat on off).2))) (.pure (.extract _ rfl rfl rfl)) (Ch.s (.row 16000) pa (Ch.s (.d (.bool ((minI n.toNat on off).2))) pa (Ch.nil (T_ret ?_)))))
  exact endR [(.row 16000), (.d (.bool ((minI n.toNat on off).2)))] [] [16000] (.cons (.tmp 6 rfl) (.cons (.tmp 7 rfl) .nil)) (.cons (.any _) (.cons (.any _) (.cons (.any _) .nil))) (.tup (.cons (Exp.of (congrArg (D.slice true 1) a13) (.row rfl)) (.cons (Exp.of (congrArg D.bool a13) (.d _)) .nil))) rfl rfl

theorem sp_spec_MinimumCover (n : Int) (on off : List (List UInt8)) (hn1 : on.length ≤ 1048576) (hx1 : ∀ x ∈ on, x.length ≤ 1048576) (hn2 : off.length ≤ 1048576) (hx2 : ∀ x ∈ off, x.length ≤ 1048576) : Sp Try.prog 5 [(.int .i64 n), (.slice false 1 (on.map D.str)), (.slice false 1 (off.map D.str))] [.any, .any, .any] (.tup [(.slice true 1 (((mcvF n on off).1).map D.str)), (.bool ((mcvF n on off).2))]) := by
 refine Sp_intro (lend := true) Try.func5 rfl rfl rfl (fun _ => rfl) (fun c hc hX => ?_)
 refine T_seq (T_region hc (Ch.s (.c (.slice none 0 0)) pa (Ch.s (.d (.bool false)) pa (Ch.nil (T_seq (T_seq (T_region hc ?_)))))))
 refine Ch.s (.d (.int .i64 n)) pm (Ch.s (.d (.slice false 1 (on.map D.str))) pm (Ch.s (.d (.slice false 1 (off.map D.str))) pm ?_))
 refine Ch.step (v := (.tup [(.row 14000), (.d (.bool (primOk n on off)))])) rfl (.call 14000 11 _ _ _ en11 rfl (.inl rfl) (.cons (.d _) (.cons (.d _) (.cons (.d _) .nil))) rfl (sol a46 rfl) (sp_spec_Primes n on off a8 a8 a8 a8) (.skip _ _ (.skip _ _ (.skip _ _ .nil))) rfl) rfl rfl ?_
 refine Ch.s (.tup [(.row 14000), (.d (.bool (primOk n on off)))]) pm (Ch.s (.row 14000) (.pure (.extract _ rfl rfl rfl)) (Ch.s (.d (.bool (primOk n on off))) (.pure (.extract _ rfl rfl rfl)) (Ch.s (.row 14000) pa (Ch.s (.d (.bool (primOk n on off))) pa (Ch.nil (T_seq (T_region hc ?_)))))))
 refine Ch.s (.d (.bool (primOk n on off))) pm (Ch.s (.d (.bool (!(primOk n on off)))) (.pure (.not _ _ rfl rfl)) (Ch.nil ?_))
 refine T_condN (b := (primOk n on off)) rfl (fun h1 => ?_) (fun h1 => ?_)
 ·
  try have hop := onoff_parts (by first | assumption | exact primOk_on (by assumption) : onoffB n on off = true)
  try have h0 : 0 ≤ n := by (have := hop.1; omega)
  try have h8 : n ≤ 8 := by (have := hop.1.2; omega)
  try have ho1 := hop.2.2.2.1
  try have ho2 := hop.2.2.2.2
  refine T_seq (T_region hc (Ch.s (.c (.slice none 0 0)) pa (Ch.s (.d (.bool false)) pa (Ch.nil (T_ret ?_)))))
  exact endR [(.c (.slice none 0 0)), (.d (.bool false))] [] [] (.cons (.tmp 6 rfl) (.cons (.tmp 7 rfl) .nil)) (.cons (.any _) (.cons (.any _) (.cons (.any _) .nil))) (.tup (.cons (Exp.of (congrArg (D.slice true 1) a13) (.nil true 1)) (.cons (Exp.of (congrArg D.bool a13) (.d _)) .nil))) rfl rfl
 ·
  try have hop := onoff_parts (by first | assumption | exact primOk_on (by assumption) : onoffB n on off = true)
  try have h0 : 0 ≤ n := by (have := hop.1; omega)
  try have h8 : n ≤ 8 := by (have := hop.1.2; omega)
  try have ho1 := hop.2.2.2.1
  try have ho2 := hop.2.2.2.2
  refine T_skip (T_seq (T_region hc (Ch.s (.d (.int .i64 n)) pm (Ch.s (.d (.slice false 1 (on.map D.str))) pm (Ch.s (.d (.slice false 1 (off.map D.str))) pm ?_)))))
  refine Ch.step (v := (.tup [(.row 22000), (.d (.bool ((minF (primL n.toNat on off) on).2)))])) rfl (.call 22000 12 _ _ _ en12 rfl (.inl rfl) (.cons (.d _) (.cons (.d _) (.cons (.d _) .nil))) rfl (sol a46 rfl) (sp_spec_l14Least n on off a53 a53 a53 a53 a53 a53) (.skip _ _ (.skip _ _ (.skip _ _ .nil))) rfl) rfl rfl ?_
  refine Ch.s (.row 22000) (.pure (.extract _ rfl rfl rfl)) (Ch.s (.d (.bool ((minF (primL n.toNat on off) on).2))) (.pure (.extract _ rfl rfl rfl)) (Ch.s (.row 22000) pa (Ch.s (.d (.bool ((minF (primL n.toNat on off) on).2))) pa (Ch.nil (T_ret ?_)))))
  exact endR [(.row 22000), (.d (.bool ((minF (primL n.toNat on off) on).2)))] [] [22000] (.cons (.tmp 6 rfl) (.cons (.tmp 7 rfl) .nil)) (.cons (.any _) (.cons (.any _) (.cons (.any _) .nil))) (.tup (.cons (Exp.of (congrArg (D.slice true 1) a13) (.row rfl)) (.cons (Exp.of (congrArg D.bool a13) (.d _)) .nil))) rfl rfl

theorem sp_laws_FnExactMinimumCover (n : Int) (on off : List (List UInt8)) (hn1 : on.length ≤ 9223372036854775807) (hx1 : ∀ x ∈ on, x.length ≤ 9223372036854775807) (hn2 : off.length ≤ 9223372036854775807) (hx2 : ∀ x ∈ off, x.length ≤ 9223372036854775807) : Sp Try.prog 3 [(.int .i64 n), (.slice false 1 (on.map D.str)), (.slice false 1 (off.map D.str))] [.any, .any, .any] (.bool true) := by
 refine Sp_intro (lend := true) Try.func3 rfl rfl rfl (fun _ => rfl) (fun c hc hX => ?_)
 refine T_seq (T_region hc (Ch.s (.d (.bool false)) pa (Ch.nil (T_seq (T_region hc (Ch.s (.d (.int .i64 1048576)) pa (Ch.nil ?_)))))))
 refine T_seq (T_region hc (Ch.s (.d (.slice false 1 (on.map D.str))) pm (Ch.s (.d (.int .i64 1048576)) pm (Ch.s (.d (.int .i64 (szS on 1048576))) (.call 21000 4 _ _ _ en4 rfl (.inl rfl) (.cons (.d _) (.cons (.d _) .nil)) rfl rfl (sp_laws_szStringS on 1048576 a8 a8 a8 a8) (.skip _ _ (.skip _ _ .nil)) rfl) (Ch.s (.d (.int .i64 (szS on 1048576))) pa (Ch.nil (T_seq ?_)))))))
 refine T_seq (T_region hc (Ch.s (.d (.int .i64 (szS on 1048576))) pm (Ch.s (.d (.bool (decide ((szS on 1048576) < 0)))) (iX rfl rfl rfl) (Ch.nil ?_))))
 refine T_condD (p := ((szS on 1048576) < 0)) rfl (fun h1 => ?_) (fun h1 => ?_)
 ·
  try have hb1 := szS_ok (xs := on) h1
  try have hc1 : bulkS on ≤ 1048576 := by omega
  try replace hn1 := bulk_len hc1
  try replace hx1 := bulk_mem hc1
  try have hz1 := szS_val hb1
  try have hz1a : 0 ≤ szS on _ := Int.not_lt.1 h1
  try have hz1b : szS on _ ≤ 1048576 := by (rw [hz1]; omega)
  refine T_seq (T_region hc (Ch.s (.d (.bool true)) pa (Ch.nil (T_ret ?_))))
  exact endR [(.d (.bool true))] [] [] (.cons (.tmp 6 rfl) .nil) (.cons (.any _) (.cons (.any _) (.cons (.any _) .nil))) (.d _) rfl rfl
 ·
  try have hb1 := szS_ok (xs := on) h1
  try have hc1 : bulkS on ≤ 1048576 := by omega
  try replace hn1 := bulk_len hc1
  try replace hx1 := bulk_mem hc1
  try have hz1 := szS_val hb1
  try have hz1a : 0 ≤ szS on _ := Int.not_lt.1 h1
  try have hz1b : szS on _ ≤ 1048576 := by (rw [hz1]; omega)
  refine T_skip (T_seq (T_region hc (Ch.s (.d (.slice false 1 (off.map D.str))) pm (Ch.s (.d (.int .i64 (szS on 1048576))) pm (Ch.s (.d (.int .i64 (szS off (szS on 1048576)))) (.call 26000 4 _ _ _ en4 rfl (.inl rfl) (.cons (.d _) (.cons (.d _) .nil)) rfl rfl (sp_laws_szStringS off (szS on 1048576) a8 a8 a8 a8) (.skip _ _ (.skip _ _ .nil)) rfl) (Ch.s (.d (.int .i64 (szS off (szS on 1048576)))) pa (Ch.nil ?_)))))))
  refine T_seq (T_seq (T_region hc (Ch.s (.d (.int .i64 (szS off (szS on 1048576)))) pm (Ch.s (.d (.bool (decide ((szS off (szS on 1048576)) < 0)))) (iX rfl rfl rfl) (Ch.nil ?_)))))
  refine T_condD (p := ((szS off (szS on 1048576)) < 0)) rfl (fun h2 => ?_) (fun h2 => ?_)
  ·
   try have hb2 := szS_ok (xs := off) h2
   try have hc2 : bulkS off ≤ 1048576 := by omega
   try replace hn2 := bulk_len hc2
   try replace hx2 := bulk_mem hc2
   try have hz2 := szS_val hb2
   try have hz2a : 0 ≤ szS off _ := Int.not_lt.1 h2
   try have hz2b : szS off _ ≤ 1048576 := by (rw [hz2]; omega)
   try have hcl : (mcvF n on off).1.length ≤ 1048576 := Nat.le_trans (mcvF_len n on off) (by decide)
   try have hhm := held_marks 1 (mcvF n on off).1.length
   refine T_seq (T_region hc (Ch.s (.d (.bool true)) pa (Ch.nil (T_ret ?_))))
   exact endR [(.d (.bool true))] [] [] (.cons (.tmp 6 rfl) .nil) (.cons (.any _) (.cons (.any _) (.cons (.any _) .nil))) (.d _) rfl rfl
  ·
   try have hb2 := szS_ok (xs := off) h2
   try have hc2 : bulkS off ≤ 1048576 := by omega
   try replace hn2 := bulk_len hc2
   try replace hx2 := bulk_mem hc2
   try have hz2 := szS_val hb2
   try have hz2a : 0 ≤ szS off _ := Int.not_lt.1 h2
   try have hz2b : szS off _ ≤ 1048576 := by (rw [hz2]; omega)
   try have hcl : (mcvF n on off).1.length ≤ 1048576 := Nat.le_trans (mcvF_len n on off) (by decide)
   try have hhm := held_marks 1 (mcvF n on off).1.length
   refine T_skip (T_seq (T_region hc (Ch.s (.d (.int .i64 n)) pm (Ch.s (.d (.slice false 1 (on.map D.str))) pm ?_))))
   refine Ch.step (v := (.row 32000)) rfl (.call 32000 6 _ _ _ en6 rfl (.inl rfl) (.cons (.d _) .nil) rfl (sol (solid_row (fun _ => rfl) _) rfl) (sp_laws_toStringS on a8) (.skip _ _ .nil) rfl) rfl rfl ?_
   refine Ch.s (.d (.slice false 1 (off.map D.str))) pm ?_
   refine Ch.step (v := (.row 34000)) rfl (.call 34000 6 _ _ _ en6 rfl (.inl rfl) (.cons (.d _) .nil) rfl (sol (solid_row (fun _ => rfl) _) rfl) (sp_laws_toStringS off a8) (.skip _ _ .nil) rfl) rfl rfl ?_
   refine Ch.step (v := (.tup [(.row 35000), (.d (.bool ((mcvF n on off).2)))])) rfl (.call 35000 5 _ _ _ en5 rfl (.inl rfl) (.cons (.d _) (.cons (.lend (.row rfl (frozs_map (fun _ => rfl) _))) (.cons (.lend (.row rfl (frozs_map (fun _ => rfl) _))) .nil))) rfl (sol a46 rfl) (sp_spec_MinimumCover n on off a8 a8 a8 a8) (.skip _ _ (.skip _ _ (.skip _ _ .nil))) rfl) rfl rfl ?_
   refine Ch.s (.tup [(.row 35000), (.d (.bool ((mcvF n on off).2)))]) pm (Ch.s (.row 35000) (.pure (.extract _ rfl rfl rfl)) (Ch.s (.d (.bool ((mcvF n on off).2))) (.pure (.extract _ rfl rfl rfl)) (Ch.s (.row 35000) pa (Ch.s (.d (.bool ((mcvF n on off).2))) pa (Ch.nil (T_seq (T_region hc ?_)))))))
   refine Ch.s (.d (.slice false 1 (on.map D.str))) pm ?_
   refine Ch.step (v := (.row 39000)) rfl (.call 39000 6 _ _ _ en6 rfl (.inl rfl) (.cons (.d _) .nil) rfl (sol (solid_row (fun _ => rfl) _) rfl) (sp_laws_toStringS on a8) (.skip _ _ .nil) rfl) rfl rfl ?_
   refine Ch.s (.row 39000) pa (Ch.nil (T_seq (T_region hc (Ch.s (.d (.slice false 1 (off.map D.str))) pm ?_))))
   refine Ch.step (v := (.row 41000)) rfl (.call 41000 6 _ _ _ en6 rfl (.inl rfl) (.cons (.d _) .nil) rfl (sol (solid_row (fun _ => rfl) _) rfl) (sp_laws_toStringS off a8) (.skip _ _ .nil) rfl) rfl rfl ?_
   refine Ch.s (.row 41000) pa (Ch.nil (T_seq (T_region hc (Ch.s (.d (.int .i64 n)) pm (Ch.s (.row 39000) pm (Ch.s (.row 41000) pm ?_))))))
   refine Ch.step (v := (.tup [(.row 46000), (.d (.bool ((mcvF n on off).2)))])) rfl (.call 46000 7 _ _ _ en7 rfl (.inl rfl) (.cons (.d _) (.cons (.lend (.row rfl (frozs_map (fun _ => rfl) _))) (.cons (.lend (.row rfl (frozs_map (fun _ => rfl) _))) .nil))) rfl (sol a46 rfl) (sp_impl_MinimumCover n on off a8 a8 a8 a8) (.skip _ _ (.skip _ _ (.skip _ _ .nil))) rfl) rfl rfl ?_
   refine Ch.s (.tup [(.row 46000), (.d (.bool ((mcvF n on off).2)))]) pm (Ch.s (.row 46000) (.pure (.extract _ rfl rfl rfl)) (Ch.s (.d (.bool ((mcvF n on off).2))) (.pure (.extract _ rfl rfl rfl)) (Ch.s (.row 46000) pa (Ch.s (.d (.bool ((mcvF n on off).2))) pa (Ch.nil (T_seq (T_seq ?_)))))))
   refine T_region hc (Ch.s (.row 46000) pm (Ch.s (.row 35000) pm (Ch.s (.d (.bool (decide (((mcvF n on off).1) = ((mcvF n on off).1))))) (.call 51000 8 _ _ _ en8 rfl (.inl rfl) (.cons (.lend (.row rfl (frozs_map (fun _ => rfl) _))) (.cons (.lend (.row rfl (frozs_map (fun _ => rfl) _))) .nil)) rfl rfl (sp_laws_eqStringS ((mcvF n on off).1) ((mcvF n on off).1) a8) (.skip _ _ (.skip _ _ .nil)) rfl) (Ch.s (.d (.bool (!(decide (((mcvF n on off).1) = ((mcvF n on off).1)))))) (.pure (.not _ _ rfl rfl)) (Ch.s (.d (.bool (!(decide (((mcvF n on off).1) = ((mcvF n on off).1)))))) pm ?_)))))
   cases h3 : (decide (((mcvF n on off).1) = ((mcvF n on off).1))) with
   | true =>
    replace h3 := of_decide_eq_true h3
    refine Ch.s (.d (.bool ((mcvF n on off).2))) pm (Ch.s (.d (.bool ((mcvF n on off).2))) pm (Ch.s (.d (.bool (!(decide (((mcvF n on off).2) = ((mcvF n on off).2)))))) (.pure (.neB _ _ _ _ rfl Try.underlying4 rfl rfl)) (Ch.s (.d (.bool (!(decide (((mcvF n on off).2) = ((mcvF n on off).2)))))) (.pure (.pickF _ _ _ rfl rfl rfl)) (Ch.nil ?_))))
    refine T_condN (b := (decide (((mcvF n on off).2) = ((mcvF n on off).2)))) rfl (fun h4 => ?_) (fun h4 => ?_)
    ·
     replace h4 := of_decide_eq_false h4
     refine T_seq (T_region hc (Ch.s (.d (.bool false)) pa (Ch.nil (T_ret ?_))))
     exact endR [(.d (.bool false))] [] [] (.cons (.tmp 6 rfl) .nil) (.cons (.any _) (.cons (.any _) (.cons (.any _) .nil))) (Exp.of (congrArg D.bool a39) (.d _)) rfl rfl
    ·
     replace h4 := of_decide_eq_true h4
     refine T_skip (T_seq (T_seq (T_region hc (Ch.s (.row 39000) pm (Ch.s (.d (.slice false 1 (on.map D.str))) pm ?_)))))
     refine Ch.step (v := (.row 60000)) rfl (.call 60000 6 _ _ _ en6 rfl (.inl rfl) (.cons (.d _) .nil) rfl (sol (solid_row (fun _ => rfl) _) rfl) (sp_laws_toStringS on a8) (.skip _ _ .nil) rfl) rfl rfl ?_
     refine Ch.s (.d (.bool (decide (on = on)))) (.call 61000 8 _ _ _ en8 rfl (.inl rfl) (.cons (.lend (.row rfl (frozs_map (fun _ => rfl) _))) (.cons (.lend (.row rfl (frozs_map (fun _ => rfl) _))) .nil)) rfl rfl (sp_laws_eqStringS on on a8) (.skip _ _ (.skip _ _ .nil)) rfl) (Ch.s (.d (.bool (!(decide (on = on))))) (.pure (.not _ _ rfl rfl)) (Ch.nil ?_))
     refine T_condN (b := (decide (on = on))) rfl (fun h5 => ?_) (fun h5 => ?_)
     ·
      replace h5 := of_decide_eq_false h5
      refine T_seq (T_region hc (Ch.s (.d (.bool false)) pa (Ch.nil (T_ret ?_))))
      exact endR [(.d (.bool false))] [] [] (.cons (.tmp 6 rfl) .nil) (.cons (.any _) (.cons (.any _) (.cons (.any _) .nil))) (Exp.of (congrArg D.bool a39) (.d _)) rfl rfl
     ·
      replace h5 := of_decide_eq_true h5
      refine T_skip (T_seq (T_seq (T_region hc (Ch.s (.row 41000) pm (Ch.s (.d (.slice false 1 (off.map D.str))) pm ?_)))))
      refine Ch.step (v := (.row 65000)) rfl (.call 65000 6 _ _ _ en6 rfl (.inl rfl) (.cons (.d _) .nil) rfl (sol (solid_row (fun _ => rfl) _) rfl) (sp_laws_toStringS off a8) (.skip _ _ .nil) rfl) rfl rfl ?_
      refine Ch.s (.d (.bool (decide (off = off)))) (.call 66000 8 _ _ _ en8 rfl (.inl rfl) (.cons (.lend (.row rfl (frozs_map (fun _ => rfl) _))) (.cons (.lend (.row rfl (frozs_map (fun _ => rfl) _))) .nil)) rfl rfl (sp_laws_eqStringS off off a8) (.skip _ _ (.skip _ _ .nil)) rfl) (Ch.s (.d (.bool (!(decide (off = off))))) (.pure (.not _ _ rfl rfl)) (Ch.nil ?_))
      refine T_condN (b := (decide (off = off))) rfl (fun h6 => ?_) (fun h6 => ?_)
      ·
       replace h6 := of_decide_eq_false h6
       refine T_seq (T_region hc (Ch.s (.d (.bool false)) pa (Ch.nil (T_ret ?_))))
       exact endR [(.d (.bool false))] [] [] (.cons (.tmp 6 rfl) .nil) (.cons (.any _) (.cons (.any _) (.cons (.any _) .nil))) (Exp.of (congrArg D.bool a39) (.d _)) rfl rfl
      ·
       replace h6 := of_decide_eq_true h6
       refine T_skip (T_seq (T_region hc (Ch.s (.d (.int .i64 1)) pa (Ch.nil (T_seq (T_region hc (Ch.s (.row 39000) pm ?_)))))))
       refine Ch.s (.d (.int .i64 1)) pm ?_
       refine Ch.step (v := (.d (.int .i64 ((1 + on.length : Nat) : Int)))) rfl (.call 70000 9 _ _ _ en9 rfl (.inl rfl) (.cons (.row rfl) (.cons (.d _) .nil)) rfl (sol rfl (solids_c (solid_row (fun _ => rfl) _) rfl)) (sp_laws_markStringS on 1 a8 a8) (.row _ _ _ (.skip _ _ .nil)) rfl) rfl rfl ?_
       refine Ch.s (.d (.int .i64 ((1 + on.length : Nat) : Int))) pa (Ch.nil (T_seq (T_region hc (Ch.s (.row 41000) pm (Ch.s (.d (.int .i64 ((1 + on.length : Nat) : Int))) pm ?_)))))
       refine Ch.step (v := (.d (.int .i64 (((1 + on.length) + off.length : Nat) : Int)))) rfl (.call 73000 9 _ _ _ en9 rfl (.inl rfl) (.cons (.row rfl) (.cons (.d _) .nil)) rfl (sol rfl (solids_c (solid_row (fun _ => rfl) _) rfl)) (sp_laws_markStringS off (1 + on.length) a8 a8) (.row _ _ _ (.skip _ _ .nil)) rfl) rfl rfl ?_
       refine Ch.s (.d (.int .i64 (((1 + on.length) + off.length : Nat) : Int))) pa (Ch.nil (T_seq (T_seq (T_region hc (Ch.s (.d (.int .i64 (((1 + on.length) + off.length : Nat) : Int))) pm (Ch.s (.d (.bool (decide ((((1 + on.length) + off.length : Nat) : Int) < 0)))) (iX rfl rfl rfl) (Ch.s (.d (.bool (decide ((((1 + on.length) + off.length : Nat) : Int) < 0)))) pm ?_)))))))
       cases h7 : (decide ((((1 + on.length) + off.length : Nat) : Int) < 0)) with
       | true =>
        replace h7 := of_decide_eq_true h7
        refine Ch.skip rfl rfl (Ch.skip rfl rfl (Ch.skip rfl rfl (Ch.skip rfl rfl (Ch.s (.d (.bool true)) (.pure (.pickT _ _ _ rfl rfl rfl)) (Ch.s (.d (.bool true)) pm (Ch.skip rfl rfl (Ch.skip rfl rfl ?_)))))))
        refine Ch.skip rfl rfl (Ch.s (.d (.bool true)) (.pure (.pickT _ _ _ rfl rfl rfl)) (Ch.nil ?_))
        refine T_cond (b := true) rfl (fun _ => ?_) (fun h => nomatch h)
        refine T_seq (T_region hc (Ch.s (.d (.bool false)) pa (Ch.nil (T_ret ?_))))
        exact endR [(.d (.bool false))] [] [] (.cons (.tmp 6 rfl) .nil) (.cons (.any _) (.cons (.any _) (.cons (.any _) .nil))) (Exp.of (congrArg D.bool a39) (.d _)) rfl rfl
       | false =>
        replace h7 := of_decide_eq_false h7
        refine Ch.s (.row 46000) pm (Ch.s (.row 35000) pm (Ch.s (.d (.bool (decide (((mcvF n on off).1) = ((mcvF n on off).1))))) (.call 79000 8 _ _ _ en8 rfl (.inl rfl) (.cons (.lend (.row rfl (frozs_map (fun _ => rfl) _))) (.cons (.lend (.row rfl (frozs_map (fun _ => rfl) _))) .nil)) rfl rfl (sp_laws_eqStringS ((mcvF n on off).1) ((mcvF n on off).1) a8) (.skip _ _ (.skip _ _ .nil)) rfl) (Ch.s (.d (.bool (!(decide (((mcvF n on off).1) = ((mcvF n on off).1)))))) (.pure (.not _ _ rfl rfl)) (Ch.s (.d (.bool (!(decide (((mcvF n on off).1) = ((mcvF n on off).1)))))) (.pure (.pickF _ _ _ rfl rfl rfl)) (Ch.s (.d (.bool (!(decide (((mcvF n on off).1) = ((mcvF n on off).1)))))) pm ?_)))))
        cases h8 : (decide (((mcvF n on off).1) = ((mcvF n on off).1))) with
        | true =>
         replace h8 := of_decide_eq_true h8
         refine Ch.s (.d (.bool ((mcvF n on off).2))) pm (Ch.s (.d (.bool ((mcvF n on off).2))) pm (Ch.s (.d (.bool (!(decide (((mcvF n on off).2) = ((mcvF n on off).2)))))) (.pure (.neB _ _ _ _ rfl Try.underlying4 rfl rfl)) (Ch.s (.d (.bool (!(decide (((mcvF n on off).2) = ((mcvF n on off).2)))))) (.pure (.pickF _ _ _ rfl rfl rfl)) (Ch.nil ?_))))
         refine T_condN (b := (decide (((mcvF n on off).2) = ((mcvF n on off).2)))) rfl (fun h9 => ?_) (fun h9 => ?_)
         ·
          replace h9 := of_decide_eq_false h9
          refine T_seq (T_region hc (Ch.s (.d (.bool false)) pa (Ch.nil (T_ret ?_))))
          exact endR [(.d (.bool false))] [] [] (.cons (.tmp 6 rfl) .nil) (.cons (.any _) (.cons (.any _) (.cons (.any _) .nil))) (Exp.of (congrArg D.bool a39) (.d _)) rfl rfl
         ·
          replace h9 := of_decide_eq_true h9
          refine T_skip (T_seq (T_region hc (Ch.s (.d (.int .i64 1)) pa (Ch.nil (T_seq (T_region hc (Ch.s (.row 46000) pm ?_)))))))
          refine Ch.s (.d (.int .i64 1)) pm ?_
          refine Ch.step (v := (.d (.int .i64 ((1 + ((mcvF n on off).1).length : Nat) : Int)))) rfl (.call 89000 9 _ _ _ en9 rfl (.inl rfl) (.cons (.row rfl) (.cons (.d _) .nil)) rfl (sol rfl (solids_c (solid_row (fun _ => rfl) _) rfl)) (sp_laws_markStringS ((mcvF n on off).1) 1 a8 a8) (.row _ _ _ (.skip _ _ .nil)) rfl) rfl rfl ?_
          refine Ch.s (.d (.int .i64 ((1 + ((mcvF n on off).1).length : Nat) : Int))) pa (Ch.nil (T_seq (T_region hc (Ch.s (.d (.int .i64 1)) pa (Ch.nil (T_seq (T_region hc ?_)))))))
          refine Ch.s (.row 46000) pm (Ch.s (.d (.int .i64 1)) pm (Ch.s (.d (.int .i64 (heldR (marks 1 ((mcvF n on off).1).length) 1))) (.call 92000 10 _ _ _ en10 rfl (.inl rfl) (.cons (.lend (.row rfl (frozs_map (fun _ => rfl) _))) (.cons (.d _) .nil)) rfl rfl (sp_laws_heldStringS (marks 1 ((mcvF n on off).1).length) 1 a8 a8) (.skip _ _ (.skip _ _ .nil)) rfl) (Ch.s (.d (.int .i64 (heldR (marks 1 ((mcvF n on off).1).length) 1))) pa (Ch.nil (T_seq (T_seq (T_region hc ?_)))))))
          refine Ch.s (.d (.int .i64 (heldR (marks 1 ((mcvF n on off).1).length) 1))) pm (Ch.s (.d (.bool (decide ((heldR (marks 1 ((mcvF n on off).1).length) 1) < 0)))) (iX rfl rfl rfl) (Ch.nil ?_))
          refine T_condD (p := ((heldR (marks 1 ((mcvF n on off).1).length) 1) < 0)) rfl (fun h10 => ?_) (fun h10 => ?_)
          ·
           refine T_seq (T_region hc (Ch.s (.d (.bool false)) pa (Ch.nil (T_ret ?_))))
           exact endR [(.d (.bool false))] [] [] (.cons (.tmp 6 rfl) .nil) (.cons (.any _) (.cons (.any _) (.cons (.any _) .nil))) (Exp.of (congrArg D.bool a39) (.d _)) rfl rfl
          ·
           refine T_skip (T_seq (T_seq (T_region hc (Ch.s (.d (.int .i64 (heldR (marks 1 ((mcvF n on off).1).length) 1))) pm (Ch.s (.d (.int .i64 ((1 + ((mcvF n on off).1).length : Nat) : Int))) pm (Ch.s (.d (.bool (!(decide ((heldR (marks 1 ((mcvF n on off).1).length) 1) = ((1 + ((mcvF n on off).1).length : Nat) : Int)))))) (iX rfl rfl rfl) (Ch.nil ?_)))))))
           refine T_condN (b := (decide ((heldR (marks 1 ((mcvF n on off).1).length) 1) = ((1 + ((mcvF n on off).1).length : Nat) : Int)))) rfl (fun h11 => ?_) (fun h11 => ?_)
           ·
            replace h11 := of_decide_eq_false h11
            refine T_seq (T_region hc (Ch.s (.d (.bool false)) pa (Ch.nil (T_ret ?_))))
            exact endR [(.d (.bool false))] [] [] (.cons (.tmp 6 rfl) .nil) (.cons (.any _) (.cons (.any _) (.cons (.any _) .nil))) (Exp.of (congrArg D.bool a39) (.d _)) rfl rfl
           ·
            replace h11 := of_decide_eq_true h11
            refine T_skip (T_seq (T_region hc (Ch.s (.d (.int .i64 n)) pm (Ch.s (.d (.slice false 1 (on.map D.str))) pm ?_))))
            refine Ch.step (v := (.row 101000)) rfl (.call 101000 6 _ _ _ en6 rfl (.inl rfl) (.cons (.d _) .nil) rfl (sol (solid_row (fun _ => rfl) _) rfl) (sp_laws_toStringS on a8) (.skip _ _ .nil) rfl) rfl rfl ?_
            refine Ch.s (.d (.slice false 1 (off.map D.str))) pm ?_
            refine Ch.step (v := (.row 103000)) rfl (.call 103000 6 _ _ _ en6 rfl (.inl rfl) (.cons (.d _) .nil) rfl (sol (solid_row (fun _ => rfl) _) rfl) (sp_laws_toStringS off a8) (.skip _ _ .nil) rfl) rfl rfl ?_
            refine Ch.step (v := (.tup [(.row 104000), (.d (.bool ((mcvF n on off).2)))])) rfl (.call 104000 7 _ _ _ en7 rfl (.inl rfl) (.cons (.d _) (.cons (.lend (.row rfl (frozs_map (fun _ => rfl) _))) (.cons (.lend (.row rfl (frozs_map (fun _ => rfl) _))) .nil))) rfl (sol a46 rfl) (sp_impl_MinimumCover n on off a8 a8 a8 a8) (.skip _ _ (.skip _ _ (.skip _ _ .nil))) rfl) rfl rfl ?_
            refine Ch.s (.tup [(.row 104000), (.d (.bool ((mcvF n on off).2)))]) pm (Ch.s (.row 104000) (.pure (.extract _ rfl rfl rfl)) (Ch.s (.d (.bool ((mcvF n on off).2))) (.pure (.extract _ rfl rfl rfl)) (Ch.s (.row 104000) pa (Ch.s (.d (.bool ((mcvF n on off).2))) pa (Ch.nil (T_seq (T_seq ?_)))))))
            refine T_region hc (Ch.s (.row 104000) pm (Ch.s (.row 35000) pm (Ch.s (.d (.bool (decide (((mcvF n on off).1) = ((mcvF n on off).1))))) (.call 109000 8 _ _ _ en8 rfl (.inl rfl) (.cons (.lend (.row rfl (frozs_map (fun _ => rfl) _))) (.cons (.lend (.row rfl (frozs_map (fun _ => rfl) _))) .nil)) rfl rfl (sp_laws_eqStringS ((mcvF n on off).1) ((mcvF n on off).1) a8) (.skip _ _ (.skip _ _ .nil)) rfl) (Ch.s (.d (.bool (!(decide (((mcvF n on off).1) = ((mcvF n on off).1)))))) (.pure (.not _ _ rfl rfl)) (Ch.s (.d (.bool (!(decide (((mcvF n on off).1) = ((mcvF n on off).1)))))) pm ?_)))))
            cases h12 : (decide (((mcvF n on off).1) = ((mcvF n on off).1))) with
            | true =>
             replace h12 := of_decide_eq_true h12
             refine Ch.s (.d (.bool ((mcvF n on off).2))) pm (Ch.s (.d (.bool ((mcvF n on off).2))) pm (Ch.s (.d (.bool (!(decide (((mcvF n on off).2) = ((mcvF n on off).2)))))) (.pure (.neB _ _ _ _ rfl Try.underlying4 rfl rfl)) (Ch.s (.d (.bool (!(decide (((mcvF n on off).2) = ((mcvF n on off).2)))))) (.pure (.pickF _ _ _ rfl rfl rfl)) (Ch.nil ?_))))
             refine T_condN (b := (decide (((mcvF n on off).2) = ((mcvF n on off).2)))) rfl (fun h13 => ?_) (fun h13 => ?_)
             ·
              replace h13 := of_decide_eq_false h13
              refine T_seq (T_region hc (Ch.s (.d (.bool false)) pa (Ch.nil (T_ret ?_))))
              exact endR [(.d (.bool false))] [] [] (.cons (.tmp 6 rfl) .nil) (.cons (.any _) (.cons (.any _) (.cons (.any _) .nil))) (Exp.of (congrArg D.bool a39) (.d _)) rfl rfl
             ·
              replace h13 := of_decide_eq_true h13
              refine T_skip (T_seq (T_region hc (Ch.s (.d (.int .i64 1)) pa (Ch.nil (T_seq (T_region hc (Ch.s (.row 46000) pm ?_)))))))
              refine Ch.s (.d (.int .i64 1)) pm (Ch.s (.d (.int .i64 (heldR (marks 1 ((mcvF n on off).1).length) 1))) (.call 118000 10 _ _ _ en10 rfl (.inl rfl) (.cons (.lend (.row rfl (frozs_map (fun _ => rfl) _))) (.cons (.d _) .nil)) rfl rfl (sp_laws_heldStringS (marks 1 ((mcvF n on off).1).length) 1 a8 a8) (.skip _ _ (.skip _ _ .nil)) rfl) (Ch.s (.d (.int .i64 (heldR (marks 1 ((mcvF n on off).1).length) 1))) pa (Ch.nil (T_seq (T_seq (T_region hc (Ch.s (.d (.int .i64 (heldR (marks 1 ((mcvF n on off).1).length) 1))) pm ?_)))))))
              refine Ch.s (.d (.bool (decide ((heldR (marks 1 ((mcvF n on off).1).length) 1) < 0)))) (iX rfl rfl rfl) (Ch.nil ?_)
              refine T_condD (p := ((heldR (marks 1 ((mcvF n on off).1).length) 1) < 0)) rfl (fun h14 => ?_) (fun h14 => ?_)
              ·
               refine T_seq (T_region hc (Ch.s (.d (.bool false)) pa (Ch.nil (T_ret ?_))))
               exact endR [(.d (.bool false))] [] [] (.cons (.tmp 6 rfl) .nil) (.cons (.any _) (.cons (.any _) (.cons (.any _) .nil))) (Exp.of (congrArg D.bool a39) (.d _)) rfl rfl
              ·
               refine T_skip (T_seq (T_seq (T_region hc (Ch.s (.d (.int .i64 (heldR (marks 1 ((mcvF n on off).1).length) 1))) pm (Ch.s (.d (.int .i64 ((1 + ((mcvF n on off).1).length : Nat) : Int))) pm (Ch.s (.d (.bool (!(decide ((heldR (marks 1 ((mcvF n on off).1).length) 1) = ((1 + ((mcvF n on off).1).length : Nat) : Int)))))) (iX rfl rfl rfl) (Ch.nil ?_)))))))
               refine T_condN (b := (decide ((heldR (marks 1 ((mcvF n on off).1).length) 1) = ((1 + ((mcvF n on off).1).length : Nat) : Int)))) rfl (fun h15 => ?_) (fun h15 => ?_)
               ·
                replace h15 := of_decide_eq_false h15
                refine T_seq (T_region hc (Ch.s (.d (.bool false)) pa (Ch.nil (T_ret ?_))))
                exact endR [(.d (.bool false))] [] [] (.cons (.tmp 6 rfl) .nil) (.cons (.any _) (.cons (.any _) (.cons (.any _) .nil))) (Exp.of (congrArg D.bool a39) (.d _)) rfl rfl
               ·
                replace h15 := of_decide_eq_true h15
                refine T_skip (T_seq (T_region hc (Ch.s (.d (.bool true)) pa (Ch.nil (T_ret ?_)))))
                exact endR [(.d (.bool true))] [] [] (.cons (.tmp 6 rfl) .nil) (.cons (.any _) (.cons (.any _) (.cons (.any _) .nil))) (.d _) rfl rfl
            | false =>
             replace h12 := of_decide_eq_false h12
             refine Ch.skip rfl rfl (Ch.skip rfl rfl (Ch.skip rfl rfl (Ch.s (.d (.bool true)) (.pure (.pickT _ _ _ rfl rfl rfl)) (Ch.nil ?_))))
             refine T_cond (b := true) rfl (fun _ => ?_) (fun h => nomatch h)
             refine T_seq (T_region hc (Ch.s (.d (.bool false)) pa (Ch.nil (T_ret ?_))))
             exact endR [(.d (.bool false))] [] [] (.cons (.tmp 6 rfl) .nil) (.cons (.any _) (.cons (.any _) (.cons (.any _) .nil))) (Exp.of (congrArg D.bool a39) (.d _)) rfl rfl
        | false =>
         replace h8 := of_decide_eq_false h8
         refine Ch.skip rfl rfl (Ch.skip rfl rfl (Ch.skip rfl rfl (Ch.s (.d (.bool true)) (.pure (.pickT _ _ _ rfl rfl rfl)) (Ch.nil ?_))))
         refine T_cond (b := true) rfl (fun _ => ?_) (fun h => nomatch h)
         refine T_seq (T_region hc (Ch.s (.d (.bool false)) pa (Ch.nil (T_ret ?_))))
         exact endR [(.d (.bool false))] [] [] (.cons (.tmp 6 rfl) .nil) (.cons (.any _) (.cons (.any _) (.cons (.any _) .nil))) (Exp.of (congrArg D.bool a39) (.d _)) rfl rfl
   | false =>
    replace h3 := of_decide_eq_false h3
    refine Ch.skip rfl rfl (Ch.skip rfl rfl (Ch.skip rfl rfl (Ch.s (.d (.bool true)) (.pure (.pickT _ _ _ rfl rfl rfl)) (Ch.nil ?_))))
    refine T_cond (b := true) rfl (fun _ => ?_) (fun h => nomatch h)
    refine T_seq (T_region hc (Ch.s (.d (.bool false)) pa (Ch.nil (T_ret ?_))))
    exact endR [(.d (.bool false))] [] [] (.cons (.tmp 6 rfl) .nil) (.cons (.any _) (.cons (.any _) (.cons (.any _) .nil))) (Exp.of (congrArg D.bool a39) (.d _)) rfl rfl

end Go.AM
