/-
  The contracts that the law FnExactNextValue needs.
-/
import Derived.Test.YtnmlcebejnlikaaGreatZNextValue3
namespace Go.AM
open Go.Proofs
set_option linter.unusedVariables false
set_option linter.unusedSimpArgs false

set_option maxHeartbeats 1000000 in
theorem sp_laws_FnExactNextValue (x : Sgr) (u : List UInt8) (sig : Int) (hwx : x.wide) : Sp Tryz.prog 4 [(.agg [(.slice false 2 (x.sigs.map Sgn.d)), (.slice false 1 (x.codes.map D.str)), (.slice false 4 (x.arcs.map Arc.d))]), (.str u), (.int .i64 sig)] [.any, .any, .any] (.bool true) := by
 refine Sp_intro (lend := true) Tryz.func4 rfl rfl rfl (fun _ => rfl) (fun c hc hX => ?_)
 refine T_seq ?_
 refine T_region hc ?_
 refine Ch.s (.ptr 3000 0) (.box 3000 _ _ rfl (.aggD _)) ?_
 refine Ch.s (.d (.bool false)) (.pure (.assign _ rfl rfl)) ?_
 refine Ch.nil ?_
 refine T_seq ?_
 refine T_seq ?_
 refine T_region hc ?_
 refine Ch.s (.d (.str u)) (.pure (.move _ rfl rfl)) ?_
 refine Ch.s (.d (.int .i64 ((u.length : Nat) : Int))) (.pure (.lenStr _ _ rfl Tryz.underlying9 rfl)) ?_
 refine Ch.s (.d (.bool (decide (1048576 < ((u.length : Nat) : Int))))) (.pure (.int _ _ _ _ _ rfl rfl rfl rfl)) ?_
 refine Ch.nil ?_
 refine T_cond (b := (decide (1048576 < ((u.length : Nat) : Int)))) rfl (fun h1 => ?_) (fun h1 => ?_)
 ·
  replace h1 := of_decide_eq_true h1
  try have hu0 : u.length ≤ 1048576 := by omega
  refine T_seq ?_
  refine T_region hc ?_
  refine Ch.s (.d (.bool true)) (.pure (.assign _ rfl rfl)) ?_
  refine Ch.nil ?_
  refine T_ret ?_
  refine And.intro (.inr rfl) ?_
  exact Exists.intro [(.d (.bool true))] (Exists.intro [] (Exists.intro [] (And.intro (.cons (.tmp 6 rfl) .nil) (And.intro (.cons (.any _) (.cons (.any _) (.cons (.any _) .nil))) (And.intro (.d _) (And.intro rfl rfl))))))
 ·
  replace h1 := of_decide_eq_false h1
  try have hu0 : u.length ≤ 1048576 := by omega
  refine T_skip ?_
  refine T_seq ?_
  refine T_region hc ?_
  refine Ch.s (.d (.int .i64 1048576)) (.pure (.assign _ rfl rfl)) ?_
  refine Ch.nil ?_
  refine T_seq ?_
  refine T_region hc ?_
  refine Ch.s (.agg [(.d (.slice false 2 (x.sigs.map Sgn.d))), (.d (.slice false 1 (x.codes.map D.str))), (.d (.slice false 4 (x.arcs.map Arc.d)))]) (.pure (.loadPtrA _ _ rfl ag26 sz26 rfl rfl (Nat.le_of_ble_eq_true rfl) rfl)) ?_
  refine Ch.s (.d (.int .i64 1048576)) (.pure (.move _ rfl rfl)) ?_
  refine Ch.s (.d (.int .i64 (szR x.bulk 1048576))) (.call 18000 16 _ _ _ en16 rfl (.inl rfl) (.cons (.lend (.agg (.cons (.d _) (.cons (.d _) (.cons (.d _) .nil))) rfl)) (.cons (.d _) .nil)) rfl rfl (sp_laws_szStateGraph x 1048576 (by first | omega | assumption | (exact hx _ (getD_mem (by omega))) | (exact hx _ (by assumption)) | (exact Nat.le_trans (hx _ (by assumption)) (by omega)) | (simp only [List.length_append, List.length_take, List.length_drop, List.length_cons, List.length_nil]; omega) | (simp_all; done)) (by first | omega | assumption | (exact hx _ (getD_mem (by omega))) | (exact hx _ (by assumption)) | (exact Nat.le_trans (hx _ (by assumption)) (by omega)) | (simp only [List.length_append, List.length_take, List.length_drop, List.length_cons, List.length_nil]; omega) | (simp_all; done)) (by first | assumption | omega | trivial | (simp_all; done) | (exact fun _ _ => trivial) | (exact hx _ (by assumption)) | (refine ⟨?_, ?_⟩ <;> first | assumption | omega))) (.skip _ _ (.skip _ _ .nil)) rfl) ?_
  refine Ch.s (.d (.int .i64 (szR x.bulk 1048576))) (.pure (.assign _ rfl rfl)) ?_
  refine Ch.nil ?_
  refine T_seq ?_
  refine T_seq ?_
  refine T_region hc ?_
  refine Ch.s (.d (.int .i64 (szR x.bulk 1048576))) (.pure (.move _ rfl rfl)) ?_
  refine Ch.s (.d (.bool (decide ((szR x.bulk 1048576) < 0)))) (.pure (.int _ _ _ _ _ rfl rfl rfl rfl)) ?_
  refine Ch.nil ?_
  refine T_cond (b := (decide ((szR x.bulk 1048576) < 0))) rfl (fun h2 => ?_) (fun h2 => ?_)
  ·
   replace h2 := of_decide_eq_true h2
   try have hz := szR_ok (t := x.bulk) (left := 1048576) h2 (by omega)
   try have hb : x.bulk ≤ 1048576 := by omega
   try have hl := hz.2
   refine T_seq ?_
   refine T_region hc ?_
   refine Ch.s (.d (.bool true)) (.pure (.assign _ rfl rfl)) ?_
   refine Ch.nil ?_
   refine T_ret ?_
   refine And.intro (.inr rfl) ?_
   exact Exists.intro [(.d (.bool true))] (Exists.intro [] (Exists.intro [] (And.intro (.cons (.tmp 6 rfl) .nil) (And.intro (.cons (.any _) (.cons (.any _) (.cons (.any _) .nil))) (And.intro (.d _) (And.intro rfl rfl))))))
  ·
   replace h2 := of_decide_eq_false h2
   try have hz := szR_ok (t := x.bulk) (left := 1048576) h2 (by omega)
   try have hb : x.bulk ≤ 1048576 := by omega
   try have hl := hz.2
   refine T_skip ?_
   refine T_seq ?_
   refine T_region hc ?_
   refine Ch.s (.agg [(.d (.slice false 2 (x.sigs.map Sgn.d))), (.d (.slice false 1 (x.codes.map D.str))), (.d (.slice false 4 (x.arcs.map Arc.d)))]) (.pure (.loadPtrA _ _ rfl ag26 sz26 rfl rfl (Nat.le_of_ble_eq_true rfl) rfl)) ?_
   refine Ch.step (v := (.agg [(.row 23000), (.row 23001), (.row 23002)])) rfl (.call 23000 18 _ _ _ en18 rfl (.inl rfl) (.cons (.lend (.agg (.cons (.d _) (.cons (.d _) (.cons (.d _) .nil))) rfl)) .nil) rfl (sol (Sgr.sol _) rfl) (sp_laws_toStateGraph x (by first | assumption | omega | (rw [List.length_take]; omega) | (have := bulkF_mem hb _ (getD_mem (d := default) (by omega)); assumption) | (unfold bulkS at *; omega) | (simp_all; done))) (.skip _ _ .nil) rfl) rfl rfl ?_
   refine Ch.s (.d (.str u)) (.pure (.move _ rfl rfl)) ?_
   refine Ch.s (.d (.int .i64 sig)) (.pure (.move _ rfl rfl)) ?_
   refine Ch.s (.tup [(.d (.bool (nvV x u sig))), (.d (.bool (nvB x u sig)))]) (.call 26000 25 _ _ _ en25 rfl (.inl rfl) (.cons (.lend (.agg (.cons (.row rfl (frozs_map (fun _ => rfl) _)) (.cons (.row rfl (frozs_map (fun _ => rfl) _)) (.cons (.row rfl (frozs_map (fun _ => rfl) _)) .nil))) rfl)) (.cons (.d _) (.cons (.d _) .nil))) rfl rfl (sp_spec_NextValue x u sig (by first | assumption | omega | (rw [List.length_take]; omega) | (have := bulkF_mem hb _ (getD_mem (d := default) (by omega)); assumption) | (unfold bulkS at *; omega) | (simp_all; done))) (.skip _ _ (.skip _ _ (.skip _ _ .nil))) rfl) ?_
   refine Ch.s (.tup [(.d (.bool (nvV x u sig))), (.d (.bool (nvB x u sig)))]) (.pure (.move _ rfl rfl)) ?_
   refine Ch.s (.d (.bool (nvV x u sig))) (.pure (.extract _ rfl rfl rfl)) ?_
   refine Ch.s (.d (.bool (nvB x u sig))) (.pure (.extract _ rfl rfl rfl)) ?_
   refine Ch.s (.d (.bool (nvV x u sig))) (.pure (.assign _ rfl rfl)) ?_
   refine Ch.s (.d (.bool (nvB x u sig))) (.pure (.assign _ rfl rfl)) ?_
   refine Ch.nil ?_
   refine T_seq ?_
   refine T_region hc ?_
   refine Ch.s (.agg [(.d (.slice false 2 (x.sigs.map Sgn.d))), (.d (.slice false 1 (x.codes.map D.str))), (.d (.slice false 4 (x.arcs.map Arc.d)))]) (.pure (.loadPtrA _ _ rfl ag26 sz26 rfl rfl (Nat.le_of_ble_eq_true rfl) rfl)) ?_
   refine Ch.step (v := (.agg [(.row 30000), (.row 30001), (.row 30002)])) rfl (.call 30000 18 _ _ _ en18 rfl (.inl rfl) (.cons (.lend (.agg (.cons (.d _) (.cons (.d _) (.cons (.d _) .nil))) rfl)) .nil) rfl (sol (Sgr.sol _) rfl) (sp_laws_toStateGraph x (by first | assumption | omega | (rw [List.length_take]; omega) | (have := bulkF_mem hb _ (getD_mem (d := default) (by omega)); assumption) | (unfold bulkS at *; omega) | (simp_all; done))) (.skip _ _ .nil) rfl) rfl rfl ?_
   refine Ch.s (.ptr 10000 0) (.alloc 10000 _ rfl zer35) ?_
   refine Ch.s .junk (.storePtr _ _ _ rfl rfl rfl (.agg _ rfl) sz35 (Nat.le_of_ble_eq_true rfl)) ?_
   refine Ch.nil ?_
   refine T_seq ?_
   refine T_region hc ?_
   refine Ch.s (.agg [(.row 30000), (.row 30001), (.row 30002)]) (.pure (.loadPtrA _ _ rfl ag35 sz35 rfl rfl (Nat.le_of_ble_eq_true rfl) rfl)) ?_
   refine Ch.s (.d (.str u)) (.pure (.move _ rfl rfl)) ?_
   refine Ch.s (.d (.int .i64 sig)) (.pure (.move _ rfl rfl)) ?_
   refine Ch.s (.tup [(.d (.bool (nvV x u sig))), (.d (.bool (nvB x u sig)))]) (.call 35000 26 _ _ _ en26 rfl (.inl rfl) (.cons (.lend (.agg (.cons (.row rfl (frozs_map (fun _ => rfl) _)) (.cons (.row rfl (frozs_map (fun _ => rfl) _)) (.cons (.row rfl (frozs_map (fun _ => rfl) _)) .nil))) rfl)) (.cons (.d _) (.cons (.d _) .nil))) rfl rfl (sp_impl_NextValue x u sig (by first | assumption | omega | (rw [List.length_take]; omega) | (have := bulkF_mem hb _ (getD_mem (d := default) (by omega)); assumption) | (unfold bulkS at *; omega) | (simp_all; done))) (.skip _ _ (.skip _ _ (.skip _ _ .nil))) rfl) ?_
   refine Ch.s (.tup [(.d (.bool (nvV x u sig))), (.d (.bool (nvB x u sig)))]) (.pure (.move _ rfl rfl)) ?_
   refine Ch.s (.d (.bool (nvV x u sig))) (.pure (.extract _ rfl rfl rfl)) ?_
   refine Ch.s (.d (.bool (nvB x u sig))) (.pure (.extract _ rfl rfl rfl)) ?_
   refine Ch.s (.d (.bool (nvV x u sig))) (.pure (.assign _ rfl rfl)) ?_
   refine Ch.s (.d (.bool (nvB x u sig))) (.pure (.assign _ rfl rfl)) ?_
   refine Ch.nil ?_
   refine T_seq ?_
   refine T_seq ?_
   refine T_region hc ?_
   refine Ch.s (.d (.bool (nvV x u sig))) (.pure (.move _ rfl rfl)) ?_
   refine Ch.s (.d (.bool (nvV x u sig))) (.pure (.move _ rfl rfl)) ?_
   refine Ch.s (.d (.bool (!(decide ((nvV x u sig) = (nvV x u sig)))))) (.pure (.neB _ _ _ _ rfl Tryz.underlying4 rfl rfl)) ?_
   refine Ch.s (.d (.bool (!(decide ((nvV x u sig) = (nvV x u sig)))))) (.pure (.move _ rfl rfl)) ?_
   cases h3 : (decide ((nvV x u sig) = (nvV x u sig))) with
   | true =>
    replace h3 := of_decide_eq_true h3
    refine Ch.s (.d (.bool (nvB x u sig))) (.pure (.move _ rfl rfl)) ?_
    refine Ch.s (.d (.bool (nvB x u sig))) (.pure (.move _ rfl rfl)) ?_
    refine Ch.s (.d (.bool (!(decide ((nvB x u sig) = (nvB x u sig)))))) (.pure (.neB _ _ _ _ rfl Tryz.underlying4 rfl rfl)) ?_
    refine Ch.s (.d (.bool (!(decide ((nvB x u sig) = (nvB x u sig)))))) (.pure (.pickF _ _ _ rfl rfl rfl)) ?_
    refine Ch.nil ?_
    refine T_cond (b := (!(decide ((nvB x u sig) = (nvB x u sig))))) rfl (fun h4 => ?_) (fun h4 => ?_)
    ·
     replace h4 := nott h4
     replace h4 := of_decide_eq_false h4
     refine T_seq ?_
     refine T_region hc ?_
     refine Ch.s (.d (.bool false)) (.pure (.assign _ rfl rfl)) ?_
     refine Ch.nil ?_
     refine T_ret ?_
     refine And.intro (.inr rfl) ?_
     exact Exists.intro [(.d (.bool false))] (Exists.intro [] (Exists.intro [] (And.intro (.cons (.tmp 6 rfl) .nil) (And.intro (.cons (.any _) (.cons (.any _) (.cons (.any _) .nil))) (And.intro (Exp.of (congrArg D.bool (by first | rfl | contradiction | (exfalso; omega) | (simp_all; done) | (exfalso; simp_all; omega))) (.d _)) (And.intro rfl rfl))))))
    ·
     replace h4 := notf h4
     replace h4 := of_decide_eq_true h4
     refine T_skip ?_
     refine T_seq ?_
     refine T_seq ?_
     refine T_regionD hc (by kernel_rfl) ?_
     refine ChD.s (.agg [(.row 30000), (.row 30001), (.row 30002)]) [10000, 30000, 30001, 30002] (.pure (.loadPtrA _ _ rfl ag35 sz35 rfl rfl (Nat.le_of_ble_eq_true rfl) rfl)) ?_
     refine ChD.s (.agg [(.d (.slice false 2 (x.sigs.map Sgn.d))), (.d (.slice false 1 (x.codes.map D.str))), (.d (.slice false 4 (x.arcs.map Arc.d)))]) [3000] (.pure (.loadPtrA _ _ rfl ag26 sz26 rfl rfl (Nat.le_of_ble_eq_true rfl) rfl)) ?_
     refine ChD.s (.agg [(.row 48000), (.row 48001), (.row 48002)]) [] (.call 48000 18 _ _ _ en18 rfl (.inl rfl) (.cons (.lend (.agg (.cons (.d _) (.cons (.d _) (.cons (.d _) .nil))) rfl)) .nil) rfl (sol (Sgr.sol _) rfl) (sp_laws_toStateGraph x (by first | assumption | omega | (rw [List.length_take]; omega) | (have := bulkF_mem hb _ (getD_mem (d := default) (by omega)); assumption) | (unfold bulkS at *; omega) | (simp_all; done))) (.skip _ _ .nil) rfl) ?_
     refine ChD.s (.d (.bool (decide (x = x)))) [30000, 30001, 30002, 48000, 48001, 48002] (.call 49000 21 _ _ _ en21 rfl (.inl rfl) (.cons (.lend (.agg (.cons (.row rfl (frozs_map (fun _ => rfl) _)) (.cons (.row rfl (frozs_map (fun _ => rfl) _)) (.cons (.row rfl (frozs_map (fun _ => rfl) _)) .nil))) rfl)) (.cons (.lend (.agg (.cons (.row rfl (frozs_map (fun _ => rfl) _)) (.cons (.row rfl (frozs_map (fun _ => rfl) _)) (.cons (.row rfl (frozs_map (fun _ => rfl) _)) .nil))) rfl)) .nil)) rfl rfl (sp_laws_eqStateGraph x x (by first | assumption | omega | (rw [List.length_take]; omega) | (have := bulkF_mem hb _ (getD_mem (d := default) (by omega)); assumption) | (unfold bulkS at *; omega) | (simp_all; done))) (.skip _ _ (.skip _ _ .nil)) rfl) ?_
     refine ChD.s (.d (.bool (!(decide (x = x))))) [] (.pure (.not _ _ rfl rfl)) ?_
     refine ChD.nil (And.intro ?_ (by kernel_rfl))
     refine T_cond (b := (!(decide (x = x)))) rfl (fun h5 => ?_) (fun h5 => ?_)
     ·
      replace h5 := nott h5
      replace h5 := of_decide_eq_false h5
      refine T_seq ?_
      refine T_region hc ?_
      refine Ch.s (.d (.bool false)) (.pure (.assign _ rfl rfl)) ?_
      refine Ch.nil ?_
      refine T_ret ?_
      refine And.intro (.inr rfl) ?_
      exact Exists.intro [(.d (.bool false))] (Exists.intro [] (Exists.intro [] (And.intro (.cons (.tmp 6 rfl) .nil) (And.intro (.cons (.any _) (.cons (.any _) (.cons (.any _) .nil))) (And.intro (Exp.of (congrArg D.bool (by first | rfl | contradiction | (exfalso; omega) | (simp_all; done) | (exfalso; simp_all; omega))) (.d _)) (And.intro rfl rfl))))))
     ·
      replace h5 := notf h5
      replace h5 := of_decide_eq_true h5
      refine T_skip ?_
      refine T_seq ?_
      refine T_region hc ?_
      refine Ch.s (.d (.bool true)) (.pure (.assign _ rfl rfl)) ?_
      refine Ch.nil ?_
      refine T_ret ?_
      refine And.intro (.inr rfl) ?_
      exact Exists.intro [(.d (.bool true))] (Exists.intro [] (Exists.intro [] (And.intro (.cons (.tmp 6 rfl) .nil) (And.intro (.cons (.any _) (.cons (.any _) (.cons (.any _) .nil))) (And.intro (.d _) (And.intro rfl rfl))))))
   | false =>
    replace h3 := of_decide_eq_false h3
    refine Ch.skip rfl rfl ?_
    refine Ch.skip rfl rfl ?_
    refine Ch.skip rfl rfl ?_
    refine Ch.s (.d (.bool true)) (.pure (.pickT _ _ _ rfl rfl rfl)) ?_
    refine Ch.nil ?_
    refine T_cond (b := true) rfl (fun _ => ?_) (fun h => nomatch h)
    refine T_seq ?_
    refine T_region hc ?_
    refine Ch.s (.d (.bool false)) (.pure (.assign _ rfl rfl)) ?_
    refine Ch.nil ?_
    refine T_ret ?_
    refine And.intro (.inr rfl) ?_
    exact Exists.intro [(.d (.bool false))] (Exists.intro [] (Exists.intro [] (And.intro (.cons (.tmp 6 rfl) .nil) (And.intro (.cons (.any _) (.cons (.any _) (.cons (.any _) .nil))) (And.intro (Exp.of (congrArg D.bool (by first | rfl | contradiction | (exfalso; omega) | (simp_all; done) | (exfalso; simp_all; omega))) (.d _)) (And.intro rfl rfl))))))

end Go.AM
