/-
  The contracts that the law FnExactNextGateValue needs.
-/
import Derived.Test.YtaoahoooeliliaaZNextGateValue2
namespace Go.AM
open Go.Proofs
set_option linter.unusedVariables false
set_option linter.unusedSimpArgs false

set_option maxHeartbeats 1000000 in
theorem sp_laws_FnExactNextGateValue (x : Cir) (u : List UInt8) (k : Int) (hwx : x.wide) : Sp Try.prog 3 [(.agg [(.slice false 2 (x.sigs.map Sgn.d)), (.slice false 4 (x.gates.map Gat.d))]), (.str u), (.int .i64 k)] [.any, .any, .any] (.bool true) := by
  refine Sp_intro (lend := true) Try.func3 rfl rfl rfl (fun _ => rfl) (fun c hc hX => ?_)
  refine T_seq ?_
  refine T_region hc ?_
  refine Ch.step (v := (.ptr 3000 0)) rfl (.box 3000 _ _ rfl (.aggD _)) rfl rfl ?_
  refine Ch.step (v := (.d (.bool false))) rfl (.pure (.assign _ rfl rfl)) rfl rfl ?_
  refine Ch.nil ?_
  refine T_seq ?_
  refine T_seq ?_
  refine T_region hc ?_
  refine Ch.step (v := (.d (.str u))) rfl (.pure (.move _ rfl rfl)) rfl rfl ?_
  refine Ch.step (v := (.d (.int .i64 ((u.length : Nat) : Int)))) rfl (.pure (.lenStr _ _ rfl Try.underlying9 rfl)) rfl rfl ?_
  refine Ch.step (v := (.d (.bool (decide (1048576 < ((u.length : Nat) : Int)))))) rfl (.pure (.int _ _ _ _ _ rfl rfl rfl rfl)) rfl rfl ?_
  refine Ch.nil ?_
  refine T_cond (b := (decide (1048576 < ((u.length : Nat) : Int)))) rfl (fun h1 => ?_) (fun h1 => ?_)
  · replace h1 := of_decide_eq_true h1
    try have hu0 : u.length ≤ 1048576 := by omega
    refine T_seq ?_
    refine T_region hc ?_
    refine Ch.step (v := (.d (.bool true))) rfl (.pure (.assign _ rfl rfl)) rfl rfl ?_
    refine Ch.nil ?_
    refine T_ret ?_
    refine And.intro (.inr rfl) ?_
    exact Exists.intro [(.d (.bool true))] (Exists.intro [] (Exists.intro [] (And.intro (.cons (.tmp 6 rfl) .nil) (And.intro (.cons (.any _) (.cons (.any _) (.cons (.any _) .nil))) (And.intro (.d _) (And.intro rfl rfl))))))
  · replace h1 := of_decide_eq_false h1
    try have hu0 : u.length ≤ 1048576 := by omega
    refine T_skip ?_
    refine T_seq ?_
    refine T_region hc ?_
    refine Ch.step (v := (.d (.int .i64 1048576))) rfl (.pure (.assign _ rfl rfl)) rfl rfl ?_
    refine Ch.nil ?_
    refine T_seq ?_
    refine T_region hc ?_
    refine Ch.step (v := (.agg [(.d (.slice false 2 (x.sigs.map Sgn.d))), (.d (.slice false 4 (x.gates.map Gat.d)))])) rfl (.pure (.loadPtrA _ _ rfl ag25 sz25 rfl rfl (Nat.le_of_ble_eq_true rfl) rfl)) rfl rfl ?_
    refine Ch.step (v := (.d (.int .i64 1048576))) rfl (.pure (.move _ rfl rfl)) rfl rfl ?_
    refine Ch.step (v := (.d (.int .i64 (szR x.bulk 1048576)))) rfl (.call 18000 13 _ _ _ en13 rfl (.inl rfl) (.cons (.lend (.agg (.cons (.d _) (.cons (.d _) .nil)) rfl)) (.cons (.d _) .nil)) rfl rfl (sp_laws_szCircuit x 1048576 (by first | omega | assumption | (exact hx _ (getD_mem (by omega))) | (exact hx _ (by assumption)) | (exact Nat.le_trans (hx _ (by assumption)) (by omega)) | (simp only [List.length_append, List.length_take, List.length_drop, List.length_cons, List.length_nil]; omega) | (simp_all; done)) (by first | omega | assumption | (exact hx _ (getD_mem (by omega))) | (exact hx _ (by assumption)) | (exact Nat.le_trans (hx _ (by assumption)) (by omega)) | (simp only [List.length_append, List.length_take, List.length_drop, List.length_cons, List.length_nil]; omega) | (simp_all; done)) (by first | assumption | omega | trivial | (simp_all; done) | (exact fun _ _ => trivial) | (exact hx _ (by assumption)) | (refine ⟨?_, ?_⟩ <;> first | assumption | omega))) (.skip _ _ (.skip _ _ .nil)) rfl) rfl rfl ?_
    refine Ch.step (v := (.d (.int .i64 (szR x.bulk 1048576)))) rfl (.pure (.assign _ rfl rfl)) rfl rfl ?_
    refine Ch.nil ?_
    refine T_seq ?_
    refine T_seq ?_
    refine T_region hc ?_
    refine Ch.step (v := (.d (.int .i64 (szR x.bulk 1048576)))) rfl (.pure (.move _ rfl rfl)) rfl rfl ?_
    refine Ch.step (v := (.d (.bool (decide ((szR x.bulk 1048576) < 0))))) rfl (.pure (.int _ _ _ _ _ rfl rfl rfl rfl)) rfl rfl ?_
    refine Ch.nil ?_
    refine T_cond (b := (decide ((szR x.bulk 1048576) < 0))) rfl (fun h2 => ?_) (fun h2 => ?_)
    · replace h2 := of_decide_eq_true h2
      try have hz := szR_ok (t := x.bulk) (left := 1048576) h2 (by omega)
      try have hb : x.bulk ≤ 1048576 := by omega
      try have hl := hz.2
      refine T_seq ?_
      refine T_region hc ?_
      refine Ch.step (v := (.d (.bool true))) rfl (.pure (.assign _ rfl rfl)) rfl rfl ?_
      refine Ch.nil ?_
      refine T_ret ?_
      refine And.intro (.inr rfl) ?_
      exact Exists.intro [(.d (.bool true))] (Exists.intro [] (Exists.intro [] (And.intro (.cons (.tmp 6 rfl) .nil) (And.intro (.cons (.any _) (.cons (.any _) (.cons (.any _) .nil))) (And.intro (.d _) (And.intro rfl rfl))))))
    · replace h2 := of_decide_eq_false h2
      try have hz := szR_ok (t := x.bulk) (left := 1048576) h2 (by omega)
      try have hb : x.bulk ≤ 1048576 := by omega
      try have hl := hz.2
      refine T_skip ?_
      refine T_seq ?_
      refine T_region hc ?_
      refine Ch.step (v := (.agg [(.d (.slice false 2 (x.sigs.map Sgn.d))), (.d (.slice false 4 (x.gates.map Gat.d)))])) rfl (.pure (.loadPtrA _ _ rfl ag25 sz25 rfl rfl (Nat.le_of_ble_eq_true rfl) rfl)) rfl rfl ?_
      refine Ch.step (v := (.agg [(.row 23000), (.row 23001)])) rfl (.call 23000 15 _ _ _ en15 rfl (.inl rfl) (.cons (.lend (.agg (.cons (.d _) (.cons (.d _) .nil)) rfl)) .nil) rfl (sol (Cir.sol _) rfl) (sp_laws_toCircuit x (by first | assumption | omega | (rw [List.length_take]; omega) | (have := bulkF_mem hb _ (getD_mem (d := default) (by omega)); assumption) | (unfold bulkS at *; omega) | (simp_all; done))) (.skip _ _ .nil) rfl) rfl rfl ?_
      refine Ch.step (v := (.d (.str u))) rfl (.pure (.move _ rfl rfl)) rfl rfl ?_
      refine Ch.step (v := (.d (.int .i64 k))) rfl (.pure (.move _ rfl rfl)) rfl rfl ?_
      refine Ch.step (v := (.tup [(.d (.bool (ngV x u k))), (.d (.bool (ngB x u k)))])) rfl (.call 26000 14 _ _ _ en14 rfl (.inl rfl) (.cons (.lend (.agg (.cons (.row rfl (frozs_map (fun _ => rfl) _)) (.cons (.row rfl (frozs_to Gat.fz _)) .nil)) rfl)) (.cons (.d _) (.cons (.d _) .nil))) rfl rfl (sp_spec_NextGateValue x u k (by first | assumption | omega | (rw [List.length_take]; omega) | (have := bulkF_mem hb _ (getD_mem (d := default) (by omega)); assumption) | (unfold bulkS at *; omega) | (simp_all; done)) (by first | assumption | omega | (rw [List.length_take]; omega) | (have := bulkF_mem hb _ (getD_mem (d := default) (by omega)); assumption) | (unfold bulkS at *; omega) | (simp_all; done))) (.skip _ _ (.skip _ _ (.skip _ _ .nil))) rfl) rfl rfl ?_
      refine Ch.step (v := (.tup [(.d (.bool (ngV x u k))), (.d (.bool (ngB x u k)))])) rfl (.pure (.move _ rfl rfl)) rfl rfl ?_
      refine Ch.step (v := (.d (.bool (ngV x u k)))) rfl (.pure (.extract _ rfl rfl rfl)) rfl rfl ?_
      refine Ch.step (v := (.d (.bool (ngB x u k)))) rfl (.pure (.extract _ rfl rfl rfl)) rfl rfl ?_
      refine Ch.step (v := (.d (.bool (ngV x u k)))) rfl (.pure (.assign _ rfl rfl)) rfl rfl ?_
      refine Ch.step (v := (.d (.bool (ngB x u k)))) rfl (.pure (.assign _ rfl rfl)) rfl rfl ?_
      refine Ch.nil ?_
      refine T_seq ?_
      refine T_region hc ?_
      refine Ch.step (v := (.agg [(.d (.slice false 2 (x.sigs.map Sgn.d))), (.d (.slice false 4 (x.gates.map Gat.d)))])) rfl (.pure (.loadPtrA _ _ rfl ag25 sz25 rfl rfl (Nat.le_of_ble_eq_true rfl) rfl)) rfl rfl ?_
      refine Ch.step (v := (.agg [(.row 30000), (.row 30001)])) rfl (.call 30000 15 _ _ _ en15 rfl (.inl rfl) (.cons (.lend (.agg (.cons (.d _) (.cons (.d _) .nil)) rfl)) .nil) rfl (sol (Cir.sol _) rfl) (sp_laws_toCircuit x (by first | assumption | omega | (rw [List.length_take]; omega) | (have := bulkF_mem hb _ (getD_mem (d := default) (by omega)); assumption) | (unfold bulkS at *; omega) | (simp_all; done))) (.skip _ _ .nil) rfl) rfl rfl ?_
      refine Ch.step (v := (.ptr 10000 0)) rfl (.alloc 10000 _ rfl zer32) rfl rfl ?_
      refine Ch.step (v := .junk) rfl (.storePtr _ _ _ rfl rfl rfl (.agg _ rfl) sz32 (Nat.le_of_ble_eq_true rfl)) rfl rfl ?_
      refine Ch.nil ?_
      refine T_seq ?_
      refine T_region hc ?_
      refine Ch.step (v := (.agg [(.row 30000), (.row 30001)])) rfl (.pure (.loadPtrA _ _ rfl ag32 sz32 rfl rfl (Nat.le_of_ble_eq_true rfl) rfl)) rfl rfl ?_
      refine Ch.step (v := (.d (.str u))) rfl (.pure (.move _ rfl rfl)) rfl rfl ?_
      refine Ch.step (v := (.d (.int .i64 k))) rfl (.pure (.move _ rfl rfl)) rfl rfl ?_
      refine Ch.step (v := (.tup [(.d (.bool (ngV x u k))), (.d (.bool (ngB x u k)))])) rfl (.call 35000 16 _ _ _ en16 rfl (.inl rfl) (.cons (.lend (.agg (.cons (.row rfl (frozs_map (fun _ => rfl) _)) (.cons (.row rfl (frozs_to Gat.fz _)) .nil)) rfl)) (.cons (.d _) (.cons (.d _) .nil))) rfl rfl (sp_impl_NextGateValue x u k (by first | assumption | omega | (rw [List.length_take]; omega) | (have := bulkF_mem hb _ (getD_mem (d := default) (by omega)); assumption) | (unfold bulkS at *; omega) | (simp_all; done)) (by first | assumption | omega | (rw [List.length_take]; omega) | (have := bulkF_mem hb _ (getD_mem (d := default) (by omega)); assumption) | (unfold bulkS at *; omega) | (simp_all; done))) (.skip _ _ (.skip _ _ (.skip _ _ .nil))) rfl) rfl rfl ?_
      refine Ch.step (v := (.tup [(.d (.bool (ngV x u k))), (.d (.bool (ngB x u k)))])) rfl (.pure (.move _ rfl rfl)) rfl rfl ?_
      refine Ch.step (v := (.d (.bool (ngV x u k)))) rfl (.pure (.extract _ rfl rfl rfl)) rfl rfl ?_
      refine Ch.step (v := (.d (.bool (ngB x u k)))) rfl (.pure (.extract _ rfl rfl rfl)) rfl rfl ?_
      refine Ch.step (v := (.d (.bool (ngV x u k)))) rfl (.pure (.assign _ rfl rfl)) rfl rfl ?_
      refine Ch.step (v := (.d (.bool (ngB x u k)))) rfl (.pure (.assign _ rfl rfl)) rfl rfl ?_
      refine Ch.nil ?_
      refine T_seq ?_
      refine T_seq ?_
      refine T_region hc ?_
      refine Ch.step (v := (.d (.bool (ngV x u k)))) rfl (.pure (.move _ rfl rfl)) rfl rfl ?_
      refine Ch.step (v := (.d (.bool (ngV x u k)))) rfl (.pure (.move _ rfl rfl)) rfl rfl ?_
      refine Ch.step (v := (.d (.bool (!(decide ((ngV x u k) = (ngV x u k))))))) rfl (.pure (.neB _ _ _ _ rfl Try.underlying4 rfl rfl)) rfl rfl ?_
      refine Ch.step (v := (.d (.bool (!(decide ((ngV x u k) = (ngV x u k))))))) rfl (.pure (.move _ rfl rfl)) rfl rfl ?_
      cases h3 : (decide ((ngV x u k) = (ngV x u k))) with
      | true =>
        replace h3 := of_decide_eq_true h3
        refine Ch.step (v := (.d (.bool (ngB x u k)))) rfl (.pure (.move _ rfl rfl)) rfl rfl ?_
        refine Ch.step (v := (.d (.bool (ngB x u k)))) rfl (.pure (.move _ rfl rfl)) rfl rfl ?_
        refine Ch.step (v := (.d (.bool (!(decide ((ngB x u k) = (ngB x u k))))))) rfl (.pure (.neB _ _ _ _ rfl Try.underlying4 rfl rfl)) rfl rfl ?_
        refine Ch.step (v := (.d (.bool (!(decide ((ngB x u k) = (ngB x u k))))))) rfl (.pure (.pickF _ _ _ rfl rfl rfl)) rfl rfl ?_
        refine Ch.nil ?_
        refine T_cond (b := (!(decide ((ngB x u k) = (ngB x u k))))) rfl (fun h4 => ?_) (fun h4 => ?_)
        · replace h4 := nott h4
          replace h4 := of_decide_eq_false h4
          refine T_seq ?_
          refine T_region hc ?_
          refine Ch.step (v := (.d (.bool false))) rfl (.pure (.assign _ rfl rfl)) rfl rfl ?_
          refine Ch.nil ?_
          refine T_ret ?_
          refine And.intro (.inr rfl) ?_
          exact Exists.intro [(.d (.bool false))] (Exists.intro [] (Exists.intro [] (And.intro (.cons (.tmp 6 rfl) .nil) (And.intro (.cons (.any _) (.cons (.any _) (.cons (.any _) .nil))) (And.intro (Exp.of (congrArg D.bool (by first | rfl | contradiction | (exfalso; omega) | (simp_all; done) | (exfalso; simp_all; omega))) (.d _)) (And.intro rfl rfl))))))
        · replace h4 := notf h4
          replace h4 := of_decide_eq_true h4
          refine T_skip ?_
          refine T_seq ?_
          refine T_seq ?_
          refine T_regionD hc (by kernel_rfl) ?_
          refine ChD.step (v := (.agg [(.row 30000), (.row 30001)])) [10000, 30000, 30001] rfl (.pure (.loadPtrA _ _ rfl ag32 sz32 rfl rfl (Nat.le_of_ble_eq_true rfl) rfl)) rfl rfl ?_
          refine ChD.step (v := (.agg [(.d (.slice false 2 (x.sigs.map Sgn.d))), (.d (.slice false 4 (x.gates.map Gat.d)))])) [3000] rfl (.pure (.loadPtrA _ _ rfl ag25 sz25 rfl rfl (Nat.le_of_ble_eq_true rfl) rfl)) rfl rfl ?_
          refine ChD.step (v := (.agg [(.row 48000), (.row 48001)])) [] rfl (.call 48000 15 _ _ _ en15 rfl (.inl rfl) (.cons (.lend (.agg (.cons (.d _) (.cons (.d _) .nil)) rfl)) .nil) rfl (sol (Cir.sol _) rfl) (sp_laws_toCircuit x (by first | assumption | omega | (rw [List.length_take]; omega) | (have := bulkF_mem hb _ (getD_mem (d := default) (by omega)); assumption) | (unfold bulkS at *; omega) | (simp_all; done))) (.skip _ _ .nil) rfl) rfl rfl ?_
          refine ChD.step (v := (.d (.bool (decide (x = x))))) [30000, 30001, 48000, 48001] rfl (.call 49000 17 _ _ _ en17 rfl (.inl rfl) (.cons (.lend (.agg (.cons (.row rfl (frozs_map (fun _ => rfl) _)) (.cons (.row rfl (frozs_to Gat.fz _)) .nil)) rfl)) (.cons (.lend (.agg (.cons (.row rfl (frozs_map (fun _ => rfl) _)) (.cons (.row rfl (frozs_to Gat.fz _)) .nil)) rfl)) .nil)) rfl rfl (sp_laws_eqCircuit x x (by first | assumption | omega | (rw [List.length_take]; omega) | (have := bulkF_mem hb _ (getD_mem (d := default) (by omega)); assumption) | (unfold bulkS at *; omega) | (simp_all; done))) (.skip _ _ (.skip _ _ .nil)) rfl) rfl rfl ?_
          refine ChD.step (v := (.d (.bool (!(decide (x = x)))))) [] rfl (.pure (.not _ _ rfl rfl)) rfl rfl ?_
          refine ChD.nil (And.intro ?_ (by kernel_rfl))
          refine T_cond (b := (!(decide (x = x)))) rfl (fun h5 => ?_) (fun h5 => ?_)
          · replace h5 := nott h5
            replace h5 := of_decide_eq_false h5
            refine T_seq ?_
            refine T_region hc ?_
            refine Ch.step (v := (.d (.bool false))) rfl (.pure (.assign _ rfl rfl)) rfl rfl ?_
            refine Ch.nil ?_
            refine T_ret ?_
            refine And.intro (.inr rfl) ?_
            exact Exists.intro [(.d (.bool false))] (Exists.intro [] (Exists.intro [] (And.intro (.cons (.tmp 6 rfl) .nil) (And.intro (.cons (.any _) (.cons (.any _) (.cons (.any _) .nil))) (And.intro (Exp.of (congrArg D.bool (by first | rfl | contradiction | (exfalso; omega) | (simp_all; done) | (exfalso; simp_all; omega))) (.d _)) (And.intro rfl rfl))))))
          · replace h5 := notf h5
            replace h5 := of_decide_eq_true h5
            refine T_skip ?_
            refine T_seq ?_
            refine T_region hc ?_
            refine Ch.step (v := (.d (.bool true))) rfl (.pure (.assign _ rfl rfl)) rfl rfl ?_
            refine Ch.nil ?_
            refine T_ret ?_
            refine And.intro (.inr rfl) ?_
            exact Exists.intro [(.d (.bool true))] (Exists.intro [] (Exists.intro [] (And.intro (.cons (.tmp 6 rfl) .nil) (And.intro (.cons (.any _) (.cons (.any _) (.cons (.any _) .nil))) (And.intro (.d _) (And.intro rfl rfl))))))
      | false =>
        replace h3 := of_decide_eq_false h3
        refine Ch.skip rfl rfl ?_
        refine Ch.skip rfl rfl ?_
        refine Ch.skip rfl rfl ?_
        refine Ch.step (v := (.d (.bool true))) rfl (.pure (.pickT _ _ _ rfl rfl rfl)) rfl rfl ?_
        refine Ch.nil ?_
        refine T_cond (b := true) rfl (fun _ => ?_) (fun h => nomatch h)
        refine T_seq ?_
        refine T_region hc ?_
        refine Ch.step (v := (.d (.bool false))) rfl (.pure (.assign _ rfl rfl)) rfl rfl ?_
        refine Ch.nil ?_
        refine T_ret ?_
        refine And.intro (.inr rfl) ?_
        exact Exists.intro [(.d (.bool false))] (Exists.intro [] (Exists.intro [] (And.intro (.cons (.tmp 6 rfl) .nil) (And.intro (.cons (.any _) (.cons (.any _) (.cons (.any _) .nil))) (And.intro (Exp.of (congrArg D.bool (by first | rfl | contradiction | (exfalso; omega) | (simp_all; done) | (exfalso; simp_all; omega))) (.d _)) (And.intro rfl rfl))))))

end Go.AM
