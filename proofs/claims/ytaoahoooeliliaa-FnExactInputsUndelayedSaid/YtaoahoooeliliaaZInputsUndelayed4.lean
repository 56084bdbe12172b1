/-
  The contracts that the law FnExactInputsUndelayed needs.
-/
import Derived.Test.YtaoahoooeliliaaZInputsUndelayed3
namespace Go.AM
open Go.Proofs
set_option linter.unusedVariables false
set_option linter.unusedSimpArgs false

theorem sp_spec_InputsUndelayed (x : Sgr) (u : List UInt8) (hb : x.bulk ≤ 1048576) (hu : u.length ≤ 1048576) : Sp Try.prog 35 [(.agg [(.slice false 2 (x.sigs.map Sgn.d)), (.slice false 1 (x.codes.map D.str)), (.slice false 4 (x.arcs.map Arc.d))]), (.str u)] [.any, .any] (.tup [(.bool (iuV x u)), (.bool (ivB x u))]) := by
  refine Sp_intro (lend := true) Try.func35 rfl rfl rfl (fun _ => rfl) (fun c hc hX => ?_)
  obtain ⟨hp0, hp1, hp2⟩ := Sgr.parts hb
  have hn0 := bulkF_len hp0
  have hn1 := bulk_len hp1
  have hx1 := bulk_mem hp1
  have hn2 := bulkF_len hp2
  refine T_seq ?_
  refine T_region hc ?_
  refine Ch.step (v := (.ptr 2000 0)) rfl (.box 2000 _ _ rfl (.aggD _)) rfl rfl ?_
  refine Ch.step (v := (.d (.bool false))) rfl (.pure (.assign _ rfl rfl)) rfl rfl ?_
  refine Ch.step (v := (.d (.bool false))) rfl (.pure (.assign _ rfl rfl)) rfl rfl ?_
  refine Ch.nil ?_
  refine T_seq ?_
  refine T_seq ?_
  refine T_region hc ?_
  refine Ch.step (v := (.agg [(.d (.slice false 2 (x.sigs.map Sgn.d))), (.d (.slice false 1 (x.codes.map D.str))), (.d (.slice false 4 (x.arcs.map Arc.d)))])) rfl (.pure (.loadPtrA _ _ rfl ag52 sz52 rfl rfl (Nat.le_of_ble_eq_true rfl) rfl)) rfl rfl ?_
  refine Ch.step (v := (.d (.str u))) rfl (.pure (.move _ rfl rfl)) rfl rfl ?_
  refine Ch.step (v := (.d (.bool (ivB x u)))) rfl (.call 8000 84 _ _ _ en84 rfl (.inl rfl) (.cons (.lend (.agg (.cons (.d _) (.cons (.d _) (.cons (.d _) .nil))) rfl)) (.cons (.d _) .nil)) rfl rfl (sp_spec_l11Asked x u (by first | assumption | omega | (rw [List.length_take]; omega) | (have := bulkF_mem hb _ (getD_mem (d := default) (by omega)); assumption) | (unfold bulkS at *; omega) | (simp_all; done)) (by first | assumption | omega | (rw [List.length_take]; omega) | (have := bulkF_mem hb _ (getD_mem (d := default) (by omega)); assumption) | (unfold bulkS at *; omega) | (simp_all; done))) (.skip _ _ (.skip _ _ .nil)) rfl) rfl rfl ?_
  refine Ch.step (v := (.d (.bool (!(ivB x u))))) rfl (.pure (.not _ _ rfl rfl)) rfl rfl ?_
  refine Ch.nil ?_
  refine T_cond (b := (!(ivB x u))) rfl (fun h1 => ?_) (fun h1 => ?_)
  · replace h1 := nott h1
    try have hfh := iv_has (by assumption : ivB x u = true)
    try have hen : ends u.length x.arcs := by (rw [hfh.2]; exact (sg_has hfh.1).ends)
    try have hsl : ∀ a ∈ x.arcs, a.sig < (x.sigs.length : Int) := fun a ha => ((sg_has hfh.1).sig a ha).1
    refine T_seq ?_
    refine T_region hc ?_
    refine Ch.step (v := (.d (.bool false))) rfl (.pure (.assign _ rfl rfl)) rfl rfl ?_
    refine Ch.step (v := (.d (.bool false))) rfl (.pure (.assign _ rfl rfl)) rfl rfl ?_
    refine Ch.nil ?_
    refine T_ret ?_
    refine And.intro (.inr rfl) ?_
    exact Exists.intro [(.d (.bool false)), (.d (.bool false))] (Exists.intro [] (Exists.intro [] (And.intro (.cons (.tmp 4 rfl) (.cons (.tmp 5 rfl) .nil)) (And.intro (.cons (.any _) (.cons (.any _) .nil)) (And.intro (.tup (.cons (Exp.of (congrArg D.bool (by first | (rw [iuV, h1]; rfl) | (rw [h1]; done))) (.d _)) (.cons (Exp.of (congrArg D.bool (by first | (rw [iuV, h1]; rfl) | (rw [h1]; done))) (.d _)) .nil))) (And.intro rfl rfl))))))
  · replace h1 := notf h1
    try have hfh := iv_has (by assumption : ivB x u = true)
    try have hen : ends u.length x.arcs := by (rw [hfh.2]; exact (sg_has hfh.1).ends)
    try have hsl : ∀ a ∈ x.arcs, a.sig < (x.sigs.length : Int) := fun a ha => ((sg_has hfh.1).sig a ha).1
    refine T_skip ?_
    refine T_seq ?_
    refine T_region hc ?_
    refine Ch.step (v := (.agg [(.d (.slice false 2 (x.sigs.map Sgn.d))), (.d (.slice false 1 (x.codes.map D.str))), (.d (.slice false 4 (x.arcs.map Arc.d)))])) rfl (.pure (.loadPtrA _ _ rfl ag52 sz52 rfl rfl (Nat.le_of_ble_eq_true rfl) rfl)) rfl rfl ?_
    refine Ch.step (v := (.d (.str u))) rfl (.pure (.move _ rfl rfl)) rfl rfl ?_
    refine Ch.step (v := (.d (.bool (freeB x u)))) rfl (.call 12000 85 _ _ _ en85 rfl (.inl rfl) (.cons (.lend (.agg (.cons (.d _) (.cons (.d _) (.cons (.d _) .nil))) rfl)) (.cons (.d _) .nil)) rfl rfl (sp_spec_l11Free x u (by first | assumption | omega | (rw [List.length_take]; omega) | (have := bulkF_mem hb _ (getD_mem (d := default) (by omega)); assumption) | (unfold bulkS at *; omega) | (simp_all; done)) (by first | assumption | omega | (rw [List.length_take]; omega) | (have := bulkF_mem hb _ (getD_mem (d := default) (by omega)); assumption) | (unfold bulkS at *; omega) | (simp_all; done)) (by assumption) (by assumption)) (.skip _ _ (.skip _ _ .nil)) rfl) rfl rfl ?_
    refine Ch.step (v := (.d (.bool (freeB x u)))) rfl (.pure (.assign _ rfl rfl)) rfl rfl ?_
    refine Ch.step (v := (.d (.bool true))) rfl (.pure (.assign _ rfl rfl)) rfl rfl ?_
    refine Ch.nil ?_
    refine T_ret ?_
    refine And.intro (.inr rfl) ?_
    exact Exists.intro [(.d (.bool (freeB x u))), (.d (.bool true))] (Exists.intro [] (Exists.intro [] (And.intro (.cons (.tmp 4 rfl) (.cons (.tmp 5 rfl) .nil)) (And.intro (.cons (.any _) (.cons (.any _) .nil)) (And.intro (.tup (.cons (Exp.of (congrArg D.bool (by first | (rw [iuV, h1]; rfl) | (rw [h1]; done))) (.d _)) (.cons (Exp.of (congrArg D.bool (by first | (rw [iuV, h1]; rfl) | (rw [h1]; done))) (.d _)) .nil))) (And.intro rfl rfl))))))

set_option maxHeartbeats 1000000 in
theorem sp_laws_FnExactInputsUndelayed (x : Sgr) (u : List UInt8) (hwx : x.wide) : Sp Try.prog 9 [(.agg [(.slice false 2 (x.sigs.map Sgn.d)), (.slice false 1 (x.codes.map D.str)), (.slice false 4 (x.arcs.map Arc.d))]), (.str u)] [.any, .any] (.bool true) := by
  refine Sp_intro (lend := true) Try.func9 rfl rfl rfl (fun _ => rfl) (fun c hc hX => ?_)
  refine T_seq ?_
  refine T_region hc ?_
  refine Ch.step (v := (.ptr 2000 0)) rfl (.box 2000 _ _ rfl (.aggD _)) rfl rfl ?_
  refine Ch.step (v := (.d (.bool false))) rfl (.pure (.assign _ rfl rfl)) rfl rfl ?_
  refine Ch.nil ?_
  refine T_seq ?_
  refine T_seq ?_
  refine T_region hc ?_
  refine Ch.step (v := (.d (.str u))) rfl (.pure (.move _ rfl rfl)) rfl rfl ?_
  refine Ch.step (v := (.d (.int .i64 ((u.length : Nat) : Int)))) rfl (.pure (.lenStr _ _ rfl Try.underlying9 rfl)) rfl rfl ?_
  refine Ch.step (v := (.d (.bool (decide (1048576 < ((u.length : Nat) : Int)))))) rfl (.pure (.int _ _ _ _ _ rfl rfl rfl rfl)) rfl rfl ?_
  refine Ch.nil ?_
  refine T_cond (b := (decide (1048576 < ((u.length : Nat) : Int)))) rfl (fun h1 => ?_) (fun h1 => ?_)
  · replace h1 := of_decide_eq_true h1
    try have hu0 : u.length ≤ 1048576 := by omega
    refine T_seq ?_
    refine T_region hc ?_
    refine Ch.step (v := (.d (.bool true))) rfl (.pure (.assign _ rfl rfl)) rfl rfl ?_
    refine Ch.nil ?_
    refine T_ret ?_
    refine And.intro (.inr rfl) ?_
    exact Exists.intro [(.d (.bool true))] (Exists.intro [] (Exists.intro [] (And.intro (.cons (.tmp 4 rfl) .nil) (And.intro (.cons (.any _) (.cons (.any _) .nil)) (And.intro (.d _) (And.intro rfl rfl))))))
  · replace h1 := of_decide_eq_false h1
    try have hu0 : u.length ≤ 1048576 := by omega
    refine T_skip ?_
    refine T_seq ?_
    refine T_region hc ?_
    refine Ch.step (v := (.d (.int .i64 1048576))) rfl (.pure (.assign _ rfl rfl)) rfl rfl ?_
    refine Ch.nil ?_
    refine T_seq ?_
    refine T_region hc ?_
    refine Ch.step (v := (.agg [(.d (.slice false 2 (x.sigs.map Sgn.d))), (.d (.slice false 1 (x.codes.map D.str))), (.d (.slice false 4 (x.arcs.map Arc.d)))])) rfl (.pure (.loadPtrA _ _ rfl ag46 sz46 rfl rfl (Nat.le_of_ble_eq_true rfl) rfl)) rfl rfl ?_
    refine Ch.step (v := (.d (.int .i64 1048576))) rfl (.pure (.move _ rfl rfl)) rfl rfl ?_
    refine Ch.step (v := (.d (.int .i64 (szR x.bulk 1048576)))) rfl (.call 16000 24 _ _ _ en24 rfl (.inl rfl) (.cons (.lend (.agg (.cons (.d _) (.cons (.d _) (.cons (.d _) .nil))) rfl)) (.cons (.d _) .nil)) rfl rfl (sp_laws_szStateGraph x 1048576 (by first | omega | assumption | (exact hx _ (getD_mem (by omega))) | (exact hx _ (by assumption)) | (exact Nat.le_trans (hx _ (by assumption)) (by omega)) | (simp only [List.length_append, List.length_take, List.length_drop, List.length_cons, List.length_nil]; omega) | (simp_all; done)) (by first | omega | assumption | (exact hx _ (getD_mem (by omega))) | (exact hx _ (by assumption)) | (exact Nat.le_trans (hx _ (by assumption)) (by omega)) | (simp only [List.length_append, List.length_take, List.length_drop, List.length_cons, List.length_nil]; omega) | (simp_all; done)) (by first | assumption | omega | trivial | (simp_all; done) | (exact fun _ _ => trivial) | (exact hx _ (by assumption)) | (refine ⟨?_, ?_⟩ <;> first | assumption | omega))) (.skip _ _ (.skip _ _ .nil)) rfl) rfl rfl ?_
    refine Ch.step (v := (.d (.int .i64 (szR x.bulk 1048576)))) rfl (.pure (.assign _ rfl rfl)) rfl rfl ?_
    refine Ch.nil ?_
    refine T_seq ?_
    refine T_seq ?_
    refine T_region hc ?_
    refine Ch.step (v := (.d (.int .i64 (szR x.bulk 1048576)))) rfl (.pure (.move _ rfl rfl)) rfl rfl ?_
    refine Ch.step (v := (.d (.bool (decide ((szR x.bulk 1048576) < 0))))) rfl (.pure (.int _ _ _ _ _ rfl rfl rfl rfl)) rfl rfl ?_
    refine Ch.nil ?_
    refine T_cond (b := (decide ((szR x.bulk 1048576) < 0))) rfl (fun h2 => ?_) (fun h2 => ?_)
    · replace h2 := of_decide_eq_true h2
      try have hz := szR_ok (t := x.bulk) (left := 1048576) h2 (by omega)
      try have hb : x.bulk ≤ 1048576 := by omega
      try have hl := hz.2
      refine T_seq ?_
      refine T_region hc ?_
      refine Ch.step (v := (.d (.bool true))) rfl (.pure (.assign _ rfl rfl)) rfl rfl ?_
      refine Ch.nil ?_
      refine T_ret ?_
      refine And.intro (.inr rfl) ?_
      exact Exists.intro [(.d (.bool true))] (Exists.intro [] (Exists.intro [] (And.intro (.cons (.tmp 4 rfl) .nil) (And.intro (.cons (.any _) (.cons (.any _) .nil)) (And.intro (.d _) (And.intro rfl rfl))))))
    · replace h2 := of_decide_eq_false h2
      try have hz := szR_ok (t := x.bulk) (left := 1048576) h2 (by omega)
      try have hb : x.bulk ≤ 1048576 := by omega
      try have hl := hz.2
      refine T_skip ?_
      refine T_seq ?_
      refine T_region hc ?_
      refine Ch.step (v := (.agg [(.d (.slice false 2 (x.sigs.map Sgn.d))), (.d (.slice false 1 (x.codes.map D.str))), (.d (.slice false 4 (x.arcs.map Arc.d)))])) rfl (.pure (.loadPtrA _ _ rfl ag46 sz46 rfl rfl (Nat.le_of_ble_eq_true rfl) rfl)) rfl rfl ?_
      refine Ch.step (v := (.agg [(.row 21000), (.row 21001), (.row 21002)])) rfl (.call 21000 26 _ _ _ en26 rfl (.inl rfl) (.cons (.lend (.agg (.cons (.d _) (.cons (.d _) (.cons (.d _) .nil))) rfl)) .nil) rfl (sol (Sgr.sol _) rfl) (sp_laws_toStateGraph x (by first | assumption | omega | (rw [List.length_take]; omega) | (have := bulkF_mem hb _ (getD_mem (d := default) (by omega)); assumption) | (unfold bulkS at *; omega) | (simp_all; done))) (.skip _ _ .nil) rfl) rfl rfl ?_
      refine Ch.step (v := (.d (.str u))) rfl (.pure (.move _ rfl rfl)) rfl rfl ?_
      refine Ch.step (v := (.tup [(.d (.bool (iuV x u))), (.d (.bool (ivB x u)))])) rfl (.call 23000 35 _ _ _ en35 rfl (.inl rfl) (.cons (.lend (.agg (.cons (.row rfl (frozs_map (fun _ => rfl) _)) (.cons (.row rfl (frozs_map (fun _ => rfl) _)) (.cons (.row rfl (frozs_map (fun _ => rfl) _)) .nil))) rfl)) (.cons (.d _) .nil)) rfl rfl (sp_spec_InputsUndelayed x u (by first | assumption | omega | (rw [List.length_take]; omega) | (have := bulkF_mem hb _ (getD_mem (d := default) (by omega)); assumption) | (unfold bulkS at *; omega) | (simp_all; done)) (by first | assumption | omega | (rw [List.length_take]; omega) | (have := bulkF_mem hb _ (getD_mem (d := default) (by omega)); assumption) | (unfold bulkS at *; omega) | (simp_all; done))) (.skip _ _ (.skip _ _ .nil)) rfl) rfl rfl ?_
      refine Ch.step (v := (.tup [(.d (.bool (iuV x u))), (.d (.bool (ivB x u)))])) rfl (.pure (.move _ rfl rfl)) rfl rfl ?_
      refine Ch.step (v := (.d (.bool (iuV x u)))) rfl (.pure (.extract _ rfl rfl rfl)) rfl rfl ?_
      refine Ch.step (v := (.d (.bool (ivB x u)))) rfl (.pure (.extract _ rfl rfl rfl)) rfl rfl ?_
      refine Ch.step (v := (.d (.bool (iuV x u)))) rfl (.pure (.assign _ rfl rfl)) rfl rfl ?_
      refine Ch.step (v := (.d (.bool (ivB x u)))) rfl (.pure (.assign _ rfl rfl)) rfl rfl ?_
      refine Ch.nil ?_
      refine T_seq ?_
      refine T_region hc ?_
      refine Ch.step (v := (.agg [(.d (.slice false 2 (x.sigs.map Sgn.d))), (.d (.slice false 1 (x.codes.map D.str))), (.d (.slice false 4 (x.arcs.map Arc.d)))])) rfl (.pure (.loadPtrA _ _ rfl ag46 sz46 rfl rfl (Nat.le_of_ble_eq_true rfl) rfl)) rfl rfl ?_
      refine Ch.step (v := (.agg [(.row 27000), (.row 27001), (.row 27002)])) rfl (.call 27000 26 _ _ _ en26 rfl (.inl rfl) (.cons (.lend (.agg (.cons (.d _) (.cons (.d _) (.cons (.d _) .nil))) rfl)) .nil) rfl (sol (Sgr.sol _) rfl) (sp_laws_toStateGraph x (by first | assumption | omega | (rw [List.length_take]; omega) | (have := bulkF_mem hb _ (getD_mem (d := default) (by omega)); assumption) | (unfold bulkS at *; omega) | (simp_all; done))) (.skip _ _ .nil) rfl) rfl rfl ?_
      refine Ch.step (v := (.ptr 8000 0)) rfl (.alloc 8000 _ rfl zer52) rfl rfl ?_
      refine Ch.step (v := .junk) rfl (.storePtr _ _ _ rfl rfl rfl (.agg _ rfl) sz52 (Nat.le_of_ble_eq_true rfl)) rfl rfl ?_
      refine Ch.nil ?_
      refine T_seq ?_
      refine T_region hc ?_
      refine Ch.step (v := (.agg [(.row 27000), (.row 27001), (.row 27002)])) rfl (.pure (.loadPtrA _ _ rfl ag52 sz52 rfl rfl (Nat.le_of_ble_eq_true rfl) rfl)) rfl rfl ?_
      refine Ch.step (v := (.d (.str u))) rfl (.pure (.move _ rfl rfl)) rfl rfl ?_
      refine Ch.step (v := (.tup [(.d (.bool (iuV x u))), (.d (.bool (ivB x u)))])) rfl (.call 31000 36 _ _ _ en36 rfl (.inl rfl) (.cons (.lend (.agg (.cons (.row rfl (frozs_map (fun _ => rfl) _)) (.cons (.row rfl (frozs_map (fun _ => rfl) _)) (.cons (.row rfl (frozs_map (fun _ => rfl) _)) .nil))) rfl)) (.cons (.d _) .nil)) rfl rfl (sp_impl_InputsUndelayed x u (by first | assumption | omega | (rw [List.length_take]; omega) | (have := bulkF_mem hb _ (getD_mem (d := default) (by omega)); assumption) | (unfold bulkS at *; omega) | (simp_all; done)) (by first | assumption | omega | (rw [List.length_take]; omega) | (have := bulkF_mem hb _ (getD_mem (d := default) (by omega)); assumption) | (unfold bulkS at *; omega) | (simp_all; done))) (.skip _ _ (.skip _ _ .nil)) rfl) rfl rfl ?_
      refine Ch.step (v := (.tup [(.d (.bool (iuV x u))), (.d (.bool (ivB x u)))])) rfl (.pure (.move _ rfl rfl)) rfl rfl ?_
      refine Ch.step (v := (.d (.bool (iuV x u)))) rfl (.pure (.extract _ rfl rfl rfl)) rfl rfl ?_
      refine Ch.step (v := (.d (.bool (ivB x u)))) rfl (.pure (.extract _ rfl rfl rfl)) rfl rfl ?_
      refine Ch.step (v := (.d (.bool (iuV x u)))) rfl (.pure (.assign _ rfl rfl)) rfl rfl ?_
      refine Ch.step (v := (.d (.bool (ivB x u)))) rfl (.pure (.assign _ rfl rfl)) rfl rfl ?_
      refine Ch.nil ?_
      refine T_seq ?_
      refine T_seq ?_
      refine T_region hc ?_
      refine Ch.step (v := (.d (.bool (iuV x u)))) rfl (.pure (.move _ rfl rfl)) rfl rfl ?_
      refine Ch.step (v := (.d (.bool (iuV x u)))) rfl (.pure (.move _ rfl rfl)) rfl rfl ?_
      refine Ch.step (v := (.d (.bool (!(decide ((iuV x u) = (iuV x u))))))) rfl (.pure (.neB _ _ _ _ rfl Try.underlying4 rfl rfl)) rfl rfl ?_
      refine Ch.step (v := (.d (.bool (!(decide ((iuV x u) = (iuV x u))))))) rfl (.pure (.move _ rfl rfl)) rfl rfl ?_
      cases h3 : (decide ((iuV x u) = (iuV x u))) with
      | true =>
        replace h3 := of_decide_eq_true h3
        refine Ch.step (v := (.d (.bool (ivB x u)))) rfl (.pure (.move _ rfl rfl)) rfl rfl ?_
        refine Ch.step (v := (.d (.bool (ivB x u)))) rfl (.pure (.move _ rfl rfl)) rfl rfl ?_
        refine Ch.step (v := (.d (.bool (!(decide ((ivB x u) = (ivB x u))))))) rfl (.pure (.neB _ _ _ _ rfl Try.underlying4 rfl rfl)) rfl rfl ?_
        refine Ch.step (v := (.d (.bool (!(decide ((ivB x u) = (ivB x u))))))) rfl (.pure (.pickF _ _ _ rfl rfl rfl)) rfl rfl ?_
        refine Ch.nil ?_
        refine T_cond (b := (!(decide ((ivB x u) = (ivB x u))))) rfl (fun h4 => ?_) (fun h4 => ?_)
        · replace h4 := nott h4
          replace h4 := of_decide_eq_false h4
          refine T_seq ?_
          refine T_region hc ?_
          refine Ch.step (v := (.d (.bool false))) rfl (.pure (.assign _ rfl rfl)) rfl rfl ?_
          refine Ch.nil ?_
          refine T_ret ?_
          refine And.intro (.inr rfl) ?_
          exact Exists.intro [(.d (.bool false))] (Exists.intro [] (Exists.intro [] (And.intro (.cons (.tmp 4 rfl) .nil) (And.intro (.cons (.any _) (.cons (.any _) .nil)) (And.intro (Exp.of (congrArg D.bool (by first | rfl | contradiction | (exfalso; omega) | (simp_all; done) | (exfalso; simp_all; omega))) (.d _)) (And.intro rfl rfl))))))
        · replace h4 := notf h4
          replace h4 := of_decide_eq_true h4
          refine T_skip ?_
          refine T_seq ?_
          refine T_seq ?_
          refine T_regionD hc (by kernel_rfl) ?_
          refine ChD.step (v := (.agg [(.row 27000), (.row 27001), (.row 27002)])) [8000, 27000, 27001, 27002] rfl (.pure (.loadPtrA _ _ rfl ag52 sz52 rfl rfl (Nat.le_of_ble_eq_true rfl) rfl)) rfl rfl ?_
          refine ChD.step (v := (.agg [(.d (.slice false 2 (x.sigs.map Sgn.d))), (.d (.slice false 1 (x.codes.map D.str))), (.d (.slice false 4 (x.arcs.map Arc.d)))])) [2000] rfl (.pure (.loadPtrA _ _ rfl ag46 sz46 rfl rfl (Nat.le_of_ble_eq_true rfl) rfl)) rfl rfl ?_
          refine ChD.step (v := (.agg [(.row 44000), (.row 44001), (.row 44002)])) [] rfl (.call 44000 26 _ _ _ en26 rfl (.inl rfl) (.cons (.lend (.agg (.cons (.d _) (.cons (.d _) (.cons (.d _) .nil))) rfl)) .nil) rfl (sol (Sgr.sol _) rfl) (sp_laws_toStateGraph x (by first | assumption | omega | (rw [List.length_take]; omega) | (have := bulkF_mem hb _ (getD_mem (d := default) (by omega)); assumption) | (unfold bulkS at *; omega) | (simp_all; done))) (.skip _ _ .nil) rfl) rfl rfl ?_
          refine ChD.step (v := (.d (.bool (decide (x = x))))) [27000, 27001, 27002, 44000, 44001, 44002] rfl (.call 45000 28 _ _ _ en28 rfl (.inl rfl) (.cons (.lend (.agg (.cons (.row rfl (frozs_map (fun _ => rfl) _)) (.cons (.row rfl (frozs_map (fun _ => rfl) _)) (.cons (.row rfl (frozs_map (fun _ => rfl) _)) .nil))) rfl)) (.cons (.lend (.agg (.cons (.row rfl (frozs_map (fun _ => rfl) _)) (.cons (.row rfl (frozs_map (fun _ => rfl) _)) (.cons (.row rfl (frozs_map (fun _ => rfl) _)) .nil))) rfl)) .nil)) rfl rfl (sp_laws_eqStateGraph x x (by first | assumption | omega | (rw [List.length_take]; omega) | (have := bulkF_mem hb _ (getD_mem (d := default) (by omega)); assumption) | (unfold bulkS at *; omega) | (simp_all; done))) (.skip _ _ (.skip _ _ .nil)) rfl) rfl rfl ?_
          refine ChD.step (v := (.d (.bool (!(decide (x = x)))))) [] rfl (.pure (.not _ _ rfl rfl)) rfl rfl ?_
          refine ChD.nil (And.intro ?_ (by kernel_rfl))
          refine T_cond (b := (!(decide (x = x)))) rfl (fun h5 => ?_) (fun h5 => ?_)
          · replace h5 := nott h5
            replace h5 := of_decide_eq_false h5
            refine T_seq ?_
            refine T_region hc ?_
            refine Ch.step (v := (.d (.bool false))) rfl (.pure (.assign _ rfl rfl)) rfl rfl ?_
            refine Ch.nil ?_
            refine T_ret ?_
            refine And.intro (.inr rfl) ?_
            exact Exists.intro [(.d (.bool false))] (Exists.intro [] (Exists.intro [] (And.intro (.cons (.tmp 4 rfl) .nil) (And.intro (.cons (.any _) (.cons (.any _) .nil)) (And.intro (Exp.of (congrArg D.bool (by first | rfl | contradiction | (exfalso; omega) | (simp_all; done) | (exfalso; simp_all; omega))) (.d _)) (And.intro rfl rfl))))))
          · replace h5 := notf h5
            replace h5 := of_decide_eq_true h5
            refine T_skip ?_
            refine T_seq ?_
            refine T_region hc ?_
            refine Ch.step (v := (.d (.bool true))) rfl (.pure (.assign _ rfl rfl)) rfl rfl ?_
            refine Ch.nil ?_
            refine T_ret ?_
            refine And.intro (.inr rfl) ?_
            exact Exists.intro [(.d (.bool true))] (Exists.intro [] (Exists.intro [] (And.intro (.cons (.tmp 4 rfl) .nil) (And.intro (.cons (.any _) (.cons (.any _) .nil)) (And.intro (.d _) (And.intro rfl rfl))))))
      | false =>
        replace h3 := of_decide_eq_false h3
        refine Ch.skip rfl rfl ?_
        refine Ch.skip rfl rfl ?_
        refine Ch.skip rfl rfl ?_
        refine Ch.step (v := (.d (.bool true))) rfl (.pure (.pickT _ _ _ rfl rfl rfl)) rfl rfl ?_
        refine Ch.nil ?_
        refine T_cond (b := true) rfl (fun _ => ?_) (fun h => nomatch h)
        refine T_seq ?_
        refine T_region hc ?_
        refine Ch.step (v := (.d (.bool false))) rfl (.pure (.assign _ rfl rfl)) rfl rfl ?_
        refine Ch.nil ?_
        refine T_ret ?_
        refine And.intro (.inr rfl) ?_
        exact Exists.intro [(.d (.bool false))] (Exists.intro [] (Exists.intro [] (And.intro (.cons (.tmp 4 rfl) .nil) (And.intro (.cons (.any _) (.cons (.any _) .nil)) (And.intro (Exp.of (congrArg D.bool (by first | rfl | contradiction | (exfalso; omega) | (simp_all; done) | (exfalso; simp_all; omega))) (.d _)) (And.intro rfl rfl))))))

def two (m s : Nat) : Nat := m >>> s &&& 3

end Go.AM
