/-
  The contracts that the law FnExactFormatCircuit needs.
-/
import Derived.Test.YtfnomecncgejbaaZFormatCircuit2
namespace Go.AM
open Go.Proofs
set_option linter.unusedVariables false
set_option linter.unusedSimpArgs false

set_option maxHeartbeats 1000000 in
theorem sp_spec_FormatCircuit (x : Cir) (hb : x.bulk ≤ 1048576) : Sp Try.prog 57 [(.agg [(.slice false 2 (x.sigs.map Sgn.d)), (.slice false 4 (x.gates.map Gat.d))])] [.any] (.tup [(.str (cirT x)), (.bool (circB x))]) := by
  refine Sp_intro (lend := true) Try.func57 rfl rfl rfl (fun _ => rfl) (fun c hc hX => ?_)
  obtain ⟨hp0, hp1⟩ := Cir.parts hb
  have hn0 := bulkF_len hp0
  have hn1 := bulkF_len hp1
  refine T_seq ?_
  refine T_region hc ?_
  refine Ch.step (v := (.ptr 1000 0)) rfl (.box 1000 _ _ rfl (.aggD _)) rfl rfl ?_
  refine Ch.step (v := (.d (.str []))) rfl (.pure (.assign _ rfl rfl)) rfl rfl ?_
  refine Ch.step (v := (.d (.bool false))) rfl (.pure (.assign _ rfl rfl)) rfl rfl ?_
  refine Ch.nil ?_
  refine T_seq ?_
  refine T_seq ?_
  refine T_region hc ?_
  refine Ch.step (v := (.agg [(.d (.slice false 2 (x.sigs.map Sgn.d))), (.d (.slice false 4 (x.gates.map Gat.d)))])) rfl (.pure (.loadPtrA _ _ rfl ag60 sz60 rfl rfl (Nat.le_of_ble_eq_true rfl) rfl)) rfl rfl ?_
  refine Ch.step (v := (.d (.bool (circB x)))) rfl (.call 8000 91 _ _ _ en91 rfl (.inl rfl) (.cons (.lend (.agg (.cons (.d _) (.cons (.d _) .nil)) rfl)) .nil) rfl rfl (sp_spec_l16Good x (by first | assumption | omega | (rw [List.length_take]; omega) | (have := bulkF_mem hb _ (getD_mem (d := default) (by omega)); assumption) | (unfold bulkS at *; omega) | (simp_all; done))) (.skip _ _ .nil) rfl) rfl rfl ?_
  refine Ch.step (v := (.d (.bool (!(circB x))))) rfl (.pure (.not _ _ rfl rfl)) rfl rfl ?_
  refine Ch.nil ?_
  refine T_cond (b := (!(circB x))) rfl (fun h1 => ?_) (fun h1 => ?_)
  · replace h1 := nott h1
    try have hg := cirGood h1
    try have hsg := hg.sg
    try have hfw := hg.few
    refine T_seq ?_
    refine T_region hc ?_
    refine Ch.step (v := (.d (.str []))) rfl (.pure (.assign _ rfl rfl)) rfl rfl ?_
    refine Ch.step (v := (.d (.bool false))) rfl (.pure (.assign _ rfl rfl)) rfl rfl ?_
    refine Ch.nil ?_
    refine T_ret ?_
    refine And.intro (.inr rfl) ?_
    exact Exists.intro [(.d (.str [])), (.d (.bool false))] (Exists.intro [] (Exists.intro [] (And.intro (.cons (.tmp 2 rfl) (.cons (.tmp 3 rfl) .nil)) (And.intro (.cons (.any _) .nil) (And.intro (.tup (.cons (Exp.of (congrArg D.str (by first | (rw [cirT, h1]; rfl) | (rw [cirT, h1, if_pos rfl, ← hkk]; done) | (rw [cirT, if_pos h1, ← hkk]; done) | (rw [h1]; done))) (.d _)) (.cons (Exp.of (congrArg D.bool (by first | (rw [cirT, h1]; rfl) | (rw [cirT, h1, if_pos rfl, ← hkk]; done) | (rw [cirT, if_pos h1, ← hkk]; done) | (rw [h1]; done))) (.d _)) .nil))) (And.intro rfl rfl))))))
  · replace h1 := notf h1
    try have hg := cirGood h1
    try have hsg := hg.sg
    try have hfw := hg.few
    refine T_skip ?_
    refine T_seq ?_
    refine T_region hc ?_
    refine Ch.step (v := (.d (.str []))) rfl (.pure (.assign _ rfl rfl)) rfl rfl ?_
    refine Ch.nil ?_
    refine T_seq ?_
    refine T_seq ?_
    refine T_region hc ?_
    refine Ch.step (v := (.ptr 1000 1)) rfl (.pure (.fldPtr _ _ _ rfl fld60_1 rfl)) rfl rfl ?_
    refine Ch.step (v := (.d (.slice false 4 (x.gates.map Gat.d)))) rfl (.pure (.loadPtr1 _ _ rfl ag58 rfl rfl rfl)) rfl rfl ?_
    refine Ch.step (v := (.d (.int .i64 ((x.gates.length : Nat) : Int)))) rfl (.pure (.len _ _ 108 rfl Try.underlying58 (.sh _ _) (by simp))) rfl rfl ?_
    refine Ch.step (v := (.d (.int .i64 0))) rfl (.pure (.move _ rfl rfl)) rfl rfl ?_
    refine Ch.nil ?_
    refine T_block ?_
    refine T_loop (ι := Nat) (fun k => { n := 48, sl := [(1, (.ptr 1000 0)), (4, (.d (.str (cirTo x k)))), (11, (.d (.slice false 4 (x.gates.map Gat.d)))), (12, (.d (.int .i64 ((x.gates.length : Nat) : Int)))), (13, (.d (.int .i64 ((k : Nat) : Int))))], hp := [(1000, (some (.box [(.d (.slice false 2 (x.sigs.map Sgn.d))), (.d (.slice false 4 (x.gates.map Gat.d)))])))], pin := [] }) (fun k => k ≤ x.gates.length) (fun k => x.gates.length - k) ⟨0, (by omega), (Wk.of rfl rfl (And.intro rfl (And.intro (vS (by first | rfl | (rw [cirTo, gateT, if_pos (by assumption)]; simp only [List.append_assoc, List.nil_append, List.append_nil]; done) | (rw [cirTo, gateT, if_neg (by assumption)]; simp only [List.append_assoc, List.nil_append, List.append_nil]; done))) (And.intro rfl (And.intro rfl (And.intro (vI (by first | rfl | omega | (simp; done) | (simp; omega))) trivial))))) (And.intro rfl trivial))⟩ (fun k hp0 => ?_)
    have hct := cirTo_le hg k hp0
    refine T_seq ?_
    refine T_region hc ?_
    refine Ch.step (v := (.d (.bool (decide (((k : Nat) : Int) < ((x.gates.length : Nat) : Int)))))) rfl (.pure (.int _ _ _ _ _ rfl rfl rfl rfl)) rfl rfl ?_
    refine Ch.nil ?_
    refine T_seq ?_
    refine T_cond (b := (decide (((k : Nat) : Int) < ((x.gates.length : Nat) : Int)))) rfl (fun h2 => ?_) (fun h2 => ?_)
    · replace h2 := of_decide_eq_true h2
      try have hkg : (x.gates.getD k default).bulk ≤ 1048576 := bulkF_mem hp1 _ (getD_mem (l := x.gates) (j := k) (d := default) (by omega))
      try have hgp := Gat.parts hkg
      try have hgu := hgp.1
      try have hgd := hgp.2
      try have hgm := hg.ups _ (getD_mem (l := x.gates) (j := k) (d := default) (by omega))
      try have hgc := hgm.1
      try have hg0 := hgm.2.2.1
      try have hg1 := hgm.2.2.2
      try have hcv := covT_le hsg hgc
      try have hnm := (hsg.2 _ (getD_mem (l := x.sigs) (j := (x.gates.getD k default).sig.toNat) (d := default) hg1)).2
      try have hkk : k = x.gates.length := by omega
      refine T_skip ?_
      refine T_seq ?_
      refine T_block ?_
      refine T_seq ?_
      refine T_region hc ?_
      refine Ch.step (v := (.d (.ref (.agg [(.int .i64 ((x.gates.getD k default).sig)), (.int .i64 ((x.gates.getD k default).kind)), (.slice false 1 (((x.gates.getD k default).ups).map D.str)), (.slice false 1 (((x.gates.getD k default).downs).map D.str))])))) rfl (.pure (.idx _ _ _ 108 (k) rfl Try.underlying58 sz108 rfl rfl rfl (get_map _ (by first | omega | (simp only [List.length_map, List.length_append, List.length_take, List.length_drop, List.length_cons, List.length_nil]; omega) | (simp; omega) | (simp; done))))) rfl rfl ?_
      refine Ch.step (v := (.d (.agg [(.int .i64 ((x.gates.getD k default).sig)), (.int .i64 ((x.gates.getD k default).kind)), (.slice false 1 (((x.gates.getD k default).ups).map D.str)), (.slice false 1 (((x.gates.getD k default).downs).map D.str))]))) rfl (.pure (.loadRefA _ _ rfl ag108 sz108 rfl)) rfl rfl ?_
      refine Ch.step (v := (.ptr 6000 0)) rfl (.alloc 6000 _ rfl zer108) rfl rfl ?_
      refine Ch.step (v := .junk) rfl (.storePtr _ _ _ rfl rfl rfl (.aggD _) sz108 (Nat.le_of_ble_eq_true rfl)) rfl rfl ?_
      refine Ch.nil ?_
      refine T_seq ?_
      refine T_regionD hc (by kernel_rfl) ?_
      refine ChD.step (v := (.d (.str (cirTo x k)))) [] rfl (.pure (.move _ rfl rfl)) rfl rfl ?_
      refine ChD.step (v := (.ptr 1000 0)) [] rfl (.pure (.fldPtr _ _ _ rfl fld60_0 rfl)) rfl rfl ?_
      refine ChD.step (v := (.d (.slice false 2 (x.sigs.map Sgn.d)))) [1000] rfl (.pure (.loadPtr1 _ _ rfl ag41 rfl rfl rfl)) rfl rfl ?_
      refine ChD.step (v := (.ptr 6000 0)) [] rfl (.pure (.fldPtr _ _ _ rfl fld108_0 rfl)) rfl rfl ?_
      refine ChD.step (v := (.d (.int .i64 ((x.gates.getD k default).sig)))) [6000] rfl (.pure (.loadPtr1 _ _ rfl ag3 rfl rfl rfl)) rfl rfl ?_
      refine ChD.step (v := (.d (.ref (.agg [(.str ((x.sigs.getD ((((x.gates.getD k default).sig)).toNat) default).name)), (.int .i64 ((x.sigs.getD ((((x.gates.getD k default).sig)).toNat) default).kind))])))) [] rfl (.pure (.idx _ _ _ 85 ((((x.gates.getD k default).sig)).toNat) rfl Try.underlying41 sz85 rfl rfl (by omega) (get_map _ (by first | omega | (simp only [List.length_map, List.length_append, List.length_take, List.length_drop, List.length_cons, List.length_nil]; omega) | (simp; omega) | (simp; done))))) rfl rfl ?_
      refine ChD.step (v := (.d (.ref (.str ((x.sigs.getD ((((x.gates.getD k default).sig)).toNat) default).name))))) [] rfl (.pure (.fldRef _ _ _ rfl fld85_0 rfl rfl rfl)) rfl rfl ?_
      refine ChD.step (v := (.d (.str ((x.sigs.getD ((((x.gates.getD k default).sig)).toNat) default).name)))) [] rfl (.pure (.loadRef1 _ _ rfl ag9 rfl rfl)) rfl rfl ?_
      refine ChD.step (v := (.d (.str (((x.sigs.getD ((((x.gates.getD k default).sig)).toNat) default).name) ++ [32, 61, 32])))) [] rfl (.pure (.str _ _ _ _ _ rfl rfl rfl (strV_add (by first | omega | (simp only [List.length_map, List.length_append, List.length_take, List.length_drop, List.length_cons, List.length_nil]; omega) | (simp; omega) | (simp; done))))) rfl rfl ?_
      refine ChD.step (v := (.ptr 1000 0)) [] rfl (.pure (.fldPtr _ _ _ rfl fld60_0 rfl)) rfl rfl ?_
      refine ChD.step (v := (.d (.slice false 2 (x.sigs.map Sgn.d)))) [1000] rfl (.pure (.loadPtr1 _ _ rfl ag41 rfl rfl rfl)) rfl rfl ?_
      refine ChD.step (v := (.ptr 6000 2)) [] rfl (.pure (.fldPtr _ _ _ rfl fld108_2 rfl)) rfl rfl ?_
      refine ChD.step (v := (.d (.slice false 1 (((x.gates.getD k default).ups).map D.str)))) [6000] rfl (.pure (.loadPtr1 _ _ rfl ag22 rfl rfl rfl)) rfl rfl ?_
      refine ChD.step (v := (.d (.str (covT x.sigs ((x.gates.getD k default).ups))))) [] rfl (.call 30000 85 _ _ _ en85 rfl (.inl rfl) (.cons (.d _) (.cons (.d _) .nil)) rfl rfl (sp_spec_l13Text x.sigs ((x.gates.getD k default).ups) (by first | assumption | omega) (by first | assumption | omega)) (.skip _ _ (.skip _ _ .nil)) rfl) rfl rfl ?_
      refine ChD.step (v := (.d (.str ((((x.sigs.getD ((((x.gates.getD k default).sig)).toNat) default).name) ++ [32, 61, 32]) ++ (covT x.sigs ((x.gates.getD k default).ups)))))) [] rfl (.pure (.str _ _ _ _ _ rfl rfl rfl (strV_add (by first | omega | (simp only [List.length_map, List.length_append, List.length_take, List.length_drop, List.length_cons, List.length_nil]; omega) | (simp; omega) | (simp; done))))) rfl rfl ?_
      refine ChD.step (v := (.d (.str ((cirTo x k) ++ ((((x.sigs.getD ((((x.gates.getD k default).sig)).toNat) default).name) ++ [32, 61, 32]) ++ (covT x.sigs ((x.gates.getD k default).ups))))))) [] rfl (.pure (.str _ _ _ _ _ rfl rfl rfl (strV_add (by first | omega | (simp only [List.length_map, List.length_append, List.length_take, List.length_drop, List.length_cons, List.length_nil]; omega) | (simp; omega) | (simp; done))))) rfl rfl ?_
      refine ChD.step (v := (.d (.str ((cirTo x k) ++ ((((x.sigs.getD ((((x.gates.getD k default).sig)).toNat) default).name) ++ [32, 61, 32]) ++ (covT x.sigs ((x.gates.getD k default).ups))))))) [] rfl (.pure (.assign _ rfl rfl)) rfl rfl ?_
      refine ChD.nil (And.intro ?_ (by kernel_rfl))
      refine T_seq ?_
      refine T_seq ?_
      refine T_region hc ?_
      refine Ch.step (v := (.ptr 6000 1)) rfl (.pure (.fldPtr _ _ _ rfl fld108_1 rfl)) rfl rfl ?_
      refine Ch.step (v := (.d (.int .i64 ((x.gates.getD k default).kind)))) rfl (.pure (.loadPtr1 _ _ rfl ag3 rfl rfl rfl)) rfl rfl ?_
      refine Ch.step (v := (.d (.bool (decide (((x.gates.getD k default).kind) = 2))))) rfl (.pure (.int _ _ _ _ _ rfl rfl rfl rfl)) rfl rfl ?_
      refine Ch.nil ?_
      refine T_cond (b := (decide (((x.gates.getD k default).kind) = 2))) rfl (fun h3 => ?_) (fun h3 => ?_)
      · replace h3 := of_decide_eq_true h3
        try have hgw := hgm.2.1 h3
        try have hcw := covT_le hsg hgw
        refine T_region hc ?_
        refine Ch.step (v := (.d (.str ((cirTo x k) ++ ((((x.sigs.getD ((((x.gates.getD k default).sig)).toNat) default).name) ++ [32, 61, 32]) ++ (covT x.sigs ((x.gates.getD k default).ups))))))) rfl (.pure (.move _ rfl rfl)) rfl rfl ?_
        refine Ch.step (v := (.ptr 1000 0)) rfl (.pure (.fldPtr _ _ _ rfl fld60_0 rfl)) rfl rfl ?_
        refine Ch.step (v := (.d (.slice false 2 (x.sigs.map Sgn.d)))) rfl (.pure (.loadPtr1 _ _ rfl ag41 rfl rfl rfl)) rfl rfl ?_
        refine Ch.step (v := (.ptr 6000 3)) rfl (.pure (.fldPtr _ _ _ rfl fld108_3 rfl)) rfl rfl ?_
        refine Ch.step (v := (.d (.slice false 1 (((x.gates.getD k default).downs).map D.str)))) rfl (.pure (.loadPtr1 _ _ rfl ag22 rfl rfl rfl)) rfl rfl ?_
        refine Ch.step (v := (.d (.str (covT x.sigs ((x.gates.getD k default).downs))))) rfl (.call 41000 85 _ _ _ en85 rfl (.inl rfl) (.cons (.d _) (.cons (.d _) .nil)) rfl rfl (sp_spec_l13Text x.sigs ((x.gates.getD k default).downs) (by first | assumption | omega) (by first | assumption | omega)) (.skip _ _ (.skip _ _ .nil)) rfl) rfl rfl ?_
        refine Ch.step (v := (.d (.str ([32, 47, 32] ++ (covT x.sigs ((x.gates.getD k default).downs)))))) rfl (.pure (.str _ _ _ _ _ rfl rfl rfl (strV_add (by first | omega | (simp only [List.length_map, List.length_append, List.length_take, List.length_drop, List.length_cons, List.length_nil]; omega) | (simp; omega) | (simp; done))))) rfl rfl ?_
        refine Ch.step (v := (.d (.str (((cirTo x k) ++ ((((x.sigs.getD ((((x.gates.getD k default).sig)).toNat) default).name) ++ [32, 61, 32]) ++ (covT x.sigs ((x.gates.getD k default).ups)))) ++ ([32, 47, 32] ++ (covT x.sigs ((x.gates.getD k default).downs))))))) rfl (.pure (.str _ _ _ _ _ rfl rfl rfl (strV_add (by first | omega | (simp only [List.length_map, List.length_append, List.length_take, List.length_drop, List.length_cons, List.length_nil]; omega) | (simp; omega) | (simp; done))))) rfl rfl ?_
        refine Ch.step (v := (.d (.str (((cirTo x k) ++ ((((x.sigs.getD ((((x.gates.getD k default).sig)).toNat) default).name) ++ [32, 61, 32]) ++ (covT x.sigs ((x.gates.getD k default).ups)))) ++ ([32, 47, 32] ++ (covT x.sigs ((x.gates.getD k default).downs))))))) rfl (.pure (.assign _ rfl rfl)) rfl rfl ?_
        refine Ch.nil ?_
        refine T_region hc ?_
        refine Ch.step (v := (.d (.str (((cirTo x k) ++ ((((x.sigs.getD ((((x.gates.getD k default).sig)).toNat) default).name) ++ [32, 61, 32]) ++ (covT x.sigs ((x.gates.getD k default).ups)))) ++ ([32, 47, 32] ++ (covT x.sigs ((x.gates.getD k default).downs))))))) rfl (.pure (.move _ rfl rfl)) rfl rfl ?_
        refine Ch.step (v := (.d (.str ((((cirTo x k) ++ ((((x.sigs.getD ((((x.gates.getD k default).sig)).toNat) default).name) ++ [32, 61, 32]) ++ (covT x.sigs ((x.gates.getD k default).ups)))) ++ ([32, 47, 32] ++ (covT x.sigs ((x.gates.getD k default).downs)))) ++ [10])))) rfl (.pure (.str _ _ _ _ _ rfl rfl rfl (strV_add (by first | omega | (simp only [List.length_map, List.length_append, List.length_take, List.length_drop, List.length_cons, List.length_nil]; omega) | (simp; omega) | (simp; done))))) rfl rfl ?_
        refine Ch.step (v := (.d (.str ((((cirTo x k) ++ ((((x.sigs.getD ((((x.gates.getD k default).sig)).toNat) default).name) ++ [32, 61, 32]) ++ (covT x.sigs ((x.gates.getD k default).ups)))) ++ ([32, 47, 32] ++ (covT x.sigs ((x.gates.getD k default).downs)))) ++ [10])))) rfl (.pure (.assign _ rfl rfl)) rfl rfl ?_
        refine Ch.nil ?_
        refine T_region hc ?_
        refine Ch.step (v := (.d (.int .i64 (((k : Nat) : Int) + 1)))) rfl (.pure (.int _ _ _ _ _ rfl rfl rfl (intV_add (by first | omega | (simp only [List.length_map, List.length_append, List.length_take, List.length_drop, List.length_cons, List.length_nil]; omega) | (simp; omega) | (simp; done)) (by first | omega | (simp only [List.length_map, List.length_append, List.length_take, List.length_drop, List.length_cons, List.length_nil]; omega) | (simp; omega) | (simp; done))))) rfl rfl ?_
        refine Ch.step (v := (.d (.int .i64 (((k : Nat) : Int) + 1)))) rfl (.pure (.move _ rfl rfl)) rfl rfl ?_
        refine Ch.nil ?_
        refine Exists.intro (k + 1) (And.intro (by omega) (And.intro (by first | omega | (dsimp only; omega)) (Wk.of rfl rfl (And.intro rfl (And.intro (vS (by first | rfl | (rw [cirTo, gateT, if_pos (by assumption)]; simp only [List.append_assoc, List.nil_append, List.append_nil]; done) | (rw [cirTo, gateT, if_neg (by assumption)]; simp only [List.append_assoc, List.nil_append, List.append_nil]; done))) (And.intro rfl (And.intro rfl (And.intro (vI (by first | rfl | omega | (simp; done) | (simp; omega))) trivial))))) (And.intro rfl trivial))))
      · replace h3 := of_decide_eq_false h3
        try have hgw := hgm.2.1 h3
        try have hcw := covT_le hsg hgw
        refine T_skip ?_
        refine T_region hc ?_
        refine Ch.step (v := (.d (.str ((cirTo x k) ++ ((((x.sigs.getD ((((x.gates.getD k default).sig)).toNat) default).name) ++ [32, 61, 32]) ++ (covT x.sigs ((x.gates.getD k default).ups))))))) rfl (.pure (.move _ rfl rfl)) rfl rfl ?_
        refine Ch.step (v := (.d (.str (((cirTo x k) ++ ((((x.sigs.getD ((((x.gates.getD k default).sig)).toNat) default).name) ++ [32, 61, 32]) ++ (covT x.sigs ((x.gates.getD k default).ups)))) ++ [10])))) rfl (.pure (.str _ _ _ _ _ rfl rfl rfl (strV_add (by first | omega | (simp only [List.length_map, List.length_append, List.length_take, List.length_drop, List.length_cons, List.length_nil]; omega) | (simp; omega) | (simp; done))))) rfl rfl ?_
        refine Ch.step (v := (.d (.str (((cirTo x k) ++ ((((x.sigs.getD ((((x.gates.getD k default).sig)).toNat) default).name) ++ [32, 61, 32]) ++ (covT x.sigs ((x.gates.getD k default).ups)))) ++ [10])))) rfl (.pure (.assign _ rfl rfl)) rfl rfl ?_
        refine Ch.nil ?_
        refine T_region hc ?_
        refine Ch.step (v := (.d (.int .i64 (((k : Nat) : Int) + 1)))) rfl (.pure (.int _ _ _ _ _ rfl rfl rfl (intV_add (by first | omega | (simp only [List.length_map, List.length_append, List.length_take, List.length_drop, List.length_cons, List.length_nil]; omega) | (simp; omega) | (simp; done)) (by first | omega | (simp only [List.length_map, List.length_append, List.length_take, List.length_drop, List.length_cons, List.length_nil]; omega) | (simp; omega) | (simp; done))))) rfl rfl ?_
        refine Ch.step (v := (.d (.int .i64 (((k : Nat) : Int) + 1)))) rfl (.pure (.move _ rfl rfl)) rfl rfl ?_
        refine Ch.nil ?_
        refine Exists.intro (k + 1) (And.intro (by omega) (And.intro (by first | omega | (dsimp only; omega)) (Wk.of rfl rfl (And.intro rfl (And.intro (vS (by first | rfl | (rw [cirTo, gateT, if_pos (by assumption)]; simp only [List.append_assoc, List.nil_append, List.append_nil]; done) | (rw [cirTo, gateT, if_neg (by assumption)]; simp only [List.append_assoc, List.nil_append, List.append_nil]; done))) (And.intro rfl (And.intro rfl (And.intro (vI (by first | rfl | omega | (simp; done) | (simp; omega))) trivial))))) (And.intro rfl trivial))))
    · replace h2 := of_decide_eq_false h2
      try have hkg : (x.gates.getD k default).bulk ≤ 1048576 := bulkF_mem hp1 _ (getD_mem (l := x.gates) (j := k) (d := default) (by omega))
      try have hgp := Gat.parts hkg
      try have hgu := hgp.1
      try have hgd := hgp.2
      try have hgm := hg.ups _ (getD_mem (l := x.gates) (j := k) (d := default) (by omega))
      try have hgc := hgm.1
      try have hg0 := hgm.2.2.1
      try have hg1 := hgm.2.2.2
      try have hcv := covT_le hsg hgc
      try have hnm := (hsg.2 _ (getD_mem (l := x.sigs) (j := (x.gates.getD k default).sig.toNat) (d := default) hg1)).2
      try have hkk : k = x.gates.length := by omega
      refine T_exit ?_
      refine T_seq ?_
      refine T_region hc ?_
      refine Ch.step (v := (.d (.str (cirTo x k)))) rfl (.pure (.move _ rfl rfl)) rfl rfl ?_
      refine Ch.step (v := (.d (.str (cirTo x k)))) rfl (.pure (.assign _ rfl rfl)) rfl rfl ?_
      refine Ch.step (v := (.d (.bool true))) rfl (.pure (.assign _ rfl rfl)) rfl rfl ?_
      refine Ch.nil ?_
      refine T_ret ?_
      refine And.intro (.inr rfl) ?_
      exact Exists.intro [(.d (.str (cirTo x k))), (.d (.bool true))] (Exists.intro [] (Exists.intro [] (And.intro (.cons (.tmp 2 rfl) (.cons (.tmp 3 rfl) .nil)) (And.intro (.cons (.any _) .nil) (And.intro (.tup (.cons (Exp.of (congrArg D.str (by first | (rw [cirT, h1]; rfl) | (rw [cirT, h1, if_pos rfl, ← hkk]; done) | (rw [cirT, if_pos h1, ← hkk]; done) | (rw [h1]; done))) (.d _)) (.cons (Exp.of (congrArg D.bool (by first | (rw [cirT, h1]; rfl) | (rw [cirT, h1, if_pos rfl, ← hkk]; done) | (rw [cirT, if_pos h1, ← hkk]; done) | (rw [h1]; done))) (.d _)) .nil))) (And.intro rfl rfl))))))

set_option maxHeartbeats 1000000 in
theorem sp_impl_FormatCircuit (x : Cir) (hb : x.bulk ≤ 1048576) : Sp Try.prog 58 [(.agg [(.slice false 2 (x.sigs.map Sgn.d)), (.slice false 4 (x.gates.map Gat.d))])] [.any] (.tup [(.str (cirT x)), (.bool (circB x))]) := by
  refine Sp_intro (lend := true) Try.func58 rfl rfl rfl (fun _ => rfl) (fun c hc hX => ?_)
  obtain ⟨hp0, hp1⟩ := Cir.parts hb
  have hn0 := bulkF_len hp0
  have hn1 := bulkF_len hp1
  refine T_seq ?_
  refine T_region hc ?_
  refine Ch.step (v := (.ptr 1000 0)) rfl (.box 1000 _ _ rfl (.aggD _)) rfl rfl ?_
  refine Ch.step (v := (.d (.str []))) rfl (.pure (.assign _ rfl rfl)) rfl rfl ?_
  refine Ch.step (v := (.d (.bool false))) rfl (.pure (.assign _ rfl rfl)) rfl rfl ?_
  refine Ch.nil ?_
  refine T_seq ?_
  refine T_seq ?_
  refine T_region hc ?_
  refine Ch.step (v := (.agg [(.d (.slice false 2 (x.sigs.map Sgn.d))), (.d (.slice false 4 (x.gates.map Gat.d)))])) rfl (.pure (.loadPtrA _ _ rfl ag60 sz60 rfl rfl (Nat.le_of_ble_eq_true rfl) rfl)) rfl rfl ?_
  refine Ch.step (v := (.d (.bool (circB x)))) rfl (.call 8000 43 _ _ _ en43 rfl (.inl rfl) (.cons (.lend (.agg (.cons (.d _) (.cons (.d _) .nil)) rfl)) .nil) rfl rfl (sp_impl_IsValidCircuit x (by first | assumption | omega | (rw [List.length_take]; omega) | (have := bulkF_mem hb _ (getD_mem (d := default) (by omega)); assumption) | (unfold bulkS at *; omega) | (simp_all; done))) (.skip _ _ .nil) rfl) rfl rfl ?_
  refine Ch.step (v := (.d (.bool (!(circB x))))) rfl (.pure (.not _ _ rfl rfl)) rfl rfl ?_
  refine Ch.nil ?_
  refine T_cond (b := (!(circB x))) rfl (fun h1 => ?_) (fun h1 => ?_)
  · replace h1 := nott h1
    try have hg := cirGood h1
    try have hsg := hg.sg
    try have hfw := hg.few
    refine T_seq ?_
    refine T_region hc ?_
    refine Ch.step (v := (.d (.str []))) rfl (.pure (.assign _ rfl rfl)) rfl rfl ?_
    refine Ch.step (v := (.d (.bool false))) rfl (.pure (.assign _ rfl rfl)) rfl rfl ?_
    refine Ch.nil ?_
    refine T_ret ?_
    refine And.intro (.inr rfl) ?_
    exact Exists.intro [(.d (.str [])), (.d (.bool false))] (Exists.intro [] (Exists.intro [] (And.intro (.cons (.tmp 2 rfl) (.cons (.tmp 3 rfl) .nil)) (And.intro (.cons (.any _) .nil) (And.intro (.tup (.cons (Exp.of (congrArg D.str (by first | (rw [cirT, h1]; rfl) | (rw [cirT, h1, if_pos rfl, ← hkk]; done) | (rw [cirT, if_pos h1, ← hkk]; done) | (rw [h1]; done))) (.d _)) (.cons (Exp.of (congrArg D.bool (by first | (rw [cirT, h1]; rfl) | (rw [cirT, h1, if_pos rfl, ← hkk]; done) | (rw [cirT, if_pos h1, ← hkk]; done) | (rw [h1]; done))) (.d _)) .nil))) (And.intro rfl rfl))))))
  · replace h1 := notf h1
    try have hg := cirGood h1
    try have hsg := hg.sg
    try have hfw := hg.few
    refine T_skip ?_
    refine T_seq ?_
    refine T_region hc ?_
    refine Ch.step (v := (.d (.str []))) rfl (.pure (.assign _ rfl rfl)) rfl rfl ?_
    refine Ch.nil ?_
    refine T_seq ?_
    refine T_seq ?_
    refine T_region hc ?_
    refine Ch.step (v := (.ptr 1000 1)) rfl (.pure (.fldPtr _ _ _ rfl fld60_1 rfl)) rfl rfl ?_
    refine Ch.step (v := (.d (.slice false 4 (x.gates.map Gat.d)))) rfl (.pure (.loadPtr1 _ _ rfl ag58 rfl rfl rfl)) rfl rfl ?_
    refine Ch.step (v := (.d (.int .i64 ((x.gates.length : Nat) : Int)))) rfl (.pure (.len _ _ 108 rfl Try.underlying58 (.sh _ _) (by simp))) rfl rfl ?_
    refine Ch.step (v := (.d (.int .i64 0))) rfl (.pure (.move _ rfl rfl)) rfl rfl ?_
    refine Ch.nil ?_
    refine T_block ?_
    refine T_loop (ι := Nat) (fun k => { n := 48, sl := [(1, (.ptr 1000 0)), (4, (.d (.str (cirTo x k)))), (11, (.d (.slice false 4 (x.gates.map Gat.d)))), (12, (.d (.int .i64 ((x.gates.length : Nat) : Int)))), (13, (.d (.int .i64 ((k : Nat) : Int))))], hp := [(1000, (some (.box [(.d (.slice false 2 (x.sigs.map Sgn.d))), (.d (.slice false 4 (x.gates.map Gat.d)))])))], pin := [] }) (fun k => k ≤ x.gates.length) (fun k => x.gates.length - k) ⟨0, (by omega), (Wk.of rfl rfl (And.intro rfl (And.intro (vS (by first | rfl | (rw [cirTo, gateT, if_pos (by assumption)]; simp only [List.append_assoc, List.nil_append, List.append_nil]; done) | (rw [cirTo, gateT, if_neg (by assumption)]; simp only [List.append_assoc, List.nil_append, List.append_nil]; done))) (And.intro rfl (And.intro rfl (And.intro (vI (by first | rfl | omega | (simp; done) | (simp; omega))) trivial))))) (And.intro rfl trivial))⟩ (fun k hp0 => ?_)
    have hct := cirTo_le hg k hp0
    refine T_seq ?_
    refine T_region hc ?_
    refine Ch.step (v := (.d (.bool (decide (((k : Nat) : Int) < ((x.gates.length : Nat) : Int)))))) rfl (.pure (.int _ _ _ _ _ rfl rfl rfl rfl)) rfl rfl ?_
    refine Ch.nil ?_
    refine T_seq ?_
    refine T_cond (b := (decide (((k : Nat) : Int) < ((x.gates.length : Nat) : Int)))) rfl (fun h2 => ?_) (fun h2 => ?_)
    · replace h2 := of_decide_eq_true h2
      try have hkg : (x.gates.getD k default).bulk ≤ 1048576 := bulkF_mem hp1 _ (getD_mem (l := x.gates) (j := k) (d := default) (by omega))
      try have hgp := Gat.parts hkg
      try have hgu := hgp.1
      try have hgd := hgp.2
      try have hgm := hg.ups _ (getD_mem (l := x.gates) (j := k) (d := default) (by omega))
      try have hgc := hgm.1
      try have hg0 := hgm.2.2.1
      try have hg1 := hgm.2.2.2
      try have hcv := covT_le hsg hgc
      try have hnm := (hsg.2 _ (getD_mem (l := x.sigs) (j := (x.gates.getD k default).sig.toNat) (d := default) hg1)).2
      try have hkk : k = x.gates.length := by omega
      refine T_skip ?_
      refine T_seq ?_
      refine T_block ?_
      refine T_seq ?_
      refine T_region hc ?_
      refine Ch.step (v := (.d (.ref (.agg [(.int .i64 ((x.gates.getD k default).sig)), (.int .i64 ((x.gates.getD k default).kind)), (.slice false 1 (((x.gates.getD k default).ups).map D.str)), (.slice false 1 (((x.gates.getD k default).downs).map D.str))])))) rfl (.pure (.idx _ _ _ 108 (k) rfl Try.underlying58 sz108 rfl rfl rfl (get_map _ (by first | omega | (simp only [List.length_map, List.length_append, List.length_take, List.length_drop, List.length_cons, List.length_nil]; omega) | (simp; omega) | (simp; done))))) rfl rfl ?_
      refine Ch.step (v := (.d (.agg [(.int .i64 ((x.gates.getD k default).sig)), (.int .i64 ((x.gates.getD k default).kind)), (.slice false 1 (((x.gates.getD k default).ups).map D.str)), (.slice false 1 (((x.gates.getD k default).downs).map D.str))]))) rfl (.pure (.loadRefA _ _ rfl ag108 sz108 rfl)) rfl rfl ?_
      refine Ch.step (v := (.ptr 6000 0)) rfl (.alloc 6000 _ rfl zer108) rfl rfl ?_
      refine Ch.step (v := .junk) rfl (.storePtr _ _ _ rfl rfl rfl (.aggD _) sz108 (Nat.le_of_ble_eq_true rfl)) rfl rfl ?_
      refine Ch.nil ?_
      refine T_seq ?_
      refine T_regionD hc (by kernel_rfl) ?_
      refine ChD.step (v := (.d (.str (cirTo x k)))) [] rfl (.pure (.move _ rfl rfl)) rfl rfl ?_
      refine ChD.step (v := (.ptr 1000 0)) [] rfl (.pure (.fldPtr _ _ _ rfl fld60_0 rfl)) rfl rfl ?_
      refine ChD.step (v := (.d (.slice false 2 (x.sigs.map Sgn.d)))) [1000] rfl (.pure (.loadPtr1 _ _ rfl ag41 rfl rfl rfl)) rfl rfl ?_
      refine ChD.step (v := (.ptr 6000 0)) [] rfl (.pure (.fldPtr _ _ _ rfl fld108_0 rfl)) rfl rfl ?_
      refine ChD.step (v := (.d (.int .i64 ((x.gates.getD k default).sig)))) [6000] rfl (.pure (.loadPtr1 _ _ rfl ag3 rfl rfl rfl)) rfl rfl ?_
      refine ChD.step (v := (.d (.ref (.agg [(.str ((x.sigs.getD ((((x.gates.getD k default).sig)).toNat) default).name)), (.int .i64 ((x.sigs.getD ((((x.gates.getD k default).sig)).toNat) default).kind))])))) [] rfl (.pure (.idx _ _ _ 85 ((((x.gates.getD k default).sig)).toNat) rfl Try.underlying41 sz85 rfl rfl (by omega) (get_map _ (by first | omega | (simp only [List.length_map, List.length_append, List.length_take, List.length_drop, List.length_cons, List.length_nil]; omega) | (simp; omega) | (simp; done))))) rfl rfl ?_
      refine ChD.step (v := (.d (.ref (.str ((x.sigs.getD ((((x.gates.getD k default).sig)).toNat) default).name))))) [] rfl (.pure (.fldRef _ _ _ rfl fld85_0 rfl rfl rfl)) rfl rfl ?_
      refine ChD.step (v := (.d (.str ((x.sigs.getD ((((x.gates.getD k default).sig)).toNat) default).name)))) [] rfl (.pure (.loadRef1 _ _ rfl ag9 rfl rfl)) rfl rfl ?_
      refine ChD.step (v := (.d (.str (((x.sigs.getD ((((x.gates.getD k default).sig)).toNat) default).name) ++ [32, 61, 32])))) [] rfl (.pure (.str _ _ _ _ _ rfl rfl rfl (strV_add (by first | omega | (simp only [List.length_map, List.length_append, List.length_take, List.length_drop, List.length_cons, List.length_nil]; omega) | (simp; omega) | (simp; done))))) rfl rfl ?_
      refine ChD.step (v := (.ptr 1000 0)) [] rfl (.pure (.fldPtr _ _ _ rfl fld60_0 rfl)) rfl rfl ?_
      refine ChD.step (v := (.d (.slice false 2 (x.sigs.map Sgn.d)))) [1000] rfl (.pure (.loadPtr1 _ _ rfl ag41 rfl rfl rfl)) rfl rfl ?_
      refine ChD.step (v := (.ptr 6000 2)) [] rfl (.pure (.fldPtr _ _ _ rfl fld108_2 rfl)) rfl rfl ?_
      refine ChD.step (v := (.d (.slice false 1 (((x.gates.getD k default).ups).map D.str)))) [6000] rfl (.pure (.loadPtr1 _ _ rfl ag22 rfl rfl rfl)) rfl rfl ?_
      refine ChD.step (v := (.d (.str (covT x.sigs ((x.gates.getD k default).ups))))) [] rfl (.call 30000 88 _ _ _ en88 rfl (.inl rfl) (.cons (.d _) (.cons (.d _) .nil)) rfl rfl (sp_impl_coverText x.sigs ((x.gates.getD k default).ups) (by first | assumption | omega) (by first | assumption | omega)) (.skip _ _ (.skip _ _ .nil)) rfl) rfl rfl ?_
      refine ChD.step (v := (.d (.str ((((x.sigs.getD ((((x.gates.getD k default).sig)).toNat) default).name) ++ [32, 61, 32]) ++ (covT x.sigs ((x.gates.getD k default).ups)))))) [] rfl (.pure (.str _ _ _ _ _ rfl rfl rfl (strV_add (by first | omega | (simp only [List.length_map, List.length_append, List.length_take, List.length_drop, List.length_cons, List.length_nil]; omega) | (simp; omega) | (simp; done))))) rfl rfl ?_
      refine ChD.step (v := (.d (.str ((cirTo x k) ++ ((((x.sigs.getD ((((x.gates.getD k default).sig)).toNat) default).name) ++ [32, 61, 32]) ++ (covT x.sigs ((x.gates.getD k default).ups))))))) [] rfl (.pure (.str _ _ _ _ _ rfl rfl rfl (strV_add (by first | omega | (simp only [List.length_map, List.length_append, List.length_take, List.length_drop, List.length_cons, List.length_nil]; omega) | (simp; omega) | (simp; done))))) rfl rfl ?_
      refine ChD.step (v := (.d (.str ((cirTo x k) ++ ((((x.sigs.getD ((((x.gates.getD k default).sig)).toNat) default).name) ++ [32, 61, 32]) ++ (covT x.sigs ((x.gates.getD k default).ups))))))) [] rfl (.pure (.assign _ rfl rfl)) rfl rfl ?_
      refine ChD.nil (And.intro ?_ (by kernel_rfl))
      refine T_seq ?_
      refine T_seq ?_
      refine T_region hc ?_
      refine Ch.step (v := (.ptr 6000 1)) rfl (.pure (.fldPtr _ _ _ rfl fld108_1 rfl)) rfl rfl ?_
      refine Ch.step (v := (.d (.int .i64 ((x.gates.getD k default).kind)))) rfl (.pure (.loadPtr1 _ _ rfl ag3 rfl rfl rfl)) rfl rfl ?_
      refine Ch.step (v := (.d (.bool (decide (((x.gates.getD k default).kind) = 2))))) rfl (.pure (.int _ _ _ _ _ rfl rfl rfl rfl)) rfl rfl ?_
      refine Ch.nil ?_
      refine T_cond (b := (decide (((x.gates.getD k default).kind) = 2))) rfl (fun h3 => ?_) (fun h3 => ?_)
      · replace h3 := of_decide_eq_true h3
        try have hgw := hgm.2.1 h3
        try have hcw := covT_le hsg hgw
        refine T_region hc ?_
        refine Ch.step (v := (.d (.str ((cirTo x k) ++ ((((x.sigs.getD ((((x.gates.getD k default).sig)).toNat) default).name) ++ [32, 61, 32]) ++ (covT x.sigs ((x.gates.getD k default).ups))))))) rfl (.pure (.move _ rfl rfl)) rfl rfl ?_
        refine Ch.step (v := (.ptr 1000 0)) rfl (.pure (.fldPtr _ _ _ rfl fld60_0 rfl)) rfl rfl ?_
        refine Ch.step (v := (.d (.slice false 2 (x.sigs.map Sgn.d)))) rfl (.pure (.loadPtr1 _ _ rfl ag41 rfl rfl rfl)) rfl rfl ?_
        refine Ch.step (v := (.ptr 6000 3)) rfl (.pure (.fldPtr _ _ _ rfl fld108_3 rfl)) rfl rfl ?_
        refine Ch.step (v := (.d (.slice false 1 (((x.gates.getD k default).downs).map D.str)))) rfl (.pure (.loadPtr1 _ _ rfl ag22 rfl rfl rfl)) rfl rfl ?_
        refine Ch.step (v := (.d (.str (covT x.sigs ((x.gates.getD k default).downs))))) rfl (.call 41000 88 _ _ _ en88 rfl (.inl rfl) (.cons (.d _) (.cons (.d _) .nil)) rfl rfl (sp_impl_coverText x.sigs ((x.gates.getD k default).downs) (by first | assumption | omega) (by first | assumption | omega)) (.skip _ _ (.skip _ _ .nil)) rfl) rfl rfl ?_
        refine Ch.step (v := (.d (.str ([32, 47, 32] ++ (covT x.sigs ((x.gates.getD k default).downs)))))) rfl (.pure (.str _ _ _ _ _ rfl rfl rfl (strV_add (by first | omega | (simp only [List.length_map, List.length_append, List.length_take, List.length_drop, List.length_cons, List.length_nil]; omega) | (simp; omega) | (simp; done))))) rfl rfl ?_
        refine Ch.step (v := (.d (.str (((cirTo x k) ++ ((((x.sigs.getD ((((x.gates.getD k default).sig)).toNat) default).name) ++ [32, 61, 32]) ++ (covT x.sigs ((x.gates.getD k default).ups)))) ++ ([32, 47, 32] ++ (covT x.sigs ((x.gates.getD k default).downs))))))) rfl (.pure (.str _ _ _ _ _ rfl rfl rfl (strV_add (by first | omega | (simp only [List.length_map, List.length_append, List.length_take, List.length_drop, List.length_cons, List.length_nil]; omega) | (simp; omega) | (simp; done))))) rfl rfl ?_
        refine Ch.step (v := (.d (.str (((cirTo x k) ++ ((((x.sigs.getD ((((x.gates.getD k default).sig)).toNat) default).name) ++ [32, 61, 32]) ++ (covT x.sigs ((x.gates.getD k default).ups)))) ++ ([32, 47, 32] ++ (covT x.sigs ((x.gates.getD k default).downs))))))) rfl (.pure (.assign _ rfl rfl)) rfl rfl ?_
        refine Ch.nil ?_
        refine T_region hc ?_
        refine Ch.step (v := (.d (.str (((cirTo x k) ++ ((((x.sigs.getD ((((x.gates.getD k default).sig)).toNat) default).name) ++ [32, 61, 32]) ++ (covT x.sigs ((x.gates.getD k default).ups)))) ++ ([32, 47, 32] ++ (covT x.sigs ((x.gates.getD k default).downs))))))) rfl (.pure (.move _ rfl rfl)) rfl rfl ?_
        refine Ch.step (v := (.d (.str ((((cirTo x k) ++ ((((x.sigs.getD ((((x.gates.getD k default).sig)).toNat) default).name) ++ [32, 61, 32]) ++ (covT x.sigs ((x.gates.getD k default).ups)))) ++ ([32, 47, 32] ++ (covT x.sigs ((x.gates.getD k default).downs)))) ++ [10])))) rfl (.pure (.str _ _ _ _ _ rfl rfl rfl (strV_add (by first | omega | (simp only [List.length_map, List.length_append, List.length_take, List.length_drop, List.length_cons, List.length_nil]; omega) | (simp; omega) | (simp; done))))) rfl rfl ?_
        refine Ch.step (v := (.d (.str ((((cirTo x k) ++ ((((x.sigs.getD ((((x.gates.getD k default).sig)).toNat) default).name) ++ [32, 61, 32]) ++ (covT x.sigs ((x.gates.getD k default).ups)))) ++ ([32, 47, 32] ++ (covT x.sigs ((x.gates.getD k default).downs)))) ++ [10])))) rfl (.pure (.assign _ rfl rfl)) rfl rfl ?_
        refine Ch.nil ?_
        refine T_region hc ?_
        refine Ch.step (v := (.d (.int .i64 (((k : Nat) : Int) + 1)))) rfl (.pure (.int _ _ _ _ _ rfl rfl rfl (intV_add (by first | omega | (simp only [List.length_map, List.length_append, List.length_take, List.length_drop, List.length_cons, List.length_nil]; omega) | (simp; omega) | (simp; done)) (by first | omega | (simp only [List.length_map, List.length_append, List.length_take, List.length_drop, List.length_cons, List.length_nil]; omega) | (simp; omega) | (simp; done))))) rfl rfl ?_
        refine Ch.step (v := (.d (.int .i64 (((k : Nat) : Int) + 1)))) rfl (.pure (.move _ rfl rfl)) rfl rfl ?_
        refine Ch.nil ?_
        refine Exists.intro (k + 1) (And.intro (by omega) (And.intro (by first | omega | (dsimp only; omega)) (Wk.of rfl rfl (And.intro rfl (And.intro (vS (by first | rfl | (rw [cirTo, gateT, if_pos (by assumption)]; simp only [List.append_assoc, List.nil_append, List.append_nil]; done) | (rw [cirTo, gateT, if_neg (by assumption)]; simp only [List.append_assoc, List.nil_append, List.append_nil]; done))) (And.intro rfl (And.intro rfl (And.intro (vI (by first | rfl | omega | (simp; done) | (simp; omega))) trivial))))) (And.intro rfl trivial))))
      · replace h3 := of_decide_eq_false h3
        try have hgw := hgm.2.1 h3
        try have hcw := covT_le hsg hgw
        refine T_skip ?_
        refine T_region hc ?_
        refine Ch.step (v := (.d (.str ((cirTo x k) ++ ((((x.sigs.getD ((((x.gates.getD k default).sig)).toNat) default).name) ++ [32, 61, 32]) ++ (covT x.sigs ((x.gates.getD k default).ups))))))) rfl (.pure (.move _ rfl rfl)) rfl rfl ?_
        refine Ch.step (v := (.d (.str (((cirTo x k) ++ ((((x.sigs.getD ((((x.gates.getD k default).sig)).toNat) default).name) ++ [32, 61, 32]) ++ (covT x.sigs ((x.gates.getD k default).ups)))) ++ [10])))) rfl (.pure (.str _ _ _ _ _ rfl rfl rfl (strV_add (by first | omega | (simp only [List.length_map, List.length_append, List.length_take, List.length_drop, List.length_cons, List.length_nil]; omega) | (simp; omega) | (simp; done))))) rfl rfl ?_
        refine Ch.step (v := (.d (.str (((cirTo x k) ++ ((((x.sigs.getD ((((x.gates.getD k default).sig)).toNat) default).name) ++ [32, 61, 32]) ++ (covT x.sigs ((x.gates.getD k default).ups)))) ++ [10])))) rfl (.pure (.assign _ rfl rfl)) rfl rfl ?_
        refine Ch.nil ?_
        refine T_region hc ?_
        refine Ch.step (v := (.d (.int .i64 (((k : Nat) : Int) + 1)))) rfl (.pure (.int _ _ _ _ _ rfl rfl rfl (intV_add (by first | omega | (simp only [List.length_map, List.length_append, List.length_take, List.length_drop, List.length_cons, List.length_nil]; omega) | (simp; omega) | (simp; done)) (by first | omega | (simp only [List.length_map, List.length_append, List.length_take, List.length_drop, List.length_cons, List.length_nil]; omega) | (simp; omega) | (simp; done))))) rfl rfl ?_
        refine Ch.step (v := (.d (.int .i64 (((k : Nat) : Int) + 1)))) rfl (.pure (.move _ rfl rfl)) rfl rfl ?_
        refine Ch.nil ?_
        refine Exists.intro (k + 1) (And.intro (by omega) (And.intro (by first | omega | (dsimp only; omega)) (Wk.of rfl rfl (And.intro rfl (And.intro (vS (by first | rfl | (rw [cirTo, gateT, if_pos (by assumption)]; simp only [List.append_assoc, List.nil_append, List.append_nil]; done) | (rw [cirTo, gateT, if_neg (by assumption)]; simp only [List.append_assoc, List.nil_append, List.append_nil]; done))) (And.intro rfl (And.intro rfl (And.intro (vI (by first | rfl | omega | (simp; done) | (simp; omega))) trivial))))) (And.intro rfl trivial))))
    · replace h2 := of_decide_eq_false h2
      try have hkg : (x.gates.getD k default).bulk ≤ 1048576 := bulkF_mem hp1 _ (getD_mem (l := x.gates) (j := k) (d := default) (by omega))
      try have hgp := Gat.parts hkg
      try have hgu := hgp.1
      try have hgd := hgp.2
      try have hgm := hg.ups _ (getD_mem (l := x.gates) (j := k) (d := default) (by omega))
      try have hgc := hgm.1
      try have hg0 := hgm.2.2.1
      try have hg1 := hgm.2.2.2
      try have hcv := covT_le hsg hgc
      try have hnm := (hsg.2 _ (getD_mem (l := x.sigs) (j := (x.gates.getD k default).sig.toNat) (d := default) hg1)).2
      try have hkk : k = x.gates.length := by omega
      refine T_exit ?_
      refine T_seq ?_
      refine T_region hc ?_
      refine Ch.step (v := (.d (.str (cirTo x k)))) rfl (.pure (.move _ rfl rfl)) rfl rfl ?_
      refine Ch.step (v := (.d (.str (cirTo x k)))) rfl (.pure (.assign _ rfl rfl)) rfl rfl ?_
      refine Ch.step (v := (.d (.bool true))) rfl (.pure (.assign _ rfl rfl)) rfl rfl ?_
      refine Ch.nil ?_
      refine T_ret ?_
      refine And.intro (.inr rfl) ?_
      exact Exists.intro [(.d (.str (cirTo x k))), (.d (.bool true))] (Exists.intro [] (Exists.intro [] (And.intro (.cons (.tmp 2 rfl) (.cons (.tmp 3 rfl) .nil)) (And.intro (.cons (.any _) .nil) (And.intro (.tup (.cons (Exp.of (congrArg D.str (by first | (rw [cirT, h1]; rfl) | (rw [cirT, h1, if_pos rfl, ← hkk]; done) | (rw [cirT, if_pos h1, ← hkk]; done) | (rw [h1]; done))) (.d _)) (.cons (Exp.of (congrArg D.bool (by first | (rw [cirT, h1]; rfl) | (rw [cirT, h1, if_pos rfl, ← hkk]; done) | (rw [cirT, if_pos h1, ← hkk]; done) | (rw [h1]; done))) (.d _)) .nil))) (And.intro rfl rfl))))))

set_option maxHeartbeats 1000000 in
theorem sp_laws_FnExactFormatCircuit (x : Cir) (hwx : x.wide) : Sp Try.prog 16 [(.agg [(.slice false 2 (x.sigs.map Sgn.d)), (.slice false 4 (x.gates.map Gat.d))])] [.any] (.bool true) := by
  refine Sp_intro (lend := true) Try.func16 rfl rfl rfl (fun _ => rfl) (fun c hc hX => ?_)
  refine T_seq ?_
  refine T_region hc ?_
  refine Ch.step (v := (.ptr 1000 0)) rfl (.box 1000 _ _ rfl (.aggD _)) rfl rfl ?_
  refine Ch.step (v := (.d (.bool false))) rfl (.pure (.assign _ rfl rfl)) rfl rfl ?_
  refine Ch.nil ?_
  refine T_seq ?_
  refine T_region hc ?_
  refine Ch.step (v := (.d (.int .i64 1048576))) rfl (.pure (.assign _ rfl rfl)) rfl rfl ?_
  refine Ch.nil ?_
  refine T_seq ?_
  refine T_region hc ?_
  refine Ch.step (v := (.agg [(.d (.slice false 2 (x.sigs.map Sgn.d))), (.d (.slice false 4 (x.gates.map Gat.d)))])) rfl (.pure (.loadPtrA _ _ rfl ag55 sz55 rfl rfl (Nat.le_of_ble_eq_true rfl) rfl)) rfl rfl ?_
  refine Ch.step (v := (.d (.int .i64 1048576))) rfl (.pure (.move _ rfl rfl)) rfl rfl ?_
  refine Ch.step (v := (.d (.int .i64 (szR x.bulk 1048576)))) rfl (.call 11000 40 _ _ _ en40 rfl (.inl rfl) (.cons (.lend (.agg (.cons (.d _) (.cons (.d _) .nil)) rfl)) (.cons (.d _) .nil)) rfl rfl (sp_laws_szCircuit x 1048576 (by first | omega | assumption | (exact hx _ (getD_mem (by omega))) | (exact hx _ (by assumption)) | (exact Nat.le_trans (hx _ (by assumption)) (by omega)) | (simp only [List.length_append, List.length_take, List.length_drop, List.length_cons, List.length_nil]; omega) | (simp_all; done)) (by first | omega | assumption | (exact hx _ (getD_mem (by omega))) | (exact hx _ (by assumption)) | (exact Nat.le_trans (hx _ (by assumption)) (by omega)) | (simp only [List.length_append, List.length_take, List.length_drop, List.length_cons, List.length_nil]; omega) | (simp_all; done)) (by first | assumption | omega | trivial | (simp_all; done) | (exact fun _ _ => trivial) | (exact hx _ (by assumption)) | (refine ⟨?_, ?_⟩ <;> first | assumption | omega))) (.skip _ _ (.skip _ _ .nil)) rfl) rfl rfl ?_
  refine Ch.step (v := (.d (.int .i64 (szR x.bulk 1048576)))) rfl (.pure (.assign _ rfl rfl)) rfl rfl ?_
  refine Ch.nil ?_
  refine T_seq ?_
  refine T_seq ?_
  refine T_region hc ?_
  refine Ch.step (v := (.d (.int .i64 (szR x.bulk 1048576)))) rfl (.pure (.move _ rfl rfl)) rfl rfl ?_
  refine Ch.step (v := (.d (.bool (decide ((szR x.bulk 1048576) < 0))))) rfl (.pure (.int _ _ _ _ _ rfl rfl rfl rfl)) rfl rfl ?_
  refine Ch.nil ?_
  refine T_cond (b := (decide ((szR x.bulk 1048576) < 0))) rfl (fun h1 => ?_) (fun h1 => ?_)
  · replace h1 := of_decide_eq_true h1
    try have hz := szR_ok (t := x.bulk) (left := 1048576) h1 (by omega)
    try have hb : x.bulk ≤ 1048576 := by omega
    try have hl := hz.2
    refine T_seq ?_
    refine T_region hc ?_
    refine Ch.step (v := (.d (.bool true))) rfl (.pure (.assign _ rfl rfl)) rfl rfl ?_
    refine Ch.nil ?_
    refine T_ret ?_
    refine And.intro (.inr rfl) ?_
    exact Exists.intro [(.d (.bool true))] (Exists.intro [] (Exists.intro [] (And.intro (.cons (.tmp 2 rfl) .nil) (And.intro (.cons (.any _) .nil) (And.intro (.d _) (And.intro rfl rfl))))))
  · replace h1 := of_decide_eq_false h1
    try have hz := szR_ok (t := x.bulk) (left := 1048576) h1 (by omega)
    try have hb : x.bulk ≤ 1048576 := by omega
    try have hl := hz.2
    refine T_skip ?_
    refine T_seq ?_
    refine T_region hc ?_
    refine Ch.step (v := (.agg [(.d (.slice false 2 (x.sigs.map Sgn.d))), (.d (.slice false 4 (x.gates.map Gat.d)))])) rfl (.pure (.loadPtrA _ _ rfl ag55 sz55 rfl rfl (Nat.le_of_ble_eq_true rfl) rfl)) rfl rfl ?_
    refine Ch.step (v := (.agg [(.row 16000), (.row 16001)])) rfl (.call 16000 42 _ _ _ en42 rfl (.inl rfl) (.cons (.lend (.agg (.cons (.d _) (.cons (.d _) .nil)) rfl)) .nil) rfl (sol (Cir.sol _) rfl) (sp_laws_toCircuit x (by first | assumption | omega | (rw [List.length_take]; omega) | (have := bulkF_mem hb _ (getD_mem (d := default) (by omega)); assumption) | (unfold bulkS at *; omega) | (simp_all; done))) (.skip _ _ .nil) rfl) rfl rfl ?_
    refine Ch.step (v := (.tup [(.d (.str (cirT x))), (.d (.bool (circB x)))])) rfl (.call 17000 57 _ _ _ en57 rfl (.inl rfl) (.cons (.lend (.agg (.cons (.row rfl (frozs_map (fun _ => rfl) _)) (.cons (.row rfl (frozs_to Gat.fz _)) .nil)) rfl)) .nil) rfl rfl (sp_spec_FormatCircuit x (by first | assumption | omega | (rw [List.length_take]; omega) | (have := bulkF_mem hb _ (getD_mem (d := default) (by omega)); assumption) | (unfold bulkS at *; omega) | (simp_all; done))) (.skip _ _ .nil) rfl) rfl rfl ?_
    refine Ch.step (v := (.tup [(.d (.str (cirT x))), (.d (.bool (circB x)))])) rfl (.pure (.move _ rfl rfl)) rfl rfl ?_
    refine Ch.step (v := (.d (.str (cirT x)))) rfl (.pure (.extract _ rfl rfl rfl)) rfl rfl ?_
    refine Ch.step (v := (.d (.bool (circB x)))) rfl (.pure (.extract _ rfl rfl rfl)) rfl rfl ?_
    refine Ch.step (v := (.d (.str (cirT x)))) rfl (.pure (.assign _ rfl rfl)) rfl rfl ?_
    refine Ch.step (v := (.d (.bool (circB x)))) rfl (.pure (.assign _ rfl rfl)) rfl rfl ?_
    refine Ch.nil ?_
    refine T_seq ?_
    refine T_region hc ?_
    refine Ch.step (v := (.agg [(.d (.slice false 2 (x.sigs.map Sgn.d))), (.d (.slice false 4 (x.gates.map Gat.d)))])) rfl (.pure (.loadPtrA _ _ rfl ag55 sz55 rfl rfl (Nat.le_of_ble_eq_true rfl) rfl)) rfl rfl ?_
    refine Ch.step (v := (.agg [(.row 21000), (.row 21001)])) rfl (.call 21000 42 _ _ _ en42 rfl (.inl rfl) (.cons (.lend (.agg (.cons (.d _) (.cons (.d _) .nil)) rfl)) .nil) rfl (sol (Cir.sol _) rfl) (sp_laws_toCircuit x (by first | assumption | omega | (rw [List.length_take]; omega) | (have := bulkF_mem hb _ (getD_mem (d := default) (by omega)); assumption) | (unfold bulkS at *; omega) | (simp_all; done))) (.skip _ _ .nil) rfl) rfl rfl ?_
    refine Ch.step (v := (.ptr 6000 0)) rfl (.alloc 6000 _ rfl zer60) rfl rfl ?_
    refine Ch.step (v := .junk) rfl (.storePtr _ _ _ rfl rfl rfl (.agg _ rfl) sz60 (Nat.le_of_ble_eq_true rfl)) rfl rfl ?_
    refine Ch.nil ?_
    refine T_seq ?_
    refine T_region hc ?_
    refine Ch.step (v := (.agg [(.row 21000), (.row 21001)])) rfl (.pure (.loadPtrA _ _ rfl ag60 sz60 rfl rfl (Nat.le_of_ble_eq_true rfl) rfl)) rfl rfl ?_
    refine Ch.step (v := (.tup [(.d (.str (cirT x))), (.d (.bool (circB x)))])) rfl (.call 24000 58 _ _ _ en58 rfl (.inl rfl) (.cons (.lend (.agg (.cons (.row rfl (frozs_map (fun _ => rfl) _)) (.cons (.row rfl (frozs_to Gat.fz _)) .nil)) rfl)) .nil) rfl rfl (sp_impl_FormatCircuit x (by first | assumption | omega | (rw [List.length_take]; omega) | (have := bulkF_mem hb _ (getD_mem (d := default) (by omega)); assumption) | (unfold bulkS at *; omega) | (simp_all; done))) (.skip _ _ .nil) rfl) rfl rfl ?_
    refine Ch.step (v := (.tup [(.d (.str (cirT x))), (.d (.bool (circB x)))])) rfl (.pure (.move _ rfl rfl)) rfl rfl ?_
    refine Ch.step (v := (.d (.str (cirT x)))) rfl (.pure (.extract _ rfl rfl rfl)) rfl rfl ?_
    refine Ch.step (v := (.d (.bool (circB x)))) rfl (.pure (.extract _ rfl rfl rfl)) rfl rfl ?_
    refine Ch.step (v := (.d (.str (cirT x)))) rfl (.pure (.assign _ rfl rfl)) rfl rfl ?_
    refine Ch.step (v := (.d (.bool (circB x)))) rfl (.pure (.assign _ rfl rfl)) rfl rfl ?_
    refine Ch.nil ?_
    refine T_seq ?_
    refine T_seq ?_
    refine T_region hc ?_
    refine Ch.step (v := (.d (.str (cirT x)))) rfl (.pure (.move _ rfl rfl)) rfl rfl ?_
    refine Ch.step (v := (.d (.str (cirT x)))) rfl (.pure (.move _ rfl rfl)) rfl rfl ?_
    refine Ch.step (v := (.d (.bool (!(decide ((cirT x) = (cirT x))))))) rfl (.pure (.str _ _ _ _ _ rfl rfl rfl rfl)) rfl rfl ?_
    refine Ch.step (v := (.d (.bool (!(decide ((cirT x) = (cirT x))))))) rfl (.pure (.move _ rfl rfl)) rfl rfl ?_
    cases h2 : (decide ((cirT x) = (cirT x))) with
    | true =>
      replace h2 := of_decide_eq_true h2
      refine Ch.step (v := (.d (.bool (circB x)))) rfl (.pure (.move _ rfl rfl)) rfl rfl ?_
      refine Ch.step (v := (.d (.bool (circB x)))) rfl (.pure (.move _ rfl rfl)) rfl rfl ?_
      refine Ch.step (v := (.d (.bool (!(decide ((circB x) = (circB x))))))) rfl (.pure (.neB _ _ _ _ rfl Try.underlying4 rfl rfl)) rfl rfl ?_
      refine Ch.step (v := (.d (.bool (!(decide ((circB x) = (circB x))))))) rfl (.pure (.pickF _ _ _ rfl rfl rfl)) rfl rfl ?_
      refine Ch.nil ?_
      refine T_cond (b := (!(decide ((circB x) = (circB x))))) rfl (fun h3 => ?_) (fun h3 => ?_)
      · replace h3 := nott h3
        replace h3 := of_decide_eq_false h3
        refine T_seq ?_
        refine T_region hc ?_
        refine Ch.step (v := (.d (.bool false))) rfl (.pure (.assign _ rfl rfl)) rfl rfl ?_
        refine Ch.nil ?_
        refine T_ret ?_
        refine And.intro (.inr rfl) ?_
        exact Exists.intro [(.d (.bool false))] (Exists.intro [] (Exists.intro [] (And.intro (.cons (.tmp 2 rfl) .nil) (And.intro (.cons (.any _) .nil) (And.intro (Exp.of (congrArg D.bool (by first | rfl | contradiction | (exfalso; omega) | (simp_all; done) | (exfalso; simp_all; omega))) (.d _)) (And.intro rfl rfl))))))
      · replace h3 := notf h3
        replace h3 := of_decide_eq_true h3
        refine T_skip ?_
        refine T_seq ?_
        refine T_seq ?_
        refine T_regionD hc (by kernel_rfl) ?_
        refine ChD.step (v := (.agg [(.row 21000), (.row 21001)])) [6000, 21000, 21001] rfl (.pure (.loadPtrA _ _ rfl ag60 sz60 rfl rfl (Nat.le_of_ble_eq_true rfl) rfl)) rfl rfl ?_
        refine ChD.step (v := (.agg [(.d (.slice false 2 (x.sigs.map Sgn.d))), (.d (.slice false 4 (x.gates.map Gat.d)))])) [1000] rfl (.pure (.loadPtrA _ _ rfl ag55 sz55 rfl rfl (Nat.le_of_ble_eq_true rfl) rfl)) rfl rfl ?_
        refine ChD.step (v := (.agg [(.row 37000), (.row 37001)])) [] rfl (.call 37000 42 _ _ _ en42 rfl (.inl rfl) (.cons (.lend (.agg (.cons (.d _) (.cons (.d _) .nil)) rfl)) .nil) rfl (sol (Cir.sol _) rfl) (sp_laws_toCircuit x (by first | assumption | omega | (rw [List.length_take]; omega) | (have := bulkF_mem hb _ (getD_mem (d := default) (by omega)); assumption) | (unfold bulkS at *; omega) | (simp_all; done))) (.skip _ _ .nil) rfl) rfl rfl ?_
        refine ChD.step (v := (.d (.bool (decide (x = x))))) [21000, 21001, 37000, 37001] rfl (.call 38000 44 _ _ _ en44 rfl (.inl rfl) (.cons (.lend (.agg (.cons (.row rfl (frozs_map (fun _ => rfl) _)) (.cons (.row rfl (frozs_to Gat.fz _)) .nil)) rfl)) (.cons (.lend (.agg (.cons (.row rfl (frozs_map (fun _ => rfl) _)) (.cons (.row rfl (frozs_to Gat.fz _)) .nil)) rfl)) .nil)) rfl rfl (sp_laws_eqCircuit x x (by first | assumption | omega | (rw [List.length_take]; omega) | (have := bulkF_mem hb _ (getD_mem (d := default) (by omega)); assumption) | (unfold bulkS at *; omega) | (simp_all; done))) (.skip _ _ (.skip _ _ .nil)) rfl) rfl rfl ?_
        refine ChD.step (v := (.d (.bool (!(decide (x = x)))))) [] rfl (.pure (.not _ _ rfl rfl)) rfl rfl ?_
        refine ChD.nil (And.intro ?_ (by kernel_rfl))
        refine T_cond (b := (!(decide (x = x)))) rfl (fun h4 => ?_) (fun h4 => ?_)
        · replace h4 := nott h4
          replace h4 := of_decide_eq_false h4
          refine T_seq ?_
          refine T_region hc ?_
          refine Ch.step (v := (.d (.bool false))) rfl (.pure (.assign _ rfl rfl)) rfl rfl ?_
          refine Ch.nil ?_
          refine T_ret ?_
          refine And.intro (.inr rfl) ?_
          exact Exists.intro [(.d (.bool false))] (Exists.intro [] (Exists.intro [] (And.intro (.cons (.tmp 2 rfl) .nil) (And.intro (.cons (.any _) .nil) (And.intro (Exp.of (congrArg D.bool (by first | rfl | contradiction | (exfalso; omega) | (simp_all; done) | (exfalso; simp_all; omega))) (.d _)) (And.intro rfl rfl))))))
        · replace h4 := notf h4
          replace h4 := of_decide_eq_true h4
          refine T_skip ?_
          refine T_seq ?_
          refine T_region hc ?_
          refine Ch.step (v := (.d (.bool true))) rfl (.pure (.assign _ rfl rfl)) rfl rfl ?_
          refine Ch.nil ?_
          refine T_ret ?_
          refine And.intro (.inr rfl) ?_
          exact Exists.intro [(.d (.bool true))] (Exists.intro [] (Exists.intro [] (And.intro (.cons (.tmp 2 rfl) .nil) (And.intro (.cons (.any _) .nil) (And.intro (.d _) (And.intro rfl rfl))))))
    | false =>
      replace h2 := of_decide_eq_false h2
      refine Ch.skip rfl rfl ?_
      refine Ch.skip rfl rfl ?_
      refine Ch.skip rfl rfl ?_
      refine Ch.step (v := (.d (.bool true))) rfl (.pure (.pickT _ _ _ rfl rfl rfl)) rfl rfl ?_
      refine Ch.nil ?_
      refine T_cond (b := true) rfl (fun _ => ?_) (fun h => nomatch h)
      refine T_seq ?_
      refine T_region hc ?_
      refine Ch.step (v := (.d (.bool false))) rfl (.pure (.assign _ rfl rfl)) rfl rfl ?_
      refine Ch.nil ?_
      refine T_ret ?_
      refine And.intro (.inr rfl) ?_
      exact Exists.intro [(.d (.bool false))] (Exists.intro [] (Exists.intro [] (And.intro (.cons (.tmp 2 rfl) .nil) (And.intro (.cons (.any _) .nil) (And.intro (Exp.of (congrArg D.bool (by first | rfl | contradiction | (exfalso; omega) | (simp_all; done) | (exfalso; simp_all; omega))) (.d _)) (And.intro rfl rfl))))))

end Go.AM
