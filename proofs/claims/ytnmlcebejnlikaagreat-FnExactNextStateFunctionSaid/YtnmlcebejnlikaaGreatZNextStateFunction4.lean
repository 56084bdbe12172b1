/-
  The contracts that the law FnExactNextStateFunction needs.
-/
import Derived.Test.YtnmlcebejnlikaaGreatZNextStateFunction3
namespace Go.AM
open Go.Proofs
set_option linter.unusedVariables false
set_option linter.unusedSimpArgs false

set_option maxHeartbeats 1000000 in
theorem sp_laws_FnExactNextStateFunction (x : Sgr) (sig : Int) (hwx : x.wide) : Sp Tryz.prog 5 [(.agg [(.slice false 2 (x.sigs.map Sgn.d)), (.slice false 1 (x.codes.map D.str)), (.slice false 4 (x.arcs.map Arc.d))]), (.int .i64 sig)] [.any, .any] (.bool true) := by
 refine Sp_intro (lend := true) Tryz.func5 rfl rfl rfl (fun _ => rfl) (fun c hc hX => ?_)
 refine T_seq (T_region hc (Ch.s (.ptr 2000 0) (.box 2000 _ _ rfl (.aggD _)) (Ch.s (.d (.bool false)) pa (Ch.nil (T_seq (T_region hc (Ch.s (.d (.int .i64 1048576)) pa ?_)))))))
 refine Ch.nil (T_seq (T_region hc (Ch.s (.agg (vX x)) (.pure (.loadPtrA _ _ rfl ag26 sz26 rfl rfl (lb rfl) rfl)) (Ch.s (.d (.int .i64 1048576)) pm (Ch.s (.d (.int .i64 (szR x.bulk 1048576))) (.call 18000 16 _ _ _ en16 rfl (.inl rfl) (.cons lX (.cons (.d _) .nil)) rfl rfl (sp_laws_szStateGraph x 1048576 a17 a17 a37) (.skip _ _ (.skip _ _ .nil)) rfl) (Ch.s (.d (.int .i64 (szR x.bulk 1048576))) pa (Ch.nil ?_)))))))
 refine T_seq (T_seq (T_region hc (Ch.s (.d (.int .i64 (szR x.bulk 1048576))) pm (Ch.s (.d (.bool (decide ((szR x.bulk 1048576) < 0)))) (iX rfl rfl rfl) (Ch.nil ?_)))))
 refine T_condD (p := ((szR x.bulk 1048576) < 0)) rfl (fun h1 => ?_) (fun h1 => ?_)
 ·
  try have hz := szR_ok (t := x.bulk) (left := 1048576) h1 (by omega)
  try have hb : x.bulk ≤ 1048576 := by omega
  try have hl := hz.2
  try have hcl : (nsf x sig).1.length ≤ 1048576 := Nat.le_trans (nsf_len x sig) (by decide)
  try have hhm := held_marks 1 (nsf x sig).1.length
  refine T_seq (T_region hc (Ch.s (.d (.bool true)) pa (Ch.nil (T_ret ?_))))
  exact endR [(.d (.bool true))] [] [] (.cons (.tmp 4 rfl) .nil) (.cons (.any _) (.cons (.any _) .nil)) (.d _) rfl rfl
 ·
  try have hz := szR_ok (t := x.bulk) (left := 1048576) h1 (by omega)
  try have hb : x.bulk ≤ 1048576 := by omega
  try have hl := hz.2
  try have hcl : (nsf x sig).1.length ≤ 1048576 := Nat.le_trans (nsf_len x sig) (by decide)
  try have hhm := held_marks 1 (nsf x sig).1.length
  refine T_skip (T_seq (T_region hc (Ch.s (.agg (vX x)) (.pure (.loadPtrA _ _ rfl ag26 sz26 rfl rfl (lb rfl) rfl)) ?_)))
  refine Ch.step (v := (.agg [(.row 23000), (.row 23001), (.row 23002)])) rfl (.call 23000 18 _ _ _ en18 rfl (.inl rfl) (.cons lX .nil) rfl (sol (Sgr.sol _) rfl) (sp_laws_toStateGraph x a31) (.skip _ _ .nil) rfl) rfl rfl ?_
  refine Ch.s (.d (.int .i64 sig)) pm ?_
  refine Ch.step (v := (.tup [(.row 25000), (.d (.bool ((nsf x sig).2)))])) rfl (.call 25000 27 _ _ _ en27 rfl (.inl rfl) (.cons (.lend (.agg (.cons (.row rfl (frozs_map (fun _ => rfl) _)) (.cons (.row rfl (frozs_map (fun _ => rfl) _)) (.cons (.row rfl (frozs_map (fun _ => rfl) _)) .nil))) rfl)) (.cons (.d _) .nil)) rfl (sol a85 rfl) (sp_spec_NextStateFunction x sig a31) (.skip _ _ (.skip _ _ .nil)) rfl) rfl rfl ?_
  refine Ch.s (.tup [(.row 25000), (.d (.bool ((nsf x sig).2)))]) pm (Ch.s (.row 25000) (.pure (.extract _ rfl rfl rfl)) (Ch.s (.d (.bool ((nsf x sig).2))) (.pure (.extract _ rfl rfl rfl)) (Ch.s (.row 25000) pa (Ch.s (.d (.bool ((nsf x sig).2))) pa (Ch.nil (T_seq (T_region hc ?_)))))))
  refine Ch.s (.agg (vX x)) (.pure (.loadPtrA _ _ rfl ag26 sz26 rfl rfl (lb rfl) rfl)) ?_
  refine Ch.step (v := (.agg [(.row 29000), (.row 29001), (.row 29002)])) rfl (.call 29000 18 _ _ _ en18 rfl (.inl rfl) (.cons lX .nil) rfl (sol (Sgr.sol _) rfl) (sp_laws_toStateGraph x a31) (.skip _ _ .nil) rfl) rfl rfl ?_
  refine Ch.s (.ptr 8000 0) (.alloc 8000 _ rfl zer35) (Ch.s .junk (.storePtr _ _ _ rfl rfl rfl (.agg _ rfl) sz35 (lb rfl)) (Ch.nil (T_seq (T_region hc (Ch.s (.agg [(.row 29000), (.row 29001), (.row 29002)]) (.pure (.loadPtrA _ _ rfl ag35 sz35 rfl rfl (lb rfl) rfl)) (Ch.s (.d (.int .i64 sig)) pm ?_))))))
  refine Ch.step (v := (.tup [(.row 33000), (.d (.bool ((nsf x sig).2)))])) rfl (.call 33000 28 _ _ _ en28 rfl (.inl rfl) (.cons (.lend (.agg (.cons (.row rfl (frozs_map (fun _ => rfl) _)) (.cons (.row rfl (frozs_map (fun _ => rfl) _)) (.cons (.row rfl (frozs_map (fun _ => rfl) _)) .nil))) rfl)) (.cons (.d _) .nil)) rfl (sol a85 rfl) (sp_impl_NextStateFunction x sig a31) (.skip _ _ (.skip _ _ .nil)) rfl) rfl rfl ?_
  refine Ch.s (.tup [(.row 33000), (.d (.bool ((nsf x sig).2)))]) pm (Ch.s (.row 33000) (.pure (.extract _ rfl rfl rfl)) (Ch.s (.d (.bool ((nsf x sig).2))) (.pure (.extract _ rfl rfl rfl)) (Ch.s (.row 33000) pa (Ch.s (.d (.bool ((nsf x sig).2))) pa (Ch.nil (T_seq (T_seq ?_)))))))
  refine T_region hc (Ch.s (.row 33000) pm (Ch.s (.row 25000) pm (Ch.s (.d (.bool (decide (((nsf x sig).1) = ((nsf x sig).1))))) (.call 38000 29 _ _ _ en29 rfl (.inl rfl) (.cons (.lend (.row rfl (frozs_map (fun _ => rfl) _))) (.cons (.lend (.row rfl (frozs_map (fun _ => rfl) _))) .nil)) rfl rfl (sp_laws_eqStringS ((nsf x sig).1) ((nsf x sig).1) a17) (.skip _ _ (.skip _ _ .nil)) rfl) (Ch.s (.d (.bool (!(decide (((nsf x sig).1) = ((nsf x sig).1)))))) (.pure (.not _ _ rfl rfl)) (Ch.s (.d (.bool (!(decide (((nsf x sig).1) = ((nsf x sig).1)))))) pm ?_)))))
  cases h2 : (decide (((nsf x sig).1) = ((nsf x sig).1))) with
  | true =>
   replace h2 := of_decide_eq_true h2
   refine Ch.s (.d (.bool ((nsf x sig).2))) pm (Ch.s (.d (.bool ((nsf x sig).2))) pm (Ch.s (.d (.bool (!(decide (((nsf x sig).2) = ((nsf x sig).2)))))) (.pure (.neB _ _ _ _ rfl Tryz.underlying4 rfl rfl)) (Ch.s (.d (.bool (!(decide (((nsf x sig).2) = ((nsf x sig).2)))))) (.pure (.pickF _ _ _ rfl rfl rfl)) (Ch.nil ?_))))
   refine T_condN (b := (decide (((nsf x sig).2) = ((nsf x sig).2)))) rfl (fun h3 => ?_) (fun h3 => ?_)
   ·
    replace h3 := of_decide_eq_false h3
    refine T_seq (T_region hc (Ch.s (.d (.bool false)) pa (Ch.nil (T_ret ?_))))
    exact endR [(.d (.bool false))] [] [] (.cons (.tmp 4 rfl) .nil) (.cons (.any _) (.cons (.any _) .nil)) (Exp.of (congrArg D.bool a67) (.d _)) rfl rfl
   ·
    replace h3 := of_decide_eq_true h3
    refine T_skip (T_seq (T_seq ?_))
    refine T_regionD hc (by kernel_rfl) ?_
    refine ChD.s (.agg [(.row 29000), (.row 29001), (.row 29002)]) [8000, 29000, 29001, 29002] (.pure (.loadPtrA _ _ rfl ag35 sz35 rfl rfl (lb rfl) rfl)) (ChD.s (.agg (vX x)) [2000] (.pure (.loadPtrA _ _ rfl ag26 sz26 rfl rfl (lb rfl) rfl)) (ChD.s (.agg [(.row 47000), (.row 47001), (.row 47002)]) [] (.call 47000 18 _ _ _ en18 rfl (.inl rfl) (.cons lX .nil) rfl (sol (Sgr.sol _) rfl) (sp_laws_toStateGraph x a31) (.skip _ _ .nil) rfl) (ChD.s (.d (.bool (decide (x = x)))) [29000, 29001, 29002, 47000, 47001, 47002] (.call 48000 21 _ _ _ en21 rfl (.inl rfl) (.cons (.lend (.agg (.cons (.row rfl (frozs_map (fun _ => rfl) _)) (.cons (.row rfl (frozs_map (fun _ => rfl) _)) (.cons (.row rfl (frozs_map (fun _ => rfl) _)) .nil))) rfl)) (.cons (.lend (.agg (.cons (.row rfl (frozs_map (fun _ => rfl) _)) (.cons (.row rfl (frozs_map (fun _ => rfl) _)) (.cons (.row rfl (frozs_map (fun _ => rfl) _)) .nil))) rfl)) .nil)) rfl rfl (sp_laws_eqStateGraph x x a31) (.skip _ _ (.skip _ _ .nil)) rfl) (ChD.s (.d (.bool (!(decide (x = x))))) [] (.pure (.not _ _ rfl rfl)) ?_))))
    refine ChD.nil (And.intro ?_ (by kernel_rfl))
    refine T_condN (b := (decide (x = x))) rfl (fun h4 => ?_) (fun h4 => ?_)
    ·
     replace h4 := of_decide_eq_false h4
     refine T_seq (T_region hc (Ch.s (.d (.bool false)) pa (Ch.nil (T_ret ?_))))
     exact endR [(.d (.bool false))] [] [] (.cons (.tmp 4 rfl) .nil) (.cons (.any _) (.cons (.any _) .nil)) (Exp.of (congrArg D.bool a67) (.d _)) rfl rfl
    ·
     replace h4 := of_decide_eq_true h4
     refine T_skip (T_seq (T_region hc (Ch.s (.d (.int .i64 1)) pa (Ch.nil (T_seq (T_region hc (Ch.s (.agg [(.row 29000), (.row 29001), (.row 29002)]) (.pure (.loadPtrA _ _ rfl ag35 sz35 rfl rfl (lb rfl) rfl)) ?_)))))))
     refine Ch.s (.d (.int .i64 1)) pm (Ch.s (.d (.int .i64 ((1 + 2 * x.sigs.length + x.codes.length + 4 * x.arcs.length : Nat) : Int))) (.call 52000 22 _ _ _ en22 rfl (.inl rfl) (.cons (.agg (.cons (.row rfl) (.cons (.row rfl) (.cons (.row rfl) .nil))) rfl) (.cons (.d _) .nil)) rfl rfl (sp_laws_markStateGraph x 1 a31 a31) (.skip _ _ (.skip _ _ .nil)) rfl) (Ch.s (.d (.int .i64 ((1 + 2 * x.sigs.length + x.codes.length + 4 * x.arcs.length : Nat) : Int))) pa (Ch.nil (T_seq (T_seq (T_region hc (Ch.s (.d (.int .i64 ((1 + 2 * x.sigs.length + x.codes.length + 4 * x.arcs.length : Nat) : Int))) pm ?_)))))))
     refine Ch.s (.d (.bool (decide (((1 + 2 * x.sigs.length + x.codes.length + 4 * x.arcs.length : Nat) : Int) < 0)))) (iX rfl rfl rfl) (Ch.s (.d (.bool (decide (((1 + 2 * x.sigs.length + x.codes.length + 4 * x.arcs.length : Nat) : Int) < 0)))) pm ?_)
     cases h5 : (decide (((1 + 2 * x.sigs.length + x.codes.length + 4 * x.arcs.length : Nat) : Int) < 0)) with
     | true =>
      replace h5 := of_decide_eq_true h5
      refine Ch.skip rfl rfl (Ch.skip rfl rfl (Ch.skip rfl rfl (Ch.skip rfl rfl (Ch.s (.d (.bool true)) (.pure (.pickT _ _ _ rfl rfl rfl)) (Ch.s (.d (.bool true)) pm (Ch.skip rfl rfl (Ch.skip rfl rfl ?_)))))))
      refine Ch.skip rfl rfl (Ch.s (.d (.bool true)) (.pure (.pickT _ _ _ rfl rfl rfl)) (Ch.nil ?_))
      refine T_cond (b := true) rfl (fun _ => ?_) (fun h => nomatch h)
      refine T_seq (T_region hc (Ch.s (.d (.bool false)) pa (Ch.nil (T_ret ?_))))
      exact endR [(.d (.bool false))] [] [] (.cons (.tmp 4 rfl) .nil) (.cons (.any _) (.cons (.any _) .nil)) (Exp.of (congrArg D.bool a67) (.d _)) rfl rfl
     | false =>
      replace h5 := of_decide_eq_false h5
      refine Ch.s (.row 33000) pm (Ch.s (.row 25000) pm (Ch.s (.d (.bool (decide (((nsf x sig).1) = ((nsf x sig).1))))) (.call 58000 29 _ _ _ en29 rfl (.inl rfl) (.cons (.lend (.row rfl (frozs_map (fun _ => rfl) _))) (.cons (.lend (.row rfl (frozs_map (fun _ => rfl) _))) .nil)) rfl rfl (sp_laws_eqStringS ((nsf x sig).1) ((nsf x sig).1) a17) (.skip _ _ (.skip _ _ .nil)) rfl) (Ch.s (.d (.bool (!(decide (((nsf x sig).1) = ((nsf x sig).1)))))) (.pure (.not _ _ rfl rfl)) (Ch.s (.d (.bool (!(decide (((nsf x sig).1) = ((nsf x sig).1)))))) (.pure (.pickF _ _ _ rfl rfl rfl)) (Ch.s (.d (.bool (!(decide (((nsf x sig).1) = ((nsf x sig).1)))))) pm ?_)))))
      cases h6 : (decide (((nsf x sig).1) = ((nsf x sig).1))) with
      | true =>
       replace h6 := of_decide_eq_true h6
       refine Ch.s (.d (.bool ((nsf x sig).2))) pm (Ch.s (.d (.bool ((nsf x sig).2))) pm (Ch.s (.d (.bool (!(decide (((nsf x sig).2) = ((nsf x sig).2)))))) (.pure (.neB _ _ _ _ rfl Tryz.underlying4 rfl rfl)) (Ch.s (.d (.bool (!(decide (((nsf x sig).2) = ((nsf x sig).2)))))) (.pure (.pickF _ _ _ rfl rfl rfl)) (Ch.nil ?_))))
       refine T_condN (b := (decide (((nsf x sig).2) = ((nsf x sig).2)))) rfl (fun h7 => ?_) (fun h7 => ?_)
       ·
        replace h7 := of_decide_eq_false h7
        refine T_seq (T_region hc (Ch.s (.d (.bool false)) pa (Ch.nil (T_ret ?_))))
        exact endR [(.d (.bool false))] [] [] (.cons (.tmp 4 rfl) .nil) (.cons (.any _) (.cons (.any _) .nil)) (Exp.of (congrArg D.bool a67) (.d _)) rfl rfl
       ·
        replace h7 := of_decide_eq_true h7
        refine T_skip (T_seq (T_region hc (Ch.s (.d (.int .i64 1)) pa (Ch.nil (T_seq (T_region hc (Ch.s (.row 33000) pm ?_)))))))
        refine Ch.s (.d (.int .i64 1)) pm ?_
        refine Ch.step (v := (.d (.int .i64 ((1 + ((nsf x sig).1).length : Nat) : Int)))) rfl (.call 68000 30 _ _ _ en30 rfl (.inl rfl) (.cons (.row rfl) (.cons (.d _) .nil)) rfl (sol rfl (solids_c (solid_row (fun _ => rfl) _) rfl)) (sp_laws_markStringS ((nsf x sig).1) 1 a17 a17) (.row _ _ _ (.skip _ _ .nil)) rfl) rfl rfl ?_
        refine Ch.s (.d (.int .i64 ((1 + ((nsf x sig).1).length : Nat) : Int))) pa (Ch.nil (T_seq (T_region hc (Ch.s (.d (.int .i64 1)) pa (Ch.nil (T_seq (T_region hc ?_)))))))
        refine Ch.s (.row 33000) pm (Ch.s (.d (.int .i64 1)) pm (Ch.s (.d (.int .i64 (heldR (marks 1 ((nsf x sig).1).length) 1))) (.call 71000 31 _ _ _ en31 rfl (.inl rfl) (.cons (.lend (.row rfl (frozs_map (fun _ => rfl) _))) (.cons (.d _) .nil)) rfl rfl (sp_laws_heldStringS (marks 1 ((nsf x sig).1).length) 1 a17 a17) (.skip _ _ (.skip _ _ .nil)) rfl) (Ch.s (.d (.int .i64 (heldR (marks 1 ((nsf x sig).1).length) 1))) pa (Ch.nil (T_seq (T_seq (T_region hc ?_)))))))
        refine Ch.s (.d (.int .i64 (heldR (marks 1 ((nsf x sig).1).length) 1))) pm (Ch.s (.d (.bool (decide ((heldR (marks 1 ((nsf x sig).1).length) 1) < 0)))) (iX rfl rfl rfl) (Ch.nil ?_))
        refine T_condD (p := ((heldR (marks 1 ((nsf x sig).1).length) 1) < 0)) rfl (fun h8 => ?_) (fun h8 => ?_)
        ·
         refine T_seq (T_region hc (Ch.s (.d (.bool false)) pa (Ch.nil (T_ret ?_))))
         exact endR [(.d (.bool false))] [] [] (.cons (.tmp 4 rfl) .nil) (.cons (.any _) (.cons (.any _) .nil)) (Exp.of (congrArg D.bool a67) (.d _)) rfl rfl
        ·
         refine T_skip (T_seq (T_seq (T_region hc (Ch.s (.d (.int .i64 (heldR (marks 1 ((nsf x sig).1).length) 1))) pm (Ch.s (.d (.int .i64 ((1 + ((nsf x sig).1).length : Nat) : Int))) pm (Ch.s (.d (.bool (!(decide ((heldR (marks 1 ((nsf x sig).1).length) 1) = ((1 + ((nsf x sig).1).length : Nat) : Int)))))) (iX rfl rfl rfl) (Ch.nil ?_)))))))
         refine T_condN (b := (decide ((heldR (marks 1 ((nsf x sig).1).length) 1) = ((1 + ((nsf x sig).1).length : Nat) : Int)))) rfl (fun h9 => ?_) (fun h9 => ?_)
         ·
          replace h9 := of_decide_eq_false h9
          refine T_seq (T_region hc (Ch.s (.d (.bool false)) pa (Ch.nil (T_ret ?_))))
          exact endR [(.d (.bool false))] [] [] (.cons (.tmp 4 rfl) .nil) (.cons (.any _) (.cons (.any _) .nil)) (Exp.of (congrArg D.bool a67) (.d _)) rfl rfl
         ·
          replace h9 := of_decide_eq_true h9
          refine T_skip (T_seq (T_region hc (Ch.s (.agg (vX x)) (.pure (.loadPtrA _ _ rfl ag26 sz26 rfl rfl (lb rfl) rfl)) ?_)))
          refine Ch.step (v := (.agg [(.row 79000), (.row 79001), (.row 79002)])) rfl (.call 79000 18 _ _ _ en18 rfl (.inl rfl) (.cons lX .nil) rfl (sol (Sgr.sol _) rfl) (sp_laws_toStateGraph x a31) (.skip _ _ .nil) rfl) rfl rfl ?_
          refine Ch.s (.d (.int .i64 sig)) pm ?_
          refine Ch.step (v := (.tup [(.row 81000), (.d (.bool ((nsf x sig).2)))])) rfl (.call 81000 28 _ _ _ en28 rfl (.inl rfl) (.cons (.lend (.agg (.cons (.row rfl (frozs_map (fun _ => rfl) _)) (.cons (.row rfl (frozs_map (fun _ => rfl) _)) (.cons (.row rfl (frozs_map (fun _ => rfl) _)) .nil))) rfl)) (.cons (.d _) .nil)) rfl (sol a85 rfl) (sp_impl_NextStateFunction x sig a31) (.skip _ _ (.skip _ _ .nil)) rfl) rfl rfl ?_
          refine Ch.s (.tup [(.row 81000), (.d (.bool ((nsf x sig).2)))]) pm (Ch.s (.row 81000) (.pure (.extract _ rfl rfl rfl)) (Ch.s (.d (.bool ((nsf x sig).2))) (.pure (.extract _ rfl rfl rfl)) (Ch.s (.row 81000) pa (Ch.s (.d (.bool ((nsf x sig).2))) pa (Ch.nil (T_seq (T_seq ?_)))))))
          refine T_region hc (Ch.s (.row 81000) pm (Ch.s (.row 25000) pm (Ch.s (.d (.bool (decide (((nsf x sig).1) = ((nsf x sig).1))))) (.call 86000 29 _ _ _ en29 rfl (.inl rfl) (.cons (.lend (.row rfl (frozs_map (fun _ => rfl) _))) (.cons (.lend (.row rfl (frozs_map (fun _ => rfl) _))) .nil)) rfl rfl (sp_laws_eqStringS ((nsf x sig).1) ((nsf x sig).1) a17) (.skip _ _ (.skip _ _ .nil)) rfl) (Ch.s (.d (.bool (!(decide (((nsf x sig).1) = ((nsf x sig).1)))))) (.pure (.not _ _ rfl rfl)) (Ch.s (.d (.bool (!(decide (((nsf x sig).1) = ((nsf x sig).1)))))) pm ?_)))))
          cases h10 : (decide (((nsf x sig).1) = ((nsf x sig).1))) with
          | true =>
           replace h10 := of_decide_eq_true h10
           refine Ch.s (.d (.bool ((nsf x sig).2))) pm (Ch.s (.d (.bool ((nsf x sig).2))) pm (Ch.s (.d (.bool (!(decide (((nsf x sig).2) = ((nsf x sig).2)))))) (.pure (.neB _ _ _ _ rfl Tryz.underlying4 rfl rfl)) (Ch.s (.d (.bool (!(decide (((nsf x sig).2) = ((nsf x sig).2)))))) (.pure (.pickF _ _ _ rfl rfl rfl)) (Ch.nil ?_))))
           refine T_condN (b := (decide (((nsf x sig).2) = ((nsf x sig).2)))) rfl (fun h11 => ?_) (fun h11 => ?_)
           ·
            replace h11 := of_decide_eq_false h11
            refine T_seq (T_region hc (Ch.s (.d (.bool false)) pa (Ch.nil (T_ret ?_))))
            exact endR [(.d (.bool false))] [] [] (.cons (.tmp 4 rfl) .nil) (.cons (.any _) (.cons (.any _) .nil)) (Exp.of (congrArg D.bool a67) (.d _)) rfl rfl
           ·
            replace h11 := of_decide_eq_true h11
            refine T_skip (T_seq (T_region hc (Ch.s (.d (.int .i64 1)) pa (Ch.nil (T_seq (T_region hc (Ch.s (.row 33000) pm ?_)))))))
            refine Ch.s (.d (.int .i64 1)) pm (Ch.s (.d (.int .i64 (heldR (marks 1 ((nsf x sig).1).length) 1))) (.call 95000 31 _ _ _ en31 rfl (.inl rfl) (.cons (.lend (.row rfl (frozs_map (fun _ => rfl) _))) (.cons (.d _) .nil)) rfl rfl (sp_laws_heldStringS (marks 1 ((nsf x sig).1).length) 1 a17 a17) (.skip _ _ (.skip _ _ .nil)) rfl) (Ch.s (.d (.int .i64 (heldR (marks 1 ((nsf x sig).1).length) 1))) pa (Ch.nil (T_seq (T_seq (T_region hc (Ch.s (.d (.int .i64 (heldR (marks 1 ((nsf x sig).1).length) 1))) pm ?_)))))))
            refine Ch.s (.d (.bool (decide ((heldR (marks 1 ((nsf x sig).1).length) 1) < 0)))) (iX rfl rfl rfl) (Ch.nil ?_)
            refine T_condD (p := ((heldR (marks 1 ((nsf x sig).1).length) 1) < 0)) rfl (fun h12 => ?_) (fun h12 => ?_)
            ·
             refine T_seq (T_region hc (Ch.s (.d (.bool false)) pa (Ch.nil (T_ret ?_))))
             exact endR [(.d (.bool false))] [] [] (.cons (.tmp 4 rfl) .nil) (.cons (.any _) (.cons (.any _) .nil)) (Exp.of (congrArg D.bool a67) (.d _)) rfl rfl
            ·
             refine T_skip (T_seq (T_seq (T_region hc (Ch.s (.d (.int .i64 (heldR (marks 1 ((nsf x sig).1).length) 1))) pm (Ch.s (.d (.int .i64 ((1 + ((nsf x sig).1).length : Nat) : Int))) pm (Ch.s (.d (.bool (!(decide ((heldR (marks 1 ((nsf x sig).1).length) 1) = ((1 + ((nsf x sig).1).length : Nat) : Int)))))) (iX rfl rfl rfl) (Ch.nil ?_)))))))
             refine T_condN (b := (decide ((heldR (marks 1 ((nsf x sig).1).length) 1) = ((1 + ((nsf x sig).1).length : Nat) : Int)))) rfl (fun h13 => ?_) (fun h13 => ?_)
             ·
              replace h13 := of_decide_eq_false h13
              refine T_seq (T_region hc (Ch.s (.d (.bool false)) pa (Ch.nil (T_ret ?_))))
              exact endR [(.d (.bool false))] [] [] (.cons (.tmp 4 rfl) .nil) (.cons (.any _) (.cons (.any _) .nil)) (Exp.of (congrArg D.bool a67) (.d _)) rfl rfl
             ·
              replace h13 := of_decide_eq_true h13
              refine T_skip (T_seq (T_region hc (Ch.s (.d (.bool true)) pa (Ch.nil (T_ret ?_)))))
              exact endR [(.d (.bool true))] [] [] (.cons (.tmp 4 rfl) .nil) (.cons (.any _) (.cons (.any _) .nil)) (.d _) rfl rfl
          | false =>
           replace h10 := of_decide_eq_false h10
           refine Ch.skip rfl rfl (Ch.skip rfl rfl (Ch.skip rfl rfl (Ch.s (.d (.bool true)) (.pure (.pickT _ _ _ rfl rfl rfl)) (Ch.nil ?_))))
           refine T_cond (b := true) rfl (fun _ => ?_) (fun h => nomatch h)
           refine T_seq (T_region hc (Ch.s (.d (.bool false)) pa (Ch.nil (T_ret ?_))))
           exact endR [(.d (.bool false))] [] [] (.cons (.tmp 4 rfl) .nil) (.cons (.any _) (.cons (.any _) .nil)) (Exp.of (congrArg D.bool a67) (.d _)) rfl rfl
      | false =>
       replace h6 := of_decide_eq_false h6
       refine Ch.skip rfl rfl (Ch.skip rfl rfl (Ch.skip rfl rfl (Ch.s (.d (.bool true)) (.pure (.pickT _ _ _ rfl rfl rfl)) (Ch.nil ?_))))
       refine T_cond (b := true) rfl (fun _ => ?_) (fun h => nomatch h)
       refine T_seq (T_region hc (Ch.s (.d (.bool false)) pa (Ch.nil (T_ret ?_))))
       exact endR [(.d (.bool false))] [] [] (.cons (.tmp 4 rfl) .nil) (.cons (.any _) (.cons (.any _) .nil)) (Exp.of (congrArg D.bool a67) (.d _)) rfl rfl
  | false =>
   replace h2 := of_decide_eq_false h2
   refine Ch.skip rfl rfl (Ch.skip rfl rfl (Ch.skip rfl rfl (Ch.s (.d (.bool true)) (.pure (.pickT _ _ _ rfl rfl rfl)) (Ch.nil ?_))))
   refine T_cond (b := true) rfl (fun _ => ?_) (fun h => nomatch h)
   refine T_seq (T_region hc (Ch.s (.d (.bool false)) pa (Ch.nil (T_ret ?_))))
   exact endR [(.d (.bool false))] [] [] (.cons (.tmp 4 rfl) .nil) (.cons (.any _) (.cons (.any _) .nil)) (Exp.of (congrArg D.bool a67) (.d _)) rfl rfl

end Go.AM
