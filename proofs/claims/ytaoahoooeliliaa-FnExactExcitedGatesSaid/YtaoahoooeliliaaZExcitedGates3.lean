/-
  The contracts that the law FnExactExcitedGates needs.
-/
import Derived.Test.YtaoahoooeliliaaZExcitedGates2
namespace Go.AM
open Go.Proofs
set_option linter.unusedVariables false
set_option linter.unusedSimpArgs false

theorem sp_spec_l16Next (a : Gat) (u : List UInt8) (n : Nat) (hf : gateFit n a) (hu : codeFit n u) : Sp Try.prog 52 [(.agg [(.int .i64 a.sig), (.int .i64 a.kind), (.slice false 1 (a.ups.map D.str)), (.slice false 1 (a.downs.map D.str))]), (.str u)] [.any, .any] (.bool (nextB a u)) := by
  refine Sp_intro (lend := true) Try.func52 rfl rfl rfl (fun _ => rfl) (fun c hc hX => ?_)
  have h8 := hf.2.2.2.2.1; have hs0 := hf.2.1.1; have hs1 := hf.2.1.2; have hul := hu.1; have hu1 := hf.2.2.1; have hd1 := hf.2.2.2.1; have hbit := hu.2 a.sig.toNat hs1; have hkd := hf.1; have hu60 := hf.2.2.2.2.2.1; have hd60 := hf.2.2.2.2.2.2
  refine T_seq ?_
  refine T_region hc ?_
  refine Ch.step (v := (.ptr 2000 0)) rfl (.box 2000 _ _ rfl (.aggD _)) rfl rfl ?_
  refine Ch.step (v := (.d (.bool false))) rfl (.pure (.assign _ rfl rfl)) rfl rfl ?_
  refine Ch.nil ?_
  refine T_seq ?_
  refine T_seq ?_
  refine T_region hc ?_
  refine Ch.step (v := (.ptr 2000 1)) rfl (.pure (.fldPtr _ _ _ rfl fld77_1 rfl)) rfl rfl ?_
  refine Ch.step (v := (.d (.int .i64 a.kind))) rfl (.pure (.loadPtr1 _ _ rfl ag3 rfl rfl rfl)) rfl rfl ?_
  refine Ch.step (v := (.d (.bool (decide (a.kind = 1))))) rfl (.pure (.int _ _ _ _ _ rfl rfl rfl rfl)) rfl rfl ?_
  refine Ch.step (v := (.d (.bool (decide (a.kind = 1))))) rfl (.pure (.move _ rfl rfl)) rfl rfl ?_
  cases h1 : (decide (a.kind = 1)) with
  | true =>
    replace h1 := of_decide_eq_true h1
    refine Ch.skip rfl rfl ?_
    refine Ch.skip rfl rfl ?_
    refine Ch.skip rfl rfl ?_
    refine Ch.skip rfl rfl ?_
    refine Ch.skip rfl rfl ?_
    refine Ch.step (v := (.d (.bool true))) rfl (.pure (.pickT _ _ _ rfl rfl rfl)) rfl rfl ?_
    refine Ch.nil ?_
    refine T_cond (b := true) rfl (fun _ => ?_) (fun h => nomatch h)
    refine T_seq ?_
    refine T_region hc ?_
    refine Ch.step (v := (.ptr 2000 2)) rfl (.pure (.fldPtr _ _ _ rfl fld77_2 rfl)) rfl rfl ?_
    refine Ch.step (v := (.d (.slice false 1 (a.ups.map D.str)))) rfl (.pure (.loadPtr1 _ _ rfl ag43 rfl rfl rfl)) rfl rfl ?_
    refine Ch.step (v := (.d (.str u))) rfl (.pure (.move _ rfl rfl)) rfl rfl ?_
    refine Ch.step (v := (.d (.bool (inB a.ups u)))) rfl (.call 18000 106 _ _ _ en106 rfl (.inl rfl) (.cons (.d _) (.cons (.d _) .nil)) rfl rfl (sp_spec_l13In a.ups u (by first | omega | assumption | (exact hx _ (getD_mem (by omega))) | (exact hx _ (by assumption)) | (exact Nat.le_trans (hx _ (by assumption)) (by omega)) | (simp only [List.length_append, List.length_take, List.length_drop, List.length_cons, List.length_nil]; omega) | (simp_all; done)) (by first | omega | assumption | (exact hx _ (getD_mem (by omega))) | (exact hx _ (by assumption)) | (exact Nat.le_trans (hx _ (by assumption)) (by omega)) | (simp only [List.length_append, List.length_take, List.length_drop, List.length_cons, List.length_nil]; omega) | (simp_all; done)) (by first | omega | assumption | (exact hx _ (getD_mem (by omega))) | (exact hx _ (by assumption)) | (exact Nat.le_trans (hx _ (by assumption)) (by omega)) | (simp only [List.length_append, List.length_take, List.length_drop, List.length_cons, List.length_nil]; omega) | (simp_all; done))) (.skip _ _ (.skip _ _ .nil)) rfl) rfl rfl ?_
    refine Ch.step (v := (.d (.bool (inB a.ups u)))) rfl (.pure (.assign _ rfl rfl)) rfl rfl ?_
    refine Ch.nil ?_
    refine T_ret ?_
    refine And.intro (.inr rfl) ?_
    exact Exists.intro [(.d (.bool (inB a.ups u)))] (Exists.intro [] (Exists.intro [] (And.intro (.cons (.tmp 4 rfl) .nil) (And.intro (.cons (.any _) (.cons (.any _) .nil)) (And.intro (Exp.of (congrArg D.bool (by first | (exact nextB_set (by omega)) | (exact nextB_zero (by assumption)) | (exact nextB_one (by omega) (by assumption)) | (exact nextB_zero (fun e => by simp_all)) | (exact nextB_one (by omega) (by simp_all)))) (.d _)) (And.intro rfl rfl))))))
  | false =>
    replace h1 := of_decide_eq_false h1
    refine Ch.step (v := (.d (.str u))) rfl (.pure (.move _ rfl rfl)) rfl rfl ?_
    refine Ch.step (v := (.ptr 2000 0)) rfl (.pure (.fldPtr _ _ _ rfl fld77_0 rfl)) rfl rfl ?_
    refine Ch.step (v := (.d (.int .i64 a.sig))) rfl (.pure (.loadPtr1 _ _ rfl ag3 rfl rfl rfl)) rfl rfl ?_
    refine Ch.step (v := (.d (.int .u8 ((u.getD ((a.sig).toNat) 0).toNat : Int)))) rfl (.pure (.idxStr _ _ _ ((a.sig).toNat) rfl Try.underlying9 rfl rfl (by omega) (get_str (by first | omega | (simp only [List.length_map, List.length_append, List.length_take, List.length_drop, List.length_cons, List.length_nil]; omega) | (simp; omega) | (simp; done))))) rfl rfl ?_
    refine Ch.step (v := (.d (.bool (decide (((u.getD ((a.sig).toNat) 0) : UInt8) = 48))))) rfl (.pure (.int _ _ _ _ _ rfl rfl rfl (u8_eql ((u.getD ((a.sig).toNat) 0) : UInt8) 48 rfl rfl))) rfl rfl ?_
    refine Ch.step (v := (.d (.bool (decide (((u.getD ((a.sig).toNat) 0) : UInt8) = 48))))) rfl (.pure (.pickF _ _ _ rfl rfl rfl)) rfl rfl ?_
    refine Ch.nil ?_
    refine T_cond (b := (decide (((u.getD ((a.sig).toNat) 0) : UInt8) = 48))) rfl (fun h2 => ?_) (fun h2 => ?_)
    · replace h2 := of_decide_eq_true h2
      refine T_seq ?_
      refine T_region hc ?_
      refine Ch.step (v := (.ptr 2000 2)) rfl (.pure (.fldPtr _ _ _ rfl fld77_2 rfl)) rfl rfl ?_
      refine Ch.step (v := (.d (.slice false 1 (a.ups.map D.str)))) rfl (.pure (.loadPtr1 _ _ rfl ag43 rfl rfl rfl)) rfl rfl ?_
      refine Ch.step (v := (.d (.str u))) rfl (.pure (.move _ rfl rfl)) rfl rfl ?_
      refine Ch.step (v := (.d (.bool (inB a.ups u)))) rfl (.call 18000 106 _ _ _ en106 rfl (.inl rfl) (.cons (.d _) (.cons (.d _) .nil)) rfl rfl (sp_spec_l13In a.ups u (by first | omega | assumption | (exact hx _ (getD_mem (by omega))) | (exact hx _ (by assumption)) | (exact Nat.le_trans (hx _ (by assumption)) (by omega)) | (simp only [List.length_append, List.length_take, List.length_drop, List.length_cons, List.length_nil]; omega) | (simp_all; done)) (by first | omega | assumption | (exact hx _ (getD_mem (by omega))) | (exact hx _ (by assumption)) | (exact Nat.le_trans (hx _ (by assumption)) (by omega)) | (simp only [List.length_append, List.length_take, List.length_drop, List.length_cons, List.length_nil]; omega) | (simp_all; done)) (by first | omega | assumption | (exact hx _ (getD_mem (by omega))) | (exact hx _ (by assumption)) | (exact Nat.le_trans (hx _ (by assumption)) (by omega)) | (simp only [List.length_append, List.length_take, List.length_drop, List.length_cons, List.length_nil]; omega) | (simp_all; done))) (.skip _ _ (.skip _ _ .nil)) rfl) rfl rfl ?_
      refine Ch.step (v := (.d (.bool (inB a.ups u)))) rfl (.pure (.assign _ rfl rfl)) rfl rfl ?_
      refine Ch.nil ?_
      refine T_ret ?_
      refine And.intro (.inr rfl) ?_
      exact Exists.intro [(.d (.bool (inB a.ups u)))] (Exists.intro [] (Exists.intro [] (And.intro (.cons (.tmp 4 rfl) .nil) (And.intro (.cons (.any _) (.cons (.any _) .nil)) (And.intro (Exp.of (congrArg D.bool (by first | (exact nextB_set (by omega)) | (exact nextB_zero (by assumption)) | (exact nextB_one (by omega) (by assumption)) | (exact nextB_zero (fun e => by simp_all)) | (exact nextB_one (by omega) (by simp_all)))) (.d _)) (And.intro rfl rfl))))))
    · replace h2 := of_decide_eq_false h2
      refine T_skip ?_
      refine T_seq ?_
      refine T_region hc ?_
      refine Ch.step (v := (.ptr 2000 3)) rfl (.pure (.fldPtr _ _ _ rfl fld77_3 rfl)) rfl rfl ?_
      refine Ch.step (v := (.d (.slice false 1 (a.downs.map D.str)))) rfl (.pure (.loadPtr1 _ _ rfl ag43 rfl rfl rfl)) rfl rfl ?_
      refine Ch.step (v := (.d (.str u))) rfl (.pure (.move _ rfl rfl)) rfl rfl ?_
      refine Ch.step (v := (.d (.bool (inB a.downs u)))) rfl (.call 22000 106 _ _ _ en106 rfl (.inl rfl) (.cons (.d _) (.cons (.d _) .nil)) rfl rfl (sp_spec_l13In a.downs u (by first | omega | assumption | (exact hx _ (getD_mem (by omega))) | (exact hx _ (by assumption)) | (exact Nat.le_trans (hx _ (by assumption)) (by omega)) | (simp only [List.length_append, List.length_take, List.length_drop, List.length_cons, List.length_nil]; omega) | (simp_all; done)) (by first | omega | assumption | (exact hx _ (getD_mem (by omega))) | (exact hx _ (by assumption)) | (exact Nat.le_trans (hx _ (by assumption)) (by omega)) | (simp only [List.length_append, List.length_take, List.length_drop, List.length_cons, List.length_nil]; omega) | (simp_all; done)) (by first | omega | assumption | (exact hx _ (getD_mem (by omega))) | (exact hx _ (by assumption)) | (exact Nat.le_trans (hx _ (by assumption)) (by omega)) | (simp only [List.length_append, List.length_take, List.length_drop, List.length_cons, List.length_nil]; omega) | (simp_all; done))) (.skip _ _ (.skip _ _ .nil)) rfl) rfl rfl ?_
      refine Ch.step (v := (.d (.bool (!(inB a.downs u))))) rfl (.pure (.not _ _ rfl rfl)) rfl rfl ?_
      refine Ch.step (v := (.d (.bool (!(inB a.downs u))))) rfl (.pure (.assign _ rfl rfl)) rfl rfl ?_
      refine Ch.nil ?_
      refine T_ret ?_
      refine And.intro (.inr rfl) ?_
      exact Exists.intro [(.d (.bool (!(inB a.downs u))))] (Exists.intro [] (Exists.intro [] (And.intro (.cons (.tmp 4 rfl) .nil) (And.intro (.cons (.any _) (.cons (.any _) .nil)) (And.intro (Exp.of (congrArg D.bool (by first | (exact nextB_set (by omega)) | (exact nextB_zero (by assumption)) | (exact nextB_one (by omega) (by assumption)) | (exact nextB_zero (fun e => by simp_all)) | (exact nextB_one (by omega) (by simp_all)))) (.d _)) (And.intro rfl rfl))))))

theorem en63 : Enters Try.prog 63 := ⟨_, Try.func63, by kernel_rfl, rfl⟩

theorem en41 : Enters Try.prog 41 := ⟨_, Try.func41, by kernel_rfl, rfl⟩

theorem sp_laws_markSignalS (xs : List Sgn) (k : Nat) (hn : xs.length ≤ 1048576) (hk : k ≤ 2097152) : Sp Try.prog 63 [(.slice true 2 (xs.map Sgn.d)), (.int .i64 ((k : Nat) : Int))] [.any, .any] (.int .i64 ((k + 2 * xs.length : Nat) : Int)) := by
  refine Sp_intro (lend := false) Try.func63 rfl rfl rfl (fun h => nomatch h) (fun c hc hX => ?_)
  refine T_seq ?_
  refine T_region hc ?_
  refine Ch.step (v := (.d (.int .i64 0))) rfl (.pure (.assign _ rfl rfl)) rfl rfl ?_
  refine Ch.nil ?_
  refine T_seq ?_
  refine T_seq ?_
  refine T_region hc ?_
  refine Ch.step (v := (.d (.int .i64 0))) rfl (.pure (.assign _ rfl rfl)) rfl rfl ?_
  refine Ch.nil ?_
  refine T_block ?_
  refine T_loop (ι := Nat × List Sgn) (fun p => { n := 28, sl := [(0, (.row 1)), (1, (.d (.int .i64 ((k + 2 * p.1 : Nat) : Int)))), (5, (.d (.int .i64 ((p.1 : Nat) : Int))))], hp := [(1, (some (.row 2 (p.2.map Sgn.d))))], pin := [1] }) (fun p => p.1 ≤ xs.length ∧ p.2.length = xs.length) (fun p => xs.length - p.1) ⟨(0, xs), ⟨by dsimp only; omega, rfl⟩, (Wk.of rfl rfl (And.intro rfl (And.intro (vI (by first | rfl | omega | (simp; done) | (simp; omega))) (And.intro (vI (by first | rfl | omega | (simp; done) | (simp; omega))) trivial))) (And.intro (oR (by first | rfl | (rw [List.set_set, List.map_set]; rfl) | (rw [List.set_set, List.set_set, List.map_set]; rfl) | (rw [List.set_set, List.set_set, List.set_set, List.map_set]; rfl))) trivial))⟩ (fun p hp0 => ?_)
  have hql := hp0.2
  refine T_seq ?_
  refine T_seq ?_
  refine T_region hc ?_
  refine Ch.step (v := (.d (.int .i64 ((p.1 : Nat) : Int)))) rfl (.pure (.move _ rfl rfl)) rfl rfl ?_
  refine Ch.step (v := (.row 1)) rfl (.pure (.move _ rfl rfl)) rfl rfl ?_
  refine Ch.step (v := (.d (.int .i64 ((p.2.length : Nat) : Int)))) rfl (.pure (.len _ _ 97 rfl Try.underlying29 (.row rfl) (by simp))) rfl rfl ?_
  refine Ch.step (v := (.d (.bool (decide (((p.1 : Nat) : Int) < ((p.2.length : Nat) : Int)))))) rfl (.pure (.int _ _ _ _ _ rfl rfl rfl rfl)) rfl rfl ?_
  refine Ch.nil ?_
  refine T_cond (b := (decide (((p.1 : Nat) : Int) < ((p.2.length : Nat) : Int)))) rfl (fun h1 => ?_) (fun h1 => ?_)
  · replace h1 := of_decide_eq_true h1
    refine T_skip ?_
    refine T_seq ?_
    refine T_block ?_
    refine T_seq ?_
    refine T_region hc ?_
    refine Ch.step (v := (.row 1)) rfl (.pure (.move _ rfl rfl)) rfl rfl ?_
    refine Ch.step (v := (.d (.int .i64 ((p.1 : Nat) : Int)))) rfl (.pure (.move _ rfl rfl)) rfl rfl ?_
    refine Ch.step (v := (.d (.int .i64 ((k + 2 * p.1 : Nat) : Int)))) rfl (.pure (.move _ rfl rfl)) rfl rfl ?_
    refine Ch.step (v := (.d (.str (mtext (k + 2 * p.1))))) rfl (.call 15000 96 _ _ _ en96 rfl (.inl rfl) (.cons (.d _) .nil) rfl rfl (sp_laws_markText (k + 2 * p.1) (by first | omega | assumption | (exact hx _ (getD_mem (by omega))) | (exact hx _ (by assumption)) | (exact Nat.le_trans (hx _ (by assumption)) (by omega)) | (simp only [List.length_append, List.length_take, List.length_drop, List.length_cons, List.length_nil]; omega) | (simp_all; done))) (.skip _ _ .nil) rfl) rfl rfl ?_
    refine Ch.step (v := (.el 1 2 p.1 0)) rfl (.pure (.idxRow _ _ _ 97 (p.1) rfl Try.underlying29 sz97 rfl rfl rfl rfl (by first | omega | (simp only [List.length_map, List.length_set]; omega) | (simp; omega)))) rfl rfl ?_
    refine Ch.step (v := (.el 1 2 p.1 0)) rfl (.pure (.fldEl _ _ _ rfl fld97_0 rfl)) rfl rfl ?_
    refine Ch.step (v := .junk) rfl (.storeEl (y' := (.agg [(.str (mtext (k + 2 * p.1))), (.int .i64 ((p.2.getD p.1 default).kind))])) _ _ _ rfl rfl rfl (.d _) rfl sz9 rfl (get_map _ (by first | omega | (simp only [List.length_map, List.length_append, List.length_take, List.length_drop, List.length_cons, List.length_nil]; omega) | (simp; omega) | (simp; done))) rfl rfl) rfl rfl ?_
    refine Ch.nil ?_
    refine T_seq ?_
    refine T_region hc ?_
    refine Ch.step (v := (.d (.int .i64 ((k + 2 * p.1 : Nat) : Int)))) rfl (.pure (.move _ rfl rfl)) rfl rfl ?_
    refine Ch.step (v := (.d (.int .i64 (((k + 2 * p.1 : Nat) : Int) + 1)))) rfl (.pure (.int _ _ _ _ _ rfl rfl rfl (intV_add (by first | omega | (simp only [List.length_map, List.length_append, List.length_take, List.length_drop, List.length_cons, List.length_nil]; omega) | (simp; omega) | (simp; done)) (by first | omega | (simp only [List.length_map, List.length_append, List.length_take, List.length_drop, List.length_cons, List.length_nil]; omega) | (simp; omega) | (simp; done))))) rfl rfl ?_
    refine Ch.step (v := (.d (.int .i64 (((k + 2 * p.1 : Nat) : Int) + 1)))) rfl (.pure (.assign _ rfl rfl)) rfl rfl ?_
    refine Ch.nil ?_
    refine T_seq ?_
    refine T_region hc ?_
    refine Ch.step (v := (.row 1)) rfl (.pure (.move _ rfl rfl)) rfl rfl ?_
    refine Ch.step (v := (.d (.int .i64 ((p.1 : Nat) : Int)))) rfl (.pure (.move _ rfl rfl)) rfl rfl ?_
    refine Ch.step (v := (.d (.int .i64 (((k + 2 * p.1 : Nat) : Int) + 1)))) rfl (.pure (.move _ rfl rfl)) rfl rfl ?_
    refine Ch.step (v := (.el 1 2 p.1 0)) rfl (.pure (.idxRow _ _ _ 97 (p.1) rfl Try.underlying29 sz97 rfl rfl rfl rfl (by first | omega | (simp only [List.length_map, List.length_set]; omega) | (simp; omega)))) rfl rfl ?_
    refine Ch.step (v := (.el 1 2 p.1 1)) rfl (.pure (.fldEl _ _ _ rfl fld97_1 rfl)) rfl rfl ?_
    refine Ch.step (v := .junk) rfl (.storeEl (y' := (.agg [(.str (mtext (k + 2 * p.1))), (.int .i64 (((k + 2 * p.1 : Nat) : Int) + 1))])) _ _ _ rfl rfl rfl (.d _) rfl sz3 rfl (get_set (by first | omega | (simp only [List.length_map, List.length_set]; omega) | (simp; omega))) rfl rfl) rfl rfl ?_
    refine Ch.nil ?_
    refine T_region hc ?_
    refine Ch.step (v := (.d (.int .i64 (((k + 2 * p.1 : Nat) : Int) + 1)))) rfl (.pure (.move _ rfl rfl)) rfl rfl ?_
    refine Ch.step (v := (.d (.int .i64 ((((k + 2 * p.1 : Nat) : Int) + 1) + 1)))) rfl (.pure (.int _ _ _ _ _ rfl rfl rfl (intV_add (by first | omega | (simp only [List.length_map, List.length_append, List.length_take, List.length_drop, List.length_cons, List.length_nil]; omega) | (simp; omega) | (simp; done)) (by first | omega | (simp only [List.length_map, List.length_append, List.length_take, List.length_drop, List.length_cons, List.length_nil]; omega) | (simp; omega) | (simp; done))))) rfl rfl ?_
    refine Ch.step (v := (.d (.int .i64 ((((k + 2 * p.1 : Nat) : Int) + 1) + 1)))) rfl (.pure (.assign _ rfl rfl)) rfl rfl ?_
    refine Ch.nil ?_
    refine T_region hc ?_
    refine Ch.step (v := (.d (.int .i64 ((p.1 : Nat) : Int)))) rfl (.pure (.move _ rfl rfl)) rfl rfl ?_
    refine Ch.step (v := (.d (.int .i64 (((p.1 : Nat) : Int) + 1)))) rfl (.pure (.int _ _ _ _ _ rfl rfl rfl (intV_add (by first | omega | (simp only [List.length_map, List.length_append, List.length_take, List.length_drop, List.length_cons, List.length_nil]; omega) | (simp; omega) | (simp; done)) (by first | omega | (simp only [List.length_map, List.length_append, List.length_take, List.length_drop, List.length_cons, List.length_nil]; omega) | (simp; omega) | (simp; done))))) rfl rfl ?_
    refine Ch.step (v := (.d (.int .i64 (((p.1 : Nat) : Int) + 1)))) rfl (.pure (.assign _ rfl rfl)) rfl rfl ?_
    refine Ch.nil ?_
    refine Exists.intro ((p.1 + 1, p.2.set p.1 (Sgn.mk (mtext (k + 2 * p.1)) ((k + 2 * p.1 + 1 : Nat) : Int)))) (And.intro ⟨by dsimp only; omega, by dsimp only; rw [List.length_set]; exact hp0.2⟩ (And.intro (by first | omega | (dsimp only; omega)) (Wk.of rfl rfl (And.intro rfl (And.intro (vI (by first | rfl | omega | (simp; done) | (simp; omega))) (And.intro (vI (by first | rfl | omega | (simp; done) | (simp; omega))) trivial))) (And.intro (oR (by first | rfl | (rw [List.set_set, List.map_set]; rfl) | (rw [List.set_set, List.set_set, List.map_set]; rfl) | (rw [List.set_set, List.set_set, List.set_set, List.map_set]; rfl))) trivial))))
  · replace h1 := of_decide_eq_false h1
    refine T_exit ?_
    refine T_seq ?_
    refine T_region hc ?_
    refine Ch.step (v := (.d (.int .i64 ((k + 2 * p.1 : Nat) : Int)))) rfl (.pure (.move _ rfl rfl)) rfl rfl ?_
    refine Ch.step (v := (.d (.int .i64 ((k + 2 * p.1 : Nat) : Int)))) rfl (.pure (.assign _ rfl rfl)) rfl rfl ?_
    refine Ch.nil ?_
    refine T_ret ?_
    refine And.intro (.inr rfl) ?_
    exact Exists.intro [(.d (.int .i64 ((k + 2 * p.1 : Nat) : Int)))] (Exists.intro [] (Exists.intro [] (And.intro (.cons (.tmp 4 rfl) .nil) (And.intro (.cons (.any _) (.cons (.any _) .nil)) (And.intro (Exp.of (congrArg (D.int .i64) (by omega)) (.d _)) (And.intro rfl rfl))))))

theorem en20 : Enters Try.prog 20 := ⟨_, Try.func20, by kernel_rfl, rfl⟩

theorem en22 : Enters Try.prog 22 := ⟨_, Try.func22, by kernel_rfl, rfl⟩

theorem en23 : Enters Try.prog 23 := ⟨_, Try.func23, by kernel_rfl, rfl⟩

theorem en64 : Enters Try.prog 64 := ⟨_, Try.func64, by kernel_rfl, rfl⟩

theorem en101 : Enters Try.prog 101 := ⟨_, Try.func101, by kernel_rfl, rfl⟩

theorem en62 : Enters Try.prog 62 := ⟨_, Try.func62, by kernel_rfl, rfl⟩

theorem en61 : Enters Try.prog 61 := ⟨_, Try.func61, by kernel_rfl, rfl⟩

theorem en18 : Enters Try.prog 18 := ⟨_, Try.func18, by kernel_rfl, rfl⟩

theorem en19 : Enters Try.prog 19 := ⟨_, Try.func19, by kernel_rfl, rfl⟩

theorem en21 : Enters Try.prog 21 := ⟨_, Try.func21, by kernel_rfl, rfl⟩

theorem mg_at {τ : Type} [Inhabited τ] {f : τ → D} {P : List D} {xs : List τ} {m : Nat} (h : P.length = m) (hm : m < xs.length) : (P ++ (xs.drop m).map f)[m]? = some (f (xs.getD m default)) := by
  rw [List.getElem?_append_right (by omega), h, Nat.sub_self, List.getElem?_map, List.getElem?_drop, Nat.add_zero]
  simp [hm]

theorem mg_set {τ : Type} {f : τ → D} {P : List D} {xs : List τ} {m : Nat} {y : D} (h : P.length = m) (hm : m < xs.length) : (P ++ (xs.drop m).map f).set m y = (P ++ [y]) ++ (xs.drop (m + 1)).map f := by
  rw [List.set_append_right (h := by omega), h, Nat.sub_self, List.drop_eq_getElem_cons hm, List.map_cons, List.set_cons_zero, List.append_assoc]
  rfl

theorem mg_len {τ : Type} {f : τ → D} {P : List D} {xs : List τ} {m : Nat} (h : P.length = m) (hm : m ≤ xs.length) : (P ++ (xs.drop m).map f).length = xs.length := by
  rw [List.length_append, List.length_map, List.length_drop]; omega

def markSum (xs : List Gat) (m : Nat) : Nat := ((xs.take m).map fun a => 2 + a.ups.length + a.downs.length).sum

theorem markSum_succ {xs : List Gat} {m : Nat} (h : m < xs.length) : markSum xs (m + 1) = markSum xs m + (2 + (xs.getD m default).ups.length + (xs.getD m default).downs.length) := by
  have hg : xs.getD m default = xs[m] := by simp [h]
  unfold markSum
  rw [List.take_succ_eq_append_getElem h, List.map_append, List.sum_append, hg]
  simp

theorem markSum_all {xs : List Gat} {m : Nat} (h : xs.length ≤ m) : markSum xs m = markSum xs xs.length := by
  unfold markSum
  rw [List.take_of_length_le h, List.take_of_length_le (Nat.le_refl _)]

theorem markSum_le {xs : List Gat} {n : Nat} (hb : bulkF Gat.bulk xs ≤ n) (m : Nat) : markSum xs m ≤ 2 * n := by
  have h1 : ∀ l : List Gat, (l.map fun a => 2 + a.ups.length + a.downs.length).sum ≤ 2 * l.length + (l.map Gat.bulk).sum := by
    intro l
    induction l with
    | nil => exact Nat.le_refl 0
    | cons a l ih =>
      have h2 : a.ups.length + a.downs.length ≤ a.bulk := by
        have h3 := bulk_len (xs := a.ups) (n := bulkS a.ups) (Nat.le_refl _)
        have h4 := bulk_len (xs := a.downs) (n := bulkS a.downs) (Nat.le_refl _)
        unfold Gat.bulk; omega
      simp only [List.map_cons, List.sum_cons, List.length_cons]
      omega
  have h2 := h1 (xs.take m)
  have h3 : ((xs.take m).map Gat.bulk).sum ≤ (xs.map Gat.bulk).sum := sumF_le Gat.bulk xs m
  have h4 : (xs.take m).length ≤ xs.length := by rw [List.length_take]; omega
  unfold bulkF at hb
  unfold markSum
  omega

theorem sp_laws_markGateS (xs : List Gat) (k : Nat) (hb : bulkF Gat.bulk xs ≤ 1048576) (hk : k + 2 * bulkF Gat.bulk xs ≤ 3145728) : Sp Try.prog 64 [(.slice true 4 (xs.map Gat.u)), (.int .i64 ((k : Nat) : Int))] [.any, .any] (.int .i64 ((k + markSum xs xs.length : Nat) : Int)) := by
  refine Sp_intro (lend := false) Try.func64 rfl rfl rfl (fun h => nomatch h) (fun c hc hX => ?_)
  have hn := bulkF_len hb; have hms := markSum_le (xs := xs) (Nat.le_refl (bulkF Gat.bulk xs))
  refine T_seq ?_
  refine T_region hc ?_
  refine Ch.step (v := (.d (.int .i64 0))) rfl (.pure (.assign _ rfl rfl)) rfl rfl ?_
  refine Ch.nil ?_
  refine T_seq ?_
  refine T_seq ?_
  refine T_region hc ?_
  refine Ch.step (v := (.d (.int .i64 0))) rfl (.pure (.assign _ rfl rfl)) rfl rfl ?_
  refine Ch.nil ?_
  refine T_block ?_
  refine T_loop (ι := Nat × List D) (fun q => { n := 41, sl := [(0, (.row 1)), (1, (.d (.int .i64 ((k + markSum xs q.1 : Nat) : Int)))), (5, (.d (.int .i64 ((q.1 : Nat) : Int))))], hp := [(1, (some (.row 4 ((q.2 ++ (xs.drop q.1).map Gat.u)))))], pin := [1] }) (fun q => q.1 ≤ xs.length ∧ q.2.length = q.1) (fun q => xs.length - q.1) ⟨(0, []), ⟨by dsimp only; omega, rfl⟩, (Wk.of rfl rfl (And.intro rfl (And.intro (vI (by first | rfl | (dsimp only; rw [markSum_succ (by omega)]; omega))) (And.intro (vI (by first | rfl | omega | (simp; done) | (simp; omega))) trivial))) (And.intro (oR (by first | rfl | (simp only [List.set_set]; exact mg_set hp0.2 (by omega)))) trivial))⟩ (fun q hp0 => ?_)
  have hml := mg_len (f := Gat.u) hp0.2 hp0.1; have hmq := hms q.1; have hmq1 := hms (q.1 + 1)
  refine T_seq ?_
  refine T_seq ?_
  refine T_region hc ?_
  refine Ch.step (v := (.d (.int .i64 ((q.1 : Nat) : Int)))) rfl (.pure (.move _ rfl rfl)) rfl rfl ?_
  refine Ch.step (v := (.row 1)) rfl (.pure (.move _ rfl rfl)) rfl rfl ?_
  refine Ch.step (v := (.d (.int .i64 ((((q.2 ++ (xs.drop q.1).map Gat.u)).length : Nat) : Int)))) rfl (.pure (.len _ _ 77 rfl Try.underlying30 (.row rfl) rfl)) rfl rfl ?_
  refine Ch.step (v := (.d (.bool (decide (((q.1 : Nat) : Int) < ((((q.2 ++ (xs.drop q.1).map Gat.u)).length : Nat) : Int)))))) rfl (.pure (.int _ _ _ _ _ rfl rfl rfl rfl)) rfl rfl ?_
  refine Ch.nil ?_
  refine T_cond (b := (decide (((q.1 : Nat) : Int) < ((((q.2 ++ (xs.drop q.1).map Gat.u)).length : Nat) : Int)))) rfl (fun h1 => ?_) (fun h1 => ?_)
  · replace h1 := of_decide_eq_true h1
    try have hms1 := markSum_succ (xs := xs) (m := q.1) (by omega)
    try have hbk := bulkF_mem hb _ (getD_mem (l := xs) (j := q.1) (d := default) (by omega))
    try have hbu := bulk_len (Gat.parts hbk).1
    try have hbd := bulk_len (Gat.parts hbk).2
    refine T_skip ?_
    refine T_seq ?_
    refine T_block ?_
    refine T_seq ?_
    refine T_takeF 1 q.1 2 7000002 7000003 rfl (mg_at hp0.2 (by omega)) rfl rfl rfl (fun u1 => ?_)
    refine T_takeF 1 q.1 3 7000004 7000005 rfl (get_set (by first | omega | (simp only [List.length_map, List.length_set]; omega) | (simp; omega))) rfl rfl rfl (fun u2 => ?_)
    refine T_region hc ?_
    refine Ch.step (v := (.row 1)) rfl (.pure (.move _ rfl rfl)) rfl rfl ?_
    refine Ch.step (v := (.d (.int .i64 ((q.1 : Nat) : Int)))) rfl (.pure (.move _ rfl rfl)) rfl rfl ?_
    refine Ch.step (v := (.d (.int .i64 ((k + markSum xs q.1 : Nat) : Int)))) rfl (.pure (.move _ rfl rfl)) rfl rfl ?_
    refine Ch.step (v := (.el 1 4 q.1 0)) rfl (.pure (.idxRow _ _ _ 77 (q.1) rfl Try.underlying30 sz77 rfl rfl rfl rfl (by first | omega | (simp only [List.length_map, List.length_set]; omega) | (simp; omega)))) rfl rfl ?_
    refine Ch.step (v := (.el 1 4 q.1 0)) rfl (.pure (.fldEl _ _ _ rfl fld77_0 rfl)) rfl rfl ?_
    refine Ch.step (v := .junk) rfl (.storeEl (y' := (.agg [(.int .i64 ((k + markSum xs q.1 : Nat) : Int)), (.int .i64 ((xs.getD q.1 default).kind)), (.hole u1), (.hole u2)])) _ _ _ rfl rfl rfl (.d _) rfl sz3 rfl (get_set (by first | omega | (simp only [List.length_map, List.length_set]; omega) | (simp; omega))) rfl rfl) rfl rfl ?_
    refine Ch.nil ?_
    refine T_seq ?_
    refine T_region hc ?_
    refine Ch.step (v := (.d (.int .i64 ((k + markSum xs q.1 : Nat) : Int)))) rfl (.pure (.move _ rfl rfl)) rfl rfl ?_
    refine Ch.step (v := (.d (.int .i64 (((k + markSum xs q.1 : Nat) : Int) + 1)))) rfl (.pure (.int _ _ _ _ _ rfl rfl rfl (intV_add (by first | omega | (simp only [List.length_map, List.length_append, List.length_take, List.length_drop, List.length_cons, List.length_nil]; omega) | (simp; omega) | (simp; done)) (by first | omega | (simp only [List.length_map, List.length_append, List.length_take, List.length_drop, List.length_cons, List.length_nil]; omega) | (simp; omega) | (simp; done))))) rfl rfl ?_
    refine Ch.step (v := (.d (.int .i64 (((k + markSum xs q.1 : Nat) : Int) + 1)))) rfl (.pure (.assign _ rfl rfl)) rfl rfl ?_
    refine Ch.nil ?_
    refine T_seq ?_
    refine T_region hc ?_
    refine Ch.step (v := (.row 1)) rfl (.pure (.move _ rfl rfl)) rfl rfl ?_
    refine Ch.step (v := (.d (.int .i64 ((q.1 : Nat) : Int)))) rfl (.pure (.move _ rfl rfl)) rfl rfl ?_
    refine Ch.step (v := (.d (.int .i64 (((k + markSum xs q.1 : Nat) : Int) + 1)))) rfl (.pure (.move _ rfl rfl)) rfl rfl ?_
    refine Ch.step (v := (.el 1 4 q.1 0)) rfl (.pure (.idxRow _ _ _ 77 (q.1) rfl Try.underlying30 sz77 rfl rfl rfl rfl (by first | omega | (simp only [List.length_map, List.length_set]; omega) | (simp; omega)))) rfl rfl ?_
    refine Ch.step (v := (.el 1 4 q.1 1)) rfl (.pure (.fldEl _ _ _ rfl fld77_1 rfl)) rfl rfl ?_
    refine Ch.step (v := .junk) rfl (.storeEl (y' := (.agg [(.int .i64 ((k + markSum xs q.1 : Nat) : Int)), (.int .i64 (((k + markSum xs q.1 : Nat) : Int) + 1)), (.hole u1), (.hole u2)])) _ _ _ rfl rfl rfl (.d _) rfl sz3 rfl (get_set (by first | omega | (simp only [List.length_map, List.length_set]; omega) | (simp; omega))) rfl rfl) rfl rfl ?_
    refine Ch.nil ?_
    refine T_seq ?_
    refine T_region hc ?_
    refine Ch.step (v := (.d (.int .i64 (((k + markSum xs q.1 : Nat) : Int) + 1)))) rfl (.pure (.move _ rfl rfl)) rfl rfl ?_
    refine Ch.step (v := (.d (.int .i64 ((((k + markSum xs q.1 : Nat) : Int) + 1) + 1)))) rfl (.pure (.int _ _ _ _ _ rfl rfl rfl (intV_add (by first | omega | (simp only [List.length_map, List.length_append, List.length_take, List.length_drop, List.length_cons, List.length_nil]; omega) | (simp; omega) | (simp; done)) (by first | omega | (simp only [List.length_map, List.length_append, List.length_take, List.length_drop, List.length_cons, List.length_nil]; omega) | (simp; omega) | (simp; done))))) rfl rfl ?_
    refine Ch.step (v := (.d (.int .i64 ((((k + markSum xs q.1 : Nat) : Int) + 1) + 1)))) rfl (.pure (.assign _ rfl rfl)) rfl rfl ?_
    refine Ch.nil ?_
    refine T_seq ?_
    refine T_region hc ?_
    refine Ch.step (v := (.row 1)) rfl (.pure (.move _ rfl rfl)) rfl rfl ?_
    refine Ch.step (v := (.d (.int .i64 ((q.1 : Nat) : Int)))) rfl (.pure (.move _ rfl rfl)) rfl rfl ?_
    refine Ch.step (v := (.el 1 4 q.1 0)) rfl (.pure (.idxRow _ _ _ 77 (q.1) rfl Try.underlying30 sz77 rfl rfl rfl rfl (by first | omega | (simp only [List.length_map, List.length_set]; omega) | (simp; omega)))) rfl rfl ?_
    refine Ch.step (v := (.el 1 4 q.1 2)) rfl (.pure (.fldEl _ _ _ rfl fld77_2 rfl)) rfl rfl ?_
    refine Ch.step (v := (.row 7000002)) rfl (.pure (.loadHoleF (n := 7000002) (m := 7000003) (u := u1) _ _ rfl ag43 rfl rfl (get_set (by first | omega | (simp only [List.length_map, List.length_set]; omega) | (simp; omega))) rfl rfl rfl rfl rfl)) rfl rfl ?_
    refine Ch.step (v := (.d (.int .i64 ((((k + markSum xs q.1 : Nat) : Int) + 1) + 1)))) rfl (.pure (.move _ rfl rfl)) rfl rfl ?_
    refine Ch.step (v := (.d (.int .i64 ((((k + markSum xs q.1 + 1) + 1) + ((xs.getD q.1 default).ups).length : Nat) : Int)))) rfl (.call 32000 41 _ _ _ en41 rfl (.inl rfl) (.cons (.row rfl) (.cons (.d _) .nil)) rfl (sol rfl (solids_c (solid_row (fun _ => rfl) _) rfl)) (sp_laws_markStringS ((xs.getD q.1 default).ups) ((k + markSum xs q.1 + 1) + 1) (by first | omega | assumption | (exact hx _ (getD_mem (by omega))) | (exact hx _ (by assumption)) | (exact Nat.le_trans (hx _ (by assumption)) (by omega)) | (simp only [List.length_append, List.length_take, List.length_drop, List.length_cons, List.length_nil]; omega) | (simp_all; done)) (by first | omega | assumption | (exact hx _ (getD_mem (by omega))) | (exact hx _ (by assumption)) | (exact Nat.le_trans (hx _ (by assumption)) (by omega)) | (simp only [List.length_append, List.length_take, List.length_drop, List.length_cons, List.length_nil]; omega) | (simp_all; done))) (.row _ _ _ (.skip _ _ .nil)) rfl) rfl rfl ?_
    refine Ch.step (v := (.d (.int .i64 ((((k + markSum xs q.1 + 1) + 1) + ((xs.getD q.1 default).ups).length : Nat) : Int)))) rfl (.pure (.assign _ rfl rfl)) rfl rfl ?_
    refine Ch.nil ?_
    refine T_region hc ?_
    refine Ch.step (v := (.row 1)) rfl (.pure (.move _ rfl rfl)) rfl rfl ?_
    refine Ch.step (v := (.d (.int .i64 ((q.1 : Nat) : Int)))) rfl (.pure (.move _ rfl rfl)) rfl rfl ?_
    refine Ch.step (v := (.el 1 4 q.1 0)) rfl (.pure (.idxRow _ _ _ 77 (q.1) rfl Try.underlying30 sz77 rfl rfl rfl rfl (by first | omega | (simp only [List.length_map, List.length_set]; omega) | (simp; omega)))) rfl rfl ?_
    refine Ch.step (v := (.el 1 4 q.1 3)) rfl (.pure (.fldEl _ _ _ rfl fld77_3 rfl)) rfl rfl ?_
    refine Ch.step (v := (.row 7000004)) rfl (.pure (.loadHoleF (n := 7000004) (m := 7000005) (u := u2) _ _ rfl ag43 rfl rfl (get_set (by first | omega | (simp only [List.length_map, List.length_set]; omega) | (simp; omega))) rfl rfl rfl rfl rfl)) rfl rfl ?_
    refine Ch.step (v := (.d (.int .i64 ((((k + markSum xs q.1 + 1) + 1) + ((xs.getD q.1 default).ups).length : Nat) : Int)))) rfl (.pure (.move _ rfl rfl)) rfl rfl ?_
    refine Ch.step (v := (.d (.int .i64 (((((k + markSum xs q.1 + 1) + 1) + ((xs.getD q.1 default).ups).length) + ((xs.getD q.1 default).downs).length : Nat) : Int)))) rfl (.call 39000 41 _ _ _ en41 rfl (.inl rfl) (.cons (.row rfl) (.cons (.d _) .nil)) rfl (sol rfl (solids_c (solid_row (fun _ => rfl) _) rfl)) (sp_laws_markStringS ((xs.getD q.1 default).downs) (((k + markSum xs q.1 + 1) + 1) + ((xs.getD q.1 default).ups).length) (by first | omega | assumption | (exact hx _ (getD_mem (by omega))) | (exact hx _ (by assumption)) | (exact Nat.le_trans (hx _ (by assumption)) (by omega)) | (simp only [List.length_append, List.length_take, List.length_drop, List.length_cons, List.length_nil]; omega) | (simp_all; done)) (by first | omega | assumption | (exact hx _ (getD_mem (by omega))) | (exact hx _ (by assumption)) | (exact Nat.le_trans (hx _ (by assumption)) (by omega)) | (simp only [List.length_append, List.length_take, List.length_drop, List.length_cons, List.length_nil]; omega) | (simp_all; done))) (.row _ _ _ (.skip _ _ .nil)) rfl) rfl rfl ?_
    refine Ch.step (v := (.d (.int .i64 (((((k + markSum xs q.1 + 1) + 1) + ((xs.getD q.1 default).ups).length) + ((xs.getD q.1 default).downs).length : Nat) : Int)))) rfl (.pure (.assign _ rfl rfl)) rfl rfl ?_
    refine Ch.nil ?_
    refine T_region hc ?_
    refine Ch.step (v := (.d (.int .i64 ((q.1 : Nat) : Int)))) rfl (.pure (.move _ rfl rfl)) rfl rfl ?_
    refine Ch.step (v := (.d (.int .i64 (((q.1 : Nat) : Int) + 1)))) rfl (.pure (.int _ _ _ _ _ rfl rfl rfl (intV_add (by first | omega | (simp only [List.length_map, List.length_append, List.length_take, List.length_drop, List.length_cons, List.length_nil]; omega) | (simp; omega) | (simp; done)) (by first | omega | (simp only [List.length_map, List.length_append, List.length_take, List.length_drop, List.length_cons, List.length_nil]; omega) | (simp; omega) | (simp; done))))) rfl rfl ?_
    refine Ch.step (v := (.d (.int .i64 (((q.1 : Nat) : Int) + 1)))) rfl (.pure (.assign _ rfl rfl)) rfl rfl ?_
    refine Ch.nil ?_
    refine Exists.intro ((q.1 + 1, q.2 ++ [(.agg [(.int .i64 ((k + markSum xs q.1 : Nat) : Int)), (.int .i64 (((k + markSum xs q.1 : Nat) : Int) + 1)), (.hole u1), (.hole u2)])])) (And.intro ⟨by dsimp only; omega, by dsimp only; rw [List.length_append, hp0.2]; rfl⟩ (And.intro (by first | omega | (dsimp only; omega)) (Wk.of rfl rfl (And.intro rfl (And.intro (vI (by first | rfl | (dsimp only; rw [markSum_succ (by omega)]; omega))) (And.intro (vI (by first | rfl | omega | (simp; done) | (simp; omega))) trivial))) (And.intro (oR (by first | rfl | (simp only [List.set_set]; exact mg_set hp0.2 (by omega)))) trivial))))
  · replace h1 := of_decide_eq_false h1
    try have hms1 := markSum_succ (xs := xs) (m := q.1) (by omega)
    try have hbk := bulkF_mem hb _ (getD_mem (l := xs) (j := q.1) (d := default) (by omega))
    try have hbu := bulk_len (Gat.parts hbk).1
    try have hbd := bulk_len (Gat.parts hbk).2
    refine T_exit ?_
    refine T_seq ?_
    refine T_region hc ?_
    refine Ch.step (v := (.d (.int .i64 ((k + markSum xs q.1 : Nat) : Int)))) rfl (.pure (.move _ rfl rfl)) rfl rfl ?_
    refine Ch.step (v := (.d (.int .i64 ((k + markSum xs q.1 : Nat) : Int)))) rfl (.pure (.assign _ rfl rfl)) rfl rfl ?_
    refine Ch.nil ?_
    refine T_ret ?_
    refine And.intro (.inr rfl) ?_
    exact Exists.intro [(.d (.int .i64 ((k + markSum xs q.1 : Nat) : Int)))] (Exists.intro [] (Exists.intro [] (And.intro (.cons (.tmp 4 rfl) .nil) (And.intro (.cons (.any _) (.cons (.any _) .nil)) (And.intro (Exp.of (congrArg (D.int .i64) (by rw [← markSum_all (m := q.1) (by omega)])) (.d _)) (And.intro rfl rfl))))))

theorem sp_laws_markCircuit (x : Cir) (k : Nat) (hb : x.bulk ≤ 1048576) (hk : k ≤ 1) : Sp Try.prog 21 [(.agg [(.slice true 2 (x.sigs.map Sgn.d)), (.slice true 4 (x.gates.map Gat.u))]), (.int .i64 ((k : Nat) : Int))] [.any, .any] (.int .i64 ((k + 2 * x.sigs.length + markSum x.gates x.gates.length : Nat) : Int)) := by
  refine Sp_intro (lend := false) Try.func21 rfl rfl rfl (fun h => nomatch h) (fun c hc hX => ?_)
  obtain ⟨hp0, hp1⟩ := Cir.parts hb
  have hn0 := bulkF_len hp0
  have hn1 := bulkF_len hp1; have hsum : x.sigs.length + bulkF Gat.bulk x.gates ≤ 1048576 := (by unfold Cir.bulk at hb; unfold bulkF at hb ⊢; omega)
  refine T_seq ?_
  refine T_region hc ?_
  refine Ch.step (v := (.ptr 2000 0)) rfl (.box 2000 _ _ rfl (.agg _ rfl)) rfl rfl ?_
  refine Ch.step (v := (.d (.int .i64 0))) rfl (.pure (.assign _ rfl rfl)) rfl rfl ?_
  refine Ch.nil ?_
  refine T_seq ?_
  refine T_region hc ?_
  refine Ch.step (v := (.ptr 2000 0)) rfl (.pure (.fldPtr _ _ _ rfl fld32_0 rfl)) rfl rfl ?_
  refine Ch.step (v := (.row 1)) rfl (.pure (.loadPtr1 _ _ rfl ag29 rfl rfl rfl)) rfl rfl ?_
  refine Ch.step (v := (.d (.int .i64 ((k : Nat) : Int)))) rfl (.pure (.move _ rfl rfl)) rfl rfl ?_
  refine Ch.step (v := (.d (.int .i64 ((k + 2 * x.sigs.length : Nat) : Int)))) rfl (.call 8000 63 _ _ _ en63 rfl (.inl rfl) (.cons (.row rfl) (.cons (.d _) .nil)) rfl rfl (sp_laws_markSignalS x.sigs k (by first | assumption | omega | (rw [List.length_take]; omega) | (have := bulkF_mem hb _ (getD_mem (d := default) (by omega)); assumption) | (unfold bulkS at *; omega) | (simp_all; done)) (by first | assumption | omega | (rw [List.length_take]; omega) | (have := bulkF_mem hb _ (getD_mem (d := default) (by omega)); assumption) | (unfold bulkS at *; omega) | (simp_all; done))) (.skip _ _ (.skip _ _ .nil)) rfl) rfl rfl ?_
  refine Ch.step (v := (.d (.int .i64 ((k + 2 * x.sigs.length : Nat) : Int)))) rfl (.pure (.assign _ rfl rfl)) rfl rfl ?_
  refine Ch.nil ?_
  refine T_seq ?_
  refine T_region hc ?_
  refine Ch.step (v := (.ptr 2000 1)) rfl (.pure (.fldPtr _ _ _ rfl fld32_1 rfl)) rfl rfl ?_
  refine Ch.step (v := (.row 2)) rfl (.pure (.loadPtr1 _ _ rfl ag30 rfl rfl rfl)) rfl rfl ?_
  refine Ch.step (v := (.d (.int .i64 ((k + 2 * x.sigs.length : Nat) : Int)))) rfl (.pure (.move _ rfl rfl)) rfl rfl ?_
  refine Ch.step (v := (.d (.int .i64 (((k + 2 * x.sigs.length) + markSum x.gates x.gates.length : Nat) : Int)))) rfl (.call 12000 64 _ _ _ en64 rfl (.inl rfl) (.cons (.row rfl) (.cons (.d _) .nil)) rfl rfl (sp_laws_markGateS x.gates (k + 2 * x.sigs.length) (by first | assumption | omega | (rw [List.length_take]; omega) | (have := bulkF_mem hb _ (getD_mem (d := default) (by omega)); assumption) | (unfold bulkS at *; omega) | (simp_all; done)) (by first | assumption | omega | (rw [List.length_take]; omega) | (have := bulkF_mem hb _ (getD_mem (d := default) (by omega)); assumption) | (unfold bulkS at *; omega) | (simp_all; done))) (.skip _ _ (.skip _ _ .nil)) rfl) rfl rfl ?_
  refine Ch.step (v := (.d (.int .i64 (((k + 2 * x.sigs.length) + markSum x.gates x.gates.length : Nat) : Int)))) rfl (.pure (.assign _ rfl rfl)) rfl rfl ?_
  refine Ch.nil ?_
  refine T_seq ?_
  refine T_region hc ?_
  refine Ch.step (v := (.d (.int .i64 (((k + 2 * x.sigs.length) + markSum x.gates x.gates.length : Nat) : Int)))) rfl (.pure (.move _ rfl rfl)) rfl rfl ?_
  refine Ch.step (v := (.d (.int .i64 (((k + 2 * x.sigs.length) + markSum x.gates x.gates.length : Nat) : Int)))) rfl (.pure (.assign _ rfl rfl)) rfl rfl ?_
  refine Ch.nil ?_
  refine T_ret ?_
  refine And.intro (.inr rfl) ?_
  exact Exists.intro [(.d (.int .i64 (((k + 2 * x.sigs.length) + markSum x.gates x.gates.length : Nat) : Int)))] (Exists.intro [] (Exists.intro [] (And.intro (.cons (.tmp 4 rfl) .nil) (And.intro (.cons (.any _) (.cons (.any _) .nil)) (And.intro (Exp.of (congrArg (D.int .i64) (by omega)) (.d _)) (And.intro rfl rfl))))))

def fireB (a : Gat) (u : List UInt8) : Bool := !decide (nextB a u = decide (u.getD a.sig.toNat 0 = 49))

theorem fire_bit {a : Gat} {u : List UInt8} {n : Nat} (hf : gateFit n a) (hu : codeFit n u) : (!decide (bitN (nextB a u) = u.getD a.sig.toNat 0)) = fireB a u := by
  unfold fireB
  congr 1
  rcases hu.2 a.sig.toNat hf.2.1.2 with h | h <;> rw [h] <;> cases nextB a u <;> rfl

def exgP (x : Cir) (u : List UInt8) (j : Nat) : Bool := fireB (x.gates.getD j default) u

def exgK (x : Cir) (u : List UInt8) (k : Nat) : List Int := selTo k (exgP x u) fun j => (j : Int)

def exgL (x : Cir) (u : List UInt8) : List Int := exgK x u x.gates.length

def exgB (x : Cir) (u : List UInt8) : Bool := circB x && codeN u (x.sigs.length : Int)

def exgV (x : Cir) (u : List UInt8) : List Int := if exgB x u then exgL x u else []

theorem exgK_le (x : Cir) (u : List UInt8) (k : Nat) : (exgK x u k).length ≤ k := selTo_le _ _ _

theorem exgV_le (x : Cir) (u : List UInt8) : (exgV x u).length ≤ x.gates.length := by
  unfold exgV; split
  · exact exgK_le _ _ _
  · exact Nat.zero_le _

set_option maxHeartbeats 1000000 in
theorem sp_impl_excitedGates (x : Cir) (u : List UInt8) (hb : x.bulk ≤ 1048576) (hgf : ∀ a ∈ x.gates, gateFit x.sigs.length a) (hcf : codeFit x.sigs.length u) (h8 : x.sigs.length ≤ 8) : Sp Try.prog 62 [(.agg [(.slice false 2 (x.sigs.map Sgn.d)), (.slice false 4 (x.gates.map Gat.d))]), (.str u)] [.any, .any] (.slice true 1 ((exgL x u).map (fun n : Int => D.int .i64 n))) := by
  refine Sp_intro (lend := true) Try.func62 rfl rfl rfl (fun _ => rfl) (fun c hc hX => ?_)
  obtain ⟨hp0, hp1⟩ := Cir.parts hb
  have hn0 := bulkF_len hp0
  have hn1 := bulkF_len hp1; have hul := hcf.1
  refine T_seq ?_
  refine T_region hc ?_
  refine Ch.step (v := (.ptr 2000 0)) rfl (.box 2000 _ _ rfl (.aggD _)) rfl rfl ?_
  refine Ch.step (v := (.c (.slice none 0 0))) rfl (.pure (.assign _ rfl rfl)) rfl rfl ?_
  refine Ch.nil ?_
  refine T_seq ?_
  refine T_region hc ?_
  refine Ch.step (v := (.row 8000)) rfl (.slice 8000 _ 3 _ rfl sty36 (xs := []) rfl rfl .nil rfl rfl (by decide)) rfl rfl ?_
  refine Ch.step (v := (.row 8000)) rfl (.pure (.assign _ rfl rfl)) rfl rfl ?_
  refine Ch.nil ?_
  refine T_seq ?_
  refine T_seq ?_
  refine T_region hc ?_
  refine Ch.step (v := (.ptr 2000 1)) rfl (.pure (.fldPtr _ _ _ rfl fld32_1 rfl)) rfl rfl ?_
  refine Ch.step (v := (.d (.slice false 4 (x.gates.map Gat.d)))) rfl (.pure (.loadPtr1 _ _ rfl ag30 rfl rfl rfl)) rfl rfl ?_
  refine Ch.step (v := (.d (.int .i64 ((x.gates.length : Nat) : Int)))) rfl (.pure (.len _ _ 77 rfl Try.underlying30 (.sh _ _) (by simp))) rfl rfl ?_
  refine Ch.step (v := (.d (.int .i64 0))) rfl (.pure (.move _ rfl rfl)) rfl rfl ?_
  refine Ch.nil ?_
  refine T_block ?_
  refine T_loop (ι := Nat) (fun k => { n := 32, sl := [(1, (.d (.str u))), (5, (.row 5)), (10, (.d (.slice false 4 (x.gates.map Gat.d)))), (11, (.d (.int .i64 ((x.gates.length : Nat) : Int)))), (12, (.d (.int .i64 ((k : Nat) : Int))))], hp := [(5, (some (.row 1 ((exgK x u k).map (fun n : Int => D.int .i64 n)))))], pin := [] }) (fun k => k ≤ x.gates.length) (fun k => x.gates.length - k) ⟨0, (by omega), (Wk.ren [(5, 8000)] rfl rfl rfl rfl (And.intro rfl (And.intro rfl (And.intro rfl (And.intro rfl (And.intro (vI (by first | rfl | omega | (simp; done) | (simp; omega))) trivial))))) (And.intro (oR (by first | rfl | (exact push rfl (selTo_yes (by first | (unfold exgP; rw [← fire_bit hgk hcf]; simp only [*, decide_true, decide_false, Bool.not_true, Bool.not_false]; done) | (unfold exgP fireB; simp_all; done)))) | (exact congrArg (List.map _) (selTo_no (by first | (unfold exgP; rw [← fire_bit hgk hcf]; simp only [*, decide_true, decide_false, Bool.not_true, Bool.not_false]; done) | (unfold exgP fireB; simp_all; done)))))) trivial))⟩ (fun k hp0 => ?_)
  have hq := exgK_le x u k
  refine T_seq ?_
  refine T_region hc ?_
  refine Ch.step (v := (.d (.bool (decide (((k : Nat) : Int) < ((x.gates.length : Nat) : Int)))))) rfl (.pure (.int _ _ _ _ _ rfl rfl rfl rfl)) rfl rfl ?_
  refine Ch.nil ?_
  refine T_seq ?_
  refine T_cond (b := (decide (((k : Nat) : Int) < ((x.gates.length : Nat) : Int)))) rfl (fun h1 => ?_) (fun h1 => ?_)
  · replace h1 := of_decide_eq_true h1
    try have hgk := hgf _ (getD_mem (l := x.gates) (j := k) (d := default) (by omega))
    try have hgs := hgk.2.1
    refine T_skip ?_
    refine T_seq ?_
    refine T_block ?_
    refine T_seq ?_
    refine T_region hc ?_
    refine Ch.step (v := (.d (.int .i64 ((k : Nat) : Int)))) rfl (.pure (.move _ rfl rfl)) rfl rfl ?_
    refine Ch.step (v := (.d (.ref (.agg [(.int .i64 ((x.gates.getD k default).sig)), (.int .i64 ((x.gates.getD k default).kind)), (.slice false 1 (((x.gates.getD k default).ups).map D.str)), (.slice false 1 (((x.gates.getD k default).downs).map D.str))])))) rfl (.pure (.idx _ _ _ 77 (k) rfl Try.underlying30 sz77 rfl rfl rfl (get_map _ (by first | omega | (simp only [List.length_map, List.length_append, List.length_take, List.length_drop, List.length_cons, List.length_nil]; omega) | (simp; omega) | (simp; done))))) rfl rfl ?_
    refine Ch.step (v := (.d (.agg [(.int .i64 ((x.gates.getD k default).sig)), (.int .i64 ((x.gates.getD k default).kind)), (.slice false 1 (((x.gates.getD k default).ups).map D.str)), (.slice false 1 (((x.gates.getD k default).downs).map D.str))]))) rfl (.pure (.loadRefA _ _ rfl ag77 sz77 rfl)) rfl rfl ?_
    refine Ch.step (v := (.ptr 7000 0)) rfl (.alloc 7000 _ rfl zer77) rfl rfl ?_
    refine Ch.step (v := (.d (.int .i64 ((k : Nat) : Int)))) rfl (.pure (.assign _ rfl rfl)) rfl rfl ?_
    refine Ch.step (v := .junk) rfl (.storePtr _ _ _ rfl rfl rfl (.aggD _) sz77 (Nat.le_of_ble_eq_true rfl)) rfl rfl ?_
    refine Ch.nil ?_
    refine T_seq ?_
    refine T_regionD hc (by kernel_rfl) ?_
    refine ChD.step (v := (.agg [(.d (.int .i64 ((x.gates.getD k default).sig))), (.d (.int .i64 ((x.gates.getD k default).kind))), (.d (.slice false 1 (((x.gates.getD k default).ups).map D.str))), (.d (.slice false 1 (((x.gates.getD k default).downs).map D.str)))])) [7000] rfl (.pure (.loadPtrA _ _ rfl ag77 sz77 rfl rfl (Nat.le_of_ble_eq_true rfl) rfl)) rfl rfl ?_
    refine ChD.step (v := (.d (.str u))) [] rfl (.pure (.move _ rfl rfl)) rfl rfl ?_
    refine ChD.step (v := (.d (.bool (nextB (x.gates.getD k default) u)))) [] rfl (.call 19000 58 _ _ _ en58 rfl (.inl rfl) (.cons (.lend (.agg (.cons (.d _) (.cons (.d _) (.cons (.d _) (.cons (.d _) .nil)))) rfl)) (.cons (.d _) .nil)) rfl rfl (sp_impl_nextOf (x.gates.getD k default) u _ (by assumption) (by assumption)) (.skip _ _ (.skip _ _ .nil)) rfl) rfl rfl ?_
    refine ChD.step (v := (.d (.int .u8 ((bitN (nextB (x.gates.getD k default) u)).toNat : Int)))) [] rfl (.call 20000 101 _ _ _ en101 rfl (.inl rfl) (.cons (.d _) .nil) rfl rfl (sp_impl_bit (nextB (x.gates.getD k default) u)) (.skip _ _ .nil) rfl) rfl rfl ?_
    refine ChD.step (v := (.d (.str u))) [] rfl (.pure (.move _ rfl rfl)) rfl rfl ?_
    refine ChD.step (v := (.ptr 7000 0)) [] rfl (.pure (.fldPtr _ _ _ rfl fld77_0 rfl)) rfl rfl ?_
    refine ChD.step (v := (.d (.int .i64 ((x.gates.getD k default).sig)))) [7000] rfl (.pure (.loadPtr1 _ _ rfl ag3 rfl rfl rfl)) rfl rfl ?_
    refine ChD.step (v := (.d (.int .u8 ((u.getD ((((x.gates.getD k default).sig)).toNat) 0).toNat : Int)))) [] rfl (.pure (.idxStr _ _ _ ((((x.gates.getD k default).sig)).toNat) rfl Try.underlying9 rfl rfl (by omega) (get_str (by first | omega | (simp only [List.length_map, List.length_append, List.length_take, List.length_drop, List.length_cons, List.length_nil]; omega) | (simp; omega) | (simp; done))))) rfl rfl ?_
    refine ChD.step (v := (.d (.bool (!(decide (((bitN (nextB (x.gates.getD k default) u)) : UInt8) = (u.getD ((((x.gates.getD k default).sig)).toNat) 0))))))) [] rfl (.pure (.int _ _ _ _ _ rfl rfl rfl (u8_neq ((bitN (nextB (x.gates.getD k default) u)) : UInt8) (u.getD ((((x.gates.getD k default).sig)).toNat) 0) rfl rfl))) rfl rfl ?_
    refine ChD.nil (And.intro ?_ (by kernel_rfl))
    refine T_cond (b := (!(decide (((bitN (nextB (x.gates.getD k default) u)) : UInt8) = (u.getD ((((x.gates.getD k default).sig)).toNat) 0))))) rfl (fun h2 => ?_) (fun h2 => ?_)
    · replace h2 := nott h2
      replace h2 := of_decide_eq_false h2
      refine T_region hc ?_
      refine Ch.step (v := (.row 5)) rfl (.pure (.move _ rfl rfl)) rfl rfl ?_
      refine Ch.step (v := (.d (.int .i64 ((k : Nat) : Int)))) rfl (.pure (.move _ rfl rfl)) rfl rfl ?_
      refine Ch.step (v := (.row 28000)) rfl (.slice 28000 _ 3 _ rfl sty36 (xs := [.tmp 27]) rfl rfl (.cons (.d _) .nil) rfl rfl (by decide)) rfl rfl ?_
      refine Ch.step (v := (.row 29000)) rfl (.append 29000 _ _ _ 3 rfl sty36 (by decide) (.rowK rfl) (.inr ⟨_, rfl, rfl⟩) (.row rfl rfl) rfl (by first | omega | (simp only [List.length_append, List.length_map, List.length_cons, List.length_nil]; omega) | (simp; omega) | (simp; done))) rfl rfl ?_
      refine Ch.step (v := (.row 29000)) rfl (.pure (.assign _ rfl rfl)) rfl rfl ?_
      refine Ch.nil ?_
      refine T_region hc ?_
      refine Ch.step (v := (.d (.int .i64 (((k : Nat) : Int) + 1)))) rfl (.pure (.int _ _ _ _ _ rfl rfl rfl (intV_add (by first | omega | (simp only [List.length_map, List.length_append, List.length_take, List.length_drop, List.length_cons, List.length_nil]; omega) | (simp; omega) | (simp; done)) (by first | omega | (simp only [List.length_map, List.length_append, List.length_take, List.length_drop, List.length_cons, List.length_nil]; omega) | (simp; omega) | (simp; done))))) rfl rfl ?_
      refine Ch.step (v := (.d (.int .i64 (((k : Nat) : Int) + 1)))) rfl (.pure (.move _ rfl rfl)) rfl rfl ?_
      refine Ch.nil ?_
      refine Exists.intro (k + 1) (And.intro (by omega) (And.intro (by first | omega | (dsimp only; omega)) (Wk.ren [(5, 29000)] rfl rfl rfl rfl (And.intro rfl (And.intro rfl (And.intro rfl (And.intro rfl (And.intro (vI (by first | rfl | omega | (simp; done) | (simp; omega))) trivial))))) (And.intro (oR (by first | rfl | (exact push rfl (selTo_yes (by first | (unfold exgP; rw [← fire_bit hgk hcf]; simp only [*, decide_true, decide_false, Bool.not_true, Bool.not_false]; done) | (unfold exgP fireB; simp_all; done)))) | (exact congrArg (List.map _) (selTo_no (by first | (unfold exgP; rw [← fire_bit hgk hcf]; simp only [*, decide_true, decide_false, Bool.not_true, Bool.not_false]; done) | (unfold exgP fireB; simp_all; done)))))) trivial))))
    · replace h2 := notf h2
      replace h2 := of_decide_eq_true h2
      refine T_skip ?_
      refine T_region hc ?_
      refine Ch.step (v := (.d (.int .i64 (((k : Nat) : Int) + 1)))) rfl (.pure (.int _ _ _ _ _ rfl rfl rfl (intV_add (by first | omega | (simp only [List.length_map, List.length_append, List.length_take, List.length_drop, List.length_cons, List.length_nil]; omega) | (simp; omega) | (simp; done)) (by first | omega | (simp only [List.length_map, List.length_append, List.length_take, List.length_drop, List.length_cons, List.length_nil]; omega) | (simp; omega) | (simp; done))))) rfl rfl ?_
      refine Ch.step (v := (.d (.int .i64 (((k : Nat) : Int) + 1)))) rfl (.pure (.move _ rfl rfl)) rfl rfl ?_
      refine Ch.nil ?_
      refine Exists.intro (k + 1) (And.intro (by omega) (And.intro (by first | omega | (dsimp only; omega)) (Wk.of rfl rfl (And.intro rfl (And.intro rfl (And.intro rfl (And.intro rfl (And.intro (vI (by first | rfl | omega | (simp; done) | (simp; omega))) trivial))))) (And.intro (oR (by first | rfl | (exact push rfl (selTo_yes (by first | (unfold exgP; rw [← fire_bit hgk hcf]; simp only [*, decide_true, decide_false, Bool.not_true, Bool.not_false]; done) | (unfold exgP fireB; simp_all; done)))) | (exact congrArg (List.map _) (selTo_no (by first | (unfold exgP; rw [← fire_bit hgk hcf]; simp only [*, decide_true, decide_false, Bool.not_true, Bool.not_false]; done) | (unfold exgP fireB; simp_all; done)))))) trivial))))
  · replace h1 := of_decide_eq_false h1
    try have hgk := hgf _ (getD_mem (l := x.gates) (j := k) (d := default) (by omega))
    try have hgs := hgk.2.1
    refine T_exit ?_
    refine T_seq ?_
    refine T_region hc ?_
    refine Ch.step (v := (.row 5)) rfl (.pure (.move _ rfl rfl)) rfl rfl ?_
    refine Ch.step (v := (.row 5)) rfl (.pure (.assign _ rfl rfl)) rfl rfl ?_
    refine Ch.nil ?_
    refine T_ret ?_
    refine And.intro (.inr rfl) ?_
    exact Exists.intro [(.row 5)] (Exists.intro [] (Exists.intro [5] (And.intro (.cons (.tmp 4 rfl) .nil) (And.intro (.cons (.any _) (.cons (.any _) .nil)) (And.intro (Exp.of (congrArg (D.slice true 1) (by rw [exgL, show x.gates.length = k by omega])) (.row rfl)) (And.intro rfl rfl))))))

set_option maxHeartbeats 1000000 in
theorem sp_spec_l16Excited (x : Cir) (u : List UInt8) (hb : x.bulk ≤ 1048576) (hgf : ∀ a ∈ x.gates, gateFit x.sigs.length a) (hcf : codeFit x.sigs.length u) (h8 : x.sigs.length ≤ 8) : Sp Try.prog 61 [(.agg [(.slice false 2 (x.sigs.map Sgn.d)), (.slice false 4 (x.gates.map Gat.d))]), (.str u)] [.any, .any] (.slice true 1 ((exgL x u).map (fun n : Int => D.int .i64 n))) := by
  refine Sp_intro (lend := true) Try.func61 rfl rfl rfl (fun _ => rfl) (fun c hc hX => ?_)
  obtain ⟨hp0, hp1⟩ := Cir.parts hb
  have hn0 := bulkF_len hp0
  have hn1 := bulkF_len hp1; have hul := hcf.1
  refine T_seq ?_
  refine T_region hc ?_
  refine Ch.step (v := (.ptr 2000 0)) rfl (.box 2000 _ _ rfl (.aggD _)) rfl rfl ?_
  refine Ch.step (v := (.c (.slice none 0 0))) rfl (.pure (.assign _ rfl rfl)) rfl rfl ?_
  refine Ch.nil ?_
  refine T_seq ?_
  refine T_region hc ?_
  refine Ch.step (v := (.c (.slice none 0 0))) rfl (.pure (.assign _ rfl rfl)) rfl rfl ?_
  refine Ch.nil ?_
  refine T_seq ?_
  refine T_seq ?_
  refine T_region hc ?_
  refine Ch.step (v := (.ptr 2000 1)) rfl (.pure (.fldPtr _ _ _ rfl fld32_1 rfl)) rfl rfl ?_
  refine Ch.step (v := (.d (.slice false 4 (x.gates.map Gat.d)))) rfl (.pure (.loadPtr1 _ _ rfl ag30 rfl rfl rfl)) rfl rfl ?_
  refine Ch.step (v := (.d (.int .i64 ((x.gates.length : Nat) : Int)))) rfl (.pure (.len _ _ 77 rfl Try.underlying30 (.sh _ _) (by simp))) rfl rfl ?_
  refine Ch.step (v := (.d (.int .i64 0))) rfl (.pure (.move _ rfl rfl)) rfl rfl ?_
  refine Ch.nil ?_
  refine T_block ?_
  refine T_loop (ι := Nat) (fun k => { n := 31, sl := [(1, (.d (.str u))), (5, (.row 5)), (9, (.d (.slice false 4 (x.gates.map Gat.d)))), (10, (.d (.int .i64 ((x.gates.length : Nat) : Int)))), (11, (.d (.int .i64 ((k : Nat) : Int))))], hp := [(5, (some (.row 1 ((exgK x u k).map (fun n : Int => D.int .i64 n)))))], pin := [] }) (fun k => k ≤ x.gates.length) (fun k => x.gates.length - k) ⟨0, (by omega), (Wk.trans (Wk.nilrow 5 900005 1 rfl rfl rfl) (Wk.ren [(5, 900005)] rfl rfl rfl rfl (And.intro rfl (And.intro rfl (And.intro rfl (And.intro rfl (And.intro (vI (by first | rfl | omega | (simp; done) | (simp; omega))) trivial))))) (And.intro (oR (by first | rfl | (exact push rfl (selTo_yes (by first | (unfold exgP; rw [← fire_bit hgk hcf]; simp only [*, decide_true, decide_false, Bool.not_true, Bool.not_false]; done) | (unfold exgP fireB; simp_all; done)))) | (exact congrArg (List.map _) (selTo_no (by first | (unfold exgP; rw [← fire_bit hgk hcf]; simp only [*, decide_true, decide_false, Bool.not_true, Bool.not_false]; done) | (unfold exgP fireB; simp_all; done)))))) trivial)))⟩ (fun k hp0 => ?_)
  have hq := exgK_le x u k
  refine T_seq ?_
  refine T_region hc ?_
  refine Ch.step (v := (.d (.bool (decide (((k : Nat) : Int) < ((x.gates.length : Nat) : Int)))))) rfl (.pure (.int _ _ _ _ _ rfl rfl rfl rfl)) rfl rfl ?_
  refine Ch.nil ?_
  refine T_seq ?_
  refine T_cond (b := (decide (((k : Nat) : Int) < ((x.gates.length : Nat) : Int)))) rfl (fun h1 => ?_) (fun h1 => ?_)
  · replace h1 := of_decide_eq_true h1
    try have hgk := hgf _ (getD_mem (l := x.gates) (j := k) (d := default) (by omega))
    try have hgs := hgk.2.1
    refine T_skip ?_
    refine T_seq ?_
    refine T_block ?_
    refine T_seq ?_
    refine T_region hc ?_
    refine Ch.step (v := (.d (.int .i64 ((k : Nat) : Int)))) rfl (.pure (.move _ rfl rfl)) rfl rfl ?_
    refine Ch.step (v := (.d (.ref (.agg [(.int .i64 ((x.gates.getD k default).sig)), (.int .i64 ((x.gates.getD k default).kind)), (.slice false 1 (((x.gates.getD k default).ups).map D.str)), (.slice false 1 (((x.gates.getD k default).downs).map D.str))])))) rfl (.pure (.idx _ _ _ 77 (k) rfl Try.underlying30 sz77 rfl rfl rfl (get_map _ (by first | omega | (simp only [List.length_map, List.length_append, List.length_take, List.length_drop, List.length_cons, List.length_nil]; omega) | (simp; omega) | (simp; done))))) rfl rfl ?_
    refine Ch.step (v := (.d (.agg [(.int .i64 ((x.gates.getD k default).sig)), (.int .i64 ((x.gates.getD k default).kind)), (.slice false 1 (((x.gates.getD k default).ups).map D.str)), (.slice false 1 (((x.gates.getD k default).downs).map D.str))]))) rfl (.pure (.loadRefA _ _ rfl ag77 sz77 rfl)) rfl rfl ?_
    refine Ch.step (v := (.ptr 7000 0)) rfl (.alloc 7000 _ rfl zer77) rfl rfl ?_
    refine Ch.step (v := (.d (.int .i64 ((k : Nat) : Int)))) rfl (.pure (.assign _ rfl rfl)) rfl rfl ?_
    refine Ch.step (v := .junk) rfl (.storePtr _ _ _ rfl rfl rfl (.aggD _) sz77 (Nat.le_of_ble_eq_true rfl)) rfl rfl ?_
    refine Ch.nil ?_
    refine T_seq ?_
    refine T_regionD hc (by kernel_rfl) ?_
    refine ChD.step (v := (.agg [(.d (.int .i64 ((x.gates.getD k default).sig))), (.d (.int .i64 ((x.gates.getD k default).kind))), (.d (.slice false 1 (((x.gates.getD k default).ups).map D.str))), (.d (.slice false 1 (((x.gates.getD k default).downs).map D.str)))])) [7000] rfl (.pure (.loadPtrA _ _ rfl ag77 sz77 rfl rfl (Nat.le_of_ble_eq_true rfl) rfl)) rfl rfl ?_
    refine ChD.step (v := (.d (.str u))) [] rfl (.pure (.move _ rfl rfl)) rfl rfl ?_
    refine ChD.step (v := (.d (.bool (nextB (x.gates.getD k default) u)))) [] rfl (.call 18000 52 _ _ _ en52 rfl (.inl rfl) (.cons (.lend (.agg (.cons (.d _) (.cons (.d _) (.cons (.d _) (.cons (.d _) .nil)))) rfl)) (.cons (.d _) .nil)) rfl rfl (sp_spec_l16Next (x.gates.getD k default) u _ (by assumption) (by assumption)) (.skip _ _ (.skip _ _ .nil)) rfl) rfl rfl ?_
    refine ChD.step (v := (.d (.str u))) [] rfl (.pure (.move _ rfl rfl)) rfl rfl ?_
    refine ChD.step (v := (.ptr 7000 0)) [] rfl (.pure (.fldPtr _ _ _ rfl fld77_0 rfl)) rfl rfl ?_
    refine ChD.step (v := (.d (.int .i64 ((x.gates.getD k default).sig)))) [7000] rfl (.pure (.loadPtr1 _ _ rfl ag3 rfl rfl rfl)) rfl rfl ?_
    refine ChD.step (v := (.d (.int .u8 ((u.getD ((((x.gates.getD k default).sig)).toNat) 0).toNat : Int)))) [] rfl (.pure (.idxStr _ _ _ ((((x.gates.getD k default).sig)).toNat) rfl Try.underlying9 rfl rfl (by omega) (get_str (by first | omega | (simp only [List.length_map, List.length_append, List.length_take, List.length_drop, List.length_cons, List.length_nil]; omega) | (simp; omega) | (simp; done))))) rfl rfl ?_
    refine ChD.step (v := (.d (.bool (decide (((u.getD ((((x.gates.getD k default).sig)).toNat) 0) : UInt8) = 49))))) [] rfl (.pure (.int _ _ _ _ _ rfl rfl rfl (u8_eql ((u.getD ((((x.gates.getD k default).sig)).toNat) 0) : UInt8) 49 rfl rfl))) rfl rfl ?_
    refine ChD.step (v := (.d (.bool (!(decide ((nextB (x.gates.getD k default) u) = (decide (((u.getD ((((x.gates.getD k default).sig)).toNat) 0) : UInt8) = 49)))))))) [] rfl (.pure (.neB _ _ _ _ rfl Try.underlying4 rfl rfl)) rfl rfl ?_
    refine ChD.nil (And.intro ?_ (by kernel_rfl))
    refine T_cond (b := (!(decide ((nextB (x.gates.getD k default) u) = (decide (((u.getD ((((x.gates.getD k default).sig)).toNat) 0) : UInt8) = 49)))))) rfl (fun h2 => ?_) (fun h2 => ?_)
    · replace h2 := nott h2
      replace h2 := of_decide_eq_false h2
      refine T_region hc ?_
      refine Ch.step (v := (.row 5)) rfl (.pure (.move _ rfl rfl)) rfl rfl ?_
      refine Ch.step (v := (.d (.int .i64 ((k : Nat) : Int)))) rfl (.pure (.move _ rfl rfl)) rfl rfl ?_
      refine Ch.step (v := (.row 27000)) rfl (.slice 27000 _ 3 _ rfl sty36 (xs := [.tmp 26]) rfl rfl (.cons (.d _) .nil) rfl rfl (by decide)) rfl rfl ?_
      refine Ch.step (v := (.row 28000)) rfl (.append 28000 _ _ _ 3 rfl sty36 (by decide) (.rowK rfl) (.inr ⟨_, rfl, rfl⟩) (.row rfl rfl) rfl (by first | omega | (simp only [List.length_append, List.length_map, List.length_cons, List.length_nil]; omega) | (simp; omega) | (simp; done))) rfl rfl ?_
      refine Ch.step (v := (.row 28000)) rfl (.pure (.assign _ rfl rfl)) rfl rfl ?_
      refine Ch.nil ?_
      refine T_region hc ?_
      refine Ch.step (v := (.d (.int .i64 (((k : Nat) : Int) + 1)))) rfl (.pure (.int _ _ _ _ _ rfl rfl rfl (intV_add (by first | omega | (simp only [List.length_map, List.length_append, List.length_take, List.length_drop, List.length_cons, List.length_nil]; omega) | (simp; omega) | (simp; done)) (by first | omega | (simp only [List.length_map, List.length_append, List.length_take, List.length_drop, List.length_cons, List.length_nil]; omega) | (simp; omega) | (simp; done))))) rfl rfl ?_
      refine Ch.step (v := (.d (.int .i64 (((k : Nat) : Int) + 1)))) rfl (.pure (.move _ rfl rfl)) rfl rfl ?_
      refine Ch.nil ?_
      refine Exists.intro (k + 1) (And.intro (by omega) (And.intro (by first | omega | (dsimp only; omega)) (Wk.ren [(5, 28000)] rfl rfl rfl rfl (And.intro rfl (And.intro rfl (And.intro rfl (And.intro rfl (And.intro (vI (by first | rfl | omega | (simp; done) | (simp; omega))) trivial))))) (And.intro (oR (by first | rfl | (exact push rfl (selTo_yes (by first | (unfold exgP; rw [← fire_bit hgk hcf]; simp only [*, decide_true, decide_false, Bool.not_true, Bool.not_false]; done) | (unfold exgP fireB; simp_all; done)))) | (exact congrArg (List.map _) (selTo_no (by first | (unfold exgP; rw [← fire_bit hgk hcf]; simp only [*, decide_true, decide_false, Bool.not_true, Bool.not_false]; done) | (unfold exgP fireB; simp_all; done)))))) trivial))))
    · replace h2 := notf h2
      replace h2 := of_decide_eq_true h2
      refine T_skip ?_
      refine T_region hc ?_
      refine Ch.step (v := (.d (.int .i64 (((k : Nat) : Int) + 1)))) rfl (.pure (.int _ _ _ _ _ rfl rfl rfl (intV_add (by first | omega | (simp only [List.length_map, List.length_append, List.length_take, List.length_drop, List.length_cons, List.length_nil]; omega) | (simp; omega) | (simp; done)) (by first | omega | (simp only [List.length_map, List.length_append, List.length_take, List.length_drop, List.length_cons, List.length_nil]; omega) | (simp; omega) | (simp; done))))) rfl rfl ?_
      refine Ch.step (v := (.d (.int .i64 (((k : Nat) : Int) + 1)))) rfl (.pure (.move _ rfl rfl)) rfl rfl ?_
      refine Ch.nil ?_
      refine Exists.intro (k + 1) (And.intro (by omega) (And.intro (by first | omega | (dsimp only; omega)) (Wk.of rfl rfl (And.intro rfl (And.intro rfl (And.intro rfl (And.intro rfl (And.intro (vI (by first | rfl | omega | (simp; done) | (simp; omega))) trivial))))) (And.intro (oR (by first | rfl | (exact push rfl (selTo_yes (by first | (unfold exgP; rw [← fire_bit hgk hcf]; simp only [*, decide_true, decide_false, Bool.not_true, Bool.not_false]; done) | (unfold exgP fireB; simp_all; done)))) | (exact congrArg (List.map _) (selTo_no (by first | (unfold exgP; rw [← fire_bit hgk hcf]; simp only [*, decide_true, decide_false, Bool.not_true, Bool.not_false]; done) | (unfold exgP fireB; simp_all; done)))))) trivial))))
  · replace h1 := of_decide_eq_false h1
    try have hgk := hgf _ (getD_mem (l := x.gates) (j := k) (d := default) (by omega))
    try have hgs := hgk.2.1
    refine T_exit ?_
    refine T_seq ?_
    refine T_region hc ?_
    refine Ch.step (v := (.row 5)) rfl (.pure (.move _ rfl rfl)) rfl rfl ?_
    refine Ch.step (v := (.row 5)) rfl (.pure (.assign _ rfl rfl)) rfl rfl ?_
    refine Ch.nil ?_
    refine T_ret ?_
    refine And.intro (.inr rfl) ?_
    exact Exists.intro [(.row 5)] (Exists.intro [] (Exists.intro [5] (And.intro (.cons (.tmp 4 rfl) .nil) (And.intro (.cons (.any _) (.cons (.any _) .nil)) (And.intro (Exp.of (congrArg (D.slice true 1) (by rw [exgL, show x.gates.length = k by omega])) (.row rfl)) (And.intro rfl rfl))))))

theorem circ_sigs {x : Cir} (h : circB x = true) : sigsB x.sigs = true := by unfold circB at h; rw [Bool.and_eq_true] at h; exact h.1

set_option maxHeartbeats 1000000 in
theorem sp_impl_ExcitedGates (x : Cir) (u : List UInt8) (hb : x.bulk ≤ 1048576) (hu0 : u.length ≤ 1048576) : Sp Try.prog 19 [(.agg [(.slice false 2 (x.sigs.map Sgn.d)), (.slice false 4 (x.gates.map Gat.d))]), (.str u)] [.any, .any] (.tup [(.slice true 1 ((exgV x u).map (fun n : Int => D.int .i64 n))), (.bool (exgB x u))]) := by
  refine Sp_intro (lend := true) Try.func19 rfl rfl rfl (fun _ => rfl) (fun c hc hX => ?_)
  obtain ⟨hp0, hp1⟩ := Cir.parts hb
  have hn0 := bulkF_len hp0
  have hn1 := bulkF_len hp1
  refine T_seq ?_
  refine T_region hc ?_
  refine Ch.step (v := (.ptr 2000 0)) rfl (.box 2000 _ _ rfl (.aggD _)) rfl rfl ?_
  refine Ch.step (v := (.c (.slice none 0 0))) rfl (.pure (.assign _ rfl rfl)) rfl rfl ?_
  refine Ch.step (v := (.d (.bool false))) rfl (.pure (.assign _ rfl rfl)) rfl rfl ?_
  refine Ch.nil ?_
  refine T_seq ?_
  refine T_seq ?_
  refine T_region hc ?_
  refine Ch.step (v := (.agg [(.d (.slice false 2 (x.sigs.map Sgn.d))), (.d (.slice false 4 (x.gates.map Gat.d)))])) rfl (.pure (.loadPtrA _ _ rfl ag32 sz32 rfl rfl (Nat.le_of_ble_eq_true rfl) rfl)) rfl rfl ?_
  refine Ch.step (v := (.d (.bool (circB x)))) rfl (.call 7000 55 _ _ _ en55 rfl (.inl rfl) (.cons (.lend (.agg (.cons (.d _) (.cons (.d _) .nil)) rfl)) .nil) rfl rfl (sp_impl_IsValidCircuit x (by first | assumption | omega | (rw [List.length_take]; omega) | (have := bulkF_mem hb _ (getD_mem (d := default) (by omega)); assumption) | (unfold bulkS at *; omega) | (simp_all; done))) (.skip _ _ .nil) rfl) rfl rfl ?_
  refine Ch.step (v := (.d (.bool (!(circB x))))) rfl (.pure (.not _ _ rfl rfl)) rfl rfl ?_
  refine Ch.step (v := (.d (.bool (!(circB x))))) rfl (.pure (.move _ rfl rfl)) rfl rfl ?_
  cases h1 : (circB x) with
  | true =>
    try have hcc := code_circ h1 u
    try have hgf := gateFit_of h1
    try have h8 := (within_two (sigsB_len (circ_sigs h1))).2
    try rw [hcc]
    refine Ch.step (v := (.d (.str u))) rfl (.pure (.move _ rfl rfl)) rfl rfl ?_
    refine Ch.step (v := (.ptr 2000 0)) rfl (.pure (.fldPtr _ _ _ rfl fld32_0 rfl)) rfl rfl ?_
    refine Ch.step (v := (.d (.slice false 2 (x.sigs.map Sgn.d)))) rfl (.pure (.loadPtr1 _ _ rfl ag29 rfl rfl rfl)) rfl rfl ?_
    refine Ch.step (v := (.d (.int .i64 ((x.sigs.length : Nat) : Int)))) rfl (.pure (.len _ _ 97 rfl Try.underlying29 (.sh _ _) (by simp))) rfl rfl ?_
    refine Ch.step (v := (.d (.bool (isCodeB u ((x.sigs.length : Nat) : Int))))) rfl (.call 14000 56 _ _ _ en56 rfl (.inl rfl) (.cons (.d _) (.cons (.d _) .nil)) rfl rfl (sp_impl_isCode u ((x.sigs.length : Nat) : Int) (by first | omega | assumption | (exact hx _ (getD_mem (by omega))) | (exact hx _ (by assumption)) | (exact Nat.le_trans (hx _ (by assumption)) (by omega)) | (simp only [List.length_append, List.length_take, List.length_drop, List.length_cons, List.length_nil]; omega) | (simp_all; done))) (.skip _ _ (.skip _ _ .nil)) rfl) rfl rfl ?_
    refine Ch.step (v := (.d (.bool (!(isCodeB u ((x.sigs.length : Nat) : Int)))))) rfl (.pure (.not _ _ rfl rfl)) rfl rfl ?_
    refine Ch.step (v := (.d (.bool (!(isCodeB u ((x.sigs.length : Nat) : Int)))))) rfl (.pure (.pickF _ _ _ rfl rfl rfl)) rfl rfl ?_
    refine Ch.nil ?_
    refine T_cond (b := (!(isCodeB u ((x.sigs.length : Nat) : Int)))) rfl (fun h2 => ?_) (fun h2 => ?_)
    · replace h2 := nott h2
      try rw [hcc] at h2
      try have hcf := codeFit_of h2
      try have h8 : x.sigs.length ≤ 8 := by omega
      refine T_seq ?_
      refine T_region hc ?_
      refine Ch.step (v := (.c (.slice none 0 0))) rfl (.pure (.assign _ rfl rfl)) rfl rfl ?_
      refine Ch.step (v := (.d (.bool false))) rfl (.pure (.assign _ rfl rfl)) rfl rfl ?_
      refine Ch.nil ?_
      refine T_ret ?_
      refine And.intro (.inr rfl) ?_
      exact Exists.intro [(.c (.slice none 0 0)), (.d (.bool false))] (Exists.intro [] (Exists.intro [] (And.intro (.cons (.tmp 4 rfl) (.cons (.tmp 5 rfl) .nil)) (And.intro (.cons (.any _) (.cons (.any _) .nil)) (And.intro (.tup (.cons (Exp.of (congrArg (D.slice true 1) (by first | (rw [exgV, exgB, h1, h2]; rfl) | (rw [exgB, h1, h2]; rfl) | (rw [exgV, exgB, h1]; rfl) | (rw [exgB, h1]; rfl))) (.nil true 1)) (.cons (Exp.of (congrArg D.bool (by first | (rw [exgV, exgB, h1, h2]; rfl) | (rw [exgB, h1, h2]; rfl) | (rw [exgV, exgB, h1]; rfl) | (rw [exgB, h1]; rfl))) (.d _)) .nil))) (And.intro rfl rfl))))))
    · replace h2 := notf h2
      try rw [hcc] at h2
      try have hcf := codeFit_of h2
      try have h8 : x.sigs.length ≤ 8 := by omega
      refine T_skip ?_
      refine T_seq ?_
      refine T_region hc ?_
      refine Ch.step (v := (.agg [(.d (.slice false 2 (x.sigs.map Sgn.d))), (.d (.slice false 4 (x.gates.map Gat.d)))])) rfl (.pure (.loadPtrA _ _ rfl ag32 sz32 rfl rfl (Nat.le_of_ble_eq_true rfl) rfl)) rfl rfl ?_
      refine Ch.step (v := (.d (.str u))) rfl (.pure (.move _ rfl rfl)) rfl rfl ?_
      refine Ch.step (v := (.row 19000)) rfl (.call 19000 62 _ _ _ en62 rfl (.inl rfl) (.cons (.lend (.agg (.cons (.d _) (.cons (.d _) .nil)) rfl)) (.cons (.d _) .nil)) rfl (sol (solid_row (fun _ => rfl) _) rfl) (sp_impl_excitedGates x u (by first | assumption | omega | (rw [List.length_take]; omega) | (have := bulkF_mem hb _ (getD_mem (d := default) (by omega)); assumption) | (unfold bulkS at *; omega) | (simp_all; done)) (by assumption) (by assumption) (by first | assumption | omega | (rw [List.length_take]; omega) | (have := bulkF_mem hb _ (getD_mem (d := default) (by omega)); assumption) | (unfold bulkS at *; omega) | (simp_all; done))) (.skip _ _ (.skip _ _ .nil)) rfl) rfl rfl ?_
      refine Ch.step (v := (.row 19000)) rfl (.pure (.assign _ rfl rfl)) rfl rfl ?_
      refine Ch.step (v := (.d (.bool true))) rfl (.pure (.assign _ rfl rfl)) rfl rfl ?_
      refine Ch.nil ?_
      refine T_ret ?_
      refine And.intro (.inr rfl) ?_
      exact Exists.intro [(.row 19000), (.d (.bool true))] (Exists.intro [] (Exists.intro [19000] (And.intro (.cons (.tmp 4 rfl) (.cons (.tmp 5 rfl) .nil)) (And.intro (.cons (.any _) (.cons (.any _) .nil)) (And.intro (.tup (.cons (Exp.of (congrArg (D.slice true 1) (by first | (rw [exgV, exgB, h1, h2]; rfl) | (rw [exgB, h1, h2]; rfl) | (rw [exgV, exgB, h1]; rfl) | (rw [exgB, h1]; rfl))) (.row rfl)) (.cons (Exp.of (congrArg D.bool (by first | (rw [exgV, exgB, h1, h2]; rfl) | (rw [exgB, h1, h2]; rfl) | (rw [exgV, exgB, h1]; rfl) | (rw [exgB, h1]; rfl))) (.d _)) .nil))) (And.intro rfl rfl))))))
  | false =>
    try have hcc := code_circ h1 u
    try have hgf := gateFit_of h1
    try have h8 := (within_two (sigsB_len (circ_sigs h1))).2
    try rw [hcc]
    refine Ch.skip rfl rfl ?_
    refine Ch.skip rfl rfl ?_
    refine Ch.skip rfl rfl ?_
    refine Ch.skip rfl rfl ?_
    refine Ch.skip rfl rfl ?_
    refine Ch.skip rfl rfl ?_
    refine Ch.step (v := (.d (.bool true))) rfl (.pure (.pickT _ _ _ rfl rfl rfl)) rfl rfl ?_
    refine Ch.nil ?_
    refine T_cond (b := true) rfl (fun _ => ?_) (fun h => nomatch h)
    refine T_seq ?_
    refine T_region hc ?_
    refine Ch.step (v := (.c (.slice none 0 0))) rfl (.pure (.assign _ rfl rfl)) rfl rfl ?_
    refine Ch.step (v := (.d (.bool false))) rfl (.pure (.assign _ rfl rfl)) rfl rfl ?_
    refine Ch.nil ?_
    refine T_ret ?_
    refine And.intro (.inr rfl) ?_
    exact Exists.intro [(.c (.slice none 0 0)), (.d (.bool false))] (Exists.intro [] (Exists.intro [] (And.intro (.cons (.tmp 4 rfl) (.cons (.tmp 5 rfl) .nil)) (And.intro (.cons (.any _) (.cons (.any _) .nil)) (And.intro (.tup (.cons (Exp.of (congrArg (D.slice true 1) (by first | (rw [exgV, exgB, h1, h2]; rfl) | (rw [exgB, h1, h2]; rfl) | (rw [exgV, exgB, h1]; rfl) | (rw [exgB, h1]; rfl))) (.nil true 1)) (.cons (Exp.of (congrArg D.bool (by first | (rw [exgV, exgB, h1, h2]; rfl) | (rw [exgB, h1, h2]; rfl) | (rw [exgV, exgB, h1]; rfl) | (rw [exgB, h1]; rfl))) (.d _)) .nil))) (And.intro rfl rfl))))))

set_option maxHeartbeats 1000000 in
theorem sp_spec_ExcitedGates (x : Cir) (u : List UInt8) (hb : x.bulk ≤ 1048576) (hu0 : u.length ≤ 1048576) : Sp Try.prog 18 [(.agg [(.slice false 2 (x.sigs.map Sgn.d)), (.slice false 4 (x.gates.map Gat.d))]), (.str u)] [.any, .any] (.tup [(.slice true 1 ((exgV x u).map (fun n : Int => D.int .i64 n))), (.bool (exgB x u))]) := by
  refine Sp_intro (lend := true) Try.func18 rfl rfl rfl (fun _ => rfl) (fun c hc hX => ?_)
  obtain ⟨hp0, hp1⟩ := Cir.parts hb
  have hn0 := bulkF_len hp0
  have hn1 := bulkF_len hp1
  refine T_seq ?_
  refine T_region hc ?_
  refine Ch.step (v := (.ptr 2000 0)) rfl (.box 2000 _ _ rfl (.aggD _)) rfl rfl ?_
  refine Ch.step (v := (.c (.slice none 0 0))) rfl (.pure (.assign _ rfl rfl)) rfl rfl ?_
  refine Ch.step (v := (.d (.bool false))) rfl (.pure (.assign _ rfl rfl)) rfl rfl ?_
  refine Ch.nil ?_
  refine T_seq ?_
  refine T_seq ?_
  refine T_region hc ?_
  refine Ch.step (v := (.agg [(.d (.slice false 2 (x.sigs.map Sgn.d))), (.d (.slice false 4 (x.gates.map Gat.d)))])) rfl (.pure (.loadPtrA _ _ rfl ag32 sz32 rfl rfl (Nat.le_of_ble_eq_true rfl) rfl)) rfl rfl ?_
  refine Ch.step (v := (.d (.bool (circB x)))) rfl (.call 7000 49 _ _ _ en49 rfl (.inl rfl) (.cons (.lend (.agg (.cons (.d _) (.cons (.d _) .nil)) rfl)) .nil) rfl rfl (sp_spec_l16Good x (by first | assumption | omega | (rw [List.length_take]; omega) | (have := bulkF_mem hb _ (getD_mem (d := default) (by omega)); assumption) | (unfold bulkS at *; omega) | (simp_all; done))) (.skip _ _ .nil) rfl) rfl rfl ?_
  refine Ch.step (v := (.d (.bool (!(circB x))))) rfl (.pure (.not _ _ rfl rfl)) rfl rfl ?_
  refine Ch.step (v := (.d (.bool (!(circB x))))) rfl (.pure (.move _ rfl rfl)) rfl rfl ?_
  cases h1 : (circB x) with
  | true =>
    try have hcc := code_circ h1 u
    try have hgf := gateFit_of h1
    try have h8 := (within_two (sigsB_len (circ_sigs h1))).2
    try rw [hcc]
    refine Ch.step (v := (.d (.str u))) rfl (.pure (.move _ rfl rfl)) rfl rfl ?_
    refine Ch.step (v := (.ptr 2000 0)) rfl (.pure (.fldPtr _ _ _ rfl fld32_0 rfl)) rfl rfl ?_
    refine Ch.step (v := (.d (.slice false 2 (x.sigs.map Sgn.d)))) rfl (.pure (.loadPtr1 _ _ rfl ag29 rfl rfl rfl)) rfl rfl ?_
    refine Ch.step (v := (.d (.int .i64 ((x.sigs.length : Nat) : Int)))) rfl (.pure (.len _ _ 97 rfl Try.underlying29 (.sh _ _) (by simp))) rfl rfl ?_
    refine Ch.step (v := (.d (.bool (codeN u ((x.sigs.length : Nat) : Int))))) rfl (.call 14000 50 _ _ _ en50 rfl (.inl rfl) (.cons (.d _) (.cons (.d _) .nil)) rfl rfl (sp_spec_l5Code u ((x.sigs.length : Nat) : Int) (by first | omega | assumption | (exact hx _ (getD_mem (by omega))) | (exact hx _ (by assumption)) | (exact Nat.le_trans (hx _ (by assumption)) (by omega)) | (simp only [List.length_append, List.length_take, List.length_drop, List.length_cons, List.length_nil]; omega) | (simp_all; done))) (.skip _ _ (.skip _ _ .nil)) rfl) rfl rfl ?_
    refine Ch.step (v := (.d (.bool (!(codeN u ((x.sigs.length : Nat) : Int)))))) rfl (.pure (.not _ _ rfl rfl)) rfl rfl ?_
    refine Ch.step (v := (.d (.bool (!(codeN u ((x.sigs.length : Nat) : Int)))))) rfl (.pure (.pickF _ _ _ rfl rfl rfl)) rfl rfl ?_
    refine Ch.nil ?_
    refine T_cond (b := (!(codeN u ((x.sigs.length : Nat) : Int)))) rfl (fun h2 => ?_) (fun h2 => ?_)
    · replace h2 := nott h2
      try rw [hcc] at h2
      try have hcf := codeFit_of h2
      try have h8 : x.sigs.length ≤ 8 := by omega
      refine T_seq ?_
      refine T_region hc ?_
      refine Ch.step (v := (.c (.slice none 0 0))) rfl (.pure (.assign _ rfl rfl)) rfl rfl ?_
      refine Ch.step (v := (.d (.bool false))) rfl (.pure (.assign _ rfl rfl)) rfl rfl ?_
      refine Ch.nil ?_
      refine T_ret ?_
      refine And.intro (.inr rfl) ?_
      exact Exists.intro [(.c (.slice none 0 0)), (.d (.bool false))] (Exists.intro [] (Exists.intro [] (And.intro (.cons (.tmp 4 rfl) (.cons (.tmp 5 rfl) .nil)) (And.intro (.cons (.any _) (.cons (.any _) .nil)) (And.intro (.tup (.cons (Exp.of (congrArg (D.slice true 1) (by first | (rw [exgV, exgB, h1, h2]; rfl) | (rw [exgB, h1, h2]; rfl) | (rw [exgV, exgB, h1]; rfl) | (rw [exgB, h1]; rfl))) (.nil true 1)) (.cons (Exp.of (congrArg D.bool (by first | (rw [exgV, exgB, h1, h2]; rfl) | (rw [exgB, h1, h2]; rfl) | (rw [exgV, exgB, h1]; rfl) | (rw [exgB, h1]; rfl))) (.d _)) .nil))) (And.intro rfl rfl))))))
    · replace h2 := notf h2
      try rw [hcc] at h2
      try have hcf := codeFit_of h2
      try have h8 : x.sigs.length ≤ 8 := by omega
      refine T_skip ?_
      refine T_seq ?_
      refine T_region hc ?_
      refine Ch.step (v := (.agg [(.d (.slice false 2 (x.sigs.map Sgn.d))), (.d (.slice false 4 (x.gates.map Gat.d)))])) rfl (.pure (.loadPtrA _ _ rfl ag32 sz32 rfl rfl (Nat.le_of_ble_eq_true rfl) rfl)) rfl rfl ?_
      refine Ch.step (v := (.d (.str u))) rfl (.pure (.move _ rfl rfl)) rfl rfl ?_
      refine Ch.step (v := (.row 19000)) rfl (.call 19000 61 _ _ _ en61 rfl (.inl rfl) (.cons (.lend (.agg (.cons (.d _) (.cons (.d _) .nil)) rfl)) (.cons (.d _) .nil)) rfl (sol (solid_row (fun _ => rfl) _) rfl) (sp_spec_l16Excited x u (by first | assumption | omega | (rw [List.length_take]; omega) | (have := bulkF_mem hb _ (getD_mem (d := default) (by omega)); assumption) | (unfold bulkS at *; omega) | (simp_all; done)) (by assumption) (by assumption) (by first | assumption | omega | (rw [List.length_take]; omega) | (have := bulkF_mem hb _ (getD_mem (d := default) (by omega)); assumption) | (unfold bulkS at *; omega) | (simp_all; done))) (.skip _ _ (.skip _ _ .nil)) rfl) rfl rfl ?_
      refine Ch.step (v := (.row 19000)) rfl (.pure (.assign _ rfl rfl)) rfl rfl ?_
      refine Ch.step (v := (.d (.bool true))) rfl (.pure (.assign _ rfl rfl)) rfl rfl ?_
      refine Ch.nil ?_
      refine T_ret ?_
      refine And.intro (.inr rfl) ?_
      exact Exists.intro [(.row 19000), (.d (.bool true))] (Exists.intro [] (Exists.intro [19000] (And.intro (.cons (.tmp 4 rfl) (.cons (.tmp 5 rfl) .nil)) (And.intro (.cons (.any _) (.cons (.any _) .nil)) (And.intro (.tup (.cons (Exp.of (congrArg (D.slice true 1) (by first | (rw [exgV, exgB, h1, h2]; rfl) | (rw [exgB, h1, h2]; rfl) | (rw [exgV, exgB, h1]; rfl) | (rw [exgB, h1]; rfl))) (.row rfl)) (.cons (Exp.of (congrArg D.bool (by first | (rw [exgV, exgB, h1, h2]; rfl) | (rw [exgB, h1, h2]; rfl) | (rw [exgV, exgB, h1]; rfl) | (rw [exgB, h1]; rfl))) (.d _)) .nil))) (And.intro rfl rfl))))))
  | false =>
    try have hcc := code_circ h1 u
    try have hgf := gateFit_of h1
    try have h8 := (within_two (sigsB_len (circ_sigs h1))).2
    try rw [hcc]
    refine Ch.skip rfl rfl ?_
    refine Ch.skip rfl rfl ?_
    refine Ch.skip rfl rfl ?_
    refine Ch.skip rfl rfl ?_
    refine Ch.skip rfl rfl ?_
    refine Ch.skip rfl rfl ?_
    refine Ch.step (v := (.d (.bool true))) rfl (.pure (.pickT _ _ _ rfl rfl rfl)) rfl rfl ?_
    refine Ch.nil ?_
    refine T_cond (b := true) rfl (fun _ => ?_) (fun h => nomatch h)
    refine T_seq ?_
    refine T_region hc ?_
    refine Ch.step (v := (.c (.slice none 0 0))) rfl (.pure (.assign _ rfl rfl)) rfl rfl ?_
    refine Ch.step (v := (.d (.bool false))) rfl (.pure (.assign _ rfl rfl)) rfl rfl ?_
    refine Ch.nil ?_
    refine T_ret ?_
    refine And.intro (.inr rfl) ?_
    exact Exists.intro [(.c (.slice none 0 0)), (.d (.bool false))] (Exists.intro [] (Exists.intro [] (And.intro (.cons (.tmp 4 rfl) (.cons (.tmp 5 rfl) .nil)) (And.intro (.cons (.any _) (.cons (.any _) .nil)) (And.intro (.tup (.cons (Exp.of (congrArg (D.slice true 1) (by first | (rw [exgV, exgB, h1, h2]; rfl) | (rw [exgB, h1, h2]; rfl) | (rw [exgV, exgB, h1]; rfl) | (rw [exgB, h1]; rfl))) (.nil true 1)) (.cons (Exp.of (congrArg D.bool (by first | (rw [exgV, exgB, h1, h2]; rfl) | (rw [exgB, h1, h2]; rfl) | (rw [exgV, exgB, h1]; rfl) | (rw [exgB, h1]; rfl))) (.d _)) .nil))) (And.intro rfl rfl))))))

set_option maxHeartbeats 1000000 in
theorem sp_laws_FnExactExcitedGates (x : Cir) (u : List UInt8) (hwx : x.wide) : Sp Try.prog 4 [(.agg [(.slice false 2 (x.sigs.map Sgn.d)), (.slice false 4 (x.gates.map Gat.d))]), (.str u)] [.any, .any] (.bool true) := by
  refine Sp_intro (lend := true) Try.func4 rfl rfl rfl (fun _ => rfl) (fun c hc hX => ?_)
  refine T_seq ?_
  refine T_region hc ?_
  refine Ch.step (v := (.ptr 2000 0)) rfl (.box 2000 _ _ rfl (.aggD _)) rfl rfl ?_
  refine Ch.step (v := (.d (.bool false))) rfl (.pure (.assign _ rfl rfl)) rfl rfl ?_
  refine Ch.nil ?_
  refine T_seq ?_
  refine T_seq ?_
  refine T_region hc ?_
  refine Ch.step (v := (.d (.str u))) rfl (.pure (.move _ rfl rfl)) rfl rfl ?_
  refine Ch.step (v := (.d (.int .i64 ((u.length : Nat) : Int)))) rfl (.pure (.lenStr _ _ rfl Try.underlying9 rfl)) rfl rfl ?_
  refine Ch.step (v := (.d (.bool (decide (1048576 < ((u.length : Nat) : Int)))))) rfl (.pure (.int _ _ _ _ _ rfl rfl rfl rfl)) rfl rfl ?_
  refine Ch.nil ?_
  refine T_cond (b := (decide (1048576 < ((u.length : Nat) : Int)))) rfl (fun h1 => ?_) (fun h1 => ?_)
  · replace h1 := of_decide_eq_true h1
    try have hu0 : u.length ≤ 1048576 := by omega
    refine T_seq ?_
    refine T_region hc ?_
    refine Ch.step (v := (.d (.bool true))) rfl (.pure (.assign _ rfl rfl)) rfl rfl ?_
    refine Ch.nil ?_
    refine T_ret ?_
    refine And.intro (.inr rfl) ?_
    exact Exists.intro [(.d (.bool true))] (Exists.intro [] (Exists.intro [] (And.intro (.cons (.tmp 4 rfl) .nil) (And.intro (.cons (.any _) (.cons (.any _) .nil)) (And.intro (.d _) (And.intro rfl rfl))))))
  · replace h1 := of_decide_eq_false h1
    try have hu0 : u.length ≤ 1048576 := by omega
    refine T_skip ?_
    refine T_seq ?_
    refine T_region hc ?_
    refine Ch.step (v := (.d (.int .i64 1048576))) rfl (.pure (.assign _ rfl rfl)) rfl rfl ?_
    refine Ch.nil ?_
    refine T_seq ?_
    refine T_region hc ?_
    refine Ch.step (v := (.agg [(.d (.slice false 2 (x.sigs.map Sgn.d))), (.d (.slice false 4 (x.gates.map Gat.d)))])) rfl (.pure (.loadPtrA _ _ rfl ag25 sz25 rfl rfl (Nat.le_of_ble_eq_true rfl) rfl)) rfl rfl ?_
    refine Ch.step (v := (.d (.int .i64 1048576))) rfl (.pure (.move _ rfl rfl)) rfl rfl ?_
    refine Ch.step (v := (.d (.int .i64 (szR x.bulk 1048576)))) rfl (.call 21000 13 _ _ _ en13 rfl (.inl rfl) (.cons (.lend (.agg (.cons (.d _) (.cons (.d _) .nil)) rfl)) (.cons (.d _) .nil)) rfl rfl (sp_laws_szCircuit x 1048576 (by first | omega | assumption | (exact hx _ (getD_mem (by omega))) | (exact hx _ (by assumption)) | (exact Nat.le_trans (hx _ (by assumption)) (by omega)) | (simp only [List.length_append, List.length_take, List.length_drop, List.length_cons, List.length_nil]; omega) | (simp_all; done)) (by first | omega | assumption | (exact hx _ (getD_mem (by omega))) | (exact hx _ (by assumption)) | (exact Nat.le_trans (hx _ (by assumption)) (by omega)) | (simp only [List.length_append, List.length_take, List.length_drop, List.length_cons, List.length_nil]; omega) | (simp_all; done)) (by first | assumption | omega | trivial | (simp_all; done) | (exact fun _ _ => trivial) | (exact hx _ (by assumption)) | (refine ⟨?_, ?_⟩ <;> first | assumption | omega))) (.skip _ _ (.skip _ _ .nil)) rfl) rfl rfl ?_
    refine Ch.step (v := (.d (.int .i64 (szR x.bulk 1048576)))) rfl (.pure (.assign _ rfl rfl)) rfl rfl ?_
    refine Ch.nil ?_
    refine T_seq ?_
    refine T_seq ?_
    refine T_region hc ?_
    refine Ch.step (v := (.d (.int .i64 (szR x.bulk 1048576)))) rfl (.pure (.move _ rfl rfl)) rfl rfl ?_
    refine Ch.step (v := (.d (.bool (decide ((szR x.bulk 1048576) < 0))))) rfl (.pure (.int _ _ _ _ _ rfl rfl rfl rfl)) rfl rfl ?_
    refine Ch.nil ?_
    refine T_cond (b := (decide ((szR x.bulk 1048576) < 0))) rfl (fun h2 => ?_) (fun h2 => ?_)
    · replace h2 := of_decide_eq_true h2
      try have hz := szR_ok (t := x.bulk) (left := 1048576) h2 (by omega)
      try have hb : x.bulk ≤ 1048576 := by omega
      try have hl := hz.2
      try have hcl : (exgV x u).length ≤ 1048576 := Nat.le_trans (exgV_le x u) (bulkF_len (Cir.parts hb).2)
      try have hhm := iheld_marks 1 (exgV x u).length
      try have him := imarks_length 1 (exgV x u).length
      refine T_seq ?_
      refine T_region hc ?_
      refine Ch.step (v := (.d (.bool true))) rfl (.pure (.assign _ rfl rfl)) rfl rfl ?_
      refine Ch.nil ?_
      refine T_ret ?_
      refine And.intro (.inr rfl) ?_
      exact Exists.intro [(.d (.bool true))] (Exists.intro [] (Exists.intro [] (And.intro (.cons (.tmp 4 rfl) .nil) (And.intro (.cons (.any _) (.cons (.any _) .nil)) (And.intro (.d _) (And.intro rfl rfl))))))
    · replace h2 := of_decide_eq_false h2
      try have hz := szR_ok (t := x.bulk) (left := 1048576) h2 (by omega)
      try have hb : x.bulk ≤ 1048576 := by omega
      try have hl := hz.2
      try have hcl : (exgV x u).length ≤ 1048576 := Nat.le_trans (exgV_le x u) (bulkF_len (Cir.parts hb).2)
      try have hhm := iheld_marks 1 (exgV x u).length
      try have him := imarks_length 1 (exgV x u).length
      refine T_skip ?_
      refine T_seq ?_
      refine T_region hc ?_
      refine Ch.step (v := (.agg [(.d (.slice false 2 (x.sigs.map Sgn.d))), (.d (.slice false 4 (x.gates.map Gat.d)))])) rfl (.pure (.loadPtrA _ _ rfl ag25 sz25 rfl rfl (Nat.le_of_ble_eq_true rfl) rfl)) rfl rfl ?_
      refine Ch.step (v := (.agg [(.row 26000), (.row 26001)])) rfl (.call 26000 15 _ _ _ en15 rfl (.inl rfl) (.cons (.lend (.agg (.cons (.d _) (.cons (.d _) .nil)) rfl)) .nil) rfl (sol (Cir.sol _) rfl) (sp_laws_toCircuit x (by first | assumption | omega | (rw [List.length_take]; omega) | (have := bulkF_mem hb _ (getD_mem (d := default) (by omega)); assumption) | (unfold bulkS at *; omega) | (simp_all; done))) (.skip _ _ .nil) rfl) rfl rfl ?_
      refine Ch.step (v := (.d (.str u))) rfl (.pure (.move _ rfl rfl)) rfl rfl ?_
      refine Ch.step (v := (.tup [(.row 28000), (.d (.bool (exgB x u)))])) rfl (.call 28000 18 _ _ _ en18 rfl (.inl rfl) (.cons (.lend (.agg (.cons (.row rfl (frozs_map (fun _ => rfl) _)) (.cons (.row rfl (frozs_to Gat.fz _)) .nil)) rfl)) (.cons (.d _) .nil)) rfl (sol (by rw [D.solid]; exact solids_c (solid_row (fun _ => rfl) _) rfl) rfl) (sp_spec_ExcitedGates x u (by first | assumption | omega | (rw [List.length_take]; omega) | (have := bulkF_mem hb _ (getD_mem (d := default) (by omega)); assumption) | (unfold bulkS at *; omega) | (simp_all; done)) (by first | assumption | omega | (rw [List.length_take]; omega) | (have := bulkF_mem hb _ (getD_mem (d := default) (by omega)); assumption) | (unfold bulkS at *; omega) | (simp_all; done))) (.skip _ _ (.skip _ _ .nil)) rfl) rfl rfl ?_
      refine Ch.step (v := (.tup [(.row 28000), (.d (.bool (exgB x u)))])) rfl (.pure (.move _ rfl rfl)) rfl rfl ?_
      refine Ch.step (v := (.row 28000)) rfl (.pure (.extract _ rfl rfl rfl)) rfl rfl ?_
      refine Ch.step (v := (.d (.bool (exgB x u)))) rfl (.pure (.extract _ rfl rfl rfl)) rfl rfl ?_
      refine Ch.step (v := (.row 28000)) rfl (.pure (.assign _ rfl rfl)) rfl rfl ?_
      refine Ch.step (v := (.d (.bool (exgB x u)))) rfl (.pure (.assign _ rfl rfl)) rfl rfl ?_
      refine Ch.nil ?_
      refine T_seq ?_
      refine T_region hc ?_
      refine Ch.step (v := (.agg [(.d (.slice false 2 (x.sigs.map Sgn.d))), (.d (.slice false 4 (x.gates.map Gat.d)))])) rfl (.pure (.loadPtrA _ _ rfl ag25 sz25 rfl rfl (Nat.le_of_ble_eq_true rfl) rfl)) rfl rfl ?_
      refine Ch.step (v := (.agg [(.row 32000), (.row 32001)])) rfl (.call 32000 15 _ _ _ en15 rfl (.inl rfl) (.cons (.lend (.agg (.cons (.d _) (.cons (.d _) .nil)) rfl)) .nil) rfl (sol (Cir.sol _) rfl) (sp_laws_toCircuit x (by first | assumption | omega | (rw [List.length_take]; omega) | (have := bulkF_mem hb _ (getD_mem (d := default) (by omega)); assumption) | (unfold bulkS at *; omega) | (simp_all; done))) (.skip _ _ .nil) rfl) rfl rfl ?_
      refine Ch.step (v := (.ptr 8000 0)) rfl (.alloc 8000 _ rfl zer32) rfl rfl ?_
      refine Ch.step (v := .junk) rfl (.storePtr _ _ _ rfl rfl rfl (.agg _ rfl) sz32 (Nat.le_of_ble_eq_true rfl)) rfl rfl ?_
      refine Ch.nil ?_
      refine T_seq ?_
      refine T_region hc ?_
      refine Ch.step (v := (.agg [(.row 32000), (.row 32001)])) rfl (.pure (.loadPtrA _ _ rfl ag32 sz32 rfl rfl (Nat.le_of_ble_eq_true rfl) rfl)) rfl rfl ?_
      refine Ch.step (v := (.d (.str u))) rfl (.pure (.move _ rfl rfl)) rfl rfl ?_
      refine Ch.step (v := (.tup [(.row 36000), (.d (.bool (exgB x u)))])) rfl (.call 36000 19 _ _ _ en19 rfl (.inl rfl) (.cons (.lend (.agg (.cons (.row rfl (frozs_map (fun _ => rfl) _)) (.cons (.row rfl (frozs_to Gat.fz _)) .nil)) rfl)) (.cons (.d _) .nil)) rfl (sol (by rw [D.solid]; exact solids_c (solid_row (fun _ => rfl) _) rfl) rfl) (sp_impl_ExcitedGates x u (by first | assumption | omega | (rw [List.length_take]; omega) | (have := bulkF_mem hb _ (getD_mem (d := default) (by omega)); assumption) | (unfold bulkS at *; omega) | (simp_all; done)) (by first | assumption | omega | (rw [List.length_take]; omega) | (have := bulkF_mem hb _ (getD_mem (d := default) (by omega)); assumption) | (unfold bulkS at *; omega) | (simp_all; done))) (.skip _ _ (.skip _ _ .nil)) rfl) rfl rfl ?_
      refine Ch.step (v := (.tup [(.row 36000), (.d (.bool (exgB x u)))])) rfl (.pure (.move _ rfl rfl)) rfl rfl ?_
      refine Ch.step (v := (.row 36000)) rfl (.pure (.extract _ rfl rfl rfl)) rfl rfl ?_
      refine Ch.step (v := (.d (.bool (exgB x u)))) rfl (.pure (.extract _ rfl rfl rfl)) rfl rfl ?_
      refine Ch.step (v := (.row 36000)) rfl (.pure (.assign _ rfl rfl)) rfl rfl ?_
      refine Ch.step (v := (.d (.bool (exgB x u)))) rfl (.pure (.assign _ rfl rfl)) rfl rfl ?_
      refine Ch.nil ?_
      refine T_seq ?_
      refine T_seq ?_
      refine T_region hc ?_
      refine Ch.step (v := (.row 36000)) rfl (.pure (.move _ rfl rfl)) rfl rfl ?_
      refine Ch.step (v := (.row 28000)) rfl (.pure (.move _ rfl rfl)) rfl rfl ?_
      refine Ch.step (v := (.d (.bool (decide ((exgV x u) = (exgV x u)))))) rfl (.call 41000 20 _ _ _ en20 rfl (.inl rfl) (.cons (.lend (.row rfl (frozs_map (fun _ => rfl) _))) (.cons (.lend (.row rfl (frozs_map (fun _ => rfl) _))) .nil)) rfl rfl (sp_laws_eqIntS (exgV x u) (exgV x u) (by first | omega | assumption | (exact hx _ (getD_mem (by omega))) | (exact hx _ (by assumption)) | (exact Nat.le_trans (hx _ (by assumption)) (by omega)) | (simp only [List.length_append, List.length_take, List.length_drop, List.length_cons, List.length_nil]; omega) | (simp_all; done))) (.skip _ _ (.skip _ _ .nil)) rfl) rfl rfl ?_
      refine Ch.step (v := (.d (.bool (!(decide ((exgV x u) = (exgV x u))))))) rfl (.pure (.not _ _ rfl rfl)) rfl rfl ?_
      refine Ch.step (v := (.d (.bool (!(decide ((exgV x u) = (exgV x u))))))) rfl (.pure (.move _ rfl rfl)) rfl rfl ?_
      cases h3 : (decide ((exgV x u) = (exgV x u))) with
      | true =>
        replace h3 := of_decide_eq_true h3
        refine Ch.step (v := (.d (.bool (exgB x u)))) rfl (.pure (.move _ rfl rfl)) rfl rfl ?_
        refine Ch.step (v := (.d (.bool (exgB x u)))) rfl (.pure (.move _ rfl rfl)) rfl rfl ?_
        refine Ch.step (v := (.d (.bool (!(decide ((exgB x u) = (exgB x u))))))) rfl (.pure (.neB _ _ _ _ rfl Try.underlying4 rfl rfl)) rfl rfl ?_
        refine Ch.step (v := (.d (.bool (!(decide ((exgB x u) = (exgB x u))))))) rfl (.pure (.pickF _ _ _ rfl rfl rfl)) rfl rfl ?_
        refine Ch.nil ?_
        refine T_cond (b := (!(decide ((exgB x u) = (exgB x u))))) rfl (fun h4 => ?_) (fun h4 => ?_)
        · replace h4 := nott h4
          replace h4 := of_decide_eq_false h4
          refine T_seq ?_
          refine T_region hc ?_
          refine Ch.step (v := (.d (.bool false))) rfl (.pure (.assign _ rfl rfl)) rfl rfl ?_
          refine Ch.nil ?_
          refine T_ret ?_
          refine And.intro (.inr rfl) ?_
          exact Exists.intro [(.d (.bool false))] (Exists.intro [] (Exists.intro [] (And.intro (.cons (.tmp 4 rfl) .nil) (And.intro (.cons (.any _) (.cons (.any _) .nil)) (And.intro (Exp.of (congrArg D.bool (by first | rfl | contradiction | (exfalso; omega) | (simp_all; done) | (exfalso; simp_all; omega))) (.d _)) (And.intro rfl rfl))))))
        · replace h4 := notf h4
          replace h4 := of_decide_eq_true h4
          refine T_skip ?_
          refine T_seq ?_
          refine T_seq ?_
          refine T_regionD hc (by kernel_rfl) ?_
          refine ChD.step (v := (.agg [(.row 32000), (.row 32001)])) [8000, 32000, 32001] rfl (.pure (.loadPtrA _ _ rfl ag32 sz32 rfl rfl (Nat.le_of_ble_eq_true rfl) rfl)) rfl rfl ?_
          refine ChD.step (v := (.agg [(.d (.slice false 2 (x.sigs.map Sgn.d))), (.d (.slice false 4 (x.gates.map Gat.d)))])) [2000] rfl (.pure (.loadPtrA _ _ rfl ag25 sz25 rfl rfl (Nat.le_of_ble_eq_true rfl) rfl)) rfl rfl ?_
          refine ChD.step (v := (.agg [(.row 50000), (.row 50001)])) [] rfl (.call 50000 15 _ _ _ en15 rfl (.inl rfl) (.cons (.lend (.agg (.cons (.d _) (.cons (.d _) .nil)) rfl)) .nil) rfl (sol (Cir.sol _) rfl) (sp_laws_toCircuit x (by first | assumption | omega | (rw [List.length_take]; omega) | (have := bulkF_mem hb _ (getD_mem (d := default) (by omega)); assumption) | (unfold bulkS at *; omega) | (simp_all; done))) (.skip _ _ .nil) rfl) rfl rfl ?_
          refine ChD.step (v := (.d (.bool (decide (x = x))))) [32000, 32001, 50000, 50001] rfl (.call 51000 17 _ _ _ en17 rfl (.inl rfl) (.cons (.lend (.agg (.cons (.row rfl (frozs_map (fun _ => rfl) _)) (.cons (.row rfl (frozs_to Gat.fz _)) .nil)) rfl)) (.cons (.lend (.agg (.cons (.row rfl (frozs_map (fun _ => rfl) _)) (.cons (.row rfl (frozs_to Gat.fz _)) .nil)) rfl)) .nil)) rfl rfl (sp_laws_eqCircuit x x (by first | assumption | omega | (rw [List.length_take]; omega) | (have := bulkF_mem hb _ (getD_mem (d := default) (by omega)); assumption) | (unfold bulkS at *; omega) | (simp_all; done))) (.skip _ _ (.skip _ _ .nil)) rfl) rfl rfl ?_
          refine ChD.step (v := (.d (.bool (!(decide (x = x)))))) [] rfl (.pure (.not _ _ rfl rfl)) rfl rfl ?_
          refine ChD.nil (And.intro ?_ (by kernel_rfl))
          refine T_cond (b := (!(decide (x = x)))) rfl (fun h5 => ?_) (fun h5 => ?_)
          · replace h5 := nott h5
            replace h5 := of_decide_eq_false h5
            refine T_seq ?_
            refine T_region hc ?_
            refine Ch.step (v := (.d (.bool false))) rfl (.pure (.assign _ rfl rfl)) rfl rfl ?_
            refine Ch.nil ?_
            refine T_ret ?_
            refine And.intro (.inr rfl) ?_
            exact Exists.intro [(.d (.bool false))] (Exists.intro [] (Exists.intro [] (And.intro (.cons (.tmp 4 rfl) .nil) (And.intro (.cons (.any _) (.cons (.any _) .nil)) (And.intro (Exp.of (congrArg D.bool (by first | rfl | contradiction | (exfalso; omega) | (simp_all; done) | (exfalso; simp_all; omega))) (.d _)) (And.intro rfl rfl))))))
          · replace h5 := notf h5
            replace h5 := of_decide_eq_true h5
            refine T_skip ?_
            refine T_seq ?_
            refine T_region hc ?_
            refine Ch.step (v := (.d (.int .i64 1))) rfl (.pure (.assign _ rfl rfl)) rfl rfl ?_
            refine Ch.nil ?_
            refine T_seq ?_
            refine T_region hc ?_
            refine Ch.step (v := (.agg [(.row 32000), (.row 32001)])) rfl (.pure (.loadPtrA _ _ rfl ag32 sz32 rfl rfl (Nat.le_of_ble_eq_true rfl) rfl)) rfl rfl ?_
            refine Ch.step (v := (.d (.int .i64 1))) rfl (.pure (.move _ rfl rfl)) rfl rfl ?_
            refine Ch.step (v := (.d (.int .i64 ((1 + 2 * x.sigs.length + markSum x.gates x.gates.length : Nat) : Int)))) rfl (.call 55000 21 _ _ _ en21 rfl (.inl rfl) (.cons (.agg (.cons (.row rfl) (.cons (.row rfl) .nil)) rfl) (.cons (.d _) .nil)) rfl rfl (sp_laws_markCircuit x 1 (by first | assumption | omega | (rw [List.length_take]; omega) | (have := bulkF_mem hb _ (getD_mem (d := default) (by omega)); assumption) | (unfold bulkS at *; omega) | (simp_all; done)) (by first | assumption | omega | (rw [List.length_take]; omega) | (have := bulkF_mem hb _ (getD_mem (d := default) (by omega)); assumption) | (unfold bulkS at *; omega) | (simp_all; done))) (.skip _ _ (.skip _ _ .nil)) rfl) rfl rfl ?_
            refine Ch.step (v := (.d (.int .i64 ((1 + 2 * x.sigs.length + markSum x.gates x.gates.length : Nat) : Int)))) rfl (.pure (.assign _ rfl rfl)) rfl rfl ?_
            refine Ch.nil ?_
            refine T_seq ?_
            refine T_seq ?_
            refine T_region hc ?_
            refine Ch.step (v := (.d (.int .i64 ((1 + 2 * x.sigs.length + markSum x.gates x.gates.length : Nat) : Int)))) rfl (.pure (.move _ rfl rfl)) rfl rfl ?_
            refine Ch.step (v := (.d (.bool (decide (((1 + 2 * x.sigs.length + markSum x.gates x.gates.length : Nat) : Int) < 0))))) rfl (.pure (.int _ _ _ _ _ rfl rfl rfl rfl)) rfl rfl ?_
            refine Ch.step (v := (.d (.bool (decide (((1 + 2 * x.sigs.length + markSum x.gates x.gates.length : Nat) : Int) < 0))))) rfl (.pure (.move _ rfl rfl)) rfl rfl ?_
            cases h6 : (decide (((1 + 2 * x.sigs.length + markSum x.gates x.gates.length : Nat) : Int) < 0)) with
            | true =>
              replace h6 := of_decide_eq_true h6
              refine Ch.skip rfl rfl ?_
              refine Ch.skip rfl rfl ?_
              refine Ch.skip rfl rfl ?_
              refine Ch.skip rfl rfl ?_
              refine Ch.step (v := (.d (.bool true))) rfl (.pure (.pickT _ _ _ rfl rfl rfl)) rfl rfl ?_
              refine Ch.step (v := (.d (.bool true))) rfl (.pure (.move _ rfl rfl)) rfl rfl ?_
              refine Ch.skip rfl rfl ?_
              refine Ch.skip rfl rfl ?_
              refine Ch.skip rfl rfl ?_
              refine Ch.step (v := (.d (.bool true))) rfl (.pure (.pickT _ _ _ rfl rfl rfl)) rfl rfl ?_
              refine Ch.nil ?_
              refine T_cond (b := true) rfl (fun _ => ?_) (fun h => nomatch h)
              refine T_seq ?_
              refine T_region hc ?_
              refine Ch.step (v := (.d (.bool false))) rfl (.pure (.assign _ rfl rfl)) rfl rfl ?_
              refine Ch.nil ?_
              refine T_ret ?_
              refine And.intro (.inr rfl) ?_
              exact Exists.intro [(.d (.bool false))] (Exists.intro [] (Exists.intro [] (And.intro (.cons (.tmp 4 rfl) .nil) (And.intro (.cons (.any _) (.cons (.any _) .nil)) (And.intro (Exp.of (congrArg D.bool (by first | rfl | contradiction | (exfalso; omega) | (simp_all; done) | (exfalso; simp_all; omega))) (.d _)) (And.intro rfl rfl))))))
            | false =>
              replace h6 := of_decide_eq_false h6
              refine Ch.step (v := (.row 36000)) rfl (.pure (.move _ rfl rfl)) rfl rfl ?_
              refine Ch.step (v := (.row 28000)) rfl (.pure (.move _ rfl rfl)) rfl rfl ?_
              refine Ch.step (v := (.d (.bool (decide ((exgV x u) = (exgV x u)))))) rfl (.call 61000 20 _ _ _ en20 rfl (.inl rfl) (.cons (.lend (.row rfl (frozs_map (fun _ => rfl) _))) (.cons (.lend (.row rfl (frozs_map (fun _ => rfl) _))) .nil)) rfl rfl (sp_laws_eqIntS (exgV x u) (exgV x u) (by first | omega | assumption | (exact hx _ (getD_mem (by omega))) | (exact hx _ (by assumption)) | (exact Nat.le_trans (hx _ (by assumption)) (by omega)) | (simp only [List.length_append, List.length_take, List.length_drop, List.length_cons, List.length_nil]; omega) | (simp_all; done))) (.skip _ _ (.skip _ _ .nil)) rfl) rfl rfl ?_
              refine Ch.step (v := (.d (.bool (!(decide ((exgV x u) = (exgV x u))))))) rfl (.pure (.not _ _ rfl rfl)) rfl rfl ?_
              refine Ch.step (v := (.d (.bool (!(decide ((exgV x u) = (exgV x u))))))) rfl (.pure (.pickF _ _ _ rfl rfl rfl)) rfl rfl ?_
              refine Ch.step (v := (.d (.bool (!(decide ((exgV x u) = (exgV x u))))))) rfl (.pure (.move _ rfl rfl)) rfl rfl ?_
              cases h7 : (decide ((exgV x u) = (exgV x u))) with
              | true =>
                replace h7 := of_decide_eq_true h7
                refine Ch.step (v := (.d (.bool (exgB x u)))) rfl (.pure (.move _ rfl rfl)) rfl rfl ?_
                refine Ch.step (v := (.d (.bool (exgB x u)))) rfl (.pure (.move _ rfl rfl)) rfl rfl ?_
                refine Ch.step (v := (.d (.bool (!(decide ((exgB x u) = (exgB x u))))))) rfl (.pure (.neB _ _ _ _ rfl Try.underlying4 rfl rfl)) rfl rfl ?_
                refine Ch.step (v := (.d (.bool (!(decide ((exgB x u) = (exgB x u))))))) rfl (.pure (.pickF _ _ _ rfl rfl rfl)) rfl rfl ?_
                refine Ch.nil ?_
                refine T_cond (b := (!(decide ((exgB x u) = (exgB x u))))) rfl (fun h8 => ?_) (fun h8 => ?_)
                · replace h8 := nott h8
                  replace h8 := of_decide_eq_false h8
                  refine T_seq ?_
                  refine T_region hc ?_
                  refine Ch.step (v := (.d (.bool false))) rfl (.pure (.assign _ rfl rfl)) rfl rfl ?_
                  refine Ch.nil ?_
                  refine T_ret ?_
                  refine And.intro (.inr rfl) ?_
                  exact Exists.intro [(.d (.bool false))] (Exists.intro [] (Exists.intro [] (And.intro (.cons (.tmp 4 rfl) .nil) (And.intro (.cons (.any _) (.cons (.any _) .nil)) (And.intro (Exp.of (congrArg D.bool (by first | rfl | contradiction | (exfalso; omega) | (simp_all; done) | (exfalso; simp_all; omega))) (.d _)) (And.intro rfl rfl))))))
                · replace h8 := notf h8
                  replace h8 := of_decide_eq_true h8
                  refine T_skip ?_
                  refine T_seq ?_
                  refine T_region hc ?_
                  refine Ch.step (v := (.d (.int .i64 1))) rfl (.pure (.assign _ rfl rfl)) rfl rfl ?_
                  refine Ch.nil ?_
                  refine T_seq ?_
                  refine T_region hc ?_
                  refine Ch.step (v := (.row 36000)) rfl (.pure (.move _ rfl rfl)) rfl rfl ?_
                  refine Ch.step (v := (.d (.int .i64 1))) rfl (.pure (.move _ rfl rfl)) rfl rfl ?_
                  refine Ch.step (v := (.d (.int .i64 ((1 + (exgV x u).length : Nat) : Int)))) rfl (.call 71000 22 _ _ _ en22 rfl (.inl rfl) (.cons (.row rfl) (.cons (.d _) .nil)) rfl (sol rfl (solids_c (solid_row (fun _ => rfl) _) rfl)) (sp_laws_markIntS (exgV x u) 1 (by first | omega | assumption | (exact hx _ (getD_mem (by omega))) | (exact hx _ (by assumption)) | (exact Nat.le_trans (hx _ (by assumption)) (by omega)) | (simp only [List.length_append, List.length_take, List.length_drop, List.length_cons, List.length_nil]; omega) | (simp_all; done)) (by first | omega | assumption | (exact hx _ (getD_mem (by omega))) | (exact hx _ (by assumption)) | (exact Nat.le_trans (hx _ (by assumption)) (by omega)) | (simp only [List.length_append, List.length_take, List.length_drop, List.length_cons, List.length_nil]; omega) | (simp_all; done))) (.row _ _ _ (.skip _ _ .nil)) rfl) rfl rfl ?_
                  refine Ch.step (v := (.d (.int .i64 ((1 + (exgV x u).length : Nat) : Int)))) rfl (.pure (.assign _ rfl rfl)) rfl rfl ?_
                  refine Ch.nil ?_
                  refine T_seq ?_
                  refine T_region hc ?_
                  refine Ch.step (v := (.d (.int .i64 1))) rfl (.pure (.assign _ rfl rfl)) rfl rfl ?_
                  refine Ch.nil ?_
                  refine T_seq ?_
                  refine T_region hc ?_
                  refine Ch.step (v := (.row 36000)) rfl (.pure (.move _ rfl rfl)) rfl rfl ?_
                  refine Ch.step (v := (.d (.int .i64 1))) rfl (.pure (.move _ rfl rfl)) rfl rfl ?_
                  refine Ch.step (v := (.d (.int .i64 (iheldR (imarks 1 (exgV x u).length) 1)))) rfl (.call 74000 23 _ _ _ en23 rfl (.inl rfl) (.cons (.lend (.row rfl (frozs_map (fun _ => rfl) _))) (.cons (.d _) .nil)) rfl rfl (sp_laws_heldIntS (imarks 1 (exgV x u).length) 1 (by first | omega | assumption | (exact hx _ (getD_mem (by omega))) | (exact hx _ (by assumption)) | (exact Nat.le_trans (hx _ (by assumption)) (by omega)) | (simp only [List.length_append, List.length_take, List.length_drop, List.length_cons, List.length_nil]; omega) | (simp_all; done)) (by first | omega | assumption | (exact hx _ (getD_mem (by omega))) | (exact hx _ (by assumption)) | (exact Nat.le_trans (hx _ (by assumption)) (by omega)) | (simp only [List.length_append, List.length_take, List.length_drop, List.length_cons, List.length_nil]; omega) | (simp_all; done))) (.skip _ _ (.skip _ _ .nil)) rfl) rfl rfl ?_
                  refine Ch.step (v := (.d (.int .i64 (iheldR (imarks 1 (exgV x u).length) 1)))) rfl (.pure (.assign _ rfl rfl)) rfl rfl ?_
                  refine Ch.nil ?_
                  refine T_seq ?_
                  refine T_seq ?_
                  refine T_region hc ?_
                  refine Ch.step (v := (.d (.int .i64 (iheldR (imarks 1 (exgV x u).length) 1)))) rfl (.pure (.move _ rfl rfl)) rfl rfl ?_
                  refine Ch.step (v := (.d (.bool (decide ((iheldR (imarks 1 (exgV x u).length) 1) < 0))))) rfl (.pure (.int _ _ _ _ _ rfl rfl rfl rfl)) rfl rfl ?_
                  refine Ch.nil ?_
                  refine T_cond (b := (decide ((iheldR (imarks 1 (exgV x u).length) 1) < 0))) rfl (fun h9 => ?_) (fun h9 => ?_)
                  · replace h9 := of_decide_eq_true h9
                    refine T_seq ?_
                    refine T_region hc ?_
                    refine Ch.step (v := (.d (.bool false))) rfl (.pure (.assign _ rfl rfl)) rfl rfl ?_
                    refine Ch.nil ?_
                    refine T_ret ?_
                    refine And.intro (.inr rfl) ?_
                    exact Exists.intro [(.d (.bool false))] (Exists.intro [] (Exists.intro [] (And.intro (.cons (.tmp 4 rfl) .nil) (And.intro (.cons (.any _) (.cons (.any _) .nil)) (And.intro (Exp.of (congrArg D.bool (by first | rfl | contradiction | (exfalso; omega) | (simp_all; done) | (exfalso; simp_all; omega))) (.d _)) (And.intro rfl rfl))))))
                  · replace h9 := of_decide_eq_false h9
                    refine T_skip ?_
                    refine T_seq ?_
                    refine T_seq ?_
                    refine T_region hc ?_
                    refine Ch.step (v := (.d (.int .i64 (iheldR (imarks 1 (exgV x u).length) 1)))) rfl (.pure (.move _ rfl rfl)) rfl rfl ?_
                    refine Ch.step (v := (.d (.int .i64 ((1 + (exgV x u).length : Nat) : Int)))) rfl (.pure (.move _ rfl rfl)) rfl rfl ?_
                    refine Ch.step (v := (.d (.bool (!(decide ((iheldR (imarks 1 (exgV x u).length) 1) = ((1 + (exgV x u).length : Nat) : Int))))))) rfl (.pure (.int _ _ _ _ _ rfl rfl rfl rfl)) rfl rfl ?_
                    refine Ch.nil ?_
                    refine T_cond (b := (!(decide ((iheldR (imarks 1 (exgV x u).length) 1) = ((1 + (exgV x u).length : Nat) : Int))))) rfl (fun h10 => ?_) (fun h10 => ?_)
                    · replace h10 := nott h10
                      replace h10 := of_decide_eq_false h10
                      refine T_seq ?_
                      refine T_region hc ?_
                      refine Ch.step (v := (.d (.bool false))) rfl (.pure (.assign _ rfl rfl)) rfl rfl ?_
                      refine Ch.nil ?_
                      refine T_ret ?_
                      refine And.intro (.inr rfl) ?_
                      exact Exists.intro [(.d (.bool false))] (Exists.intro [] (Exists.intro [] (And.intro (.cons (.tmp 4 rfl) .nil) (And.intro (.cons (.any _) (.cons (.any _) .nil)) (And.intro (Exp.of (congrArg D.bool (by first | rfl | contradiction | (exfalso; omega) | (simp_all; done) | (exfalso; simp_all; omega))) (.d _)) (And.intro rfl rfl))))))
                    · replace h10 := notf h10
                      replace h10 := of_decide_eq_true h10
                      refine T_skip ?_
                      refine T_seq ?_
                      refine T_region hc ?_
                      refine Ch.step (v := (.agg [(.d (.slice false 2 (x.sigs.map Sgn.d))), (.d (.slice false 4 (x.gates.map Gat.d)))])) rfl (.pure (.loadPtrA _ _ rfl ag25 sz25 rfl rfl (Nat.le_of_ble_eq_true rfl) rfl)) rfl rfl ?_
                      refine Ch.step (v := (.agg [(.row 82000), (.row 82001)])) rfl (.call 82000 15 _ _ _ en15 rfl (.inl rfl) (.cons (.lend (.agg (.cons (.d _) (.cons (.d _) .nil)) rfl)) .nil) rfl (sol (Cir.sol _) rfl) (sp_laws_toCircuit x (by first | assumption | omega | (rw [List.length_take]; omega) | (have := bulkF_mem hb _ (getD_mem (d := default) (by omega)); assumption) | (unfold bulkS at *; omega) | (simp_all; done))) (.skip _ _ .nil) rfl) rfl rfl ?_
                      refine Ch.step (v := (.d (.str u))) rfl (.pure (.move _ rfl rfl)) rfl rfl ?_
                      refine Ch.step (v := (.tup [(.row 84000), (.d (.bool (exgB x u)))])) rfl (.call 84000 19 _ _ _ en19 rfl (.inl rfl) (.cons (.lend (.agg (.cons (.row rfl (frozs_map (fun _ => rfl) _)) (.cons (.row rfl (frozs_to Gat.fz _)) .nil)) rfl)) (.cons (.d _) .nil)) rfl (sol (by rw [D.solid]; exact solids_c (solid_row (fun _ => rfl) _) rfl) rfl) (sp_impl_ExcitedGates x u (by first | assumption | omega | (rw [List.length_take]; omega) | (have := bulkF_mem hb _ (getD_mem (d := default) (by omega)); assumption) | (unfold bulkS at *; omega) | (simp_all; done)) (by first | assumption | omega | (rw [List.length_take]; omega) | (have := bulkF_mem hb _ (getD_mem (d := default) (by omega)); assumption) | (unfold bulkS at *; omega) | (simp_all; done))) (.skip _ _ (.skip _ _ .nil)) rfl) rfl rfl ?_
                      refine Ch.step (v := (.tup [(.row 84000), (.d (.bool (exgB x u)))])) rfl (.pure (.move _ rfl rfl)) rfl rfl ?_
                      refine Ch.step (v := (.row 84000)) rfl (.pure (.extract _ rfl rfl rfl)) rfl rfl ?_
                      refine Ch.step (v := (.d (.bool (exgB x u)))) rfl (.pure (.extract _ rfl rfl rfl)) rfl rfl ?_
                      refine Ch.step (v := (.row 84000)) rfl (.pure (.assign _ rfl rfl)) rfl rfl ?_
                      refine Ch.step (v := (.d (.bool (exgB x u)))) rfl (.pure (.assign _ rfl rfl)) rfl rfl ?_
                      refine Ch.nil ?_
                      refine T_seq ?_
                      refine T_seq ?_
                      refine T_region hc ?_
                      refine Ch.step (v := (.row 84000)) rfl (.pure (.move _ rfl rfl)) rfl rfl ?_
                      refine Ch.step (v := (.row 28000)) rfl (.pure (.move _ rfl rfl)) rfl rfl ?_
                      refine Ch.step (v := (.d (.bool (decide ((exgV x u) = (exgV x u)))))) rfl (.call 89000 20 _ _ _ en20 rfl (.inl rfl) (.cons (.lend (.row rfl (frozs_map (fun _ => rfl) _))) (.cons (.lend (.row rfl (frozs_map (fun _ => rfl) _))) .nil)) rfl rfl (sp_laws_eqIntS (exgV x u) (exgV x u) (by first | omega | assumption | (exact hx _ (getD_mem (by omega))) | (exact hx _ (by assumption)) | (exact Nat.le_trans (hx _ (by assumption)) (by omega)) | (simp only [List.length_append, List.length_take, List.length_drop, List.length_cons, List.length_nil]; omega) | (simp_all; done))) (.skip _ _ (.skip _ _ .nil)) rfl) rfl rfl ?_
                      refine Ch.step (v := (.d (.bool (!(decide ((exgV x u) = (exgV x u))))))) rfl (.pure (.not _ _ rfl rfl)) rfl rfl ?_
                      refine Ch.step (v := (.d (.bool (!(decide ((exgV x u) = (exgV x u))))))) rfl (.pure (.move _ rfl rfl)) rfl rfl ?_
                      cases h11 : (decide ((exgV x u) = (exgV x u))) with
                      | true =>
                        replace h11 := of_decide_eq_true h11
                        refine Ch.step (v := (.d (.bool (exgB x u)))) rfl (.pure (.move _ rfl rfl)) rfl rfl ?_
                        refine Ch.step (v := (.d (.bool (exgB x u)))) rfl (.pure (.move _ rfl rfl)) rfl rfl ?_
                        refine Ch.step (v := (.d (.bool (!(decide ((exgB x u) = (exgB x u))))))) rfl (.pure (.neB _ _ _ _ rfl Try.underlying4 rfl rfl)) rfl rfl ?_
                        refine Ch.step (v := (.d (.bool (!(decide ((exgB x u) = (exgB x u))))))) rfl (.pure (.pickF _ _ _ rfl rfl rfl)) rfl rfl ?_
                        refine Ch.nil ?_
                        refine T_cond (b := (!(decide ((exgB x u) = (exgB x u))))) rfl (fun h12 => ?_) (fun h12 => ?_)
                        · replace h12 := nott h12
                          replace h12 := of_decide_eq_false h12
                          refine T_seq ?_
                          refine T_region hc ?_
                          refine Ch.step (v := (.d (.bool false))) rfl (.pure (.assign _ rfl rfl)) rfl rfl ?_
                          refine Ch.nil ?_
                          refine T_ret ?_
                          refine And.intro (.inr rfl) ?_
                          exact Exists.intro [(.d (.bool false))] (Exists.intro [] (Exists.intro [] (And.intro (.cons (.tmp 4 rfl) .nil) (And.intro (.cons (.any _) (.cons (.any _) .nil)) (And.intro (Exp.of (congrArg D.bool (by first | rfl | contradiction | (exfalso; omega) | (simp_all; done) | (exfalso; simp_all; omega))) (.d _)) (And.intro rfl rfl))))))
                        · replace h12 := notf h12
                          replace h12 := of_decide_eq_true h12
                          refine T_skip ?_
                          refine T_seq ?_
                          refine T_region hc ?_
                          refine Ch.step (v := (.d (.int .i64 1))) rfl (.pure (.assign _ rfl rfl)) rfl rfl ?_
                          refine Ch.nil ?_
                          refine T_seq ?_
                          refine T_region hc ?_
                          refine Ch.step (v := (.row 36000)) rfl (.pure (.move _ rfl rfl)) rfl rfl ?_
                          refine Ch.step (v := (.d (.int .i64 1))) rfl (.pure (.move _ rfl rfl)) rfl rfl ?_
                          refine Ch.step (v := (.d (.int .i64 (iheldR (imarks 1 (exgV x u).length) 1)))) rfl (.call 98000 23 _ _ _ en23 rfl (.inl rfl) (.cons (.lend (.row rfl (frozs_map (fun _ => rfl) _))) (.cons (.d _) .nil)) rfl rfl (sp_laws_heldIntS (imarks 1 (exgV x u).length) 1 (by first | omega | assumption | (exact hx _ (getD_mem (by omega))) | (exact hx _ (by assumption)) | (exact Nat.le_trans (hx _ (by assumption)) (by omega)) | (simp only [List.length_append, List.length_take, List.length_drop, List.length_cons, List.length_nil]; omega) | (simp_all; done)) (by first | omega | assumption | (exact hx _ (getD_mem (by omega))) | (exact hx _ (by assumption)) | (exact Nat.le_trans (hx _ (by assumption)) (by omega)) | (simp only [List.length_append, List.length_take, List.length_drop, List.length_cons, List.length_nil]; omega) | (simp_all; done))) (.skip _ _ (.skip _ _ .nil)) rfl) rfl rfl ?_
                          refine Ch.step (v := (.d (.int .i64 (iheldR (imarks 1 (exgV x u).length) 1)))) rfl (.pure (.assign _ rfl rfl)) rfl rfl ?_
                          refine Ch.nil ?_
                          refine T_seq ?_
                          refine T_seq ?_
                          refine T_region hc ?_
                          refine Ch.step (v := (.d (.int .i64 (iheldR (imarks 1 (exgV x u).length) 1)))) rfl (.pure (.move _ rfl rfl)) rfl rfl ?_
                          refine Ch.step (v := (.d (.bool (decide ((iheldR (imarks 1 (exgV x u).length) 1) < 0))))) rfl (.pure (.int _ _ _ _ _ rfl rfl rfl rfl)) rfl rfl ?_
                          refine Ch.nil ?_
                          refine T_cond (b := (decide ((iheldR (imarks 1 (exgV x u).length) 1) < 0))) rfl (fun h13 => ?_) (fun h13 => ?_)
                          · replace h13 := of_decide_eq_true h13
                            refine T_seq ?_
                            refine T_region hc ?_
                            refine Ch.step (v := (.d (.bool false))) rfl (.pure (.assign _ rfl rfl)) rfl rfl ?_
                            refine Ch.nil ?_
                            refine T_ret ?_
                            refine And.intro (.inr rfl) ?_
                            exact Exists.intro [(.d (.bool false))] (Exists.intro [] (Exists.intro [] (And.intro (.cons (.tmp 4 rfl) .nil) (And.intro (.cons (.any _) (.cons (.any _) .nil)) (And.intro (Exp.of (congrArg D.bool (by first | rfl | contradiction | (exfalso; omega) | (simp_all; done) | (exfalso; simp_all; omega))) (.d _)) (And.intro rfl rfl))))))
                          · replace h13 := of_decide_eq_false h13
                            refine T_skip ?_
                            refine T_seq ?_
                            refine T_seq ?_
                            refine T_region hc ?_
                            refine Ch.step (v := (.d (.int .i64 (iheldR (imarks 1 (exgV x u).length) 1)))) rfl (.pure (.move _ rfl rfl)) rfl rfl ?_
                            refine Ch.step (v := (.d (.int .i64 ((1 + (exgV x u).length : Nat) : Int)))) rfl (.pure (.move _ rfl rfl)) rfl rfl ?_
                            refine Ch.step (v := (.d (.bool (!(decide ((iheldR (imarks 1 (exgV x u).length) 1) = ((1 + (exgV x u).length : Nat) : Int))))))) rfl (.pure (.int _ _ _ _ _ rfl rfl rfl rfl)) rfl rfl ?_
                            refine Ch.nil ?_
                            refine T_cond (b := (!(decide ((iheldR (imarks 1 (exgV x u).length) 1) = ((1 + (exgV x u).length : Nat) : Int))))) rfl (fun h14 => ?_) (fun h14 => ?_)
                            · replace h14 := nott h14
                              replace h14 := of_decide_eq_false h14
                              refine T_seq ?_
                              refine T_region hc ?_
                              refine Ch.step (v := (.d (.bool false))) rfl (.pure (.assign _ rfl rfl)) rfl rfl ?_
                              refine Ch.nil ?_
                              refine T_ret ?_
                              refine And.intro (.inr rfl) ?_
                              exact Exists.intro [(.d (.bool false))] (Exists.intro [] (Exists.intro [] (And.intro (.cons (.tmp 4 rfl) .nil) (And.intro (.cons (.any _) (.cons (.any _) .nil)) (And.intro (Exp.of (congrArg D.bool (by first | rfl | contradiction | (exfalso; omega) | (simp_all; done) | (exfalso; simp_all; omega))) (.d _)) (And.intro rfl rfl))))))
                            · replace h14 := notf h14
                              replace h14 := of_decide_eq_true h14
                              refine T_skip ?_
                              refine T_seq ?_
                              refine T_region hc ?_
                              refine Ch.step (v := (.d (.bool true))) rfl (.pure (.assign _ rfl rfl)) rfl rfl ?_
                              refine Ch.nil ?_
                              refine T_ret ?_
                              refine And.intro (.inr rfl) ?_
                              exact Exists.intro [(.d (.bool true))] (Exists.intro [] (Exists.intro [] (And.intro (.cons (.tmp 4 rfl) .nil) (And.intro (.cons (.any _) (.cons (.any _) .nil)) (And.intro (.d _) (And.intro rfl rfl))))))
                      | false =>
                        replace h11 := of_decide_eq_false h11
                        refine Ch.skip rfl rfl ?_
                        refine Ch.skip rfl rfl ?_
                        refine Ch.skip rfl rfl ?_
                        refine Ch.step (v := (.d (.bool true))) rfl (.pure (.pickT _ _ _ rfl rfl rfl)) rfl rfl ?_
                        refine Ch.nil ?_
                        refine T_cond (b := true) rfl (fun _ => ?_) (fun h => nomatch h)
                        refine T_seq ?_
                        refine T_region hc ?_
                        refine Ch.step (v := (.d (.bool false))) rfl (.pure (.assign _ rfl rfl)) rfl rfl ?_
                        refine Ch.nil ?_
                        refine T_ret ?_
                        refine And.intro (.inr rfl) ?_
                        exact Exists.intro [(.d (.bool false))] (Exists.intro [] (Exists.intro [] (And.intro (.cons (.tmp 4 rfl) .nil) (And.intro (.cons (.any _) (.cons (.any _) .nil)) (And.intro (Exp.of (congrArg D.bool (by first | rfl | contradiction | (exfalso; omega) | (simp_all; done) | (exfalso; simp_all; omega))) (.d _)) (And.intro rfl rfl))))))
              | false =>
                replace h7 := of_decide_eq_false h7
                refine Ch.skip rfl rfl ?_
                refine Ch.skip rfl rfl ?_
                refine Ch.skip rfl rfl ?_
                refine Ch.step (v := (.d (.bool true))) rfl (.pure (.pickT _ _ _ rfl rfl rfl)) rfl rfl ?_
                refine Ch.nil ?_
                refine T_cond (b := true) rfl (fun _ => ?_) (fun h => nomatch h)
                refine T_seq ?_
                refine T_region hc ?_
                refine Ch.step (v := (.d (.bool false))) rfl (.pure (.assign _ rfl rfl)) rfl rfl ?_
                refine Ch.nil ?_
                refine T_ret ?_
                refine And.intro (.inr rfl) ?_
                exact Exists.intro [(.d (.bool false))] (Exists.intro [] (Exists.intro [] (And.intro (.cons (.tmp 4 rfl) .nil) (And.intro (.cons (.any _) (.cons (.any _) .nil)) (And.intro (Exp.of (congrArg D.bool (by first | rfl | contradiction | (exfalso; omega) | (simp_all; done) | (exfalso; simp_all; omega))) (.d _)) (And.intro rfl rfl))))))
      | false =>
        replace h3 := of_decide_eq_false h3
        refine Ch.skip rfl rfl ?_
        refine Ch.skip rfl rfl ?_
        refine Ch.skip rfl rfl ?_
        refine Ch.step (v := (.d (.bool true))) rfl (.pure (.pickT _ _ _ rfl rfl rfl)) rfl rfl ?_
        refine Ch.nil ?_
        refine T_cond (b := true) rfl (fun _ => ?_) (fun h => nomatch h)
        refine T_seq ?_
        refine T_region hc ?_
        refine Ch.step (v := (.d (.bool false))) rfl (.pure (.assign _ rfl rfl)) rfl rfl ?_
        refine Ch.nil ?_
        refine T_ret ?_
        refine And.intro (.inr rfl) ?_
        exact Exists.intro [(.d (.bool false))] (Exists.intro [] (Exists.intro [] (And.intro (.cons (.tmp 4 rfl) .nil) (And.intro (.cons (.any _) (.cons (.any _) .nil)) (And.intro (Exp.of (congrArg D.bool (by first | rfl | contradiction | (exfalso; omega) | (simp_all; done) | (exfalso; simp_all; omega))) (.d _)) (And.intro rfl rfl))))))

end Go.AM
