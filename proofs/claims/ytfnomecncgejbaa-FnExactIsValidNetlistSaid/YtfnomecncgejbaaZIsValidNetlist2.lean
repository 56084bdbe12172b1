/-
  The contracts that the law FnExactIsValidNetlist needs.
-/
import Derived.Test.YtfnomecncgejbaaZIsValidNetlist1
namespace Go.AM
open Go.Proofs
set_option linter.unusedVariables false
set_option linter.unusedSimpArgs false

theorem sp_impl_isName (u : List UInt8) (hu : u.length ≤ 1048576) : Sp Try.prog 109 [(.str u)] [.any] (.bool (nameB u)) := by
  refine Sp_intro (lend := true) Try.func109 rfl rfl rfl (fun _ => rfl) (fun c hc hX => ?_)
  refine T_seq ?_
  refine T_region hc ?_
  refine Ch.step (v := (.d (.bool false))) rfl (.pure (.assign _ rfl rfl)) rfl rfl ?_
  refine Ch.nil ?_
  refine T_seq ?_
  refine T_seq ?_
  refine T_region hc ?_
  refine Ch.step (v := (.d (.int .i64 0))) rfl (.pure (.assign _ rfl rfl)) rfl rfl ?_
  refine Ch.nil ?_
  refine T_block ?_
  refine T_loop (ι := Nat) (fun k => { n := 45, sl := [(0, (.d (.str u))), (3, (.d (.int .i64 ((k : Nat) : Int))))], hp := [], pin := [] }) (fun k => k ≤ u.length ∧ ∀ j, j < k → nameCh (u.getD j 0) j = true) (fun k => u.length - k) ⟨0, ⟨by omega, fun j hj => by omega⟩, (Wk.of rfl rfl (And.intro rfl (And.intro (vI (by first | rfl | omega | (simp; done) | (simp; omega))) trivial)) trivial)⟩ (fun k hp0 => ?_)
  refine T_seq ?_
  refine T_seq ?_
  refine T_region hc ?_
  refine Ch.step (v := (.d (.int .i64 ((k : Nat) : Int)))) rfl (.pure (.move _ rfl rfl)) rfl rfl ?_
  refine Ch.step (v := (.d (.str u))) rfl (.pure (.move _ rfl rfl)) rfl rfl ?_
  refine Ch.step (v := (.d (.int .i64 ((u.length : Nat) : Int)))) rfl (.pure (.lenStr _ _ rfl Try.underlying9 rfl)) rfl rfl ?_
  refine Ch.step (v := (.d (.bool (decide (((k : Nat) : Int) < ((u.length : Nat) : Int)))))) rfl (.pure (.int _ _ _ _ _ rfl rfl rfl rfl)) rfl rfl ?_
  refine Ch.nil ?_
  refine T_cond (b := (decide (((k : Nat) : Int) < ((u.length : Nat) : Int)))) rfl (fun h1 => ?_) (fun h1 => ?_)
  · replace h1 := of_decide_eq_true h1
    refine T_skip ?_
    refine T_seq ?_
    refine T_block ?_
    refine T_seq ?_
    refine T_regionD hc (by kernel_rfl) ?_
    refine ChD.step (v := (.d (.str u))) [] rfl (.pure (.move _ rfl rfl)) rfl rfl ?_
    refine ChD.step (v := (.d (.int .i64 ((k : Nat) : Int)))) [] rfl (.pure (.move _ rfl rfl)) rfl rfl ?_
    refine ChD.step (v := (.d (.int .u8 ((u.getD k 0).toNat : Int)))) [] rfl (.pure (.idxStr _ _ _ (k) rfl Try.underlying9 rfl rfl rfl (get_str (by first | omega | (simp only [List.length_map, List.length_append, List.length_take, List.length_drop, List.length_cons, List.length_nil]; omega) | (simp; omega) | (simp; done))))) rfl rfl ?_
    refine ChD.step (v := (.d (.bool (decide (97 ≤ ((u.getD k 0) : UInt8)))))) [] rfl (.pure (.int _ _ _ _ _ rfl rfl rfl (u8_geq ((u.getD k 0) : UInt8) 97 rfl rfl))) rfl rfl ?_
    refine ChD.step (v := (.d (.bool (decide (97 ≤ ((u.getD k 0) : UInt8)))))) [] rfl (.pure (.move _ rfl rfl)) rfl rfl ?_
    cases h2 : (decide (97 ≤ ((u.getD k 0) : UInt8))) with
    | true =>
      replace h2 := of_decide_eq_true h2
      refine ChD.step (v := (.d (.str u))) [] rfl (.pure (.move _ rfl rfl)) rfl rfl ?_
      refine ChD.step (v := (.d (.int .i64 ((k : Nat) : Int)))) [] rfl (.pure (.move _ rfl rfl)) rfl rfl ?_
      refine ChD.step (v := (.d (.int .u8 ((u.getD k 0).toNat : Int)))) [] rfl (.pure (.idxStr _ _ _ (k) rfl Try.underlying9 rfl rfl rfl (get_str (by first | omega | (simp only [List.length_map, List.length_append, List.length_take, List.length_drop, List.length_cons, List.length_nil]; omega) | (simp; omega) | (simp; done))))) rfl rfl ?_
      refine ChD.step (v := (.d (.bool (decide (((u.getD k 0) : UInt8) ≤ 122))))) [] rfl (.pure (.int _ _ _ _ _ rfl rfl rfl (u8_leq ((u.getD k 0) : UInt8) 122 rfl rfl))) rfl rfl ?_
      refine ChD.step (v := (.d (.bool (decide (((u.getD k 0) : UInt8) ≤ 122))))) [] rfl (.pure (.pickT _ _ _ rfl rfl rfl)) rfl rfl ?_
      refine ChD.step (v := (.d (.str u))) [] rfl (.pure (.move _ rfl rfl)) rfl rfl ?_
      refine ChD.step (v := (.d (.int .i64 ((k : Nat) : Int)))) [] rfl (.pure (.move _ rfl rfl)) rfl rfl ?_
      refine ChD.step (v := (.d (.int .u8 ((u.getD k 0).toNat : Int)))) [] rfl (.pure (.idxStr _ _ _ (k) rfl Try.underlying9 rfl rfl rfl (get_str (by first | omega | (simp only [List.length_map, List.length_append, List.length_take, List.length_drop, List.length_cons, List.length_nil]; omega) | (simp; omega) | (simp; done))))) rfl rfl ?_
      refine ChD.step (v := (.d (.bool (decide (48 ≤ ((u.getD k 0) : UInt8)))))) [] rfl (.pure (.int _ _ _ _ _ rfl rfl rfl (u8_geq ((u.getD k 0) : UInt8) 48 rfl rfl))) rfl rfl ?_
      refine ChD.step (v := (.d (.bool (decide (48 ≤ ((u.getD k 0) : UInt8)))))) [] rfl (.pure (.move _ rfl rfl)) rfl rfl ?_
      cases h3 : (decide (48 ≤ ((u.getD k 0) : UInt8))) with
      | true =>
        replace h3 := of_decide_eq_true h3
        refine ChD.step (v := (.d (.str u))) [] rfl (.pure (.move _ rfl rfl)) rfl rfl ?_
        refine ChD.step (v := (.d (.int .i64 ((k : Nat) : Int)))) [] rfl (.pure (.move _ rfl rfl)) rfl rfl ?_
        refine ChD.step (v := (.d (.int .u8 ((u.getD k 0).toNat : Int)))) [] rfl (.pure (.idxStr _ _ _ (k) rfl Try.underlying9 rfl rfl rfl (get_str (by first | omega | (simp only [List.length_map, List.length_append, List.length_take, List.length_drop, List.length_cons, List.length_nil]; omega) | (simp; omega) | (simp; done))))) rfl rfl ?_
        refine ChD.step (v := (.d (.bool (decide (((u.getD k 0) : UInt8) ≤ 57))))) [] rfl (.pure (.int _ _ _ _ _ rfl rfl rfl (u8_leq ((u.getD k 0) : UInt8) 57 rfl rfl))) rfl rfl ?_
        refine ChD.step (v := (.d (.bool (decide (((u.getD k 0) : UInt8) ≤ 57))))) [] rfl (.pure (.pickT _ _ _ rfl rfl rfl)) rfl rfl ?_
        refine ChD.step (v := (.d (.bool (decide (((u.getD k 0) : UInt8) ≤ 122))))) [] rfl (.pure (.assign _ rfl rfl)) rfl rfl ?_
        refine ChD.step (v := (.d (.bool (decide (((u.getD k 0) : UInt8) ≤ 57))))) [] rfl (.pure (.assign _ rfl rfl)) rfl rfl ?_
        refine ChD.nil (And.intro ?_ (by kernel_rfl))
        refine T_seq ?_
        refine T_region hc ?_
        refine Ch.step (v := (.d (.bool (decide (((u.getD k 0) : UInt8) ≤ 122))))) rfl (.pure (.move _ rfl rfl)) rfl rfl ?_
        refine Ch.step (v := (.d (.bool (!(decide (((u.getD k 0) : UInt8) ≤ 122)))))) rfl (.pure (.not _ _ rfl rfl)) rfl rfl ?_
        refine Ch.step (v := (.d (.bool (!(decide (((u.getD k 0) : UInt8) ≤ 122)))))) rfl (.pure (.move _ rfl rfl)) rfl rfl ?_
        cases h4 : (decide (((u.getD k 0) : UInt8) ≤ 122)) with
        | true =>
          replace h4 := of_decide_eq_true h4
          refine Ch.skip rfl rfl ?_
          refine Ch.skip rfl rfl ?_
          refine Ch.skip rfl rfl ?_
          refine Ch.skip rfl rfl ?_
          refine Ch.skip rfl rfl ?_
          refine Ch.skip rfl rfl ?_
          refine Ch.step (v := (.d (.bool false))) rfl (.pure (.pickF _ _ _ rfl rfl rfl)) rfl rfl ?_
          refine Ch.nil ?_
          refine T_cond (b := false) rfl (fun h => nomatch h) (fun _ => ?_)
          refine T_skip ?_
          refine T_region hc ?_
          refine Ch.step (v := (.d (.int .i64 ((k : Nat) : Int)))) rfl (.pure (.move _ rfl rfl)) rfl rfl ?_
          refine Ch.step (v := (.d (.int .i64 (((k : Nat) : Int) + 1)))) rfl (.pure (.int _ _ _ _ _ rfl rfl rfl (intV_add (by first | omega | (simp only [List.length_map, List.length_append, List.length_take, List.length_drop, List.length_cons, List.length_nil]; omega) | (simp; omega) | (simp; done)) (by first | omega | (simp only [List.length_map, List.length_append, List.length_take, List.length_drop, List.length_cons, List.length_nil]; omega) | (simp; omega) | (simp; done))))) rfl rfl ?_
          refine Ch.step (v := (.d (.int .i64 (((k : Nat) : Int) + 1)))) rfl (.pure (.assign _ rfl rfl)) rfl rfl ?_
          refine Ch.nil ?_
          refine Exists.intro (k + 1) (And.intro ⟨by omega, upto_succ hp0.2 (by first | (rw [nameCh, letB, digB]; simp only [*, decide_true, decide_false, Bool.and_true, Bool.true_and, Bool.and_false, Bool.false_and, Bool.or_false, Bool.false_or, Bool.or_true, Bool.true_or, Bool.not_true, Bool.not_false, not_false_eq_true]; done) | (rw [nameCh, letB, digB_n]; simp only [*, decide_true, decide_false, Bool.and_true, Bool.true_and, Bool.and_false, Bool.false_and, Bool.or_false, Bool.false_or, Bool.or_true, Bool.true_or, Bool.not_true, Bool.not_false, not_false_eq_true]; done))⟩ (And.intro (by first | omega | (dsimp only; omega)) (Wk.of rfl rfl (And.intro rfl (And.intro (vI (by first | rfl | omega | (simp; done) | (simp; omega))) trivial)) trivial)))
        | false =>
          replace h4 := of_decide_eq_false h4
          refine Ch.step (v := (.d (.bool (decide (((u.getD k 0) : UInt8) ≤ 57))))) rfl (.pure (.move _ rfl rfl)) rfl rfl ?_
          refine Ch.step (v := (.d (.bool (!(decide (((u.getD k 0) : UInt8) ≤ 57)))))) rfl (.pure (.not _ _ rfl rfl)) rfl rfl ?_
          refine Ch.step (v := (.d (.bool (!(decide (((u.getD k 0) : UInt8) ≤ 57)))))) rfl (.pure (.move _ rfl rfl)) rfl rfl ?_
          cases h5 : (decide (((u.getD k 0) : UInt8) ≤ 57)) with
          | true =>
            replace h5 := of_decide_eq_true h5
            refine Ch.step (v := (.d (.int .i64 ((k : Nat) : Int)))) rfl (.pure (.move _ rfl rfl)) rfl rfl ?_
            refine Ch.step (v := (.d (.bool (decide (((k : Nat) : Int) = 0))))) rfl (.pure (.int _ _ _ _ _ rfl rfl rfl rfl)) rfl rfl ?_
            refine Ch.step (v := (.d (.bool (decide (((k : Nat) : Int) = 0))))) rfl (.pure (.pickF _ _ _ rfl rfl rfl)) rfl rfl ?_
            refine Ch.step (v := (.d (.bool (decide (((k : Nat) : Int) = 0))))) rfl (.pure (.pickT _ _ _ rfl rfl rfl)) rfl rfl ?_
            refine Ch.nil ?_
            refine T_cond (b := (decide (((k : Nat) : Int) = 0))) rfl (fun h6 => ?_) (fun h6 => ?_)
            · replace h6 := of_decide_eq_true h6
              refine T_seq ?_
              refine T_region hc ?_
              refine Ch.step (v := (.d (.bool false))) rfl (.pure (.assign _ rfl rfl)) rfl rfl ?_
              refine Ch.nil ?_
              refine T_ret ?_
              refine And.intro (.inr rfl) ?_
              exact Exists.intro [(.d (.bool false))] (Exists.intro [] (Exists.intro [] (And.intro (.cons (.tmp 2 rfl) .nil) (And.intro (.cons (.any _) .nil) (And.intro (Exp.of (congrArg D.bool (by first | (rw [nameB, allB_no k (by omega) (by first | (rw [nameCh, letB, digB]; simp only [*, decide_true, decide_false, Bool.and_true, Bool.true_and, Bool.and_false, Bool.false_and, Bool.or_false, Bool.false_or, Bool.or_true, Bool.true_or, Bool.not_true, Bool.not_false, not_false_eq_true]; done) | (rw [nameCh, letB, digB_n]; simp only [*, decide_true, decide_false, Bool.and_true, Bool.true_and, Bool.and_false, Bool.false_and, Bool.or_false, Bool.false_or, Bool.or_true, Bool.true_or, Bool.not_true, Bool.not_false, not_false_eq_true]; done))]; rfl) | (rw [nameB, allB_of (fun j hj => hp0.2 j (by omega)), Bool.true_and]; done))) (.d _)) (And.intro rfl rfl))))))
            · replace h6 := of_decide_eq_false h6
              refine T_skip ?_
              refine T_region hc ?_
              refine Ch.step (v := (.d (.int .i64 ((k : Nat) : Int)))) rfl (.pure (.move _ rfl rfl)) rfl rfl ?_
              refine Ch.step (v := (.d (.int .i64 (((k : Nat) : Int) + 1)))) rfl (.pure (.int _ _ _ _ _ rfl rfl rfl (intV_add (by first | omega | (simp only [List.length_map, List.length_append, List.length_take, List.length_drop, List.length_cons, List.length_nil]; omega) | (simp; omega) | (simp; done)) (by first | omega | (simp only [List.length_map, List.length_append, List.length_take, List.length_drop, List.length_cons, List.length_nil]; omega) | (simp; omega) | (simp; done))))) rfl rfl ?_
              refine Ch.step (v := (.d (.int .i64 (((k : Nat) : Int) + 1)))) rfl (.pure (.assign _ rfl rfl)) rfl rfl ?_
              refine Ch.nil ?_
              refine Exists.intro (k + 1) (And.intro ⟨by omega, upto_succ hp0.2 (by first | (rw [nameCh, letB, digB]; simp only [*, decide_true, decide_false, Bool.and_true, Bool.true_and, Bool.and_false, Bool.false_and, Bool.or_false, Bool.false_or, Bool.or_true, Bool.true_or, Bool.not_true, Bool.not_false, not_false_eq_true]; done) | (rw [nameCh, letB, digB_n]; simp only [*, decide_true, decide_false, Bool.and_true, Bool.true_and, Bool.and_false, Bool.false_and, Bool.or_false, Bool.false_or, Bool.or_true, Bool.true_or, Bool.not_true, Bool.not_false, not_false_eq_true]; done))⟩ (And.intro (by first | omega | (dsimp only; omega)) (Wk.of rfl rfl (And.intro rfl (And.intro (vI (by first | rfl | omega | (simp; done) | (simp; omega))) trivial)) trivial)))
          | false =>
            replace h5 := of_decide_eq_false h5
            refine Ch.skip rfl rfl ?_
            refine Ch.skip rfl rfl ?_
            refine Ch.step (v := (.d (.bool true))) rfl (.pure (.pickT _ _ _ rfl rfl rfl)) rfl rfl ?_
            refine Ch.step (v := (.d (.bool true))) rfl (.pure (.pickT _ _ _ rfl rfl rfl)) rfl rfl ?_
            refine Ch.nil ?_
            refine T_cond (b := true) rfl (fun _ => ?_) (fun h => nomatch h)
            refine T_seq ?_
            refine T_region hc ?_
            refine Ch.step (v := (.d (.bool false))) rfl (.pure (.assign _ rfl rfl)) rfl rfl ?_
            refine Ch.nil ?_
            refine T_ret ?_
            refine And.intro (.inr rfl) ?_
            exact Exists.intro [(.d (.bool false))] (Exists.intro [] (Exists.intro [] (And.intro (.cons (.tmp 2 rfl) .nil) (And.intro (.cons (.any _) .nil) (And.intro (Exp.of (congrArg D.bool (by first | (rw [nameB, allB_no k (by omega) (by first | (rw [nameCh, letB, digB]; simp only [*, decide_true, decide_false, Bool.and_true, Bool.true_and, Bool.and_false, Bool.false_and, Bool.or_false, Bool.false_or, Bool.or_true, Bool.true_or, Bool.not_true, Bool.not_false, not_false_eq_true]; done) | (rw [nameCh, letB, digB_n]; simp only [*, decide_true, decide_false, Bool.and_true, Bool.true_and, Bool.and_false, Bool.false_and, Bool.or_false, Bool.false_or, Bool.or_true, Bool.true_or, Bool.not_true, Bool.not_false, not_false_eq_true]; done))]; rfl) | (rw [nameB, allB_of (fun j hj => hp0.2 j (by omega)), Bool.true_and]; done))) (.d _)) (And.intro rfl rfl))))))
      | false =>
        replace h3 := of_decide_eq_false h3
        refine ChD.skip rfl rfl ?_
        refine ChD.skip rfl rfl ?_
        refine ChD.skip rfl rfl ?_
        refine ChD.skip rfl rfl ?_
        refine ChD.step (v := (.d (.bool false))) [] rfl (.pure (.pickF _ _ _ rfl rfl rfl)) rfl rfl ?_
        refine ChD.step (v := (.d (.bool (decide (((u.getD k 0) : UInt8) ≤ 122))))) [] rfl (.pure (.assign _ rfl rfl)) rfl rfl ?_
        refine ChD.step (v := (.d (.bool false))) [] rfl (.pure (.assign _ rfl rfl)) rfl rfl ?_
        refine ChD.nil (And.intro ?_ (by kernel_rfl))
        refine T_seq ?_
        refine T_region hc ?_
        refine Ch.step (v := (.d (.bool (decide (((u.getD k 0) : UInt8) ≤ 122))))) rfl (.pure (.move _ rfl rfl)) rfl rfl ?_
        refine Ch.step (v := (.d (.bool (!(decide (((u.getD k 0) : UInt8) ≤ 122)))))) rfl (.pure (.not _ _ rfl rfl)) rfl rfl ?_
        refine Ch.step (v := (.d (.bool (!(decide (((u.getD k 0) : UInt8) ≤ 122)))))) rfl (.pure (.move _ rfl rfl)) rfl rfl ?_
        cases h7 : (decide (((u.getD k 0) : UInt8) ≤ 122)) with
        | true =>
          replace h7 := of_decide_eq_true h7
          refine Ch.skip rfl rfl ?_
          refine Ch.skip rfl rfl ?_
          refine Ch.skip rfl rfl ?_
          refine Ch.skip rfl rfl ?_
          refine Ch.skip rfl rfl ?_
          refine Ch.skip rfl rfl ?_
          refine Ch.step (v := (.d (.bool false))) rfl (.pure (.pickF _ _ _ rfl rfl rfl)) rfl rfl ?_
          refine Ch.nil ?_
          refine T_cond (b := false) rfl (fun h => nomatch h) (fun _ => ?_)
          refine T_skip ?_
          refine T_region hc ?_
          refine Ch.step (v := (.d (.int .i64 ((k : Nat) : Int)))) rfl (.pure (.move _ rfl rfl)) rfl rfl ?_
          refine Ch.step (v := (.d (.int .i64 (((k : Nat) : Int) + 1)))) rfl (.pure (.int _ _ _ _ _ rfl rfl rfl (intV_add (by first | omega | (simp only [List.length_map, List.length_append, List.length_take, List.length_drop, List.length_cons, List.length_nil]; omega) | (simp; omega) | (simp; done)) (by first | omega | (simp only [List.length_map, List.length_append, List.length_take, List.length_drop, List.length_cons, List.length_nil]; omega) | (simp; omega) | (simp; done))))) rfl rfl ?_
          refine Ch.step (v := (.d (.int .i64 (((k : Nat) : Int) + 1)))) rfl (.pure (.assign _ rfl rfl)) rfl rfl ?_
          refine Ch.nil ?_
          refine Exists.intro (k + 1) (And.intro ⟨by omega, upto_succ hp0.2 (by first | (rw [nameCh, letB, digB]; simp only [*, decide_true, decide_false, Bool.and_true, Bool.true_and, Bool.and_false, Bool.false_and, Bool.or_false, Bool.false_or, Bool.or_true, Bool.true_or, Bool.not_true, Bool.not_false, not_false_eq_true]; done) | (rw [nameCh, letB, digB_n]; simp only [*, decide_true, decide_false, Bool.and_true, Bool.true_and, Bool.and_false, Bool.false_and, Bool.or_false, Bool.false_or, Bool.or_true, Bool.true_or, Bool.not_true, Bool.not_false, not_false_eq_true]; done))⟩ (And.intro (by first | omega | (dsimp only; omega)) (Wk.of rfl rfl (And.intro rfl (And.intro (vI (by first | rfl | omega | (simp; done) | (simp; omega))) trivial)) trivial)))
        | false =>
          replace h7 := of_decide_eq_false h7
          refine Ch.step (v := (.d (.bool false))) rfl (.pure (.move _ rfl rfl)) rfl rfl ?_
          refine Ch.step (v := (.d (.bool true))) rfl (.pure (.not (b := false) _ _ rfl rfl)) rfl rfl ?_
          refine Ch.step (v := (.d (.bool true))) rfl (.pure (.move _ rfl rfl)) rfl rfl ?_
          refine Ch.skip rfl rfl ?_
          refine Ch.skip rfl rfl ?_
          refine Ch.step (v := (.d (.bool true))) rfl (.pure (.pickT _ _ _ rfl rfl rfl)) rfl rfl ?_
          refine Ch.step (v := (.d (.bool true))) rfl (.pure (.pickT _ _ _ rfl rfl rfl)) rfl rfl ?_
          refine Ch.nil ?_
          refine T_cond (b := true) rfl (fun _ => ?_) (fun h => nomatch h)
          refine T_seq ?_
          refine T_region hc ?_
          refine Ch.step (v := (.d (.bool false))) rfl (.pure (.assign _ rfl rfl)) rfl rfl ?_
          refine Ch.nil ?_
          refine T_ret ?_
          refine And.intro (.inr rfl) ?_
          exact Exists.intro [(.d (.bool false))] (Exists.intro [] (Exists.intro [] (And.intro (.cons (.tmp 2 rfl) .nil) (And.intro (.cons (.any _) .nil) (And.intro (Exp.of (congrArg D.bool (by first | (rw [nameB, allB_no k (by omega) (by first | (rw [nameCh, letB, digB]; simp only [*, decide_true, decide_false, Bool.and_true, Bool.true_and, Bool.and_false, Bool.false_and, Bool.or_false, Bool.false_or, Bool.or_true, Bool.true_or, Bool.not_true, Bool.not_false, not_false_eq_true]; done) | (rw [nameCh, letB, digB_n]; simp only [*, decide_true, decide_false, Bool.and_true, Bool.true_and, Bool.and_false, Bool.false_and, Bool.or_false, Bool.false_or, Bool.or_true, Bool.true_or, Bool.not_true, Bool.not_false, not_false_eq_true]; done))]; rfl) | (rw [nameB, allB_of (fun j hj => hp0.2 j (by omega)), Bool.true_and]; done))) (.d _)) (And.intro rfl rfl))))))
    | false =>
      replace h2 := of_decide_eq_false h2
      refine ChD.skip rfl rfl ?_
      refine ChD.skip rfl rfl ?_
      refine ChD.skip rfl rfl ?_
      refine ChD.skip rfl rfl ?_
      refine ChD.step (v := (.d (.bool false))) [] rfl (.pure (.pickF _ _ _ rfl rfl rfl)) rfl rfl ?_
      refine ChD.step (v := (.d (.str u))) [] rfl (.pure (.move _ rfl rfl)) rfl rfl ?_
      refine ChD.step (v := (.d (.int .i64 ((k : Nat) : Int)))) [] rfl (.pure (.move _ rfl rfl)) rfl rfl ?_
      refine ChD.step (v := (.d (.int .u8 ((u.getD k 0).toNat : Int)))) [] rfl (.pure (.idxStr _ _ _ (k) rfl Try.underlying9 rfl rfl rfl (get_str (by first | omega | (simp only [List.length_map, List.length_append, List.length_take, List.length_drop, List.length_cons, List.length_nil]; omega) | (simp; omega) | (simp; done))))) rfl rfl ?_
      refine ChD.step (v := (.d (.bool (decide (48 ≤ ((u.getD k 0) : UInt8)))))) [] rfl (.pure (.int _ _ _ _ _ rfl rfl rfl (u8_geq ((u.getD k 0) : UInt8) 48 rfl rfl))) rfl rfl ?_
      refine ChD.step (v := (.d (.bool (decide (48 ≤ ((u.getD k 0) : UInt8)))))) [] rfl (.pure (.move _ rfl rfl)) rfl rfl ?_
      cases h8 : (decide (48 ≤ ((u.getD k 0) : UInt8))) with
      | true =>
        replace h8 := of_decide_eq_true h8
        refine ChD.step (v := (.d (.str u))) [] rfl (.pure (.move _ rfl rfl)) rfl rfl ?_
        refine ChD.step (v := (.d (.int .i64 ((k : Nat) : Int)))) [] rfl (.pure (.move _ rfl rfl)) rfl rfl ?_
        refine ChD.step (v := (.d (.int .u8 ((u.getD k 0).toNat : Int)))) [] rfl (.pure (.idxStr _ _ _ (k) rfl Try.underlying9 rfl rfl rfl (get_str (by first | omega | (simp only [List.length_map, List.length_append, List.length_take, List.length_drop, List.length_cons, List.length_nil]; omega) | (simp; omega) | (simp; done))))) rfl rfl ?_
        refine ChD.step (v := (.d (.bool (decide (((u.getD k 0) : UInt8) ≤ 57))))) [] rfl (.pure (.int _ _ _ _ _ rfl rfl rfl (u8_leq ((u.getD k 0) : UInt8) 57 rfl rfl))) rfl rfl ?_
        refine ChD.step (v := (.d (.bool (decide (((u.getD k 0) : UInt8) ≤ 57))))) [] rfl (.pure (.pickT _ _ _ rfl rfl rfl)) rfl rfl ?_
        refine ChD.step (v := (.d (.bool false))) [] rfl (.pure (.assign _ rfl rfl)) rfl rfl ?_
        refine ChD.step (v := (.d (.bool (decide (((u.getD k 0) : UInt8) ≤ 57))))) [] rfl (.pure (.assign _ rfl rfl)) rfl rfl ?_
        refine ChD.nil (And.intro ?_ (by kernel_rfl))
        refine T_seq ?_
        refine T_region hc ?_
        refine Ch.step (v := (.d (.bool false))) rfl (.pure (.move _ rfl rfl)) rfl rfl ?_
        refine Ch.step (v := (.d (.bool true))) rfl (.pure (.not (b := false) _ _ rfl rfl)) rfl rfl ?_
        refine Ch.step (v := (.d (.bool true))) rfl (.pure (.move _ rfl rfl)) rfl rfl ?_
        refine Ch.step (v := (.d (.bool (decide (((u.getD k 0) : UInt8) ≤ 57))))) rfl (.pure (.move _ rfl rfl)) rfl rfl ?_
        refine Ch.step (v := (.d (.bool (!(decide (((u.getD k 0) : UInt8) ≤ 57)))))) rfl (.pure (.not _ _ rfl rfl)) rfl rfl ?_
        refine Ch.step (v := (.d (.bool (!(decide (((u.getD k 0) : UInt8) ≤ 57)))))) rfl (.pure (.move _ rfl rfl)) rfl rfl ?_
        cases h9 : (decide (((u.getD k 0) : UInt8) ≤ 57)) with
        | true =>
          replace h9 := of_decide_eq_true h9
          refine Ch.step (v := (.d (.int .i64 ((k : Nat) : Int)))) rfl (.pure (.move _ rfl rfl)) rfl rfl ?_
          refine Ch.step (v := (.d (.bool (decide (((k : Nat) : Int) = 0))))) rfl (.pure (.int _ _ _ _ _ rfl rfl rfl rfl)) rfl rfl ?_
          refine Ch.step (v := (.d (.bool (decide (((k : Nat) : Int) = 0))))) rfl (.pure (.pickF _ _ _ rfl rfl rfl)) rfl rfl ?_
          refine Ch.step (v := (.d (.bool (decide (((k : Nat) : Int) = 0))))) rfl (.pure (.pickT _ _ _ rfl rfl rfl)) rfl rfl ?_
          refine Ch.nil ?_
          refine T_cond (b := (decide (((k : Nat) : Int) = 0))) rfl (fun h10 => ?_) (fun h10 => ?_)
          · replace h10 := of_decide_eq_true h10
            refine T_seq ?_
            refine T_region hc ?_
            refine Ch.step (v := (.d (.bool false))) rfl (.pure (.assign _ rfl rfl)) rfl rfl ?_
            refine Ch.nil ?_
            refine T_ret ?_
            refine And.intro (.inr rfl) ?_
            exact Exists.intro [(.d (.bool false))] (Exists.intro [] (Exists.intro [] (And.intro (.cons (.tmp 2 rfl) .nil) (And.intro (.cons (.any _) .nil) (And.intro (Exp.of (congrArg D.bool (by first | (rw [nameB, allB_no k (by omega) (by first | (rw [nameCh, letB, digB]; simp only [*, decide_true, decide_false, Bool.and_true, Bool.true_and, Bool.and_false, Bool.false_and, Bool.or_false, Bool.false_or, Bool.or_true, Bool.true_or, Bool.not_true, Bool.not_false, not_false_eq_true]; done) | (rw [nameCh, letB, digB_n]; simp only [*, decide_true, decide_false, Bool.and_true, Bool.true_and, Bool.and_false, Bool.false_and, Bool.or_false, Bool.false_or, Bool.or_true, Bool.true_or, Bool.not_true, Bool.not_false, not_false_eq_true]; done))]; rfl) | (rw [nameB, allB_of (fun j hj => hp0.2 j (by omega)), Bool.true_and]; done))) (.d _)) (And.intro rfl rfl))))))
          · replace h10 := of_decide_eq_false h10
            refine T_skip ?_
            refine T_region hc ?_
            refine Ch.step (v := (.d (.int .i64 ((k : Nat) : Int)))) rfl (.pure (.move _ rfl rfl)) rfl rfl ?_
            refine Ch.step (v := (.d (.int .i64 (((k : Nat) : Int) + 1)))) rfl (.pure (.int _ _ _ _ _ rfl rfl rfl (intV_add (by first | omega | (simp only [List.length_map, List.length_append, List.length_take, List.length_drop, List.length_cons, List.length_nil]; omega) | (simp; omega) | (simp; done)) (by first | omega | (simp only [List.length_map, List.length_append, List.length_take, List.length_drop, List.length_cons, List.length_nil]; omega) | (simp; omega) | (simp; done))))) rfl rfl ?_
            refine Ch.step (v := (.d (.int .i64 (((k : Nat) : Int) + 1)))) rfl (.pure (.assign _ rfl rfl)) rfl rfl ?_
            refine Ch.nil ?_
            refine Exists.intro (k + 1) (And.intro ⟨by omega, upto_succ hp0.2 (by first | (rw [nameCh, letB, digB]; simp only [*, decide_true, decide_false, Bool.and_true, Bool.true_and, Bool.and_false, Bool.false_and, Bool.or_false, Bool.false_or, Bool.or_true, Bool.true_or, Bool.not_true, Bool.not_false, not_false_eq_true]; done) | (rw [nameCh, letB, digB_n]; simp only [*, decide_true, decide_false, Bool.and_true, Bool.true_and, Bool.and_false, Bool.false_and, Bool.or_false, Bool.false_or, Bool.or_true, Bool.true_or, Bool.not_true, Bool.not_false, not_false_eq_true]; done))⟩ (And.intro (by first | omega | (dsimp only; omega)) (Wk.of rfl rfl (And.intro rfl (And.intro (vI (by first | rfl | omega | (simp; done) | (simp; omega))) trivial)) trivial)))
        | false =>
          replace h9 := of_decide_eq_false h9
          refine Ch.skip rfl rfl ?_
          refine Ch.skip rfl rfl ?_
          refine Ch.step (v := (.d (.bool true))) rfl (.pure (.pickT _ _ _ rfl rfl rfl)) rfl rfl ?_
          refine Ch.step (v := (.d (.bool true))) rfl (.pure (.pickT _ _ _ rfl rfl rfl)) rfl rfl ?_
          refine Ch.nil ?_
          refine T_cond (b := true) rfl (fun _ => ?_) (fun h => nomatch h)
          refine T_seq ?_
          refine T_region hc ?_
          refine Ch.step (v := (.d (.bool false))) rfl (.pure (.assign _ rfl rfl)) rfl rfl ?_
          refine Ch.nil ?_
          refine T_ret ?_
          refine And.intro (.inr rfl) ?_
          exact Exists.intro [(.d (.bool false))] (Exists.intro [] (Exists.intro [] (And.intro (.cons (.tmp 2 rfl) .nil) (And.intro (.cons (.any _) .nil) (And.intro (Exp.of (congrArg D.bool (by first | (rw [nameB, allB_no k (by omega) (by first | (rw [nameCh, letB, digB]; simp only [*, decide_true, decide_false, Bool.and_true, Bool.true_and, Bool.and_false, Bool.false_and, Bool.or_false, Bool.false_or, Bool.or_true, Bool.true_or, Bool.not_true, Bool.not_false, not_false_eq_true]; done) | (rw [nameCh, letB, digB_n]; simp only [*, decide_true, decide_false, Bool.and_true, Bool.true_and, Bool.and_false, Bool.false_and, Bool.or_false, Bool.false_or, Bool.or_true, Bool.true_or, Bool.not_true, Bool.not_false, not_false_eq_true]; done))]; rfl) | (rw [nameB, allB_of (fun j hj => hp0.2 j (by omega)), Bool.true_and]; done))) (.d _)) (And.intro rfl rfl))))))
      | false =>
        replace h8 := of_decide_eq_false h8
        refine ChD.skip rfl rfl ?_
        refine ChD.skip rfl rfl ?_
        refine ChD.skip rfl rfl ?_
        refine ChD.skip rfl rfl ?_
        refine ChD.step (v := (.d (.bool false))) [] rfl (.pure (.pickF _ _ _ rfl rfl rfl)) rfl rfl ?_
        refine ChD.step (v := (.d (.bool false))) [] rfl (.pure (.assign _ rfl rfl)) rfl rfl ?_
        refine ChD.step (v := (.d (.bool false))) [] rfl (.pure (.assign _ rfl rfl)) rfl rfl ?_
        refine ChD.nil (And.intro ?_ (by kernel_rfl))
        refine T_seq ?_
        refine T_region hc ?_
        refine Ch.step (v := (.d (.bool false))) rfl (.pure (.move _ rfl rfl)) rfl rfl ?_
        refine Ch.step (v := (.d (.bool true))) rfl (.pure (.not (b := false) _ _ rfl rfl)) rfl rfl ?_
        refine Ch.step (v := (.d (.bool true))) rfl (.pure (.move _ rfl rfl)) rfl rfl ?_
        refine Ch.step (v := (.d (.bool false))) rfl (.pure (.move _ rfl rfl)) rfl rfl ?_
        refine Ch.step (v := (.d (.bool true))) rfl (.pure (.not (b := false) _ _ rfl rfl)) rfl rfl ?_
        refine Ch.step (v := (.d (.bool true))) rfl (.pure (.move _ rfl rfl)) rfl rfl ?_
        refine Ch.skip rfl rfl ?_
        refine Ch.skip rfl rfl ?_
        refine Ch.step (v := (.d (.bool true))) rfl (.pure (.pickT _ _ _ rfl rfl rfl)) rfl rfl ?_
        refine Ch.step (v := (.d (.bool true))) rfl (.pure (.pickT _ _ _ rfl rfl rfl)) rfl rfl ?_
        refine Ch.nil ?_
        refine T_cond (b := true) rfl (fun _ => ?_) (fun h => nomatch h)
        refine T_seq ?_
        refine T_region hc ?_
        refine Ch.step (v := (.d (.bool false))) rfl (.pure (.assign _ rfl rfl)) rfl rfl ?_
        refine Ch.nil ?_
        refine T_ret ?_
        refine And.intro (.inr rfl) ?_
        exact Exists.intro [(.d (.bool false))] (Exists.intro [] (Exists.intro [] (And.intro (.cons (.tmp 2 rfl) .nil) (And.intro (.cons (.any _) .nil) (And.intro (Exp.of (congrArg D.bool (by first | (rw [nameB, allB_no k (by omega) (by first | (rw [nameCh, letB, digB]; simp only [*, decide_true, decide_false, Bool.and_true, Bool.true_and, Bool.and_false, Bool.false_and, Bool.or_false, Bool.false_or, Bool.or_true, Bool.true_or, Bool.not_true, Bool.not_false, not_false_eq_true]; done) | (rw [nameCh, letB, digB_n]; simp only [*, decide_true, decide_false, Bool.and_true, Bool.true_and, Bool.and_false, Bool.false_and, Bool.or_false, Bool.false_or, Bool.or_true, Bool.true_or, Bool.not_true, Bool.not_false, not_false_eq_true]; done))]; rfl) | (rw [nameB, allB_of (fun j hj => hp0.2 j (by omega)), Bool.true_and]; done))) (.d _)) (And.intro rfl rfl))))))
  · replace h1 := of_decide_eq_false h1
    refine T_exit ?_
    refine T_seq ?_
    refine T_region hc ?_
    refine Ch.step (v := (.d (.str u))) rfl (.pure (.move _ rfl rfl)) rfl rfl ?_
    refine Ch.step (v := (.d (.int .i64 ((u.length : Nat) : Int)))) rfl (.pure (.lenStr _ _ rfl Try.underlying9 rfl)) rfl rfl ?_
    refine Ch.step (v := (.d (.bool (withinB ((u.length : Nat) : Int) 1 6)))) rfl (.call 44000 98 _ _ _ en98 rfl (.inl rfl) (.cons (.d _) (.cons (.d _) (.cons (.d _) .nil))) rfl rfl (sp_impl_within ((u.length : Nat) : Int) 1 6) (.skip _ _ (.skip _ _ (.skip _ _ .nil))) rfl) rfl rfl ?_
    refine Ch.step (v := (.d (.bool (withinB ((u.length : Nat) : Int) 1 6)))) rfl (.pure (.assign _ rfl rfl)) rfl rfl ?_
    refine Ch.nil ?_
    refine T_ret ?_
    refine And.intro (.inr rfl) ?_
    exact Exists.intro [(.d (.bool (withinB ((u.length : Nat) : Int) 1 6)))] (Exists.intro [] (Exists.intro [] (And.intro (.cons (.tmp 2 rfl) .nil) (And.intro (.cons (.any _) .nil) (And.intro (Exp.of (congrArg D.bool (by first | (rw [nameB, allB_no k (by omega) (by first | (rw [nameCh, letB, digB]; simp only [*, decide_true, decide_false, Bool.and_true, Bool.true_and, Bool.and_false, Bool.false_and, Bool.or_false, Bool.false_or, Bool.or_true, Bool.true_or, Bool.not_true, Bool.not_false, not_false_eq_true]; done) | (rw [nameCh, letB, digB_n]; simp only [*, decide_true, decide_false, Bool.and_true, Bool.true_and, Bool.and_false, Bool.false_and, Bool.or_false, Bool.false_or, Bool.or_true, Bool.true_or, Bool.not_true, Bool.not_false, not_false_eq_true]; done))]; rfl) | (rw [nameB, allB_of (fun j hj => hp0.2 j (by omega)), Bool.true_and]; done))) (.d _)) (And.intro rfl rfl))))))

theorem sp_spec_l2Name (u : List UInt8) (hu : u.length ≤ 1048576) : Sp Try.prog 135 [(.str u)] [.any] (.bool (nameB u)) := by
  refine Sp_intro (lend := true) Try.func135 rfl rfl rfl (fun _ => rfl) (fun c hc hX => ?_)
  refine T_seq ?_
  refine T_region hc ?_
  refine Ch.step (v := (.d (.bool false))) rfl (.pure (.assign _ rfl rfl)) rfl rfl ?_
  refine Ch.nil ?_
  refine T_seq ?_
  refine T_seq ?_
  refine T_region hc ?_
  refine Ch.step (v := (.d (.int .i64 0))) rfl (.pure (.assign _ rfl rfl)) rfl rfl ?_
  refine Ch.nil ?_
  refine T_block ?_
  refine T_loop (ι := Nat) (fun k => { n := 42, sl := [(0, (.d (.str u))), (3, (.d (.int .i64 ((k : Nat) : Int))))], hp := [], pin := [] }) (fun k => k ≤ u.length ∧ ∀ j, j < k → nameCh (u.getD j 0) j = true) (fun k => u.length - k) ⟨0, ⟨by omega, fun j hj => by omega⟩, (Wk.of rfl rfl (And.intro rfl (And.intro (vI (by first | rfl | omega | (simp; done) | (simp; omega))) trivial)) trivial)⟩ (fun k hp0 => ?_)
  refine T_seq ?_
  refine T_seq ?_
  refine T_region hc ?_
  refine Ch.step (v := (.d (.int .i64 ((k : Nat) : Int)))) rfl (.pure (.move _ rfl rfl)) rfl rfl ?_
  refine Ch.step (v := (.d (.str u))) rfl (.pure (.move _ rfl rfl)) rfl rfl ?_
  refine Ch.step (v := (.d (.int .i64 ((u.length : Nat) : Int)))) rfl (.pure (.lenStr _ _ rfl Try.underlying9 rfl)) rfl rfl ?_
  refine Ch.step (v := (.d (.bool (decide (((k : Nat) : Int) < ((u.length : Nat) : Int)))))) rfl (.pure (.int _ _ _ _ _ rfl rfl rfl rfl)) rfl rfl ?_
  refine Ch.nil ?_
  refine T_cond (b := (decide (((k : Nat) : Int) < ((u.length : Nat) : Int)))) rfl (fun h1 => ?_) (fun h1 => ?_)
  · replace h1 := of_decide_eq_true h1
    refine T_skip ?_
    refine T_seq ?_
    refine T_block ?_
    refine T_seq ?_
    refine T_region hc ?_
    refine Ch.step (v := (.d (.str u))) rfl (.pure (.move _ rfl rfl)) rfl rfl ?_
    refine Ch.step (v := (.d (.int .i64 ((k : Nat) : Int)))) rfl (.pure (.move _ rfl rfl)) rfl rfl ?_
    refine Ch.step (v := (.d (.int .u8 ((u.getD k 0).toNat : Int)))) rfl (.pure (.idxStr _ _ _ (k) rfl Try.underlying9 rfl rfl rfl (get_str (by first | omega | (simp only [List.length_map, List.length_append, List.length_take, List.length_drop, List.length_cons, List.length_nil]; omega) | (simp; omega) | (simp; done))))) rfl rfl ?_
    refine Ch.step (v := (.d (.bool (decide (97 ≤ ((u.getD k 0) : UInt8)))))) rfl (.pure (.int _ _ _ _ _ rfl rfl rfl (u8_geq ((u.getD k 0) : UInt8) 97 rfl rfl))) rfl rfl ?_
    refine Ch.step (v := (.d (.bool (decide (97 ≤ ((u.getD k 0) : UInt8)))))) rfl (.pure (.move _ rfl rfl)) rfl rfl ?_
    cases h2 : (decide (97 ≤ ((u.getD k 0) : UInt8))) with
    | true =>
      replace h2 := of_decide_eq_true h2
      refine Ch.step (v := (.d (.str u))) rfl (.pure (.move _ rfl rfl)) rfl rfl ?_
      refine Ch.step (v := (.d (.int .i64 ((k : Nat) : Int)))) rfl (.pure (.move _ rfl rfl)) rfl rfl ?_
      refine Ch.step (v := (.d (.int .u8 ((u.getD k 0).toNat : Int)))) rfl (.pure (.idxStr _ _ _ (k) rfl Try.underlying9 rfl rfl rfl (get_str (by first | omega | (simp only [List.length_map, List.length_append, List.length_take, List.length_drop, List.length_cons, List.length_nil]; omega) | (simp; omega) | (simp; done))))) rfl rfl ?_
      refine Ch.step (v := (.d (.bool (decide (((u.getD k 0) : UInt8) ≤ 122))))) rfl (.pure (.int _ _ _ _ _ rfl rfl rfl (u8_leq ((u.getD k 0) : UInt8) 122 rfl rfl))) rfl rfl ?_
      refine Ch.step (v := (.d (.bool (decide (((u.getD k 0) : UInt8) ≤ 122))))) rfl (.pure (.pickT _ _ _ rfl rfl rfl)) rfl rfl ?_
      refine Ch.step (v := (.d (.bool (decide (((u.getD k 0) : UInt8) ≤ 122))))) rfl (.pure (.assign _ rfl rfl)) rfl rfl ?_
      refine Ch.nil ?_
      refine T_seq ?_
      refine T_region hc ?_
      refine Ch.step (v := (.d (.bool (decide (((u.getD k 0) : UInt8) ≤ 122))))) rfl (.pure (.move _ rfl rfl)) rfl rfl ?_
      refine Ch.step (v := (.d (.bool (!(decide (((u.getD k 0) : UInt8) ≤ 122)))))) rfl (.pure (.not _ _ rfl rfl)) rfl rfl ?_
      refine Ch.step (v := (.d (.bool (!(decide (((u.getD k 0) : UInt8) ≤ 122)))))) rfl (.pure (.move _ rfl rfl)) rfl rfl ?_
      cases h3 : (decide (((u.getD k 0) : UInt8) ≤ 122)) with
      | true =>
        replace h3 := of_decide_eq_true h3
        refine Ch.skip rfl rfl ?_
        refine Ch.skip rfl rfl ?_
        refine Ch.skip rfl rfl ?_
        refine Ch.skip rfl rfl ?_
        refine Ch.skip rfl rfl ?_
        refine Ch.skip rfl rfl ?_
        refine Ch.skip rfl rfl ?_
        refine Ch.skip rfl rfl ?_
        refine Ch.skip rfl rfl ?_
        refine Ch.skip rfl rfl ?_
        refine Ch.skip rfl rfl ?_
        refine Ch.skip rfl rfl ?_
        refine Ch.skip rfl rfl ?_
        refine Ch.skip rfl rfl ?_
        refine Ch.step (v := (.d (.bool false))) rfl (.pure (.pickF _ _ _ rfl rfl rfl)) rfl rfl ?_
        refine Ch.nil ?_
        refine T_cond (b := false) rfl (fun h => nomatch h) (fun _ => ?_)
        refine T_skip ?_
        refine T_region hc ?_
        refine Ch.step (v := (.d (.int .i64 ((k : Nat) : Int)))) rfl (.pure (.move _ rfl rfl)) rfl rfl ?_
        refine Ch.step (v := (.d (.int .i64 (((k : Nat) : Int) + 1)))) rfl (.pure (.int _ _ _ _ _ rfl rfl rfl (intV_add (by first | omega | (simp only [List.length_map, List.length_append, List.length_take, List.length_drop, List.length_cons, List.length_nil]; omega) | (simp; omega) | (simp; done)) (by first | omega | (simp only [List.length_map, List.length_append, List.length_take, List.length_drop, List.length_cons, List.length_nil]; omega) | (simp; omega) | (simp; done))))) rfl rfl ?_
        refine Ch.step (v := (.d (.int .i64 (((k : Nat) : Int) + 1)))) rfl (.pure (.assign _ rfl rfl)) rfl rfl ?_
        refine Ch.nil ?_
        refine Exists.intro (k + 1) (And.intro ⟨by omega, upto_succ hp0.2 (by first | (rw [nameCh, letB, digB]; simp only [*, decide_true, decide_false, Bool.and_true, Bool.true_and, Bool.and_false, Bool.false_and, Bool.or_false, Bool.false_or, Bool.or_true, Bool.true_or, Bool.not_true, Bool.not_false, not_false_eq_true]; done) | (rw [nameCh, letB, digB_n]; simp only [*, decide_true, decide_false, Bool.and_true, Bool.true_and, Bool.and_false, Bool.false_and, Bool.or_false, Bool.false_or, Bool.or_true, Bool.true_or, Bool.not_true, Bool.not_false, not_false_eq_true]; done))⟩ (And.intro (by first | omega | (dsimp only; omega)) (Wk.of rfl rfl (And.intro rfl (And.intro (vI (by first | rfl | omega | (simp; done) | (simp; omega))) trivial)) trivial)))
      | false =>
        replace h3 := of_decide_eq_false h3
        refine Ch.step (v := (.d (.int .i64 ((k : Nat) : Int)))) rfl (.pure (.move _ rfl rfl)) rfl rfl ?_
        refine Ch.step (v := (.d (.bool (decide (((k : Nat) : Int) = 0))))) rfl (.pure (.int _ _ _ _ _ rfl rfl rfl rfl)) rfl rfl ?_
        refine Ch.step (v := (.d (.bool (decide (((k : Nat) : Int) = 0))))) rfl (.pure (.move _ rfl rfl)) rfl rfl ?_
        cases h4 : (decide (((k : Nat) : Int) = 0)) with
        | true =>
          replace h4 := of_decide_eq_true h4
          refine Ch.skip rfl rfl ?_
          refine Ch.skip rfl rfl ?_
          refine Ch.skip rfl rfl ?_
          refine Ch.skip rfl rfl ?_
          refine Ch.step (v := (.d (.bool true))) rfl (.pure (.pickT _ _ _ rfl rfl rfl)) rfl rfl ?_
          refine Ch.step (v := (.d (.bool true))) rfl (.pure (.move _ rfl rfl)) rfl rfl ?_
          refine Ch.skip rfl rfl ?_
          refine Ch.skip rfl rfl ?_
          refine Ch.skip rfl rfl ?_
          refine Ch.skip rfl rfl ?_
          refine Ch.step (v := (.d (.bool true))) rfl (.pure (.pickT _ _ _ rfl rfl rfl)) rfl rfl ?_
          refine Ch.step (v := (.d (.bool true))) rfl (.pure (.pickT _ _ _ rfl rfl rfl)) rfl rfl ?_
          refine Ch.nil ?_
          refine T_cond (b := true) rfl (fun _ => ?_) (fun h => nomatch h)
          refine T_seq ?_
          refine T_region hc ?_
          refine Ch.step (v := (.d (.bool false))) rfl (.pure (.assign _ rfl rfl)) rfl rfl ?_
          refine Ch.nil ?_
          refine T_ret ?_
          refine And.intro (.inr rfl) ?_
          exact Exists.intro [(.d (.bool false))] (Exists.intro [] (Exists.intro [] (And.intro (.cons (.tmp 2 rfl) .nil) (And.intro (.cons (.any _) .nil) (And.intro (Exp.of (congrArg D.bool (by first | (rw [nameB, allB_no k (by omega) (by first | (rw [nameCh, letB, digB]; simp only [*, decide_true, decide_false, Bool.and_true, Bool.true_and, Bool.and_false, Bool.false_and, Bool.or_false, Bool.false_or, Bool.or_true, Bool.true_or, Bool.not_true, Bool.not_false, not_false_eq_true]; done) | (rw [nameCh, letB, digB_n]; simp only [*, decide_true, decide_false, Bool.and_true, Bool.true_and, Bool.and_false, Bool.false_and, Bool.or_false, Bool.false_or, Bool.or_true, Bool.true_or, Bool.not_true, Bool.not_false, not_false_eq_true]; done))]; rfl) | (rw [nameB, allB_of (fun j hj => hp0.2 j (by omega)), Bool.true_and]; done))) (.d _)) (And.intro rfl rfl))))))
        | false =>
          replace h4 := of_decide_eq_false h4
          refine Ch.step (v := (.d (.str u))) rfl (.pure (.move _ rfl rfl)) rfl rfl ?_
          refine Ch.step (v := (.d (.int .i64 ((k : Nat) : Int)))) rfl (.pure (.move _ rfl rfl)) rfl rfl ?_
          refine Ch.step (v := (.d (.int .u8 ((u.getD k 0).toNat : Int)))) rfl (.pure (.idxStr _ _ _ (k) rfl Try.underlying9 rfl rfl rfl (get_str (by first | omega | (simp only [List.length_map, List.length_append, List.length_take, List.length_drop, List.length_cons, List.length_nil]; omega) | (simp; omega) | (simp; done))))) rfl rfl ?_
          refine Ch.step (v := (.d (.bool (decide (((u.getD k 0) : UInt8) < 48))))) rfl (.pure (.int _ _ _ _ _ rfl rfl rfl (u8_lss ((u.getD k 0) : UInt8) 48 rfl rfl))) rfl rfl ?_
          refine Ch.step (v := (.d (.bool (decide (((u.getD k 0) : UInt8) < 48))))) rfl (.pure (.pickF _ _ _ rfl rfl rfl)) rfl rfl ?_
          refine Ch.step (v := (.d (.bool (decide (((u.getD k 0) : UInt8) < 48))))) rfl (.pure (.move _ rfl rfl)) rfl rfl ?_
          cases h5 : (decide (((u.getD k 0) : UInt8) < 48)) with
          | true =>
            replace h5 := of_decide_eq_true h5
            refine Ch.skip rfl rfl ?_
            refine Ch.skip rfl rfl ?_
            refine Ch.skip rfl rfl ?_
            refine Ch.skip rfl rfl ?_
            refine Ch.step (v := (.d (.bool true))) rfl (.pure (.pickT _ _ _ rfl rfl rfl)) rfl rfl ?_
            refine Ch.step (v := (.d (.bool true))) rfl (.pure (.pickT _ _ _ rfl rfl rfl)) rfl rfl ?_
            refine Ch.nil ?_
            refine T_cond (b := true) rfl (fun _ => ?_) (fun h => nomatch h)
            refine T_seq ?_
            refine T_region hc ?_
            refine Ch.step (v := (.d (.bool false))) rfl (.pure (.assign _ rfl rfl)) rfl rfl ?_
            refine Ch.nil ?_
            refine T_ret ?_
            refine And.intro (.inr rfl) ?_
            exact Exists.intro [(.d (.bool false))] (Exists.intro [] (Exists.intro [] (And.intro (.cons (.tmp 2 rfl) .nil) (And.intro (.cons (.any _) .nil) (And.intro (Exp.of (congrArg D.bool (by first | (rw [nameB, allB_no k (by omega) (by first | (rw [nameCh, letB, digB]; simp only [*, decide_true, decide_false, Bool.and_true, Bool.true_and, Bool.and_false, Bool.false_and, Bool.or_false, Bool.false_or, Bool.or_true, Bool.true_or, Bool.not_true, Bool.not_false, not_false_eq_true]; done) | (rw [nameCh, letB, digB_n]; simp only [*, decide_true, decide_false, Bool.and_true, Bool.true_and, Bool.and_false, Bool.false_and, Bool.or_false, Bool.false_or, Bool.or_true, Bool.true_or, Bool.not_true, Bool.not_false, not_false_eq_true]; done))]; rfl) | (rw [nameB, allB_of (fun j hj => hp0.2 j (by omega)), Bool.true_and]; done))) (.d _)) (And.intro rfl rfl))))))
          | false =>
            replace h5 := of_decide_eq_false h5
            refine Ch.step (v := (.d (.str u))) rfl (.pure (.move _ rfl rfl)) rfl rfl ?_
            refine Ch.step (v := (.d (.int .i64 ((k : Nat) : Int)))) rfl (.pure (.move _ rfl rfl)) rfl rfl ?_
            refine Ch.step (v := (.d (.int .u8 ((u.getD k 0).toNat : Int)))) rfl (.pure (.idxStr _ _ _ (k) rfl Try.underlying9 rfl rfl rfl (get_str (by first | omega | (simp only [List.length_map, List.length_append, List.length_take, List.length_drop, List.length_cons, List.length_nil]; omega) | (simp; omega) | (simp; done))))) rfl rfl ?_
            refine Ch.step (v := (.d (.bool (decide (57 < ((u.getD k 0) : UInt8)))))) rfl (.pure (.int _ _ _ _ _ rfl rfl rfl (u8_gtr ((u.getD k 0) : UInt8) 57 rfl rfl))) rfl rfl ?_
            refine Ch.step (v := (.d (.bool (decide (57 < ((u.getD k 0) : UInt8)))))) rfl (.pure (.pickF _ _ _ rfl rfl rfl)) rfl rfl ?_
            refine Ch.step (v := (.d (.bool (decide (57 < ((u.getD k 0) : UInt8)))))) rfl (.pure (.pickT _ _ _ rfl rfl rfl)) rfl rfl ?_
            refine Ch.nil ?_
            refine T_cond (b := (decide (57 < ((u.getD k 0) : UInt8)))) rfl (fun h6 => ?_) (fun h6 => ?_)
            · replace h6 := of_decide_eq_true h6
              refine T_seq ?_
              refine T_region hc ?_
              refine Ch.step (v := (.d (.bool false))) rfl (.pure (.assign _ rfl rfl)) rfl rfl ?_
              refine Ch.nil ?_
              refine T_ret ?_
              refine And.intro (.inr rfl) ?_
              exact Exists.intro [(.d (.bool false))] (Exists.intro [] (Exists.intro [] (And.intro (.cons (.tmp 2 rfl) .nil) (And.intro (.cons (.any _) .nil) (And.intro (Exp.of (congrArg D.bool (by first | (rw [nameB, allB_no k (by omega) (by first | (rw [nameCh, letB, digB]; simp only [*, decide_true, decide_false, Bool.and_true, Bool.true_and, Bool.and_false, Bool.false_and, Bool.or_false, Bool.false_or, Bool.or_true, Bool.true_or, Bool.not_true, Bool.not_false, not_false_eq_true]; done) | (rw [nameCh, letB, digB_n]; simp only [*, decide_true, decide_false, Bool.and_true, Bool.true_and, Bool.and_false, Bool.false_and, Bool.or_false, Bool.false_or, Bool.or_true, Bool.true_or, Bool.not_true, Bool.not_false, not_false_eq_true]; done))]; rfl) | (rw [nameB, allB_of (fun j hj => hp0.2 j (by omega)), Bool.true_and]; done))) (.d _)) (And.intro rfl rfl))))))
            · replace h6 := of_decide_eq_false h6
              refine T_skip ?_
              refine T_region hc ?_
              refine Ch.step (v := (.d (.int .i64 ((k : Nat) : Int)))) rfl (.pure (.move _ rfl rfl)) rfl rfl ?_
              refine Ch.step (v := (.d (.int .i64 (((k : Nat) : Int) + 1)))) rfl (.pure (.int _ _ _ _ _ rfl rfl rfl (intV_add (by first | omega | (simp only [List.length_map, List.length_append, List.length_take, List.length_drop, List.length_cons, List.length_nil]; omega) | (simp; omega) | (simp; done)) (by first | omega | (simp only [List.length_map, List.length_append, List.length_take, List.length_drop, List.length_cons, List.length_nil]; omega) | (simp; omega) | (simp; done))))) rfl rfl ?_
              refine Ch.step (v := (.d (.int .i64 (((k : Nat) : Int) + 1)))) rfl (.pure (.assign _ rfl rfl)) rfl rfl ?_
              refine Ch.nil ?_
              refine Exists.intro (k + 1) (And.intro ⟨by omega, upto_succ hp0.2 (by first | (rw [nameCh, letB, digB]; simp only [*, decide_true, decide_false, Bool.and_true, Bool.true_and, Bool.and_false, Bool.false_and, Bool.or_false, Bool.false_or, Bool.or_true, Bool.true_or, Bool.not_true, Bool.not_false, not_false_eq_true]; done) | (rw [nameCh, letB, digB_n]; simp only [*, decide_true, decide_false, Bool.and_true, Bool.true_and, Bool.and_false, Bool.false_and, Bool.or_false, Bool.false_or, Bool.or_true, Bool.true_or, Bool.not_true, Bool.not_false, not_false_eq_true]; done))⟩ (And.intro (by first | omega | (dsimp only; omega)) (Wk.of rfl rfl (And.intro rfl (And.intro (vI (by first | rfl | omega | (simp; done) | (simp; omega))) trivial)) trivial)))
    | false =>
      replace h2 := of_decide_eq_false h2
      refine Ch.skip rfl rfl ?_
      refine Ch.skip rfl rfl ?_
      refine Ch.skip rfl rfl ?_
      refine Ch.skip rfl rfl ?_
      refine Ch.step (v := (.d (.bool false))) rfl (.pure (.pickF _ _ _ rfl rfl rfl)) rfl rfl ?_
      refine Ch.step (v := (.d (.bool false))) rfl (.pure (.assign _ rfl rfl)) rfl rfl ?_
      refine Ch.nil ?_
      refine T_seq ?_
      refine T_region hc ?_
      refine Ch.step (v := (.d (.bool false))) rfl (.pure (.move _ rfl rfl)) rfl rfl ?_
      refine Ch.step (v := (.d (.bool true))) rfl (.pure (.not (b := false) _ _ rfl rfl)) rfl rfl ?_
      refine Ch.step (v := (.d (.bool true))) rfl (.pure (.move _ rfl rfl)) rfl rfl ?_
      refine Ch.step (v := (.d (.int .i64 ((k : Nat) : Int)))) rfl (.pure (.move _ rfl rfl)) rfl rfl ?_
      refine Ch.step (v := (.d (.bool (decide (((k : Nat) : Int) = 0))))) rfl (.pure (.int _ _ _ _ _ rfl rfl rfl rfl)) rfl rfl ?_
      refine Ch.step (v := (.d (.bool (decide (((k : Nat) : Int) = 0))))) rfl (.pure (.move _ rfl rfl)) rfl rfl ?_
      cases h7 : (decide (((k : Nat) : Int) = 0)) with
      | true =>
        replace h7 := of_decide_eq_true h7
        refine Ch.skip rfl rfl ?_
        refine Ch.skip rfl rfl ?_
        refine Ch.skip rfl rfl ?_
        refine Ch.skip rfl rfl ?_
        refine Ch.step (v := (.d (.bool true))) rfl (.pure (.pickT _ _ _ rfl rfl rfl)) rfl rfl ?_
        refine Ch.step (v := (.d (.bool true))) rfl (.pure (.move _ rfl rfl)) rfl rfl ?_
        refine Ch.skip rfl rfl ?_
        refine Ch.skip rfl rfl ?_
        refine Ch.skip rfl rfl ?_
        refine Ch.skip rfl rfl ?_
        refine Ch.step (v := (.d (.bool true))) rfl (.pure (.pickT _ _ _ rfl rfl rfl)) rfl rfl ?_
        refine Ch.step (v := (.d (.bool true))) rfl (.pure (.pickT _ _ _ rfl rfl rfl)) rfl rfl ?_
        refine Ch.nil ?_
        refine T_cond (b := true) rfl (fun _ => ?_) (fun h => nomatch h)
        refine T_seq ?_
        refine T_region hc ?_
        refine Ch.step (v := (.d (.bool false))) rfl (.pure (.assign _ rfl rfl)) rfl rfl ?_
        refine Ch.nil ?_
        refine T_ret ?_
        refine And.intro (.inr rfl) ?_
        exact Exists.intro [(.d (.bool false))] (Exists.intro [] (Exists.intro [] (And.intro (.cons (.tmp 2 rfl) .nil) (And.intro (.cons (.any _) .nil) (And.intro (Exp.of (congrArg D.bool (by first | (rw [nameB, allB_no k (by omega) (by first | (rw [nameCh, letB, digB]; simp only [*, decide_true, decide_false, Bool.and_true, Bool.true_and, Bool.and_false, Bool.false_and, Bool.or_false, Bool.false_or, Bool.or_true, Bool.true_or, Bool.not_true, Bool.not_false, not_false_eq_true]; done) | (rw [nameCh, letB, digB_n]; simp only [*, decide_true, decide_false, Bool.and_true, Bool.true_and, Bool.and_false, Bool.false_and, Bool.or_false, Bool.false_or, Bool.or_true, Bool.true_or, Bool.not_true, Bool.not_false, not_false_eq_true]; done))]; rfl) | (rw [nameB, allB_of (fun j hj => hp0.2 j (by omega)), Bool.true_and]; done))) (.d _)) (And.intro rfl rfl))))))
      | false =>
        replace h7 := of_decide_eq_false h7
        refine Ch.step (v := (.d (.str u))) rfl (.pure (.move _ rfl rfl)) rfl rfl ?_
        refine Ch.step (v := (.d (.int .i64 ((k : Nat) : Int)))) rfl (.pure (.move _ rfl rfl)) rfl rfl ?_
        refine Ch.step (v := (.d (.int .u8 ((u.getD k 0).toNat : Int)))) rfl (.pure (.idxStr _ _ _ (k) rfl Try.underlying9 rfl rfl rfl (get_str (by first | omega | (simp only [List.length_map, List.length_append, List.length_take, List.length_drop, List.length_cons, List.length_nil]; omega) | (simp; omega) | (simp; done))))) rfl rfl ?_
        refine Ch.step (v := (.d (.bool (decide (((u.getD k 0) : UInt8) < 48))))) rfl (.pure (.int _ _ _ _ _ rfl rfl rfl (u8_lss ((u.getD k 0) : UInt8) 48 rfl rfl))) rfl rfl ?_
        refine Ch.step (v := (.d (.bool (decide (((u.getD k 0) : UInt8) < 48))))) rfl (.pure (.pickF _ _ _ rfl rfl rfl)) rfl rfl ?_
        refine Ch.step (v := (.d (.bool (decide (((u.getD k 0) : UInt8) < 48))))) rfl (.pure (.move _ rfl rfl)) rfl rfl ?_
        cases h8 : (decide (((u.getD k 0) : UInt8) < 48)) with
        | true =>
          replace h8 := of_decide_eq_true h8
          refine Ch.skip rfl rfl ?_
          refine Ch.skip rfl rfl ?_
          refine Ch.skip rfl rfl ?_
          refine Ch.skip rfl rfl ?_
          refine Ch.step (v := (.d (.bool true))) rfl (.pure (.pickT _ _ _ rfl rfl rfl)) rfl rfl ?_
          refine Ch.step (v := (.d (.bool true))) rfl (.pure (.pickT _ _ _ rfl rfl rfl)) rfl rfl ?_
          refine Ch.nil ?_
          refine T_cond (b := true) rfl (fun _ => ?_) (fun h => nomatch h)
          refine T_seq ?_
          refine T_region hc ?_
          refine Ch.step (v := (.d (.bool false))) rfl (.pure (.assign _ rfl rfl)) rfl rfl ?_
          refine Ch.nil ?_
          refine T_ret ?_
          refine And.intro (.inr rfl) ?_
          exact Exists.intro [(.d (.bool false))] (Exists.intro [] (Exists.intro [] (And.intro (.cons (.tmp 2 rfl) .nil) (And.intro (.cons (.any _) .nil) (And.intro (Exp.of (congrArg D.bool (by first | (rw [nameB, allB_no k (by omega) (by first | (rw [nameCh, letB, digB]; simp only [*, decide_true, decide_false, Bool.and_true, Bool.true_and, Bool.and_false, Bool.false_and, Bool.or_false, Bool.false_or, Bool.or_true, Bool.true_or, Bool.not_true, Bool.not_false, not_false_eq_true]; done) | (rw [nameCh, letB, digB_n]; simp only [*, decide_true, decide_false, Bool.and_true, Bool.true_and, Bool.and_false, Bool.false_and, Bool.or_false, Bool.false_or, Bool.or_true, Bool.true_or, Bool.not_true, Bool.not_false, not_false_eq_true]; done))]; rfl) | (rw [nameB, allB_of (fun j hj => hp0.2 j (by omega)), Bool.true_and]; done))) (.d _)) (And.intro rfl rfl))))))
        | false =>
          replace h8 := of_decide_eq_false h8
          refine Ch.step (v := (.d (.str u))) rfl (.pure (.move _ rfl rfl)) rfl rfl ?_
          refine Ch.step (v := (.d (.int .i64 ((k : Nat) : Int)))) rfl (.pure (.move _ rfl rfl)) rfl rfl ?_
          refine Ch.step (v := (.d (.int .u8 ((u.getD k 0).toNat : Int)))) rfl (.pure (.idxStr _ _ _ (k) rfl Try.underlying9 rfl rfl rfl (get_str (by first | omega | (simp only [List.length_map, List.length_append, List.length_take, List.length_drop, List.length_cons, List.length_nil]; omega) | (simp; omega) | (simp; done))))) rfl rfl ?_
          refine Ch.step (v := (.d (.bool (decide (57 < ((u.getD k 0) : UInt8)))))) rfl (.pure (.int _ _ _ _ _ rfl rfl rfl (u8_gtr ((u.getD k 0) : UInt8) 57 rfl rfl))) rfl rfl ?_
          refine Ch.step (v := (.d (.bool (decide (57 < ((u.getD k 0) : UInt8)))))) rfl (.pure (.pickF _ _ _ rfl rfl rfl)) rfl rfl ?_
          refine Ch.step (v := (.d (.bool (decide (57 < ((u.getD k 0) : UInt8)))))) rfl (.pure (.pickT _ _ _ rfl rfl rfl)) rfl rfl ?_
          refine Ch.nil ?_
          refine T_cond (b := (decide (57 < ((u.getD k 0) : UInt8)))) rfl (fun h9 => ?_) (fun h9 => ?_)
          · replace h9 := of_decide_eq_true h9
            refine T_seq ?_
            refine T_region hc ?_
            refine Ch.step (v := (.d (.bool false))) rfl (.pure (.assign _ rfl rfl)) rfl rfl ?_
            refine Ch.nil ?_
            refine T_ret ?_
            refine And.intro (.inr rfl) ?_
            exact Exists.intro [(.d (.bool false))] (Exists.intro [] (Exists.intro [] (And.intro (.cons (.tmp 2 rfl) .nil) (And.intro (.cons (.any _) .nil) (And.intro (Exp.of (congrArg D.bool (by first | (rw [nameB, allB_no k (by omega) (by first | (rw [nameCh, letB, digB]; simp only [*, decide_true, decide_false, Bool.and_true, Bool.true_and, Bool.and_false, Bool.false_and, Bool.or_false, Bool.false_or, Bool.or_true, Bool.true_or, Bool.not_true, Bool.not_false, not_false_eq_true]; done) | (rw [nameCh, letB, digB_n]; simp only [*, decide_true, decide_false, Bool.and_true, Bool.true_and, Bool.and_false, Bool.false_and, Bool.or_false, Bool.false_or, Bool.or_true, Bool.true_or, Bool.not_true, Bool.not_false, not_false_eq_true]; done))]; rfl) | (rw [nameB, allB_of (fun j hj => hp0.2 j (by omega)), Bool.true_and]; done))) (.d _)) (And.intro rfl rfl))))))
          · replace h9 := of_decide_eq_false h9
            refine T_skip ?_
            refine T_region hc ?_
            refine Ch.step (v := (.d (.int .i64 ((k : Nat) : Int)))) rfl (.pure (.move _ rfl rfl)) rfl rfl ?_
            refine Ch.step (v := (.d (.int .i64 (((k : Nat) : Int) + 1)))) rfl (.pure (.int _ _ _ _ _ rfl rfl rfl (intV_add (by first | omega | (simp only [List.length_map, List.length_append, List.length_take, List.length_drop, List.length_cons, List.length_nil]; omega) | (simp; omega) | (simp; done)) (by first | omega | (simp only [List.length_map, List.length_append, List.length_take, List.length_drop, List.length_cons, List.length_nil]; omega) | (simp; omega) | (simp; done))))) rfl rfl ?_
            refine Ch.step (v := (.d (.int .i64 (((k : Nat) : Int) + 1)))) rfl (.pure (.assign _ rfl rfl)) rfl rfl ?_
            refine Ch.nil ?_
            refine Exists.intro (k + 1) (And.intro ⟨by omega, upto_succ hp0.2 (by first | (rw [nameCh, letB, digB]; simp only [*, decide_true, decide_false, Bool.and_true, Bool.true_and, Bool.and_false, Bool.false_and, Bool.or_false, Bool.false_or, Bool.or_true, Bool.true_or, Bool.not_true, Bool.not_false, not_false_eq_true]; done) | (rw [nameCh, letB, digB_n]; simp only [*, decide_true, decide_false, Bool.and_true, Bool.true_and, Bool.and_false, Bool.false_and, Bool.or_false, Bool.false_or, Bool.or_true, Bool.true_or, Bool.not_true, Bool.not_false, not_false_eq_true]; done))⟩ (And.intro (by first | omega | (dsimp only; omega)) (Wk.of rfl rfl (And.intro rfl (And.intro (vI (by first | rfl | omega | (simp; done) | (simp; omega))) trivial)) trivial)))
  · replace h1 := of_decide_eq_false h1
    refine T_exit ?_
    refine T_seq ?_
    refine T_region hc ?_
    refine Ch.step (v := (.d (.str u))) rfl (.pure (.move _ rfl rfl)) rfl rfl ?_
    refine Ch.step (v := (.d (.int .i64 ((u.length : Nat) : Int)))) rfl (.pure (.lenStr _ _ rfl Try.underlying9 rfl)) rfl rfl ?_
    refine Ch.step (v := (.d (.bool (withinB ((u.length : Nat) : Int) 1 6)))) rfl (.call 41000 118 _ _ _ en118 rfl (.inl rfl) (.cons (.d _) (.cons (.d _) (.cons (.d _) .nil))) rfl rfl (sp_spec_l1In ((u.length : Nat) : Int) 1 6) (.skip _ _ (.skip _ _ (.skip _ _ .nil))) rfl) rfl rfl ?_
    refine Ch.step (v := (.d (.bool (withinB ((u.length : Nat) : Int) 1 6)))) rfl (.pure (.assign _ rfl rfl)) rfl rfl ?_
    refine Ch.nil ?_
    refine T_ret ?_
    refine And.intro (.inr rfl) ?_
    exact Exists.intro [(.d (.bool (withinB ((u.length : Nat) : Int) 1 6)))] (Exists.intro [] (Exists.intro [] (And.intro (.cons (.tmp 2 rfl) .nil) (And.intro (.cons (.any _) .nil) (And.intro (Exp.of (congrArg D.bool (by first | (rw [nameB, allB_no k (by omega) (by first | (rw [nameCh, letB, digB]; simp only [*, decide_true, decide_false, Bool.and_true, Bool.true_and, Bool.and_false, Bool.false_and, Bool.or_false, Bool.false_or, Bool.or_true, Bool.true_or, Bool.not_true, Bool.not_false, not_false_eq_true]; done) | (rw [nameCh, letB, digB_n]; simp only [*, decide_true, decide_false, Bool.and_true, Bool.true_and, Bool.and_false, Bool.false_and, Bool.or_false, Bool.false_or, Bool.or_true, Bool.true_or, Bool.not_true, Bool.not_false, not_false_eq_true]; done))]; rfl) | (rw [nameB, allB_of (fun j hj => hp0.2 j (by omega)), Bool.true_and]; done))) (.d _)) (And.intro rfl rfl))))))

theorem sp_IndexFunc_sgn (xs : List Sgn) (f : FuncId) (caps : List D) (p : Sgn → Bool) (hf : Enters Try.prog f) (hp : ∀ x ∈ xs, Sp Try.prog f (Sgn.d x :: caps) (.any :: anys caps) (.bool (p x))) (hn : xs.length ≤ 1048576) : Sp Try.prog 165 [(.slice false 2 (xs.map Sgn.d)), (.fn f caps)] [.any, .any] (.int .i64 (ixF p xs)) := by
  refine Sp_intro (lend := true) Try.func165 rfl rfl rfl (fun _ => rfl) (fun c hc hX => ?_)
  refine T_seq ?_
  refine T_region hc ?_
  refine Ch.step (v := (.d (.int .i64 0))) rfl (.pure (.assign _ rfl rfl)) rfl rfl ?_
  refine Ch.nil ?_
  refine T_seq ?_
  refine T_seq ?_
  refine T_region hc ?_
  refine Ch.step (v := (.d (.slice false 2 (xs.map Sgn.d)))) rfl (.pure (.move _ rfl rfl)) rfl rfl ?_
  refine Ch.step (v := (.d (.int .i64 ((xs.length : Nat) : Int)))) rfl (.pure (.len _ _ 85 rfl Try.underlying41 (.sh _ _) (by simp))) rfl rfl ?_
  refine Ch.step (v := (.d (.int .i64 0))) rfl (.pure (.move _ rfl rfl)) rfl rfl ?_
  refine Ch.nil ?_
  refine T_block ?_
  refine T_loop (ι := Nat) (fun k => { n := 19, sl := [(0, (.d (.slice false 2 (xs.map Sgn.d)))), (1, (.d (.fn f caps))), (7, (.d (.int .i64 ((xs.length : Nat) : Int)))), (8, (.d (.int .i64 ((k : Nat) : Int))))], hp := [], pin := [] }) (fun k => k ≤ xs.length ∧ ∀ j, j < k → p (xs.getD j default) = false) (fun k => xs.length - k) ⟨0, ⟨by omega, fun j hj => by omega⟩, (Wk.of rfl rfl (And.intro rfl (And.intro rfl (And.intro rfl (And.intro (vI (by first | rfl | omega | (simp; done) | (simp; omega))) trivial)))) trivial)⟩ (fun k hp0 => ?_)
  refine T_seq ?_
  refine T_region hc ?_
  refine Ch.step (v := (.d (.bool (decide (((k : Nat) : Int) < ((xs.length : Nat) : Int)))))) rfl (.pure (.int _ _ _ _ _ rfl rfl rfl rfl)) rfl rfl ?_
  refine Ch.nil ?_
  refine T_seq ?_
  refine T_cond (b := (decide (((k : Nat) : Int) < ((xs.length : Nat) : Int)))) rfl (fun h1 => ?_) (fun h1 => ?_)
  · replace h1 := of_decide_eq_true h1
    refine T_skip ?_
    refine T_seq ?_
    refine T_block ?_
    refine T_seq ?_
    refine T_region hc ?_
    refine Ch.step (v := (.d (.int .i64 ((k : Nat) : Int)))) rfl (.pure (.move _ rfl rfl)) rfl rfl ?_
    refine Ch.step (v := (.d (.int .i64 ((k : Nat) : Int)))) rfl (.pure (.assign _ rfl rfl)) rfl rfl ?_
    refine Ch.nil ?_
    refine T_seq ?_
    refine T_region hc ?_
    refine Ch.step (v := (.d (.fn f caps))) rfl (.pure (.move _ rfl rfl)) rfl rfl ?_
    refine Ch.step (v := (.d (.slice false 2 (xs.map Sgn.d)))) rfl (.pure (.move _ rfl rfl)) rfl rfl ?_
    refine Ch.step (v := (.d (.int .i64 ((k : Nat) : Int)))) rfl (.pure (.move _ rfl rfl)) rfl rfl ?_
    refine Ch.step (v := (.d (.ref (.agg [(.str ((xs.getD k default).name)), (.int .i64 ((xs.getD k default).kind))])))) rfl (.pure (.idx _ _ _ 85 (k) rfl Try.underlying41 sz85 rfl rfl rfl (get_map _ (by first | omega | (simp only [List.length_map, List.length_append, List.length_take, List.length_drop, List.length_cons, List.length_nil]; omega) | (simp; omega) | (simp; done))))) rfl rfl ?_
    refine Ch.step (v := (.d (.agg [(.str ((xs.getD k default).name)), (.int .i64 ((xs.getD k default).kind))]))) rfl (.pure (.loadRefA _ _ rfl ag85 sz85 rfl)) rfl rfl ?_
    refine Ch.step (v := (.d (.bool (p (xs.getD k default))))) rfl (.callS 16000 f _ #[.tmp 15] _ hf rfl (.inr ⟨caps, rfl, rfl⟩) (.cons (.d _) (exps_ds caps)) rfl (hp _ (getD_mem (by omega))) (.skip _ _ (back_anys caps)) rfl) rfl rfl ?_
    refine Ch.nil ?_
    refine T_cond (b := (p (xs.getD k default))) rfl (fun h2 => ?_) (fun h2 => ?_)
    · refine T_seq ?_
      refine T_region hc ?_
      refine Ch.step (v := (.d (.int .i64 ((k : Nat) : Int)))) rfl (.pure (.move _ rfl rfl)) rfl rfl ?_
      refine Ch.step (v := (.d (.int .i64 ((k : Nat) : Int)))) rfl (.pure (.assign _ rfl rfl)) rfl rfl ?_
      refine Ch.nil ?_
      refine T_ret ?_
      refine And.intro (.inr rfl) ?_
      exact Exists.intro [(.d (.int .i64 ((k : Nat) : Int)))] (Exists.intro [] (Exists.intro [] (And.intro (.cons (.tmp 4 rfl) .nil) (And.intro (.cons (.any _) (.cons (.any _) .nil)) (And.intro (Exp.of (congrArg (D.int .i64) (by exact (ixF_some (d := default) (by omega) hp0.2 (by assumption)).symm)) (.d _)) (And.intro rfl rfl))))))
    · refine T_skip ?_
      refine T_region hc ?_
      refine Ch.step (v := (.d (.int .i64 (((k : Nat) : Int) + 1)))) rfl (.pure (.int _ _ _ _ _ rfl rfl rfl (intV_add (by first | omega | (simp only [List.length_map, List.length_append, List.length_take, List.length_drop, List.length_cons, List.length_nil]; omega) | (simp; omega) | (simp; done)) (by first | omega | (simp only [List.length_map, List.length_append, List.length_take, List.length_drop, List.length_cons, List.length_nil]; omega) | (simp; omega) | (simp; done))))) rfl rfl ?_
      refine Ch.step (v := (.d (.int .i64 (((k : Nat) : Int) + 1)))) rfl (.pure (.move _ rfl rfl)) rfl rfl ?_
      refine Ch.nil ?_
      refine Exists.intro (k + 1) (And.intro ⟨by omega, upto_succ hp0.2 (by assumption)⟩ (And.intro (by first | omega | (dsimp only; omega)) (Wk.of rfl rfl (And.intro rfl (And.intro rfl (And.intro rfl (And.intro (vI (by first | rfl | omega | (simp; done) | (simp; omega))) trivial)))) trivial)))
  · replace h1 := of_decide_eq_false h1
    refine T_exit ?_
    refine T_seq ?_
    refine T_region hc ?_
    refine Ch.step (v := (.d (.int .i64 (-1)))) rfl (.pure (.assign _ rfl rfl)) rfl rfl ?_
    refine Ch.nil ?_
    refine T_ret ?_
    refine And.intro (.inr rfl) ?_
    exact Exists.intro [(.d (.int .i64 (-1)))] (Exists.intro [] (Exists.intro [] (And.intro (.cons (.tmp 4 rfl) .nil) (And.intro (.cons (.any _) (.cons (.any _) .nil)) (And.intro (Exp.of (congrArg (D.int .i64) (by exact (ixF_none (d := default) (fun j hj => hp0.2 j (by omega))).symm)) (.d _)) (And.intro rfl rfl))))))

theorem sp_ContainsFunc_sgn (xs : List Sgn) (f : FuncId) (caps : List D) (p : Sgn → Bool) (hf : Enters Try.prog f) (hp : ∀ x ∈ xs, Sp Try.prog f (Sgn.d x :: caps) (.any :: anys caps) (.bool (p x))) (hn : xs.length ≤ 1048576) : Sp Try.prog 137 [(.slice false 2 (xs.map Sgn.d)), (.fn f caps)] [.any, .any] (.bool (xs.any p)) := by
  refine Sp_intro (lend := true) Try.func137 rfl rfl rfl (fun _ => rfl) (fun c hc hX => ?_)
  refine T_seq ?_
  refine T_region hc ?_
  refine Ch.step (v := (.d (.bool false))) rfl (.pure (.assign _ rfl rfl)) rfl rfl ?_
  refine Ch.nil ?_
  refine T_seq ?_
  refine T_region hc ?_
  refine Ch.step (v := (.d (.slice false 2 (xs.map Sgn.d)))) rfl (.pure (.move _ rfl rfl)) rfl rfl ?_
  refine Ch.step (v := (.d (.fn f caps))) rfl (.pure (.move _ rfl rfl)) rfl rfl ?_
  refine Ch.step (v := (.d (.int .i64 (ixF p xs)))) rfl (.call 7000 165 _ _ _ en165 rfl (.inl rfl) (.cons (.d _) (.cons (.d _) .nil)) rfl rfl (sp_IndexFunc_sgn xs f caps p hf hp (by first | omega | assumption | (exact hx _ (getD_mem (by omega))) | (exact hx _ (by assumption)) | (exact Nat.le_trans (hx _ (by assumption)) (by omega)) | (simp only [List.length_append, List.length_take, List.length_drop, List.length_cons, List.length_nil]; omega) | (simp_all; done))) (.skip _ _ (.skip _ _ .nil)) rfl) rfl rfl ?_
  refine Ch.step (v := (.d (.bool (decide (0 ≤ (ixF p xs)))))) rfl (.pure (.int _ _ _ _ _ rfl rfl rfl rfl)) rfl rfl ?_
  refine Ch.step (v := (.d (.bool (decide (0 ≤ (ixF p xs)))))) rfl (.pure (.assign _ rfl rfl)) rfl rfl ?_
  refine Ch.nil ?_
  refine T_ret ?_
  refine And.intro (.inr rfl) ?_
  exact Exists.intro [(.d (.bool (decide (0 ≤ (ixF p xs)))))] (Exists.intro [] (Exists.intro [] (And.intro (.cons (.tmp 4 rfl) .nil) (And.intro (.cons (.any _) (.cons (.any _) .nil)) (And.intro (Exp.of (congrArg D.bool (by exact ixF_nonneg p xs)) (.d _)) (And.intro rfl rfl))))))

theorem sp_IndexFunc_pin (xs : List Pin) (f : FuncId) (caps : List D) (p : Pin → Bool) (hf : Enters Try.prog f) (hp : ∀ x ∈ xs, Sp Try.prog f (Pin.d x :: caps) (.any :: anys caps) (.bool (p x))) (hn : xs.length ≤ 1048576) : Sp Try.prog 172 [(.slice false 2 (xs.map Pin.d)), (.fn f caps)] [.any, .any] (.int .i64 (ixF p xs)) := by
  refine Sp_intro (lend := true) Try.func172 rfl rfl rfl (fun _ => rfl) (fun c hc hX => ?_)
  refine T_seq ?_
  refine T_region hc ?_
  refine Ch.step (v := (.d (.int .i64 0))) rfl (.pure (.assign _ rfl rfl)) rfl rfl ?_
  refine Ch.nil ?_
  refine T_seq ?_
  refine T_seq ?_
  refine T_region hc ?_
  refine Ch.step (v := (.d (.slice false 2 (xs.map Pin.d)))) rfl (.pure (.move _ rfl rfl)) rfl rfl ?_
  refine Ch.step (v := (.d (.int .i64 ((xs.length : Nat) : Int)))) rfl (.pure (.len _ _ 89 rfl Try.underlying80 (.sh _ _) (by simp))) rfl rfl ?_
  refine Ch.step (v := (.d (.int .i64 0))) rfl (.pure (.move _ rfl rfl)) rfl rfl ?_
  refine Ch.nil ?_
  refine T_block ?_
  refine T_loop (ι := Nat) (fun k => { n := 19, sl := [(0, (.d (.slice false 2 (xs.map Pin.d)))), (1, (.d (.fn f caps))), (7, (.d (.int .i64 ((xs.length : Nat) : Int)))), (8, (.d (.int .i64 ((k : Nat) : Int))))], hp := [], pin := [] }) (fun k => k ≤ xs.length ∧ ∀ j, j < k → p (xs.getD j default) = false) (fun k => xs.length - k) ⟨0, ⟨by omega, fun j hj => by omega⟩, (Wk.of rfl rfl (And.intro rfl (And.intro rfl (And.intro rfl (And.intro (vI (by first | rfl | omega | (simp; done) | (simp; omega))) trivial)))) trivial)⟩ (fun k hp0 => ?_)
  refine T_seq ?_
  refine T_region hc ?_
  refine Ch.step (v := (.d (.bool (decide (((k : Nat) : Int) < ((xs.length : Nat) : Int)))))) rfl (.pure (.int _ _ _ _ _ rfl rfl rfl rfl)) rfl rfl ?_
  refine Ch.nil ?_
  refine T_seq ?_
  refine T_cond (b := (decide (((k : Nat) : Int) < ((xs.length : Nat) : Int)))) rfl (fun h1 => ?_) (fun h1 => ?_)
  · replace h1 := of_decide_eq_true h1
    refine T_skip ?_
    refine T_seq ?_
    refine T_block ?_
    refine T_seq ?_
    refine T_region hc ?_
    refine Ch.step (v := (.d (.int .i64 ((k : Nat) : Int)))) rfl (.pure (.move _ rfl rfl)) rfl rfl ?_
    refine Ch.step (v := (.d (.int .i64 ((k : Nat) : Int)))) rfl (.pure (.assign _ rfl rfl)) rfl rfl ?_
    refine Ch.nil ?_
    refine T_seq ?_
    refine T_region hc ?_
    refine Ch.step (v := (.d (.fn f caps))) rfl (.pure (.move _ rfl rfl)) rfl rfl ?_
    refine Ch.step (v := (.d (.slice false 2 (xs.map Pin.d)))) rfl (.pure (.move _ rfl rfl)) rfl rfl ?_
    refine Ch.step (v := (.d (.int .i64 ((k : Nat) : Int)))) rfl (.pure (.move _ rfl rfl)) rfl rfl ?_
    refine Ch.step (v := (.d (.ref (.agg [(.int .i64 ((xs.getD k default).num)), (.bool ((xs.getD k default).neg))])))) rfl (.pure (.idx _ _ _ 89 (k) rfl Try.underlying80 sz89 rfl rfl rfl (get_map _ (by first | omega | (simp only [List.length_map, List.length_append, List.length_take, List.length_drop, List.length_cons, List.length_nil]; omega) | (simp; omega) | (simp; done))))) rfl rfl ?_
    refine Ch.step (v := (.d (.agg [(.int .i64 ((xs.getD k default).num)), (.bool ((xs.getD k default).neg))]))) rfl (.pure (.loadRefA _ _ rfl ag89 sz89 rfl)) rfl rfl ?_
    refine Ch.step (v := (.d (.bool (p (xs.getD k default))))) rfl (.callS 16000 f _ #[.tmp 15] _ hf rfl (.inr ⟨caps, rfl, rfl⟩) (.cons (.d _) (exps_ds caps)) rfl (hp _ (getD_mem (by omega))) (.skip _ _ (back_anys caps)) rfl) rfl rfl ?_
    refine Ch.nil ?_
    refine T_cond (b := (p (xs.getD k default))) rfl (fun h2 => ?_) (fun h2 => ?_)
    · refine T_seq ?_
      refine T_region hc ?_
      refine Ch.step (v := (.d (.int .i64 ((k : Nat) : Int)))) rfl (.pure (.move _ rfl rfl)) rfl rfl ?_
      refine Ch.step (v := (.d (.int .i64 ((k : Nat) : Int)))) rfl (.pure (.assign _ rfl rfl)) rfl rfl ?_
      refine Ch.nil ?_
      refine T_ret ?_
      refine And.intro (.inr rfl) ?_
      exact Exists.intro [(.d (.int .i64 ((k : Nat) : Int)))] (Exists.intro [] (Exists.intro [] (And.intro (.cons (.tmp 4 rfl) .nil) (And.intro (.cons (.any _) (.cons (.any _) .nil)) (And.intro (Exp.of (congrArg (D.int .i64) (by exact (ixF_some (d := default) (by omega) hp0.2 (by assumption)).symm)) (.d _)) (And.intro rfl rfl))))))
    · refine T_skip ?_
      refine T_region hc ?_
      refine Ch.step (v := (.d (.int .i64 (((k : Nat) : Int) + 1)))) rfl (.pure (.int _ _ _ _ _ rfl rfl rfl (intV_add (by first | omega | (simp only [List.length_map, List.length_append, List.length_take, List.length_drop, List.length_cons, List.length_nil]; omega) | (simp; omega) | (simp; done)) (by first | omega | (simp only [List.length_map, List.length_append, List.length_take, List.length_drop, List.length_cons, List.length_nil]; omega) | (simp; omega) | (simp; done))))) rfl rfl ?_
      refine Ch.step (v := (.d (.int .i64 (((k : Nat) : Int) + 1)))) rfl (.pure (.move _ rfl rfl)) rfl rfl ?_
      refine Ch.nil ?_
      refine Exists.intro (k + 1) (And.intro ⟨by omega, upto_succ hp0.2 (by assumption)⟩ (And.intro (by first | omega | (dsimp only; omega)) (Wk.of rfl rfl (And.intro rfl (And.intro rfl (And.intro rfl (And.intro (vI (by first | rfl | omega | (simp; done) | (simp; omega))) trivial)))) trivial)))
  · replace h1 := of_decide_eq_false h1
    refine T_exit ?_
    refine T_seq ?_
    refine T_region hc ?_
    refine Ch.step (v := (.d (.int .i64 (-1)))) rfl (.pure (.assign _ rfl rfl)) rfl rfl ?_
    refine Ch.nil ?_
    refine T_ret ?_
    refine And.intro (.inr rfl) ?_
    exact Exists.intro [(.d (.int .i64 (-1)))] (Exists.intro [] (Exists.intro [] (And.intro (.cons (.tmp 4 rfl) .nil) (And.intro (.cons (.any _) (.cons (.any _) .nil)) (And.intro (Exp.of (congrArg (D.int .i64) (by exact (ixF_none (d := default) (fun j hj => hp0.2 j (by omega))).symm)) (.d _)) (And.intro rfl rfl))))))

theorem sp_ContainsFunc_pin (xs : List Pin) (f : FuncId) (caps : List D) (p : Pin → Bool) (hf : Enters Try.prog f) (hp : ∀ x ∈ xs, Sp Try.prog f (Pin.d x :: caps) (.any :: anys caps) (.bool (p x))) (hn : xs.length ≤ 1048576) : Sp Try.prog 156 [(.slice false 2 (xs.map Pin.d)), (.fn f caps)] [.any, .any] (.bool (xs.any p)) := by
  refine Sp_intro (lend := true) Try.func156 rfl rfl rfl (fun _ => rfl) (fun c hc hX => ?_)
  refine T_seq ?_
  refine T_region hc ?_
  refine Ch.step (v := (.d (.bool false))) rfl (.pure (.assign _ rfl rfl)) rfl rfl ?_
  refine Ch.nil ?_
  refine T_seq ?_
  refine T_region hc ?_
  refine Ch.step (v := (.d (.slice false 2 (xs.map Pin.d)))) rfl (.pure (.move _ rfl rfl)) rfl rfl ?_
  refine Ch.step (v := (.d (.fn f caps))) rfl (.pure (.move _ rfl rfl)) rfl rfl ?_
  refine Ch.step (v := (.d (.int .i64 (ixF p xs)))) rfl (.call 7000 172 _ _ _ en172 rfl (.inl rfl) (.cons (.d _) (.cons (.d _) .nil)) rfl rfl (sp_IndexFunc_pin xs f caps p hf hp (by first | omega | assumption | (exact hx _ (getD_mem (by omega))) | (exact hx _ (by assumption)) | (exact Nat.le_trans (hx _ (by assumption)) (by omega)) | (simp only [List.length_append, List.length_take, List.length_drop, List.length_cons, List.length_nil]; omega) | (simp_all; done))) (.skip _ _ (.skip _ _ .nil)) rfl) rfl rfl ?_
  refine Ch.step (v := (.d (.bool (decide (0 ≤ (ixF p xs)))))) rfl (.pure (.int _ _ _ _ _ rfl rfl rfl rfl)) rfl rfl ?_
  refine Ch.step (v := (.d (.bool (decide (0 ≤ (ixF p xs)))))) rfl (.pure (.assign _ rfl rfl)) rfl rfl ?_
  refine Ch.nil ?_
  refine T_ret ?_
  refine And.intro (.inr rfl) ?_
  exact Exists.intro [(.d (.bool (decide (0 ≤ (ixF p xs)))))] (Exists.intro [] (Exists.intro [] (And.intro (.cons (.tmp 4 rfl) .nil) (And.intro (.cons (.any _) (.cons (.any _) .nil)) (And.intro (Exp.of (congrArg D.bool (by exact ixF_nonneg p xs)) (.d _)) (And.intro rfl rfl))))))

theorem sp_IndexFunc_wir (xs : List Wir) (f : FuncId) (caps : List D) (p : Wir → Bool) (hf : Enters Try.prog f) (hp : ∀ x ∈ xs, Sp Try.prog f (Wir.d x :: caps) (.any :: anys caps) (.bool (p x))) (hn : xs.length ≤ 1048576) : Sp Try.prog 154 [(.slice false 4 (xs.map Wir.d)), (.fn f caps)] [.any, .any] (.int .i64 (ixF p xs)) := by
  refine Sp_intro (lend := true) Try.func154 rfl rfl rfl (fun _ => rfl) (fun c hc hX => ?_)
  refine T_seq ?_
  refine T_region hc ?_
  refine Ch.step (v := (.d (.int .i64 0))) rfl (.pure (.assign _ rfl rfl)) rfl rfl ?_
  refine Ch.nil ?_
  refine T_seq ?_
  refine T_seq ?_
  refine T_region hc ?_
  refine Ch.step (v := (.d (.slice false 4 (xs.map Wir.d)))) rfl (.pure (.move _ rfl rfl)) rfl rfl ?_
  refine Ch.step (v := (.d (.int .i64 ((xs.length : Nat) : Int)))) rfl (.pure (.len _ _ 82 rfl Try.underlying42 (.sh _ _) (by simp))) rfl rfl ?_
  refine Ch.step (v := (.d (.int .i64 0))) rfl (.pure (.move _ rfl rfl)) rfl rfl ?_
  refine Ch.nil ?_
  refine T_block ?_
  refine T_loop (ι := Nat) (fun k => { n := 19, sl := [(0, (.d (.slice false 4 (xs.map Wir.d)))), (1, (.d (.fn f caps))), (7, (.d (.int .i64 ((xs.length : Nat) : Int)))), (8, (.d (.int .i64 ((k : Nat) : Int))))], hp := [], pin := [] }) (fun k => k ≤ xs.length ∧ ∀ j, j < k → p (xs.getD j default) = false) (fun k => xs.length - k) ⟨0, ⟨by omega, fun j hj => by omega⟩, (Wk.of rfl rfl (And.intro rfl (And.intro rfl (And.intro rfl (And.intro (vI (by first | rfl | omega | (simp; done) | (simp; omega))) trivial)))) trivial)⟩ (fun k hp0 => ?_)
  refine T_seq ?_
  refine T_region hc ?_
  refine Ch.step (v := (.d (.bool (decide (((k : Nat) : Int) < ((xs.length : Nat) : Int)))))) rfl (.pure (.int _ _ _ _ _ rfl rfl rfl rfl)) rfl rfl ?_
  refine Ch.nil ?_
  refine T_seq ?_
  refine T_cond (b := (decide (((k : Nat) : Int) < ((xs.length : Nat) : Int)))) rfl (fun h1 => ?_) (fun h1 => ?_)
  · replace h1 := of_decide_eq_true h1
    refine T_skip ?_
    refine T_seq ?_
    refine T_block ?_
    refine T_seq ?_
    refine T_region hc ?_
    refine Ch.step (v := (.d (.int .i64 ((k : Nat) : Int)))) rfl (.pure (.move _ rfl rfl)) rfl rfl ?_
    refine Ch.step (v := (.d (.int .i64 ((k : Nat) : Int)))) rfl (.pure (.assign _ rfl rfl)) rfl rfl ?_
    refine Ch.nil ?_
    refine T_seq ?_
    refine T_region hc ?_
    refine Ch.step (v := (.d (.fn f caps))) rfl (.pure (.move _ rfl rfl)) rfl rfl ?_
    refine Ch.step (v := (.d (.slice false 4 (xs.map Wir.d)))) rfl (.pure (.move _ rfl rfl)) rfl rfl ?_
    refine Ch.step (v := (.d (.int .i64 ((k : Nat) : Int)))) rfl (.pure (.move _ rfl rfl)) rfl rfl ?_
    refine Ch.step (v := (.d (.ref (.agg [(.str ((xs.getD k default).name)), (.int .i64 ((xs.getD k default).kind)), (.slice false 2 (((xs.getD k default).ins).map Pin.d)), (.slice false 1 (((xs.getD k default).cov).map D.str))])))) rfl (.pure (.idx _ _ _ 82 (k) rfl Try.underlying42 sz82 rfl rfl rfl (get_map _ (by first | omega | (simp only [List.length_map, List.length_append, List.length_take, List.length_drop, List.length_cons, List.length_nil]; omega) | (simp; omega) | (simp; done))))) rfl rfl ?_
    refine Ch.step (v := (.d (.agg [(.str ((xs.getD k default).name)), (.int .i64 ((xs.getD k default).kind)), (.slice false 2 (((xs.getD k default).ins).map Pin.d)), (.slice false 1 (((xs.getD k default).cov).map D.str))]))) rfl (.pure (.loadRefA _ _ rfl ag82 sz82 rfl)) rfl rfl ?_
    refine Ch.step (v := (.d (.bool (p (xs.getD k default))))) rfl (.callS 16000 f _ #[.tmp 15] _ hf rfl (.inr ⟨caps, rfl, rfl⟩) (.cons (.d _) (exps_ds caps)) rfl (hp _ (getD_mem (by omega))) (.skip _ _ (back_anys caps)) rfl) rfl rfl ?_
    refine Ch.nil ?_
    refine T_cond (b := (p (xs.getD k default))) rfl (fun h2 => ?_) (fun h2 => ?_)
    · refine T_seq ?_
      refine T_region hc ?_
      refine Ch.step (v := (.d (.int .i64 ((k : Nat) : Int)))) rfl (.pure (.move _ rfl rfl)) rfl rfl ?_
      refine Ch.step (v := (.d (.int .i64 ((k : Nat) : Int)))) rfl (.pure (.assign _ rfl rfl)) rfl rfl ?_
      refine Ch.nil ?_
      refine T_ret ?_
      refine And.intro (.inr rfl) ?_
      exact Exists.intro [(.d (.int .i64 ((k : Nat) : Int)))] (Exists.intro [] (Exists.intro [] (And.intro (.cons (.tmp 4 rfl) .nil) (And.intro (.cons (.any _) (.cons (.any _) .nil)) (And.intro (Exp.of (congrArg (D.int .i64) (by exact (ixF_some (d := default) (by omega) hp0.2 (by assumption)).symm)) (.d _)) (And.intro rfl rfl))))))
    · refine T_skip ?_
      refine T_region hc ?_
      refine Ch.step (v := (.d (.int .i64 (((k : Nat) : Int) + 1)))) rfl (.pure (.int _ _ _ _ _ rfl rfl rfl (intV_add (by first | omega | (simp only [List.length_map, List.length_append, List.length_take, List.length_drop, List.length_cons, List.length_nil]; omega) | (simp; omega) | (simp; done)) (by first | omega | (simp only [List.length_map, List.length_append, List.length_take, List.length_drop, List.length_cons, List.length_nil]; omega) | (simp; omega) | (simp; done))))) rfl rfl ?_
      refine Ch.step (v := (.d (.int .i64 (((k : Nat) : Int) + 1)))) rfl (.pure (.move _ rfl rfl)) rfl rfl ?_
      refine Ch.nil ?_
      refine Exists.intro (k + 1) (And.intro ⟨by omega, upto_succ hp0.2 (by assumption)⟩ (And.intro (by first | omega | (dsimp only; omega)) (Wk.of rfl rfl (And.intro rfl (And.intro rfl (And.intro rfl (And.intro (vI (by first | rfl | omega | (simp; done) | (simp; omega))) trivial)))) trivial)))
  · replace h1 := of_decide_eq_false h1
    refine T_exit ?_
    refine T_seq ?_
    refine T_region hc ?_
    refine Ch.step (v := (.d (.int .i64 (-1)))) rfl (.pure (.assign _ rfl rfl)) rfl rfl ?_
    refine Ch.nil ?_
    refine T_ret ?_
    refine And.intro (.inr rfl) ?_
    exact Exists.intro [(.d (.int .i64 (-1)))] (Exists.intro [] (Exists.intro [] (And.intro (.cons (.tmp 4 rfl) .nil) (And.intro (.cons (.any _) (.cons (.any _) .nil)) (And.intro (Exp.of (congrArg (D.int .i64) (by exact (ixF_none (d := default) (fun j hj => hp0.2 j (by omega))).symm)) (.d _)) (And.intro rfl rfl))))))

theorem sp_impl_areSignals_1 (y x : Sgn) : Sp Try.prog 138 [(.agg [(.str y.name), (.int .i64 y.kind)]), (.ref (.agg [(.str x.name), (.int .i64 x.kind)]))] [.any, .any] (.bool (decide (y.name = x.name))) := by
  refine Sp_intro (lend := true) Try.func138 rfl rfl rfl (fun _ => rfl) (fun c hc hX => ?_)
  refine T_seq ?_
  refine T_region hc ?_
  refine Ch.step (v := (.ptr 2000 0)) rfl (.box 2000 _ _ rfl (.aggD _)) rfl rfl ?_
  refine Ch.step (v := (.d (.bool false))) rfl (.pure (.assign _ rfl rfl)) rfl rfl ?_
  refine Ch.nil ?_
  refine T_seq ?_
  refine T_region hc ?_
  refine Ch.step (v := (.ptr 2000 0)) rfl (.pure (.fldPtr _ _ _ rfl fld85_0 rfl)) rfl rfl ?_
  refine Ch.step (v := (.d (.str y.name))) rfl (.pure (.loadPtr1 _ _ rfl ag9 rfl rfl rfl)) rfl rfl ?_
  refine Ch.step (v := (.d (.ref (.str x.name)))) rfl (.pure (.fldRef _ _ _ rfl fld85_0 rfl rfl rfl)) rfl rfl ?_
  refine Ch.step (v := (.d (.str x.name))) rfl (.pure (.loadRef1 _ _ rfl ag9 rfl rfl)) rfl rfl ?_
  refine Ch.step (v := (.d (.bool (decide (y.name = x.name))))) rfl (.pure (.str _ _ _ _ _ rfl rfl rfl rfl)) rfl rfl ?_
  refine Ch.step (v := (.d (.bool (decide (y.name = x.name))))) rfl (.pure (.assign _ rfl rfl)) rfl rfl ?_
  refine Ch.nil ?_
  refine T_ret ?_
  refine And.intro (.inr rfl) ?_
  exact Exists.intro [(.d (.bool (decide (y.name = x.name))))] (Exists.intro [] (Exists.intro [] (And.intro (.cons (.tmp 3 rfl) .nil) (And.intro (.cons (.any _) (.cons (.any _) .nil)) (And.intro (.d _) (And.intro rfl rfl))))))

theorem sp_impl_areSignals (xs : List Sgn) (hb : bulkF Sgn.bulk xs ≤ 1048576) : Sp Try.prog 87 [(.slice false 2 (xs.map Sgn.d))] [.any] (.bool (sigsB xs)) := by
  refine Sp_intro (lend := true) Try.func87 rfl rfl rfl (fun _ => rfl) (fun c hc hX => ?_)
  have hn := bulkF_len hb
  refine T_seq ?_
  refine T_region hc ?_
  refine Ch.step (v := (.d (.bool false))) rfl (.pure (.assign _ rfl rfl)) rfl rfl ?_
  refine Ch.nil ?_
  refine T_seq ?_
  refine T_seq ?_
  refine T_region hc ?_
  refine Ch.step (v := (.d (.slice false 2 (xs.map Sgn.d)))) rfl (.pure (.move _ rfl rfl)) rfl rfl ?_
  refine Ch.step (v := (.d (.int .i64 ((xs.length : Nat) : Int)))) rfl (.pure (.len _ _ 85 rfl Try.underlying41 (.sh _ _) (by simp))) rfl rfl ?_
  refine Ch.step (v := (.d (.int .i64 0))) rfl (.pure (.move _ rfl rfl)) rfl rfl ?_
  refine Ch.nil ?_
  refine T_block ?_
  refine T_loop (ι := Nat) (fun k => { n := 33, sl := [(0, (.d (.slice false 2 (xs.map Sgn.d)))), (5, (.d (.slice false 2 (xs.map Sgn.d)))), (6, (.d (.int .i64 ((xs.length : Nat) : Int)))), (7, (.d (.int .i64 ((k : Nat) : Int))))], hp := [], pin := [] }) (fun k => k ≤ xs.length ∧ ∀ j, j < k → sigOk xs j = true) (fun k => xs.length - k) ⟨0, ⟨by omega, fun j hj => by omega⟩, (Wk.of rfl rfl (And.intro rfl (And.intro rfl (And.intro rfl (And.intro (vI (by first | rfl | omega | (simp; done) | (simp; omega))) trivial)))) trivial)⟩ (fun k hp0 => ?_)
  refine T_seq ?_
  refine T_region hc ?_
  refine Ch.step (v := (.d (.bool (decide (((k : Nat) : Int) < ((xs.length : Nat) : Int)))))) rfl (.pure (.int _ _ _ _ _ rfl rfl rfl rfl)) rfl rfl ?_
  refine Ch.nil ?_
  refine T_seq ?_
  refine T_cond (b := (decide (((k : Nat) : Int) < ((xs.length : Nat) : Int)))) rfl (fun h1 => ?_) (fun h1 => ?_)
  · replace h1 := of_decide_eq_true h1
    try have hk : (xs.getD k default).name.length ≤ 1048576 := bulkF_mem hb _ (getD_mem (l := xs) (j := k) (d := default) (by omega))
    refine T_skip ?_
    refine T_seq ?_
    refine T_block ?_
    refine T_seq ?_
    refine T_region hc ?_
    refine Ch.step (v := (.d (.int .i64 ((k : Nat) : Int)))) rfl (.pure (.move _ rfl rfl)) rfl rfl ?_
    refine Ch.step (v := (.d (.ref (.agg [(.str ((xs.getD k default).name)), (.int .i64 ((xs.getD k default).kind))])))) rfl (.pure (.idx _ _ _ 85 (k) rfl Try.underlying41 sz85 rfl rfl rfl (get_map _ (by first | omega | (simp only [List.length_map, List.length_append, List.length_take, List.length_drop, List.length_cons, List.length_nil]; omega) | (simp; omega) | (simp; done))))) rfl rfl ?_
    refine Ch.step (v := (.d (.agg [(.str ((xs.getD k default).name)), (.int .i64 ((xs.getD k default).kind))]))) rfl (.pure (.loadRefA _ _ rfl ag85 sz85 rfl)) rfl rfl ?_
    refine Ch.step (v := (.ptr 4000 0)) rfl (.alloc 4000 _ rfl zer85) rfl rfl ?_
    refine Ch.step (v := (.d (.int .i64 ((k : Nat) : Int)))) rfl (.pure (.assign _ rfl rfl)) rfl rfl ?_
    refine Ch.step (v := .junk) rfl (.storePtr _ _ _ rfl rfl rfl (.aggD _) sz85 (Nat.le_of_ble_eq_true rfl)) rfl rfl ?_
    refine Ch.nil ?_
    refine T_seq ?_
    refine T_region hc ?_
    refine Ch.step (v := (.ptr 4000 0)) rfl (.pure (.fldPtr _ _ _ rfl fld85_0 rfl)) rfl rfl ?_
    refine Ch.step (v := (.d (.str ((xs.getD k default).name)))) rfl (.pure (.loadPtr1 _ _ rfl ag9 rfl rfl rfl)) rfl rfl ?_
    refine Ch.step (v := (.d (.bool (nameB ((xs.getD k default).name))))) rfl (.call 14000 109 _ _ _ en109 rfl (.inl rfl) (.cons (.d _) .nil) rfl rfl (sp_impl_isName ((xs.getD k default).name) (by first | omega | assumption | (exact hx _ (getD_mem (by omega))) | (exact hx _ (by assumption)) | (exact Nat.le_trans (hx _ (by assumption)) (by omega)) | (simp only [List.length_append, List.length_take, List.length_drop, List.length_cons, List.length_nil]; omega) | (simp_all; done))) (.skip _ _ .nil) rfl) rfl rfl ?_
    refine Ch.step (v := (.d (.bool (!(nameB ((xs.getD k default).name)))))) rfl (.pure (.not _ _ rfl rfl)) rfl rfl ?_
    refine Ch.step (v := (.d (.bool (!(nameB ((xs.getD k default).name)))))) rfl (.pure (.move _ rfl rfl)) rfl rfl ?_
    cases h2 : (nameB ((xs.getD k default).name)) with
    | true =>
      refine Ch.step (v := (.ptr 4000 1)) rfl (.pure (.fldPtr _ _ _ rfl fld85_1 rfl)) rfl rfl ?_
      refine Ch.step (v := (.d (.int .i64 ((xs.getD k default).kind)))) rfl (.pure (.loadPtr1 _ _ rfl ag3 rfl rfl rfl)) rfl rfl ?_
      refine Ch.step (v := (.d (.bool (withinB ((xs.getD k default).kind) 1 3)))) rfl (.call 19000 98 _ _ _ en98 rfl (.inl rfl) (.cons (.d _) (.cons (.d _) (.cons (.d _) .nil))) rfl rfl (sp_impl_within ((xs.getD k default).kind) 1 3) (.skip _ _ (.skip _ _ (.skip _ _ .nil))) rfl) rfl rfl ?_
      refine Ch.step (v := (.d (.bool (!(withinB ((xs.getD k default).kind) 1 3))))) rfl (.pure (.not _ _ rfl rfl)) rfl rfl ?_
      refine Ch.step (v := (.d (.bool (!(withinB ((xs.getD k default).kind) 1 3))))) rfl (.pure (.pickF _ _ _ rfl rfl rfl)) rfl rfl ?_
      refine Ch.step (v := (.d (.bool (!(withinB ((xs.getD k default).kind) 1 3))))) rfl (.pure (.move _ rfl rfl)) rfl rfl ?_
      cases h3 : (withinB ((xs.getD k default).kind) 1 3) with
      | true =>
        refine Ch.step (v := (.d (.slice false 2 (xs.map Sgn.d)))) rfl (.pure (.move _ rfl rfl)) rfl rfl ?_
        refine Ch.step (v := (.d (.int .i64 ((k : Nat) : Int)))) rfl (.pure (.move _ rfl rfl)) rfl rfl ?_
        refine Ch.step (v := (.d (.slice false 2 ((xs.take k).map Sgn.d)))) rfl (.pure (.sliceSh _ _ _ _ 85 (0) (k) rfl Try.underlying41 sz85 rfl (bndN rfl) (bndS rfl rfl) (by simp <;> omega) (by simp <;> omega) (by simp [List.map_take, List.map_drop]))) rfl rfl ?_
        refine Ch.step (v := (.fn 138 [(.ptr 4000 0)])) rfl (.pure (.func _ _ rfl rfl)) rfl rfl ?_
        refine Ch.step (v := (.d (.bool ((xs.take k).any (fun y => decide (y.name = (xs.getD k default).name)))))) rfl (.call 27000 137 _ _ _ en137 rfl (.inl rfl) (.cons (.d _) (.cons (.lend (.fn (.cons (.ptr rfl (.agg (.cons (.d _) (.cons (.d _) .nil)) rfl)) .nil))) .nil)) rfl rfl (sp_ContainsFunc_sgn (xs.take k) 138 [(.ref (.agg [(.str ((xs.getD k default).name)), (.int .i64 ((xs.getD k default).kind))]))] (fun y => decide (y.name = (xs.getD k default).name)) en138 (fun y _ => sp_impl_areSignals_1 y (xs.getD k default)) (by first | omega | assumption | (exact hx _ (getD_mem (by omega))) | (exact hx _ (by assumption)) | (exact Nat.le_trans (hx _ (by assumption)) (by omega)) | (simp only [List.length_append, List.length_take, List.length_drop, List.length_cons, List.length_nil]; omega) | (simp_all; done))) (.skip _ _ (.skip _ _ .nil)) rfl) rfl rfl ?_
        refine Ch.step (v := (.d (.bool ((xs.take k).any (fun y => decide (y.name = (xs.getD k default).name)))))) rfl (.pure (.pickF _ _ _ rfl rfl rfl)) rfl rfl ?_
        refine Ch.nil ?_
        refine T_cond (b := ((xs.take k).any (fun y => decide (y.name = (xs.getD k default).name)))) rfl (fun h4 => ?_) (fun h4 => ?_)
        · refine T_seq ?_
          refine T_region hc ?_
          refine Ch.step (v := (.d (.bool false))) rfl (.pure (.assign _ rfl rfl)) rfl rfl ?_
          refine Ch.nil ?_
          refine T_ret ?_
          refine And.intro (.inr rfl) ?_
          exact Exists.intro [(.d (.bool false))] (Exists.intro [] (Exists.intro [] (And.intro (.cons (.tmp 2 rfl) .nil) (And.intro (.cons (.any _) .nil) (And.intro (Exp.of (congrArg D.bool (by first | (rw [sigsB, allB_no k (by omega) (by first | (simp_all [sigOk]; done) | (simp_all [sigOk]; omega))] <;> rfl) | (rw [sigsB, allB_of (fun j hj => hp0.2 j (by omega)), Bool.true_and]; done))) (.d _)) (And.intro rfl rfl))))))
        · refine T_skip ?_
          refine T_region hc ?_
          refine Ch.step (v := (.d (.int .i64 (((k : Nat) : Int) + 1)))) rfl (.pure (.int _ _ _ _ _ rfl rfl rfl (intV_add (by first | omega | (simp only [List.length_map, List.length_append, List.length_take, List.length_drop, List.length_cons, List.length_nil]; omega) | (simp; omega) | (simp; done)) (by first | omega | (simp only [List.length_map, List.length_append, List.length_take, List.length_drop, List.length_cons, List.length_nil]; omega) | (simp; omega) | (simp; done))))) rfl rfl ?_
          refine Ch.step (v := (.d (.int .i64 (((k : Nat) : Int) + 1)))) rfl (.pure (.move _ rfl rfl)) rfl rfl ?_
          refine Ch.nil ?_
          refine Exists.intro (k + 1) (And.intro ⟨by omega, upto_succ hp0.2 (by first | (rw [sigOk, h2, h3, any_take (by omega) (by omega) hp1.2]; rfl) | (simp_all [sigOk]; done) | (simp_all [sigOk]; omega))⟩ (And.intro (by first | omega | (dsimp only; omega)) (Wk.of rfl rfl (And.intro rfl (And.intro rfl (And.intro rfl (And.intro (vI (by first | rfl | omega | (simp; done) | (simp; omega))) trivial)))) trivial)))
      | false =>
        refine Ch.skip rfl rfl ?_
        refine Ch.skip rfl rfl ?_
        refine Ch.skip rfl rfl ?_
        refine Ch.skip rfl rfl ?_
        refine Ch.skip rfl rfl ?_
        refine Ch.step (v := (.d (.bool true))) rfl (.pure (.pickT _ _ _ rfl rfl rfl)) rfl rfl ?_
        refine Ch.nil ?_
        refine T_cond (b := true) rfl (fun _ => ?_) (fun h => nomatch h)
        refine T_seq ?_
        refine T_region hc ?_
        refine Ch.step (v := (.d (.bool false))) rfl (.pure (.assign _ rfl rfl)) rfl rfl ?_
        refine Ch.nil ?_
        refine T_ret ?_
        refine And.intro (.inr rfl) ?_
        exact Exists.intro [(.d (.bool false))] (Exists.intro [] (Exists.intro [] (And.intro (.cons (.tmp 2 rfl) .nil) (And.intro (.cons (.any _) .nil) (And.intro (Exp.of (congrArg D.bool (by first | (rw [sigsB, allB_no k (by omega) (by first | (simp_all [sigOk]; done) | (simp_all [sigOk]; omega))] <;> rfl) | (rw [sigsB, allB_of (fun j hj => hp0.2 j (by omega)), Bool.true_and]; done))) (.d _)) (And.intro rfl rfl))))))
    | false =>
      refine Ch.skip rfl rfl ?_
      refine Ch.skip rfl rfl ?_
      refine Ch.skip rfl rfl ?_
      refine Ch.skip rfl rfl ?_
      refine Ch.step (v := (.d (.bool true))) rfl (.pure (.pickT _ _ _ rfl rfl rfl)) rfl rfl ?_
      refine Ch.step (v := (.d (.bool true))) rfl (.pure (.move _ rfl rfl)) rfl rfl ?_
      refine Ch.skip rfl rfl ?_
      refine Ch.skip rfl rfl ?_
      refine Ch.skip rfl rfl ?_
      refine Ch.skip rfl rfl ?_
      refine Ch.skip rfl rfl ?_
      refine Ch.step (v := (.d (.bool true))) rfl (.pure (.pickT _ _ _ rfl rfl rfl)) rfl rfl ?_
      refine Ch.nil ?_
      refine T_cond (b := true) rfl (fun _ => ?_) (fun h => nomatch h)
      refine T_seq ?_
      refine T_region hc ?_
      refine Ch.step (v := (.d (.bool false))) rfl (.pure (.assign _ rfl rfl)) rfl rfl ?_
      refine Ch.nil ?_
      refine T_ret ?_
      refine And.intro (.inr rfl) ?_
      exact Exists.intro [(.d (.bool false))] (Exists.intro [] (Exists.intro [] (And.intro (.cons (.tmp 2 rfl) .nil) (And.intro (.cons (.any _) .nil) (And.intro (Exp.of (congrArg D.bool (by first | (rw [sigsB, allB_no k (by omega) (by first | (simp_all [sigOk]; done) | (simp_all [sigOk]; omega))] <;> rfl) | (rw [sigsB, allB_of (fun j hj => hp0.2 j (by omega)), Bool.true_and]; done))) (.d _)) (And.intro rfl rfl))))))
  · replace h1 := of_decide_eq_false h1
    try have hk : (xs.getD k default).name.length ≤ 1048576 := bulkF_mem hb _ (getD_mem (l := xs) (j := k) (d := default) (by omega))
    refine T_exit ?_
    refine T_seq ?_
    refine T_region hc ?_
    refine Ch.step (v := (.d (.slice false 2 (xs.map Sgn.d)))) rfl (.pure (.move _ rfl rfl)) rfl rfl ?_
    refine Ch.step (v := (.d (.int .i64 ((xs.length : Nat) : Int)))) rfl (.pure (.len _ _ 85 rfl Try.underlying41 (.sh _ _) (by simp))) rfl rfl ?_
    refine Ch.step (v := (.d (.bool (withinB ((xs.length : Nat) : Int) 1 8)))) rfl (.call 32000 98 _ _ _ en98 rfl (.inl rfl) (.cons (.d _) (.cons (.d _) (.cons (.d _) .nil))) rfl rfl (sp_impl_within ((xs.length : Nat) : Int) 1 8) (.skip _ _ (.skip _ _ (.skip _ _ .nil))) rfl) rfl rfl ?_
    refine Ch.step (v := (.d (.bool (withinB ((xs.length : Nat) : Int) 1 8)))) rfl (.pure (.assign _ rfl rfl)) rfl rfl ?_
    refine Ch.nil ?_
    refine T_ret ?_
    refine And.intro (.inr rfl) ?_
    exact Exists.intro [(.d (.bool (withinB ((xs.length : Nat) : Int) 1 8)))] (Exists.intro [] (Exists.intro [] (And.intro (.cons (.tmp 2 rfl) .nil) (And.intro (.cons (.any _) .nil) (And.intro (Exp.of (congrArg D.bool (by first | (rw [sigsB, allB_no k (by omega) (by first | (simp_all [sigOk]; done) | (simp_all [sigOk]; omega))] <;> rfl) | (rw [sigsB, allB_of (fun j hj => hp0.2 j (by omega)), Bool.true_and]; done))) (.d _)) (And.intro rfl rfl))))))

theorem any_take {xs : List Sgn} {k m : Nat} (hk : k ≤ xs.length) (hm : (xs.take k).length ≤ m) (h : ∀ j, j < m → decide (((xs.take k).getD j default).name = (xs.getD k default).name) = false) : ((xs.take k).any fun y => decide (y.name = (xs.getD k default).name)) = false :=
  (any_no default fun j hj => h j (by omega)).symm

theorem sp_spec_l2Signals (xs : List Sgn) (hb : bulkF Sgn.bulk xs ≤ 1048576) : Sp Try.prog 84 [(.slice false 2 (xs.map Sgn.d))] [.any] (.bool (sigsB xs)) := by
  refine Sp_intro (lend := true) Try.func84 rfl rfl rfl (fun _ => rfl) (fun c hc hX => ?_)
  have hn := bulkF_len hb
  refine T_seq ?_
  refine T_region hc ?_
  refine Ch.step (v := (.d (.bool false))) rfl (.pure (.assign _ rfl rfl)) rfl rfl ?_
  refine Ch.nil ?_
  refine T_seq ?_
  refine T_seq ?_
  refine T_region hc ?_
  refine Ch.step (v := (.d (.slice false 2 (xs.map Sgn.d)))) rfl (.pure (.move _ rfl rfl)) rfl rfl ?_
  refine Ch.step (v := (.d (.int .i64 ((xs.length : Nat) : Int)))) rfl (.pure (.len _ _ 85 rfl Try.underlying41 (.sh _ _) (by simp))) rfl rfl ?_
  refine Ch.step (v := (.d (.int .i64 0))) rfl (.pure (.move _ rfl rfl)) rfl rfl ?_
  refine Ch.nil ?_
  refine T_block ?_
  refine T_loop (ι := Nat) (fun k => { n := 42, sl := [(0, (.d (.slice false 2 (xs.map Sgn.d)))), (7, (.d (.slice false 2 (xs.map Sgn.d)))), (8, (.d (.int .i64 ((xs.length : Nat) : Int)))), (9, (.d (.int .i64 ((k : Nat) : Int))))], hp := [], pin := [] }) (fun k => k ≤ xs.length ∧ ∀ j, j < k → sigOk xs j = true) (fun k => xs.length - k) ⟨0, ⟨by omega, fun j hj => by omega⟩, (Wk.of rfl rfl (And.intro rfl (And.intro rfl (And.intro rfl (And.intro (vI (by first | rfl | omega | (simp; done) | (simp; omega))) trivial)))) trivial)⟩ (fun k hp0 => ?_)
  refine T_seq ?_
  refine T_region hc ?_
  refine Ch.step (v := (.d (.bool (decide (((k : Nat) : Int) < ((xs.length : Nat) : Int)))))) rfl (.pure (.int _ _ _ _ _ rfl rfl rfl rfl)) rfl rfl ?_
  refine Ch.nil ?_
  refine T_seq ?_
  refine T_cond (b := (decide (((k : Nat) : Int) < ((xs.length : Nat) : Int)))) rfl (fun h1 => ?_) (fun h1 => ?_)
  · replace h1 := of_decide_eq_true h1
    try have hk : (xs.getD k default).name.length ≤ 1048576 := bulkF_mem hb _ (getD_mem (l := xs) (j := k) (d := default) (by omega))
    refine T_skip ?_
    refine T_seq ?_
    refine T_block ?_
    refine T_seq ?_
    refine T_region hc ?_
    refine Ch.step (v := (.d (.int .i64 ((k : Nat) : Int)))) rfl (.pure (.move _ rfl rfl)) rfl rfl ?_
    refine Ch.step (v := (.d (.ref (.agg [(.str ((xs.getD k default).name)), (.int .i64 ((xs.getD k default).kind))])))) rfl (.pure (.idx _ _ _ 85 (k) rfl Try.underlying41 sz85 rfl rfl rfl (get_map _ (by first | omega | (simp only [List.length_map, List.length_append, List.length_take, List.length_drop, List.length_cons, List.length_nil]; omega) | (simp; omega) | (simp; done))))) rfl rfl ?_
    refine Ch.step (v := (.d (.agg [(.str ((xs.getD k default).name)), (.int .i64 ((xs.getD k default).kind))]))) rfl (.pure (.loadRefA _ _ rfl ag85 sz85 rfl)) rfl rfl ?_
    refine Ch.step (v := (.ptr 4000 0)) rfl (.alloc 4000 _ rfl zer85) rfl rfl ?_
    refine Ch.step (v := (.d (.int .i64 ((k : Nat) : Int)))) rfl (.pure (.assign _ rfl rfl)) rfl rfl ?_
    refine Ch.step (v := .junk) rfl (.storePtr _ _ _ rfl rfl rfl (.aggD _) sz85 (Nat.le_of_ble_eq_true rfl)) rfl rfl ?_
    refine Ch.nil ?_
    refine T_seq ?_
    refine T_seq ?_
    refine T_region hc ?_
    refine Ch.step (v := (.ptr 4000 0)) rfl (.pure (.fldPtr _ _ _ rfl fld85_0 rfl)) rfl rfl ?_
    refine Ch.step (v := (.d (.str ((xs.getD k default).name)))) rfl (.pure (.loadPtr1 _ _ rfl ag9 rfl rfl rfl)) rfl rfl ?_
    refine Ch.step (v := (.d (.bool (nameB ((xs.getD k default).name))))) rfl (.call 16000 135 _ _ _ en135 rfl (.inl rfl) (.cons (.d _) .nil) rfl rfl (sp_spec_l2Name ((xs.getD k default).name) (by first | omega | assumption | (exact hx _ (getD_mem (by omega))) | (exact hx _ (by assumption)) | (exact Nat.le_trans (hx _ (by assumption)) (by omega)) | (simp only [List.length_append, List.length_take, List.length_drop, List.length_cons, List.length_nil]; omega) | (simp_all; done))) (.skip _ _ .nil) rfl) rfl rfl ?_
    refine Ch.step (v := (.d (.bool (!(nameB ((xs.getD k default).name)))))) rfl (.pure (.not _ _ rfl rfl)) rfl rfl ?_
    refine Ch.step (v := (.d (.bool (!(nameB ((xs.getD k default).name)))))) rfl (.pure (.move _ rfl rfl)) rfl rfl ?_
    cases h2 : (nameB ((xs.getD k default).name)) with
    | true =>
      refine Ch.step (v := (.ptr 4000 1)) rfl (.pure (.fldPtr _ _ _ rfl fld85_1 rfl)) rfl rfl ?_
      refine Ch.step (v := (.d (.int .i64 ((xs.getD k default).kind)))) rfl (.pure (.loadPtr1 _ _ rfl ag3 rfl rfl rfl)) rfl rfl ?_
      refine Ch.step (v := (.d (.bool (withinB ((xs.getD k default).kind) 1 3)))) rfl (.call 21000 118 _ _ _ en118 rfl (.inl rfl) (.cons (.d _) (.cons (.d _) (.cons (.d _) .nil))) rfl rfl (sp_spec_l1In ((xs.getD k default).kind) 1 3) (.skip _ _ (.skip _ _ (.skip _ _ .nil))) rfl) rfl rfl ?_
      refine Ch.step (v := (.d (.bool (!(withinB ((xs.getD k default).kind) 1 3))))) rfl (.pure (.not _ _ rfl rfl)) rfl rfl ?_
      refine Ch.step (v := (.d (.bool (!(withinB ((xs.getD k default).kind) 1 3))))) rfl (.pure (.pickF _ _ _ rfl rfl rfl)) rfl rfl ?_
      refine Ch.nil ?_
      refine T_cond (b := (!(withinB ((xs.getD k default).kind) 1 3))) rfl (fun h3 => ?_) (fun h3 => ?_)
      · replace h3 := nott h3
        refine T_seq ?_
        refine T_region hc ?_
        refine Ch.step (v := (.d (.bool false))) rfl (.pure (.assign _ rfl rfl)) rfl rfl ?_
        refine Ch.nil ?_
        refine T_ret ?_
        refine And.intro (.inr rfl) ?_
        exact Exists.intro [(.d (.bool false))] (Exists.intro [] (Exists.intro [] (And.intro (.cons (.tmp 2 rfl) .nil) (And.intro (.cons (.any _) .nil) (And.intro (Exp.of (congrArg D.bool (by first | (rw [sigsB, allB_no k (by omega) (by first | (rw [sigOk, h2, h3, ← hy]; done) | (rw [sigOk, h2, h3, ← hy]; rfl) | (simp_all [sigOk]; done) | (simp_all [sigOk]; omega))] <;> rfl) | (rw [sigsB, allB_of (fun j hj => hp0.2 j (by omega)), Bool.true_and]; done))) (.d _)) (And.intro rfl rfl))))))
      · replace h3 := notf h3
        refine T_skip ?_
        refine T_seq ?_
        refine T_region hc ?_
        refine Ch.step (v := (.d (.slice false 2 (xs.map Sgn.d)))) rfl (.pure (.move _ rfl rfl)) rfl rfl ?_
        refine Ch.step (v := (.d (.int .i64 ((k : Nat) : Int)))) rfl (.pure (.move _ rfl rfl)) rfl rfl ?_
        refine Ch.step (v := (.d (.slice false 2 ((xs.take k).map Sgn.d)))) rfl (.pure (.sliceSh _ _ _ _ 85 (0) (k) rfl Try.underlying41 sz85 rfl (bndN rfl) (bndS rfl rfl) (by simp <;> omega) (by simp <;> omega) (by simp [List.map_take, List.map_drop]))) rfl rfl ?_
        refine Ch.step (v := (.d (.int .i64 (((xs.take k).length : Nat) : Int)))) rfl (.pure (.len _ _ 85 rfl Try.underlying41 (.sh _ _) (by simp))) rfl rfl ?_
        refine Ch.step (v := (.d (.int .i64 0))) rfl (.pure (.move _ rfl rfl)) rfl rfl ?_
        refine Ch.nil ?_
        refine T_block ?_
        refine T_loop (ι := Nat) (fun m => { n := 42, sl := [(0, (.d (.slice false 2 (xs.map Sgn.d)))), (4, (.ptr 4000 0)), (7, (.d (.slice false 2 (xs.map Sgn.d)))), (8, (.d (.int .i64 ((xs.length : Nat) : Int)))), (9, (.d (.int .i64 ((k : Nat) : Int)))), (26, (.d (.slice false 2 ((xs.take k).map Sgn.d)))), (27, (.d (.int .i64 (((xs.take k).length : Nat) : Int)))), (28, (.d (.int .i64 ((m : Nat) : Int))))], hp := [(4000, (some (.box [(.d (.str ((xs.getD k default).name))), (.d (.int .i64 ((xs.getD k default).kind)))])))], pin := [] }) (fun m => m ≤ (xs.take k).length ∧ ∀ j, j < m → decide (((xs.take k).getD j default).name = (xs.getD k default).name) = false) (fun m => (xs.take k).length - m) ⟨0, ⟨by omega, fun j hj => by omega⟩, (Wk.of rfl rfl (And.intro rfl (And.intro rfl (And.intro rfl (And.intro rfl (And.intro rfl (And.intro rfl (And.intro rfl (And.intro (vI (by first | rfl | omega | (simp; done) | (simp; omega))) trivial)))))))) (And.intro rfl trivial))⟩ (fun m hp1 => ?_)
        have hlt : (xs.take k).length = k := by simp; omega
        refine T_seq ?_
        refine T_region hc ?_
        refine Ch.step (v := (.d (.bool (decide (((m : Nat) : Int) < (((xs.take k).length : Nat) : Int)))))) rfl (.pure (.int _ _ _ _ _ rfl rfl rfl rfl)) rfl rfl ?_
        refine Ch.nil ?_
        refine T_seq ?_
        refine T_cond (b := (decide (((m : Nat) : Int) < (((xs.take k).length : Nat) : Int)))) rfl (fun h4 => ?_) (fun h4 => ?_)
        · replace h4 := of_decide_eq_true h4
          refine T_skip ?_
          refine T_seq ?_
          refine T_block ?_
          refine T_seq ?_
          refine T_region hc ?_
          refine Ch.step (v := (.d (.ref (.agg [(.str (((xs.take k).getD m default).name)), (.int .i64 (((xs.take k).getD m default).kind))])))) rfl (.pure (.idx _ _ _ 85 (m) rfl Try.underlying41 sz85 rfl rfl rfl (get_map _ (by first | omega | (simp only [List.length_map, List.length_append, List.length_take, List.length_drop, List.length_cons, List.length_nil]; omega) | (simp; omega) | (simp; done))))) rfl rfl ?_
          refine Ch.step (v := (.d (.agg [(.str (((xs.take k).getD m default).name)), (.int .i64 (((xs.take k).getD m default).kind))]))) rfl (.pure (.loadRefA _ _ rfl ag85 sz85 rfl)) rfl rfl ?_
          refine Ch.step (v := (.ptr 6000 0)) rfl (.alloc 6000 _ rfl zer85) rfl rfl ?_
          refine Ch.step (v := .junk) rfl (.storePtr _ _ _ rfl rfl rfl (.aggD _) sz85 (Nat.le_of_ble_eq_true rfl)) rfl rfl ?_
          refine Ch.nil ?_
          refine T_seq ?_
          refine T_region hc ?_
          refine Ch.step (v := (.ptr 4000 0)) rfl (.pure (.fldPtr _ _ _ rfl fld85_0 rfl)) rfl rfl ?_
          refine Ch.step (v := (.d (.str ((xs.getD k default).name)))) rfl (.pure (.loadPtr1 _ _ rfl ag9 rfl rfl rfl)) rfl rfl ?_
          refine Ch.step (v := (.ptr 6000 0)) rfl (.pure (.fldPtr _ _ _ rfl fld85_0 rfl)) rfl rfl ?_
          refine Ch.step (v := (.d (.str (((xs.take k).getD m default).name)))) rfl (.pure (.loadPtr1 _ _ rfl ag9 rfl rfl rfl)) rfl rfl ?_
          refine Ch.step (v := (.d (.bool (decide (((xs.getD k default).name) = (((xs.take k).getD m default).name)))))) rfl (.pure (.str _ _ _ _ _ rfl rfl rfl rfl)) rfl rfl ?_
          refine Ch.nil ?_
          refine T_cond (b := (decide (((xs.getD k default).name) = (((xs.take k).getD m default).name)))) rfl (fun h5 => ?_) (fun h5 => ?_)
          · replace h5 := of_decide_eq_true h5
            try have hy := any_yes (p := fun y : Sgn => decide (y.name = (xs.getD k default).name)) (l := xs.take k) default m (by omega) (decide_eq_true h5.symm)
            refine T_seq ?_
            refine T_region hc ?_
            refine Ch.step (v := (.d (.bool false))) rfl (.pure (.assign _ rfl rfl)) rfl rfl ?_
            refine Ch.nil ?_
            refine T_ret ?_
            refine And.intro (.inr rfl) ?_
            exact Exists.intro [(.d (.bool false))] (Exists.intro [] (Exists.intro [] (And.intro (.cons (.tmp 2 rfl) .nil) (And.intro (.cons (.any _) .nil) (And.intro (Exp.of (congrArg D.bool (by first | (rw [sigsB, allB_no k (by omega) (by first | (rw [sigOk, h2, h3, ← hy]; done) | (rw [sigOk, h2, h3, ← hy]; rfl) | (simp_all [sigOk]; done) | (simp_all [sigOk]; omega))] <;> rfl) | (rw [sigsB, allB_of (fun j hj => hp0.2 j (by omega)), Bool.true_and]; done))) (.d _)) (And.intro rfl rfl))))))
          · replace h5 := of_decide_eq_false h5
            try have hy := any_yes (p := fun y : Sgn => decide (y.name = (xs.getD k default).name)) (l := xs.take k) default m (by omega) (decide_eq_true h5.symm)
            refine T_skip ?_
            refine T_region hc ?_
            refine Ch.step (v := (.d (.int .i64 (((m : Nat) : Int) + 1)))) rfl (.pure (.int _ _ _ _ _ rfl rfl rfl (intV_add (by first | omega | (simp only [List.length_map, List.length_append, List.length_take, List.length_drop, List.length_cons, List.length_nil]; omega) | (simp; omega) | (simp; done)) (by first | omega | (simp only [List.length_map, List.length_append, List.length_take, List.length_drop, List.length_cons, List.length_nil]; omega) | (simp; omega) | (simp; done))))) rfl rfl ?_
            refine Ch.step (v := (.d (.int .i64 (((m : Nat) : Int) + 1)))) rfl (.pure (.move _ rfl rfl)) rfl rfl ?_
            refine Ch.nil ?_
            refine Exists.intro (m + 1) (And.intro ⟨by omega, upto_succ hp1.2 (by first | (simp_all; done) | (exact decide_eq_false (fun e => (by assumption : ¬ _) e.symm)))⟩ (And.intro (by first | omega | (dsimp only; omega)) (Wk.of rfl rfl (And.intro rfl (And.intro rfl (And.intro rfl (And.intro rfl (And.intro rfl (And.intro rfl (And.intro rfl (And.intro (vI (by first | rfl | omega | (simp; done) | (simp; omega))) trivial)))))))) (And.intro rfl trivial))))
        · replace h4 := of_decide_eq_false h4
          refine T_exit ?_
          refine T_region hc ?_
          refine Ch.step (v := (.d (.int .i64 (((k : Nat) : Int) + 1)))) rfl (.pure (.int _ _ _ _ _ rfl rfl rfl (intV_add (by first | omega | (simp only [List.length_map, List.length_append, List.length_take, List.length_drop, List.length_cons, List.length_nil]; omega) | (simp; omega) | (simp; done)) (by first | omega | (simp only [List.length_map, List.length_append, List.length_take, List.length_drop, List.length_cons, List.length_nil]; omega) | (simp; omega) | (simp; done))))) rfl rfl ?_
          refine Ch.step (v := (.d (.int .i64 (((k : Nat) : Int) + 1)))) rfl (.pure (.move _ rfl rfl)) rfl rfl ?_
          refine Ch.nil ?_
          refine Exists.intro (k + 1) (And.intro ⟨by omega, upto_succ hp0.2 (by first | (rw [sigOk, h2, h3, any_take (by omega) (by omega) hp1.2]; rfl) | (simp_all [sigOk]; done) | (simp_all [sigOk]; omega))⟩ (And.intro (by first | omega | (dsimp only; omega)) (Wk.of rfl rfl (And.intro rfl (And.intro rfl (And.intro rfl (And.intro (vI (by first | rfl | omega | (simp; done) | (simp; omega))) trivial)))) trivial)))
    | false =>
      refine Ch.skip rfl rfl ?_
      refine Ch.skip rfl rfl ?_
      refine Ch.skip rfl rfl ?_
      refine Ch.skip rfl rfl ?_
      refine Ch.step (v := (.d (.bool true))) rfl (.pure (.pickT _ _ _ rfl rfl rfl)) rfl rfl ?_
      refine Ch.nil ?_
      refine T_cond (b := true) rfl (fun _ => ?_) (fun h => nomatch h)
      refine T_seq ?_
      refine T_region hc ?_
      refine Ch.step (v := (.d (.bool false))) rfl (.pure (.assign _ rfl rfl)) rfl rfl ?_
      refine Ch.nil ?_
      refine T_ret ?_
      refine And.intro (.inr rfl) ?_
      exact Exists.intro [(.d (.bool false))] (Exists.intro [] (Exists.intro [] (And.intro (.cons (.tmp 2 rfl) .nil) (And.intro (.cons (.any _) .nil) (And.intro (Exp.of (congrArg D.bool (by first | (rw [sigsB, allB_no k (by omega) (by first | (rw [sigOk, h2, h3, ← hy]; done) | (rw [sigOk, h2, h3, ← hy]; rfl) | (simp_all [sigOk]; done) | (simp_all [sigOk]; omega))] <;> rfl) | (rw [sigsB, allB_of (fun j hj => hp0.2 j (by omega)), Bool.true_and]; done))) (.d _)) (And.intro rfl rfl))))))
  · replace h1 := of_decide_eq_false h1
    try have hk : (xs.getD k default).name.length ≤ 1048576 := bulkF_mem hb _ (getD_mem (l := xs) (j := k) (d := default) (by omega))
    refine T_exit ?_
    refine T_seq ?_
    refine T_region hc ?_
    refine Ch.step (v := (.d (.slice false 2 (xs.map Sgn.d)))) rfl (.pure (.move _ rfl rfl)) rfl rfl ?_
    refine Ch.step (v := (.d (.int .i64 ((xs.length : Nat) : Int)))) rfl (.pure (.len _ _ 85 rfl Try.underlying41 (.sh _ _) (by simp))) rfl rfl ?_
    refine Ch.step (v := (.d (.bool (withinB ((xs.length : Nat) : Int) 1 8)))) rfl (.call 41000 118 _ _ _ en118 rfl (.inl rfl) (.cons (.d _) (.cons (.d _) (.cons (.d _) .nil))) rfl rfl (sp_spec_l1In ((xs.length : Nat) : Int) 1 8) (.skip _ _ (.skip _ _ (.skip _ _ .nil))) rfl) rfl rfl ?_
    refine Ch.step (v := (.d (.bool (withinB ((xs.length : Nat) : Int) 1 8)))) rfl (.pure (.assign _ rfl rfl)) rfl rfl ?_
    refine Ch.nil ?_
    refine T_ret ?_
    refine And.intro (.inr rfl) ?_
    exact Exists.intro [(.d (.bool (withinB ((xs.length : Nat) : Int) 1 8)))] (Exists.intro [] (Exists.intro [] (And.intro (.cons (.tmp 2 rfl) .nil) (And.intro (.cons (.any _) .nil) (And.intro (Exp.of (congrArg D.bool (by first | (rw [sigsB, allB_no k (by omega) (by first | (rw [sigOk, h2, h3, ← hy]; done) | (rw [sigOk, h2, h3, ← hy]; rfl) | (simp_all [sigOk]; done) | (simp_all [sigOk]; omega))] <;> rfl) | (rw [sigsB, allB_of (fun j hj => hp0.2 j (by omega)), Bool.true_and]; done))) (.d _)) (And.intro rfl rfl))))))

theorem ag38 : AggIs Try.prog 38 true := by unfold AggIs; kernel_rfl

theorem sz38 : SizeIs Try.prog 38 2 := by unfold SizeIs; kernel_rfl

theorem en30 : Enters Try.prog 30 := ⟨_, Try.func30, by kernel_rfl, rfl⟩

theorem en32 : Enters Try.prog 32 := ⟨_, Try.func32, by kernel_rfl, rfl⟩

theorem en34 : Enters Try.prog 34 := ⟨_, Try.func34, by kernel_rfl, rfl⟩

theorem en157 : Enters Try.prog 157 := ⟨_, Try.func157, by kernel_rfl, rfl⟩

theorem en156 : Enters Try.prog 156 := ⟨_, Try.func156, by kernel_rfl, rfl⟩

theorem en155 : Enters Try.prog 155 := ⟨_, Try.func155, by kernel_rfl, rfl⟩

theorem en154 : Enters Try.prog 154 := ⟨_, Try.func154, by kernel_rfl, rfl⟩

theorem en111 : Enters Try.prog 111 := ⟨_, Try.func111, by kernel_rfl, rfl⟩

theorem stru89 : StructIs Try.prog 89 [.int .i64 0, .bool false] [(0, 1), (1, 1)] := structIs_mk (by kernel_rfl) Try.underlying89 (by kernel_rfl)

theorem en87 : Enters Try.prog 87 := ⟨_, Try.func87, by kernel_rfl, rfl⟩

theorem en108 : Enters Try.prog 108 := ⟨_, Try.func108, by kernel_rfl, rfl⟩

theorem en110 : Enters Try.prog 110 := ⟨_, Try.func110, by kernel_rfl, rfl⟩

theorem en171 : Enters Try.prog 171 := ⟨_, Try.func171, by kernel_rfl, rfl⟩

theorem en84 : Enters Try.prog 84 := ⟨_, Try.func84, by kernel_rfl, rfl⟩

theorem en153 : Enters Try.prog 153 := ⟨_, Try.func153, by kernel_rfl, rfl⟩

theorem en107 : Enters Try.prog 107 := ⟨_, Try.func107, by kernel_rfl, rfl⟩

theorem en51 : Enters Try.prog 51 := ⟨_, Try.func51, by kernel_rfl, rfl⟩

theorem en52 : Enters Try.prog 52 := ⟨_, Try.func52, by kernel_rfl, rfl⟩

def pinsB (xs : List Pin) (m : Int) : Bool := allOf xs fun p => withinB p.num 0 (m - 1)

def pinK (x : Ntl) (k : Nat) (p : Pin) : Bool := withinB p.num 0 ((x.wires.length : Int) - 1) && !(decide ((x.sigs.length : Int) ≤ (k : Int)) && decide ((k : Int) ≤ p.num))

def pinsK (x : Ntl) (k : Nat) (xs : List Pin) : Bool := allOf xs (pinK x k)

def insB (k : Nat) (w : Wir) : Bool :=
  if w.kind = 1 then decide ((w.ins.length : Int) = 0)
  else if w.kind = 4 then decide ((w.ins.length : Int) = 2)
  else if w.kind = 5 then decide ((w.ins.length : Int) = 0) || (decide ((w.ins.length : Int) = 1) && decide (w.ins.getD 0 default = Pin.mk (k : Int) false))
  else withinB (w.ins.length : Int) 1 8

theorem pin_eq (p : Pin) (k : Int) : decide (p = Pin.mk k false) = (decide (p.num = k) && !p.neg) := by
  cases p; rename_i a b; cases b <;> simp

def pinS (x : Ntl) (k : Nat) (w : Wir) : Bool := pinsK x k w.ins && insB k w

def wirI (x : Ntl) (k : Nat) (w : Wir) : Bool := !(!decide (w.kind = 5) && decide ((0 : Int) < (w.cov.length : Int))) && (pinsB w.ins (x.wires.length : Int) &&
  (if w.kind = 5 then goodB (x.sigs.length : Int) w.cov && insB k w else withinB w.kind 1 4 && insB k w))

def seenB (x : Ntl) (k : Nat) (w : Wir) : Bool := decide (w.name = (x.sigs.getD k default).name) && decide (decide (w.kind = 1) = decide ((x.sigs.getD k default).kind = 1))

def wirS (x : Ntl) (k : Nat) (w : Wir) : Bool := withinB w.kind 1 5 && ((decide ((k : Int) < (x.sigs.length : Int)) || (decide (w.kind = 2) || decide (w.kind = 3))) &&
  ((!decide ((k : Int) < (x.sigs.length : Int)) || seenB x k w) && ((if w.kind = 5 then goodB (x.sigs.length : Int) w.cov else !decide ((0 : Int) < (w.cov.length : Int))) && (nameB w.name && pinS x k w))))

def noOther (xs : List Wir) (u : List UInt8) : Bool := !xs.any fun w => decide (w.name = u)

def wirOkS (x : Ntl) (k : Nat) : Bool := wirS x k (x.wires.getD k default) && noOther (x.wires.take k) (x.wires.getD k default).name

def wirOkI (x : Ntl) (k : Nat) : Bool := wirI x k (x.wires.getD k default) && (nameB (x.wires.getD k default).name && (noOther (x.wires.take k) (x.wires.getD k default).name &&
  (if (k : Int) < (x.sigs.length : Int) then seenB x k (x.wires.getD k default) else (decide ((x.wires.getD k default).kind = 2) || decide ((x.wires.getD k default).kind = 3)) && pinsB (x.wires.getD k default).ins (k : Int))))

def netB (x : Ntl) : Bool := sigsB x.sigs && (withinB (x.wires.length : Int) (x.sigs.length : Int) 24 && allB x.wires.length (wirOkI x))

theorem allOf_and {τ : Type} [Inhabited τ] (xs : List τ) (p q : τ → Bool) : allOf xs (fun x => p x && q x) = (allOf xs p && allOf xs q) := by
  unfold allOf
  rw [Bool.eq_iff_iff]
  simp only [Bool.and_eq_true, allB_true]
  exact ⟨fun h => ⟨fun j hj => (h j hj).1, fun j hj => (h j hj).2⟩, fun h j hj => ⟨h.1 j hj, h.2 j hj⟩⟩

theorem allOf_congr {τ : Type} [Inhabited τ] {xs : List τ} {p q : τ → Bool} (h : ∀ x ∈ xs, p x = q x) : allOf xs p = allOf xs q := by
  unfold allOf
  exact allB_congr fun j hj => h _ (getD_mem hj)

theorem pinsK_seen {x : Ntl} {k : Nat} {xs : List Pin} (h : (k : Int) < (x.sigs.length : Int)) : pinsK x k xs = pinsB xs (x.wires.length : Int) := by
  apply allOf_congr
  intro p _
  rw [pinK, decide_eq_false (by omega : ¬ (x.sigs.length : Int) ≤ (k : Int)), Bool.false_and, Bool.not_false, Bool.and_true]

theorem pinsK_new {x : Ntl} {k : Nat} {xs : List Pin} (h : ¬ (k : Int) < (x.sigs.length : Int)) : pinsK x k xs = (pinsB xs (x.wires.length : Int) && pinsB xs (k : Int)) := by
  unfold pinsB
  rw [← allOf_and]
  apply allOf_congr
  intro p _
  rw [pinK, decide_eq_true (by omega : (x.sigs.length : Int) ≤ (k : Int)), Bool.true_and]
  unfold withinB
  rw [Bool.eq_iff_iff]
  simp only [Bool.and_eq_true, decide_eq_true_iff, Bool.not_eq_true', decide_eq_false_iff_not]
  omega

theorem wirOk_eq (x : Ntl) (k : Nat) : wirOkS x k = wirOkI x k := by
  unfold wirOkS wirOkI
  generalize x.wires.getD k default = w
  generalize noOther (x.wires.take k) w.name = e
  unfold wirS wirI pinS
  by_cases hk : (k : Int) < (x.sigs.length : Int)
  · rw [pinsK_seen hk, if_pos hk, decide_eq_true hk]
    by_cases h5 : w.kind = 5
    · rw [if_pos h5, if_pos h5, decide_eq_true h5]
      have hw : withinB w.kind 1 5 = true := by rw [h5]; rfl
      rw [hw]
      cases seenB x k w <;> cases goodB (x.sigs.length : Int) w.cov <;> cases nameB w.name <;> cases pinsB w.ins (x.wires.length : Int) <;> cases insB k w <;> cases e <;> rfl
    · rw [if_neg h5, if_neg h5, decide_eq_false h5]
      have hw : withinB w.kind 1 5 = withinB w.kind 1 4 := by
        unfold withinB
        rw [Bool.eq_iff_iff]
        simp only [Bool.and_eq_true, decide_eq_true_iff]
        omega
      rw [hw]
      cases seenB x k w <;> cases withinB w.kind 1 4 <;> cases decide ((0 : Int) < (w.cov.length : Int)) <;> cases nameB w.name <;> cases pinsB w.ins (x.wires.length : Int) <;> cases insB k w <;> cases e <;> rfl
  · rw [pinsK_new hk, if_neg hk, decide_eq_false hk]
    by_cases h23 : w.kind = 2 ∨ w.kind = 3
    · have h5 : ¬ w.kind = 5 := by omega
      have hd : (decide (w.kind = 2) || decide (w.kind = 3)) = true := by
        rcases h23 with h | h
        · rw [decide_eq_true h]; rfl
        · rw [decide_eq_true h, Bool.or_true]
      have hw : withinB w.kind 1 5 = true := by rcases h23 with h | h <;> rw [h] <;> rfl
      have hw4 : withinB w.kind 1 4 = true := by rcases h23 with h | h <;> rw [h] <;> rfl
      rw [if_neg h5, if_neg h5, decide_eq_false h5, hd, hw, hw4]
      cases decide ((0 : Int) < (w.cov.length : Int)) <;> cases nameB w.name <;> cases pinsB w.ins (x.wires.length : Int) <;> cases pinsB w.ins (k : Int) <;> cases insB k w <;> cases e <;> rfl
    · have hd : (decide (w.kind = 2) || decide (w.kind = 3)) = false := by
        rw [decide_eq_false (fun h => h23 (.inl h)), decide_eq_false (fun h => h23 (.inr h))]; rfl
      rw [hd]
      simp only [Bool.false_or, Bool.false_and, Bool.and_false]

theorem netB_S (x : Ntl) : netB x = (sigsB x.sigs && (withinB (x.wires.length : Int) (x.sigs.length : Int) 24 && allB x.wires.length (wirOkS x))) := by
  rw [netB]; congr 2; exact allB_congr fun j _ => (wirOk_eq x j).symm

theorem any_takeF {τ : Type} [Inhabited τ] {xs : List τ} {m : Nat} {p : τ → Bool} (hm : xs.length ≤ m) (h : ∀ j, j < m → p (xs.getD j default) = false) : xs.any p = false :=
  (any_no default fun j hj => h j (by omega)).symm

theorem pinsAny (xs : List Pin) (m : Int) : (xs.any fun p => !withinB p.num 0 (m - 1)) = !pinsB xs m := any_not xs fun p => withinB p.num 0 (m - 1)

theorem ix_no (xs : List Wir) (u : List UInt8) : (decide ((0 : Int) ≤ ixF (fun w => decide (w.name = u)) xs)) = !noOther xs u := by
  rw [noOther, Bool.not_not]; exact ixF_nonneg (fun w : Wir => decide (w.name = u)) xs

theorem ix_yes {xs : List Wir} {u : List UInt8} (h : (0 : Int) ≤ ixF (fun w => decide (w.name = u)) xs) : noOther xs u = false := by
  have := ix_no xs u
  rw [decide_eq_true h] at this
  cases hh : noOther xs u with
  | true => rw [hh] at this; cases this
  | false => rfl

theorem ix_none {xs : List Wir} {u : List UInt8} (h : ¬ (0 : Int) ≤ ixF (fun w => decide (w.name = u)) xs) : noOther xs u = true := by
  have := ix_no xs u
  rw [decide_eq_false h] at this
  cases hh : noOther xs u with
  | true => rfl
  | false => rw [hh] at this; cases this

theorem sp_impl_arePins_1 (p : Pin) (m : Int) (hm0 : 0 ≤ m) (hm : m ≤ 1048576) : Sp Try.prog 157 [(.agg [(.int .i64 p.num), (.bool (p.neg))]), (.ref (.int .i64 m))] [.any, .any] (.bool (!withinB p.num 0 (m - 1))) := by
  refine Sp_intro (lend := true) Try.func157 rfl rfl rfl (fun _ => rfl) (fun c hc hX => ?_)
  refine T_seq ?_
  refine T_region hc ?_
  refine Ch.step (v := (.ptr 2000 0)) rfl (.box 2000 _ _ rfl (.aggD _)) rfl rfl ?_
  refine Ch.step (v := (.d (.bool false))) rfl (.pure (.assign _ rfl rfl)) rfl rfl ?_
  refine Ch.nil ?_
  refine T_seq ?_
  refine T_region hc ?_
  refine Ch.step (v := (.ptr 2000 0)) rfl (.pure (.fldPtr _ _ _ rfl fld89_0 rfl)) rfl rfl ?_
  refine Ch.step (v := (.d (.int .i64 p.num))) rfl (.pure (.loadPtr1 _ _ rfl ag3 rfl rfl rfl)) rfl rfl ?_
  refine Ch.step (v := (.d (.int .i64 m))) rfl (.pure (.loadRef1 _ _ rfl ag3 rfl rfl)) rfl rfl ?_
  refine Ch.step (v := (.d (.int .i64 (m - 1)))) rfl (.pure (.int _ _ _ _ _ rfl rfl rfl (intV_sub (by first | omega | (simp only [List.length_map, List.length_append, List.length_take, List.length_drop, List.length_cons, List.length_nil]; omega) | (simp; omega) | (simp; done)) (by first | omega | (simp only [List.length_map, List.length_append, List.length_take, List.length_drop, List.length_cons, List.length_nil]; omega) | (simp; omega) | (simp; done))))) rfl rfl ?_
  refine Ch.step (v := (.d (.bool (withinB p.num 0 (m - 1))))) rfl (.call 8000 98 _ _ _ en98 rfl (.inl rfl) (.cons (.d _) (.cons (.d _) (.cons (.d _) .nil))) rfl rfl (sp_impl_within p.num 0 (m - 1)) (.skip _ _ (.skip _ _ (.skip _ _ .nil))) rfl) rfl rfl ?_
  refine Ch.step (v := (.d (.bool (!(withinB p.num 0 (m - 1)))))) rfl (.pure (.not _ _ rfl rfl)) rfl rfl ?_
  refine Ch.step (v := (.d (.bool (!(withinB p.num 0 (m - 1)))))) rfl (.pure (.assign _ rfl rfl)) rfl rfl ?_
  refine Ch.nil ?_
  refine T_ret ?_
  refine And.intro (.inr rfl) ?_
  exact Exists.intro [(.d (.bool (!(withinB p.num 0 (m - 1)))))] (Exists.intro [] (Exists.intro [] (And.intro (.cons (.tmp 3 rfl) .nil) (And.intro (.cons (.any _) (.cons (.any _) .nil)) (And.intro (Exp.of (congrArg D.bool (by rfl)) (.d _)) (And.intro rfl rfl))))))

theorem sp_impl_arePins (xs : List Pin) (m : Int) (hn : xs.length ≤ 1048576) (hm0 : 0 ≤ m) (hm : m ≤ 1048576) : Sp Try.prog 111 [(.slice false 2 (xs.map Pin.d)), (.int .i64 m)] [.any, .any] (.bool (pinsB xs m)) := by
  refine Sp_intro (lend := true) Try.func111 rfl rfl rfl (fun _ => rfl) (fun c hc hX => ?_)
  refine T_seq ?_
  refine T_region hc ?_
  refine Ch.step (v := (.ptr 3000 0)) rfl (.box 3000 _ _ rfl (.one _ rfl)) rfl rfl ?_
  refine Ch.step (v := (.d (.bool false))) rfl (.pure (.assign _ rfl rfl)) rfl rfl ?_
  refine Ch.nil ?_
  refine T_seq ?_
  refine T_region hc ?_
  refine Ch.step (v := (.d (.slice false 2 (xs.map Pin.d)))) rfl (.pure (.move _ rfl rfl)) rfl rfl ?_
  refine Ch.step (v := (.fn 157 [(.ptr 3000 0)])) rfl (.pure (.func _ _ rfl rfl)) rfl rfl ?_
  refine Ch.step (v := (.d (.bool (xs.any (fun p => !withinB p.num 0 (m - 1)))))) rfl (.call 7000 156 _ _ _ en156 rfl (.inl rfl) (.cons (.d _) (.cons (.lend (.fn (.cons (.ptr rfl (.one (.d _) rfl)) .nil))) .nil)) rfl rfl (sp_ContainsFunc_pin xs 157 [(.ref (.int .i64 m))] (fun p => !withinB p.num 0 (m - 1)) en157 (fun p _ => sp_impl_arePins_1 p m (by omega) (by omega)) (by first | omega | assumption | (exact hx _ (getD_mem (by omega))) | (exact hx _ (by assumption)) | (exact Nat.le_trans (hx _ (by assumption)) (by omega)) | (simp only [List.length_append, List.length_take, List.length_drop, List.length_cons, List.length_nil]; omega) | (simp_all; done))) (.skip _ _ (.skip _ _ .nil)) rfl) rfl rfl ?_
  refine Ch.step (v := (.d (.bool (!(xs.any (fun p => !withinB p.num 0 (m - 1))))))) rfl (.pure (.not _ _ rfl rfl)) rfl rfl ?_
  refine Ch.step (v := (.d (.bool (!(xs.any (fun p => !withinB p.num 0 (m - 1))))))) rfl (.pure (.assign _ rfl rfl)) rfl rfl ?_
  refine Ch.nil ?_
  refine T_ret ?_
  refine And.intro (.inr rfl) ?_
  exact Exists.intro [(.d (.bool (!(xs.any (fun p => !withinB p.num 0 (m - 1))))))] (Exists.intro [] (Exists.intro [] (And.intro (.cons (.tmp 4 rfl) .nil) (And.intro (.cons (.any _) (.cons (.any _) .nil)) (And.intro (Exp.of (congrArg D.bool (by rw [pinsAny, Bool.not_not])) (.d _)) (And.intro rfl rfl))))))

theorem sp_impl_wireOf_1 (w : Wir) (u : List UInt8) : Sp Try.prog 155 [(.agg [(.str w.name), (.int .i64 w.kind), (.slice false 2 (w.ins.map Pin.d)), (.slice false 1 (w.cov.map D.str))]), (.ref (.str u))] [.any, .any] (.bool (decide (w.name = u))) := by
  refine Sp_intro (lend := true) Try.func155 rfl rfl rfl (fun _ => rfl) (fun c hc hX => ?_)
  refine T_seq ?_
  refine T_region hc ?_
  refine Ch.step (v := (.ptr 2000 0)) rfl (.box 2000 _ _ rfl (.aggD _)) rfl rfl ?_
  refine Ch.step (v := (.d (.bool false))) rfl (.pure (.assign _ rfl rfl)) rfl rfl ?_
  refine Ch.nil ?_
  refine T_seq ?_
  refine T_region hc ?_
  refine Ch.step (v := (.ptr 2000 0)) rfl (.pure (.fldPtr _ _ _ rfl fld82_0 rfl)) rfl rfl ?_
  refine Ch.step (v := (.d (.str w.name))) rfl (.pure (.loadPtr1 _ _ rfl ag9 rfl rfl rfl)) rfl rfl ?_
  refine Ch.step (v := (.d (.str u))) rfl (.pure (.loadRef1 _ _ rfl ag9 rfl rfl)) rfl rfl ?_
  refine Ch.step (v := (.d (.bool (decide (w.name = u))))) rfl (.pure (.str _ _ _ _ _ rfl rfl rfl rfl)) rfl rfl ?_
  refine Ch.step (v := (.d (.bool (decide (w.name = u))))) rfl (.pure (.assign _ rfl rfl)) rfl rfl ?_
  refine Ch.nil ?_
  refine T_ret ?_
  refine And.intro (.inr rfl) ?_
  exact Exists.intro [(.d (.bool (decide (w.name = u))))] (Exists.intro [] (Exists.intro [] (And.intro (.cons (.tmp 3 rfl) .nil) (And.intro (.cons (.any _) (.cons (.any _) .nil)) (And.intro (.d _) (And.intro rfl rfl))))))

theorem sp_impl_wireOf (xs : List Wir) (u : List UInt8) (hn : xs.length ≤ 1048576) : Sp Try.prog 110 [(.slice false 4 (xs.map Wir.d)), (.str u)] [.any, .any] (.int .i64 (ixF (fun w => decide (w.name = u)) xs)) := by
  refine Sp_intro (lend := true) Try.func110 rfl rfl rfl (fun _ => rfl) (fun c hc hX => ?_)
  refine T_seq ?_
  refine T_region hc ?_
  refine Ch.step (v := (.ptr 3000 0)) rfl (.box 3000 _ _ rfl (.one _ rfl)) rfl rfl ?_
  refine Ch.step (v := (.d (.int .i64 0))) rfl (.pure (.assign _ rfl rfl)) rfl rfl ?_
  refine Ch.nil ?_
  refine T_seq ?_
  refine T_region hc ?_
  refine Ch.step (v := (.d (.slice false 4 (xs.map Wir.d)))) rfl (.pure (.move _ rfl rfl)) rfl rfl ?_
  refine Ch.step (v := (.fn 155 [(.ptr 3000 0)])) rfl (.pure (.func _ _ rfl rfl)) rfl rfl ?_
  refine Ch.step (v := (.d (.int .i64 (ixF (fun w => decide (w.name = u)) xs)))) rfl (.call 7000 154 _ _ _ en154 rfl (.inl rfl) (.cons (.d _) (.cons (.lend (.fn (.cons (.ptr rfl (.one (.d _) rfl)) .nil))) .nil)) rfl rfl (sp_IndexFunc_wir xs 155 [(.ref (.str u))] (fun w => decide (w.name = u)) en155 (fun w _ => sp_impl_wireOf_1 w u) (by first | omega | assumption | (exact hx _ (getD_mem (by omega))) | (exact hx _ (by assumption)) | (exact Nat.le_trans (hx _ (by assumption)) (by omega)) | (simp only [List.length_append, List.length_take, List.length_drop, List.length_cons, List.length_nil]; omega) | (simp_all; done))) (.skip _ _ (.skip _ _ .nil)) rfl) rfl rfl ?_
  refine Ch.step (v := (.d (.int .i64 (ixF (fun w => decide (w.name = u)) xs)))) rfl (.pure (.assign _ rfl rfl)) rfl rfl ?_
  refine Ch.nil ?_
  refine T_ret ?_
  refine And.intro (.inr rfl) ?_
  exact Exists.intro [(.d (.int .i64 (ixF (fun w => decide (w.name = u)) xs)))] (Exists.intro [] (Exists.intro [] (And.intro (.cons (.tmp 4 rfl) .nil) (And.intro (.cons (.any _) (.cons (.any _) .nil)) (And.intro (.d _) (And.intro rfl rfl))))))

set_option maxHeartbeats 2000000 in
theorem sp_impl_isWire (x : Ntl) (k : Nat) (hb : x.bulk ≤ 1048576) (hk : k < x.wires.length) : Sp Try.prog 108 [(.agg [(.slice false 2 (x.sigs.map Sgn.d)), (.slice false 4 (x.wires.map Wir.d))]), (.int .i64 ((k : Nat) : Int))] [.any, .any] (.bool (wirI x k (x.wires.getD k default))) := by
  refine Sp_intro (lend := true) Try.func108 rfl rfl rfl (fun _ => rfl) (fun c hc hX => ?_)
  obtain ⟨hp0, hp1⟩ := Ntl.parts hb
  have hn0 := bulkF_len hp0
  have hn1 := bulkF_len hp1
  have hkw : (x.wires.getD k default).bulk ≤ 1048576 := bulkF_mem hp1 _ (getD_mem (l := x.wires) (j := k) (d := default) (by omega))
  obtain ⟨hq0, hq1, hq2⟩ := Wir.parts hkw
  have hm1 := bulkF_len hq1
  have hm2 := bulk_len hq2
  have hy2 := bulk_mem hq2
  refine T_seq ?_
  refine T_region hc ?_
  refine Ch.step (v := (.ptr 2000 0)) rfl (.box 2000 _ _ rfl (.aggD _)) rfl rfl ?_
  refine Ch.step (v := (.d (.bool false))) rfl (.pure (.assign _ rfl rfl)) rfl rfl ?_
  refine Ch.nil ?_
  refine T_seq ?_
  refine T_region hc ?_
  refine Ch.step (v := (.ptr 2000 1)) rfl (.pure (.fldPtr _ _ _ rfl fld44_1 rfl)) rfl rfl ?_
  refine Ch.step (v := (.d (.slice false 4 (x.wires.map Wir.d)))) rfl (.pure (.loadPtr1 _ _ rfl ag42 rfl rfl rfl)) rfl rfl ?_
  refine Ch.step (v := (.d (.int .i64 ((k : Nat) : Int)))) rfl (.pure (.move _ rfl rfl)) rfl rfl ?_
  refine Ch.step (v := (.d (.ref (.agg [(.str ((x.wires.getD k default).name)), (.int .i64 ((x.wires.getD k default).kind)), (.slice false 2 (((x.wires.getD k default).ins).map Pin.d)), (.slice false 1 (((x.wires.getD k default).cov).map D.str))])))) rfl (.pure (.idx _ _ _ 82 (k) rfl Try.underlying42 sz82 rfl rfl rfl (get_map _ (by first | omega | (simp only [List.length_map, List.length_append, List.length_take, List.length_drop, List.length_cons, List.length_nil]; omega) | (simp; omega) | (simp; done))))) rfl rfl ?_
  refine Ch.step (v := (.d (.agg [(.str ((x.wires.getD k default).name)), (.int .i64 ((x.wires.getD k default).kind)), (.slice false 2 (((x.wires.getD k default).ins).map Pin.d)), (.slice false 1 (((x.wires.getD k default).cov).map D.str))]))) rfl (.pure (.loadRefA _ _ rfl ag82 sz82 rfl)) rfl rfl ?_
  refine Ch.step (v := (.ptr 5000 0)) rfl (.alloc 5000 _ rfl zer82) rfl rfl ?_
  refine Ch.step (v := .junk) rfl (.storePtr _ _ _ rfl rfl rfl (.aggD _) sz82 (Nat.le_of_ble_eq_true rfl)) rfl rfl ?_
  refine Ch.nil ?_
  refine T_seq ?_
  refine T_seq ?_
  refine T_region hc ?_
  refine Ch.step (v := (.ptr 5000 1)) rfl (.pure (.fldPtr _ _ _ rfl fld82_1 rfl)) rfl rfl ?_
  refine Ch.step (v := (.d (.int .i64 ((x.wires.getD k default).kind)))) rfl (.pure (.loadPtr1 _ _ rfl ag3 rfl rfl rfl)) rfl rfl ?_
  refine Ch.step (v := (.d (.bool (!(decide (((x.wires.getD k default).kind) = 5)))))) rfl (.pure (.int _ _ _ _ _ rfl rfl rfl rfl)) rfl rfl ?_
  refine Ch.step (v := (.d (.bool (!(decide (((x.wires.getD k default).kind) = 5)))))) rfl (.pure (.move _ rfl rfl)) rfl rfl ?_
  cases h1 : (decide (((x.wires.getD k default).kind) = 5)) with
  | true =>
    replace h1 := of_decide_eq_true h1
    refine Ch.skip rfl rfl ?_
    refine Ch.skip rfl rfl ?_
    refine Ch.skip rfl rfl ?_
    refine Ch.skip rfl rfl ?_
    refine Ch.step (v := (.d (.bool false))) rfl (.pure (.pickF _ _ _ rfl rfl rfl)) rfl rfl ?_
    refine Ch.step (v := (.d (.bool false))) rfl (.pure (.move _ rfl rfl)) rfl rfl ?_
    refine Ch.step (v := (.ptr 5000 2)) rfl (.pure (.fldPtr _ _ _ rfl fld82_2 rfl)) rfl rfl ?_
    refine Ch.step (v := (.d (.slice false 2 (((x.wires.getD k default).ins).map Pin.d)))) rfl (.pure (.loadPtr1 _ _ rfl ag80 rfl rfl rfl)) rfl rfl ?_
    refine Ch.step (v := (.ptr 2000 1)) rfl (.pure (.fldPtr _ _ _ rfl fld44_1 rfl)) rfl rfl ?_
    refine Ch.step (v := (.d (.slice false 4 (x.wires.map Wir.d)))) rfl (.pure (.loadPtr1 _ _ rfl ag42 rfl rfl rfl)) rfl rfl ?_
    refine Ch.step (v := (.d (.int .i64 ((x.wires.length : Nat) : Int)))) rfl (.pure (.len _ _ 82 rfl Try.underlying42 (.sh _ _) (by simp))) rfl rfl ?_
    refine Ch.step (v := (.d (.bool (pinsB ((x.wires.getD k default).ins) ((x.wires.length : Nat) : Int))))) rfl (.call 26000 111 _ _ _ en111 rfl (.inl rfl) (.cons (.d _) (.cons (.d _) .nil)) rfl rfl (sp_impl_arePins ((x.wires.getD k default).ins) ((x.wires.length : Nat) : Int) (by first | assumption | omega | (rw [List.length_take]; omega) | (have := bulkF_mem hb _ (getD_mem (d := default) (by omega)); assumption) | (unfold bulkS at *; omega) | (simp_all; done)) (by first | assumption | omega | (rw [List.length_take]; omega) | (have := bulkF_mem hb _ (getD_mem (d := default) (by omega)); assumption) | (unfold bulkS at *; omega) | (simp_all; done)) (by first | assumption | omega | (rw [List.length_take]; omega) | (have := bulkF_mem hb _ (getD_mem (d := default) (by omega)); assumption) | (unfold bulkS at *; omega) | (simp_all; done))) (.skip _ _ (.skip _ _ .nil)) rfl) rfl rfl ?_
    refine Ch.step (v := (.d (.bool (!(pinsB ((x.wires.getD k default).ins) ((x.wires.length : Nat) : Int)))))) rfl (.pure (.not _ _ rfl rfl)) rfl rfl ?_
    refine Ch.step (v := (.d (.bool (!(pinsB ((x.wires.getD k default).ins) ((x.wires.length : Nat) : Int)))))) rfl (.pure (.pickF _ _ _ rfl rfl rfl)) rfl rfl ?_
    refine Ch.nil ?_
    refine T_cond (b := (!(pinsB ((x.wires.getD k default).ins) ((x.wires.length : Nat) : Int)))) rfl (fun h2 => ?_) (fun h2 => ?_)
    · replace h2 := nott h2
      refine T_seq ?_
      refine T_region hc ?_
      refine Ch.step (v := (.d (.bool false))) rfl (.pure (.assign _ rfl rfl)) rfl rfl ?_
      refine Ch.nil ?_
      refine T_ret ?_
      refine And.intro (.inr rfl) ?_
      exact Exists.intro [(.d (.bool false))] (Exists.intro [] (Exists.intro [] (And.intro (.cons (.tmp 4 rfl) .nil) (And.intro (.cons (.any _) (.cons (.any _) .nil)) (And.intro (Exp.of (congrArg D.bool (by first | (simp only [wirI, insB, withinB, *, decide_true, decide_false, Bool.and_true, Bool.true_and, Bool.and_false, Bool.false_and, Bool.or_false, Bool.false_or, Bool.or_true, Bool.true_or, Bool.not_true, Bool.not_false, not_false_eq_true, Bool.false_eq_true, if_true, if_false, reduceIte, ite_true, ite_false]; done) | (simp only [wirI, insB, withinB, *, decide_true, decide_false, Bool.and_true, Bool.true_and, Bool.and_false, Bool.false_and, Bool.or_false, Bool.false_or, Bool.or_true, Bool.true_or, Bool.not_true, Bool.not_false, not_false_eq_true, Bool.false_eq_true, if_true, if_false, reduceIte, ite_true, ite_false]; rfl) | (simp only [wirI, insB, withinB]; simp_all; done) | (simp only [wirI, insB, withinB]; simp_all; omega))) (.d _)) (And.intro rfl rfl))))))
    · replace h2 := notf h2
      refine T_skip ?_
      refine T_seq ?_
      refine T_seq ?_
      refine T_region hc ?_
      refine Ch.step (v := (.ptr 5000 1)) rfl (.pure (.fldPtr _ _ _ rfl fld82_1 rfl)) rfl rfl ?_
      refine Ch.step (v := (.d (.int .i64 ((x.wires.getD k default).kind)))) rfl (.pure (.loadPtr1 _ _ rfl ag3 rfl rfl rfl)) rfl rfl ?_
      refine Ch.nil ?_
      refine T_block ?_
      refine T_seq ?_
      refine T_region hc ?_
      refine Ch.step (v := (.d (.bool (decide (((x.wires.getD k default).kind) = 1))))) rfl (.pure (.int _ _ _ _ _ rfl rfl rfl rfl)) rfl rfl ?_
      refine Ch.step (v := (.d (.bool (decide (((x.wires.getD k default).kind) = 1))))) rfl (.pure (.assign _ rfl rfl)) rfl rfl ?_
      refine Ch.nil ?_
      refine T_cond (b := (decide (((x.wires.getD k default).kind) = 1))) rfl (fun h3 => ?_) (fun h3 => ?_)
      · replace h3 := of_decide_eq_true h3
        refine T_seq ?_
        refine T_region hc ?_
        refine Ch.step (v := (.ptr 5000 2)) rfl (.pure (.fldPtr _ _ _ rfl fld82_2 rfl)) rfl rfl ?_
        refine Ch.step (v := (.d (.slice false 2 (((x.wires.getD k default).ins).map Pin.d)))) rfl (.pure (.loadPtr1 _ _ rfl ag80 rfl rfl rfl)) rfl rfl ?_
        refine Ch.step (v := (.d (.int .i64 ((((x.wires.getD k default).ins).length : Nat) : Int)))) rfl (.pure (.len _ _ 89 rfl Try.underlying80 (.sh _ _) (by simp))) rfl rfl ?_
        refine Ch.step (v := (.d (.bool (decide (((((x.wires.getD k default).ins).length : Nat) : Int) = 0))))) rfl (.pure (.int _ _ _ _ _ rfl rfl rfl rfl)) rfl rfl ?_
        refine Ch.step (v := (.d (.bool (decide (((((x.wires.getD k default).ins).length : Nat) : Int) = 0))))) rfl (.pure (.assign _ rfl rfl)) rfl rfl ?_
        refine Ch.nil ?_
        refine T_ret ?_
        refine And.intro (.inr rfl) ?_
        exact Exists.intro [(.d (.bool (decide (((((x.wires.getD k default).ins).length : Nat) : Int) = 0))))] (Exists.intro [] (Exists.intro [] (And.intro (.cons (.tmp 4 rfl) .nil) (And.intro (.cons (.any _) (.cons (.any _) .nil)) (And.intro (Exp.of (congrArg D.bool (by first | (simp only [wirI, insB, withinB, *, decide_true, decide_false, Bool.and_true, Bool.true_and, Bool.and_false, Bool.false_and, Bool.or_false, Bool.false_or, Bool.or_true, Bool.true_or, Bool.not_true, Bool.not_false, not_false_eq_true, Bool.false_eq_true, if_true, if_false, reduceIte, ite_true, ite_false]; done) | (simp only [wirI, insB, withinB, *, decide_true, decide_false, Bool.and_true, Bool.true_and, Bool.and_false, Bool.false_and, Bool.or_false, Bool.false_or, Bool.or_true, Bool.true_or, Bool.not_true, Bool.not_false, not_false_eq_true, Bool.false_eq_true, if_true, if_false, reduceIte, ite_true, ite_false]; rfl) | (simp only [wirI, insB, withinB]; simp_all; done) | (simp only [wirI, insB, withinB]; simp_all; omega))) (.d _)) (And.intro rfl rfl))))))
      · replace h3 := of_decide_eq_false h3
        refine T_seq ?_
        refine T_seq ?_
        refine T_region hc ?_
        refine Ch.step (v := (.d (.bool (decide (((x.wires.getD k default).kind) = 2))))) rfl (.pure (.int _ _ _ _ _ rfl rfl rfl rfl)) rfl rfl ?_
        refine Ch.step (v := (.d (.bool (decide (((x.wires.getD k default).kind) = 2))))) rfl (.pure (.assign _ rfl rfl)) rfl rfl ?_
        refine Ch.nil ?_
        refine T_cond (b := (decide (((x.wires.getD k default).kind) = 2))) rfl (fun h4 => ?_) (fun h4 => ?_)
        · replace h4 := of_decide_eq_true h4
          refine T_skip ?_
          refine T_cond (b := (decide (((x.wires.getD k default).kind) = 2))) rfl (fun h5 => ?_) (fun h5 => ?_)
          · replace h5 := of_decide_eq_true h5
            refine T_seq ?_
            refine T_region hc ?_
            refine Ch.step (v := (.ptr 5000 2)) rfl (.pure (.fldPtr _ _ _ rfl fld82_2 rfl)) rfl rfl ?_
            refine Ch.step (v := (.d (.slice false 2 (((x.wires.getD k default).ins).map Pin.d)))) rfl (.pure (.loadPtr1 _ _ rfl ag80 rfl rfl rfl)) rfl rfl ?_
            refine Ch.step (v := (.d (.int .i64 ((((x.wires.getD k default).ins).length : Nat) : Int)))) rfl (.pure (.len _ _ 89 rfl Try.underlying80 (.sh _ _) (by simp))) rfl rfl ?_
            refine Ch.step (v := (.d (.bool (withinB ((((x.wires.getD k default).ins).length : Nat) : Int) 1 8)))) rfl (.call 43000 98 _ _ _ en98 rfl (.inl rfl) (.cons (.d _) (.cons (.d _) (.cons (.d _) .nil))) rfl rfl (sp_impl_within ((((x.wires.getD k default).ins).length : Nat) : Int) 1 8) (.skip _ _ (.skip _ _ (.skip _ _ .nil))) rfl) rfl rfl ?_
            refine Ch.step (v := (.d (.bool (withinB ((((x.wires.getD k default).ins).length : Nat) : Int) 1 8)))) rfl (.pure (.assign _ rfl rfl)) rfl rfl ?_
            refine Ch.nil ?_
            refine T_ret ?_
            refine And.intro (.inr rfl) ?_
            exact Exists.intro [(.d (.bool (withinB ((((x.wires.getD k default).ins).length : Nat) : Int) 1 8)))] (Exists.intro [] (Exists.intro [] (And.intro (.cons (.tmp 4 rfl) .nil) (And.intro (.cons (.any _) (.cons (.any _) .nil)) (And.intro (Exp.of (congrArg D.bool (by first | (simp only [wirI, insB, withinB, *, decide_true, decide_false, Bool.and_true, Bool.true_and, Bool.and_false, Bool.false_and, Bool.or_false, Bool.false_or, Bool.or_true, Bool.true_or, Bool.not_true, Bool.not_false, not_false_eq_true, Bool.false_eq_true, if_true, if_false, reduceIte, ite_true, ite_false]; done) | (simp only [wirI, insB, withinB, *, decide_true, decide_false, Bool.and_true, Bool.true_and, Bool.and_false, Bool.false_and, Bool.or_false, Bool.false_or, Bool.or_true, Bool.true_or, Bool.not_true, Bool.not_false, not_false_eq_true, Bool.false_eq_true, if_true, if_false, reduceIte, ite_true, ite_false]; rfl) | (simp only [wirI, insB, withinB]; simp_all; done) | (simp only [wirI, insB, withinB]; simp_all; omega))) (.d _)) (And.intro rfl rfl))))))
          · replace h5 := of_decide_eq_false h5
            refine T_seq ?_
            refine T_region hc ?_
            refine Ch.step (v := (.d (.bool (decide (((x.wires.getD k default).kind) = 4))))) rfl (.pure (.int _ _ _ _ _ rfl rfl rfl rfl)) rfl rfl ?_
            refine Ch.step (v := (.d (.bool (decide (((x.wires.getD k default).kind) = 4))))) rfl (.pure (.assign _ rfl rfl)) rfl rfl ?_
            refine Ch.nil ?_
            refine T_cond (b := (decide (((x.wires.getD k default).kind) = 4))) rfl (fun h6 => ?_) (fun h6 => ?_)
            · replace h6 := of_decide_eq_true h6
              refine T_seq ?_
              refine T_region hc ?_
              refine Ch.step (v := (.ptr 5000 2)) rfl (.pure (.fldPtr _ _ _ rfl fld82_2 rfl)) rfl rfl ?_
              refine Ch.step (v := (.d (.slice false 2 (((x.wires.getD k default).ins).map Pin.d)))) rfl (.pure (.loadPtr1 _ _ rfl ag80 rfl rfl rfl)) rfl rfl ?_
              refine Ch.step (v := (.d (.int .i64 ((((x.wires.getD k default).ins).length : Nat) : Int)))) rfl (.pure (.len _ _ 89 rfl Try.underlying80 (.sh _ _) (by simp))) rfl rfl ?_
              refine Ch.step (v := (.d (.bool (decide (((((x.wires.getD k default).ins).length : Nat) : Int) = 2))))) rfl (.pure (.int _ _ _ _ _ rfl rfl rfl rfl)) rfl rfl ?_
              refine Ch.step (v := (.d (.bool (decide (((((x.wires.getD k default).ins).length : Nat) : Int) = 2))))) rfl (.pure (.assign _ rfl rfl)) rfl rfl ?_
              refine Ch.nil ?_
              refine T_ret ?_
              refine And.intro (.inr rfl) ?_
              exact Exists.intro [(.d (.bool (decide (((((x.wires.getD k default).ins).length : Nat) : Int) = 2))))] (Exists.intro [] (Exists.intro [] (And.intro (.cons (.tmp 4 rfl) .nil) (And.intro (.cons (.any _) (.cons (.any _) .nil)) (And.intro (Exp.of (congrArg D.bool (by first | (simp only [wirI, insB, withinB, *, decide_true, decide_false, Bool.and_true, Bool.true_and, Bool.and_false, Bool.false_and, Bool.or_false, Bool.false_or, Bool.or_true, Bool.true_or, Bool.not_true, Bool.not_false, not_false_eq_true, Bool.false_eq_true, if_true, if_false, reduceIte, ite_true, ite_false]; done) | (simp only [wirI, insB, withinB, *, decide_true, decide_false, Bool.and_true, Bool.true_and, Bool.and_false, Bool.false_and, Bool.or_false, Bool.false_or, Bool.or_true, Bool.true_or, Bool.not_true, Bool.not_false, not_false_eq_true, Bool.false_eq_true, if_true, if_false, reduceIte, ite_true, ite_false]; rfl) | (simp only [wirI, insB, withinB]; simp_all; done) | (simp only [wirI, insB, withinB]; simp_all; omega))) (.d _)) (And.intro rfl rfl))))))
            · replace h6 := of_decide_eq_false h6
              refine T_seq ?_
              refine T_region hc ?_
              refine Ch.step (v := (.d (.bool (decide (((x.wires.getD k default).kind) = 5))))) rfl (.pure (.int _ _ _ _ _ rfl rfl rfl rfl)) rfl rfl ?_
              refine Ch.step (v := (.d (.bool (decide (((x.wires.getD k default).kind) = 5))))) rfl (.pure (.assign _ rfl rfl)) rfl rfl ?_
              refine Ch.nil ?_
              refine T_cond (b := (decide (((x.wires.getD k default).kind) = 5))) rfl (fun h7 => ?_) (fun h7 => ?_)
              · replace h7 := of_decide_eq_true h7
                refine T_seq ?_
                refine T_region hc ?_
                refine Ch.step (v := (.ptr 2000 0)) rfl (.pure (.fldPtr _ _ _ rfl fld44_0 rfl)) rfl rfl ?_
                refine Ch.step (v := (.d (.slice false 2 (x.sigs.map Sgn.d)))) rfl (.pure (.loadPtr1 _ _ rfl ag41 rfl rfl rfl)) rfl rfl ?_
                refine Ch.step (v := (.d (.int .i64 ((x.sigs.length : Nat) : Int)))) rfl (.pure (.len _ _ 85 rfl Try.underlying41 (.sh _ _) (by simp))) rfl rfl ?_
                refine Ch.step (v := (.ptr 5000 3)) rfl (.pure (.fldPtr _ _ _ rfl fld82_3 rfl)) rfl rfl ?_
                refine Ch.step (v := (.d (.slice false 1 (((x.wires.getD k default).cov).map D.str)))) rfl (.pure (.loadPtr1 _ _ rfl ag22 rfl rfl rfl)) rfl rfl ?_
                refine Ch.step (v := (.d (.bool (goodB ((x.sigs.length : Nat) : Int) ((x.wires.getD k default).cov))))) rfl (.call 57000 62 _ _ _ en62 rfl (.inl rfl) (.cons (.d _) (.cons (.d _) .nil)) rfl rfl (sp_impl_IsValidCover ((x.sigs.length : Nat) : Int) ((x.wires.getD k default).cov) (by first | omega | assumption | (exact hx _ (getD_mem (by omega))) | (exact hx _ (by assumption)) | (exact Nat.le_trans (hx _ (by assumption)) (by omega)) | (simp only [List.length_append, List.length_take, List.length_drop, List.length_cons, List.length_nil]; omega) | (simp_all; done)) (by first | omega | assumption | (exact hx _ (getD_mem (by omega))) | (exact hx _ (by assumption)) | (exact Nat.le_trans (hx _ (by assumption)) (by omega)) | (simp only [List.length_append, List.length_take, List.length_drop, List.length_cons, List.length_nil]; omega) | (simp_all; done))) (.skip _ _ (.skip _ _ .nil)) rfl) rfl rfl ?_
                refine Ch.step (v := (.d (.bool (goodB ((x.sigs.length : Nat) : Int) ((x.wires.getD k default).cov))))) rfl (.pure (.move _ rfl rfl)) rfl rfl ?_
                cases h8 : (goodB ((x.sigs.length : Nat) : Int) ((x.wires.getD k default).cov)) with
                | true =>
                  refine Ch.step (v := (.ptr 5000 2)) rfl (.pure (.fldPtr _ _ _ rfl fld82_2 rfl)) rfl rfl ?_
                  refine Ch.step (v := (.d (.slice false 2 (((x.wires.getD k default).ins).map Pin.d)))) rfl (.pure (.loadPtr1 _ _ rfl ag80 rfl rfl rfl)) rfl rfl ?_
                  refine Ch.step (v := (.d (.int .i64 ((((x.wires.getD k default).ins).length : Nat) : Int)))) rfl (.pure (.len _ _ 89 rfl Try.underlying80 (.sh _ _) (by simp))) rfl rfl ?_
                  refine Ch.step (v := (.d (.bool (decide (((((x.wires.getD k default).ins).length : Nat) : Int) = 0))))) rfl (.pure (.int _ _ _ _ _ rfl rfl rfl rfl)) rfl rfl ?_
                  refine Ch.step (v := (.d (.bool (decide (((((x.wires.getD k default).ins).length : Nat) : Int) = 0))))) rfl (.pure (.move _ rfl rfl)) rfl rfl ?_
                  cases h9 : (decide (((((x.wires.getD k default).ins).length : Nat) : Int) = 0)) with
                  | true =>
                    replace h9 := of_decide_eq_true h9
                    refine Ch.skip rfl rfl ?_
                    refine Ch.skip rfl rfl ?_
                    refine Ch.skip rfl rfl ?_
                    refine Ch.skip rfl rfl ?_
                    refine Ch.skip rfl rfl ?_
                    refine Ch.skip rfl rfl ?_
                    refine Ch.skip rfl rfl ?_
                    refine Ch.skip rfl rfl ?_
                    refine Ch.skip rfl rfl ?_
                    refine Ch.skip rfl rfl ?_
                    refine Ch.skip rfl rfl ?_
                    refine Ch.skip rfl rfl ?_
                    refine Ch.skip rfl rfl ?_
                    refine Ch.step (v := (.d (.bool true))) rfl (.pure (.pickT _ _ _ rfl rfl rfl)) rfl rfl ?_
                    refine Ch.step (v := (.d (.bool true))) rfl (.pure (.pickT _ _ _ rfl rfl rfl)) rfl rfl ?_
                    refine Ch.step (v := (.d (.bool true))) rfl (.pure (.assign _ rfl rfl)) rfl rfl ?_
                    refine Ch.nil ?_
                    refine T_ret ?_
                    refine And.intro (.inr rfl) ?_
                    exact Exists.intro [(.d (.bool true))] (Exists.intro [] (Exists.intro [] (And.intro (.cons (.tmp 4 rfl) .nil) (And.intro (.cons (.any _) (.cons (.any _) .nil)) (And.intro (Exp.of (congrArg D.bool (by first | (simp only [wirI, insB, withinB, *, decide_true, decide_false, Bool.and_true, Bool.true_and, Bool.and_false, Bool.false_and, Bool.or_false, Bool.false_or, Bool.or_true, Bool.true_or, Bool.not_true, Bool.not_false, not_false_eq_true, Bool.false_eq_true, if_true, if_false, reduceIte, ite_true, ite_false]; done) | (simp only [wirI, insB, withinB, *, decide_true, decide_false, Bool.and_true, Bool.true_and, Bool.and_false, Bool.false_and, Bool.or_false, Bool.false_or, Bool.or_true, Bool.true_or, Bool.not_true, Bool.not_false, not_false_eq_true, Bool.false_eq_true, if_true, if_false, reduceIte, ite_true, ite_false]; rfl) | (simp only [wirI, insB, withinB]; simp_all; done) | (simp only [wirI, insB, withinB]; simp_all; omega))) (.d _)) (And.intro rfl rfl))))))
                  | false =>
                    replace h9 := of_decide_eq_false h9
                    refine Ch.step (v := (.ptr 5000 2)) rfl (.pure (.fldPtr _ _ _ rfl fld82_2 rfl)) rfl rfl ?_
                    refine Ch.step (v := (.d (.slice false 2 (((x.wires.getD k default).ins).map Pin.d)))) rfl (.pure (.loadPtr1 _ _ rfl ag80 rfl rfl rfl)) rfl rfl ?_
                    refine Ch.step (v := (.d (.int .i64 ((((x.wires.getD k default).ins).length : Nat) : Int)))) rfl (.pure (.len _ _ 89 rfl Try.underlying80 (.sh _ _) (by simp))) rfl rfl ?_
                    refine Ch.step (v := (.d (.bool (decide (((((x.wires.getD k default).ins).length : Nat) : Int) = 1))))) rfl (.pure (.int _ _ _ _ _ rfl rfl rfl rfl)) rfl rfl ?_
                    refine Ch.step (v := (.d (.bool (decide (((((x.wires.getD k default).ins).length : Nat) : Int) = 1))))) rfl (.pure (.move _ rfl rfl)) rfl rfl ?_
                    cases h10 : (decide (((((x.wires.getD k default).ins).length : Nat) : Int) = 1)) with
                    | true =>
                      replace h10 := of_decide_eq_true h10
                      refine Ch.step (v := (.ptr 5000 2)) rfl (.pure (.fldPtr _ _ _ rfl fld82_2 rfl)) rfl rfl ?_
                      refine Ch.step (v := (.d (.slice false 2 (((x.wires.getD k default).ins).map Pin.d)))) rfl (.pure (.loadPtr1 _ _ rfl ag80 rfl rfl rfl)) rfl rfl ?_
                      refine Ch.step (v := (.d (.ref (.agg [(.int .i64 ((((x.wires.getD k default).ins).getD 0 default).num)), (.bool ((((x.wires.getD k default).ins).getD 0 default).neg))])))) rfl (.pure (.idx _ _ _ 89 (0) rfl Try.underlying80 sz89 rfl rfl rfl (get_map _ (by first | omega | (simp only [List.length_map, List.length_append, List.length_take, List.length_drop, List.length_cons, List.length_nil]; omega) | (simp; omega) | (simp; done))))) rfl rfl ?_
                      refine Ch.step (v := (.d (.agg [(.int .i64 ((((x.wires.getD k default).ins).getD 0 default).num)), (.bool ((((x.wires.getD k default).ins).getD 0 default).neg))]))) rfl (.pure (.loadRefA _ _ rfl ag89 sz89 rfl)) rfl rfl ?_
                      refine Ch.step (v := (.d (.int .i64 ((k : Nat) : Int)))) rfl (.pure (.move _ rfl rfl)) rfl rfl ?_
                      refine Ch.step (v := (.agg [(.d (.int .i64 ((k : Nat) : Int))), (.d (.bool false))])) rfl (.build _ _ rfl stru89 (.cons (.one _ rfl) .nil) rfl) rfl rfl ?_
                      refine Ch.step (v := (.d (.bool (decide ((((x.wires.getD k default).ins).getD 0 default) = (Pin.mk ((k : Nat) : Int) false)))))) rfl (.pure (.eqA _ _ _ _ rfl (eqa89 _ _ _ _) (.d _) (.v [(.int .i64 ((k : Nat) : Int)), (.bool false)]) (Pin.eqv (((x.wires.getD k default).ins).getD 0 default) (Pin.mk ((k : Nat) : Int) false)))) rfl rfl ?_
                      refine Ch.step (v := (.d (.bool (decide ((((x.wires.getD k default).ins).getD 0 default) = (Pin.mk ((k : Nat) : Int) false)))))) rfl (.pure (.pickT _ _ _ rfl rfl rfl)) rfl rfl ?_
                      refine Ch.step (v := (.d (.bool (decide ((((x.wires.getD k default).ins).getD 0 default) = (Pin.mk ((k : Nat) : Int) false)))))) rfl (.pure (.pickF _ _ _ rfl rfl rfl)) rfl rfl ?_
                      refine Ch.step (v := (.d (.bool (decide ((((x.wires.getD k default).ins).getD 0 default) = (Pin.mk ((k : Nat) : Int) false)))))) rfl (.pure (.pickT _ _ _ rfl rfl rfl)) rfl rfl ?_
                      refine Ch.step (v := (.d (.bool (decide ((((x.wires.getD k default).ins).getD 0 default) = (Pin.mk ((k : Nat) : Int) false)))))) rfl (.pure (.assign _ rfl rfl)) rfl rfl ?_
                      refine Ch.nil ?_
                      refine T_ret ?_
                      refine And.intro (.inr rfl) ?_
                      exact Exists.intro [(.d (.bool (decide ((((x.wires.getD k default).ins).getD 0 default) = (Pin.mk ((k : Nat) : Int) false)))))] (Exists.intro [] (Exists.intro [] (And.intro (.cons (.tmp 4 rfl) .nil) (And.intro (.cons (.any _) (.cons (.any _) .nil)) (And.intro (Exp.of (congrArg D.bool (by first | (simp only [wirI, insB, withinB, *, decide_true, decide_false, Bool.and_true, Bool.true_and, Bool.and_false, Bool.false_and, Bool.or_false, Bool.false_or, Bool.or_true, Bool.true_or, Bool.not_true, Bool.not_false, not_false_eq_true, Bool.false_eq_true, if_true, if_false, reduceIte, ite_true, ite_false]; done) | (simp only [wirI, insB, withinB, *, decide_true, decide_false, Bool.and_true, Bool.true_and, Bool.and_false, Bool.false_and, Bool.or_false, Bool.false_or, Bool.or_true, Bool.true_or, Bool.not_true, Bool.not_false, not_false_eq_true, Bool.false_eq_true, if_true, if_false, reduceIte, ite_true, ite_false]; rfl) | (simp only [wirI, insB, withinB]; simp_all; done) | (simp only [wirI, insB, withinB]; simp_all; omega))) (.d _)) (And.intro rfl rfl))))))
                    | false =>
                      replace h10 := of_decide_eq_false h10
                      refine Ch.skip rfl rfl ?_
                      refine Ch.skip rfl rfl ?_
                      refine Ch.skip rfl rfl ?_
                      refine Ch.skip rfl rfl ?_
                      refine Ch.skip rfl rfl ?_
                      refine Ch.skip rfl rfl ?_
                      refine Ch.skip rfl rfl ?_
                      refine Ch.step (v := (.d (.bool false))) rfl (.pure (.pickF _ _ _ rfl rfl rfl)) rfl rfl ?_
                      refine Ch.step (v := (.d (.bool false))) rfl (.pure (.pickF _ _ _ rfl rfl rfl)) rfl rfl ?_
                      refine Ch.step (v := (.d (.bool false))) rfl (.pure (.pickT _ _ _ rfl rfl rfl)) rfl rfl ?_
                      refine Ch.step (v := (.d (.bool false))) rfl (.pure (.assign _ rfl rfl)) rfl rfl ?_
                      refine Ch.nil ?_
                      refine T_ret ?_
                      refine And.intro (.inr rfl) ?_
                      exact Exists.intro [(.d (.bool false))] (Exists.intro [] (Exists.intro [] (And.intro (.cons (.tmp 4 rfl) .nil) (And.intro (.cons (.any _) (.cons (.any _) .nil)) (And.intro (Exp.of (congrArg D.bool (by first | (simp only [wirI, insB, withinB, *, decide_true, decide_false, Bool.and_true, Bool.true_and, Bool.and_false, Bool.false_and, Bool.or_false, Bool.false_or, Bool.or_true, Bool.true_or, Bool.not_true, Bool.not_false, not_false_eq_true, Bool.false_eq_true, if_true, if_false, reduceIte, ite_true, ite_false]; done) | (simp only [wirI, insB, withinB, *, decide_true, decide_false, Bool.and_true, Bool.true_and, Bool.and_false, Bool.false_and, Bool.or_false, Bool.false_or, Bool.or_true, Bool.true_or, Bool.not_true, Bool.not_false, not_false_eq_true, Bool.false_eq_true, if_true, if_false, reduceIte, ite_true, ite_false]; rfl) | (simp only [wirI, insB, withinB]; simp_all; done) | (simp only [wirI, insB, withinB]; simp_all; omega))) (.d _)) (And.intro rfl rfl))))))
                | false =>
                  refine Ch.skip rfl rfl ?_
                  refine Ch.skip rfl rfl ?_
                  refine Ch.skip rfl rfl ?_
                  refine Ch.skip rfl rfl ?_
                  refine Ch.skip rfl rfl ?_
                  refine Ch.skip rfl rfl ?_
                  refine Ch.skip rfl rfl ?_
                  refine Ch.skip rfl rfl ?_
                  refine Ch.skip rfl rfl ?_
                  refine Ch.skip rfl rfl ?_
                  refine Ch.skip rfl rfl ?_
                  refine Ch.skip rfl rfl ?_
                  refine Ch.skip rfl rfl ?_
                  refine Ch.skip rfl rfl ?_
                  refine Ch.skip rfl rfl ?_
                  refine Ch.skip rfl rfl ?_
                  refine Ch.skip rfl rfl ?_
                  refine Ch.skip rfl rfl ?_
                  refine Ch.skip rfl rfl ?_
                  refine Ch.step (v := (.d (.bool false))) rfl (.pure (.pickF _ _ _ rfl rfl rfl)) rfl rfl ?_
                  refine Ch.step (v := (.d (.bool false))) rfl (.pure (.assign _ rfl rfl)) rfl rfl ?_
                  refine Ch.nil ?_
                  refine T_ret ?_
                  refine And.intro (.inr rfl) ?_
                  exact Exists.intro [(.d (.bool false))] (Exists.intro [] (Exists.intro [] (And.intro (.cons (.tmp 4 rfl) .nil) (And.intro (.cons (.any _) (.cons (.any _) .nil)) (And.intro (Exp.of (congrArg D.bool (by first | (simp only [wirI, insB, withinB, *, decide_true, decide_false, Bool.and_true, Bool.true_and, Bool.and_false, Bool.false_and, Bool.or_false, Bool.false_or, Bool.or_true, Bool.true_or, Bool.not_true, Bool.not_false, not_false_eq_true, Bool.false_eq_true, if_true, if_false, reduceIte, ite_true, ite_false]; done) | (simp only [wirI, insB, withinB, *, decide_true, decide_false, Bool.and_true, Bool.true_and, Bool.and_false, Bool.false_and, Bool.or_false, Bool.false_or, Bool.or_true, Bool.true_or, Bool.not_true, Bool.not_false, not_false_eq_true, Bool.false_eq_true, if_true, if_false, reduceIte, ite_true, ite_false]; rfl) | (simp only [wirI, insB, withinB]; simp_all; done) | (simp only [wirI, insB, withinB]; simp_all; omega))) (.d _)) (And.intro rfl rfl))))))
              · replace h7 := of_decide_eq_false h7
                refine T_skip ?_
                refine T_seq ?_
                refine T_region hc ?_
                refine Ch.step (v := (.d (.bool false))) rfl (.pure (.assign _ rfl rfl)) rfl rfl ?_
                refine Ch.nil ?_
                refine T_ret ?_
                refine And.intro (.inr rfl) ?_
                exact Exists.intro [(.d (.bool false))] (Exists.intro [] (Exists.intro [] (And.intro (.cons (.tmp 4 rfl) .nil) (And.intro (.cons (.any _) (.cons (.any _) .nil)) (And.intro (Exp.of (congrArg D.bool (by first | (simp only [wirI, insB, withinB, *, decide_true, decide_false, Bool.and_true, Bool.true_and, Bool.and_false, Bool.false_and, Bool.or_false, Bool.false_or, Bool.or_true, Bool.true_or, Bool.not_true, Bool.not_false, not_false_eq_true, Bool.false_eq_true, if_true, if_false, reduceIte, ite_true, ite_false]; done) | (simp only [wirI, insB, withinB, *, decide_true, decide_false, Bool.and_true, Bool.true_and, Bool.and_false, Bool.false_and, Bool.or_false, Bool.false_or, Bool.or_true, Bool.true_or, Bool.not_true, Bool.not_false, not_false_eq_true, Bool.false_eq_true, if_true, if_false, reduceIte, ite_true, ite_false]; rfl) | (simp only [wirI, insB, withinB]; simp_all; done) | (simp only [wirI, insB, withinB]; simp_all; omega))) (.d _)) (And.intro rfl rfl))))))
        · replace h4 := of_decide_eq_false h4
          refine T_region hc ?_
          refine Ch.step (v := (.d (.bool (decide (((x.wires.getD k default).kind) = 3))))) rfl (.pure (.int _ _ _ _ _ rfl rfl rfl rfl)) rfl rfl ?_
          refine Ch.step (v := (.d (.bool (decide (((x.wires.getD k default).kind) = 3))))) rfl (.pure (.assign _ rfl rfl)) rfl rfl ?_
          refine Ch.nil ?_
          refine T_cond (b := (decide (((x.wires.getD k default).kind) = 3))) rfl (fun h11 => ?_) (fun h11 => ?_)
          · replace h11 := of_decide_eq_true h11
            refine T_seq ?_
            refine T_region hc ?_
            refine Ch.step (v := (.ptr 5000 2)) rfl (.pure (.fldPtr _ _ _ rfl fld82_2 rfl)) rfl rfl ?_
            refine Ch.step (v := (.d (.slice false 2 (((x.wires.getD k default).ins).map Pin.d)))) rfl (.pure (.loadPtr1 _ _ rfl ag80 rfl rfl rfl)) rfl rfl ?_
            refine Ch.step (v := (.d (.int .i64 ((((x.wires.getD k default).ins).length : Nat) : Int)))) rfl (.pure (.len _ _ 89 rfl Try.underlying80 (.sh _ _) (by simp))) rfl rfl ?_
            refine Ch.step (v := (.d (.bool (withinB ((((x.wires.getD k default).ins).length : Nat) : Int) 1 8)))) rfl (.call 43000 98 _ _ _ en98 rfl (.inl rfl) (.cons (.d _) (.cons (.d _) (.cons (.d _) .nil))) rfl rfl (sp_impl_within ((((x.wires.getD k default).ins).length : Nat) : Int) 1 8) (.skip _ _ (.skip _ _ (.skip _ _ .nil))) rfl) rfl rfl ?_
            refine Ch.step (v := (.d (.bool (withinB ((((x.wires.getD k default).ins).length : Nat) : Int) 1 8)))) rfl (.pure (.assign _ rfl rfl)) rfl rfl ?_
            refine Ch.nil ?_
            refine T_ret ?_
            refine And.intro (.inr rfl) ?_
            exact Exists.intro [(.d (.bool (withinB ((((x.wires.getD k default).ins).length : Nat) : Int) 1 8)))] (Exists.intro [] (Exists.intro [] (And.intro (.cons (.tmp 4 rfl) .nil) (And.intro (.cons (.any _) (.cons (.any _) .nil)) (And.intro (Exp.of (congrArg D.bool (by first | (simp only [wirI, insB, withinB, *, decide_true, decide_false, Bool.and_true, Bool.true_and, Bool.and_false, Bool.false_and, Bool.or_false, Bool.false_or, Bool.or_true, Bool.true_or, Bool.not_true, Bool.not_false, not_false_eq_true, Bool.false_eq_true, if_true, if_false, reduceIte, ite_true, ite_false]; done) | (simp only [wirI, insB, withinB, *, decide_true, decide_false, Bool.and_true, Bool.true_and, Bool.and_false, Bool.false_and, Bool.or_false, Bool.false_or, Bool.or_true, Bool.true_or, Bool.not_true, Bool.not_false, not_false_eq_true, Bool.false_eq_true, if_true, if_false, reduceIte, ite_true, ite_false]; rfl) | (simp only [wirI, insB, withinB]; simp_all; done) | (simp only [wirI, insB, withinB]; simp_all; omega))) (.d _)) (And.intro rfl rfl))))))
          · replace h11 := of_decide_eq_false h11
            refine T_seq ?_
            refine T_region hc ?_
            refine Ch.step (v := (.d (.bool (decide (((x.wires.getD k default).kind) = 4))))) rfl (.pure (.int _ _ _ _ _ rfl rfl rfl rfl)) rfl rfl ?_
            refine Ch.step (v := (.d (.bool (decide (((x.wires.getD k default).kind) = 4))))) rfl (.pure (.assign _ rfl rfl)) rfl rfl ?_
            refine Ch.nil ?_
            refine T_cond (b := (decide (((x.wires.getD k default).kind) = 4))) rfl (fun h12 => ?_) (fun h12 => ?_)
            · replace h12 := of_decide_eq_true h12
              refine T_seq ?_
              refine T_region hc ?_
              refine Ch.step (v := (.ptr 5000 2)) rfl (.pure (.fldPtr _ _ _ rfl fld82_2 rfl)) rfl rfl ?_
              refine Ch.step (v := (.d (.slice false 2 (((x.wires.getD k default).ins).map Pin.d)))) rfl (.pure (.loadPtr1 _ _ rfl ag80 rfl rfl rfl)) rfl rfl ?_
              refine Ch.step (v := (.d (.int .i64 ((((x.wires.getD k default).ins).length : Nat) : Int)))) rfl (.pure (.len _ _ 89 rfl Try.underlying80 (.sh _ _) (by simp))) rfl rfl ?_
              refine Ch.step (v := (.d (.bool (decide (((((x.wires.getD k default).ins).length : Nat) : Int) = 2))))) rfl (.pure (.int _ _ _ _ _ rfl rfl rfl rfl)) rfl rfl ?_
              refine Ch.step (v := (.d (.bool (decide (((((x.wires.getD k default).ins).length : Nat) : Int) = 2))))) rfl (.pure (.assign _ rfl rfl)) rfl rfl ?_
              refine Ch.nil ?_
              refine T_ret ?_
              refine And.intro (.inr rfl) ?_
              exact Exists.intro [(.d (.bool (decide (((((x.wires.getD k default).ins).length : Nat) : Int) = 2))))] (Exists.intro [] (Exists.intro [] (And.intro (.cons (.tmp 4 rfl) .nil) (And.intro (.cons (.any _) (.cons (.any _) .nil)) (And.intro (Exp.of (congrArg D.bool (by first | (simp only [wirI, insB, withinB, *, decide_true, decide_false, Bool.and_true, Bool.true_and, Bool.and_false, Bool.false_and, Bool.or_false, Bool.false_or, Bool.or_true, Bool.true_or, Bool.not_true, Bool.not_false, not_false_eq_true, Bool.false_eq_true, if_true, if_false, reduceIte, ite_true, ite_false]; done) | (simp only [wirI, insB, withinB, *, decide_true, decide_false, Bool.and_true, Bool.true_and, Bool.and_false, Bool.false_and, Bool.or_false, Bool.false_or, Bool.or_true, Bool.true_or, Bool.not_true, Bool.not_false, not_false_eq_true, Bool.false_eq_true, if_true, if_false, reduceIte, ite_true, ite_false]; rfl) | (simp only [wirI, insB, withinB]; simp_all; done) | (simp only [wirI, insB, withinB]; simp_all; omega))) (.d _)) (And.intro rfl rfl))))))
            · replace h12 := of_decide_eq_false h12
              refine T_seq ?_
              refine T_region hc ?_
              refine Ch.step (v := (.d (.bool (decide (((x.wires.getD k default).kind) = 5))))) rfl (.pure (.int _ _ _ _ _ rfl rfl rfl rfl)) rfl rfl ?_
              refine Ch.step (v := (.d (.bool (decide (((x.wires.getD k default).kind) = 5))))) rfl (.pure (.assign _ rfl rfl)) rfl rfl ?_
              refine Ch.nil ?_
              refine T_cond (b := (decide (((x.wires.getD k default).kind) = 5))) rfl (fun h13 => ?_) (fun h13 => ?_)
              · replace h13 := of_decide_eq_true h13
                refine T_seq ?_
                refine T_region hc ?_
                refine Ch.step (v := (.ptr 2000 0)) rfl (.pure (.fldPtr _ _ _ rfl fld44_0 rfl)) rfl rfl ?_
                refine Ch.step (v := (.d (.slice false 2 (x.sigs.map Sgn.d)))) rfl (.pure (.loadPtr1 _ _ rfl ag41 rfl rfl rfl)) rfl rfl ?_
                refine Ch.step (v := (.d (.int .i64 ((x.sigs.length : Nat) : Int)))) rfl (.pure (.len _ _ 85 rfl Try.underlying41 (.sh _ _) (by simp))) rfl rfl ?_
                refine Ch.step (v := (.ptr 5000 3)) rfl (.pure (.fldPtr _ _ _ rfl fld82_3 rfl)) rfl rfl ?_
                refine Ch.step (v := (.d (.slice false 1 (((x.wires.getD k default).cov).map D.str)))) rfl (.pure (.loadPtr1 _ _ rfl ag22 rfl rfl rfl)) rfl rfl ?_
                refine Ch.step (v := (.d (.bool (goodB ((x.sigs.length : Nat) : Int) ((x.wires.getD k default).cov))))) rfl (.call 57000 62 _ _ _ en62 rfl (.inl rfl) (.cons (.d _) (.cons (.d _) .nil)) rfl rfl (sp_impl_IsValidCover ((x.sigs.length : Nat) : Int) ((x.wires.getD k default).cov) (by first | omega | assumption | (exact hx _ (getD_mem (by omega))) | (exact hx _ (by assumption)) | (exact Nat.le_trans (hx _ (by assumption)) (by omega)) | (simp only [List.length_append, List.length_take, List.length_drop, List.length_cons, List.length_nil]; omega) | (simp_all; done)) (by first | omega | assumption | (exact hx _ (getD_mem (by omega))) | (exact hx _ (by assumption)) | (exact Nat.le_trans (hx _ (by assumption)) (by omega)) | (simp only [List.length_append, List.length_take, List.length_drop, List.length_cons, List.length_nil]; omega) | (simp_all; done))) (.skip _ _ (.skip _ _ .nil)) rfl) rfl rfl ?_
                refine Ch.step (v := (.d (.bool (goodB ((x.sigs.length : Nat) : Int) ((x.wires.getD k default).cov))))) rfl (.pure (.move _ rfl rfl)) rfl rfl ?_
                cases h14 : (goodB ((x.sigs.length : Nat) : Int) ((x.wires.getD k default).cov)) with
                | true =>
                  refine Ch.step (v := (.ptr 5000 2)) rfl (.pure (.fldPtr _ _ _ rfl fld82_2 rfl)) rfl rfl ?_
                  refine Ch.step (v := (.d (.slice false 2 (((x.wires.getD k default).ins).map Pin.d)))) rfl (.pure (.loadPtr1 _ _ rfl ag80 rfl rfl rfl)) rfl rfl ?_
                  refine Ch.step (v := (.d (.int .i64 ((((x.wires.getD k default).ins).length : Nat) : Int)))) rfl (.pure (.len _ _ 89 rfl Try.underlying80 (.sh _ _) (by simp))) rfl rfl ?_
                  refine Ch.step (v := (.d (.bool (decide (((((x.wires.getD k default).ins).length : Nat) : Int) = 0))))) rfl (.pure (.int _ _ _ _ _ rfl rfl rfl rfl)) rfl rfl ?_
                  refine Ch.step (v := (.d (.bool (decide (((((x.wires.getD k default).ins).length : Nat) : Int) = 0))))) rfl (.pure (.move _ rfl rfl)) rfl rfl ?_
                  cases h15 : (decide (((((x.wires.getD k default).ins).length : Nat) : Int) = 0)) with
                  | true =>
                    replace h15 := of_decide_eq_true h15
                    refine Ch.skip rfl rfl ?_
                    refine Ch.skip rfl rfl ?_
                    refine Ch.skip rfl rfl ?_
                    refine Ch.skip rfl rfl ?_
                    refine Ch.skip rfl rfl ?_
                    refine Ch.skip rfl rfl ?_
                    refine Ch.skip rfl rfl ?_
                    refine Ch.skip rfl rfl ?_
                    refine Ch.skip rfl rfl ?_
                    refine Ch.skip rfl rfl ?_
                    refine Ch.skip rfl rfl ?_
                    refine Ch.skip rfl rfl ?_
                    refine Ch.skip rfl rfl ?_
                    refine Ch.step (v := (.d (.bool true))) rfl (.pure (.pickT _ _ _ rfl rfl rfl)) rfl rfl ?_
                    refine Ch.step (v := (.d (.bool true))) rfl (.pure (.pickT _ _ _ rfl rfl rfl)) rfl rfl ?_
                    refine Ch.step (v := (.d (.bool true))) rfl (.pure (.assign _ rfl rfl)) rfl rfl ?_
                    refine Ch.nil ?_
                    refine T_ret ?_
                    refine And.intro (.inr rfl) ?_
                    exact Exists.intro [(.d (.bool true))] (Exists.intro [] (Exists.intro [] (And.intro (.cons (.tmp 4 rfl) .nil) (And.intro (.cons (.any _) (.cons (.any _) .nil)) (And.intro (Exp.of (congrArg D.bool (by first | (simp only [wirI, insB, withinB, *, decide_true, decide_false, Bool.and_true, Bool.true_and, Bool.and_false, Bool.false_and, Bool.or_false, Bool.false_or, Bool.or_true, Bool.true_or, Bool.not_true, Bool.not_false, not_false_eq_true, Bool.false_eq_true, if_true, if_false, reduceIte, ite_true, ite_false]; done) | (simp only [wirI, insB, withinB, *, decide_true, decide_false, Bool.and_true, Bool.true_and, Bool.and_false, Bool.false_and, Bool.or_false, Bool.false_or, Bool.or_true, Bool.true_or, Bool.not_true, Bool.not_false, not_false_eq_true, Bool.false_eq_true, if_true, if_false, reduceIte, ite_true, ite_false]; rfl) | (simp only [wirI, insB, withinB]; simp_all; done) | (simp only [wirI, insB, withinB]; simp_all; omega))) (.d _)) (And.intro rfl rfl))))))
                  | false =>
                    replace h15 := of_decide_eq_false h15
                    refine Ch.step (v := (.ptr 5000 2)) rfl (.pure (.fldPtr _ _ _ rfl fld82_2 rfl)) rfl rfl ?_
                    refine Ch.step (v := (.d (.slice false 2 (((x.wires.getD k default).ins).map Pin.d)))) rfl (.pure (.loadPtr1 _ _ rfl ag80 rfl rfl rfl)) rfl rfl ?_
                    refine Ch.step (v := (.d (.int .i64 ((((x.wires.getD k default).ins).length : Nat) : Int)))) rfl (.pure (.len _ _ 89 rfl Try.underlying80 (.sh _ _) (by simp))) rfl rfl ?_
                    refine Ch.step (v := (.d (.bool (decide (((((x.wires.getD k default).ins).length : Nat) : Int) = 1))))) rfl (.pure (.int _ _ _ _ _ rfl rfl rfl rfl)) rfl rfl ?_
                    refine Ch.step (v := (.d (.bool (decide (((((x.wires.getD k default).ins).length : Nat) : Int) = 1))))) rfl (.pure (.move _ rfl rfl)) rfl rfl ?_
                    cases h16 : (decide (((((x.wires.getD k default).ins).length : Nat) : Int) = 1)) with
                    | true =>
                      replace h16 := of_decide_eq_true h16
                      refine Ch.step (v := (.ptr 5000 2)) rfl (.pure (.fldPtr _ _ _ rfl fld82_2 rfl)) rfl rfl ?_
                      refine Ch.step (v := (.d (.slice false 2 (((x.wires.getD k default).ins).map Pin.d)))) rfl (.pure (.loadPtr1 _ _ rfl ag80 rfl rfl rfl)) rfl rfl ?_
                      refine Ch.step (v := (.d (.ref (.agg [(.int .i64 ((((x.wires.getD k default).ins).getD 0 default).num)), (.bool ((((x.wires.getD k default).ins).getD 0 default).neg))])))) rfl (.pure (.idx _ _ _ 89 (0) rfl Try.underlying80 sz89 rfl rfl rfl (get_map _ (by first | omega | (simp only [List.length_map, List.length_append, List.length_take, List.length_drop, List.length_cons, List.length_nil]; omega) | (simp; omega) | (simp; done))))) rfl rfl ?_
                      refine Ch.step (v := (.d (.agg [(.int .i64 ((((x.wires.getD k default).ins).getD 0 default).num)), (.bool ((((x.wires.getD k default).ins).getD 0 default).neg))]))) rfl (.pure (.loadRefA _ _ rfl ag89 sz89 rfl)) rfl rfl ?_
                      refine Ch.step (v := (.d (.int .i64 ((k : Nat) : Int)))) rfl (.pure (.move _ rfl rfl)) rfl rfl ?_
                      refine Ch.step (v := (.agg [(.d (.int .i64 ((k : Nat) : Int))), (.d (.bool false))])) rfl (.build _ _ rfl stru89 (.cons (.one _ rfl) .nil) rfl) rfl rfl ?_
                      refine Ch.step (v := (.d (.bool (decide ((((x.wires.getD k default).ins).getD 0 default) = (Pin.mk ((k : Nat) : Int) false)))))) rfl (.pure (.eqA _ _ _ _ rfl (eqa89 _ _ _ _) (.d _) (.v [(.int .i64 ((k : Nat) : Int)), (.bool false)]) (Pin.eqv (((x.wires.getD k default).ins).getD 0 default) (Pin.mk ((k : Nat) : Int) false)))) rfl rfl ?_
                      refine Ch.step (v := (.d (.bool (decide ((((x.wires.getD k default).ins).getD 0 default) = (Pin.mk ((k : Nat) : Int) false)))))) rfl (.pure (.pickT _ _ _ rfl rfl rfl)) rfl rfl ?_
                      refine Ch.step (v := (.d (.bool (decide ((((x.wires.getD k default).ins).getD 0 default) = (Pin.mk ((k : Nat) : Int) false)))))) rfl (.pure (.pickF _ _ _ rfl rfl rfl)) rfl rfl ?_
                      refine Ch.step (v := (.d (.bool (decide ((((x.wires.getD k default).ins).getD 0 default) = (Pin.mk ((k : Nat) : Int) false)))))) rfl (.pure (.pickT _ _ _ rfl rfl rfl)) rfl rfl ?_
                      refine Ch.step (v := (.d (.bool (decide ((((x.wires.getD k default).ins).getD 0 default) = (Pin.mk ((k : Nat) : Int) false)))))) rfl (.pure (.assign _ rfl rfl)) rfl rfl ?_
                      refine Ch.nil ?_
                      refine T_ret ?_
                      refine And.intro (.inr rfl) ?_
                      exact Exists.intro [(.d (.bool (decide ((((x.wires.getD k default).ins).getD 0 default) = (Pin.mk ((k : Nat) : Int) false)))))] (Exists.intro [] (Exists.intro [] (And.intro (.cons (.tmp 4 rfl) .nil) (And.intro (.cons (.any _) (.cons (.any _) .nil)) (And.intro (Exp.of (congrArg D.bool (by first | (simp only [wirI, insB, withinB, *, decide_true, decide_false, Bool.and_true, Bool.true_and, Bool.and_false, Bool.false_and, Bool.or_false, Bool.false_or, Bool.or_true, Bool.true_or, Bool.not_true, Bool.not_false, not_false_eq_true, Bool.false_eq_true, if_true, if_false, reduceIte, ite_true, ite_false]; done) | (simp only [wirI, insB, withinB, *, decide_true, decide_false, Bool.and_true, Bool.true_and, Bool.and_false, Bool.false_and, Bool.or_false, Bool.false_or, Bool.or_true, Bool.true_or, Bool.not_true, Bool.not_false, not_false_eq_true, Bool.false_eq_true, if_true, if_false, reduceIte, ite_true, ite_false]; rfl) | (simp only [wirI, insB, withinB]; simp_all; done) | (simp only [wirI, insB, withinB]; simp_all; omega))) (.d _)) (And.intro rfl rfl))))))
                    | false =>
                      replace h16 := of_decide_eq_false h16
                      refine Ch.skip rfl rfl ?_
                      refine Ch.skip rfl rfl ?_
                      refine Ch.skip rfl rfl ?_
                      refine Ch.skip rfl rfl ?_
                      refine Ch.skip rfl rfl ?_
                      refine Ch.skip rfl rfl ?_
                      refine Ch.skip rfl rfl ?_
                      refine Ch.step (v := (.d (.bool false))) rfl (.pure (.pickF _ _ _ rfl rfl rfl)) rfl rfl ?_
                      refine Ch.step (v := (.d (.bool false))) rfl (.pure (.pickF _ _ _ rfl rfl rfl)) rfl rfl ?_
                      refine Ch.step (v := (.d (.bool false))) rfl (.pure (.pickT _ _ _ rfl rfl rfl)) rfl rfl ?_
                      refine Ch.step (v := (.d (.bool false))) rfl (.pure (.assign _ rfl rfl)) rfl rfl ?_
                      refine Ch.nil ?_
                      refine T_ret ?_
                      refine And.intro (.inr rfl) ?_
                      exact Exists.intro [(.d (.bool false))] (Exists.intro [] (Exists.intro [] (And.intro (.cons (.tmp 4 rfl) .nil) (And.intro (.cons (.any _) (.cons (.any _) .nil)) (And.intro (Exp.of (congrArg D.bool (by first | (simp only [wirI, insB, withinB, *, decide_true, decide_false, Bool.and_true, Bool.true_and, Bool.and_false, Bool.false_and, Bool.or_false, Bool.false_or, Bool.or_true, Bool.true_or, Bool.not_true, Bool.not_false, not_false_eq_true, Bool.false_eq_true, if_true, if_false, reduceIte, ite_true, ite_false]; done) | (simp only [wirI, insB, withinB, *, decide_true, decide_false, Bool.and_true, Bool.true_and, Bool.and_false, Bool.false_and, Bool.or_false, Bool.false_or, Bool.or_true, Bool.true_or, Bool.not_true, Bool.not_false, not_false_eq_true, Bool.false_eq_true, if_true, if_false, reduceIte, ite_true, ite_false]; rfl) | (simp only [wirI, insB, withinB]; simp_all; done) | (simp only [wirI, insB, withinB]; simp_all; omega))) (.d _)) (And.intro rfl rfl))))))
                | false =>
                  refine Ch.skip rfl rfl ?_
                  refine Ch.skip rfl rfl ?_
                  refine Ch.skip rfl rfl ?_
                  refine Ch.skip rfl rfl ?_
                  refine Ch.skip rfl rfl ?_
                  refine Ch.skip rfl rfl ?_
                  refine Ch.skip rfl rfl ?_
                  refine Ch.skip rfl rfl ?_
                  refine Ch.skip rfl rfl ?_
                  refine Ch.skip rfl rfl ?_
                  refine Ch.skip rfl rfl ?_
                  refine Ch.skip rfl rfl ?_
                  refine Ch.skip rfl rfl ?_
                  refine Ch.skip rfl rfl ?_
                  refine Ch.skip rfl rfl ?_
                  refine Ch.skip rfl rfl ?_
                  refine Ch.skip rfl rfl ?_
                  refine Ch.skip rfl rfl ?_
                  refine Ch.skip rfl rfl ?_
                  refine Ch.step (v := (.d (.bool false))) rfl (.pure (.pickF _ _ _ rfl rfl rfl)) rfl rfl ?_
                  refine Ch.step (v := (.d (.bool false))) rfl (.pure (.assign _ rfl rfl)) rfl rfl ?_
                  refine Ch.nil ?_
                  refine T_ret ?_
                  refine And.intro (.inr rfl) ?_
                  exact Exists.intro [(.d (.bool false))] (Exists.intro [] (Exists.intro [] (And.intro (.cons (.tmp 4 rfl) .nil) (And.intro (.cons (.any _) (.cons (.any _) .nil)) (And.intro (Exp.of (congrArg D.bool (by first | (simp only [wirI, insB, withinB, *, decide_true, decide_false, Bool.and_true, Bool.true_and, Bool.and_false, Bool.false_and, Bool.or_false, Bool.false_or, Bool.or_true, Bool.true_or, Bool.not_true, Bool.not_false, not_false_eq_true, Bool.false_eq_true, if_true, if_false, reduceIte, ite_true, ite_false]; done) | (simp only [wirI, insB, withinB, *, decide_true, decide_false, Bool.and_true, Bool.true_and, Bool.and_false, Bool.false_and, Bool.or_false, Bool.false_or, Bool.or_true, Bool.true_or, Bool.not_true, Bool.not_false, not_false_eq_true, Bool.false_eq_true, if_true, if_false, reduceIte, ite_true, ite_false]; rfl) | (simp only [wirI, insB, withinB]; simp_all; done) | (simp only [wirI, insB, withinB]; simp_all; omega))) (.d _)) (And.intro rfl rfl))))))
              · replace h13 := of_decide_eq_false h13
                refine T_skip ?_
                refine T_seq ?_
                refine T_region hc ?_
                refine Ch.step (v := (.d (.bool false))) rfl (.pure (.assign _ rfl rfl)) rfl rfl ?_
                refine Ch.nil ?_
                refine T_ret ?_
                refine And.intro (.inr rfl) ?_
                exact Exists.intro [(.d (.bool false))] (Exists.intro [] (Exists.intro [] (And.intro (.cons (.tmp 4 rfl) .nil) (And.intro (.cons (.any _) (.cons (.any _) .nil)) (And.intro (Exp.of (congrArg D.bool (by first | (simp only [wirI, insB, withinB, *, decide_true, decide_false, Bool.and_true, Bool.true_and, Bool.and_false, Bool.false_and, Bool.or_false, Bool.false_or, Bool.or_true, Bool.true_or, Bool.not_true, Bool.not_false, not_false_eq_true, Bool.false_eq_true, if_true, if_false, reduceIte, ite_true, ite_false]; done) | (simp only [wirI, insB, withinB, *, decide_true, decide_false, Bool.and_true, Bool.true_and, Bool.and_false, Bool.false_and, Bool.or_false, Bool.false_or, Bool.or_true, Bool.true_or, Bool.not_true, Bool.not_false, not_false_eq_true, Bool.false_eq_true, if_true, if_false, reduceIte, ite_true, ite_false]; rfl) | (simp only [wirI, insB, withinB]; simp_all; done) | (simp only [wirI, insB, withinB]; simp_all; omega))) (.d _)) (And.intro rfl rfl))))))
  | false =>
    replace h1 := of_decide_eq_false h1
    refine Ch.step (v := (.ptr 5000 3)) rfl (.pure (.fldPtr _ _ _ rfl fld82_3 rfl)) rfl rfl ?_
    refine Ch.step (v := (.d (.slice false 1 (((x.wires.getD k default).cov).map D.str)))) rfl (.pure (.loadPtr1 _ _ rfl ag22 rfl rfl rfl)) rfl rfl ?_
    refine Ch.step (v := (.d (.int .i64 ((((x.wires.getD k default).cov).length : Nat) : Int)))) rfl (.pure (.len _ _ 9 rfl Try.underlying22 (.sh _ _) (by simp))) rfl rfl ?_
    refine Ch.step (v := (.d (.bool (decide (0 < ((((x.wires.getD k default).cov).length : Nat) : Int)))))) rfl (.pure (.int _ _ _ _ _ rfl rfl rfl rfl)) rfl rfl ?_
    refine Ch.step (v := (.d (.bool (decide (0 < ((((x.wires.getD k default).cov).length : Nat) : Int)))))) rfl (.pure (.pickT _ _ _ rfl rfl rfl)) rfl rfl ?_
    refine Ch.step (v := (.d (.bool (decide (0 < ((((x.wires.getD k default).cov).length : Nat) : Int)))))) rfl (.pure (.move _ rfl rfl)) rfl rfl ?_
    cases h17 : (decide (0 < ((((x.wires.getD k default).cov).length : Nat) : Int))) with
    | true =>
      replace h17 := of_decide_eq_true h17
      refine Ch.skip rfl rfl ?_
      refine Ch.skip rfl rfl ?_
      refine Ch.skip rfl rfl ?_
      refine Ch.skip rfl rfl ?_
      refine Ch.skip rfl rfl ?_
      refine Ch.skip rfl rfl ?_
      refine Ch.skip rfl rfl ?_
      refine Ch.step (v := (.d (.bool true))) rfl (.pure (.pickT _ _ _ rfl rfl rfl)) rfl rfl ?_
      refine Ch.nil ?_
      refine T_cond (b := true) rfl (fun _ => ?_) (fun h => nomatch h)
      refine T_seq ?_
      refine T_region hc ?_
      refine Ch.step (v := (.d (.bool false))) rfl (.pure (.assign _ rfl rfl)) rfl rfl ?_
      refine Ch.nil ?_
      refine T_ret ?_
      refine And.intro (.inr rfl) ?_
      exact Exists.intro [(.d (.bool false))] (Exists.intro [] (Exists.intro [] (And.intro (.cons (.tmp 4 rfl) .nil) (And.intro (.cons (.any _) (.cons (.any _) .nil)) (And.intro (Exp.of (congrArg D.bool (by first | (simp only [wirI, insB, withinB, *, decide_true, decide_false, Bool.and_true, Bool.true_and, Bool.and_false, Bool.false_and, Bool.or_false, Bool.false_or, Bool.or_true, Bool.true_or, Bool.not_true, Bool.not_false, not_false_eq_true, Bool.false_eq_true, if_true, if_false, reduceIte, ite_true, ite_false]; done) | (simp only [wirI, insB, withinB, *, decide_true, decide_false, Bool.and_true, Bool.true_and, Bool.and_false, Bool.false_and, Bool.or_false, Bool.false_or, Bool.or_true, Bool.true_or, Bool.not_true, Bool.not_false, not_false_eq_true, Bool.false_eq_true, if_true, if_false, reduceIte, ite_true, ite_false]; rfl) | (simp only [wirI, insB, withinB]; simp_all; done) | (simp only [wirI, insB, withinB]; simp_all; omega))) (.d _)) (And.intro rfl rfl))))))
    | false =>
      replace h17 := of_decide_eq_false h17
      refine Ch.step (v := (.ptr 5000 2)) rfl (.pure (.fldPtr _ _ _ rfl fld82_2 rfl)) rfl rfl ?_
      refine Ch.step (v := (.d (.slice false 2 (((x.wires.getD k default).ins).map Pin.d)))) rfl (.pure (.loadPtr1 _ _ rfl ag80 rfl rfl rfl)) rfl rfl ?_
      refine Ch.step (v := (.ptr 2000 1)) rfl (.pure (.fldPtr _ _ _ rfl fld44_1 rfl)) rfl rfl ?_
      refine Ch.step (v := (.d (.slice false 4 (x.wires.map Wir.d)))) rfl (.pure (.loadPtr1 _ _ rfl ag42 rfl rfl rfl)) rfl rfl ?_
      refine Ch.step (v := (.d (.int .i64 ((x.wires.length : Nat) : Int)))) rfl (.pure (.len _ _ 82 rfl Try.underlying42 (.sh _ _) (by simp))) rfl rfl ?_
      refine Ch.step (v := (.d (.bool (pinsB ((x.wires.getD k default).ins) ((x.wires.length : Nat) : Int))))) rfl (.call 26000 111 _ _ _ en111 rfl (.inl rfl) (.cons (.d _) (.cons (.d _) .nil)) rfl rfl (sp_impl_arePins ((x.wires.getD k default).ins) ((x.wires.length : Nat) : Int) (by first | assumption | omega | (rw [List.length_take]; omega) | (have := bulkF_mem hb _ (getD_mem (d := default) (by omega)); assumption) | (unfold bulkS at *; omega) | (simp_all; done)) (by first | assumption | omega | (rw [List.length_take]; omega) | (have := bulkF_mem hb _ (getD_mem (d := default) (by omega)); assumption) | (unfold bulkS at *; omega) | (simp_all; done)) (by first | assumption | omega | (rw [List.length_take]; omega) | (have := bulkF_mem hb _ (getD_mem (d := default) (by omega)); assumption) | (unfold bulkS at *; omega) | (simp_all; done))) (.skip _ _ (.skip _ _ .nil)) rfl) rfl rfl ?_
      refine Ch.step (v := (.d (.bool (!(pinsB ((x.wires.getD k default).ins) ((x.wires.length : Nat) : Int)))))) rfl (.pure (.not _ _ rfl rfl)) rfl rfl ?_
      refine Ch.step (v := (.d (.bool (!(pinsB ((x.wires.getD k default).ins) ((x.wires.length : Nat) : Int)))))) rfl (.pure (.pickF _ _ _ rfl rfl rfl)) rfl rfl ?_
      refine Ch.nil ?_
      refine T_cond (b := (!(pinsB ((x.wires.getD k default).ins) ((x.wires.length : Nat) : Int)))) rfl (fun h18 => ?_) (fun h18 => ?_)
      · replace h18 := nott h18
        refine T_seq ?_
        refine T_region hc ?_
        refine Ch.step (v := (.d (.bool false))) rfl (.pure (.assign _ rfl rfl)) rfl rfl ?_
        refine Ch.nil ?_
        refine T_ret ?_
        refine And.intro (.inr rfl) ?_
        exact Exists.intro [(.d (.bool false))] (Exists.intro [] (Exists.intro [] (And.intro (.cons (.tmp 4 rfl) .nil) (And.intro (.cons (.any _) (.cons (.any _) .nil)) (And.intro (Exp.of (congrArg D.bool (by first | (simp only [wirI, insB, withinB, *, decide_true, decide_false, Bool.and_true, Bool.true_and, Bool.and_false, Bool.false_and, Bool.or_false, Bool.false_or, Bool.or_true, Bool.true_or, Bool.not_true, Bool.not_false, not_false_eq_true, Bool.false_eq_true, if_true, if_false, reduceIte, ite_true, ite_false]; done) | (simp only [wirI, insB, withinB, *, decide_true, decide_false, Bool.and_true, Bool.true_and, Bool.and_false, Bool.false_and, Bool.or_false, Bool.false_or, Bool.or_true, Bool.true_or, Bool.not_true, Bool.not_false, not_false_eq_true, Bool.false_eq_true, if_true, if_false, reduceIte, ite_true, ite_false]; rfl) | (simp only [wirI, insB, withinB]; simp_all; done) | (simp only [wirI, insB, withinB]; simp_all; omega))) (.d _)) (And.intro rfl rfl))))))
      · replace h18 := notf h18
        refine T_skip ?_
        refine T_seq ?_
        refine T_seq ?_
        refine T_region hc ?_
        refine Ch.step (v := (.ptr 5000 1)) rfl (.pure (.fldPtr _ _ _ rfl fld82_1 rfl)) rfl rfl ?_
        refine Ch.step (v := (.d (.int .i64 ((x.wires.getD k default).kind)))) rfl (.pure (.loadPtr1 _ _ rfl ag3 rfl rfl rfl)) rfl rfl ?_
        refine Ch.nil ?_
        refine T_block ?_
        refine T_seq ?_
        refine T_region hc ?_
        refine Ch.step (v := (.d (.bool (decide (((x.wires.getD k default).kind) = 1))))) rfl (.pure (.int _ _ _ _ _ rfl rfl rfl rfl)) rfl rfl ?_
        refine Ch.step (v := (.d (.bool (decide (((x.wires.getD k default).kind) = 1))))) rfl (.pure (.assign _ rfl rfl)) rfl rfl ?_
        refine Ch.nil ?_
        refine T_cond (b := (decide (((x.wires.getD k default).kind) = 1))) rfl (fun h19 => ?_) (fun h19 => ?_)
        · replace h19 := of_decide_eq_true h19
          refine T_seq ?_
          refine T_region hc ?_
          refine Ch.step (v := (.ptr 5000 2)) rfl (.pure (.fldPtr _ _ _ rfl fld82_2 rfl)) rfl rfl ?_
          refine Ch.step (v := (.d (.slice false 2 (((x.wires.getD k default).ins).map Pin.d)))) rfl (.pure (.loadPtr1 _ _ rfl ag80 rfl rfl rfl)) rfl rfl ?_
          refine Ch.step (v := (.d (.int .i64 ((((x.wires.getD k default).ins).length : Nat) : Int)))) rfl (.pure (.len _ _ 89 rfl Try.underlying80 (.sh _ _) (by simp))) rfl rfl ?_
          refine Ch.step (v := (.d (.bool (decide (((((x.wires.getD k default).ins).length : Nat) : Int) = 0))))) rfl (.pure (.int _ _ _ _ _ rfl rfl rfl rfl)) rfl rfl ?_
          refine Ch.step (v := (.d (.bool (decide (((((x.wires.getD k default).ins).length : Nat) : Int) = 0))))) rfl (.pure (.assign _ rfl rfl)) rfl rfl ?_
          refine Ch.nil ?_
          refine T_ret ?_
          refine And.intro (.inr rfl) ?_
          exact Exists.intro [(.d (.bool (decide (((((x.wires.getD k default).ins).length : Nat) : Int) = 0))))] (Exists.intro [] (Exists.intro [] (And.intro (.cons (.tmp 4 rfl) .nil) (And.intro (.cons (.any _) (.cons (.any _) .nil)) (And.intro (Exp.of (congrArg D.bool (by first | (simp only [wirI, insB, withinB, *, decide_true, decide_false, Bool.and_true, Bool.true_and, Bool.and_false, Bool.false_and, Bool.or_false, Bool.false_or, Bool.or_true, Bool.true_or, Bool.not_true, Bool.not_false, not_false_eq_true, Bool.false_eq_true, if_true, if_false, reduceIte, ite_true, ite_false]; done) | (simp only [wirI, insB, withinB, *, decide_true, decide_false, Bool.and_true, Bool.true_and, Bool.and_false, Bool.false_and, Bool.or_false, Bool.false_or, Bool.or_true, Bool.true_or, Bool.not_true, Bool.not_false, not_false_eq_true, Bool.false_eq_true, if_true, if_false, reduceIte, ite_true, ite_false]; rfl) | (simp only [wirI, insB, withinB]; simp_all; done) | (simp only [wirI, insB, withinB]; simp_all; omega))) (.d _)) (And.intro rfl rfl))))))
        · replace h19 := of_decide_eq_false h19
          refine T_seq ?_
          refine T_seq ?_
          refine T_region hc ?_
          refine Ch.step (v := (.d (.bool (decide (((x.wires.getD k default).kind) = 2))))) rfl (.pure (.int _ _ _ _ _ rfl rfl rfl rfl)) rfl rfl ?_
          refine Ch.step (v := (.d (.bool (decide (((x.wires.getD k default).kind) = 2))))) rfl (.pure (.assign _ rfl rfl)) rfl rfl ?_
          refine Ch.nil ?_
          refine T_cond (b := (decide (((x.wires.getD k default).kind) = 2))) rfl (fun h20 => ?_) (fun h20 => ?_)
          · replace h20 := of_decide_eq_true h20
            refine T_skip ?_
            refine T_cond (b := (decide (((x.wires.getD k default).kind) = 2))) rfl (fun h21 => ?_) (fun h21 => ?_)
            · replace h21 := of_decide_eq_true h21
              refine T_seq ?_
              refine T_region hc ?_
              refine Ch.step (v := (.ptr 5000 2)) rfl (.pure (.fldPtr _ _ _ rfl fld82_2 rfl)) rfl rfl ?_
              refine Ch.step (v := (.d (.slice false 2 (((x.wires.getD k default).ins).map Pin.d)))) rfl (.pure (.loadPtr1 _ _ rfl ag80 rfl rfl rfl)) rfl rfl ?_
              refine Ch.step (v := (.d (.int .i64 ((((x.wires.getD k default).ins).length : Nat) : Int)))) rfl (.pure (.len _ _ 89 rfl Try.underlying80 (.sh _ _) (by simp))) rfl rfl ?_
              refine Ch.step (v := (.d (.bool (withinB ((((x.wires.getD k default).ins).length : Nat) : Int) 1 8)))) rfl (.call 43000 98 _ _ _ en98 rfl (.inl rfl) (.cons (.d _) (.cons (.d _) (.cons (.d _) .nil))) rfl rfl (sp_impl_within ((((x.wires.getD k default).ins).length : Nat) : Int) 1 8) (.skip _ _ (.skip _ _ (.skip _ _ .nil))) rfl) rfl rfl ?_
              refine Ch.step (v := (.d (.bool (withinB ((((x.wires.getD k default).ins).length : Nat) : Int) 1 8)))) rfl (.pure (.assign _ rfl rfl)) rfl rfl ?_
              refine Ch.nil ?_
              refine T_ret ?_
              refine And.intro (.inr rfl) ?_
              exact Exists.intro [(.d (.bool (withinB ((((x.wires.getD k default).ins).length : Nat) : Int) 1 8)))] (Exists.intro [] (Exists.intro [] (And.intro (.cons (.tmp 4 rfl) .nil) (And.intro (.cons (.any _) (.cons (.any _) .nil)) (And.intro (Exp.of (congrArg D.bool (by first | (simp only [wirI, insB, withinB, *, decide_true, decide_false, Bool.and_true, Bool.true_and, Bool.and_false, Bool.false_and, Bool.or_false, Bool.false_or, Bool.or_true, Bool.true_or, Bool.not_true, Bool.not_false, not_false_eq_true, Bool.false_eq_true, if_true, if_false, reduceIte, ite_true, ite_false]; done) | (simp only [wirI, insB, withinB, *, decide_true, decide_false, Bool.and_true, Bool.true_and, Bool.and_false, Bool.false_and, Bool.or_false, Bool.false_or, Bool.or_true, Bool.true_or, Bool.not_true, Bool.not_false, not_false_eq_true, Bool.false_eq_true, if_true, if_false, reduceIte, ite_true, ite_false]; rfl) | (simp only [wirI, insB, withinB]; simp_all; done) | (simp only [wirI, insB, withinB]; simp_all; omega))) (.d _)) (And.intro rfl rfl))))))
            · replace h21 := of_decide_eq_false h21
              refine T_seq ?_
              refine T_region hc ?_
              refine Ch.step (v := (.d (.bool (decide (((x.wires.getD k default).kind) = 4))))) rfl (.pure (.int _ _ _ _ _ rfl rfl rfl rfl)) rfl rfl ?_
              refine Ch.step (v := (.d (.bool (decide (((x.wires.getD k default).kind) = 4))))) rfl (.pure (.assign _ rfl rfl)) rfl rfl ?_
              refine Ch.nil ?_
              refine T_cond (b := (decide (((x.wires.getD k default).kind) = 4))) rfl (fun h22 => ?_) (fun h22 => ?_)
              · replace h22 := of_decide_eq_true h22
                refine T_seq ?_
                refine T_region hc ?_
                refine Ch.step (v := (.ptr 5000 2)) rfl (.pure (.fldPtr _ _ _ rfl fld82_2 rfl)) rfl rfl ?_
                refine Ch.step (v := (.d (.slice false 2 (((x.wires.getD k default).ins).map Pin.d)))) rfl (.pure (.loadPtr1 _ _ rfl ag80 rfl rfl rfl)) rfl rfl ?_
                refine Ch.step (v := (.d (.int .i64 ((((x.wires.getD k default).ins).length : Nat) : Int)))) rfl (.pure (.len _ _ 89 rfl Try.underlying80 (.sh _ _) (by simp))) rfl rfl ?_
                refine Ch.step (v := (.d (.bool (decide (((((x.wires.getD k default).ins).length : Nat) : Int) = 2))))) rfl (.pure (.int _ _ _ _ _ rfl rfl rfl rfl)) rfl rfl ?_
                refine Ch.step (v := (.d (.bool (decide (((((x.wires.getD k default).ins).length : Nat) : Int) = 2))))) rfl (.pure (.assign _ rfl rfl)) rfl rfl ?_
                refine Ch.nil ?_
                refine T_ret ?_
                refine And.intro (.inr rfl) ?_
                exact Exists.intro [(.d (.bool (decide (((((x.wires.getD k default).ins).length : Nat) : Int) = 2))))] (Exists.intro [] (Exists.intro [] (And.intro (.cons (.tmp 4 rfl) .nil) (And.intro (.cons (.any _) (.cons (.any _) .nil)) (And.intro (Exp.of (congrArg D.bool (by first | (simp only [wirI, insB, withinB, *, decide_true, decide_false, Bool.and_true, Bool.true_and, Bool.and_false, Bool.false_and, Bool.or_false, Bool.false_or, Bool.or_true, Bool.true_or, Bool.not_true, Bool.not_false, not_false_eq_true, Bool.false_eq_true, if_true, if_false, reduceIte, ite_true, ite_false]; done) | (simp only [wirI, insB, withinB, *, decide_true, decide_false, Bool.and_true, Bool.true_and, Bool.and_false, Bool.false_and, Bool.or_false, Bool.false_or, Bool.or_true, Bool.true_or, Bool.not_true, Bool.not_false, not_false_eq_true, Bool.false_eq_true, if_true, if_false, reduceIte, ite_true, ite_false]; rfl) | (simp only [wirI, insB, withinB]; simp_all; done) | (simp only [wirI, insB, withinB]; simp_all; omega))) (.d _)) (And.intro rfl rfl))))))
              · replace h22 := of_decide_eq_false h22
                refine T_seq ?_
                refine T_region hc ?_
                refine Ch.step (v := (.d (.bool (decide (((x.wires.getD k default).kind) = 5))))) rfl (.pure (.int _ _ _ _ _ rfl rfl rfl rfl)) rfl rfl ?_
                refine Ch.step (v := (.d (.bool (decide (((x.wires.getD k default).kind) = 5))))) rfl (.pure (.assign _ rfl rfl)) rfl rfl ?_
                refine Ch.nil ?_
                refine T_cond (b := (decide (((x.wires.getD k default).kind) = 5))) rfl (fun h23 => ?_) (fun h23 => ?_)
                · replace h23 := of_decide_eq_true h23
                  refine T_seq ?_
                  refine T_region hc ?_
                  refine Ch.step (v := (.ptr 2000 0)) rfl (.pure (.fldPtr _ _ _ rfl fld44_0 rfl)) rfl rfl ?_
                  refine Ch.step (v := (.d (.slice false 2 (x.sigs.map Sgn.d)))) rfl (.pure (.loadPtr1 _ _ rfl ag41 rfl rfl rfl)) rfl rfl ?_
                  refine Ch.step (v := (.d (.int .i64 ((x.sigs.length : Nat) : Int)))) rfl (.pure (.len _ _ 85 rfl Try.underlying41 (.sh _ _) (by simp))) rfl rfl ?_
                  refine Ch.step (v := (.ptr 5000 3)) rfl (.pure (.fldPtr _ _ _ rfl fld82_3 rfl)) rfl rfl ?_
                  refine Ch.step (v := (.d (.slice false 1 (((x.wires.getD k default).cov).map D.str)))) rfl (.pure (.loadPtr1 _ _ rfl ag22 rfl rfl rfl)) rfl rfl ?_
                  refine Ch.step (v := (.d (.bool (goodB ((x.sigs.length : Nat) : Int) ((x.wires.getD k default).cov))))) rfl (.call 57000 62 _ _ _ en62 rfl (.inl rfl) (.cons (.d _) (.cons (.d _) .nil)) rfl rfl (sp_impl_IsValidCover ((x.sigs.length : Nat) : Int) ((x.wires.getD k default).cov) (by first | omega | assumption | (exact hx _ (getD_mem (by omega))) | (exact hx _ (by assumption)) | (exact Nat.le_trans (hx _ (by assumption)) (by omega)) | (simp only [List.length_append, List.length_take, List.length_drop, List.length_cons, List.length_nil]; omega) | (simp_all; done)) (by first | omega | assumption | (exact hx _ (getD_mem (by omega))) | (exact hx _ (by assumption)) | (exact Nat.le_trans (hx _ (by assumption)) (by omega)) | (simp only [List.length_append, List.length_take, List.length_drop, List.length_cons, List.length_nil]; omega) | (simp_all; done))) (.skip _ _ (.skip _ _ .nil)) rfl) rfl rfl ?_
                  refine Ch.step (v := (.d (.bool (goodB ((x.sigs.length : Nat) : Int) ((x.wires.getD k default).cov))))) rfl (.pure (.move _ rfl rfl)) rfl rfl ?_
                  cases h24 : (goodB ((x.sigs.length : Nat) : Int) ((x.wires.getD k default).cov)) with
                  | true =>
                    refine Ch.step (v := (.ptr 5000 2)) rfl (.pure (.fldPtr _ _ _ rfl fld82_2 rfl)) rfl rfl ?_
                    refine Ch.step (v := (.d (.slice false 2 (((x.wires.getD k default).ins).map Pin.d)))) rfl (.pure (.loadPtr1 _ _ rfl ag80 rfl rfl rfl)) rfl rfl ?_
                    refine Ch.step (v := (.d (.int .i64 ((((x.wires.getD k default).ins).length : Nat) : Int)))) rfl (.pure (.len _ _ 89 rfl Try.underlying80 (.sh _ _) (by simp))) rfl rfl ?_
                    refine Ch.step (v := (.d (.bool (decide (((((x.wires.getD k default).ins).length : Nat) : Int) = 0))))) rfl (.pure (.int _ _ _ _ _ rfl rfl rfl rfl)) rfl rfl ?_
                    refine Ch.step (v := (.d (.bool (decide (((((x.wires.getD k default).ins).length : Nat) : Int) = 0))))) rfl (.pure (.move _ rfl rfl)) rfl rfl ?_
                    cases h25 : (decide (((((x.wires.getD k default).ins).length : Nat) : Int) = 0)) with
                    | true =>
                      replace h25 := of_decide_eq_true h25
                      refine Ch.skip rfl rfl ?_
                      refine Ch.skip rfl rfl ?_
                      refine Ch.skip rfl rfl ?_
                      refine Ch.skip rfl rfl ?_
                      refine Ch.skip rfl rfl ?_
                      refine Ch.skip rfl rfl ?_
                      refine Ch.skip rfl rfl ?_
                      refine Ch.skip rfl rfl ?_
                      refine Ch.skip rfl rfl ?_
                      refine Ch.skip rfl rfl ?_
                      refine Ch.skip rfl rfl ?_
                      refine Ch.skip rfl rfl ?_
                      refine Ch.skip rfl rfl ?_
                      refine Ch.step (v := (.d (.bool true))) rfl (.pure (.pickT _ _ _ rfl rfl rfl)) rfl rfl ?_
                      refine Ch.step (v := (.d (.bool true))) rfl (.pure (.pickT _ _ _ rfl rfl rfl)) rfl rfl ?_
                      refine Ch.step (v := (.d (.bool true))) rfl (.pure (.assign _ rfl rfl)) rfl rfl ?_
                      refine Ch.nil ?_
                      refine T_ret ?_
                      refine And.intro (.inr rfl) ?_
                      exact Exists.intro [(.d (.bool true))] (Exists.intro [] (Exists.intro [] (And.intro (.cons (.tmp 4 rfl) .nil) (And.intro (.cons (.any _) (.cons (.any _) .nil)) (And.intro (Exp.of (congrArg D.bool (by first | (simp only [wirI, insB, withinB, *, decide_true, decide_false, Bool.and_true, Bool.true_and, Bool.and_false, Bool.false_and, Bool.or_false, Bool.false_or, Bool.or_true, Bool.true_or, Bool.not_true, Bool.not_false, not_false_eq_true, Bool.false_eq_true, if_true, if_false, reduceIte, ite_true, ite_false]; done) | (simp only [wirI, insB, withinB, *, decide_true, decide_false, Bool.and_true, Bool.true_and, Bool.and_false, Bool.false_and, Bool.or_false, Bool.false_or, Bool.or_true, Bool.true_or, Bool.not_true, Bool.not_false, not_false_eq_true, Bool.false_eq_true, if_true, if_false, reduceIte, ite_true, ite_false]; rfl) | (simp only [wirI, insB, withinB]; simp_all; done) | (simp only [wirI, insB, withinB]; simp_all; omega))) (.d _)) (And.intro rfl rfl))))))
                    | false =>
                      replace h25 := of_decide_eq_false h25
                      refine Ch.step (v := (.ptr 5000 2)) rfl (.pure (.fldPtr _ _ _ rfl fld82_2 rfl)) rfl rfl ?_
                      refine Ch.step (v := (.d (.slice false 2 (((x.wires.getD k default).ins).map Pin.d)))) rfl (.pure (.loadPtr1 _ _ rfl ag80 rfl rfl rfl)) rfl rfl ?_
                      refine Ch.step (v := (.d (.int .i64 ((((x.wires.getD k default).ins).length : Nat) : Int)))) rfl (.pure (.len _ _ 89 rfl Try.underlying80 (.sh _ _) (by simp))) rfl rfl ?_
                      refine Ch.step (v := (.d (.bool (decide (((((x.wires.getD k default).ins).length : Nat) : Int) = 1))))) rfl (.pure (.int _ _ _ _ _ rfl rfl rfl rfl)) rfl rfl ?_
                      refine Ch.step (v := (.d (.bool (decide (((((x.wires.getD k default).ins).length : Nat) : Int) = 1))))) rfl (.pure (.move _ rfl rfl)) rfl rfl ?_
                      cases h26 : (decide (((((x.wires.getD k default).ins).length : Nat) : Int) = 1)) with
                      | true =>
                        replace h26 := of_decide_eq_true h26
                        refine Ch.step (v := (.ptr 5000 2)) rfl (.pure (.fldPtr _ _ _ rfl fld82_2 rfl)) rfl rfl ?_
                        refine Ch.step (v := (.d (.slice false 2 (((x.wires.getD k default).ins).map Pin.d)))) rfl (.pure (.loadPtr1 _ _ rfl ag80 rfl rfl rfl)) rfl rfl ?_
                        refine Ch.step (v := (.d (.ref (.agg [(.int .i64 ((((x.wires.getD k default).ins).getD 0 default).num)), (.bool ((((x.wires.getD k default).ins).getD 0 default).neg))])))) rfl (.pure (.idx _ _ _ 89 (0) rfl Try.underlying80 sz89 rfl rfl rfl (get_map _ (by first | omega | (simp only [List.length_map, List.length_append, List.length_take, List.length_drop, List.length_cons, List.length_nil]; omega) | (simp; omega) | (simp; done))))) rfl rfl ?_
                        refine Ch.step (v := (.d (.agg [(.int .i64 ((((x.wires.getD k default).ins).getD 0 default).num)), (.bool ((((x.wires.getD k default).ins).getD 0 default).neg))]))) rfl (.pure (.loadRefA _ _ rfl ag89 sz89 rfl)) rfl rfl ?_
                        refine Ch.step (v := (.d (.int .i64 ((k : Nat) : Int)))) rfl (.pure (.move _ rfl rfl)) rfl rfl ?_
                        refine Ch.step (v := (.agg [(.d (.int .i64 ((k : Nat) : Int))), (.d (.bool false))])) rfl (.build _ _ rfl stru89 (.cons (.one _ rfl) .nil) rfl) rfl rfl ?_
                        refine Ch.step (v := (.d (.bool (decide ((((x.wires.getD k default).ins).getD 0 default) = (Pin.mk ((k : Nat) : Int) false)))))) rfl (.pure (.eqA _ _ _ _ rfl (eqa89 _ _ _ _) (.d _) (.v [(.int .i64 ((k : Nat) : Int)), (.bool false)]) (Pin.eqv (((x.wires.getD k default).ins).getD 0 default) (Pin.mk ((k : Nat) : Int) false)))) rfl rfl ?_
                        refine Ch.step (v := (.d (.bool (decide ((((x.wires.getD k default).ins).getD 0 default) = (Pin.mk ((k : Nat) : Int) false)))))) rfl (.pure (.pickT _ _ _ rfl rfl rfl)) rfl rfl ?_
                        refine Ch.step (v := (.d (.bool (decide ((((x.wires.getD k default).ins).getD 0 default) = (Pin.mk ((k : Nat) : Int) false)))))) rfl (.pure (.pickF _ _ _ rfl rfl rfl)) rfl rfl ?_
                        refine Ch.step (v := (.d (.bool (decide ((((x.wires.getD k default).ins).getD 0 default) = (Pin.mk ((k : Nat) : Int) false)))))) rfl (.pure (.pickT _ _ _ rfl rfl rfl)) rfl rfl ?_
                        refine Ch.step (v := (.d (.bool (decide ((((x.wires.getD k default).ins).getD 0 default) = (Pin.mk ((k : Nat) : Int) false)))))) rfl (.pure (.assign _ rfl rfl)) rfl rfl ?_
                        refine Ch.nil ?_
                        refine T_ret ?_
                        refine And.intro (.inr rfl) ?_
                        exact Exists.intro [(.d (.bool (decide ((((x.wires.getD k default).ins).getD 0 default) = (Pin.mk ((k : Nat) : Int) false)))))] (Exists.intro [] (Exists.intro [] (And.intro (.cons (.tmp 4 rfl) .nil) (And.intro (.cons (.any _) (.cons (.any _) .nil)) (And.intro (Exp.of (congrArg D.bool (by first | (simp only [wirI, insB, withinB, *, decide_true, decide_false, Bool.and_true, Bool.true_and, Bool.and_false, Bool.false_and, Bool.or_false, Bool.false_or, Bool.or_true, Bool.true_or, Bool.not_true, Bool.not_false, not_false_eq_true, Bool.false_eq_true, if_true, if_false, reduceIte, ite_true, ite_false]; done) | (simp only [wirI, insB, withinB, *, decide_true, decide_false, Bool.and_true, Bool.true_and, Bool.and_false, Bool.false_and, Bool.or_false, Bool.false_or, Bool.or_true, Bool.true_or, Bool.not_true, Bool.not_false, not_false_eq_true, Bool.false_eq_true, if_true, if_false, reduceIte, ite_true, ite_false]; rfl) | (simp only [wirI, insB, withinB]; simp_all; done) | (simp only [wirI, insB, withinB]; simp_all; omega))) (.d _)) (And.intro rfl rfl))))))
                      | false =>
                        replace h26 := of_decide_eq_false h26
                        refine Ch.skip rfl rfl ?_
                        refine Ch.skip rfl rfl ?_
                        refine Ch.skip rfl rfl ?_
                        refine Ch.skip rfl rfl ?_
                        refine Ch.skip rfl rfl ?_
                        refine Ch.skip rfl rfl ?_
                        refine Ch.skip rfl rfl ?_
                        refine Ch.step (v := (.d (.bool false))) rfl (.pure (.pickF _ _ _ rfl rfl rfl)) rfl rfl ?_
                        refine Ch.step (v := (.d (.bool false))) rfl (.pure (.pickF _ _ _ rfl rfl rfl)) rfl rfl ?_
                        refine Ch.step (v := (.d (.bool false))) rfl (.pure (.pickT _ _ _ rfl rfl rfl)) rfl rfl ?_
                        refine Ch.step (v := (.d (.bool false))) rfl (.pure (.assign _ rfl rfl)) rfl rfl ?_
                        refine Ch.nil ?_
                        refine T_ret ?_
                        refine And.intro (.inr rfl) ?_
                        exact Exists.intro [(.d (.bool false))] (Exists.intro [] (Exists.intro [] (And.intro (.cons (.tmp 4 rfl) .nil) (And.intro (.cons (.any _) (.cons (.any _) .nil)) (And.intro (Exp.of (congrArg D.bool (by first | (simp only [wirI, insB, withinB, *, decide_true, decide_false, Bool.and_true, Bool.true_and, Bool.and_false, Bool.false_and, Bool.or_false, Bool.false_or, Bool.or_true, Bool.true_or, Bool.not_true, Bool.not_false, not_false_eq_true, Bool.false_eq_true, if_true, if_false, reduceIte, ite_true, ite_false]; done) | (simp only [wirI, insB, withinB, *, decide_true, decide_false, Bool.and_true, Bool.true_and, Bool.and_false, Bool.false_and, Bool.or_false, Bool.false_or, Bool.or_true, Bool.true_or, Bool.not_true, Bool.not_false, not_false_eq_true, Bool.false_eq_true, if_true, if_false, reduceIte, ite_true, ite_false]; rfl) | (simp only [wirI, insB, withinB]; simp_all; done) | (simp only [wirI, insB, withinB]; simp_all; omega))) (.d _)) (And.intro rfl rfl))))))
                  | false =>
                    refine Ch.skip rfl rfl ?_
                    refine Ch.skip rfl rfl ?_
                    refine Ch.skip rfl rfl ?_
                    refine Ch.skip rfl rfl ?_
                    refine Ch.skip rfl rfl ?_
                    refine Ch.skip rfl rfl ?_
                    refine Ch.skip rfl rfl ?_
                    refine Ch.skip rfl rfl ?_
                    refine Ch.skip rfl rfl ?_
                    refine Ch.skip rfl rfl ?_
                    refine Ch.skip rfl rfl ?_
                    refine Ch.skip rfl rfl ?_
                    refine Ch.skip rfl rfl ?_
                    refine Ch.skip rfl rfl ?_
                    refine Ch.skip rfl rfl ?_
                    refine Ch.skip rfl rfl ?_
                    refine Ch.skip rfl rfl ?_
                    refine Ch.skip rfl rfl ?_
                    refine Ch.skip rfl rfl ?_
                    refine Ch.step (v := (.d (.bool false))) rfl (.pure (.pickF _ _ _ rfl rfl rfl)) rfl rfl ?_
                    refine Ch.step (v := (.d (.bool false))) rfl (.pure (.assign _ rfl rfl)) rfl rfl ?_
                    refine Ch.nil ?_
                    refine T_ret ?_
                    refine And.intro (.inr rfl) ?_
                    exact Exists.intro [(.d (.bool false))] (Exists.intro [] (Exists.intro [] (And.intro (.cons (.tmp 4 rfl) .nil) (And.intro (.cons (.any _) (.cons (.any _) .nil)) (And.intro (Exp.of (congrArg D.bool (by first | (simp only [wirI, insB, withinB, *, decide_true, decide_false, Bool.and_true, Bool.true_and, Bool.and_false, Bool.false_and, Bool.or_false, Bool.false_or, Bool.or_true, Bool.true_or, Bool.not_true, Bool.not_false, not_false_eq_true, Bool.false_eq_true, if_true, if_false, reduceIte, ite_true, ite_false]; done) | (simp only [wirI, insB, withinB, *, decide_true, decide_false, Bool.and_true, Bool.true_and, Bool.and_false, Bool.false_and, Bool.or_false, Bool.false_or, Bool.or_true, Bool.true_or, Bool.not_true, Bool.not_false, not_false_eq_true, Bool.false_eq_true, if_true, if_false, reduceIte, ite_true, ite_false]; rfl) | (simp only [wirI, insB, withinB]; simp_all; done) | (simp only [wirI, insB, withinB]; simp_all; omega))) (.d _)) (And.intro rfl rfl))))))
                · replace h23 := of_decide_eq_false h23
                  refine T_skip ?_
                  refine T_seq ?_
                  refine T_region hc ?_
                  refine Ch.step (v := (.d (.bool false))) rfl (.pure (.assign _ rfl rfl)) rfl rfl ?_
                  refine Ch.nil ?_
                  refine T_ret ?_
                  refine And.intro (.inr rfl) ?_
                  exact Exists.intro [(.d (.bool false))] (Exists.intro [] (Exists.intro [] (And.intro (.cons (.tmp 4 rfl) .nil) (And.intro (.cons (.any _) (.cons (.any _) .nil)) (And.intro (Exp.of (congrArg D.bool (by first | (simp only [wirI, insB, withinB, *, decide_true, decide_false, Bool.and_true, Bool.true_and, Bool.and_false, Bool.false_and, Bool.or_false, Bool.false_or, Bool.or_true, Bool.true_or, Bool.not_true, Bool.not_false, not_false_eq_true, Bool.false_eq_true, if_true, if_false, reduceIte, ite_true, ite_false]; done) | (simp only [wirI, insB, withinB, *, decide_true, decide_false, Bool.and_true, Bool.true_and, Bool.and_false, Bool.false_and, Bool.or_false, Bool.false_or, Bool.or_true, Bool.true_or, Bool.not_true, Bool.not_false, not_false_eq_true, Bool.false_eq_true, if_true, if_false, reduceIte, ite_true, ite_false]; rfl) | (simp only [wirI, insB, withinB]; simp_all; done) | (simp only [wirI, insB, withinB]; simp_all; omega))) (.d _)) (And.intro rfl rfl))))))
          · replace h20 := of_decide_eq_false h20
            refine T_region hc ?_
            refine Ch.step (v := (.d (.bool (decide (((x.wires.getD k default).kind) = 3))))) rfl (.pure (.int _ _ _ _ _ rfl rfl rfl rfl)) rfl rfl ?_
            refine Ch.step (v := (.d (.bool (decide (((x.wires.getD k default).kind) = 3))))) rfl (.pure (.assign _ rfl rfl)) rfl rfl ?_
            refine Ch.nil ?_
            refine T_cond (b := (decide (((x.wires.getD k default).kind) = 3))) rfl (fun h27 => ?_) (fun h27 => ?_)
            · replace h27 := of_decide_eq_true h27
              refine T_seq ?_
              refine T_region hc ?_
              refine Ch.step (v := (.ptr 5000 2)) rfl (.pure (.fldPtr _ _ _ rfl fld82_2 rfl)) rfl rfl ?_
              refine Ch.step (v := (.d (.slice false 2 (((x.wires.getD k default).ins).map Pin.d)))) rfl (.pure (.loadPtr1 _ _ rfl ag80 rfl rfl rfl)) rfl rfl ?_
              refine Ch.step (v := (.d (.int .i64 ((((x.wires.getD k default).ins).length : Nat) : Int)))) rfl (.pure (.len _ _ 89 rfl Try.underlying80 (.sh _ _) (by simp))) rfl rfl ?_
              refine Ch.step (v := (.d (.bool (withinB ((((x.wires.getD k default).ins).length : Nat) : Int) 1 8)))) rfl (.call 43000 98 _ _ _ en98 rfl (.inl rfl) (.cons (.d _) (.cons (.d _) (.cons (.d _) .nil))) rfl rfl (sp_impl_within ((((x.wires.getD k default).ins).length : Nat) : Int) 1 8) (.skip _ _ (.skip _ _ (.skip _ _ .nil))) rfl) rfl rfl ?_
              refine Ch.step (v := (.d (.bool (withinB ((((x.wires.getD k default).ins).length : Nat) : Int) 1 8)))) rfl (.pure (.assign _ rfl rfl)) rfl rfl ?_
              refine Ch.nil ?_
              refine T_ret ?_
              refine And.intro (.inr rfl) ?_
              exact Exists.intro [(.d (.bool (withinB ((((x.wires.getD k default).ins).length : Nat) : Int) 1 8)))] (Exists.intro [] (Exists.intro [] (And.intro (.cons (.tmp 4 rfl) .nil) (And.intro (.cons (.any _) (.cons (.any _) .nil)) (And.intro (Exp.of (congrArg D.bool (by first | (simp only [wirI, insB, withinB, *, decide_true, decide_false, Bool.and_true, Bool.true_and, Bool.and_false, Bool.false_and, Bool.or_false, Bool.false_or, Bool.or_true, Bool.true_or, Bool.not_true, Bool.not_false, not_false_eq_true, Bool.false_eq_true, if_true, if_false, reduceIte, ite_true, ite_false]; done) | (simp only [wirI, insB, withinB, *, decide_true, decide_false, Bool.and_true, Bool.true_and, Bool.and_false, Bool.false_and, Bool.or_false, Bool.false_or, Bool.or_true, Bool.true_or, Bool.not_true, Bool.not_false, not_false_eq_true, Bool.false_eq_true, if_true, if_false, reduceIte, ite_true, ite_false]; rfl) | (simp only [wirI, insB, withinB]; simp_all; done) | (simp only [wirI, insB, withinB]; simp_all; omega))) (.d _)) (And.intro rfl rfl))))))
            · replace h27 := of_decide_eq_false h27
              refine T_seq ?_
              refine T_region hc ?_
              refine Ch.step (v := (.d (.bool (decide (((x.wires.getD k default).kind) = 4))))) rfl (.pure (.int _ _ _ _ _ rfl rfl rfl rfl)) rfl rfl ?_
              refine Ch.step (v := (.d (.bool (decide (((x.wires.getD k default).kind) = 4))))) rfl (.pure (.assign _ rfl rfl)) rfl rfl ?_
              refine Ch.nil ?_
              refine T_cond (b := (decide (((x.wires.getD k default).kind) = 4))) rfl (fun h28 => ?_) (fun h28 => ?_)
              · replace h28 := of_decide_eq_true h28
                refine T_seq ?_
                refine T_region hc ?_
                refine Ch.step (v := (.ptr 5000 2)) rfl (.pure (.fldPtr _ _ _ rfl fld82_2 rfl)) rfl rfl ?_
                refine Ch.step (v := (.d (.slice false 2 (((x.wires.getD k default).ins).map Pin.d)))) rfl (.pure (.loadPtr1 _ _ rfl ag80 rfl rfl rfl)) rfl rfl ?_
                refine Ch.step (v := (.d (.int .i64 ((((x.wires.getD k default).ins).length : Nat) : Int)))) rfl (.pure (.len _ _ 89 rfl Try.underlying80 (.sh _ _) (by simp))) rfl rfl ?_
                refine Ch.step (v := (.d (.bool (decide (((((x.wires.getD k default).ins).length : Nat) : Int) = 2))))) rfl (.pure (.int _ _ _ _ _ rfl rfl rfl rfl)) rfl rfl ?_
                refine Ch.step (v := (.d (.bool (decide (((((x.wires.getD k default).ins).length : Nat) : Int) = 2))))) rfl (.pure (.assign _ rfl rfl)) rfl rfl ?_
                refine Ch.nil ?_
                refine T_ret ?_
                refine And.intro (.inr rfl) ?_
                exact Exists.intro [(.d (.bool (decide (((((x.wires.getD k default).ins).length : Nat) : Int) = 2))))] (Exists.intro [] (Exists.intro [] (And.intro (.cons (.tmp 4 rfl) .nil) (And.intro (.cons (.any _) (.cons (.any _) .nil)) (And.intro (Exp.of (congrArg D.bool (by first | (simp only [wirI, insB, withinB, *, decide_true, decide_false, Bool.and_true, Bool.true_and, Bool.and_false, Bool.false_and, Bool.or_false, Bool.false_or, Bool.or_true, Bool.true_or, Bool.not_true, Bool.not_false, not_false_eq_true, Bool.false_eq_true, if_true, if_false, reduceIte, ite_true, ite_false]; done) | (simp only [wirI, insB, withinB, *, decide_true, decide_false, Bool.and_true, Bool.true_and, Bool.and_false, Bool.false_and, Bool.or_false, Bool.false_or, Bool.or_true, Bool.true_or, Bool.not_true, Bool.not_false, not_false_eq_true, Bool.false_eq_true, if_true, if_false, reduceIte, ite_true, ite_false]; rfl) | (simp only [wirI, insB, withinB]; simp_all; done) | (simp only [wirI, insB, withinB]; simp_all; omega))) (.d _)) (And.intro rfl rfl))))))
              · replace h28 := of_decide_eq_false h28
                refine T_seq ?_
                refine T_region hc ?_
                refine Ch.step (v := (.d (.bool (decide (((x.wires.getD k default).kind) = 5))))) rfl (.pure (.int _ _ _ _ _ rfl rfl rfl rfl)) rfl rfl ?_
                refine Ch.step (v := (.d (.bool (decide (((x.wires.getD k default).kind) = 5))))) rfl (.pure (.assign _ rfl rfl)) rfl rfl ?_
                refine Ch.nil ?_
                refine T_cond (b := (decide (((x.wires.getD k default).kind) = 5))) rfl (fun h29 => ?_) (fun h29 => ?_)
                · replace h29 := of_decide_eq_true h29
                  refine T_seq ?_
                  refine T_region hc ?_
                  refine Ch.step (v := (.ptr 2000 0)) rfl (.pure (.fldPtr _ _ _ rfl fld44_0 rfl)) rfl rfl ?_
                  refine Ch.step (v := (.d (.slice false 2 (x.sigs.map Sgn.d)))) rfl (.pure (.loadPtr1 _ _ rfl ag41 rfl rfl rfl)) rfl rfl ?_
                  refine Ch.step (v := (.d (.int .i64 ((x.sigs.length : Nat) : Int)))) rfl (.pure (.len _ _ 85 rfl Try.underlying41 (.sh _ _) (by simp))) rfl rfl ?_
                  refine Ch.step (v := (.ptr 5000 3)) rfl (.pure (.fldPtr _ _ _ rfl fld82_3 rfl)) rfl rfl ?_
                  refine Ch.step (v := (.d (.slice false 1 (((x.wires.getD k default).cov).map D.str)))) rfl (.pure (.loadPtr1 _ _ rfl ag22 rfl rfl rfl)) rfl rfl ?_
                  refine Ch.step (v := (.d (.bool (goodB ((x.sigs.length : Nat) : Int) ((x.wires.getD k default).cov))))) rfl (.call 57000 62 _ _ _ en62 rfl (.inl rfl) (.cons (.d _) (.cons (.d _) .nil)) rfl rfl (sp_impl_IsValidCover ((x.sigs.length : Nat) : Int) ((x.wires.getD k default).cov) (by first | omega | assumption | (exact hx _ (getD_mem (by omega))) | (exact hx _ (by assumption)) | (exact Nat.le_trans (hx _ (by assumption)) (by omega)) | (simp only [List.length_append, List.length_take, List.length_drop, List.length_cons, List.length_nil]; omega) | (simp_all; done)) (by first | omega | assumption | (exact hx _ (getD_mem (by omega))) | (exact hx _ (by assumption)) | (exact Nat.le_trans (hx _ (by assumption)) (by omega)) | (simp only [List.length_append, List.length_take, List.length_drop, List.length_cons, List.length_nil]; omega) | (simp_all; done))) (.skip _ _ (.skip _ _ .nil)) rfl) rfl rfl ?_
                  refine Ch.step (v := (.d (.bool (goodB ((x.sigs.length : Nat) : Int) ((x.wires.getD k default).cov))))) rfl (.pure (.move _ rfl rfl)) rfl rfl ?_
                  cases h30 : (goodB ((x.sigs.length : Nat) : Int) ((x.wires.getD k default).cov)) with
                  | true =>
                    refine Ch.step (v := (.ptr 5000 2)) rfl (.pure (.fldPtr _ _ _ rfl fld82_2 rfl)) rfl rfl ?_
                    refine Ch.step (v := (.d (.slice false 2 (((x.wires.getD k default).ins).map Pin.d)))) rfl (.pure (.loadPtr1 _ _ rfl ag80 rfl rfl rfl)) rfl rfl ?_
                    refine Ch.step (v := (.d (.int .i64 ((((x.wires.getD k default).ins).length : Nat) : Int)))) rfl (.pure (.len _ _ 89 rfl Try.underlying80 (.sh _ _) (by simp))) rfl rfl ?_
                    refine Ch.step (v := (.d (.bool (decide (((((x.wires.getD k default).ins).length : Nat) : Int) = 0))))) rfl (.pure (.int _ _ _ _ _ rfl rfl rfl rfl)) rfl rfl ?_
                    refine Ch.step (v := (.d (.bool (decide (((((x.wires.getD k default).ins).length : Nat) : Int) = 0))))) rfl (.pure (.move _ rfl rfl)) rfl rfl ?_
                    cases h31 : (decide (((((x.wires.getD k default).ins).length : Nat) : Int) = 0)) with
                    | true =>
                      replace h31 := of_decide_eq_true h31
                      refine Ch.skip rfl rfl ?_
                      refine Ch.skip rfl rfl ?_
                      refine Ch.skip rfl rfl ?_
                      refine Ch.skip rfl rfl ?_
                      refine Ch.skip rfl rfl ?_
                      refine Ch.skip rfl rfl ?_
                      refine Ch.skip rfl rfl ?_
                      refine Ch.skip rfl rfl ?_
                      refine Ch.skip rfl rfl ?_
                      refine Ch.skip rfl rfl ?_
                      refine Ch.skip rfl rfl ?_
                      refine Ch.skip rfl rfl ?_
                      refine Ch.skip rfl rfl ?_
                      refine Ch.step (v := (.d (.bool true))) rfl (.pure (.pickT _ _ _ rfl rfl rfl)) rfl rfl ?_
                      refine Ch.step (v := (.d (.bool true))) rfl (.pure (.pickT _ _ _ rfl rfl rfl)) rfl rfl ?_
                      refine Ch.step (v := (.d (.bool true))) rfl (.pure (.assign _ rfl rfl)) rfl rfl ?_
                      refine Ch.nil ?_
                      refine T_ret ?_
                      refine And.intro (.inr rfl) ?_
                      exact Exists.intro [(.d (.bool true))] (Exists.intro [] (Exists.intro [] (And.intro (.cons (.tmp 4 rfl) .nil) (And.intro (.cons (.any _) (.cons (.any _) .nil)) (And.intro (Exp.of (congrArg D.bool (by first | (simp only [wirI, insB, withinB, *, decide_true, decide_false, Bool.and_true, Bool.true_and, Bool.and_false, Bool.false_and, Bool.or_false, Bool.false_or, Bool.or_true, Bool.true_or, Bool.not_true, Bool.not_false, not_false_eq_true, Bool.false_eq_true, if_true, if_false, reduceIte, ite_true, ite_false]; done) | (simp only [wirI, insB, withinB, *, decide_true, decide_false, Bool.and_true, Bool.true_and, Bool.and_false, Bool.false_and, Bool.or_false, Bool.false_or, Bool.or_true, Bool.true_or, Bool.not_true, Bool.not_false, not_false_eq_true, Bool.false_eq_true, if_true, if_false, reduceIte, ite_true, ite_false]; rfl) | (simp only [wirI, insB, withinB]; simp_all; done) | (simp only [wirI, insB, withinB]; simp_all; omega))) (.d _)) (And.intro rfl rfl))))))
                    | false =>
                      replace h31 := of_decide_eq_false h31
                      refine Ch.step (v := (.ptr 5000 2)) rfl (.pure (.fldPtr _ _ _ rfl fld82_2 rfl)) rfl rfl ?_
                      refine Ch.step (v := (.d (.slice false 2 (((x.wires.getD k default).ins).map Pin.d)))) rfl (.pure (.loadPtr1 _ _ rfl ag80 rfl rfl rfl)) rfl rfl ?_
                      refine Ch.step (v := (.d (.int .i64 ((((x.wires.getD k default).ins).length : Nat) : Int)))) rfl (.pure (.len _ _ 89 rfl Try.underlying80 (.sh _ _) (by simp))) rfl rfl ?_
                      refine Ch.step (v := (.d (.bool (decide (((((x.wires.getD k default).ins).length : Nat) : Int) = 1))))) rfl (.pure (.int _ _ _ _ _ rfl rfl rfl rfl)) rfl rfl ?_
                      refine Ch.step (v := (.d (.bool (decide (((((x.wires.getD k default).ins).length : Nat) : Int) = 1))))) rfl (.pure (.move _ rfl rfl)) rfl rfl ?_
                      cases h32 : (decide (((((x.wires.getD k default).ins).length : Nat) : Int) = 1)) with
                      | true =>
                        replace h32 := of_decide_eq_true h32
                        refine Ch.step (v := (.ptr 5000 2)) rfl (.pure (.fldPtr _ _ _ rfl fld82_2 rfl)) rfl rfl ?_
                        refine Ch.step (v := (.d (.slice false 2 (((x.wires.getD k default).ins).map Pin.d)))) rfl (.pure (.loadPtr1 _ _ rfl ag80 rfl rfl rfl)) rfl rfl ?_
                        refine Ch.step (v := (.d (.ref (.agg [(.int .i64 ((((x.wires.getD k default).ins).getD 0 default).num)), (.bool ((((x.wires.getD k default).ins).getD 0 default).neg))])))) rfl (.pure (.idx _ _ _ 89 (0) rfl Try.underlying80 sz89 rfl rfl rfl (get_map _ (by first | omega | (simp only [List.length_map, List.length_append, List.length_take, List.length_drop, List.length_cons, List.length_nil]; omega) | (simp; omega) | (simp; done))))) rfl rfl ?_
                        refine Ch.step (v := (.d (.agg [(.int .i64 ((((x.wires.getD k default).ins).getD 0 default).num)), (.bool ((((x.wires.getD k default).ins).getD 0 default).neg))]))) rfl (.pure (.loadRefA _ _ rfl ag89 sz89 rfl)) rfl rfl ?_
                        refine Ch.step (v := (.d (.int .i64 ((k : Nat) : Int)))) rfl (.pure (.move _ rfl rfl)) rfl rfl ?_
                        refine Ch.step (v := (.agg [(.d (.int .i64 ((k : Nat) : Int))), (.d (.bool false))])) rfl (.build _ _ rfl stru89 (.cons (.one _ rfl) .nil) rfl) rfl rfl ?_
                        refine Ch.step (v := (.d (.bool (decide ((((x.wires.getD k default).ins).getD 0 default) = (Pin.mk ((k : Nat) : Int) false)))))) rfl (.pure (.eqA _ _ _ _ rfl (eqa89 _ _ _ _) (.d _) (.v [(.int .i64 ((k : Nat) : Int)), (.bool false)]) (Pin.eqv (((x.wires.getD k default).ins).getD 0 default) (Pin.mk ((k : Nat) : Int) false)))) rfl rfl ?_
                        refine Ch.step (v := (.d (.bool (decide ((((x.wires.getD k default).ins).getD 0 default) = (Pin.mk ((k : Nat) : Int) false)))))) rfl (.pure (.pickT _ _ _ rfl rfl rfl)) rfl rfl ?_
                        refine Ch.step (v := (.d (.bool (decide ((((x.wires.getD k default).ins).getD 0 default) = (Pin.mk ((k : Nat) : Int) false)))))) rfl (.pure (.pickF _ _ _ rfl rfl rfl)) rfl rfl ?_
                        refine Ch.step (v := (.d (.bool (decide ((((x.wires.getD k default).ins).getD 0 default) = (Pin.mk ((k : Nat) : Int) false)))))) rfl (.pure (.pickT _ _ _ rfl rfl rfl)) rfl rfl ?_
                        refine Ch.step (v := (.d (.bool (decide ((((x.wires.getD k default).ins).getD 0 default) = (Pin.mk ((k : Nat) : Int) false)))))) rfl (.pure (.assign _ rfl rfl)) rfl rfl ?_
                        refine Ch.nil ?_
                        refine T_ret ?_
                        refine And.intro (.inr rfl) ?_
                        exact Exists.intro [(.d (.bool (decide ((((x.wires.getD k default).ins).getD 0 default) = (Pin.mk ((k : Nat) : Int) false)))))] (Exists.intro [] (Exists.intro [] (And.intro (.cons (.tmp 4 rfl) .nil) (And.intro (.cons (.any _) (.cons (.any _) .nil)) (And.intro (Exp.of (congrArg D.bool (by first | (simp only [wirI, insB, withinB, *, decide_true, decide_false, Bool.and_true, Bool.true_and, Bool.and_false, Bool.false_and, Bool.or_false, Bool.false_or, Bool.or_true, Bool.true_or, Bool.not_true, Bool.not_false, not_false_eq_true, Bool.false_eq_true, if_true, if_false, reduceIte, ite_true, ite_false]; done) | (simp only [wirI, insB, withinB, *, decide_true, decide_false, Bool.and_true, Bool.true_and, Bool.and_false, Bool.false_and, Bool.or_false, Bool.false_or, Bool.or_true, Bool.true_or, Bool.not_true, Bool.not_false, not_false_eq_true, Bool.false_eq_true, if_true, if_false, reduceIte, ite_true, ite_false]; rfl) | (simp only [wirI, insB, withinB]; simp_all; done) | (simp only [wirI, insB, withinB]; simp_all; omega))) (.d _)) (And.intro rfl rfl))))))
                      | false =>
                        replace h32 := of_decide_eq_false h32
                        refine Ch.skip rfl rfl ?_
                        refine Ch.skip rfl rfl ?_
                        refine Ch.skip rfl rfl ?_
                        refine Ch.skip rfl rfl ?_
                        refine Ch.skip rfl rfl ?_
                        refine Ch.skip rfl rfl ?_
                        refine Ch.skip rfl rfl ?_
                        refine Ch.step (v := (.d (.bool false))) rfl (.pure (.pickF _ _ _ rfl rfl rfl)) rfl rfl ?_
                        refine Ch.step (v := (.d (.bool false))) rfl (.pure (.pickF _ _ _ rfl rfl rfl)) rfl rfl ?_
                        refine Ch.step (v := (.d (.bool false))) rfl (.pure (.pickT _ _ _ rfl rfl rfl)) rfl rfl ?_
                        refine Ch.step (v := (.d (.bool false))) rfl (.pure (.assign _ rfl rfl)) rfl rfl ?_
                        refine Ch.nil ?_
                        refine T_ret ?_
                        refine And.intro (.inr rfl) ?_
                        exact Exists.intro [(.d (.bool false))] (Exists.intro [] (Exists.intro [] (And.intro (.cons (.tmp 4 rfl) .nil) (And.intro (.cons (.any _) (.cons (.any _) .nil)) (And.intro (Exp.of (congrArg D.bool (by first | (simp only [wirI, insB, withinB, *, decide_true, decide_false, Bool.and_true, Bool.true_and, Bool.and_false, Bool.false_and, Bool.or_false, Bool.false_or, Bool.or_true, Bool.true_or, Bool.not_true, Bool.not_false, not_false_eq_true, Bool.false_eq_true, if_true, if_false, reduceIte, ite_true, ite_false]; done) | (simp only [wirI, insB, withinB, *, decide_true, decide_false, Bool.and_true, Bool.true_and, Bool.and_false, Bool.false_and, Bool.or_false, Bool.false_or, Bool.or_true, Bool.true_or, Bool.not_true, Bool.not_false, not_false_eq_true, Bool.false_eq_true, if_true, if_false, reduceIte, ite_true, ite_false]; rfl) | (simp only [wirI, insB, withinB]; simp_all; done) | (simp only [wirI, insB, withinB]; simp_all; omega))) (.d _)) (And.intro rfl rfl))))))
                  | false =>
                    refine Ch.skip rfl rfl ?_
                    refine Ch.skip rfl rfl ?_
                    refine Ch.skip rfl rfl ?_
                    refine Ch.skip rfl rfl ?_
                    refine Ch.skip rfl rfl ?_
                    refine Ch.skip rfl rfl ?_
                    refine Ch.skip rfl rfl ?_
                    refine Ch.skip rfl rfl ?_
                    refine Ch.skip rfl rfl ?_
                    refine Ch.skip rfl rfl ?_
                    refine Ch.skip rfl rfl ?_
                    refine Ch.skip rfl rfl ?_
                    refine Ch.skip rfl rfl ?_
                    refine Ch.skip rfl rfl ?_
                    refine Ch.skip rfl rfl ?_
                    refine Ch.skip rfl rfl ?_
                    refine Ch.skip rfl rfl ?_
                    refine Ch.skip rfl rfl ?_
                    refine Ch.skip rfl rfl ?_
                    refine Ch.step (v := (.d (.bool false))) rfl (.pure (.pickF _ _ _ rfl rfl rfl)) rfl rfl ?_
                    refine Ch.step (v := (.d (.bool false))) rfl (.pure (.assign _ rfl rfl)) rfl rfl ?_
                    refine Ch.nil ?_
                    refine T_ret ?_
                    refine And.intro (.inr rfl) ?_
                    exact Exists.intro [(.d (.bool false))] (Exists.intro [] (Exists.intro [] (And.intro (.cons (.tmp 4 rfl) .nil) (And.intro (.cons (.any _) (.cons (.any _) .nil)) (And.intro (Exp.of (congrArg D.bool (by first | (simp only [wirI, insB, withinB, *, decide_true, decide_false, Bool.and_true, Bool.true_and, Bool.and_false, Bool.false_and, Bool.or_false, Bool.false_or, Bool.or_true, Bool.true_or, Bool.not_true, Bool.not_false, not_false_eq_true, Bool.false_eq_true, if_true, if_false, reduceIte, ite_true, ite_false]; done) | (simp only [wirI, insB, withinB, *, decide_true, decide_false, Bool.and_true, Bool.true_and, Bool.and_false, Bool.false_and, Bool.or_false, Bool.false_or, Bool.or_true, Bool.true_or, Bool.not_true, Bool.not_false, not_false_eq_true, Bool.false_eq_true, if_true, if_false, reduceIte, ite_true, ite_false]; rfl) | (simp only [wirI, insB, withinB]; simp_all; done) | (simp only [wirI, insB, withinB]; simp_all; omega))) (.d _)) (And.intro rfl rfl))))))
                · replace h29 := of_decide_eq_false h29
                  refine T_skip ?_
                  refine T_seq ?_
                  refine T_region hc ?_
                  refine Ch.step (v := (.d (.bool false))) rfl (.pure (.assign _ rfl rfl)) rfl rfl ?_
                  refine Ch.nil ?_
                  refine T_ret ?_
                  refine And.intro (.inr rfl) ?_
                  exact Exists.intro [(.d (.bool false))] (Exists.intro [] (Exists.intro [] (And.intro (.cons (.tmp 4 rfl) .nil) (And.intro (.cons (.any _) (.cons (.any _) .nil)) (And.intro (Exp.of (congrArg D.bool (by first | (simp only [wirI, insB, withinB, *, decide_true, decide_false, Bool.and_true, Bool.true_and, Bool.and_false, Bool.false_and, Bool.or_false, Bool.false_or, Bool.or_true, Bool.true_or, Bool.not_true, Bool.not_false, not_false_eq_true, Bool.false_eq_true, if_true, if_false, reduceIte, ite_true, ite_false]; done) | (simp only [wirI, insB, withinB, *, decide_true, decide_false, Bool.and_true, Bool.true_and, Bool.and_false, Bool.false_and, Bool.or_false, Bool.false_or, Bool.or_true, Bool.true_or, Bool.not_true, Bool.not_false, not_false_eq_true, Bool.false_eq_true, if_true, if_false, reduceIte, ite_true, ite_false]; rfl) | (simp only [wirI, insB, withinB]; simp_all; done) | (simp only [wirI, insB, withinB]; simp_all; omega))) (.d _)) (And.intro rfl rfl))))))

end Go.AM
