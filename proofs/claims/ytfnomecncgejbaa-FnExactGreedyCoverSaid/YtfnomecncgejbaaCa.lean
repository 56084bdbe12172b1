/-
  Contracts: small functions over numbers and strings.
-/
import Derived.Test.YtfnomecncgejbaaAmO
import Derived.Test.YtfnomecncgejbaaProg
import Derived.KernelRfl
namespace Go.AM
open Go.Proofs
set_option linter.unusedVariables false
set_option linter.unusedSimpArgs false



def bitN (up : Bool) : UInt8 := if up then 49 else 48



def withinB (n lo hi : Int) : Bool := decide (lo ≤ n) && decide (n ≤ hi)

theorem sp_impl_within (n lo hi : Int) : Sp Try.prog 98 [(.int .i64 n), (.int .i64 lo), (.int .i64 hi)] [.any, .any, .any] (.bool (withinB n lo hi)) := by
  refine Sp_intro (lend := true) Try.func98 rfl rfl rfl (fun _ => rfl) (fun c hc hX => ?_)
  refine T_seq ?_
  refine T_region hc ?_
  refine Ch.step (v := (.d (.bool false))) rfl (.pure (.assign _ rfl rfl)) rfl rfl ?_
  refine Ch.nil ?_
  refine T_seq ?_
  refine T_region hc ?_
  refine Ch.step (v := (.d (.int .i64 lo))) rfl (.pure (.move _ rfl rfl)) rfl rfl ?_
  refine Ch.step (v := (.d (.int .i64 n))) rfl (.pure (.move _ rfl rfl)) rfl rfl ?_
  refine Ch.step (v := (.d (.bool (decide (lo ≤ n))))) rfl (.pure (.int _ _ _ _ _ rfl rfl rfl rfl)) rfl rfl ?_
  refine Ch.step (v := (.d (.bool (decide (lo ≤ n))))) rfl (.pure (.move _ rfl rfl)) rfl rfl ?_
  cases h1 : (decide (lo ≤ n)) with
  | true =>
    replace h1 := of_decide_eq_true h1
    refine Ch.step (v := (.d (.int .i64 n))) rfl (.pure (.move _ rfl rfl)) rfl rfl ?_
    refine Ch.step (v := (.d (.int .i64 hi))) rfl (.pure (.move _ rfl rfl)) rfl rfl ?_
    refine Ch.step (v := (.d (.bool (decide (n ≤ hi))))) rfl (.pure (.int _ _ _ _ _ rfl rfl rfl rfl)) rfl rfl ?_
    refine Ch.step (v := (.d (.bool (decide (n ≤ hi))))) rfl (.pure (.pickT _ _ _ rfl rfl rfl)) rfl rfl ?_
    refine Ch.step (v := (.d (.bool (decide (n ≤ hi))))) rfl (.pure (.assign _ rfl rfl)) rfl rfl ?_
    refine Ch.nil ?_
    refine T_ret ?_
    refine And.intro (.inr rfl) ?_
    exact Exists.intro [(.d (.bool (decide (n ≤ hi))))] (Exists.intro [] (Exists.intro [] (And.intro (.cons (.tmp 6 rfl) .nil) (And.intro (.cons (.any _) (.cons (.any _) (.cons (.any _) .nil))) (And.intro (Exp.of (congrArg D.bool (by simp [withinB] <;> omega)) (.d _)) (And.intro rfl rfl))))))
  | false =>
    replace h1 := of_decide_eq_false h1
    refine Ch.skip rfl rfl ?_
    refine Ch.skip rfl rfl ?_
    refine Ch.skip rfl rfl ?_
    refine Ch.step (v := (.d (.bool false))) rfl (.pure (.pickF _ _ _ rfl rfl rfl)) rfl rfl ?_
    refine Ch.step (v := (.d (.bool false))) rfl (.pure (.assign _ rfl rfl)) rfl rfl ?_
    refine Ch.nil ?_
    refine T_ret ?_
    refine And.intro (.inr rfl) ?_
    exact Exists.intro [(.d (.bool false))] (Exists.intro [] (Exists.intro [] (And.intro (.cons (.tmp 6 rfl) .nil) (And.intro (.cons (.any _) (.cons (.any _) (.cons (.any _) .nil))) (And.intro (Exp.of (congrArg D.bool (by simp [withinB] <;> omega)) (.d _)) (And.intro rfl rfl))))))

theorem sp_spec_l1In (n lo hi : Int) : Sp Try.prog 118 [(.int .i64 n), (.int .i64 lo), (.int .i64 hi)] [.any, .any, .any] (.bool (withinB n lo hi)) := by
  refine Sp_intro (lend := true) Try.func118 rfl rfl rfl (fun _ => rfl) (fun c hc hX => ?_)
  refine T_seq ?_
  refine T_region hc ?_
  refine Ch.step (v := (.d (.bool false))) rfl (.pure (.assign _ rfl rfl)) rfl rfl ?_
  refine Ch.nil ?_
  refine T_seq ?_
  refine T_region hc ?_
  refine Ch.step (v := (.d (.int .i64 n))) rfl (.pure (.move _ rfl rfl)) rfl rfl ?_
  refine Ch.step (v := (.d (.int .i64 lo))) rfl (.pure (.move _ rfl rfl)) rfl rfl ?_
  refine Ch.step (v := (.d (.bool (decide (lo ≤ n))))) rfl (.pure (.int _ _ _ _ _ rfl rfl rfl rfl)) rfl rfl ?_
  refine Ch.step (v := (.d (.bool (decide (lo ≤ n))))) rfl (.pure (.move _ rfl rfl)) rfl rfl ?_
  cases h1 : (decide (lo ≤ n)) with
  | true =>
    replace h1 := of_decide_eq_true h1
    refine Ch.step (v := (.d (.int .i64 n))) rfl (.pure (.move _ rfl rfl)) rfl rfl ?_
    refine Ch.step (v := (.d (.int .i64 hi))) rfl (.pure (.move _ rfl rfl)) rfl rfl ?_
    refine Ch.step (v := (.d (.bool (decide (n ≤ hi))))) rfl (.pure (.int _ _ _ _ _ rfl rfl rfl rfl)) rfl rfl ?_
    refine Ch.step (v := (.d (.bool (decide (n ≤ hi))))) rfl (.pure (.pickT _ _ _ rfl rfl rfl)) rfl rfl ?_
    refine Ch.step (v := (.d (.bool (decide (n ≤ hi))))) rfl (.pure (.assign _ rfl rfl)) rfl rfl ?_
    refine Ch.nil ?_
    refine T_ret ?_
    refine And.intro (.inr rfl) ?_
    exact Exists.intro [(.d (.bool (decide (n ≤ hi))))] (Exists.intro [] (Exists.intro [] (And.intro (.cons (.tmp 6 rfl) .nil) (And.intro (.cons (.any _) (.cons (.any _) (.cons (.any _) .nil))) (And.intro (Exp.of (congrArg D.bool (by simp [withinB] <;> omega)) (.d _)) (And.intro rfl rfl))))))
  | false =>
    replace h1 := of_decide_eq_false h1
    refine Ch.skip rfl rfl ?_
    refine Ch.skip rfl rfl ?_
    refine Ch.skip rfl rfl ?_
    refine Ch.step (v := (.d (.bool false))) rfl (.pure (.pickF _ _ _ rfl rfl rfl)) rfl rfl ?_
    refine Ch.step (v := (.d (.bool false))) rfl (.pure (.assign _ rfl rfl)) rfl rfl ?_
    refine Ch.nil ?_
    refine T_ret ?_
    refine And.intro (.inr rfl) ?_
    exact Exists.intro [(.d (.bool false))] (Exists.intro [] (Exists.intro [] (And.intro (.cons (.tmp 6 rfl) .nil) (And.intro (.cons (.any _) (.cons (.any _) (.cons (.any _) .nil))) (And.intro (Exp.of (congrArg D.bool (by simp [withinB] <;> omega)) (.d _)) (And.intro rfl rfl))))))

end Go.AM
