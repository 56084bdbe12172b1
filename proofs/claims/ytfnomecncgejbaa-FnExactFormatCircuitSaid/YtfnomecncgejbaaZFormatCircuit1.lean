/-
  The contracts that the law FnExactFormatCircuit needs.
-/
import Derived.Test.YtfnomecncgejbaaAmO
import Derived.Test.YtfnomecncgejbaaProg
import Derived.KernelRfl
import Derived.Test.YtfnomecncgejbaaAmP
import Derived.Test.YtfnomecncgejbaaAmW
import Derived.Test.YtfnomecncgejbaaSh
namespace Go.AM
open Go.Proofs
set_option linter.unusedVariables false
set_option linter.unusedSimpArgs false

def withinB (n lo hi : Int) : Bool := decide (lo ≤ n) && decide (n ≤ hi)

theorem sp_impl_within (n lo hi : Int) : Sp Try.prog 98 [(.int .i64 n), (.int .i64 lo), (.int .i64 hi)] [.any, .any, .any] (.bool (withinB n lo hi)) := by
  refine Sp_intro (lend := true) Try.func98 rfl rfl rfl (fun _ => rfl) (fun c hc hX => ?_)
  refine T_seq ?_
  refine T_region hc ?_
  refine Ch.step (v := (.d (.bool false))) rfl (.pure (.assign _ rfl rfl)) rfl rfl ?_
  refine Ch.nil ?_
  refine T_seq ?_
  refine T_region hc ?_
  refine Ch.step (v := (.d (.int .i64 lo))) rfl (.pure (.move _ rfl rfl)) rfl rfl ?_
  refine Ch.step (v := (.d (.int .i64 n))) rfl (.pure (.move _ rfl rfl)) rfl rfl ?_
  refine Ch.step (v := (.d (.bool (decide (lo ≤ n))))) rfl (.pure (.int _ _ _ _ _ rfl rfl rfl rfl)) rfl rfl ?_
  refine Ch.step (v := (.d (.bool (decide (lo ≤ n))))) rfl (.pure (.move _ rfl rfl)) rfl rfl ?_
  cases h1 : (decide (lo ≤ n)) with
  | true =>
    replace h1 := of_decide_eq_true h1
    refine Ch.step (v := (.d (.int .i64 n))) rfl (.pure (.move _ rfl rfl)) rfl rfl ?_
    refine Ch.step (v := (.d (.int .i64 hi))) rfl (.pure (.move _ rfl rfl)) rfl rfl ?_
    refine Ch.step (v := (.d (.bool (decide (n ≤ hi))))) rfl (.pure (.int _ _ _ _ _ rfl rfl rfl rfl)) rfl rfl ?_
    refine Ch.step (v := (.d (.bool (decide (n ≤ hi))))) rfl (.pure (.pickT _ _ _ rfl rfl rfl)) rfl rfl ?_
    refine Ch.step (v := (.d (.bool (decide (n ≤ hi))))) rfl (.pure (.assign _ rfl rfl)) rfl rfl ?_
    refine Ch.nil ?_
    refine T_ret ?_
    refine And.intro (.inr rfl) ?_
    exact Exists.intro [(.d (.bool (decide (n ≤ hi))))] (Exists.intro [] (Exists.intro [] (And.intro (.cons (.tmp 6 rfl) .nil) (And.intro (.cons (.any _) (.cons (.any _) (.cons (.any _) .nil))) (And.intro (Exp.of (congrArg D.bool (by simp [withinB] <;> omega)) (.d _)) (And.intro rfl rfl))))))
  | false =>
    replace h1 := of_decide_eq_false h1
    refine Ch.skip rfl rfl ?_
    refine Ch.skip rfl rfl ?_
    refine Ch.skip rfl rfl ?_
    refine Ch.step (v := (.d (.bool false))) rfl (.pure (.pickF _ _ _ rfl rfl rfl)) rfl rfl ?_
    refine Ch.step (v := (.d (.bool false))) rfl (.pure (.assign _ rfl rfl)) rfl rfl ?_
    refine Ch.nil ?_
    refine T_ret ?_
    refine And.intro (.inr rfl) ?_
    exact Exists.intro [(.d (.bool false))] (Exists.intro [] (Exists.intro [] (And.intro (.cons (.tmp 6 rfl) .nil) (And.intro (.cons (.any _) (.cons (.any _) (.cons (.any _) .nil))) (And.intro (Exp.of (congrArg D.bool (by simp [withinB] <;> omega)) (.d _)) (And.intro rfl rfl))))))

theorem sp_spec_l1In (n lo hi : Int) : Sp Try.prog 118 [(.int .i64 n), (.int .i64 lo), (.int .i64 hi)] [.any, .any, .any] (.bool (withinB n lo hi)) := by
  refine Sp_intro (lend := true) Try.func118 rfl rfl rfl (fun _ => rfl) (fun c hc hX => ?_)
  refine T_seq ?_
  refine T_region hc ?_
  refine Ch.step (v := (.d (.bool false))) rfl (.pure (.assign _ rfl rfl)) rfl rfl ?_
  refine Ch.nil ?_
  refine T_seq ?_
  refine T_region hc ?_
  refine Ch.step (v := (.d (.int .i64 n))) rfl (.pure (.move _ rfl rfl)) rfl rfl ?_
  refine Ch.step (v := (.d (.int .i64 lo))) rfl (.pure (.move _ rfl rfl)) rfl rfl ?_
  refine Ch.step (v := (.d (.bool (decide (lo ≤ n))))) rfl (.pure (.int _ _ _ _ _ rfl rfl rfl rfl)) rfl rfl ?_
  refine Ch.step (v := (.d (.bool (decide (lo ≤ n))))) rfl (.pure (.move _ rfl rfl)) rfl rfl ?_
  cases h1 : (decide (lo ≤ n)) with
  | true =>
    replace h1 := of_decide_eq_true h1
    refine Ch.step (v := (.d (.int .i64 n))) rfl (.pure (.move _ rfl rfl)) rfl rfl ?_
    refine Ch.step (v := (.d (.int .i64 hi))) rfl (.pure (.move _ rfl rfl)) rfl rfl ?_
    refine Ch.step (v := (.d (.bool (decide (n ≤ hi))))) rfl (.pure (.int _ _ _ _ _ rfl rfl rfl rfl)) rfl rfl ?_
    refine Ch.step (v := (.d (.bool (decide (n ≤ hi))))) rfl (.pure (.pickT _ _ _ rfl rfl rfl)) rfl rfl ?_
    refine Ch.step (v := (.d (.bool (decide (n ≤ hi))))) rfl (.pure (.assign _ rfl rfl)) rfl rfl ?_
    refine Ch.nil ?_
    refine T_ret ?_
    refine And.intro (.inr rfl) ?_
    exact Exists.intro [(.d (.bool (decide (n ≤ hi))))] (Exists.intro [] (Exists.intro [] (And.intro (.cons (.tmp 6 rfl) .nil) (And.intro (.cons (.any _) (.cons (.any _) (.cons (.any _) .nil))) (And.intro (Exp.of (congrArg D.bool (by simp [withinB] <;> omega)) (.d _)) (And.intro rfl rfl))))))
  | false =>
    replace h1 := of_decide_eq_false h1
    refine Ch.skip rfl rfl ?_
    refine Ch.skip rfl rfl ?_
    refine Ch.skip rfl rfl ?_
    refine Ch.step (v := (.d (.bool false))) rfl (.pure (.pickF _ _ _ rfl rfl rfl)) rfl rfl ?_
    refine Ch.step (v := (.d (.bool false))) rfl (.pure (.assign _ rfl rfl)) rfl rfl ?_
    refine Ch.nil ?_
    refine T_ret ?_
    refine And.intro (.inr rfl) ?_
    exact Exists.intro [(.d (.bool false))] (Exists.intro [] (Exists.intro [] (And.intro (.cons (.tmp 6 rfl) .nil) (And.intro (.cons (.any _) (.cons (.any _) (.cons (.any _) .nil))) (And.intro (Exp.of (congrArg D.bool (by simp [withinB] <;> omega)) (.d _)) (And.intro rfl rfl))))))

theorem en118 : Enters Try.prog 118 := ⟨_, Try.func118, by kernel_rfl, rfl⟩

theorem en98 : Enters Try.prog 98 := ⟨_, Try.func98, by kernel_rfl, rfl⟩

def cubeCh (x : UInt8) : Bool := x == 48 || x == 49 || x == 45

def cubeS (s : List UInt8) : Bool := allB s.length (fun j => cubeCh (s.getD j 0))

def cubeB (s : List UInt8) : Bool := cubeS s && withinB s.length 1 8

def cubeN (s : List UInt8) (n : Int) : Bool := cubeS s && decide ((s.length : Int) = n) && withinB n 1 8

theorem sp_spec_l13Cube (s : List UInt8) (hs : s.length ≤ 1048576) : Sp Try.prog 117 [(.str s)] [.any] (.bool (cubeB s)) := by
  refine Sp_intro (lend := true) Try.func117 rfl rfl rfl (fun _ => rfl) (fun c hc hX => ?_)
  refine T_seq ?_
  refine T_region hc ?_
  refine Ch.step (v := (.d (.bool false))) rfl (.pure (.assign _ rfl rfl)) rfl rfl ?_
  refine Ch.nil ?_
  refine T_seq ?_
  refine T_seq ?_
  refine T_region hc ?_
  refine Ch.step (v := (.d (.int .i64 0))) rfl (.pure (.assign _ rfl rfl)) rfl rfl ?_
  refine Ch.nil ?_
  refine T_block ?_
  refine T_loop (ι := Nat) (fun k => { n := 29, sl := [(0, (.d (.str s))), (3, (.d (.int .i64 ((k : Nat) : Int))))], hp := [], pin := [] }) (fun k => k ≤ s.length ∧ ∀ j, j < k → cubeCh (s.getD j 0) = true) (fun k => s.length - k) ⟨0, ⟨by omega, fun j hj => by omega⟩, (Wk.of rfl rfl (And.intro rfl (And.intro (vI (by first | rfl | omega | (simp; done) | (simp; omega))) trivial)) trivial)⟩ (fun k hp0 => ?_)
  refine T_seq ?_
  refine T_seq ?_
  refine T_region hc ?_
  refine Ch.step (v := (.d (.int .i64 ((k : Nat) : Int)))) rfl (.pure (.move _ rfl rfl)) rfl rfl ?_
  refine Ch.step (v := (.d (.str s))) rfl (.pure (.move _ rfl rfl)) rfl rfl ?_
  refine Ch.step (v := (.d (.int .i64 ((s.length : Nat) : Int)))) rfl (.pure (.lenStr _ _ rfl Try.underlying9 rfl)) rfl rfl ?_
  refine Ch.step (v := (.d (.bool (decide (((k : Nat) : Int) < ((s.length : Nat) : Int)))))) rfl (.pure (.int _ _ _ _ _ rfl rfl rfl rfl)) rfl rfl ?_
  refine Ch.nil ?_
  refine T_cond (b := (decide (((k : Nat) : Int) < ((s.length : Nat) : Int)))) rfl (fun h1 => ?_) (fun h1 => ?_)
  · replace h1 := of_decide_eq_true h1
    refine T_skip ?_
    refine T_seq ?_
    refine T_block ?_
    refine T_seq ?_
    refine T_region hc ?_
    refine Ch.step (v := (.d (.str s))) rfl (.pure (.move _ rfl rfl)) rfl rfl ?_
    refine Ch.step (v := (.d (.int .i64 ((k : Nat) : Int)))) rfl (.pure (.move _ rfl rfl)) rfl rfl ?_
    refine Ch.step (v := (.d (.int .u8 ((s.getD k 0).toNat : Int)))) rfl (.pure (.idxStr _ _ _ (k) rfl Try.underlying9 rfl rfl rfl (get_str (by first | omega | (simp only [List.length_map, List.length_append, List.length_take, List.length_drop, List.length_cons, List.length_nil]; omega) | (simp; omega) | (simp; done))))) rfl rfl ?_
    refine Ch.step (v := (.d (.bool (!(decide (((s.getD k 0) : UInt8) = 48)))))) rfl (.pure (.int _ _ _ _ _ rfl rfl rfl (u8_neq ((s.getD k 0) : UInt8) 48 rfl rfl))) rfl rfl ?_
    refine Ch.step (v := (.d (.bool (!(decide (((s.getD k 0) : UInt8) = 48)))))) rfl (.pure (.move _ rfl rfl)) rfl rfl ?_
    cases h2 : (decide (((s.getD k 0) : UInt8) = 48)) with
    | true =>
      replace h2 := of_decide_eq_true h2
      refine Ch.skip rfl rfl ?_
      refine Ch.skip rfl rfl ?_
      refine Ch.skip rfl rfl ?_
      refine Ch.skip rfl rfl ?_
      refine Ch.step (v := (.d (.bool false))) rfl (.pure (.pickF _ _ _ rfl rfl rfl)) rfl rfl ?_
      refine Ch.step (v := (.d (.bool false))) rfl (.pure (.move _ rfl rfl)) rfl rfl ?_
      refine Ch.skip rfl rfl ?_
      refine Ch.skip rfl rfl ?_
      refine Ch.skip rfl rfl ?_
      refine Ch.skip rfl rfl ?_
      refine Ch.step (v := (.d (.bool false))) rfl (.pure (.pickF _ _ _ rfl rfl rfl)) rfl rfl ?_
      refine Ch.nil ?_
      refine T_cond (b := false) rfl (fun h => nomatch h) (fun _ => ?_)
      refine T_skip ?_
      refine T_region hc ?_
      refine Ch.step (v := (.d (.int .i64 ((k : Nat) : Int)))) rfl (.pure (.move _ rfl rfl)) rfl rfl ?_
      refine Ch.step (v := (.d (.int .i64 (((k : Nat) : Int) + 1)))) rfl (.pure (.int _ _ _ _ _ rfl rfl rfl (intV_add (by first | omega | (simp only [List.length_map, List.length_append, List.length_take, List.length_drop, List.length_cons, List.length_nil]; omega) | (simp; omega) | (simp; done)) (by first | omega | (simp only [List.length_map, List.length_append, List.length_take, List.length_drop, List.length_cons, List.length_nil]; omega) | (simp; omega) | (simp; done))))) rfl rfl ?_
      refine Ch.step (v := (.d (.int .i64 (((k : Nat) : Int) + 1)))) rfl (.pure (.assign _ rfl rfl)) rfl rfl ?_
      refine Ch.nil ?_
      refine Exists.intro (k + 1) (And.intro ⟨by omega, upto_succ hp0.2 (by simp_all [cubeCh])⟩ (And.intro (by first | omega | (dsimp only; omega)) (Wk.of rfl rfl (And.intro rfl (And.intro (vI (by first | rfl | omega | (simp; done) | (simp; omega))) trivial)) trivial)))
    | false =>
      replace h2 := of_decide_eq_false h2
      refine Ch.step (v := (.d (.str s))) rfl (.pure (.move _ rfl rfl)) rfl rfl ?_
      refine Ch.step (v := (.d (.int .i64 ((k : Nat) : Int)))) rfl (.pure (.move _ rfl rfl)) rfl rfl ?_
      refine Ch.step (v := (.d (.int .u8 ((s.getD k 0).toNat : Int)))) rfl (.pure (.idxStr _ _ _ (k) rfl Try.underlying9 rfl rfl rfl (get_str (by first | omega | (simp only [List.length_map, List.length_append, List.length_take, List.length_drop, List.length_cons, List.length_nil]; omega) | (simp; omega) | (simp; done))))) rfl rfl ?_
      refine Ch.step (v := (.d (.bool (!(decide (((s.getD k 0) : UInt8) = 49)))))) rfl (.pure (.int _ _ _ _ _ rfl rfl rfl (u8_neq ((s.getD k 0) : UInt8) 49 rfl rfl))) rfl rfl ?_
      refine Ch.step (v := (.d (.bool (!(decide (((s.getD k 0) : UInt8) = 49)))))) rfl (.pure (.pickT _ _ _ rfl rfl rfl)) rfl rfl ?_
      refine Ch.step (v := (.d (.bool (!(decide (((s.getD k 0) : UInt8) = 49)))))) rfl (.pure (.move _ rfl rfl)) rfl rfl ?_
      cases h3 : (decide (((s.getD k 0) : UInt8) = 49)) with
      | true =>
        replace h3 := of_decide_eq_true h3
        refine Ch.skip rfl rfl ?_
        refine Ch.skip rfl rfl ?_
        refine Ch.skip rfl rfl ?_
        refine Ch.skip rfl rfl ?_
        refine Ch.step (v := (.d (.bool false))) rfl (.pure (.pickF _ _ _ rfl rfl rfl)) rfl rfl ?_
        refine Ch.nil ?_
        refine T_cond (b := false) rfl (fun h => nomatch h) (fun _ => ?_)
        refine T_skip ?_
        refine T_region hc ?_
        refine Ch.step (v := (.d (.int .i64 ((k : Nat) : Int)))) rfl (.pure (.move _ rfl rfl)) rfl rfl ?_
        refine Ch.step (v := (.d (.int .i64 (((k : Nat) : Int) + 1)))) rfl (.pure (.int _ _ _ _ _ rfl rfl rfl (intV_add (by first | omega | (simp only [List.length_map, List.length_append, List.length_take, List.length_drop, List.length_cons, List.length_nil]; omega) | (simp; omega) | (simp; done)) (by first | omega | (simp only [List.length_map, List.length_append, List.length_take, List.length_drop, List.length_cons, List.length_nil]; omega) | (simp; omega) | (simp; done))))) rfl rfl ?_
        refine Ch.step (v := (.d (.int .i64 (((k : Nat) : Int) + 1)))) rfl (.pure (.assign _ rfl rfl)) rfl rfl ?_
        refine Ch.nil ?_
        refine Exists.intro (k + 1) (And.intro ⟨by omega, upto_succ hp0.2 (by simp_all [cubeCh])⟩ (And.intro (by first | omega | (dsimp only; omega)) (Wk.of rfl rfl (And.intro rfl (And.intro (vI (by first | rfl | omega | (simp; done) | (simp; omega))) trivial)) trivial)))
      | false =>
        replace h3 := of_decide_eq_false h3
        refine Ch.step (v := (.d (.str s))) rfl (.pure (.move _ rfl rfl)) rfl rfl ?_
        refine Ch.step (v := (.d (.int .i64 ((k : Nat) : Int)))) rfl (.pure (.move _ rfl rfl)) rfl rfl ?_
        refine Ch.step (v := (.d (.int .u8 ((s.getD k 0).toNat : Int)))) rfl (.pure (.idxStr _ _ _ (k) rfl Try.underlying9 rfl rfl rfl (get_str (by first | omega | (simp only [List.length_map, List.length_append, List.length_take, List.length_drop, List.length_cons, List.length_nil]; omega) | (simp; omega) | (simp; done))))) rfl rfl ?_
        refine Ch.step (v := (.d (.bool (!(decide (((s.getD k 0) : UInt8) = 45)))))) rfl (.pure (.int _ _ _ _ _ rfl rfl rfl (u8_neq ((s.getD k 0) : UInt8) 45 rfl rfl))) rfl rfl ?_
        refine Ch.step (v := (.d (.bool (!(decide (((s.getD k 0) : UInt8) = 45)))))) rfl (.pure (.pickT _ _ _ rfl rfl rfl)) rfl rfl ?_
        refine Ch.nil ?_
        refine T_cond (b := (!(decide (((s.getD k 0) : UInt8) = 45)))) rfl (fun h4 => ?_) (fun h4 => ?_)
        · replace h4 := nott h4
          replace h4 := of_decide_eq_false h4
          refine T_seq ?_
          refine T_region hc ?_
          refine Ch.step (v := (.d (.bool false))) rfl (.pure (.assign _ rfl rfl)) rfl rfl ?_
          refine Ch.nil ?_
          refine T_ret ?_
          refine And.intro (.inr rfl) ?_
          exact Exists.intro [(.d (.bool false))] (Exists.intro [] (Exists.intro [] (And.intro (.cons (.tmp 2 rfl) .nil) (And.intro (.cons (.any _) .nil) (And.intro (Exp.of (congrArg D.bool (by rw [cubeB, cubeS, allB_no k (by omega) (by simp_all [cubeCh])]; rfl)) (.d _)) (And.intro rfl rfl))))))
        · replace h4 := notf h4
          replace h4 := of_decide_eq_true h4
          refine T_skip ?_
          refine T_region hc ?_
          refine Ch.step (v := (.d (.int .i64 ((k : Nat) : Int)))) rfl (.pure (.move _ rfl rfl)) rfl rfl ?_
          refine Ch.step (v := (.d (.int .i64 (((k : Nat) : Int) + 1)))) rfl (.pure (.int _ _ _ _ _ rfl rfl rfl (intV_add (by first | omega | (simp only [List.length_map, List.length_append, List.length_take, List.length_drop, List.length_cons, List.length_nil]; omega) | (simp; omega) | (simp; done)) (by first | omega | (simp only [List.length_map, List.length_append, List.length_take, List.length_drop, List.length_cons, List.length_nil]; omega) | (simp; omega) | (simp; done))))) rfl rfl ?_
          refine Ch.step (v := (.d (.int .i64 (((k : Nat) : Int) + 1)))) rfl (.pure (.assign _ rfl rfl)) rfl rfl ?_
          refine Ch.nil ?_
          refine Exists.intro (k + 1) (And.intro ⟨by omega, upto_succ hp0.2 (by simp_all [cubeCh])⟩ (And.intro (by first | omega | (dsimp only; omega)) (Wk.of rfl rfl (And.intro rfl (And.intro (vI (by first | rfl | omega | (simp; done) | (simp; omega))) trivial)) trivial)))
  · replace h1 := of_decide_eq_false h1
    refine T_exit ?_
    refine T_seq ?_
    refine T_region hc ?_
    refine Ch.step (v := (.d (.str s))) rfl (.pure (.move _ rfl rfl)) rfl rfl ?_
    refine Ch.step (v := (.d (.int .i64 ((s.length : Nat) : Int)))) rfl (.pure (.lenStr _ _ rfl Try.underlying9 rfl)) rfl rfl ?_
    refine Ch.step (v := (.d (.bool (withinB ((s.length : Nat) : Int) 1 8)))) rfl (.call 28000 118 _ _ _ en118 rfl (.inl rfl) (.cons (.d _) (.cons (.d _) (.cons (.d _) .nil))) rfl rfl (sp_spec_l1In ((s.length : Nat) : Int) 1 8) (.skip _ _ (.skip _ _ (.skip _ _ .nil))) rfl) rfl rfl ?_
    refine Ch.step (v := (.d (.bool (withinB ((s.length : Nat) : Int) 1 8)))) rfl (.pure (.assign _ rfl rfl)) rfl rfl ?_
    refine Ch.nil ?_
    refine T_ret ?_
    refine And.intro (.inr rfl) ?_
    exact Exists.intro [(.d (.bool (withinB ((s.length : Nat) : Int) 1 8)))] (Exists.intro [] (Exists.intro [] (And.intro (.cons (.tmp 2 rfl) .nil) (And.intro (.cons (.any _) .nil) (And.intro (Exp.of (congrArg D.bool (by rw [cubeB, cubeS, allB_of (fun j hj => hp0.2 j (by omega)), Bool.true_and])) (.d _)) (And.intro rfl rfl))))))

theorem sp_impl_isCube (s : List UInt8) (n : Int) (hs : s.length ≤ 1048576) : Sp Try.prog 121 [(.str s), (.int .i64 n)] [.any, .any] (.bool (cubeN s n)) := by
  refine Sp_intro (lend := true) Try.func121 rfl rfl rfl (fun _ => rfl) (fun c hc hX => ?_)
  refine T_seq ?_
  refine T_region hc ?_
  refine Ch.step (v := (.d (.bool false))) rfl (.pure (.assign _ rfl rfl)) rfl rfl ?_
  refine Ch.nil ?_
  refine T_seq ?_
  refine T_seq ?_
  refine T_region hc ?_
  refine Ch.step (v := (.d (.int .i64 0))) rfl (.pure (.assign _ rfl rfl)) rfl rfl ?_
  refine Ch.nil ?_
  refine T_block ?_
  refine T_loop (ι := Nat) (fun k => { n := 36, sl := [(0, (.d (.str s))), (1, (.d (.int .i64 n))), (5, (.d (.int .i64 ((k : Nat) : Int))))], hp := [], pin := [] }) (fun k => k ≤ s.length ∧ ∀ j, j < k → cubeCh (s.getD j 0) = true) (fun k => s.length - k) ⟨0, ⟨by omega, fun j hj => by omega⟩, (Wk.of rfl rfl (And.intro rfl (And.intro rfl (And.intro (vI (by first | rfl | omega | (simp; done) | (simp; omega))) trivial))) trivial)⟩ (fun k hp0 => ?_)
  refine T_seq ?_
  refine T_seq ?_
  refine T_region hc ?_
  refine Ch.step (v := (.d (.int .i64 ((k : Nat) : Int)))) rfl (.pure (.move _ rfl rfl)) rfl rfl ?_
  refine Ch.step (v := (.d (.str s))) rfl (.pure (.move _ rfl rfl)) rfl rfl ?_
  refine Ch.step (v := (.d (.int .i64 ((s.length : Nat) : Int)))) rfl (.pure (.lenStr _ _ rfl Try.underlying9 rfl)) rfl rfl ?_
  refine Ch.step (v := (.d (.bool (decide (((k : Nat) : Int) < ((s.length : Nat) : Int)))))) rfl (.pure (.int _ _ _ _ _ rfl rfl rfl rfl)) rfl rfl ?_
  refine Ch.nil ?_
  refine T_cond (b := (decide (((k : Nat) : Int) < ((s.length : Nat) : Int)))) rfl (fun h1 => ?_) (fun h1 => ?_)
  · replace h1 := of_decide_eq_true h1
    refine T_skip ?_
    refine T_seq ?_
    refine T_block ?_
    refine T_seq ?_
    refine T_region hc ?_
    refine Ch.step (v := (.d (.str s))) rfl (.pure (.move _ rfl rfl)) rfl rfl ?_
    refine Ch.step (v := (.d (.int .i64 ((k : Nat) : Int)))) rfl (.pure (.move _ rfl rfl)) rfl rfl ?_
    refine Ch.step (v := (.d (.int .u8 ((s.getD k 0).toNat : Int)))) rfl (.pure (.idxStr _ _ _ (k) rfl Try.underlying9 rfl rfl rfl (get_str (by first | omega | (simp only [List.length_map, List.length_append, List.length_take, List.length_drop, List.length_cons, List.length_nil]; omega) | (simp; omega) | (simp; done))))) rfl rfl ?_
    refine Ch.step (v := (.d (.bool (!(decide (((s.getD k 0) : UInt8) = 48)))))) rfl (.pure (.int _ _ _ _ _ rfl rfl rfl (u8_neq ((s.getD k 0) : UInt8) 48 rfl rfl))) rfl rfl ?_
    refine Ch.step (v := (.d (.bool (!(decide (((s.getD k 0) : UInt8) = 48)))))) rfl (.pure (.move _ rfl rfl)) rfl rfl ?_
    cases h2 : (decide (((s.getD k 0) : UInt8) = 48)) with
    | true =>
      replace h2 := of_decide_eq_true h2
      refine Ch.skip rfl rfl ?_
      refine Ch.skip rfl rfl ?_
      refine Ch.skip rfl rfl ?_
      refine Ch.skip rfl rfl ?_
      refine Ch.step (v := (.d (.bool false))) rfl (.pure (.pickF _ _ _ rfl rfl rfl)) rfl rfl ?_
      refine Ch.step (v := (.d (.bool false))) rfl (.pure (.move _ rfl rfl)) rfl rfl ?_
      refine Ch.skip rfl rfl ?_
      refine Ch.skip rfl rfl ?_
      refine Ch.skip rfl rfl ?_
      refine Ch.skip rfl rfl ?_
      refine Ch.step (v := (.d (.bool false))) rfl (.pure (.pickF _ _ _ rfl rfl rfl)) rfl rfl ?_
      refine Ch.nil ?_
      refine T_cond (b := false) rfl (fun h => nomatch h) (fun _ => ?_)
      refine T_skip ?_
      refine T_region hc ?_
      refine Ch.step (v := (.d (.int .i64 ((k : Nat) : Int)))) rfl (.pure (.move _ rfl rfl)) rfl rfl ?_
      refine Ch.step (v := (.d (.int .i64 (((k : Nat) : Int) + 1)))) rfl (.pure (.int _ _ _ _ _ rfl rfl rfl (intV_add (by first | omega | (simp only [List.length_map, List.length_append, List.length_take, List.length_drop, List.length_cons, List.length_nil]; omega) | (simp; omega) | (simp; done)) (by first | omega | (simp only [List.length_map, List.length_append, List.length_take, List.length_drop, List.length_cons, List.length_nil]; omega) | (simp; omega) | (simp; done))))) rfl rfl ?_
      refine Ch.step (v := (.d (.int .i64 (((k : Nat) : Int) + 1)))) rfl (.pure (.assign _ rfl rfl)) rfl rfl ?_
      refine Ch.nil ?_
      refine Exists.intro (k + 1) (And.intro ⟨by omega, upto_succ hp0.2 (by simp_all [cubeCh])⟩ (And.intro (by first | omega | (dsimp only; omega)) (Wk.of rfl rfl (And.intro rfl (And.intro rfl (And.intro (vI (by first | rfl | omega | (simp; done) | (simp; omega))) trivial))) trivial)))
    | false =>
      replace h2 := of_decide_eq_false h2
      refine Ch.step (v := (.d (.str s))) rfl (.pure (.move _ rfl rfl)) rfl rfl ?_
      refine Ch.step (v := (.d (.int .i64 ((k : Nat) : Int)))) rfl (.pure (.move _ rfl rfl)) rfl rfl ?_
      refine Ch.step (v := (.d (.int .u8 ((s.getD k 0).toNat : Int)))) rfl (.pure (.idxStr _ _ _ (k) rfl Try.underlying9 rfl rfl rfl (get_str (by first | omega | (simp only [List.length_map, List.length_append, List.length_take, List.length_drop, List.length_cons, List.length_nil]; omega) | (simp; omega) | (simp; done))))) rfl rfl ?_
      refine Ch.step (v := (.d (.bool (!(decide (((s.getD k 0) : UInt8) = 49)))))) rfl (.pure (.int _ _ _ _ _ rfl rfl rfl (u8_neq ((s.getD k 0) : UInt8) 49 rfl rfl))) rfl rfl ?_
      refine Ch.step (v := (.d (.bool (!(decide (((s.getD k 0) : UInt8) = 49)))))) rfl (.pure (.pickT _ _ _ rfl rfl rfl)) rfl rfl ?_
      refine Ch.step (v := (.d (.bool (!(decide (((s.getD k 0) : UInt8) = 49)))))) rfl (.pure (.move _ rfl rfl)) rfl rfl ?_
      cases h3 : (decide (((s.getD k 0) : UInt8) = 49)) with
      | true =>
        replace h3 := of_decide_eq_true h3
        refine Ch.skip rfl rfl ?_
        refine Ch.skip rfl rfl ?_
        refine Ch.skip rfl rfl ?_
        refine Ch.skip rfl rfl ?_
        refine Ch.step (v := (.d (.bool false))) rfl (.pure (.pickF _ _ _ rfl rfl rfl)) rfl rfl ?_
        refine Ch.nil ?_
        refine T_cond (b := false) rfl (fun h => nomatch h) (fun _ => ?_)
        refine T_skip ?_
        refine T_region hc ?_
        refine Ch.step (v := (.d (.int .i64 ((k : Nat) : Int)))) rfl (.pure (.move _ rfl rfl)) rfl rfl ?_
        refine Ch.step (v := (.d (.int .i64 (((k : Nat) : Int) + 1)))) rfl (.pure (.int _ _ _ _ _ rfl rfl rfl (intV_add (by first | omega | (simp only [List.length_map, List.length_append, List.length_take, List.length_drop, List.length_cons, List.length_nil]; omega) | (simp; omega) | (simp; done)) (by first | omega | (simp only [List.length_map, List.length_append, List.length_take, List.length_drop, List.length_cons, List.length_nil]; omega) | (simp; omega) | (simp; done))))) rfl rfl ?_
        refine Ch.step (v := (.d (.int .i64 (((k : Nat) : Int) + 1)))) rfl (.pure (.assign _ rfl rfl)) rfl rfl ?_
        refine Ch.nil ?_
        refine Exists.intro (k + 1) (And.intro ⟨by omega, upto_succ hp0.2 (by simp_all [cubeCh])⟩ (And.intro (by first | omega | (dsimp only; omega)) (Wk.of rfl rfl (And.intro rfl (And.intro rfl (And.intro (vI (by first | rfl | omega | (simp; done) | (simp; omega))) trivial))) trivial)))
      | false =>
        replace h3 := of_decide_eq_false h3
        refine Ch.step (v := (.d (.str s))) rfl (.pure (.move _ rfl rfl)) rfl rfl ?_
        refine Ch.step (v := (.d (.int .i64 ((k : Nat) : Int)))) rfl (.pure (.move _ rfl rfl)) rfl rfl ?_
        refine Ch.step (v := (.d (.int .u8 ((s.getD k 0).toNat : Int)))) rfl (.pure (.idxStr _ _ _ (k) rfl Try.underlying9 rfl rfl rfl (get_str (by first | omega | (simp only [List.length_map, List.length_append, List.length_take, List.length_drop, List.length_cons, List.length_nil]; omega) | (simp; omega) | (simp; done))))) rfl rfl ?_
        refine Ch.step (v := (.d (.bool (!(decide (((s.getD k 0) : UInt8) = 45)))))) rfl (.pure (.int _ _ _ _ _ rfl rfl rfl (u8_neq ((s.getD k 0) : UInt8) 45 rfl rfl))) rfl rfl ?_
        refine Ch.step (v := (.d (.bool (!(decide (((s.getD k 0) : UInt8) = 45)))))) rfl (.pure (.pickT _ _ _ rfl rfl rfl)) rfl rfl ?_
        refine Ch.nil ?_
        refine T_cond (b := (!(decide (((s.getD k 0) : UInt8) = 45)))) rfl (fun h4 => ?_) (fun h4 => ?_)
        · replace h4 := nott h4
          replace h4 := of_decide_eq_false h4
          refine T_seq ?_
          refine T_region hc ?_
          refine Ch.step (v := (.d (.bool false))) rfl (.pure (.assign _ rfl rfl)) rfl rfl ?_
          refine Ch.nil ?_
          refine T_ret ?_
          refine And.intro (.inr rfl) ?_
          exact Exists.intro [(.d (.bool false))] (Exists.intro [] (Exists.intro [] (And.intro (.cons (.tmp 4 rfl) .nil) (And.intro (.cons (.any _) (.cons (.any _) .nil)) (And.intro (Exp.of (congrArg D.bool (by rw [cubeN, cubeS, allB_no k (by omega) (by simp_all [cubeCh])]; rfl)) (.d _)) (And.intro rfl rfl))))))
        · replace h4 := notf h4
          replace h4 := of_decide_eq_true h4
          refine T_skip ?_
          refine T_region hc ?_
          refine Ch.step (v := (.d (.int .i64 ((k : Nat) : Int)))) rfl (.pure (.move _ rfl rfl)) rfl rfl ?_
          refine Ch.step (v := (.d (.int .i64 (((k : Nat) : Int) + 1)))) rfl (.pure (.int _ _ _ _ _ rfl rfl rfl (intV_add (by first | omega | (simp only [List.length_map, List.length_append, List.length_take, List.length_drop, List.length_cons, List.length_nil]; omega) | (simp; omega) | (simp; done)) (by first | omega | (simp only [List.length_map, List.length_append, List.length_take, List.length_drop, List.length_cons, List.length_nil]; omega) | (simp; omega) | (simp; done))))) rfl rfl ?_
          refine Ch.step (v := (.d (.int .i64 (((k : Nat) : Int) + 1)))) rfl (.pure (.assign _ rfl rfl)) rfl rfl ?_
          refine Ch.nil ?_
          refine Exists.intro (k + 1) (And.intro ⟨by omega, upto_succ hp0.2 (by simp_all [cubeCh])⟩ (And.intro (by first | omega | (dsimp only; omega)) (Wk.of rfl rfl (And.intro rfl (And.intro rfl (And.intro (vI (by first | rfl | omega | (simp; done) | (simp; omega))) trivial))) trivial)))
  · replace h1 := of_decide_eq_false h1
    refine T_exit ?_
    refine T_seq ?_
    refine T_region hc ?_
    refine Ch.step (v := (.d (.str s))) rfl (.pure (.move _ rfl rfl)) rfl rfl ?_
    refine Ch.step (v := (.d (.int .i64 ((s.length : Nat) : Int)))) rfl (.pure (.lenStr _ _ rfl Try.underlying9 rfl)) rfl rfl ?_
    refine Ch.step (v := (.d (.int .i64 n))) rfl (.pure (.move _ rfl rfl)) rfl rfl ?_
    refine Ch.step (v := (.d (.bool (decide (((s.length : Nat) : Int) = n))))) rfl (.pure (.int _ _ _ _ _ rfl rfl rfl rfl)) rfl rfl ?_
    refine Ch.step (v := (.d (.bool (decide (((s.length : Nat) : Int) = n))))) rfl (.pure (.move _ rfl rfl)) rfl rfl ?_
    cases h5 : (decide (((s.length : Nat) : Int) = n)) with
    | true =>
      replace h5 := of_decide_eq_true h5
      refine Ch.step (v := (.d (.int .i64 n))) rfl (.pure (.move _ rfl rfl)) rfl rfl ?_
      refine Ch.step (v := (.d (.bool (withinB n 1 8)))) rfl (.call 34000 98 _ _ _ en98 rfl (.inl rfl) (.cons (.d _) (.cons (.d _) (.cons (.d _) .nil))) rfl rfl (sp_impl_within n 1 8) (.skip _ _ (.skip _ _ (.skip _ _ .nil))) rfl) rfl rfl ?_
      refine Ch.step (v := (.d (.bool (withinB n 1 8)))) rfl (.pure (.pickT _ _ _ rfl rfl rfl)) rfl rfl ?_
      refine Ch.step (v := (.d (.bool (withinB n 1 8)))) rfl (.pure (.assign _ rfl rfl)) rfl rfl ?_
      refine Ch.nil ?_
      refine T_ret ?_
      refine And.intro (.inr rfl) ?_
      exact Exists.intro [(.d (.bool (withinB n 1 8)))] (Exists.intro [] (Exists.intro [] (And.intro (.cons (.tmp 4 rfl) .nil) (And.intro (.cons (.any _) (.cons (.any _) .nil)) (And.intro (Exp.of (congrArg D.bool (by rw [cubeN, cubeS, allB_of (fun j hj => hp0.2 j (by omega))]; simp_all)) (.d _)) (And.intro rfl rfl))))))
    | false =>
      replace h5 := of_decide_eq_false h5
      refine Ch.skip rfl rfl ?_
      refine Ch.skip rfl rfl ?_
      refine Ch.step (v := (.d (.bool false))) rfl (.pure (.pickF _ _ _ rfl rfl rfl)) rfl rfl ?_
      refine Ch.step (v := (.d (.bool false))) rfl (.pure (.assign _ rfl rfl)) rfl rfl ?_
      refine Ch.nil ?_
      refine T_ret ?_
      refine And.intro (.inr rfl) ?_
      exact Exists.intro [(.d (.bool false))] (Exists.intro [] (Exists.intro [] (And.intro (.cons (.tmp 4 rfl) .nil) (And.intro (.cons (.any _) (.cons (.any _) .nil)) (And.intro (Exp.of (congrArg D.bool (by rw [cubeN, cubeS, allB_of (fun j hj => hp0.2 j (by omega))]; simp_all)) (.d _)) (And.intro rfl rfl))))))

def meetOf (x y : UInt8) : UInt8 := if x = y ∨ y = 45 then x else y

def meetS (a b : List UInt8) (k : Nat) : List UInt8 := tab k fun j => meetOf (a.getD j 0) (b.getD j 0)

@[simp] theorem meetS_length (a b : List UInt8) (k : Nat) : (meetS a b k).length = k := by simp [meetS]

theorem sz9 : SizeIs Try.prog 9 1 := by unfold SizeIs; kernel_rfl

theorem ag9 : AggIs Try.prog 9 false := by unfold AggIs; kernel_rfl

theorem zr9 : (Try.prog.info? 9).bind (·.zero) = some (.string .empty) := by kernel_rfl

theorem sty22 : SlotTy Try.prog 22 9 1 16 := slotTy_mk (by kernel_rfl)

theorem en130 : Enters Try.prog 130 := ⟨_, Try.func130, by kernel_rfl, rfl⟩

theorem sp_laws_szStringS (xs : List (List UInt8)) (left : Int) (h0 : 0 ≤ left) (h0u : left ≤ 1048576) (hn : xs.length ≤ 9223372036854775807) (hx : ∀ x ∈ xs, x.length ≤ 9223372036854775807) : Sp Try.prog 17 [(.slice false 1 (xs.map D.str)), (.int .i64 left)] [.any, .any] (.int .i64 (szS xs left)) := by
  refine Sp_intro (lend := true) Try.func17 rfl rfl rfl (fun _ => rfl) (fun c hc hX => ?_)
  refine T_seq ?_
  refine T_region hc ?_
  refine Ch.step (v := (.d (.int .i64 0))) rfl (.pure (.assign _ rfl rfl)) rfl rfl ?_
  refine Ch.nil ?_
  refine T_seq ?_
  refine T_region hc ?_
  refine Ch.step (v := (.d (.int .i64 left))) rfl (.pure (.move _ rfl rfl)) rfl rfl ?_
  refine Ch.step (v := (.d (.slice false 1 (xs.map D.str)))) rfl (.pure (.move _ rfl rfl)) rfl rfl ?_
  refine Ch.step (v := (.d (.int .i64 ((xs.length : Nat) : Int)))) rfl (.pure (.len _ _ 9 rfl Try.underlying22 (.sh _ _) (by simp))) rfl rfl ?_
  refine Ch.step (v := (.d (.int .i64 (left - ((xs.length : Nat) : Int))))) rfl (.pure (.int _ _ _ _ _ rfl rfl rfl (intV_sub (by first | omega | (simp only [List.length_map, List.length_append, List.length_take, List.length_drop, List.length_cons, List.length_nil]; omega) | (simp; omega) | (simp; done)) (by first | omega | (simp only [List.length_map, List.length_append, List.length_take, List.length_drop, List.length_cons, List.length_nil]; omega) | (simp; omega) | (simp; done))))) rfl rfl ?_
  refine Ch.step (v := (.d (.int .i64 (left - ((xs.length : Nat) : Int))))) rfl (.pure (.assign _ rfl rfl)) rfl rfl ?_
  refine Ch.nil ?_
  refine T_seq ?_
  refine T_seq ?_
  refine T_region hc ?_
  refine Ch.step (v := (.d (.int .i64 (left - ((xs.length : Nat) : Int))))) rfl (.pure (.move _ rfl rfl)) rfl rfl ?_
  refine Ch.step (v := (.d (.bool (decide ((left - ((xs.length : Nat) : Int)) < 0))))) rfl (.pure (.int _ _ _ _ _ rfl rfl rfl rfl)) rfl rfl ?_
  refine Ch.nil ?_
  refine T_cond (b := (decide ((left - ((xs.length : Nat) : Int)) < 0))) rfl (fun h1 => ?_) (fun h1 => ?_)
  · replace h1 := of_decide_eq_true h1
    refine T_seq ?_
    refine T_region hc ?_
    refine Ch.step (v := (.d (.int .i64 (-1)))) rfl (.pure (.assign _ rfl rfl)) rfl rfl ?_
    refine Ch.nil ?_
    refine T_ret ?_
    refine And.intro (.inr rfl) ?_
    exact Exists.intro [(.d (.int .i64 (-1)))] (Exists.intro [] (Exists.intro [] (And.intro (.cons (.tmp 4 rfl) .nil) (And.intro (.cons (.any _) (.cons (.any _) .nil)) (And.intro (Exp.of (congrArg (D.int .i64) (by rw [szS, if_neg (by unfold bulkS; omega)])) (.d _)) (And.intro rfl rfl))))))
  · replace h1 := of_decide_eq_false h1
    refine T_skip ?_
    refine T_seq ?_
    refine T_seq ?_
    refine T_region hc ?_
    refine Ch.step (v := (.d (.int .i64 0))) rfl (.pure (.assign _ rfl rfl)) rfl rfl ?_
    refine Ch.nil ?_
    refine T_block ?_
    refine T_loop (ι := Nat) (fun k => { n := 28, sl := [(0, (.d (.slice false 1 (xs.map D.str)))), (1, (.d (.int .i64 (left - xs.length - sumTo xs k)))), (5, (.d (.int .i64 ((k : Nat) : Int))))], hp := [], pin := [] }) (fun k => k ≤ xs.length ∧ 0 ≤ left - xs.length - sumTo xs k) (fun k => xs.length - k) ⟨0, ⟨by omega, by rw [sumTo_zero]; omega⟩, (Wk.of rfl rfl (And.intro rfl (And.intro (vI (by first | (rw [sumTo_zero]; omega) | (rw [sumTo_succ (by omega)]; omega))) (And.intro (vI (by first | rfl | omega | (simp; done) | (simp; omega))) trivial))) trivial)⟩ (fun k hp0 => ?_)
    refine T_seq ?_
    refine T_seq ?_
    refine T_region hc ?_
    refine Ch.step (v := (.d (.int .i64 ((k : Nat) : Int)))) rfl (.pure (.move _ rfl rfl)) rfl rfl ?_
    refine Ch.step (v := (.d (.slice false 1 (xs.map D.str)))) rfl (.pure (.move _ rfl rfl)) rfl rfl ?_
    refine Ch.step (v := (.d (.int .i64 ((xs.length : Nat) : Int)))) rfl (.pure (.len _ _ 9 rfl Try.underlying22 (.sh _ _) (by simp))) rfl rfl ?_
    refine Ch.step (v := (.d (.bool (decide (((k : Nat) : Int) < ((xs.length : Nat) : Int)))))) rfl (.pure (.int _ _ _ _ _ rfl rfl rfl rfl)) rfl rfl ?_
    refine Ch.nil ?_
    refine T_cond (b := (decide (((k : Nat) : Int) < ((xs.length : Nat) : Int)))) rfl (fun h2 => ?_) (fun h2 => ?_)
    · replace h2 := of_decide_eq_true h2
      try have hk := hx _ (getD_mem (l := xs) (j := k) (d := default) (by omega))
      refine T_skip ?_
      refine T_seq ?_
      refine T_block ?_
      refine T_seq ?_
      refine T_region hc ?_
      refine Ch.step (v := (.d (.int .i64 (left - xs.length - sumTo xs k)))) rfl (.pure (.move _ rfl rfl)) rfl rfl ?_
      refine Ch.step (v := (.d (.slice false 1 (xs.map D.str)))) rfl (.pure (.move _ rfl rfl)) rfl rfl ?_
      refine Ch.step (v := (.d (.int .i64 ((k : Nat) : Int)))) rfl (.pure (.move _ rfl rfl)) rfl rfl ?_
      refine Ch.step (v := (.d (.ref (.str (xs.getD k default))))) rfl (.pure (.idx _ _ _ 9 (k) rfl Try.underlying22 sz9 rfl rfl rfl (get_map _ (by first | omega | (simp only [List.length_map, List.length_append, List.length_take, List.length_drop, List.length_cons, List.length_nil]; omega) | (simp; omega) | (simp; done))))) rfl rfl ?_
      refine Ch.step (v := (.d (.str (xs.getD k default)))) rfl (.pure (.loadRef1 _ _ rfl ag9 rfl rfl)) rfl rfl ?_
      refine Ch.step (v := (.d (.int .i64 (((xs.getD k default).length : Nat) : Int)))) rfl (.pure (.lenStr _ _ rfl Try.underlying9 rfl)) rfl rfl ?_
      refine Ch.step (v := (.d (.int .i64 ((left - xs.length - sumTo xs k) - (((xs.getD k default).length : Nat) : Int))))) rfl (.pure (.int _ _ _ _ _ rfl rfl rfl (intV_sub (by first | omega | (simp only [List.length_map, List.length_append, List.length_take, List.length_drop, List.length_cons, List.length_nil]; omega) | (simp; omega) | (simp; done)) (by first | omega | (simp only [List.length_map, List.length_append, List.length_take, List.length_drop, List.length_cons, List.length_nil]; omega) | (simp; omega) | (simp; done))))) rfl rfl ?_
      refine Ch.step (v := (.d (.int .i64 ((left - xs.length - sumTo xs k) - (((xs.getD k default).length : Nat) : Int))))) rfl (.pure (.assign _ rfl rfl)) rfl rfl ?_
      refine Ch.nil ?_
      refine T_seq ?_
      refine T_region hc ?_
      refine Ch.step (v := (.d (.int .i64 ((left - xs.length - sumTo xs k) - (((xs.getD k default).length : Nat) : Int))))) rfl (.pure (.move _ rfl rfl)) rfl rfl ?_
      refine Ch.step (v := (.d (.bool (decide (((left - xs.length - sumTo xs k) - (((xs.getD k default).length : Nat) : Int)) < 0))))) rfl (.pure (.int _ _ _ _ _ rfl rfl rfl rfl)) rfl rfl ?_
      refine Ch.nil ?_
      refine T_cond (b := (decide (((left - xs.length - sumTo xs k) - (((xs.getD k default).length : Nat) : Int)) < 0))) rfl (fun h3 => ?_) (fun h3 => ?_)
      · replace h3 := of_decide_eq_true h3
        refine T_seq ?_
        refine T_region hc ?_
        refine Ch.step (v := (.d (.int .i64 (-1)))) rfl (.pure (.assign _ rfl rfl)) rfl rfl ?_
        refine Ch.nil ?_
        refine T_ret ?_
        refine And.intro (.inr rfl) ?_
        exact Exists.intro [(.d (.int .i64 (-1)))] (Exists.intro [] (Exists.intro [] (And.intro (.cons (.tmp 4 rfl) .nil) (And.intro (.cons (.any _) (.cons (.any _) .nil)) (And.intro (Exp.of (congrArg (D.int .i64) (by rw [szS, if_neg (by have h4 := sumTo_le xs (k + 1); rw [sumTo_succ (by omega)] at h4; unfold bulkS; omega)])) (.d _)) (And.intro rfl rfl))))))
      · replace h3 := of_decide_eq_false h3
        refine T_skip ?_
        refine T_region hc ?_
        refine Ch.step (v := (.d (.int .i64 ((k : Nat) : Int)))) rfl (.pure (.move _ rfl rfl)) rfl rfl ?_
        refine Ch.step (v := (.d (.int .i64 (((k : Nat) : Int) + 1)))) rfl (.pure (.int _ _ _ _ _ rfl rfl rfl (intV_add (by first | omega | (simp only [List.length_map, List.length_append, List.length_take, List.length_drop, List.length_cons, List.length_nil]; omega) | (simp; omega) | (simp; done)) (by first | omega | (simp only [List.length_map, List.length_append, List.length_take, List.length_drop, List.length_cons, List.length_nil]; omega) | (simp; omega) | (simp; done))))) rfl rfl ?_
        refine Ch.step (v := (.d (.int .i64 (((k : Nat) : Int) + 1)))) rfl (.pure (.assign _ rfl rfl)) rfl rfl ?_
        refine Ch.nil ?_
        refine Exists.intro (k + 1) (And.intro ⟨by omega, by rw [sumTo_succ (by omega)]; omega⟩ (And.intro (by first | omega | (dsimp only; omega)) (Wk.of rfl rfl (And.intro rfl (And.intro (vI (by first | (rw [sumTo_zero]; omega) | (rw [sumTo_succ (by omega)]; omega))) (And.intro (vI (by first | rfl | omega | (simp; done) | (simp; omega))) trivial))) trivial)))
    · replace h2 := of_decide_eq_false h2
      try have hk := hx _ (getD_mem (l := xs) (j := k) (d := default) (by omega))
      refine T_exit ?_
      refine T_seq ?_
      refine T_region hc ?_
      refine Ch.step (v := (.d (.int .i64 (left - xs.length - sumTo xs k)))) rfl (.pure (.move _ rfl rfl)) rfl rfl ?_
      refine Ch.step (v := (.d (.int .i64 (left - xs.length - sumTo xs k)))) rfl (.pure (.assign _ rfl rfl)) rfl rfl ?_
      refine Ch.nil ?_
      refine T_ret ?_
      refine And.intro (.inr rfl) ?_
      exact Exists.intro [(.d (.int .i64 (left - xs.length - sumTo xs k)))] (Exists.intro [] (Exists.intro [] (And.intro (.cons (.tmp 4 rfl) .nil) (And.intro (.cons (.any _) (.cons (.any _) .nil)) (And.intro (Exp.of (congrArg (D.int .i64) (by have h4 := sumTo_all (xs := xs) (k := k) (by omega); rw [szS, if_pos (by unfold bulkS; omega)]; unfold bulkS; omega)) (.d _)) (And.intro rfl rfl))))))

theorem sp_laws_toStringS (xs : List (List UInt8)) (hn : xs.length ≤ 1048576) : Sp Try.prog 19 [(.slice false 1 (xs.map D.str))] [.any] (.slice true 1 (xs.map D.str)) := by
  refine Sp_intro (lend := true) Try.func19 rfl rfl rfl (fun _ => rfl) (fun c hc hX => ?_)
  refine T_seq ?_
  refine T_region hc ?_
  refine Ch.step (v := (.c (.slice none 0 0))) rfl (.pure (.assign _ rfl rfl)) rfl rfl ?_
  refine Ch.nil ?_
  refine T_seq ?_
  refine T_region hc ?_
  refine Ch.step (v := (.d (.slice false 1 (xs.map D.str)))) rfl (.pure (.move _ rfl rfl)) rfl rfl ?_
  refine Ch.step (v := (.d (.int .i64 ((xs.length : Nat) : Int)))) rfl (.pure (.len _ _ 9 rfl Try.underlying22 (.sh _ _) (by simp))) rfl rfl ?_
  refine Ch.step (v := (.row 7000)) rfl (.make 7000 _ 9 _ _ (xs.length) (xs.length) rfl sty22 rfl rfl rfl rfl (by first | omega | (simp only [List.length_map, List.length_append, List.length_take, List.length_drop, List.length_cons, List.length_nil]; omega) | (simp; omega) | (simp; done)) (by first | omega | (simp only [List.length_map, List.length_append, List.length_take, List.length_drop, List.length_cons, List.length_nil]; omega) | (simp; omega) | (simp; done)) (by first | omega | (simp only [List.length_map, List.length_append, List.length_take, List.length_drop, List.length_cons, List.length_nil]; omega) | (simp; omega) | (simp; done)) (zeroD_mk (zd := (.str [])) zr9 (by intro S w; rw [DR]; exact ⟨rfl, rfl⟩) rfl)) rfl rfl ?_
  refine Ch.step (v := (.row 7000)) rfl (.pure (.assign _ rfl rfl)) rfl rfl ?_
  refine Ch.nil ?_
  refine T_seq ?_
  refine T_seq ?_
  refine T_region hc ?_
  refine Ch.step (v := (.d (.int .i64 0))) rfl (.pure (.assign _ rfl rfl)) rfl rfl ?_
  refine Ch.nil ?_
  refine T_block ?_
  refine T_loop (ι := Nat) (fun k => { n := 22, sl := [(0, (.d (.slice false 1 (xs.map D.str)))), (3, (.row 3)), (4, (.d (.int .i64 ((k : Nat) : Int))))], hp := [(3, (some (.row 1 ((fill xs [] k).map D.str))))], pin := [] }) (fun k => k ≤ xs.length) (fun k => xs.length - k) ⟨0, (by omega), (Wk.ren [(3, 7000)] rfl rfl rfl rfl (And.intro rfl (And.intro rfl (And.intro (vI (by first | rfl | omega | (simp; done) | (simp; omega))) trivial))) (And.intro (oR (by first | (rw [fill_zero, List.map_replicate]; done) | (rw [← fill_set xs [] default (by omega), List.map_set]; done))) trivial))⟩ (fun k hp0 => ?_)
  refine T_seq ?_
  refine T_seq ?_
  refine T_region hc ?_
  refine Ch.step (v := (.d (.int .i64 ((k : Nat) : Int)))) rfl (.pure (.move _ rfl rfl)) rfl rfl ?_
  refine Ch.step (v := (.d (.slice false 1 (xs.map D.str)))) rfl (.pure (.move _ rfl rfl)) rfl rfl ?_
  refine Ch.step (v := (.d (.int .i64 ((xs.length : Nat) : Int)))) rfl (.pure (.len _ _ 9 rfl Try.underlying22 (.sh _ _) (by simp))) rfl rfl ?_
  refine Ch.step (v := (.d (.bool (decide (((k : Nat) : Int) < ((xs.length : Nat) : Int)))))) rfl (.pure (.int _ _ _ _ _ rfl rfl rfl rfl)) rfl rfl ?_
  refine Ch.nil ?_
  refine T_cond (b := (decide (((k : Nat) : Int) < ((xs.length : Nat) : Int)))) rfl (fun h1 => ?_) (fun h1 => ?_)
  · replace h1 := of_decide_eq_true h1
    refine T_skip ?_
    refine T_seq ?_
    refine T_block ?_
    refine T_region hc ?_
    refine Ch.step (v := (.row 3)) rfl (.pure (.move _ rfl rfl)) rfl rfl ?_
    refine Ch.step (v := (.d (.int .i64 ((k : Nat) : Int)))) rfl (.pure (.move _ rfl rfl)) rfl rfl ?_
    refine Ch.step (v := (.d (.slice false 1 (xs.map D.str)))) rfl (.pure (.move _ rfl rfl)) rfl rfl ?_
    refine Ch.step (v := (.d (.int .i64 ((k : Nat) : Int)))) rfl (.pure (.move _ rfl rfl)) rfl rfl ?_
    refine Ch.step (v := (.d (.ref (.str (xs.getD k default))))) rfl (.pure (.idx _ _ _ 9 (k) rfl Try.underlying22 sz9 rfl rfl rfl (get_map _ (by first | omega | (simp only [List.length_map, List.length_append, List.length_take, List.length_drop, List.length_cons, List.length_nil]; omega) | (simp; omega) | (simp; done))))) rfl rfl ?_
    refine Ch.step (v := (.d (.str (xs.getD k default)))) rfl (.pure (.loadRef1 _ _ rfl ag9 rfl rfl)) rfl rfl ?_
    refine Ch.step (v := (.el 3 1 k 0)) rfl (.pure (.idxRow _ _ _ 9 (k) rfl Try.underlying22 sz9 rfl rfl rfl rfl (by first | omega | (simp; omega)))) rfl rfl ?_
    refine Ch.step (v := .junk) rfl (.storeEl (y' := (.str (xs.getD k default))) _ _ _ rfl rfl rfl (.d _) rfl sz9 rfl (get_map _ (by first | omega | (simp only [List.length_map, List.length_append, List.length_take, List.length_drop, List.length_cons, List.length_nil]; omega) | (simp; omega) | (simp; done))) rfl rfl) rfl rfl ?_
    refine Ch.nil ?_
    refine T_region hc ?_
    refine Ch.step (v := (.d (.int .i64 ((k : Nat) : Int)))) rfl (.pure (.move _ rfl rfl)) rfl rfl ?_
    refine Ch.step (v := (.d (.int .i64 (((k : Nat) : Int) + 1)))) rfl (.pure (.int _ _ _ _ _ rfl rfl rfl (intV_add (by first | omega | (simp only [List.length_map, List.length_append, List.length_take, List.length_drop, List.length_cons, List.length_nil]; omega) | (simp; omega) | (simp; done)) (by first | omega | (simp only [List.length_map, List.length_append, List.length_take, List.length_drop, List.length_cons, List.length_nil]; omega) | (simp; omega) | (simp; done))))) rfl rfl ?_
    refine Ch.step (v := (.d (.int .i64 (((k : Nat) : Int) + 1)))) rfl (.pure (.assign _ rfl rfl)) rfl rfl ?_
    refine Ch.nil ?_
    refine Exists.intro (k + 1) (And.intro (by omega) (And.intro (by first | omega | (dsimp only; omega)) (Wk.of rfl rfl (And.intro rfl (And.intro rfl (And.intro (vI (by first | rfl | omega | (simp; done) | (simp; omega))) trivial))) (And.intro (oR (by first | (rw [fill_zero, List.map_replicate]; done) | (rw [← fill_set xs [] default (by omega), List.map_set]; done))) trivial))))
  · replace h1 := of_decide_eq_false h1
    refine T_exit ?_
    refine T_seq ?_
    refine T_region hc ?_
    refine Ch.step (v := (.row 3)) rfl (.pure (.move _ rfl rfl)) rfl rfl ?_
    refine Ch.step (v := (.row 3)) rfl (.pure (.assign _ rfl rfl)) rfl rfl ?_
    refine Ch.nil ?_
    refine T_ret ?_
    refine And.intro (.inr rfl) ?_
    exact Exists.intro [(.row 3)] (Exists.intro [] (Exists.intro [3] (And.intro (.cons (.tmp 2 rfl) .nil) (And.intro (.cons (.any _) .nil) (And.intro (Exp.of (congrArg (D.slice true 1) (by rw [fill_all xs [] (by omega)])) (.row rfl)) (And.intro rfl rfl))))))

theorem sp_laws_eqStringS (xs ys : List (List UInt8)) (hn : xs.length ≤ 1048576) : Sp Try.prog 21 [(.slice false 1 (xs.map D.str)), (.slice false 1 (ys.map D.str))] [.any, .any] (.bool (decide (xs = ys))) := by
  refine Sp_intro (lend := true) Try.func21 rfl rfl rfl (fun _ => rfl) (fun c hc hX => ?_)
  refine T_seq ?_
  refine T_region hc ?_
  refine Ch.step (v := (.d (.bool false))) rfl (.pure (.assign _ rfl rfl)) rfl rfl ?_
  refine Ch.nil ?_
  refine T_seq ?_
  refine T_seq ?_
  refine T_region hc ?_
  refine Ch.step (v := (.d (.slice false 1 (xs.map D.str)))) rfl (.pure (.move _ rfl rfl)) rfl rfl ?_
  refine Ch.step (v := (.d (.int .i64 ((xs.length : Nat) : Int)))) rfl (.pure (.len _ _ 9 rfl Try.underlying22 (.sh _ _) (by simp))) rfl rfl ?_
  refine Ch.step (v := (.d (.slice false 1 (ys.map D.str)))) rfl (.pure (.move _ rfl rfl)) rfl rfl ?_
  refine Ch.step (v := (.d (.int .i64 ((ys.length : Nat) : Int)))) rfl (.pure (.len _ _ 9 rfl Try.underlying22 (.sh _ _) (by simp))) rfl rfl ?_
  refine Ch.step (v := (.d (.bool (!(decide (((xs.length : Nat) : Int) = ((ys.length : Nat) : Int))))))) rfl (.pure (.int _ _ _ _ _ rfl rfl rfl rfl)) rfl rfl ?_
  refine Ch.nil ?_
  refine T_cond (b := (!(decide (((xs.length : Nat) : Int) = ((ys.length : Nat) : Int))))) rfl (fun h1 => ?_) (fun h1 => ?_)
  · replace h1 := nott h1
    replace h1 := of_decide_eq_false h1
    refine T_seq ?_
    refine T_region hc ?_
    refine Ch.step (v := (.d (.bool false))) rfl (.pure (.assign _ rfl rfl)) rfl rfl ?_
    refine Ch.nil ?_
    refine T_ret ?_
    refine And.intro (.inr rfl) ?_
    exact Exists.intro [(.d (.bool false))] (Exists.intro [] (Exists.intro [] (And.intro (.cons (.tmp 4 rfl) .nil) (And.intro (.cons (.any _) (.cons (.any _) .nil)) (And.intro (Exp.of (congrArg D.bool (by exact eqL_len (by omega))) (.d _)) (And.intro rfl rfl))))))
  · replace h1 := notf h1
    replace h1 := of_decide_eq_true h1
    refine T_skip ?_
    refine T_seq ?_
    refine T_seq ?_
    refine T_region hc ?_
    refine Ch.step (v := (.d (.int .i64 0))) rfl (.pure (.assign _ rfl rfl)) rfl rfl ?_
    refine Ch.nil ?_
    refine T_block ?_
    refine T_loop (ι := Nat) (fun k => { n := 26, sl := [(0, (.d (.slice false 1 (xs.map D.str)))), (1, (.d (.slice false 1 (ys.map D.str)))), (5, (.d (.int .i64 ((k : Nat) : Int))))], hp := [], pin := [] }) (fun k => k ≤ xs.length ∧ ∀ j, j < k → xs.getD j default = ys.getD j default) (fun k => xs.length - k) ⟨0, ⟨by omega, fun j hj => by omega⟩, (Wk.of rfl rfl (And.intro rfl (And.intro rfl (And.intro (vI (by first | rfl | omega | (simp; done) | (simp; omega))) trivial))) trivial)⟩ (fun k hp0 => ?_)
    refine T_seq ?_
    refine T_seq ?_
    refine T_region hc ?_
    refine Ch.step (v := (.d (.int .i64 ((k : Nat) : Int)))) rfl (.pure (.move _ rfl rfl)) rfl rfl ?_
    refine Ch.step (v := (.d (.slice false 1 (xs.map D.str)))) rfl (.pure (.move _ rfl rfl)) rfl rfl ?_
    refine Ch.step (v := (.d (.int .i64 ((xs.length : Nat) : Int)))) rfl (.pure (.len _ _ 9 rfl Try.underlying22 (.sh _ _) (by simp))) rfl rfl ?_
    refine Ch.step (v := (.d (.bool (decide (((k : Nat) : Int) < ((xs.length : Nat) : Int)))))) rfl (.pure (.int _ _ _ _ _ rfl rfl rfl rfl)) rfl rfl ?_
    refine Ch.nil ?_
    refine T_cond (b := (decide (((k : Nat) : Int) < ((xs.length : Nat) : Int)))) rfl (fun h2 => ?_) (fun h2 => ?_)
    · replace h2 := of_decide_eq_true h2
      refine T_skip ?_
      refine T_seq ?_
      refine T_block ?_
      refine T_seq ?_
      refine T_regionD hc (by kernel_rfl) ?_
      refine ChD.step (v := (.d (.slice false 1 (xs.map D.str)))) [] rfl (.pure (.move _ rfl rfl)) rfl rfl ?_
      refine ChD.step (v := (.d (.int .i64 ((k : Nat) : Int)))) [] rfl (.pure (.move _ rfl rfl)) rfl rfl ?_
      refine ChD.step (v := (.d (.ref (.str (xs.getD k default))))) [] rfl (.pure (.idx _ _ _ 9 (k) rfl Try.underlying22 sz9 rfl rfl rfl (get_map _ (by first | omega | (simp only [List.length_map, List.length_append, List.length_take, List.length_drop, List.length_cons, List.length_nil]; omega) | (simp; omega) | (simp; done))))) rfl rfl ?_
      refine ChD.step (v := (.d (.str (xs.getD k default)))) [] rfl (.pure (.loadRef1 _ _ rfl ag9 rfl rfl)) rfl rfl ?_
      refine ChD.step (v := (.d (.slice false 1 (ys.map D.str)))) [] rfl (.pure (.move _ rfl rfl)) rfl rfl ?_
      refine ChD.step (v := (.d (.int .i64 ((k : Nat) : Int)))) [] rfl (.pure (.move _ rfl rfl)) rfl rfl ?_
      refine ChD.step (v := (.d (.ref (.str (ys.getD k default))))) [] rfl (.pure (.idx _ _ _ 9 (k) rfl Try.underlying22 sz9 rfl rfl rfl (get_map _ (by first | omega | (simp only [List.length_map, List.length_append, List.length_take, List.length_drop, List.length_cons, List.length_nil]; omega) | (simp; omega) | (simp; done))))) rfl rfl ?_
      refine ChD.step (v := (.d (.str (ys.getD k default)))) [] rfl (.pure (.loadRef1 _ _ rfl ag9 rfl rfl)) rfl rfl ?_
      refine ChD.step (v := (.d (.bool (!(decide ((xs.getD k default) = (ys.getD k default))))))) [] rfl (.pure (.str _ _ _ _ _ rfl rfl rfl rfl)) rfl rfl ?_
      refine ChD.nil (And.intro ?_ (by kernel_rfl))
      refine T_cond (b := (!(decide ((xs.getD k default) = (ys.getD k default))))) rfl (fun h3 => ?_) (fun h3 => ?_)
      · replace h3 := nott h3
        replace h3 := of_decide_eq_false h3
        refine T_seq ?_
        refine T_region hc ?_
        refine Ch.step (v := (.d (.bool false))) rfl (.pure (.assign _ rfl rfl)) rfl rfl ?_
        refine Ch.nil ?_
        refine T_ret ?_
        refine And.intro (.inr rfl) ?_
        exact Exists.intro [(.d (.bool false))] (Exists.intro [] (Exists.intro [] (And.intro (.cons (.tmp 4 rfl) .nil) (And.intro (.cons (.any _) (.cons (.any _) .nil)) (And.intro (Exp.of (congrArg D.bool (by exact eqL_at default k (by assumption))) (.d _)) (And.intro rfl rfl))))))
      · replace h3 := notf h3
        replace h3 := of_decide_eq_true h3
        refine T_skip ?_
        refine T_region hc ?_
        refine Ch.step (v := (.d (.int .i64 ((k : Nat) : Int)))) rfl (.pure (.move _ rfl rfl)) rfl rfl ?_
        refine Ch.step (v := (.d (.int .i64 (((k : Nat) : Int) + 1)))) rfl (.pure (.int _ _ _ _ _ rfl rfl rfl (intV_add (by first | omega | (simp only [List.length_map, List.length_append, List.length_take, List.length_drop, List.length_cons, List.length_nil]; omega) | (simp; omega) | (simp; done)) (by first | omega | (simp only [List.length_map, List.length_append, List.length_take, List.length_drop, List.length_cons, List.length_nil]; omega) | (simp; omega) | (simp; done))))) rfl rfl ?_
        refine Ch.step (v := (.d (.int .i64 (((k : Nat) : Int) + 1)))) rfl (.pure (.assign _ rfl rfl)) rfl rfl ?_
        refine Ch.nil ?_
        refine Exists.intro (k + 1) (And.intro ⟨by omega, upto_succ hp0.2 (by assumption)⟩ (And.intro (by first | omega | (dsimp only; omega)) (Wk.of rfl rfl (And.intro rfl (And.intro rfl (And.intro (vI (by first | rfl | omega | (simp; done) | (simp; omega))) trivial))) trivial)))
    · replace h2 := of_decide_eq_false h2
      refine T_exit ?_
      refine T_seq ?_
      refine T_region hc ?_
      refine Ch.step (v := (.d (.bool true))) rfl (.pure (.assign _ rfl rfl)) rfl rfl ?_
      refine Ch.nil ?_
      refine T_ret ?_
      refine And.intro (.inr rfl) ?_
      exact Exists.intro [(.d (.bool true))] (Exists.intro [] (Exists.intro [] (And.intro (.cons (.tmp 4 rfl) .nil) (And.intro (.cons (.any _) (.cons (.any _) .nil)) (And.intro (Exp.of (congrArg D.bool (by exact eqL_all default (by omega) (fun j hj => hp0.2 j (by omega)))) (.d _)) (And.intro rfl rfl))))))

theorem sp_IndexFunc_str (xs : List (List UInt8)) (f : FuncId) (caps : List D) (p : List UInt8 → Bool) (hf : Enters Try.prog f) (hp : ∀ x ∈ xs, Sp Try.prog f (D.str x :: caps) (.any :: anys caps) (.bool (p x))) (hn : xs.length ≤ 1048576) : Sp Try.prog 130 [(.slice false 1 (xs.map D.str)), (.fn f caps)] [.any, .any] (.int .i64 (ixF p xs)) := by
  refine Sp_intro (lend := true) Try.func130 rfl rfl rfl (fun _ => rfl) (fun c hc hX => ?_)
  refine T_seq ?_
  refine T_region hc ?_
  refine Ch.step (v := (.d (.int .i64 0))) rfl (.pure (.assign _ rfl rfl)) rfl rfl ?_
  refine Ch.nil ?_
  refine T_seq ?_
  refine T_seq ?_
  refine T_region hc ?_
  refine Ch.step (v := (.d (.slice false 1 (xs.map D.str)))) rfl (.pure (.move _ rfl rfl)) rfl rfl ?_
  refine Ch.step (v := (.d (.int .i64 ((xs.length : Nat) : Int)))) rfl (.pure (.len _ _ 9 rfl Try.underlying22 (.sh _ _) (by simp))) rfl rfl ?_
  refine Ch.step (v := (.d (.int .i64 0))) rfl (.pure (.move _ rfl rfl)) rfl rfl ?_
  refine Ch.nil ?_
  refine T_block ?_
  refine T_loop (ι := Nat) (fun k => { n := 19, sl := [(0, (.d (.slice false 1 (xs.map D.str)))), (1, (.d (.fn f caps))), (7, (.d (.int .i64 ((xs.length : Nat) : Int)))), (8, (.d (.int .i64 ((k : Nat) : Int))))], hp := [], pin := [] }) (fun k => k ≤ xs.length ∧ ∀ j, j < k → p (xs.getD j default) = false) (fun k => xs.length - k) ⟨0, ⟨by omega, fun j hj => by omega⟩, (Wk.of rfl rfl (And.intro rfl (And.intro rfl (And.intro rfl (And.intro (vI (by first | rfl | omega | (simp; done) | (simp; omega))) trivial)))) trivial)⟩ (fun k hp0 => ?_)
  refine T_seq ?_
  refine T_region hc ?_
  refine Ch.step (v := (.d (.bool (decide (((k : Nat) : Int) < ((xs.length : Nat) : Int)))))) rfl (.pure (.int _ _ _ _ _ rfl rfl rfl rfl)) rfl rfl ?_
  refine Ch.nil ?_
  refine T_seq ?_
  refine T_cond (b := (decide (((k : Nat) : Int) < ((xs.length : Nat) : Int)))) rfl (fun h1 => ?_) (fun h1 => ?_)
  · replace h1 := of_decide_eq_true h1
    refine T_skip ?_
    refine T_seq ?_
    refine T_block ?_
    refine T_seq ?_
    refine T_region hc ?_
    refine Ch.step (v := (.d (.int .i64 ((k : Nat) : Int)))) rfl (.pure (.move _ rfl rfl)) rfl rfl ?_
    refine Ch.step (v := (.d (.int .i64 ((k : Nat) : Int)))) rfl (.pure (.assign _ rfl rfl)) rfl rfl ?_
    refine Ch.nil ?_
    refine T_seq ?_
    refine T_region hc ?_
    refine Ch.step (v := (.d (.fn f caps))) rfl (.pure (.move _ rfl rfl)) rfl rfl ?_
    refine Ch.step (v := (.d (.slice false 1 (xs.map D.str)))) rfl (.pure (.move _ rfl rfl)) rfl rfl ?_
    refine Ch.step (v := (.d (.int .i64 ((k : Nat) : Int)))) rfl (.pure (.move _ rfl rfl)) rfl rfl ?_
    refine Ch.step (v := (.d (.ref (.str (xs.getD k default))))) rfl (.pure (.idx _ _ _ 9 (k) rfl Try.underlying22 sz9 rfl rfl rfl (get_map _ (by first | omega | (simp only [List.length_map, List.length_append, List.length_take, List.length_drop, List.length_cons, List.length_nil]; omega) | (simp; omega) | (simp; done))))) rfl rfl ?_
    refine Ch.step (v := (.d (.str (xs.getD k default)))) rfl (.pure (.loadRef1 _ _ rfl ag9 rfl rfl)) rfl rfl ?_
    refine Ch.step (v := (.d (.bool (p (xs.getD k default))))) rfl (.callS 16000 f _ #[.tmp 15] _ hf rfl (.inr ⟨caps, rfl, rfl⟩) (.cons (.d _) (exps_ds caps)) rfl (hp _ (getD_mem (by omega))) (.skip _ _ (back_anys caps)) rfl) rfl rfl ?_
    refine Ch.nil ?_
    refine T_cond (b := (p (xs.getD k default))) rfl (fun h2 => ?_) (fun h2 => ?_)
    · refine T_seq ?_
      refine T_region hc ?_
      refine Ch.step (v := (.d (.int .i64 ((k : Nat) : Int)))) rfl (.pure (.move _ rfl rfl)) rfl rfl ?_
      refine Ch.step (v := (.d (.int .i64 ((k : Nat) : Int)))) rfl (.pure (.assign _ rfl rfl)) rfl rfl ?_
      refine Ch.nil ?_
      refine T_ret ?_
      refine And.intro (.inr rfl) ?_
      exact Exists.intro [(.d (.int .i64 ((k : Nat) : Int)))] (Exists.intro [] (Exists.intro [] (And.intro (.cons (.tmp 4 rfl) .nil) (And.intro (.cons (.any _) (.cons (.any _) .nil)) (And.intro (Exp.of (congrArg (D.int .i64) (by exact (ixF_some (by omega) hp0.2 (by assumption)).symm)) (.d _)) (And.intro rfl rfl))))))
    · refine T_skip ?_
      refine T_region hc ?_
      refine Ch.step (v := (.d (.int .i64 (((k : Nat) : Int) + 1)))) rfl (.pure (.int _ _ _ _ _ rfl rfl rfl (intV_add (by first | omega | (simp only [List.length_map, List.length_append, List.length_take, List.length_drop, List.length_cons, List.length_nil]; omega) | (simp; omega) | (simp; done)) (by first | omega | (simp only [List.length_map, List.length_append, List.length_take, List.length_drop, List.length_cons, List.length_nil]; omega) | (simp; omega) | (simp; done))))) rfl rfl ?_
      refine Ch.step (v := (.d (.int .i64 (((k : Nat) : Int) + 1)))) rfl (.pure (.move _ rfl rfl)) rfl rfl ?_
      refine Ch.nil ?_
      refine Exists.intro (k + 1) (And.intro ⟨by omega, upto_succ hp0.2 (by assumption)⟩ (And.intro (by first | omega | (dsimp only; omega)) (Wk.of rfl rfl (And.intro rfl (And.intro rfl (And.intro rfl (And.intro (vI (by first | rfl | omega | (simp; done) | (simp; omega))) trivial)))) trivial)))
  · replace h1 := of_decide_eq_false h1
    refine T_exit ?_
    refine T_seq ?_
    refine T_region hc ?_
    refine Ch.step (v := (.d (.int .i64 (-1)))) rfl (.pure (.assign _ rfl rfl)) rfl rfl ?_
    refine Ch.nil ?_
    refine T_ret ?_
    refine And.intro (.inr rfl) ?_
    exact Exists.intro [(.d (.int .i64 (-1)))] (Exists.intro [] (Exists.intro [] (And.intro (.cons (.tmp 4 rfl) .nil) (And.intro (.cons (.any _) (.cons (.any _) .nil)) (And.intro (Exp.of (congrArg (D.int .i64) (by exact (ixF_none (fun j hj => hp0.2 j (by omega))).symm)) (.d _)) (And.intro rfl rfl))))))

theorem sp_ContainsFunc_str (xs : List (List UInt8)) (f : FuncId) (caps : List D) (p : List UInt8 → Bool) (hf : Enters Try.prog f) (hp : ∀ x ∈ xs, Sp Try.prog f (D.str x :: caps) (.any :: anys caps) (.bool (p x))) (hn : xs.length ≤ 1048576) : Sp Try.prog 71 [(.slice false 1 (xs.map D.str)), (.fn f caps)] [.any, .any] (.bool (xs.any p)) := by
  refine Sp_intro (lend := true) Try.func71 rfl rfl rfl (fun _ => rfl) (fun c hc hX => ?_)
  refine T_seq ?_
  refine T_region hc ?_
  refine Ch.step (v := (.d (.bool false))) rfl (.pure (.assign _ rfl rfl)) rfl rfl ?_
  refine Ch.nil ?_
  refine T_seq ?_
  refine T_region hc ?_
  refine Ch.step (v := (.d (.slice false 1 (xs.map D.str)))) rfl (.pure (.move _ rfl rfl)) rfl rfl ?_
  refine Ch.step (v := (.d (.fn f caps))) rfl (.pure (.move _ rfl rfl)) rfl rfl ?_
  refine Ch.step (v := (.d (.int .i64 (ixF p xs)))) rfl (.call 7000 130 _ _ _ en130 rfl (.inl rfl) (.cons (.d _) (.cons (.d _) .nil)) rfl rfl (sp_IndexFunc_str xs f caps p hf hp (by first | omega | assumption | (exact hx _ (getD_mem (by omega))) | (exact hx _ (by assumption)) | (exact Nat.le_trans (hx _ (by assumption)) (by omega)) | (simp only [List.length_append, List.length_take, List.length_drop, List.length_cons, List.length_nil]; omega) | (simp_all; done))) (.skip _ _ (.skip _ _ .nil)) rfl) rfl rfl ?_
  refine Ch.step (v := (.d (.bool (decide (0 ≤ (ixF p xs)))))) rfl (.pure (.int _ _ _ _ _ rfl rfl rfl rfl)) rfl rfl ?_
  refine Ch.step (v := (.d (.bool (decide (0 ≤ (ixF p xs)))))) rfl (.pure (.assign _ rfl rfl)) rfl rfl ?_
  refine Ch.nil ?_
  refine T_ret ?_
  refine And.intro (.inr rfl) ?_
  exact Exists.intro [(.d (.bool (decide (0 ≤ (ixF p xs)))))] (Exists.intro [] (Exists.intro [] (And.intro (.cons (.tmp 4 rfl) .nil) (And.intro (.cons (.any _) (.cons (.any _) .nil)) (And.intro (Exp.of (congrArg D.bool (by exact ixF_nonneg p xs)) (.d _)) (And.intro rfl rfl))))))

theorem en117 : Enters Try.prog 117 := ⟨_, Try.func117, by kernel_rfl, rfl⟩

theorem ag3 : AggIs Try.prog 3 false := by unfold AggIs; kernel_rfl

theorem en121 : Enters Try.prog 121 := ⟨_, Try.func121, by kernel_rfl, rfl⟩

theorem en120 : Enters Try.prog 120 := ⟨_, Try.func120, by kernel_rfl, rfl⟩

theorem en71 : Enters Try.prog 71 := ⟨_, Try.func71, by kernel_rfl, rfl⟩

def okCube (n : Int) (c : List UInt8) : Bool := cubeB c && decide ((c.length : Int) = n)

def allOf {τ : Type} [Inhabited τ] (xs : List τ) (q : τ → Bool) : Bool := allB xs.length fun j => q (xs.getD j default)

def goodB (n : Int) (xs : List (List UInt8)) : Bool := allOf xs (okCube n) && (withinB n 1 8 && decide ((xs.length : Int) ≤ 60))

theorem any_not {τ : Type} [Inhabited τ] (xs : List τ) (q : τ → Bool) : xs.any (fun c => !q c) = !allOf xs q := by
  cases h : allOf xs q with
  | true =>
    rw [Bool.not_true, List.any_eq_false]
    intro x hx
    obtain ⟨j, hj, rfl⟩ := List.mem_iff_getElem.1 hx
    have := allB_true.1 h j hj
    simp [hj] at this
    simp [this]
  | false =>
    rw [Bool.not_false, List.any_eq_true]
    apply Classical.byContradiction
    intro hno
    have : allOf xs q = true := allB_of fun j hj => by
      cases hq : q (xs.getD j default) with
      | true => rfl
      | false => exact absurd ⟨_, getD_mem hj, by rw [hq]; rfl⟩ hno
    rw [h] at this; cases this

theorem okCube_eq (n : Int) (c : List UInt8) : okCube n c = cubeN c n := by
  unfold okCube cubeN cubeB
  by_cases h : (c.length : Int) = n
  · rw [h]; simp
  · simp [h]

theorem good_any (n : Int) (xs : List (List UInt8)) : (xs.any fun c => !cubeN c n) = !allOf xs (okCube n) := by
  rw [← any_not]; congr 1; funext c; rw [okCube_eq]

theorem sp_spec_l13Good (n : Int) (xs : List (List UInt8)) (hn : xs.length ≤ 1048576) (hx : ∀ x ∈ xs, x.length ≤ 1048576) : Sp Try.prog 59 [(.int .i64 n), (.slice false 1 (xs.map D.str))] [.any, .any] (.bool (goodB n xs)) := by
  refine Sp_intro (lend := true) Try.func59 rfl rfl rfl (fun _ => rfl) (fun c hc hX => ?_)
  refine T_seq ?_
  refine T_region hc ?_
  refine Ch.step (v := (.d (.bool false))) rfl (.pure (.assign _ rfl rfl)) rfl rfl ?_
  refine Ch.nil ?_
  refine T_seq ?_
  refine T_seq ?_
  refine T_region hc ?_
  refine Ch.step (v := (.d (.slice false 1 (xs.map D.str)))) rfl (.pure (.move _ rfl rfl)) rfl rfl ?_
  refine Ch.step (v := (.d (.int .i64 ((xs.length : Nat) : Int)))) rfl (.pure (.len _ _ 9 rfl Try.underlying22 (.sh _ _) (by simp))) rfl rfl ?_
  refine Ch.step (v := (.d (.int .i64 0))) rfl (.pure (.move _ rfl rfl)) rfl rfl ?_
  refine Ch.nil ?_
  refine T_block ?_
  refine T_loop (ι := Nat) (fun k => { n := 30, sl := [(0, (.d (.int .i64 n))), (1, (.d (.slice false 1 (xs.map D.str)))), (7, (.d (.slice false 1 (xs.map D.str)))), (8, (.d (.int .i64 ((xs.length : Nat) : Int)))), (9, (.d (.int .i64 ((k : Nat) : Int))))], hp := [], pin := [] }) (fun k => k ≤ xs.length ∧ ∀ j, j < k → okCube n (xs.getD j default) = true) (fun k => xs.length - k) ⟨0, ⟨by omega, fun j hj => by omega⟩, (Wk.of rfl rfl (And.intro rfl (And.intro rfl (And.intro rfl (And.intro rfl (And.intro (vI (by first | rfl | omega | (simp; done) | (simp; omega))) trivial))))) trivial)⟩ (fun k hp0 => ?_)
  refine T_seq ?_
  refine T_region hc ?_
  refine Ch.step (v := (.d (.bool (decide (((k : Nat) : Int) < ((xs.length : Nat) : Int)))))) rfl (.pure (.int _ _ _ _ _ rfl rfl rfl rfl)) rfl rfl ?_
  refine Ch.nil ?_
  refine T_seq ?_
  refine T_cond (b := (decide (((k : Nat) : Int) < ((xs.length : Nat) : Int)))) rfl (fun h1 => ?_) (fun h1 => ?_)
  · replace h1 := of_decide_eq_true h1
    refine T_skip ?_
    refine T_seq ?_
    refine T_block ?_
    refine T_seq ?_
    refine T_region hc ?_
    refine Ch.step (v := (.d (.ref (.str (xs.getD k default))))) rfl (.pure (.idx _ _ _ 9 (k) rfl Try.underlying22 sz9 rfl rfl rfl (get_map _ (by first | omega | (simp only [List.length_map, List.length_append, List.length_take, List.length_drop, List.length_cons, List.length_nil]; omega) | (simp; omega) | (simp; done))))) rfl rfl ?_
    refine Ch.step (v := (.d (.str (xs.getD k default)))) rfl (.pure (.loadRef1 _ _ rfl ag9 rfl rfl)) rfl rfl ?_
    refine Ch.step (v := (.d (.str (xs.getD k default)))) rfl (.pure (.assign _ rfl rfl)) rfl rfl ?_
    refine Ch.nil ?_
    refine T_seq ?_
    refine T_region hc ?_
    refine Ch.step (v := (.d (.str (xs.getD k default)))) rfl (.pure (.move _ rfl rfl)) rfl rfl ?_
    refine Ch.step (v := (.d (.bool (cubeB (xs.getD k default))))) rfl (.call 14000 117 _ _ _ en117 rfl (.inl rfl) (.cons (.d _) .nil) rfl rfl (sp_spec_l13Cube (xs.getD k default) (by first | omega | assumption | (exact hx _ (getD_mem (by omega))) | (exact hx _ (by assumption)) | (exact Nat.le_trans (hx _ (by assumption)) (by omega)) | (simp only [List.length_append, List.length_take, List.length_drop, List.length_cons, List.length_nil]; omega) | (simp_all; done))) (.skip _ _ .nil) rfl) rfl rfl ?_
    refine Ch.step (v := (.d (.bool (!(cubeB (xs.getD k default)))))) rfl (.pure (.not _ _ rfl rfl)) rfl rfl ?_
    refine Ch.step (v := (.d (.bool (!(cubeB (xs.getD k default)))))) rfl (.pure (.move _ rfl rfl)) rfl rfl ?_
    cases h2 : (cubeB (xs.getD k default)) with
    | true =>
      refine Ch.step (v := (.d (.str (xs.getD k default)))) rfl (.pure (.move _ rfl rfl)) rfl rfl ?_
      refine Ch.step (v := (.d (.int .i64 (((xs.getD k default).length : Nat) : Int)))) rfl (.pure (.lenStr _ _ rfl Try.underlying9 rfl)) rfl rfl ?_
      refine Ch.step (v := (.d (.int .i64 n))) rfl (.pure (.move _ rfl rfl)) rfl rfl ?_
      refine Ch.step (v := (.d (.bool (!(decide ((((xs.getD k default).length : Nat) : Int) = n)))))) rfl (.pure (.int _ _ _ _ _ rfl rfl rfl rfl)) rfl rfl ?_
      refine Ch.step (v := (.d (.bool (!(decide ((((xs.getD k default).length : Nat) : Int) = n)))))) rfl (.pure (.pickF _ _ _ rfl rfl rfl)) rfl rfl ?_
      refine Ch.nil ?_
      refine T_cond (b := (!(decide ((((xs.getD k default).length : Nat) : Int) = n)))) rfl (fun h3 => ?_) (fun h3 => ?_)
      · replace h3 := nott h3
        replace h3 := of_decide_eq_false h3
        refine T_seq ?_
        refine T_region hc ?_
        refine Ch.step (v := (.d (.bool false))) rfl (.pure (.assign _ rfl rfl)) rfl rfl ?_
        refine Ch.nil ?_
        refine T_ret ?_
        refine And.intro (.inr rfl) ?_
        exact Exists.intro [(.d (.bool false))] (Exists.intro [] (Exists.intro [] (And.intro (.cons (.tmp 4 rfl) .nil) (And.intro (.cons (.any _) (.cons (.any _) .nil)) (And.intro (Exp.of (congrArg D.bool (by first | (rw [goodB, allOf, allB_no k (by omega) (by simp_all [okCube])]; rfl) | (rw [goodB, allOf, allB_of (fun j hj => hp0.2 j (by omega))]; simp_all))) (.d _)) (And.intro rfl rfl))))))
      · replace h3 := notf h3
        replace h3 := of_decide_eq_true h3
        refine T_skip ?_
        refine T_region hc ?_
        refine Ch.step (v := (.d (.int .i64 (((k : Nat) : Int) + 1)))) rfl (.pure (.int _ _ _ _ _ rfl rfl rfl (intV_add (by first | omega | (simp only [List.length_map, List.length_append, List.length_take, List.length_drop, List.length_cons, List.length_nil]; omega) | (simp; omega) | (simp; done)) (by first | omega | (simp only [List.length_map, List.length_append, List.length_take, List.length_drop, List.length_cons, List.length_nil]; omega) | (simp; omega) | (simp; done))))) rfl rfl ?_
        refine Ch.step (v := (.d (.int .i64 (((k : Nat) : Int) + 1)))) rfl (.pure (.move _ rfl rfl)) rfl rfl ?_
        refine Ch.nil ?_
        refine Exists.intro (k + 1) (And.intro ⟨by omega, upto_succ hp0.2 (by simp_all [okCube])⟩ (And.intro (by first | omega | (dsimp only; omega)) (Wk.of rfl rfl (And.intro rfl (And.intro rfl (And.intro rfl (And.intro rfl (And.intro (vI (by first | rfl | omega | (simp; done) | (simp; omega))) trivial))))) trivial)))
    | false =>
      refine Ch.skip rfl rfl ?_
      refine Ch.skip rfl rfl ?_
      refine Ch.skip rfl rfl ?_
      refine Ch.skip rfl rfl ?_
      refine Ch.step (v := (.d (.bool true))) rfl (.pure (.pickT _ _ _ rfl rfl rfl)) rfl rfl ?_
      refine Ch.nil ?_
      refine T_cond (b := true) rfl (fun _ => ?_) (fun h => nomatch h)
      refine T_seq ?_
      refine T_region hc ?_
      refine Ch.step (v := (.d (.bool false))) rfl (.pure (.assign _ rfl rfl)) rfl rfl ?_
      refine Ch.nil ?_
      refine T_ret ?_
      refine And.intro (.inr rfl) ?_
      exact Exists.intro [(.d (.bool false))] (Exists.intro [] (Exists.intro [] (And.intro (.cons (.tmp 4 rfl) .nil) (And.intro (.cons (.any _) (.cons (.any _) .nil)) (And.intro (Exp.of (congrArg D.bool (by first | (rw [goodB, allOf, allB_no k (by omega) (by simp_all [okCube])]; rfl) | (rw [goodB, allOf, allB_of (fun j hj => hp0.2 j (by omega))]; simp_all))) (.d _)) (And.intro rfl rfl))))))
  · replace h1 := of_decide_eq_false h1
    refine T_exit ?_
    refine T_seq ?_
    refine T_region hc ?_
    refine Ch.step (v := (.d (.int .i64 n))) rfl (.pure (.move _ rfl rfl)) rfl rfl ?_
    refine Ch.step (v := (.d (.bool (withinB n 1 8)))) rfl (.call 24000 118 _ _ _ en118 rfl (.inl rfl) (.cons (.d _) (.cons (.d _) (.cons (.d _) .nil))) rfl rfl (sp_spec_l1In n 1 8) (.skip _ _ (.skip _ _ (.skip _ _ .nil))) rfl) rfl rfl ?_
    refine Ch.step (v := (.d (.bool (withinB n 1 8)))) rfl (.pure (.move _ rfl rfl)) rfl rfl ?_
    cases h4 : (withinB n 1 8) with
    | true =>
      refine Ch.step (v := (.d (.slice false 1 (xs.map D.str)))) rfl (.pure (.move _ rfl rfl)) rfl rfl ?_
      refine Ch.step (v := (.d (.int .i64 ((xs.length : Nat) : Int)))) rfl (.pure (.len _ _ 9 rfl Try.underlying22 (.sh _ _) (by simp))) rfl rfl ?_
      refine Ch.step (v := (.d (.bool (decide (((xs.length : Nat) : Int) ≤ 60))))) rfl (.pure (.int _ _ _ _ _ rfl rfl rfl rfl)) rfl rfl ?_
      refine Ch.step (v := (.d (.bool (decide (((xs.length : Nat) : Int) ≤ 60))))) rfl (.pure (.pickT _ _ _ rfl rfl rfl)) rfl rfl ?_
      refine Ch.step (v := (.d (.bool (decide (((xs.length : Nat) : Int) ≤ 60))))) rfl (.pure (.assign _ rfl rfl)) rfl rfl ?_
      refine Ch.nil ?_
      refine T_ret ?_
      refine And.intro (.inr rfl) ?_
      exact Exists.intro [(.d (.bool (decide (((xs.length : Nat) : Int) ≤ 60))))] (Exists.intro [] (Exists.intro [] (And.intro (.cons (.tmp 4 rfl) .nil) (And.intro (.cons (.any _) (.cons (.any _) .nil)) (And.intro (Exp.of (congrArg D.bool (by first | (rw [goodB, allOf, allB_no k (by omega) (by simp_all [okCube])]; rfl) | (rw [goodB, allOf, allB_of (fun j hj => hp0.2 j (by omega))]; simp_all))) (.d _)) (And.intro rfl rfl))))))
    | false =>
      refine Ch.skip rfl rfl ?_
      refine Ch.skip rfl rfl ?_
      refine Ch.skip rfl rfl ?_
      refine Ch.step (v := (.d (.bool false))) rfl (.pure (.pickF _ _ _ rfl rfl rfl)) rfl rfl ?_
      refine Ch.step (v := (.d (.bool false))) rfl (.pure (.assign _ rfl rfl)) rfl rfl ?_
      refine Ch.nil ?_
      refine T_ret ?_
      refine And.intro (.inr rfl) ?_
      exact Exists.intro [(.d (.bool false))] (Exists.intro [] (Exists.intro [] (And.intro (.cons (.tmp 4 rfl) .nil) (And.intro (.cons (.any _) (.cons (.any _) .nil)) (And.intro (Exp.of (congrArg D.bool (by first | (rw [goodB, allOf, allB_no k (by omega) (by simp_all [okCube])]; rfl) | (rw [goodB, allOf, allB_of (fun j hj => hp0.2 j (by omega))]; simp_all))) (.d _)) (And.intro rfl rfl))))))

theorem sp_impl_IsValidCover_1 (u : List UInt8) (n : Int) (hs : u.length ≤ 1048576) : Sp Try.prog 120 [(.str u), (.ref (.int .i64 n))] [.any, .any] (.bool (!cubeN u n)) := by
  refine Sp_intro (lend := true) Try.func120 rfl rfl rfl (fun _ => rfl) (fun c hc hX => ?_)
  refine T_seq ?_
  refine T_region hc ?_
  refine Ch.step (v := (.d (.bool false))) rfl (.pure (.assign _ rfl rfl)) rfl rfl ?_
  refine Ch.nil ?_
  refine T_seq ?_
  refine T_region hc ?_
  refine Ch.step (v := (.d (.str u))) rfl (.pure (.move _ rfl rfl)) rfl rfl ?_
  refine Ch.step (v := (.d (.int .i64 n))) rfl (.pure (.loadRef1 _ _ rfl ag3 rfl rfl)) rfl rfl ?_
  refine Ch.step (v := (.d (.bool (cubeN u n)))) rfl (.call 6000 121 _ _ _ en121 rfl (.inl rfl) (.cons (.d _) (.cons (.d _) .nil)) rfl rfl (sp_impl_isCube u n (by first | omega | assumption | (exact hx _ (getD_mem (by omega))) | (exact hx _ (by assumption)) | (exact Nat.le_trans (hx _ (by assumption)) (by omega)) | (simp only [List.length_append, List.length_take, List.length_drop, List.length_cons, List.length_nil]; omega) | (simp_all; done))) (.skip _ _ (.skip _ _ .nil)) rfl) rfl rfl ?_
  refine Ch.step (v := (.d (.bool (!(cubeN u n))))) rfl (.pure (.not _ _ rfl rfl)) rfl rfl ?_
  refine Ch.step (v := (.d (.bool (!(cubeN u n))))) rfl (.pure (.assign _ rfl rfl)) rfl rfl ?_
  refine Ch.nil ?_
  refine T_ret ?_
  refine And.intro (.inr rfl) ?_
  exact Exists.intro [(.d (.bool (!(cubeN u n))))] (Exists.intro [] (Exists.intro [] (And.intro (.cons (.tmp 3 rfl) .nil) (And.intro (.cons (.any _) (.cons (.any _) .nil)) (And.intro (Exp.of (congrArg D.bool (by rfl)) (.d _)) (And.intro rfl rfl))))))

theorem sp_impl_IsValidCover (n : Int) (xs : List (List UInt8)) (hn : xs.length ≤ 1048576) (hx : ∀ x ∈ xs, x.length ≤ 1048576) : Sp Try.prog 62 [(.int .i64 n), (.slice false 1 (xs.map D.str))] [.any, .any] (.bool (goodB n xs)) := by
  refine Sp_intro (lend := true) Try.func62 rfl rfl rfl (fun _ => rfl) (fun c hc hX => ?_)
  refine T_seq ?_
  refine T_region hc ?_
  refine Ch.step (v := (.ptr 2000 0)) rfl (.box 2000 _ _ rfl (.one _ rfl)) rfl rfl ?_
  refine Ch.step (v := (.d (.bool false))) rfl (.pure (.assign _ rfl rfl)) rfl rfl ?_
  refine Ch.nil ?_
  refine T_seq ?_
  refine T_region hc ?_
  refine Ch.step (v := (.d (.int .i64 n))) rfl (.pure (.loadPtr1 _ _ rfl ag3 rfl rfl rfl)) rfl rfl ?_
  refine Ch.step (v := (.d (.bool (withinB n 1 8)))) rfl (.call 6000 98 _ _ _ en98 rfl (.inl rfl) (.cons (.d _) (.cons (.d _) (.cons (.d _) .nil))) rfl rfl (sp_impl_within n 1 8) (.skip _ _ (.skip _ _ (.skip _ _ .nil))) rfl) rfl rfl ?_
  refine Ch.step (v := (.d (.bool (withinB n 1 8)))) rfl (.pure (.move _ rfl rfl)) rfl rfl ?_
  cases h1 : (withinB n 1 8) with
  | true =>
    refine Ch.step (v := (.d (.slice false 1 (xs.map D.str)))) rfl (.pure (.move _ rfl rfl)) rfl rfl ?_
    refine Ch.step (v := (.d (.int .i64 ((xs.length : Nat) : Int)))) rfl (.pure (.len _ _ 9 rfl Try.underlying22 (.sh _ _) (by simp))) rfl rfl ?_
    refine Ch.step (v := (.d (.bool (decide (((xs.length : Nat) : Int) ≤ 60))))) rfl (.pure (.int _ _ _ _ _ rfl rfl rfl rfl)) rfl rfl ?_
    refine Ch.step (v := (.d (.bool (decide (((xs.length : Nat) : Int) ≤ 60))))) rfl (.pure (.pickT _ _ _ rfl rfl rfl)) rfl rfl ?_
    refine Ch.step (v := (.d (.bool (decide (((xs.length : Nat) : Int) ≤ 60))))) rfl (.pure (.move _ rfl rfl)) rfl rfl ?_
    cases h2 : (decide (((xs.length : Nat) : Int) ≤ 60)) with
    | true =>
      replace h2 := of_decide_eq_true h2
      refine Ch.step (v := (.d (.slice false 1 (xs.map D.str)))) rfl (.pure (.move _ rfl rfl)) rfl rfl ?_
      refine Ch.step (v := (.fn 120 [(.ptr 2000 0)])) rfl (.pure (.func _ _ rfl rfl)) rfl rfl ?_
      refine Ch.step (v := (.d (.bool (xs.any (fun c => !cubeN c n))))) rfl (.call 15000 71 _ _ _ en71 rfl (.inl rfl) (.cons (.d _) (.cons (.lend (.fn (.cons (.ptr rfl (.one (.d _) rfl)) .nil))) .nil)) rfl rfl (sp_ContainsFunc_str xs 120 [(.ref (.int .i64 n))] (fun c => !cubeN c n) en120 (fun c hc => sp_impl_IsValidCover_1 c n (by first | omega | assumption | (exact hx _ (getD_mem (by omega))) | (exact hx _ (by assumption)) | (exact Nat.le_trans (hx _ (by assumption)) (by omega)) | (simp only [List.length_append, List.length_take, List.length_drop, List.length_cons, List.length_nil]; omega) | (simp_all; done))) (by first | omega | assumption | (exact hx _ (getD_mem (by omega))) | (exact hx _ (by assumption)) | (exact Nat.le_trans (hx _ (by assumption)) (by omega)) | (simp only [List.length_append, List.length_take, List.length_drop, List.length_cons, List.length_nil]; omega) | (simp_all; done))) (.skip _ _ (.skip _ _ .nil)) rfl) rfl rfl ?_
      refine Ch.step (v := (.d (.bool (!(xs.any (fun c => !cubeN c n)))))) rfl (.pure (.not _ _ rfl rfl)) rfl rfl ?_
      refine Ch.step (v := (.d (.bool (!(xs.any (fun c => !cubeN c n)))))) rfl (.pure (.pickT _ _ _ rfl rfl rfl)) rfl rfl ?_
      refine Ch.step (v := (.d (.bool (!(xs.any (fun c => !cubeN c n)))))) rfl (.pure (.assign _ rfl rfl)) rfl rfl ?_
      refine Ch.nil ?_
      refine T_ret ?_
      refine And.intro (.inr rfl) ?_
      exact Exists.intro [(.d (.bool (!(xs.any (fun c => !cubeN c n)))))] (Exists.intro [] (Exists.intro [] (And.intro (.cons (.tmp 4 rfl) .nil) (And.intro (.cons (.any _) (.cons (.any _) .nil)) (And.intro (Exp.of (congrArg D.bool (by simp_all [goodB, good_any])) (.d _)) (And.intro rfl rfl))))))
    | false =>
      replace h2 := of_decide_eq_false h2
      refine Ch.skip rfl rfl ?_
      refine Ch.skip rfl rfl ?_
      refine Ch.skip rfl rfl ?_
      refine Ch.skip rfl rfl ?_
      refine Ch.step (v := (.d (.bool false))) rfl (.pure (.pickF _ _ _ rfl rfl rfl)) rfl rfl ?_
      refine Ch.step (v := (.d (.bool false))) rfl (.pure (.assign _ rfl rfl)) rfl rfl ?_
      refine Ch.nil ?_
      refine T_ret ?_
      refine And.intro (.inr rfl) ?_
      exact Exists.intro [(.d (.bool false))] (Exists.intro [] (Exists.intro [] (And.intro (.cons (.tmp 4 rfl) .nil) (And.intro (.cons (.any _) (.cons (.any _) .nil)) (And.intro (Exp.of (congrArg D.bool (by simp_all [goodB, good_any])) (.d _)) (And.intro rfl rfl))))))
  | false =>
    refine Ch.skip rfl rfl ?_
    refine Ch.skip rfl rfl ?_
    refine Ch.skip rfl rfl ?_
    refine Ch.step (v := (.d (.bool false))) rfl (.pure (.pickF _ _ _ rfl rfl rfl)) rfl rfl ?_
    refine Ch.step (v := (.d (.bool false))) rfl (.pure (.move _ rfl rfl)) rfl rfl ?_
    refine Ch.skip rfl rfl ?_
    refine Ch.skip rfl rfl ?_
    refine Ch.skip rfl rfl ?_
    refine Ch.skip rfl rfl ?_
    refine Ch.step (v := (.d (.bool false))) rfl (.pure (.pickF _ _ _ rfl rfl rfl)) rfl rfl ?_
    refine Ch.step (v := (.d (.bool false))) rfl (.pure (.assign _ rfl rfl)) rfl rfl ?_
    refine Ch.nil ?_
    refine T_ret ?_
    refine And.intro (.inr rfl) ?_
    exact Exists.intro [(.d (.bool false))] (Exists.intro [] (Exists.intro [] (And.intro (.cons (.tmp 4 rfl) .nil) (And.intro (.cons (.any _) (.cons (.any _) .nil)) (And.intro (Exp.of (congrArg D.bool (by simp_all [goodB, good_any])) (.d _)) (And.intro rfl rfl))))))

def isLit (u : List UInt8) (j : Nat) : Bool := u.getD j 0 != 45

def hasCh (x y : UInt8) : Bool := x == 45 || x == y

def hasB (a b : List UInt8) : Bool := allB a.length fun j => hasCh (a.getD j 0) (b.getD j 0)

def inB (xs : List (List UInt8)) (u : List UInt8) : Bool := xs.any fun a => hasB a u

theorem any_yes {τ : Type} {l : List τ} {p : τ → Bool} (d : τ) (k : Nat) (hk : k < l.length) (h : p (l.getD k d) = true) : true = l.any p := (List.any_eq_true.2 ⟨_, getD_mem hk, h⟩).symm

theorem any_no {τ : Type} {l : List τ} {p : τ → Bool} (d : τ) (h : ∀ j, j < l.length → p (l.getD j d) = false) : false = l.any p := by
  symm
  rw [List.any_eq_false]
  intro x hx
  obtain ⟨j, hj, rfl⟩ := List.mem_iff_getElem.1 hx
  have := h j hj
  simp [hj] at this
  simp [this]

theorem ag22 : AggIs Try.prog 22 false := by unfold AggIs; kernel_rfl

def keepTo (p : List UInt8 → Bool) (xs : List (List UInt8)) (j : Nat) : List (List UInt8) := (xs.take j).filter fun u => !p u

theorem keepTo_no {p : List UInt8 → Bool} {xs : List (List UInt8)} {j : Nat} (hj : j < xs.length) (h : p (xs.getD j default) = true) : keepTo p xs (j + 1) = keepTo p xs j := by
  have hg : xs.getD j default = xs[j] := by simp [hj]
  rw [hg] at h
  rw [keepTo, keepTo, List.take_succ_eq_append_getElem hj, List.filter_append]; simp [h]

structure DelInv (p : List UInt8 → Bool) (xs : List (List UInt8)) (j : Nat) (R : List (List UInt8)) : Prop where
  le : j ≤ xs.length
  len : R.length = xs.length
  lt : (keepTo p xs j).length < j
  pre : R.take (keepTo p xs j).length = keepTo p xs j
  post : R.drop j = xs.drop j

theorem DelInv.get {p xs j R} (h : DelInv p xs j R) (hj : j < xs.length) : R.getD j default = xs.getD j default := by
  have h1 : (R.drop j)[0]? = (xs.drop j)[0]? := by rw [h.post]
  rw [List.getElem?_drop, List.getElem?_drop, Nat.add_zero] at h1
  rw [List.getD_eq_getElem?_getD, List.getD_eq_getElem?_getD, h1]

theorem DelInv.skip {p xs j R} (h : DelInv p xs j R) (hj : j < xs.length) (hp : p (R.getD j default) = true) : DelInv p xs (j + 1) R ∧ (keepTo p xs j).length = (keepTo p xs (j + 1)).length := by
  rw [h.get hj] at hp
  have hk := keepTo_no hj hp
  refine ⟨⟨by omega, h.len, by rw [hk]; have := h.lt; omega, by rw [hk]; exact h.pre, ?_⟩, by rw [hk]⟩
  rw [← List.drop_drop, ← List.drop_drop, h.post]

def both (u : List UInt8) : List (List UInt8) := [u ++ [48], u ++ [49]]

def codes : Nat → List (List UInt8)
  | 0 => [[]]
  | n + 1 => (codes n).flatMap both

theorem en59 : Enters Try.prog 59 := ⟨_, Try.func59, by kernel_rfl, rfl⟩

theorem en62 : Enters Try.prog 62 := ⟨_, Try.func62, by kernel_rfl, rfl⟩

theorem en17 : Enters Try.prog 17 := ⟨_, Try.func17, by kernel_rfl, rfl⟩

theorem en19 : Enters Try.prog 19 := ⟨_, Try.func19, by kernel_rfl, rfl⟩

theorem en21 : Enters Try.prog 21 := ⟨_, Try.func21, by kernel_rfl, rfl⟩

def three (u : List UInt8) : List (List UInt8) := [u ++ [45], u ++ [48], u ++ [49]]

def cubes : Nat → List (List UInt8)
  | 0 => [[]]
  | n + 1 => (cubes n).flatMap three

theorem en140 : Enters Try.prog 140 := ⟨_, Try.func140, by kernel_rfl, rfl⟩

theorem sp_Join (xs : List (List UInt8)) (sep : List UInt8) (hn : xs.length ≤ 1048576) (hl : (Lib.join xs sep).length ≤ 140737488355328) : Sp Try.prog 140 [.slice false 1 (xs.map D.str), .str sep] [.any, .any] (.str (Lib.join xs sep)) :=
  sp_join Go.Proofs.Try.strings_Join_none Go.Proofs.Try.strings_Join xs sep (by omega) hl

def del1 {τ : Type} (xs : List τ) (k : Nat) : List τ := xs.take k ++ xs.drop (k + 1)

theorem del1_length {τ : Type} {xs : List τ} {k : Nat} (h : k < xs.length) : (del1 xs k).length = xs.length - 1 := by simp [del1]; omega

theorem del1_mem {τ : Type} {xs : List τ} {k : Nat} : ∀ x ∈ del1 xs k, x ∈ xs := by
  intro x hx
  rcases List.mem_append.1 hx with h | h
  · exact List.mem_of_mem_take h
  · exact List.mem_of_mem_drop h

def irr (on : List (List UInt8)) : Nat → List (List UInt8) → Nat → List (List UInt8)
  | 0, out, _ => out
  | f + 1, out, k => if allOf on (inB (del1 out k)) then irr on f (del1 out k) k else irr on f out (k + 1)

def irrL (on l : List (List UInt8)) : List (List UInt8) := irr on l.length l 0

theorem irr_yes {on out : List (List UInt8)} {k : Nat} (hk : k < out.length) (h : allOf on (inB (del1 out k)) = true) : irr on (out.length - k) out k = irr on ((del1 out k).length - k) (del1 out k) k := by
  rw [del1_length hk, show out.length - k = (out.length - 1 - k) + 1 by omega, irr, if_pos h]

theorem irr_no {on out : List (List UInt8)} {k : Nat} (hk : k < out.length) (h : allOf on (inB (del1 out k)) = false) : irr on (out.length - k) out k = irr on (out.length - (k + 1)) out (k + 1) := by
  rw [show out.length - k = (out.length - (k + 1)) + 1 by omega, irr, if_neg (by rw [h]; decide)]

structure IrrInv (on l : List (List UInt8)) (q : List (List UInt8) × Nat) : Prop where
  eq : irr on (q.1.length - q.2) q.1 q.2 = irrL on l
  sub : ∀ a ∈ q.1, a ∈ l
  le : q.1.length ≤ l.length

theorem IrrInv.yes {on l q} (h : IrrInv on l q) (hk : q.2 < q.1.length) (hc : allOf on (inB (del1 q.1 q.2)) = true) : IrrInv on l (del1 q.1 q.2, q.2) :=
  ⟨by rw [← h.eq, irr_yes hk hc], fun a ha => h.sub a (del1_mem a ha), by have := h.le; have := del1_length hk; dsimp only; omega⟩

theorem IrrInv.no {on l q} (h : IrrInv on l q) (hk : q.2 < q.1.length) (hc : allOf on (inB (del1 q.1 q.2)) = false) : IrrInv on l (q.1, q.2 + 1) :=
  ⟨by rw [← h.eq, irr_no hk hc], h.sub, h.le⟩

theorem fld92_0 : FieldIs Try.prog 92 0 0 1 false := FieldIs.mk Try.underlying92 rfl rfl sz9 ag9 rfl

theorem sz92 : SizeIs Try.prog 92 2 := by unfold SizeIs; kernel_rfl

theorem ag92 : AggIs Try.prog 92 true := by unfold AggIs; kernel_rfl

theorem en83 : Enters Try.prog 83 := ⟨_, Try.func83, by kernel_rfl, rfl⟩

theorem zr85 : (Try.prog.info? 85).bind (·.zero) = some (.agg #[.string .empty, .int .i64 0]) := by kernel_rfl

theorem zer85 : ∃ i z, Try.prog.info? 85 = some i ∧ i.zero = some z ∧ z.cells = List.toArray [.string .empty, .int .i64 0] := zero_mk zr85 rfl

theorem fld85_0 : FieldIs Try.prog 85 0 0 1 false := FieldIs.mk Try.underlying85 rfl rfl sz9 ag9 rfl

theorem sz3 : SizeIs Try.prog 3 1 := by unfold SizeIs; kernel_rfl

theorem fld92_1 : FieldIs Try.prog 92 1 1 1 false := FieldIs.mk Try.underlying92 rfl rfl sz3 ag3 rfl

theorem fld85_1 : FieldIs Try.prog 85 1 1 1 false := FieldIs.mk Try.underlying85 rfl rfl sz3 ag3 rfl

theorem ag85 : AggIs Try.prog 85 true := by unfold AggIs; kernel_rfl

theorem sz85 : SizeIs Try.prog 85 2 := by unfold SizeIs; kernel_rfl

theorem sty41 : SlotTy Try.prog 41 85 2 24 := slotTy_mk (by kernel_rfl)

theorem en86 : Enters Try.prog 86 := ⟨_, Try.func86, by kernel_rfl, rfl⟩

theorem en89 : Enters Try.prog 89 := ⟨_, Try.func89, by kernel_rfl, rfl⟩

theorem sz22 : SizeIs Try.prog 22 1 := by unfold SizeIs; kernel_rfl

theorem fld136_2 : FieldIs Try.prog 136 2 2 1 false := FieldIs.mk Try.underlying136 rfl rfl sz22 ag22 rfl

theorem fld136_3 : FieldIs Try.prog 136 3 3 1 false := FieldIs.mk Try.underlying136 rfl rfl sz22 ag22 rfl

theorem sz136 : SizeIs Try.prog 136 4 := by unfold SizeIs; kernel_rfl

theorem ag136 : AggIs Try.prog 136 true := by unfold AggIs; kernel_rfl

theorem en141 : Enters Try.prog 141 := ⟨_, Try.func141, by kernel_rfl, rfl⟩

theorem zr108 : (Try.prog.info? 108).bind (·.zero) = some (.agg #[.int .i64 0, .int .i64 0, .slice none 0 0, .slice none 0 0]) := by kernel_rfl

theorem zer108 : ∃ i z, Try.prog.info? 108 = some i ∧ i.zero = some z ∧ z.cells = List.toArray [.int .i64 0, .int .i64 0, .slice none 0 0, .slice none 0 0] := zero_mk zr108 rfl

theorem fld136_0 : FieldIs Try.prog 136 0 0 1 false := FieldIs.mk Try.underlying136 rfl rfl sz3 ag3 rfl

theorem fld108_0 : FieldIs Try.prog 108 0 0 1 false := FieldIs.mk Try.underlying108 rfl rfl sz3 ag3 rfl

theorem fld136_1 : FieldIs Try.prog 136 1 1 1 false := FieldIs.mk Try.underlying136 rfl rfl sz3 ag3 rfl

theorem fld108_1 : FieldIs Try.prog 108 1 1 1 false := FieldIs.mk Try.underlying108 rfl rfl sz3 ag3 rfl

theorem fld108_2 : FieldIs Try.prog 108 2 2 1 false := FieldIs.mk Try.underlying108 rfl rfl sz22 ag22 rfl

theorem fld108_3 : FieldIs Try.prog 108 3 3 1 false := FieldIs.mk Try.underlying108 rfl rfl sz22 ag22 rfl

theorem ag108 : AggIs Try.prog 108 true := by unfold AggIs; kernel_rfl

theorem sz108 : SizeIs Try.prog 108 4 := by unfold SizeIs; kernel_rfl

theorem sty58 : SlotTy Try.prog 58 108 4 64 := slotTy_mk (by kernel_rfl)

theorem en143 : Enters Try.prog 143 := ⟨_, Try.func143, by kernel_rfl, rfl⟩

theorem en145 : Enters Try.prog 145 := ⟨_, Try.func145, by kernel_rfl, rfl⟩

theorem sz35 : SizeIs Try.prog 35 1 := by unfold SizeIs; kernel_rfl

theorem ag35 : AggIs Try.prog 35 false := by unfold AggIs; kernel_rfl

theorem en35 : Enters Try.prog 35 := ⟨_, Try.func35, by kernel_rfl, rfl⟩

theorem en37 : Enters Try.prog 37 := ⟨_, Try.func37, by kernel_rfl, rfl⟩

theorem sz41 : SizeIs Try.prog 41 1 := by unfold SizeIs; kernel_rfl

theorem ag41 : AggIs Try.prog 41 false := by unfold AggIs; kernel_rfl

theorem en39 : Enters Try.prog 39 := ⟨_, Try.func39, by kernel_rfl, rfl⟩

theorem fld55_0 : FieldIs Try.prog 55 0 0 1 false := FieldIs.mk Try.underlying55 rfl rfl sz35 ag35 rfl

theorem sz53 : SizeIs Try.prog 53 1 := by unfold SizeIs; kernel_rfl

theorem ag53 : AggIs Try.prog 53 false := by unfold AggIs; kernel_rfl

theorem fld55_1 : FieldIs Try.prog 55 1 1 1 false := FieldIs.mk Try.underlying55 rfl rfl sz53 ag53 rfl

theorem en90 : Enters Try.prog 90 := ⟨_, Try.func90, by kernel_rfl, rfl⟩

theorem zr60 : (Try.prog.info? 60).bind (·.zero) = some (.agg #[.slice none 0 0, .slice none 0 0]) := by kernel_rfl

theorem zer60 : ∃ i z, Try.prog.info? 60 = some i ∧ i.zero = some z ∧ z.cells = List.toArray [.slice none 0 0, .slice none 0 0] := zero_mk zr60 rfl

theorem fld60_0 : FieldIs Try.prog 60 0 0 1 false := FieldIs.mk Try.underlying60 rfl rfl sz41 ag41 rfl

theorem en92 : Enters Try.prog 92 := ⟨_, Try.func92, by kernel_rfl, rfl⟩

theorem sz58 : SizeIs Try.prog 58 1 := by unfold SizeIs; kernel_rfl

theorem ag58 : AggIs Try.prog 58 false := by unfold AggIs; kernel_rfl

theorem fld60_1 : FieldIs Try.prog 60 1 1 1 false := FieldIs.mk Try.underlying60 rfl rfl sz58 ag58 rfl

theorem ag60 : AggIs Try.prog 60 true := by unfold AggIs; kernel_rfl

theorem sz60 : SizeIs Try.prog 60 2 := by unfold SizeIs; kernel_rfl

theorem en99 : Enters Try.prog 99 := ⟨_, Try.func99, by kernel_rfl, rfl⟩

theorem froz_c {x y : D} {xs ys : List D} (h : x.froz = y) (h2 : frozs xs = ys) : frozs (x :: xs) = y :: ys := by rw [frozs, h, h2]

theorem slice_froz {u : Bool} {sz : Nat} {xs ys : List D} (h : frozs xs = ys) : (D.slice u sz xs).froz = D.slice false sz ys := by rw [D.froz, h]

theorem frozs_to {τ : Type} {f g : τ → D} (h : ∀ x, (f x).froz = g x) (l : List τ) : frozs (l.map f) = l.map g := by
  rw [frozs_eq, List.map_map]; congr 1; funext x; exact h x

def sumF {τ : Type} (f : τ → Nat) (xs : List τ) (k : Nat) : Nat := ((xs.take k).map f).sum

def bulkF {τ : Type} (f : τ → Nat) (xs : List τ) : Nat := xs.length + (xs.map f).sum

theorem sumF_zero {τ : Type} (f : τ → Nat) (xs : List τ) : sumF f xs 0 = 0 := rfl

theorem sumF_succ {τ : Type} [Inhabited τ] (f : τ → Nat) {xs : List τ} {k : Nat} (h : k < xs.length) : sumF f xs (k + 1) = sumF f xs k + f (xs.getD k default) := by
  have hg : xs.getD k default = xs[k] := by simp [h]
  unfold sumF
  rw [hg, List.take_succ_eq_append_getElem h, List.map_append, List.sum_append]
  simp only [List.map_cons, List.map_nil, List.sum_cons, List.sum_nil, Nat.add_zero]

theorem sumF_all {τ : Type} (f : τ → Nat) {xs : List τ} {k : Nat} (h : xs.length ≤ k) : sumF f xs k = (xs.map f).sum := by rw [sumF, List.take_of_length_le h]

theorem sumF_le {τ : Type} (f : τ → Nat) (xs : List τ) (k : Nat) : sumF f xs k ≤ (xs.map f).sum := by
  conv => rhs; rw [← List.take_append_drop k xs, List.map_append, List.sum_append]
  unfold sumF; omega

theorem le_sumL {x : Nat} : ∀ {l : List Nat}, x ∈ l → x ≤ l.sum
  | y :: l, h => by
    rw [List.sum_cons]
    rcases List.mem_cons.1 h with rfl | h
    · omega
    · have := le_sumL h; omega

theorem bulkF_len {τ : Type} {f : τ → Nat} {xs : List τ} {n : Nat} (h : bulkF f xs ≤ n) : xs.length ≤ n := by unfold bulkF at h; omega

theorem bulkF_mem {τ : Type} {f : τ → Nat} {xs : List τ} {n : Nat} (h : bulkF f xs ≤ n) : ∀ x ∈ xs, f x ≤ n := by
  intro x hx
  have : f x ≤ (xs.map f).sum := le_sumL (List.mem_map.2 ⟨x, hx, rfl⟩)
  unfold bulkF at h; omega

def szR (t : Nat) (left : Int) : Int := if (t : Int) ≤ left then left - t else -1

theorem szR_cases (t : Nat) (left : Int) : ((t : Int) ≤ left ∧ szR t left = left - t) ∨ (left < t ∧ szR t left = -1) := by
  unfold szR; split
  · exact .inl ⟨by assumption, rfl⟩
  · exact .inr ⟨by omega, rfl⟩

theorem szR_ok {t : Nat} {left : Int} (h : ¬ szR t left < 0) (h0 : 0 ≤ left) : t ≤ left.toNat ∧ szR t left = left - t := by
  rcases szR_cases t left with ⟨h1, h2⟩ | ⟨h1, h2⟩
  · exact ⟨by omega, h2⟩
  · exact absurd h2 (by omega)

theorem szS_cases (xs : List (List UInt8)) (left : Int) : ((bulkS xs : Int) ≤ left ∧ szS xs left = left - bulkS xs) ∨ (left < bulkS xs ∧ szS xs left = -1) := szR_cases (bulkS xs) left

theorem dr_int {S w k n} : DR S w (.int k n) (.int k n) [] := by rw [DR]; exact ⟨rfl, rfl⟩

theorem dr_str0 {S w} : DR S w (.str []) (.string .empty) [] := by rw [DR]; exact ⟨rfl, rfl⟩

theorem dr_agg {S w ds vs} (h : (ds.all D.one) = true) (hd : DRs S w ds vs []) : DR S w (.agg ds) (.agg vs.toArray) [] := by
  rw [DR]; exact ⟨fun c hc => List.all_eq_true.1 h c hc, vs, rfl, hd⟩

theorem drs_nil {S w} : DRs S w [] [] [] := by rw [DRs]; exact ⟨rfl, rfl⟩

theorem drs_cons {S w d v ds vs} (h : DR S w d v []) (h2 : DRs S w ds vs []) : DRs S w (d :: ds) (v :: vs) [] := by
  rw [DRs]; exact ⟨v, vs, [], [], rfl, rfl, h, h2⟩

theorem get_fill {τ : Type} {l : List τ} {z : τ} {k : Nat} (h : k < l.length) : (fill l z k)[k]? = some z := by
  have e : (l.take k).length = k := by simp; omega
  unfold fill
  rw [List.getElem?_append_right (by omega), e, Nat.sub_self, List.getElem?_replicate, if_pos (by omega)]

theorem fill_setD {τ : Type} {f : τ → D} [Inhabited τ] {l : List τ} {z : D} {k : Nat} (h : k < l.length) : (fill (l.map f) z k).set k (f (l.getD k default)) = fill (l.map f) z (k + 1) := by
  have := fill_set (l.map f) z default (k := k) (by simpa using h)
  rw [← this]; congr 1; simp [h]

structure Sgn where
  name : List UInt8
  kind : Int
  deriving DecidableEq, Inhabited

def Sgn.d (x : Sgn) : D := (.agg [(.str x.name), (.int .i64 x.kind)])

def Sgn.bulk (x : Sgn) : Nat := x.name.length

def Sgn.wide (x : Sgn) : Prop := (x.name.length ≤ 9223372036854775807)

theorem Sgn.parts {x : Sgn} {n : Nat} (h : x.bulk ≤ n) : (x.name.length ≤ n) := by unfold Sgn.bulk at h; omega

structure Lab where
  sig : Int
  up : Bool
  deriving DecidableEq, Inhabited

def Lab.d (x : Lab) : D := (.agg [(.int .i64 x.sig), (.bool (x.up))])

def Lab.bulk (x : Lab) : Nat := 0

def Lab.wide (x : Lab) : Prop := True

structure Arc where
  src : Int
  sig : Int
  up : Bool
  dst : Int
  deriving DecidableEq, Inhabited

def Arc.d (x : Arc) : D := (.agg [(.int .i64 x.src), (.int .i64 x.sig), (.bool (x.up)), (.int .i64 x.dst)])

def Arc.bulk (x : Arc) : Nat := 0

def Arc.wide (x : Arc) : Prop := True

structure Pin where
  num : Int
  neg : Bool
  deriving DecidableEq, Inhabited

def Pin.d (x : Pin) : D := (.agg [(.int .i64 x.num), (.bool (x.neg))])

def Pin.bulk (x : Pin) : Nat := 0

def Pin.wide (x : Pin) : Prop := True

structure Wir where
  name : List UInt8
  kind : Int
  ins : List (Pin)
  cov : List (List UInt8)
  deriving DecidableEq, Inhabited

def Wir.d (x : Wir) : D := (.agg [(.str x.name), (.int .i64 x.kind), (.slice false 2 (x.ins.map Pin.d)), (.slice false 1 (x.cov.map D.str))])

def Wir.bulk (x : Wir) : Nat := x.name.length + bulkF Pin.bulk x.ins + bulkS x.cov

def Wir.wide (x : Wir) : Prop := (x.name.length ≤ 9223372036854775807) ∧ (x.ins.length ≤ 9223372036854775807 ∧ ∀ y ∈ x.ins, Pin.wide y) ∧ (x.cov.length ≤ 9223372036854775807 ∧ ∀ y ∈ x.cov, y.length ≤ 9223372036854775807)

structure Ntl where
  sigs : List (Sgn)
  wires : List (Wir)
  deriving DecidableEq, Inhabited

def Ntl.d (x : Ntl) : D := (.agg [(.slice false 2 (x.sigs.map Sgn.d)), (.slice false 4 (x.wires.map Wir.d))])

def Ntl.bulk (x : Ntl) : Nat := bulkF Sgn.bulk x.sigs + bulkF Wir.bulk x.wires

def Ntl.wide (x : Ntl) : Prop := (x.sigs.length ≤ 9223372036854775807 ∧ ∀ y ∈ x.sigs, Sgn.wide y) ∧ (x.wires.length ≤ 9223372036854775807 ∧ ∀ y ∈ x.wires, Wir.wide y)

structure Gat where
  sig : Int
  kind : Int
  ups : List (List UInt8)
  downs : List (List UInt8)
  deriving DecidableEq, Inhabited

def Gat.d (x : Gat) : D := (.agg [(.int .i64 x.sig), (.int .i64 x.kind), (.slice false 1 (x.ups.map D.str)), (.slice false 1 (x.downs.map D.str))])

def Gat.u (x : Gat) : D := (.agg [(.int .i64 x.sig), (.int .i64 x.kind), (.slice true 1 (x.ups.map D.str)), (.slice true 1 (x.downs.map D.str))])

theorem Gat.fz (x : Gat) : (Gat.u x).froz = Gat.d x := congrArg D.agg (froz_c rfl (froz_c rfl (froz_c (slice_froz (frozs_map (fun _ => rfl) _)) (froz_c (slice_froz (frozs_map (fun _ => rfl) _)) rfl))))

theorem Gat.sol (x : Gat) : (Gat.u x).solid = true := by unfold Gat.u; rw [D.solid]; exact (solids_c rfl (solids_c rfl (solids_c (solid_row (fun _ => rfl) _) (solids_c (solid_row (fun _ => rfl) _) rfl))))

def Gat.bulk (x : Gat) : Nat := bulkS x.ups + bulkS x.downs

def Gat.wide (x : Gat) : Prop := (x.ups.length ≤ 9223372036854775807 ∧ ∀ y ∈ x.ups, y.length ≤ 9223372036854775807) ∧ (x.downs.length ≤ 9223372036854775807 ∧ ∀ y ∈ x.downs, y.length ≤ 9223372036854775807)

theorem Gat.parts {x : Gat} {n : Nat} (h : x.bulk ≤ n) : (bulkS x.ups ≤ n) ∧ (bulkS x.downs ≤ n) := by unfold Gat.bulk at h; omega

structure Cir where
  sigs : List (Sgn)
  gates : List (Gat)
  deriving DecidableEq, Inhabited

def Cir.d (x : Cir) : D := (.agg [(.slice false 2 (x.sigs.map Sgn.d)), (.slice false 4 (x.gates.map Gat.d))])

def Cir.u (x : Cir) : D := (.agg [(.slice true 2 (x.sigs.map Sgn.d)), (.slice true 4 (x.gates.map Gat.u))])

theorem Cir.sol (x : Cir) : (Cir.u x).solid = true := by unfold Cir.u; rw [D.solid]; exact (solids_c (solid_row (fun _ => rfl) _) (solids_c (solid_row Gat.sol _) rfl))

def Cir.bulk (x : Cir) : Nat := bulkF Sgn.bulk x.sigs + bulkF Gat.bulk x.gates

def Cir.wide (x : Cir) : Prop := (x.sigs.length ≤ 9223372036854775807 ∧ ∀ y ∈ x.sigs, Sgn.wide y) ∧ (x.gates.length ≤ 9223372036854775807 ∧ ∀ y ∈ x.gates, Gat.wide y)

theorem Cir.parts {x : Cir} {n : Nat} (h : x.bulk ≤ n) : (bulkF Sgn.bulk x.sigs ≤ n) ∧ (bulkF Gat.bulk x.gates ≤ n) := by unfold Cir.bulk at h; omega

structure Sgr where
  sigs : List (Sgn)
  codes : List (List UInt8)
  arcs : List (Arc)
  deriving DecidableEq, Inhabited

def Sgr.d (x : Sgr) : D := (.agg [(.slice false 2 (x.sigs.map Sgn.d)), (.slice false 1 (x.codes.map D.str)), (.slice false 4 (x.arcs.map Arc.d))])

def Sgr.bulk (x : Sgr) : Nat := bulkF Sgn.bulk x.sigs + bulkS x.codes + bulkF Arc.bulk x.arcs

def Sgr.wide (x : Sgr) : Prop := (x.sigs.length ≤ 9223372036854775807 ∧ ∀ y ∈ x.sigs, Sgn.wide y) ∧ (x.codes.length ≤ 9223372036854775807 ∧ ∀ y ∈ x.codes, y.length ≤ 9223372036854775807) ∧ (x.arcs.length ≤ 9223372036854775807 ∧ ∀ y ∈ x.arcs, Arc.wide y)

theorem Sgr.parts {x : Sgr} {n : Nat} (h : x.bulk ≤ n) : (bulkF Sgn.bulk x.sigs ≤ n) ∧ (bulkS x.codes ≤ n) ∧ (bulkF Arc.bulk x.arcs ≤ n) := by unfold Sgr.bulk at h; omega

structure Rcv where
  sig : Int
  up : Bool
  cubes : List (List UInt8)
  deriving DecidableEq, Inhabited

def Rcv.d (x : Rcv) : D := (.agg [(.int .i64 x.sig), (.bool (x.up)), (.slice false 1 (x.cubes.map D.str))])

def Rcv.bulk (x : Rcv) : Nat := bulkS x.cubes

def Rcv.wide (x : Rcv) : Prop := (x.cubes.length ≤ 9223372036854775807 ∧ ∀ y ∈ x.cubes, y.length ≤ 9223372036854775807)

theorem sp_laws_szSignal (x : Sgn) (left : Int) (h0 : 0 ≤ left) (h0u : left ≤ 1048576) (hw : x.wide) : Sp Try.prog 83 [(.agg [(.str x.name), (.int .i64 x.kind)]), (.int .i64 left)] [.any, .any] (.int .i64 (szR x.bulk left)) := by
  refine Sp_intro (lend := true) Try.func83 rfl rfl rfl (fun _ => rfl) (fun c hc hX => ?_)
  have ef := szR_cases (x.name.length) left
  unfold Sgn.wide at hw
  refine T_seq ?_
  refine T_region hc ?_
  refine Ch.step (v := (.ptr 2000 0)) rfl (.box 2000 _ _ rfl (.aggD _)) rfl rfl ?_
  refine Ch.step (v := (.d (.int .i64 0))) rfl (.pure (.assign _ rfl rfl)) rfl rfl ?_
  refine Ch.nil ?_
  refine T_seq ?_
  refine T_region hc ?_
  refine Ch.step (v := (.d (.int .i64 left))) rfl (.pure (.move _ rfl rfl)) rfl rfl ?_
  refine Ch.step (v := (.ptr 2000 0)) rfl (.pure (.fldPtr _ _ _ rfl fld92_0 rfl)) rfl rfl ?_
  refine Ch.step (v := (.d (.str x.name))) rfl (.pure (.loadPtr1 _ _ rfl ag9 rfl rfl rfl)) rfl rfl ?_
  refine Ch.step (v := (.d (.int .i64 ((x.name.length : Nat) : Int)))) rfl (.pure (.lenStr _ _ rfl Try.underlying9 rfl)) rfl rfl ?_
  refine Ch.step (v := (.d (.int .i64 (left - ((x.name.length : Nat) : Int))))) rfl (.pure (.int _ _ _ _ _ rfl rfl rfl (intV_sub (by first | omega | (simp only [List.length_map, List.length_append, List.length_take, List.length_drop, List.length_cons, List.length_nil]; omega) | (simp; omega) | (simp; done)) (by first | omega | (simp only [List.length_map, List.length_append, List.length_take, List.length_drop, List.length_cons, List.length_nil]; omega) | (simp; omega) | (simp; done))))) rfl rfl ?_
  refine Ch.step (v := (.d (.int .i64 (left - ((x.name.length : Nat) : Int))))) rfl (.pure (.assign _ rfl rfl)) rfl rfl ?_
  refine Ch.nil ?_
  refine T_seq ?_
  refine T_seq ?_
  refine T_region hc ?_
  refine Ch.step (v := (.d (.int .i64 (left - ((x.name.length : Nat) : Int))))) rfl (.pure (.move _ rfl rfl)) rfl rfl ?_
  refine Ch.step (v := (.d (.bool (decide ((left - ((x.name.length : Nat) : Int)) < 0))))) rfl (.pure (.int _ _ _ _ _ rfl rfl rfl rfl)) rfl rfl ?_
  refine Ch.nil ?_
  refine T_cond (b := (decide ((left - ((x.name.length : Nat) : Int)) < 0))) rfl (fun h1 => ?_) (fun h1 => ?_)
  · replace h1 := of_decide_eq_true h1
    refine T_seq ?_
    refine T_region hc ?_
    refine Ch.step (v := (.d (.int .i64 (-1)))) rfl (.pure (.assign _ rfl rfl)) rfl rfl ?_
    refine Ch.nil ?_
    refine T_ret ?_
    refine And.intro (.inr rfl) ?_
    exact Exists.intro [(.d (.int .i64 (-1)))] (Exists.intro [] (Exists.intro [] (And.intro (.cons (.tmp 4 rfl) .nil) (And.intro (.cons (.any _) (.cons (.any _) .nil)) (And.intro (Exp.of (congrArg (D.int .i64) (by show _ = szR (x.name.length) left; omega)) (.d _)) (And.intro rfl rfl))))))
  · replace h1 := of_decide_eq_false h1
    refine T_skip ?_
    refine T_seq ?_
    refine T_region hc ?_
    refine Ch.step (v := (.d (.int .i64 (left - ((x.name.length : Nat) : Int))))) rfl (.pure (.move _ rfl rfl)) rfl rfl ?_
    refine Ch.step (v := (.d (.int .i64 (left - ((x.name.length : Nat) : Int))))) rfl (.pure (.assign _ rfl rfl)) rfl rfl ?_
    refine Ch.nil ?_
    refine T_ret ?_
    refine And.intro (.inr rfl) ?_
    exact Exists.intro [(.d (.int .i64 (left - ((x.name.length : Nat) : Int))))] (Exists.intro [] (Exists.intro [] (And.intro (.cons (.tmp 4 rfl) .nil) (And.intro (.cons (.any _) (.cons (.any _) .nil)) (And.intro (Exp.of (congrArg (D.int .i64) (by show _ = szR (x.name.length) left; omega)) (.d _)) (And.intro rfl rfl))))))

theorem sp_laws_szSignalS (xs : List (Sgn)) (left : Int) (h0 : 0 ≤ left) (h0u : left ≤ 1048576) (hn : xs.length ≤ 9223372036854775807) (hx : ∀ y ∈ xs, Sgn.wide y) : Sp Try.prog 35 [(.slice false 2 (xs.map Sgn.d)), (.int .i64 left)] [.any, .any] (.int .i64 (szR (bulkF Sgn.bulk xs) left)) := by
  refine Sp_intro (lend := true) Try.func35 rfl rfl rfl (fun _ => rfl) (fun c hc hX => ?_)
  refine T_seq ?_
  refine T_region hc ?_
  refine Ch.step (v := (.d (.int .i64 0))) rfl (.pure (.assign _ rfl rfl)) rfl rfl ?_
  refine Ch.nil ?_
  refine T_seq ?_
  refine T_region hc ?_
  refine Ch.step (v := (.d (.int .i64 left))) rfl (.pure (.move _ rfl rfl)) rfl rfl ?_
  refine Ch.step (v := (.d (.slice false 2 (xs.map Sgn.d)))) rfl (.pure (.move _ rfl rfl)) rfl rfl ?_
  refine Ch.step (v := (.d (.int .i64 ((xs.length : Nat) : Int)))) rfl (.pure (.len _ _ 92 rfl Try.underlying35 (.sh _ _) (by simp))) rfl rfl ?_
  refine Ch.step (v := (.d (.int .i64 (left - ((xs.length : Nat) : Int))))) rfl (.pure (.int _ _ _ _ _ rfl rfl rfl (intV_sub (by first | omega | (simp only [List.length_map, List.length_append, List.length_take, List.length_drop, List.length_cons, List.length_nil]; omega) | (simp; omega) | (simp; done)) (by first | omega | (simp only [List.length_map, List.length_append, List.length_take, List.length_drop, List.length_cons, List.length_nil]; omega) | (simp; omega) | (simp; done))))) rfl rfl ?_
  refine Ch.step (v := (.d (.int .i64 (left - ((xs.length : Nat) : Int))))) rfl (.pure (.assign _ rfl rfl)) rfl rfl ?_
  refine Ch.nil ?_
  refine T_seq ?_
  refine T_seq ?_
  refine T_region hc ?_
  refine Ch.step (v := (.d (.int .i64 (left - ((xs.length : Nat) : Int))))) rfl (.pure (.move _ rfl rfl)) rfl rfl ?_
  refine Ch.step (v := (.d (.bool (decide ((left - ((xs.length : Nat) : Int)) < 0))))) rfl (.pure (.int _ _ _ _ _ rfl rfl rfl rfl)) rfl rfl ?_
  refine Ch.nil ?_
  refine T_cond (b := (decide ((left - ((xs.length : Nat) : Int)) < 0))) rfl (fun h1 => ?_) (fun h1 => ?_)
  · replace h1 := of_decide_eq_true h1
    refine T_seq ?_
    refine T_region hc ?_
    refine Ch.step (v := (.d (.int .i64 (-1)))) rfl (.pure (.assign _ rfl rfl)) rfl rfl ?_
    refine Ch.nil ?_
    refine T_ret ?_
    refine And.intro (.inr rfl) ?_
    exact Exists.intro [(.d (.int .i64 (-1)))] (Exists.intro [] (Exists.intro [] (And.intro (.cons (.tmp 4 rfl) .nil) (And.intro (.cons (.any _) (.cons (.any _) .nil)) (And.intro (Exp.of (congrArg (D.int .i64) (by first | (have hal := sumF_all Sgn.bulk (xs := xs) (k := k) (by omega); rw [szR, bulkF]; split <;> omega) | (rw [szR, bulkF]; split <;> omega))) (.d _)) (And.intro rfl rfl))))))
  · replace h1 := of_decide_eq_false h1
    refine T_skip ?_
    refine T_seq ?_
    refine T_seq ?_
    refine T_region hc ?_
    refine Ch.step (v := (.d (.int .i64 0))) rfl (.pure (.assign _ rfl rfl)) rfl rfl ?_
    refine Ch.nil ?_
    refine T_block ?_
    refine T_loop (ι := Nat) (fun k => { n := 27, sl := [(0, (.d (.slice false 2 (xs.map Sgn.d)))), (1, (.d (.int .i64 (left - xs.length - sumF Sgn.bulk xs k)))), (5, (.d (.int .i64 ((k : Nat) : Int))))], hp := [], pin := [] }) (fun k => k ≤ xs.length ∧ 0 ≤ left - xs.length - sumF Sgn.bulk xs k) (fun k => xs.length - k) ⟨0, ⟨by omega, by rw [sumF_zero]; omega⟩, (Wk.of rfl rfl (And.intro rfl (And.intro (vI (by first | (rw [sumF_zero]; omega) | (rw [sumF_succ _ (by omega)]; omega))) (And.intro (vI (by first | rfl | omega | (simp; done) | (simp; omega))) trivial))) trivial)⟩ (fun k hp0 => ?_)
    have hsl := sumF_le Sgn.bulk xs k; have hsc := szR_cases (Sgn.bulk (xs.getD k default)) (left - xs.length - sumF Sgn.bulk xs k)
    refine T_seq ?_
    refine T_seq ?_
    refine T_region hc ?_
    refine Ch.step (v := (.d (.int .i64 ((k : Nat) : Int)))) rfl (.pure (.move _ rfl rfl)) rfl rfl ?_
    refine Ch.step (v := (.d (.slice false 2 (xs.map Sgn.d)))) rfl (.pure (.move _ rfl rfl)) rfl rfl ?_
    refine Ch.step (v := (.d (.int .i64 ((xs.length : Nat) : Int)))) rfl (.pure (.len _ _ 92 rfl Try.underlying35 (.sh _ _) (by simp))) rfl rfl ?_
    refine Ch.step (v := (.d (.bool (decide (((k : Nat) : Int) < ((xs.length : Nat) : Int)))))) rfl (.pure (.int _ _ _ _ _ rfl rfl rfl rfl)) rfl rfl ?_
    refine Ch.nil ?_
    refine T_cond (b := (decide (((k : Nat) : Int) < ((xs.length : Nat) : Int)))) rfl (fun h2 => ?_) (fun h2 => ?_)
    · replace h2 := of_decide_eq_true h2
      try have hk := hx _ (getD_mem (l := xs) (j := k) (d := default) (by omega))
      try have hs1 := sumF_succ Sgn.bulk (xs := xs) (k := k) (by omega)
      try have hs2 := sumF_le Sgn.bulk xs (k + 1)
      refine T_skip ?_
      refine T_seq ?_
      refine T_block ?_
      refine T_seq ?_
      refine T_region hc ?_
      refine Ch.step (v := (.d (.slice false 2 (xs.map Sgn.d)))) rfl (.pure (.move _ rfl rfl)) rfl rfl ?_
      refine Ch.step (v := (.d (.int .i64 ((k : Nat) : Int)))) rfl (.pure (.move _ rfl rfl)) rfl rfl ?_
      refine Ch.step (v := (.d (.ref (.agg [(.str ((xs.getD k default).name)), (.int .i64 ((xs.getD k default).kind))])))) rfl (.pure (.idx _ _ _ 92 (k) rfl Try.underlying35 sz92 rfl rfl rfl (get_map _ (by first | omega | (simp only [List.length_map, List.length_append, List.length_take, List.length_drop, List.length_cons, List.length_nil]; omega) | (simp; omega) | (simp; done))))) rfl rfl ?_
      refine Ch.step (v := (.d (.agg [(.str ((xs.getD k default).name)), (.int .i64 ((xs.getD k default).kind))]))) rfl (.pure (.loadRefA _ _ rfl ag92 sz92 rfl)) rfl rfl ?_
      refine Ch.step (v := (.d (.int .i64 (left - xs.length - sumF Sgn.bulk xs k)))) rfl (.pure (.move _ rfl rfl)) rfl rfl ?_
      refine Ch.step (v := (.d (.int .i64 (szR (xs.getD k default).bulk (left - xs.length - sumF Sgn.bulk xs k))))) rfl (.call 23000 83 _ _ _ en83 rfl (.inl rfl) (.cons (.d _) (.cons (.d _) .nil)) rfl rfl (sp_laws_szSignal (xs.getD k default) (left - xs.length - sumF Sgn.bulk xs k) (by first | omega | assumption | (exact hx _ (getD_mem (by omega))) | (exact hx _ (by assumption)) | (exact Nat.le_trans (hx _ (by assumption)) (by omega)) | (simp only [List.length_append, List.length_take, List.length_drop, List.length_cons, List.length_nil]; omega) | (simp_all; done)) (by first | omega | assumption | (exact hx _ (getD_mem (by omega))) | (exact hx _ (by assumption)) | (exact Nat.le_trans (hx _ (by assumption)) (by omega)) | (simp only [List.length_append, List.length_take, List.length_drop, List.length_cons, List.length_nil]; omega) | (simp_all; done)) (by first | assumption | omega | trivial | (simp_all; done) | (exact fun _ _ => trivial) | (exact hx _ (by assumption)) | (refine ⟨?_, ?_⟩ <;> first | assumption | omega))) (.skip _ _ (.skip _ _ .nil)) rfl) rfl rfl ?_
      refine Ch.step (v := (.d (.int .i64 (szR (xs.getD k default).bulk (left - xs.length - sumF Sgn.bulk xs k))))) rfl (.pure (.assign _ rfl rfl)) rfl rfl ?_
      refine Ch.nil ?_
      refine T_seq ?_
      refine T_region hc ?_
      refine Ch.step (v := (.d (.int .i64 (szR (xs.getD k default).bulk (left - xs.length - sumF Sgn.bulk xs k))))) rfl (.pure (.move _ rfl rfl)) rfl rfl ?_
      refine Ch.step (v := (.d (.bool (decide ((szR (xs.getD k default).bulk (left - xs.length - sumF Sgn.bulk xs k)) < 0))))) rfl (.pure (.int _ _ _ _ _ rfl rfl rfl rfl)) rfl rfl ?_
      refine Ch.nil ?_
      refine T_cond (b := (decide ((szR (xs.getD k default).bulk (left - xs.length - sumF Sgn.bulk xs k)) < 0))) rfl (fun h3 => ?_) (fun h3 => ?_)
      · replace h3 := of_decide_eq_true h3
        refine T_seq ?_
        refine T_region hc ?_
        refine Ch.step (v := (.d (.int .i64 (-1)))) rfl (.pure (.assign _ rfl rfl)) rfl rfl ?_
        refine Ch.nil ?_
        refine T_ret ?_
        refine And.intro (.inr rfl) ?_
        exact Exists.intro [(.d (.int .i64 (-1)))] (Exists.intro [] (Exists.intro [] (And.intro (.cons (.tmp 4 rfl) .nil) (And.intro (.cons (.any _) (.cons (.any _) .nil)) (And.intro (Exp.of (congrArg (D.int .i64) (by first | (have hal := sumF_all Sgn.bulk (xs := xs) (k := k) (by omega); rw [szR, bulkF]; split <;> omega) | (rw [szR, bulkF]; split <;> omega))) (.d _)) (And.intro rfl rfl))))))
      · replace h3 := of_decide_eq_false h3
        refine T_skip ?_
        refine T_region hc ?_
        refine Ch.step (v := (.d (.int .i64 ((k : Nat) : Int)))) rfl (.pure (.move _ rfl rfl)) rfl rfl ?_
        refine Ch.step (v := (.d (.int .i64 (((k : Nat) : Int) + 1)))) rfl (.pure (.int _ _ _ _ _ rfl rfl rfl (intV_add (by first | omega | (simp only [List.length_map, List.length_append, List.length_take, List.length_drop, List.length_cons, List.length_nil]; omega) | (simp; omega) | (simp; done)) (by first | omega | (simp only [List.length_map, List.length_append, List.length_take, List.length_drop, List.length_cons, List.length_nil]; omega) | (simp; omega) | (simp; done))))) rfl rfl ?_
        refine Ch.step (v := (.d (.int .i64 (((k : Nat) : Int) + 1)))) rfl (.pure (.assign _ rfl rfl)) rfl rfl ?_
        refine Ch.nil ?_
        refine Exists.intro (k + 1) (And.intro ⟨by omega, by rw [sumF_succ _ (by omega)]; omega⟩ (And.intro (by first | omega | (dsimp only; omega)) (Wk.of rfl rfl (And.intro rfl (And.intro (vI (by first | (rw [sumF_zero]; omega) | (rw [sumF_succ _ (by omega)]; omega))) (And.intro (vI (by first | rfl | omega | (simp; done) | (simp; omega))) trivial))) trivial)))
    · replace h2 := of_decide_eq_false h2
      try have hk := hx _ (getD_mem (l := xs) (j := k) (d := default) (by omega))
      try have hs1 := sumF_succ Sgn.bulk (xs := xs) (k := k) (by omega)
      try have hs2 := sumF_le Sgn.bulk xs (k + 1)
      refine T_exit ?_
      refine T_seq ?_
      refine T_region hc ?_
      refine Ch.step (v := (.d (.int .i64 (left - xs.length - sumF Sgn.bulk xs k)))) rfl (.pure (.move _ rfl rfl)) rfl rfl ?_
      refine Ch.step (v := (.d (.int .i64 (left - xs.length - sumF Sgn.bulk xs k)))) rfl (.pure (.assign _ rfl rfl)) rfl rfl ?_
      refine Ch.nil ?_
      refine T_ret ?_
      refine And.intro (.inr rfl) ?_
      exact Exists.intro [(.d (.int .i64 (left - xs.length - sumF Sgn.bulk xs k)))] (Exists.intro [] (Exists.intro [] (And.intro (.cons (.tmp 4 rfl) .nil) (And.intro (.cons (.any _) (.cons (.any _) .nil)) (And.intro (Exp.of (congrArg (D.int .i64) (by first | (have hal := sumF_all Sgn.bulk (xs := xs) (k := k) (by omega); rw [szR, bulkF]; split <;> omega) | (rw [szR, bulkF]; split <;> omega))) (.d _)) (And.intro rfl rfl))))))

theorem sp_laws_toSignal (x : Sgn) (hb : x.bulk ≤ 1048576) : Sp Try.prog 86 [(.agg [(.str x.name), (.int .i64 x.kind)])] [.any] (.agg [(.str x.name), (.int .i64 x.kind)]) := by
  refine Sp_intro (lend := true) Try.func86 rfl rfl rfl (fun _ => rfl) (fun c hc hX => ?_)
  have hp0 := Sgn.parts hb
  refine T_seq ?_
  refine T_region hc ?_
  refine Ch.step (v := (.ptr 1000 0)) rfl (.box 1000 _ _ rfl (.aggD _)) rfl rfl ?_
  refine Ch.step (v := (.ptr 2000 0)) rfl (.alloc 2000 _ rfl zer85) rfl rfl ?_
  refine Ch.nil ?_
  refine T_seq ?_
  refine T_region hc ?_
  refine Ch.step (v := (.ptr 3000 0)) rfl (.alloc 3000 _ rfl zer85) rfl rfl ?_
  refine Ch.nil ?_
  refine T_seq ?_
  refine T_region hc ?_
  refine Ch.step (v := (.ptr 1000 0)) rfl (.pure (.fldPtr _ _ _ rfl fld92_0 rfl)) rfl rfl ?_
  refine Ch.step (v := (.d (.str x.name))) rfl (.pure (.loadPtr1 _ _ rfl ag9 rfl rfl rfl)) rfl rfl ?_
  refine Ch.step (v := (.ptr 3000 0)) rfl (.pure (.fldPtr _ _ _ rfl fld85_0 rfl)) rfl rfl ?_
  refine Ch.step (v := .junk) rfl (.storePtr _ _ _ rfl rfl rfl (.one _ rfl) sz9 (Nat.le_of_ble_eq_true rfl)) rfl rfl ?_
  refine Ch.nil ?_
  refine T_seq ?_
  refine T_region hc ?_
  refine Ch.step (v := (.ptr 1000 1)) rfl (.pure (.fldPtr _ _ _ rfl fld92_1 rfl)) rfl rfl ?_
  refine Ch.step (v := (.d (.int .i64 x.kind))) rfl (.pure (.loadPtr1 _ _ rfl ag3 rfl rfl rfl)) rfl rfl ?_
  refine Ch.step (v := (.ptr 3000 1)) rfl (.pure (.fldPtr _ _ _ rfl fld85_1 rfl)) rfl rfl ?_
  refine Ch.step (v := .junk) rfl (.storePtr _ _ _ rfl rfl rfl (.one _ rfl) sz3 (Nat.le_of_ble_eq_true rfl)) rfl rfl ?_
  refine Ch.nil ?_
  refine T_seq ?_
  refine T_region hc ?_
  refine Ch.step (v := (.agg [(.d (.str x.name)), (.d (.int .i64 x.kind))])) rfl (.pure (.loadPtrA _ _ rfl ag85 sz85 rfl rfl (Nat.le_of_ble_eq_true rfl) rfl)) rfl rfl ?_
  refine Ch.step (v := .junk) rfl (.storePtr _ _ _ rfl rfl rfl (.agg _ rfl) sz85 (Nat.le_of_ble_eq_true rfl)) rfl rfl ?_
  refine Ch.nil ?_
  refine T_ret ?_
  refine And.intro (.inr rfl) ?_
  exact Exists.intro [(.agg [(.d (.str x.name)), (.d (.int .i64 x.kind))])] (Exists.intro [] (Exists.intro [] (And.intro (.cons (.cellA _ _ rfl rfl ag85 sz85) .nil) (And.intro (.cons (.any _) .nil) (And.intro (.agg (.cons (.d _) (.cons (.d _) .nil)) rfl) (And.intro rfl rfl))))))

theorem sp_laws_toSignalS (xs : List (Sgn)) (hb : bulkF Sgn.bulk xs ≤ 1048576) : Sp Try.prog 37 [(.slice false 2 (xs.map Sgn.d))] [.any] (.slice true 2 (xs.map Sgn.d)) := by
  refine Sp_intro (lend := true) Try.func37 rfl rfl rfl (fun _ => rfl) (fun c hc hX => ?_)
  have hn := bulkF_len hb
  refine T_seq ?_
  refine T_region hc ?_
  refine Ch.step (v := (.c (.slice none 0 0))) rfl (.pure (.assign _ rfl rfl)) rfl rfl ?_
  refine Ch.nil ?_
  refine T_seq ?_
  refine T_region hc ?_
  refine Ch.step (v := (.d (.slice false 2 (xs.map Sgn.d)))) rfl (.pure (.move _ rfl rfl)) rfl rfl ?_
  refine Ch.step (v := (.d (.int .i64 ((xs.length : Nat) : Int)))) rfl (.pure (.len _ _ 92 rfl Try.underlying35 (.sh _ _) (by simp))) rfl rfl ?_
  refine Ch.step (v := (.row 7000)) rfl (.make 7000 _ 85 _ _ (xs.length) (xs.length) rfl sty41 rfl rfl rfl rfl (by first | omega | (simp only [List.length_map, List.length_append, List.length_take, List.length_drop, List.length_cons, List.length_nil]; omega) | (simp; omega) | (simp; done)) (by first | omega | (simp only [List.length_map, List.length_append, List.length_take, List.length_drop, List.length_cons, List.length_nil]; omega) | (simp; omega) | (simp; done)) (by first | omega | (simp only [List.length_map, List.length_append, List.length_take, List.length_drop, List.length_cons, List.length_nil]; omega) | (simp; omega) | (simp; done)) (zeroD_mk (zd := (.agg [(.str []), (.int .i64 0)])) zr85 (by intro S w; exact dr_agg rfl (drs_cons dr_str0 (drs_cons dr_int drs_nil))) rfl)) rfl rfl ?_
  refine Ch.step (v := (.row 7000)) rfl (.pure (.assign _ rfl rfl)) rfl rfl ?_
  refine Ch.nil ?_
  refine T_seq ?_
  refine T_seq ?_
  refine T_region hc ?_
  refine Ch.step (v := (.d (.int .i64 0))) rfl (.pure (.assign _ rfl rfl)) rfl rfl ?_
  refine Ch.nil ?_
  refine T_block ?_
  refine T_loop (ι := Nat) (fun k => { n := 23, sl := [(0, (.d (.slice false 2 (xs.map Sgn.d)))), (3, (.row 3)), (4, (.d (.int .i64 ((k : Nat) : Int))))], hp := [(3, (some (.row 2 ((fill xs default k).map Sgn.d))))], pin := [] }) (fun k => k ≤ xs.length) (fun k => xs.length - k) ⟨0, (by omega), (Wk.ren [(3, 7000)] rfl rfl rfl rfl (And.intro rfl (And.intro rfl (And.intro (vI (by first | rfl | omega | (simp; done) | (simp; omega))) trivial))) (And.intro (oR (by first | (rw [fill_zero, List.map_replicate]; rfl) | (rw [← fill_set xs default default (by omega), List.map_set]; rfl))) trivial))⟩ (fun k hp0 => ?_)
  refine T_seq ?_
  refine T_seq ?_
  refine T_region hc ?_
  refine Ch.step (v := (.d (.int .i64 ((k : Nat) : Int)))) rfl (.pure (.move _ rfl rfl)) rfl rfl ?_
  refine Ch.step (v := (.d (.slice false 2 (xs.map Sgn.d)))) rfl (.pure (.move _ rfl rfl)) rfl rfl ?_
  refine Ch.step (v := (.d (.int .i64 ((xs.length : Nat) : Int)))) rfl (.pure (.len _ _ 92 rfl Try.underlying35 (.sh _ _) (by simp))) rfl rfl ?_
  refine Ch.step (v := (.d (.bool (decide (((k : Nat) : Int) < ((xs.length : Nat) : Int)))))) rfl (.pure (.int _ _ _ _ _ rfl rfl rfl rfl)) rfl rfl ?_
  refine Ch.nil ?_
  refine T_cond (b := (decide (((k : Nat) : Int) < ((xs.length : Nat) : Int)))) rfl (fun h1 => ?_) (fun h1 => ?_)
  · replace h1 := of_decide_eq_true h1
    try have hk := bulkF_mem hb _ (getD_mem (l := xs) (j := k) (d := default) (by omega))
    refine T_skip ?_
    refine T_seq ?_
    refine T_block ?_
    refine T_region hc ?_
    refine Ch.step (v := (.row 3)) rfl (.pure (.move _ rfl rfl)) rfl rfl ?_
    refine Ch.step (v := (.d (.int .i64 ((k : Nat) : Int)))) rfl (.pure (.move _ rfl rfl)) rfl rfl ?_
    refine Ch.step (v := (.d (.slice false 2 (xs.map Sgn.d)))) rfl (.pure (.move _ rfl rfl)) rfl rfl ?_
    refine Ch.step (v := (.d (.int .i64 ((k : Nat) : Int)))) rfl (.pure (.move _ rfl rfl)) rfl rfl ?_
    refine Ch.step (v := (.d (.ref (.agg [(.str ((xs.getD k default).name)), (.int .i64 ((xs.getD k default).kind))])))) rfl (.pure (.idx _ _ _ 92 (k) rfl Try.underlying35 sz92 rfl rfl rfl (get_map _ (by first | omega | (simp only [List.length_map, List.length_append, List.length_take, List.length_drop, List.length_cons, List.length_nil]; omega) | (simp; omega) | (simp; done))))) rfl rfl ?_
    refine Ch.step (v := (.d (.agg [(.str ((xs.getD k default).name)), (.int .i64 ((xs.getD k default).kind))]))) rfl (.pure (.loadRefA _ _ rfl ag92 sz92 rfl)) rfl rfl ?_
    refine Ch.step (v := (.d (.agg [(.str ((xs.getD k default).name)), (.int .i64 ((xs.getD k default).kind))]))) rfl (.call 20000 86 _ _ _ en86 rfl (.inl rfl) (.cons (.d _) .nil) rfl rfl (sp_laws_toSignal (xs.getD k default) (by first | assumption | omega | (rw [List.length_take]; omega) | (have := bulkF_mem hb _ (getD_mem (d := default) (by omega)); assumption) | (unfold bulkS at *; omega) | (simp_all; done))) (.skip _ _ .nil) rfl) rfl rfl ?_
    refine Ch.step (v := (.el 3 2 k 0)) rfl (.pure (.idxRow _ _ _ 85 (k) rfl Try.underlying41 sz85 rfl rfl rfl rfl (by first | omega | (simp; omega)))) rfl rfl ?_
    refine Ch.step (v := .junk) rfl (.storeEl (y' := (.agg [(.str ((xs.getD k default).name)), (.int .i64 ((xs.getD k default).kind))])) _ _ _ rfl rfl rfl (.d _) rfl sz85 rfl (get_map _ (by first | omega | (simp only [List.length_map, List.length_append, List.length_take, List.length_drop, List.length_cons, List.length_nil]; omega) | (simp; omega) | (simp; done))) rfl rfl) rfl rfl ?_
    refine Ch.nil ?_
    refine T_region hc ?_
    refine Ch.step (v := (.d (.int .i64 ((k : Nat) : Int)))) rfl (.pure (.move _ rfl rfl)) rfl rfl ?_
    refine Ch.step (v := (.d (.int .i64 (((k : Nat) : Int) + 1)))) rfl (.pure (.int _ _ _ _ _ rfl rfl rfl (intV_add (by first | omega | (simp only [List.length_map, List.length_append, List.length_take, List.length_drop, List.length_cons, List.length_nil]; omega) | (simp; omega) | (simp; done)) (by first | omega | (simp only [List.length_map, List.length_append, List.length_take, List.length_drop, List.length_cons, List.length_nil]; omega) | (simp; omega) | (simp; done))))) rfl rfl ?_
    refine Ch.step (v := (.d (.int .i64 (((k : Nat) : Int) + 1)))) rfl (.pure (.assign _ rfl rfl)) rfl rfl ?_
    refine Ch.nil ?_
    refine Exists.intro (k + 1) (And.intro (by omega) (And.intro (by first | omega | (dsimp only; omega)) (Wk.of rfl rfl (And.intro rfl (And.intro rfl (And.intro (vI (by first | rfl | omega | (simp; done) | (simp; omega))) trivial))) (And.intro (oR (by first | (rw [fill_zero, List.map_replicate]; rfl) | (rw [← fill_set xs default default (by omega), List.map_set]; rfl))) trivial))))
  · replace h1 := of_decide_eq_false h1
    try have hk := bulkF_mem hb _ (getD_mem (l := xs) (j := k) (d := default) (by omega))
    refine T_exit ?_
    refine T_seq ?_
    refine T_region hc ?_
    refine Ch.step (v := (.row 3)) rfl (.pure (.move _ rfl rfl)) rfl rfl ?_
    refine Ch.step (v := (.row 3)) rfl (.pure (.assign _ rfl rfl)) rfl rfl ?_
    refine Ch.nil ?_
    refine T_ret ?_
    refine And.intro (.inr rfl) ?_
    exact Exists.intro [(.row 3)] (Exists.intro [] (Exists.intro [3] (And.intro (.cons (.tmp 2 rfl) .nil) (And.intro (.cons (.any _) .nil) (And.intro (Exp.of (congrArg (D.slice true 2) (by rw [fill_all xs default (by omega)])) (.row rfl)) (And.intro rfl rfl))))))

theorem sp_laws_eqSignal (x y : Sgn) (hb : x.bulk ≤ 1048576) : Sp Try.prog 89 [(.agg [(.str x.name), (.int .i64 x.kind)]), (.agg [(.str y.name), (.int .i64 y.kind)])] [.any, .any] (.bool (decide (x = y))) := by
  refine Sp_intro (lend := true) Try.func89 rfl rfl rfl (fun _ => rfl) (fun c hc hX => ?_)
  have hp0 := Sgn.parts hb
  refine T_seq ?_
  refine T_region hc ?_
  refine Ch.step (v := (.ptr 2000 0)) rfl (.box 2000 _ _ rfl (.aggD _)) rfl rfl ?_
  refine Ch.step (v := (.ptr 3000 0)) rfl (.box 3000 _ _ rfl (.aggD _)) rfl rfl ?_
  refine Ch.step (v := (.d (.bool false))) rfl (.pure (.assign _ rfl rfl)) rfl rfl ?_
  refine Ch.nil ?_
  refine T_seq ?_
  refine T_seq ?_
  refine T_region hc ?_
  refine Ch.step (v := (.ptr 2000 0)) rfl (.pure (.fldPtr _ _ _ rfl fld85_0 rfl)) rfl rfl ?_
  refine Ch.step (v := (.d (.str x.name))) rfl (.pure (.loadPtr1 _ _ rfl ag9 rfl rfl rfl)) rfl rfl ?_
  refine Ch.step (v := (.ptr 3000 0)) rfl (.pure (.fldPtr _ _ _ rfl fld85_0 rfl)) rfl rfl ?_
  refine Ch.step (v := (.d (.str y.name))) rfl (.pure (.loadPtr1 _ _ rfl ag9 rfl rfl rfl)) rfl rfl ?_
  refine Ch.step (v := (.d (.bool (!(decide (x.name = y.name)))))) rfl (.pure (.str _ _ _ _ _ rfl rfl rfl rfl)) rfl rfl ?_
  refine Ch.nil ?_
  refine T_cond (b := (!(decide (x.name = y.name)))) rfl (fun h1 => ?_) (fun h1 => ?_)
  · replace h1 := nott h1
    replace h1 := of_decide_eq_false h1
    refine T_seq ?_
    refine T_region hc ?_
    refine Ch.step (v := (.d (.bool false))) rfl (.pure (.assign _ rfl rfl)) rfl rfl ?_
    refine Ch.nil ?_
    refine T_ret ?_
    refine And.intro (.inr rfl) ?_
    exact Exists.intro [(.d (.bool false))] (Exists.intro [] (Exists.intro [] (And.intro (.cons (.tmp 4 rfl) .nil) (And.intro (.cons (.any _) (.cons (.any _) .nil)) (And.intro (Exp.of (congrArg D.bool (by cases x; cases y; simp_all)) (.d _)) (And.intro rfl rfl))))))
  · replace h1 := notf h1
    replace h1 := of_decide_eq_true h1
    refine T_skip ?_
    refine T_seq ?_
    refine T_seq ?_
    refine T_region hc ?_
    refine Ch.step (v := (.ptr 2000 1)) rfl (.pure (.fldPtr _ _ _ rfl fld85_1 rfl)) rfl rfl ?_
    refine Ch.step (v := (.d (.int .i64 x.kind))) rfl (.pure (.loadPtr1 _ _ rfl ag3 rfl rfl rfl)) rfl rfl ?_
    refine Ch.step (v := (.ptr 3000 1)) rfl (.pure (.fldPtr _ _ _ rfl fld85_1 rfl)) rfl rfl ?_
    refine Ch.step (v := (.d (.int .i64 y.kind))) rfl (.pure (.loadPtr1 _ _ rfl ag3 rfl rfl rfl)) rfl rfl ?_
    refine Ch.step (v := (.d (.bool (!(decide (x.kind = y.kind)))))) rfl (.pure (.int _ _ _ _ _ rfl rfl rfl rfl)) rfl rfl ?_
    refine Ch.nil ?_
    refine T_cond (b := (!(decide (x.kind = y.kind)))) rfl (fun h2 => ?_) (fun h2 => ?_)
    · replace h2 := nott h2
      replace h2 := of_decide_eq_false h2
      refine T_seq ?_
      refine T_region hc ?_
      refine Ch.step (v := (.d (.bool false))) rfl (.pure (.assign _ rfl rfl)) rfl rfl ?_
      refine Ch.nil ?_
      refine T_ret ?_
      refine And.intro (.inr rfl) ?_
      exact Exists.intro [(.d (.bool false))] (Exists.intro [] (Exists.intro [] (And.intro (.cons (.tmp 4 rfl) .nil) (And.intro (.cons (.any _) (.cons (.any _) .nil)) (And.intro (Exp.of (congrArg D.bool (by cases x; cases y; simp_all)) (.d _)) (And.intro rfl rfl))))))
    · replace h2 := notf h2
      replace h2 := of_decide_eq_true h2
      refine T_skip ?_
      refine T_seq ?_
      refine T_region hc ?_
      refine Ch.step (v := (.d (.bool true))) rfl (.pure (.assign _ rfl rfl)) rfl rfl ?_
      refine Ch.nil ?_
      refine T_ret ?_
      refine And.intro (.inr rfl) ?_
      exact Exists.intro [(.d (.bool true))] (Exists.intro [] (Exists.intro [] (And.intro (.cons (.tmp 4 rfl) .nil) (And.intro (.cons (.any _) (.cons (.any _) .nil)) (And.intro (Exp.of (congrArg D.bool (by cases x; cases y; simp_all)) (.d _)) (And.intro rfl rfl))))))

theorem sp_laws_eqSignalS (xs ys : List (Sgn)) (hb : bulkF Sgn.bulk xs ≤ 1048576) : Sp Try.prog 39 [(.slice false 2 (xs.map Sgn.d)), (.slice false 2 (ys.map Sgn.d))] [.any, .any] (.bool (decide (xs = ys))) := by
  refine Sp_intro (lend := true) Try.func39 rfl rfl rfl (fun _ => rfl) (fun c hc hX => ?_)
  have hn := bulkF_len hb
  refine T_seq ?_
  refine T_region hc ?_
  refine Ch.step (v := (.d (.bool false))) rfl (.pure (.assign _ rfl rfl)) rfl rfl ?_
  refine Ch.nil ?_
  refine T_seq ?_
  refine T_seq ?_
  refine T_region hc ?_
  refine Ch.step (v := (.d (.slice false 2 (xs.map Sgn.d)))) rfl (.pure (.move _ rfl rfl)) rfl rfl ?_
  refine Ch.step (v := (.d (.int .i64 ((xs.length : Nat) : Int)))) rfl (.pure (.len _ _ 85 rfl Try.underlying41 (.sh _ _) (by simp))) rfl rfl ?_
  refine Ch.step (v := (.d (.slice false 2 (ys.map Sgn.d)))) rfl (.pure (.move _ rfl rfl)) rfl rfl ?_
  refine Ch.step (v := (.d (.int .i64 ((ys.length : Nat) : Int)))) rfl (.pure (.len _ _ 85 rfl Try.underlying41 (.sh _ _) (by simp))) rfl rfl ?_
  refine Ch.step (v := (.d (.bool (!(decide (((xs.length : Nat) : Int) = ((ys.length : Nat) : Int))))))) rfl (.pure (.int _ _ _ _ _ rfl rfl rfl rfl)) rfl rfl ?_
  refine Ch.nil ?_
  refine T_cond (b := (!(decide (((xs.length : Nat) : Int) = ((ys.length : Nat) : Int))))) rfl (fun h1 => ?_) (fun h1 => ?_)
  · replace h1 := nott h1
    replace h1 := of_decide_eq_false h1
    refine T_seq ?_
    refine T_region hc ?_
    refine Ch.step (v := (.d (.bool false))) rfl (.pure (.assign _ rfl rfl)) rfl rfl ?_
    refine Ch.nil ?_
    refine T_ret ?_
    refine And.intro (.inr rfl) ?_
    exact Exists.intro [(.d (.bool false))] (Exists.intro [] (Exists.intro [] (And.intro (.cons (.tmp 4 rfl) .nil) (And.intro (.cons (.any _) (.cons (.any _) .nil)) (And.intro (Exp.of (congrArg D.bool (by exact eqL_len (by omega))) (.d _)) (And.intro rfl rfl))))))
  · replace h1 := notf h1
    replace h1 := of_decide_eq_true h1
    refine T_skip ?_
    refine T_seq ?_
    refine T_seq ?_
    refine T_region hc ?_
    refine Ch.step (v := (.d (.int .i64 0))) rfl (.pure (.assign _ rfl rfl)) rfl rfl ?_
    refine Ch.nil ?_
    refine T_block ?_
    refine T_loop (ι := Nat) (fun k => { n := 27, sl := [(0, (.d (.slice false 2 (xs.map Sgn.d)))), (1, (.d (.slice false 2 (ys.map Sgn.d)))), (5, (.d (.int .i64 ((k : Nat) : Int))))], hp := [], pin := [] }) (fun k => k ≤ xs.length ∧ ∀ j, j < k → xs.getD j default = ys.getD j default) (fun k => xs.length - k) ⟨0, ⟨by omega, fun j hj => by omega⟩, (Wk.of rfl rfl (And.intro rfl (And.intro rfl (And.intro (vI (by first | rfl | omega | (simp; done) | (simp; omega))) trivial))) trivial)⟩ (fun k hp0 => ?_)
    refine T_seq ?_
    refine T_seq ?_
    refine T_region hc ?_
    refine Ch.step (v := (.d (.int .i64 ((k : Nat) : Int)))) rfl (.pure (.move _ rfl rfl)) rfl rfl ?_
    refine Ch.step (v := (.d (.slice false 2 (xs.map Sgn.d)))) rfl (.pure (.move _ rfl rfl)) rfl rfl ?_
    refine Ch.step (v := (.d (.int .i64 ((xs.length : Nat) : Int)))) rfl (.pure (.len _ _ 85 rfl Try.underlying41 (.sh _ _) (by simp))) rfl rfl ?_
    refine Ch.step (v := (.d (.bool (decide (((k : Nat) : Int) < ((xs.length : Nat) : Int)))))) rfl (.pure (.int _ _ _ _ _ rfl rfl rfl rfl)) rfl rfl ?_
    refine Ch.nil ?_
    refine T_cond (b := (decide (((k : Nat) : Int) < ((xs.length : Nat) : Int)))) rfl (fun h2 => ?_) (fun h2 => ?_)
    · replace h2 := of_decide_eq_true h2
      try have hk := bulkF_mem hb _ (getD_mem (l := xs) (j := k) (d := default) (by omega))
      refine T_skip ?_
      refine T_seq ?_
      refine T_block ?_
      refine T_seq ?_
      refine T_regionD hc (by kernel_rfl) ?_
      refine ChD.step (v := (.d (.slice false 2 (xs.map Sgn.d)))) [] rfl (.pure (.move _ rfl rfl)) rfl rfl ?_
      refine ChD.step (v := (.d (.int .i64 ((k : Nat) : Int)))) [] rfl (.pure (.move _ rfl rfl)) rfl rfl ?_
      refine ChD.step (v := (.d (.ref (.agg [(.str ((xs.getD k default).name)), (.int .i64 ((xs.getD k default).kind))])))) [] rfl (.pure (.idx _ _ _ 85 (k) rfl Try.underlying41 sz85 rfl rfl rfl (get_map _ (by first | omega | (simp only [List.length_map, List.length_append, List.length_take, List.length_drop, List.length_cons, List.length_nil]; omega) | (simp; omega) | (simp; done))))) rfl rfl ?_
      refine ChD.step (v := (.d (.agg [(.str ((xs.getD k default).name)), (.int .i64 ((xs.getD k default).kind))]))) [] rfl (.pure (.loadRefA _ _ rfl ag85 sz85 rfl)) rfl rfl ?_
      refine ChD.step (v := (.d (.slice false 2 (ys.map Sgn.d)))) [] rfl (.pure (.move _ rfl rfl)) rfl rfl ?_
      refine ChD.step (v := (.d (.int .i64 ((k : Nat) : Int)))) [] rfl (.pure (.move _ rfl rfl)) rfl rfl ?_
      refine ChD.step (v := (.d (.ref (.agg [(.str ((ys.getD k default).name)), (.int .i64 ((ys.getD k default).kind))])))) [] rfl (.pure (.idx _ _ _ 85 (k) rfl Try.underlying41 sz85 rfl rfl rfl (get_map _ (by first | omega | (simp only [List.length_map, List.length_append, List.length_take, List.length_drop, List.length_cons, List.length_nil]; omega) | (simp; omega) | (simp; done))))) rfl rfl ?_
      refine ChD.step (v := (.d (.agg [(.str ((ys.getD k default).name)), (.int .i64 ((ys.getD k default).kind))]))) [] rfl (.pure (.loadRefA _ _ rfl ag85 sz85 rfl)) rfl rfl ?_
      refine ChD.step (v := (.d (.bool (decide ((xs.getD k default) = (ys.getD k default)))))) [] rfl (.call 25000 89 _ _ _ en89 rfl (.inl rfl) (.cons (.d _) (.cons (.d _) .nil)) rfl rfl (sp_laws_eqSignal (xs.getD k default) (ys.getD k default) (by first | assumption | omega | (rw [List.length_take]; omega) | (have := bulkF_mem hb _ (getD_mem (d := default) (by omega)); assumption) | (unfold bulkS at *; omega) | (simp_all; done))) (.skip _ _ (.skip _ _ .nil)) rfl) rfl rfl ?_
      refine ChD.step (v := (.d (.bool (!(decide ((xs.getD k default) = (ys.getD k default))))))) [] rfl (.pure (.not _ _ rfl rfl)) rfl rfl ?_
      refine ChD.nil (And.intro ?_ (by kernel_rfl))
      refine T_cond (b := (!(decide ((xs.getD k default) = (ys.getD k default))))) rfl (fun h3 => ?_) (fun h3 => ?_)
      · replace h3 := nott h3
        replace h3 := of_decide_eq_false h3
        refine T_seq ?_
        refine T_region hc ?_
        refine Ch.step (v := (.d (.bool false))) rfl (.pure (.assign _ rfl rfl)) rfl rfl ?_
        refine Ch.nil ?_
        refine T_ret ?_
        refine And.intro (.inr rfl) ?_
        exact Exists.intro [(.d (.bool false))] (Exists.intro [] (Exists.intro [] (And.intro (.cons (.tmp 4 rfl) .nil) (And.intro (.cons (.any _) (.cons (.any _) .nil)) (And.intro (Exp.of (congrArg D.bool (by exact eqL_at default k (by assumption))) (.d _)) (And.intro rfl rfl))))))
      · replace h3 := notf h3
        replace h3 := of_decide_eq_true h3
        refine T_skip ?_
        refine T_region hc ?_
        refine Ch.step (v := (.d (.int .i64 ((k : Nat) : Int)))) rfl (.pure (.move _ rfl rfl)) rfl rfl ?_
        refine Ch.step (v := (.d (.int .i64 (((k : Nat) : Int) + 1)))) rfl (.pure (.int _ _ _ _ _ rfl rfl rfl (intV_add (by first | omega | (simp only [List.length_map, List.length_append, List.length_take, List.length_drop, List.length_cons, List.length_nil]; omega) | (simp; omega) | (simp; done)) (by first | omega | (simp only [List.length_map, List.length_append, List.length_take, List.length_drop, List.length_cons, List.length_nil]; omega) | (simp; omega) | (simp; done))))) rfl rfl ?_
        refine Ch.step (v := (.d (.int .i64 (((k : Nat) : Int) + 1)))) rfl (.pure (.assign _ rfl rfl)) rfl rfl ?_
        refine Ch.nil ?_
        refine Exists.intro (k + 1) (And.intro ⟨by omega, upto_succ hp0.2 (by assumption)⟩ (And.intro (by first | omega | (dsimp only; omega)) (Wk.of rfl rfl (And.intro rfl (And.intro rfl (And.intro (vI (by first | rfl | omega | (simp; done) | (simp; omega))) trivial))) trivial)))
    · replace h2 := of_decide_eq_false h2
      try have hk := bulkF_mem hb _ (getD_mem (l := xs) (j := k) (d := default) (by omega))
      refine T_exit ?_
      refine T_seq ?_
      refine T_region hc ?_
      refine Ch.step (v := (.d (.bool true))) rfl (.pure (.assign _ rfl rfl)) rfl rfl ?_
      refine Ch.nil ?_
      refine T_ret ?_
      refine And.intro (.inr rfl) ?_
      exact Exists.intro [(.d (.bool true))] (Exists.intro [] (Exists.intro [] (And.intro (.cons (.tmp 4 rfl) .nil) (And.intro (.cons (.any _) (.cons (.any _) .nil)) (And.intro (Exp.of (congrArg D.bool (by exact eqL_all default (by omega) (fun j hj => hp0.2 j (by omega)))) (.d _)) (And.intro rfl rfl))))))

theorem sp_laws_szGate (x : Gat) (left : Int) (h0 : 0 ≤ left) (h0u : left ≤ 1048576) (hw : x.wide) : Sp Try.prog 141 [(.agg [(.int .i64 x.sig), (.int .i64 x.kind), (.slice false 1 (x.ups.map D.str)), (.slice false 1 (x.downs.map D.str))]), (.int .i64 left)] [.any, .any] (.int .i64 (szR x.bulk left)) := by
  refine Sp_intro (lend := true) Try.func141 rfl rfl rfl (fun _ => rfl) (fun c hc hX => ?_)
  have e2 := szS_cases x.ups left
  have e3 := szS_cases x.downs (szS x.ups left)
  have ef := szR_cases (bulkS x.ups + bulkS x.downs) left
  unfold Gat.wide at hw
  refine T_seq ?_
  refine T_region hc ?_
  refine Ch.step (v := (.ptr 2000 0)) rfl (.box 2000 _ _ rfl (.aggD _)) rfl rfl ?_
  refine Ch.step (v := (.d (.int .i64 0))) rfl (.pure (.assign _ rfl rfl)) rfl rfl ?_
  refine Ch.nil ?_
  refine T_seq ?_
  refine T_region hc ?_
  refine Ch.step (v := (.ptr 2000 2)) rfl (.pure (.fldPtr _ _ _ rfl fld136_2 rfl)) rfl rfl ?_
  refine Ch.step (v := (.d (.slice false 1 (x.ups.map D.str)))) rfl (.pure (.loadPtr1 _ _ rfl ag22 rfl rfl rfl)) rfl rfl ?_
  refine Ch.step (v := (.d (.int .i64 left))) rfl (.pure (.move _ rfl rfl)) rfl rfl ?_
  refine Ch.step (v := (.d (.int .i64 (szS x.ups left)))) rfl (.call 8000 17 _ _ _ en17 rfl (.inl rfl) (.cons (.d _) (.cons (.d _) .nil)) rfl rfl (sp_laws_szStringS x.ups left (by first | omega | assumption | (exact hx _ (getD_mem (by omega))) | (exact hx _ (by assumption)) | (exact Nat.le_trans (hx _ (by assumption)) (by omega)) | (simp only [List.length_append, List.length_take, List.length_drop, List.length_cons, List.length_nil]; omega) | (simp_all; done)) (by first | omega | assumption | (exact hx _ (getD_mem (by omega))) | (exact hx _ (by assumption)) | (exact Nat.le_trans (hx _ (by assumption)) (by omega)) | (simp only [List.length_append, List.length_take, List.length_drop, List.length_cons, List.length_nil]; omega) | (simp_all; done)) (by first | omega | assumption | (exact hx _ (getD_mem (by omega))) | (exact hx _ (by assumption)) | (exact Nat.le_trans (hx _ (by assumption)) (by omega)) | (simp only [List.length_append, List.length_take, List.length_drop, List.length_cons, List.length_nil]; omega) | (simp_all; done)) (by first | omega | assumption | (exact hx _ (getD_mem (by omega))) | (exact hx _ (by assumption)) | (exact Nat.le_trans (hx _ (by assumption)) (by omega)) | (simp only [List.length_append, List.length_take, List.length_drop, List.length_cons, List.length_nil]; omega) | (simp_all; done))) (.skip _ _ (.skip _ _ .nil)) rfl) rfl rfl ?_
  refine Ch.step (v := (.d (.int .i64 (szS x.ups left)))) rfl (.pure (.assign _ rfl rfl)) rfl rfl ?_
  refine Ch.nil ?_
  refine T_seq ?_
  refine T_seq ?_
  refine T_region hc ?_
  refine Ch.step (v := (.d (.int .i64 (szS x.ups left)))) rfl (.pure (.move _ rfl rfl)) rfl rfl ?_
  refine Ch.step (v := (.d (.bool (decide ((szS x.ups left) < 0))))) rfl (.pure (.int _ _ _ _ _ rfl rfl rfl rfl)) rfl rfl ?_
  refine Ch.nil ?_
  refine T_cond (b := (decide ((szS x.ups left) < 0))) rfl (fun h1 => ?_) (fun h1 => ?_)
  · replace h1 := of_decide_eq_true h1
    refine T_seq ?_
    refine T_region hc ?_
    refine Ch.step (v := (.d (.int .i64 (-1)))) rfl (.pure (.assign _ rfl rfl)) rfl rfl ?_
    refine Ch.nil ?_
    refine T_ret ?_
    refine And.intro (.inr rfl) ?_
    exact Exists.intro [(.d (.int .i64 (-1)))] (Exists.intro [] (Exists.intro [] (And.intro (.cons (.tmp 4 rfl) .nil) (And.intro (.cons (.any _) (.cons (.any _) .nil)) (And.intro (Exp.of (congrArg (D.int .i64) (by show _ = szR (bulkS x.ups + bulkS x.downs) left; omega)) (.d _)) (And.intro rfl rfl))))))
  · replace h1 := of_decide_eq_false h1
    refine T_skip ?_
    refine T_seq ?_
    refine T_region hc ?_
    refine Ch.step (v := (.ptr 2000 3)) rfl (.pure (.fldPtr _ _ _ rfl fld136_3 rfl)) rfl rfl ?_
    refine Ch.step (v := (.d (.slice false 1 (x.downs.map D.str)))) rfl (.pure (.loadPtr1 _ _ rfl ag22 rfl rfl rfl)) rfl rfl ?_
    refine Ch.step (v := (.d (.int .i64 (szS x.ups left)))) rfl (.pure (.move _ rfl rfl)) rfl rfl ?_
    refine Ch.step (v := (.d (.int .i64 (szS x.downs (szS x.ups left))))) rfl (.call 14000 17 _ _ _ en17 rfl (.inl rfl) (.cons (.d _) (.cons (.d _) .nil)) rfl rfl (sp_laws_szStringS x.downs (szS x.ups left) (by first | omega | assumption | (exact hx _ (getD_mem (by omega))) | (exact hx _ (by assumption)) | (exact Nat.le_trans (hx _ (by assumption)) (by omega)) | (simp only [List.length_append, List.length_take, List.length_drop, List.length_cons, List.length_nil]; omega) | (simp_all; done)) (by first | omega | assumption | (exact hx _ (getD_mem (by omega))) | (exact hx _ (by assumption)) | (exact Nat.le_trans (hx _ (by assumption)) (by omega)) | (simp only [List.length_append, List.length_take, List.length_drop, List.length_cons, List.length_nil]; omega) | (simp_all; done)) (by first | omega | assumption | (exact hx _ (getD_mem (by omega))) | (exact hx _ (by assumption)) | (exact Nat.le_trans (hx _ (by assumption)) (by omega)) | (simp only [List.length_append, List.length_take, List.length_drop, List.length_cons, List.length_nil]; omega) | (simp_all; done)) (by first | omega | assumption | (exact hx _ (getD_mem (by omega))) | (exact hx _ (by assumption)) | (exact Nat.le_trans (hx _ (by assumption)) (by omega)) | (simp only [List.length_append, List.length_take, List.length_drop, List.length_cons, List.length_nil]; omega) | (simp_all; done))) (.skip _ _ (.skip _ _ .nil)) rfl) rfl rfl ?_
    refine Ch.step (v := (.d (.int .i64 (szS x.downs (szS x.ups left))))) rfl (.pure (.assign _ rfl rfl)) rfl rfl ?_
    refine Ch.nil ?_
    refine T_seq ?_
    refine T_seq ?_
    refine T_region hc ?_
    refine Ch.step (v := (.d (.int .i64 (szS x.downs (szS x.ups left))))) rfl (.pure (.move _ rfl rfl)) rfl rfl ?_
    refine Ch.step (v := (.d (.bool (decide ((szS x.downs (szS x.ups left)) < 0))))) rfl (.pure (.int _ _ _ _ _ rfl rfl rfl rfl)) rfl rfl ?_
    refine Ch.nil ?_
    refine T_cond (b := (decide ((szS x.downs (szS x.ups left)) < 0))) rfl (fun h2 => ?_) (fun h2 => ?_)
    · replace h2 := of_decide_eq_true h2
      refine T_seq ?_
      refine T_region hc ?_
      refine Ch.step (v := (.d (.int .i64 (-1)))) rfl (.pure (.assign _ rfl rfl)) rfl rfl ?_
      refine Ch.nil ?_
      refine T_ret ?_
      refine And.intro (.inr rfl) ?_
      exact Exists.intro [(.d (.int .i64 (-1)))] (Exists.intro [] (Exists.intro [] (And.intro (.cons (.tmp 4 rfl) .nil) (And.intro (.cons (.any _) (.cons (.any _) .nil)) (And.intro (Exp.of (congrArg (D.int .i64) (by show _ = szR (bulkS x.ups + bulkS x.downs) left; omega)) (.d _)) (And.intro rfl rfl))))))
    · replace h2 := of_decide_eq_false h2
      refine T_skip ?_
      refine T_seq ?_
      refine T_region hc ?_
      refine Ch.step (v := (.d (.int .i64 (szS x.downs (szS x.ups left))))) rfl (.pure (.move _ rfl rfl)) rfl rfl ?_
      refine Ch.step (v := (.d (.int .i64 (szS x.downs (szS x.ups left))))) rfl (.pure (.assign _ rfl rfl)) rfl rfl ?_
      refine Ch.nil ?_
      refine T_ret ?_
      refine And.intro (.inr rfl) ?_
      exact Exists.intro [(.d (.int .i64 (szS x.downs (szS x.ups left))))] (Exists.intro [] (Exists.intro [] (And.intro (.cons (.tmp 4 rfl) .nil) (And.intro (.cons (.any _) (.cons (.any _) .nil)) (And.intro (Exp.of (congrArg (D.int .i64) (by show _ = szR (bulkS x.ups + bulkS x.downs) left; omega)) (.d _)) (And.intro rfl rfl))))))

theorem sp_laws_szGateS (xs : List (Gat)) (left : Int) (h0 : 0 ≤ left) (h0u : left ≤ 1048576) (hn : xs.length ≤ 9223372036854775807) (hx : ∀ y ∈ xs, Gat.wide y) : Sp Try.prog 90 [(.slice false 4 (xs.map Gat.d)), (.int .i64 left)] [.any, .any] (.int .i64 (szR (bulkF Gat.bulk xs) left)) := by
  refine Sp_intro (lend := true) Try.func90 rfl rfl rfl (fun _ => rfl) (fun c hc hX => ?_)
  refine T_seq ?_
  refine T_region hc ?_
  refine Ch.step (v := (.d (.int .i64 0))) rfl (.pure (.assign _ rfl rfl)) rfl rfl ?_
  refine Ch.nil ?_
  refine T_seq ?_
  refine T_region hc ?_
  refine Ch.step (v := (.d (.int .i64 left))) rfl (.pure (.move _ rfl rfl)) rfl rfl ?_
  refine Ch.step (v := (.d (.slice false 4 (xs.map Gat.d)))) rfl (.pure (.move _ rfl rfl)) rfl rfl ?_
  refine Ch.step (v := (.d (.int .i64 ((xs.length : Nat) : Int)))) rfl (.pure (.len _ _ 136 rfl Try.underlying53 (.sh _ _) (by simp))) rfl rfl ?_
  refine Ch.step (v := (.d (.int .i64 (left - ((xs.length : Nat) : Int))))) rfl (.pure (.int _ _ _ _ _ rfl rfl rfl (intV_sub (by first | omega | (simp only [List.length_map, List.length_append, List.length_take, List.length_drop, List.length_cons, List.length_nil]; omega) | (simp; omega) | (simp; done)) (by first | omega | (simp only [List.length_map, List.length_append, List.length_take, List.length_drop, List.length_cons, List.length_nil]; omega) | (simp; omega) | (simp; done))))) rfl rfl ?_
  refine Ch.step (v := (.d (.int .i64 (left - ((xs.length : Nat) : Int))))) rfl (.pure (.assign _ rfl rfl)) rfl rfl ?_
  refine Ch.nil ?_
  refine T_seq ?_
  refine T_seq ?_
  refine T_region hc ?_
  refine Ch.step (v := (.d (.int .i64 (left - ((xs.length : Nat) : Int))))) rfl (.pure (.move _ rfl rfl)) rfl rfl ?_
  refine Ch.step (v := (.d (.bool (decide ((left - ((xs.length : Nat) : Int)) < 0))))) rfl (.pure (.int _ _ _ _ _ rfl rfl rfl rfl)) rfl rfl ?_
  refine Ch.nil ?_
  refine T_cond (b := (decide ((left - ((xs.length : Nat) : Int)) < 0))) rfl (fun h1 => ?_) (fun h1 => ?_)
  · replace h1 := of_decide_eq_true h1
    refine T_seq ?_
    refine T_region hc ?_
    refine Ch.step (v := (.d (.int .i64 (-1)))) rfl (.pure (.assign _ rfl rfl)) rfl rfl ?_
    refine Ch.nil ?_
    refine T_ret ?_
    refine And.intro (.inr rfl) ?_
    exact Exists.intro [(.d (.int .i64 (-1)))] (Exists.intro [] (Exists.intro [] (And.intro (.cons (.tmp 4 rfl) .nil) (And.intro (.cons (.any _) (.cons (.any _) .nil)) (And.intro (Exp.of (congrArg (D.int .i64) (by first | (have hal := sumF_all Gat.bulk (xs := xs) (k := k) (by omega); rw [szR, bulkF]; split <;> omega) | (rw [szR, bulkF]; split <;> omega))) (.d _)) (And.intro rfl rfl))))))
  · replace h1 := of_decide_eq_false h1
    refine T_skip ?_
    refine T_seq ?_
    refine T_seq ?_
    refine T_region hc ?_
    refine Ch.step (v := (.d (.int .i64 0))) rfl (.pure (.assign _ rfl rfl)) rfl rfl ?_
    refine Ch.nil ?_
    refine T_block ?_
    refine T_loop (ι := Nat) (fun k => { n := 27, sl := [(0, (.d (.slice false 4 (xs.map Gat.d)))), (1, (.d (.int .i64 (left - xs.length - sumF Gat.bulk xs k)))), (5, (.d (.int .i64 ((k : Nat) : Int))))], hp := [], pin := [] }) (fun k => k ≤ xs.length ∧ 0 ≤ left - xs.length - sumF Gat.bulk xs k) (fun k => xs.length - k) ⟨0, ⟨by omega, by rw [sumF_zero]; omega⟩, (Wk.of rfl rfl (And.intro rfl (And.intro (vI (by first | (rw [sumF_zero]; omega) | (rw [sumF_succ _ (by omega)]; omega))) (And.intro (vI (by first | rfl | omega | (simp; done) | (simp; omega))) trivial))) trivial)⟩ (fun k hp0 => ?_)
    have hsl := sumF_le Gat.bulk xs k; have hsc := szR_cases (Gat.bulk (xs.getD k default)) (left - xs.length - sumF Gat.bulk xs k)
    refine T_seq ?_
    refine T_seq ?_
    refine T_region hc ?_
    refine Ch.step (v := (.d (.int .i64 ((k : Nat) : Int)))) rfl (.pure (.move _ rfl rfl)) rfl rfl ?_
    refine Ch.step (v := (.d (.slice false 4 (xs.map Gat.d)))) rfl (.pure (.move _ rfl rfl)) rfl rfl ?_
    refine Ch.step (v := (.d (.int .i64 ((xs.length : Nat) : Int)))) rfl (.pure (.len _ _ 136 rfl Try.underlying53 (.sh _ _) (by simp))) rfl rfl ?_
    refine Ch.step (v := (.d (.bool (decide (((k : Nat) : Int) < ((xs.length : Nat) : Int)))))) rfl (.pure (.int _ _ _ _ _ rfl rfl rfl rfl)) rfl rfl ?_
    refine Ch.nil ?_
    refine T_cond (b := (decide (((k : Nat) : Int) < ((xs.length : Nat) : Int)))) rfl (fun h2 => ?_) (fun h2 => ?_)
    · replace h2 := of_decide_eq_true h2
      try have hk := hx _ (getD_mem (l := xs) (j := k) (d := default) (by omega))
      try have hs1 := sumF_succ Gat.bulk (xs := xs) (k := k) (by omega)
      try have hs2 := sumF_le Gat.bulk xs (k + 1)
      refine T_skip ?_
      refine T_seq ?_
      refine T_block ?_
      refine T_seq ?_
      refine T_region hc ?_
      refine Ch.step (v := (.d (.slice false 4 (xs.map Gat.d)))) rfl (.pure (.move _ rfl rfl)) rfl rfl ?_
      refine Ch.step (v := (.d (.int .i64 ((k : Nat) : Int)))) rfl (.pure (.move _ rfl rfl)) rfl rfl ?_
      refine Ch.step (v := (.d (.ref (.agg [(.int .i64 ((xs.getD k default).sig)), (.int .i64 ((xs.getD k default).kind)), (.slice false 1 (((xs.getD k default).ups).map D.str)), (.slice false 1 (((xs.getD k default).downs).map D.str))])))) rfl (.pure (.idx _ _ _ 136 (k) rfl Try.underlying53 sz136 rfl rfl rfl (get_map _ (by first | omega | (simp only [List.length_map, List.length_append, List.length_take, List.length_drop, List.length_cons, List.length_nil]; omega) | (simp; omega) | (simp; done))))) rfl rfl ?_
      refine Ch.step (v := (.d (.agg [(.int .i64 ((xs.getD k default).sig)), (.int .i64 ((xs.getD k default).kind)), (.slice false 1 (((xs.getD k default).ups).map D.str)), (.slice false 1 (((xs.getD k default).downs).map D.str))]))) rfl (.pure (.loadRefA _ _ rfl ag136 sz136 rfl)) rfl rfl ?_
      refine Ch.step (v := (.d (.int .i64 (left - xs.length - sumF Gat.bulk xs k)))) rfl (.pure (.move _ rfl rfl)) rfl rfl ?_
      refine Ch.step (v := (.d (.int .i64 (szR (xs.getD k default).bulk (left - xs.length - sumF Gat.bulk xs k))))) rfl (.call 23000 141 _ _ _ en141 rfl (.inl rfl) (.cons (.d _) (.cons (.d _) .nil)) rfl rfl (sp_laws_szGate (xs.getD k default) (left - xs.length - sumF Gat.bulk xs k) (by first | omega | assumption | (exact hx _ (getD_mem (by omega))) | (exact hx _ (by assumption)) | (exact Nat.le_trans (hx _ (by assumption)) (by omega)) | (simp only [List.length_append, List.length_take, List.length_drop, List.length_cons, List.length_nil]; omega) | (simp_all; done)) (by first | omega | assumption | (exact hx _ (getD_mem (by omega))) | (exact hx _ (by assumption)) | (exact Nat.le_trans (hx _ (by assumption)) (by omega)) | (simp only [List.length_append, List.length_take, List.length_drop, List.length_cons, List.length_nil]; omega) | (simp_all; done)) (by first | assumption | omega | trivial | (simp_all; done) | (exact fun _ _ => trivial) | (exact hx _ (by assumption)) | (refine ⟨?_, ?_⟩ <;> first | assumption | omega))) (.skip _ _ (.skip _ _ .nil)) rfl) rfl rfl ?_
      refine Ch.step (v := (.d (.int .i64 (szR (xs.getD k default).bulk (left - xs.length - sumF Gat.bulk xs k))))) rfl (.pure (.assign _ rfl rfl)) rfl rfl ?_
      refine Ch.nil ?_
      refine T_seq ?_
      refine T_region hc ?_
      refine Ch.step (v := (.d (.int .i64 (szR (xs.getD k default).bulk (left - xs.length - sumF Gat.bulk xs k))))) rfl (.pure (.move _ rfl rfl)) rfl rfl ?_
      refine Ch.step (v := (.d (.bool (decide ((szR (xs.getD k default).bulk (left - xs.length - sumF Gat.bulk xs k)) < 0))))) rfl (.pure (.int _ _ _ _ _ rfl rfl rfl rfl)) rfl rfl ?_
      refine Ch.nil ?_
      refine T_cond (b := (decide ((szR (xs.getD k default).bulk (left - xs.length - sumF Gat.bulk xs k)) < 0))) rfl (fun h3 => ?_) (fun h3 => ?_)
      · replace h3 := of_decide_eq_true h3
        refine T_seq ?_
        refine T_region hc ?_
        refine Ch.step (v := (.d (.int .i64 (-1)))) rfl (.pure (.assign _ rfl rfl)) rfl rfl ?_
        refine Ch.nil ?_
        refine T_ret ?_
        refine And.intro (.inr rfl) ?_
        exact Exists.intro [(.d (.int .i64 (-1)))] (Exists.intro [] (Exists.intro [] (And.intro (.cons (.tmp 4 rfl) .nil) (And.intro (.cons (.any _) (.cons (.any _) .nil)) (And.intro (Exp.of (congrArg (D.int .i64) (by first | (have hal := sumF_all Gat.bulk (xs := xs) (k := k) (by omega); rw [szR, bulkF]; split <;> omega) | (rw [szR, bulkF]; split <;> omega))) (.d _)) (And.intro rfl rfl))))))
      · replace h3 := of_decide_eq_false h3
        refine T_skip ?_
        refine T_region hc ?_
        refine Ch.step (v := (.d (.int .i64 ((k : Nat) : Int)))) rfl (.pure (.move _ rfl rfl)) rfl rfl ?_
        refine Ch.step (v := (.d (.int .i64 (((k : Nat) : Int) + 1)))) rfl (.pure (.int _ _ _ _ _ rfl rfl rfl (intV_add (by first | omega | (simp only [List.length_map, List.length_append, List.length_take, List.length_drop, List.length_cons, List.length_nil]; omega) | (simp; omega) | (simp; done)) (by first | omega | (simp only [List.length_map, List.length_append, List.length_take, List.length_drop, List.length_cons, List.length_nil]; omega) | (simp; omega) | (simp; done))))) rfl rfl ?_
        refine Ch.step (v := (.d (.int .i64 (((k : Nat) : Int) + 1)))) rfl (.pure (.assign _ rfl rfl)) rfl rfl ?_
        refine Ch.nil ?_
        refine Exists.intro (k + 1) (And.intro ⟨by omega, by rw [sumF_succ _ (by omega)]; omega⟩ (And.intro (by first | omega | (dsimp only; omega)) (Wk.of rfl rfl (And.intro rfl (And.intro (vI (by first | (rw [sumF_zero]; omega) | (rw [sumF_succ _ (by omega)]; omega))) (And.intro (vI (by first | rfl | omega | (simp; done) | (simp; omega))) trivial))) trivial)))
    · replace h2 := of_decide_eq_false h2
      try have hk := hx _ (getD_mem (l := xs) (j := k) (d := default) (by omega))
      try have hs1 := sumF_succ Gat.bulk (xs := xs) (k := k) (by omega)
      try have hs2 := sumF_le Gat.bulk xs (k + 1)
      refine T_exit ?_
      refine T_seq ?_
      refine T_region hc ?_
      refine Ch.step (v := (.d (.int .i64 (left - xs.length - sumF Gat.bulk xs k)))) rfl (.pure (.move _ rfl rfl)) rfl rfl ?_
      refine Ch.step (v := (.d (.int .i64 (left - xs.length - sumF Gat.bulk xs k)))) rfl (.pure (.assign _ rfl rfl)) rfl rfl ?_
      refine Ch.nil ?_
      refine T_ret ?_
      refine And.intro (.inr rfl) ?_
      exact Exists.intro [(.d (.int .i64 (left - xs.length - sumF Gat.bulk xs k)))] (Exists.intro [] (Exists.intro [] (And.intro (.cons (.tmp 4 rfl) .nil) (And.intro (.cons (.any _) (.cons (.any _) .nil)) (And.intro (Exp.of (congrArg (D.int .i64) (by first | (have hal := sumF_all Gat.bulk (xs := xs) (k := k) (by omega); rw [szR, bulkF]; split <;> omega) | (rw [szR, bulkF]; split <;> omega))) (.d _)) (And.intro rfl rfl))))))

theorem sp_laws_toGate (x : Gat) (hb : x.bulk ≤ 1048576) : Sp Try.prog 143 [(.agg [(.int .i64 x.sig), (.int .i64 x.kind), (.slice false 1 (x.ups.map D.str)), (.slice false 1 (x.downs.map D.str))])] [.any] (.agg [(.int .i64 x.sig), (.int .i64 x.kind), (.slice true 1 (x.ups.map D.str)), (.slice true 1 (x.downs.map D.str))]) := by
  refine Sp_intro (lend := true) Try.func143 rfl rfl rfl (fun _ => rfl) (fun c hc hX => ?_)
  obtain ⟨hp0, hp1⟩ := Gat.parts hb
  have hn0 := bulk_len hp0
  have hx0 := bulk_mem hp0
  have hn1 := bulk_len hp1
  have hx1 := bulk_mem hp1
  refine T_seq ?_
  refine T_region hc ?_
  refine Ch.step (v := (.ptr 1000 0)) rfl (.box 1000 _ _ rfl (.aggD _)) rfl rfl ?_
  refine Ch.step (v := (.ptr 2000 0)) rfl (.alloc 2000 _ rfl zer108) rfl rfl ?_
  refine Ch.nil ?_
  refine T_seq ?_
  refine T_region hc ?_
  refine Ch.step (v := (.ptr 3000 0)) rfl (.alloc 3000 _ rfl zer108) rfl rfl ?_
  refine Ch.nil ?_
  refine T_seq ?_
  refine T_region hc ?_
  refine Ch.step (v := (.ptr 1000 0)) rfl (.pure (.fldPtr _ _ _ rfl fld136_0 rfl)) rfl rfl ?_
  refine Ch.step (v := (.d (.int .i64 x.sig))) rfl (.pure (.loadPtr1 _ _ rfl ag3 rfl rfl rfl)) rfl rfl ?_
  refine Ch.step (v := (.ptr 3000 0)) rfl (.pure (.fldPtr _ _ _ rfl fld108_0 rfl)) rfl rfl ?_
  refine Ch.step (v := .junk) rfl (.storePtr _ _ _ rfl rfl rfl (.one _ rfl) sz3 (Nat.le_of_ble_eq_true rfl)) rfl rfl ?_
  refine Ch.nil ?_
  refine T_seq ?_
  refine T_region hc ?_
  refine Ch.step (v := (.ptr 1000 1)) rfl (.pure (.fldPtr _ _ _ rfl fld136_1 rfl)) rfl rfl ?_
  refine Ch.step (v := (.d (.int .i64 x.kind))) rfl (.pure (.loadPtr1 _ _ rfl ag3 rfl rfl rfl)) rfl rfl ?_
  refine Ch.step (v := (.ptr 3000 1)) rfl (.pure (.fldPtr _ _ _ rfl fld108_1 rfl)) rfl rfl ?_
  refine Ch.step (v := .junk) rfl (.storePtr _ _ _ rfl rfl rfl (.one _ rfl) sz3 (Nat.le_of_ble_eq_true rfl)) rfl rfl ?_
  refine Ch.nil ?_
  refine T_seq ?_
  refine T_region hc ?_
  refine Ch.step (v := (.ptr 1000 2)) rfl (.pure (.fldPtr _ _ _ rfl fld136_2 rfl)) rfl rfl ?_
  refine Ch.step (v := (.d (.slice false 1 (x.ups.map D.str)))) rfl (.pure (.loadPtr1 _ _ rfl ag22 rfl rfl rfl)) rfl rfl ?_
  refine Ch.step (v := (.row 12000)) rfl (.call 12000 19 _ _ _ en19 rfl (.inl rfl) (.cons (.d _) .nil) rfl (sol (solid_row (fun _ => rfl) _) rfl) (sp_laws_toStringS x.ups (by first | omega | assumption | (exact hx _ (getD_mem (by omega))) | (exact hx _ (by assumption)) | (exact Nat.le_trans (hx _ (by assumption)) (by omega)) | (simp only [List.length_append, List.length_take, List.length_drop, List.length_cons, List.length_nil]; omega) | (simp_all; done))) (.skip _ _ .nil) rfl) rfl rfl ?_
  refine Ch.step (v := (.ptr 3000 2)) rfl (.pure (.fldPtr _ _ _ rfl fld108_2 rfl)) rfl rfl ?_
  refine Ch.step (v := .junk) rfl (.storePtr _ _ _ rfl rfl rfl (.one _ rfl) sz22 (Nat.le_of_ble_eq_true rfl)) rfl rfl ?_
  refine Ch.nil ?_
  refine T_seq ?_
  refine T_region hc ?_
  refine Ch.step (v := (.ptr 1000 3)) rfl (.pure (.fldPtr _ _ _ rfl fld136_3 rfl)) rfl rfl ?_
  refine Ch.step (v := (.d (.slice false 1 (x.downs.map D.str)))) rfl (.pure (.loadPtr1 _ _ rfl ag22 rfl rfl rfl)) rfl rfl ?_
  refine Ch.step (v := (.row 16000)) rfl (.call 16000 19 _ _ _ en19 rfl (.inl rfl) (.cons (.d _) .nil) rfl (sol (solid_row (fun _ => rfl) _) rfl) (sp_laws_toStringS x.downs (by first | omega | assumption | (exact hx _ (getD_mem (by omega))) | (exact hx _ (by assumption)) | (exact Nat.le_trans (hx _ (by assumption)) (by omega)) | (simp only [List.length_append, List.length_take, List.length_drop, List.length_cons, List.length_nil]; omega) | (simp_all; done))) (.skip _ _ .nil) rfl) rfl rfl ?_
  refine Ch.step (v := (.ptr 3000 3)) rfl (.pure (.fldPtr _ _ _ rfl fld108_3 rfl)) rfl rfl ?_
  refine Ch.step (v := .junk) rfl (.storePtr _ _ _ rfl rfl rfl (.one _ rfl) sz22 (Nat.le_of_ble_eq_true rfl)) rfl rfl ?_
  refine Ch.nil ?_
  refine T_seq ?_
  refine T_region hc ?_
  refine Ch.step (v := (.agg [(.d (.int .i64 x.sig)), (.d (.int .i64 x.kind)), (.row 12000), (.row 16000)])) rfl (.pure (.loadPtrA _ _ rfl ag108 sz108 rfl rfl (Nat.le_of_ble_eq_true rfl) rfl)) rfl rfl ?_
  refine Ch.step (v := .junk) rfl (.storePtr _ _ _ rfl rfl rfl (.agg _ rfl) sz108 (Nat.le_of_ble_eq_true rfl)) rfl rfl ?_
  refine Ch.nil ?_
  refine T_ret ?_
  refine And.intro (.inr rfl) ?_
  exact Exists.intro [(.agg [(.d (.int .i64 x.sig)), (.d (.int .i64 x.kind)), (.row 12000), (.row 16000)])] (Exists.intro [] (Exists.intro [12000, 16000] (And.intro (.cons (.cellA _ _ rfl rfl ag108 sz108) .nil) (And.intro (.cons (.any _) .nil) (And.intro (.agg (.cons (.d _) (.cons (.d _) (.cons (.row rfl) (.cons (.row rfl) .nil)))) rfl) (And.intro rfl rfl))))))

theorem sp_laws_toGateS (xs : List (Gat)) (hb : bulkF Gat.bulk xs ≤ 1048576) : Sp Try.prog 92 [(.slice false 4 (xs.map Gat.d))] [.any] (.slice true 4 (xs.map Gat.u)) := by
  refine Sp_intro (lend := true) Try.func92 rfl rfl rfl (fun _ => rfl) (fun c hc hX => ?_)
  have hn := bulkF_len hb
  refine T_seq ?_
  refine T_region hc ?_
  refine Ch.step (v := (.c (.slice none 0 0))) rfl (.pure (.assign _ rfl rfl)) rfl rfl ?_
  refine Ch.nil ?_
  refine T_seq ?_
  refine T_region hc ?_
  refine Ch.step (v := (.d (.slice false 4 (xs.map Gat.d)))) rfl (.pure (.move _ rfl rfl)) rfl rfl ?_
  refine Ch.step (v := (.d (.int .i64 ((xs.length : Nat) : Int)))) rfl (.pure (.len _ _ 136 rfl Try.underlying53 (.sh _ _) (by simp))) rfl rfl ?_
  refine Ch.step (v := (.row 7000)) rfl (.make 7000 _ 108 _ _ (xs.length) (xs.length) rfl sty58 rfl rfl rfl rfl (by first | omega | (simp only [List.length_map, List.length_append, List.length_take, List.length_drop, List.length_cons, List.length_nil]; omega) | (simp; omega) | (simp; done)) (by first | omega | (simp only [List.length_map, List.length_append, List.length_take, List.length_drop, List.length_cons, List.length_nil]; omega) | (simp; omega) | (simp; done)) (by first | omega | (simp only [List.length_map, List.length_append, List.length_take, List.length_drop, List.length_cons, List.length_nil]; omega) | (simp; omega) | (simp; done)) (zeroD_mk (zd := (.agg [(.int .i64 0), (.int .i64 0), (.slice false 1 []), (.slice false 1 [])])) zr108 (by intro S w; exact dr_agg rfl (drs_cons dr_int (drs_cons dr_int (drs_cons (nil_reads false 1) (drs_cons (nil_reads false 1) drs_nil))))) rfl)) rfl rfl ?_
  refine Ch.step (v := (.row 7000)) rfl (.pure (.assign _ rfl rfl)) rfl rfl ?_
  refine Ch.nil ?_
  refine T_seq ?_
  refine T_seq ?_
  refine T_region hc ?_
  refine Ch.step (v := (.d (.int .i64 0))) rfl (.pure (.assign _ rfl rfl)) rfl rfl ?_
  refine Ch.nil ?_
  refine T_block ?_
  refine T_loop (ι := Nat) (fun k => { n := 23, sl := [(0, (.d (.slice false 4 (xs.map Gat.d)))), (3, (.row 3)), (4, (.d (.int .i64 ((k : Nat) : Int))))], hp := [(3, (some (.row 4 (fill (xs.map Gat.u) (Gat.d default) k))))], pin := [] }) (fun k => k ≤ xs.length) (fun k => xs.length - k) ⟨0, (by omega), (Wk.ren [(3, 7000)] rfl rfl rfl rfl (And.intro rfl (And.intro rfl (And.intro (vI (by first | rfl | omega | (simp; done) | (simp; omega))) trivial))) (And.intro (oR (by first | (rw [fill_zero, List.length_map]; rfl) | (exact fill_setD (by omega)))) trivial))⟩ (fun k hp0 => ?_)
  refine T_seq ?_
  refine T_seq ?_
  refine T_region hc ?_
  refine Ch.step (v := (.d (.int .i64 ((k : Nat) : Int)))) rfl (.pure (.move _ rfl rfl)) rfl rfl ?_
  refine Ch.step (v := (.d (.slice false 4 (xs.map Gat.d)))) rfl (.pure (.move _ rfl rfl)) rfl rfl ?_
  refine Ch.step (v := (.d (.int .i64 ((xs.length : Nat) : Int)))) rfl (.pure (.len _ _ 136 rfl Try.underlying53 (.sh _ _) (by simp))) rfl rfl ?_
  refine Ch.step (v := (.d (.bool (decide (((k : Nat) : Int) < ((xs.length : Nat) : Int)))))) rfl (.pure (.int _ _ _ _ _ rfl rfl rfl rfl)) rfl rfl ?_
  refine Ch.nil ?_
  refine T_cond (b := (decide (((k : Nat) : Int) < ((xs.length : Nat) : Int)))) rfl (fun h1 => ?_) (fun h1 => ?_)
  · replace h1 := of_decide_eq_true h1
    try have hk := bulkF_mem hb _ (getD_mem (l := xs) (j := k) (d := default) (by omega))
    refine T_skip ?_
    refine T_seq ?_
    refine T_block ?_
    refine T_region hc ?_
    refine Ch.step (v := (.row 3)) rfl (.pure (.move _ rfl rfl)) rfl rfl ?_
    refine Ch.step (v := (.d (.int .i64 ((k : Nat) : Int)))) rfl (.pure (.move _ rfl rfl)) rfl rfl ?_
    refine Ch.step (v := (.d (.slice false 4 (xs.map Gat.d)))) rfl (.pure (.move _ rfl rfl)) rfl rfl ?_
    refine Ch.step (v := (.d (.int .i64 ((k : Nat) : Int)))) rfl (.pure (.move _ rfl rfl)) rfl rfl ?_
    refine Ch.step (v := (.d (.ref (.agg [(.int .i64 ((xs.getD k default).sig)), (.int .i64 ((xs.getD k default).kind)), (.slice false 1 (((xs.getD k default).ups).map D.str)), (.slice false 1 (((xs.getD k default).downs).map D.str))])))) rfl (.pure (.idx _ _ _ 136 (k) rfl Try.underlying53 sz136 rfl rfl rfl (get_map _ (by first | omega | (simp only [List.length_map, List.length_append, List.length_take, List.length_drop, List.length_cons, List.length_nil]; omega) | (simp; omega) | (simp; done))))) rfl rfl ?_
    refine Ch.step (v := (.d (.agg [(.int .i64 ((xs.getD k default).sig)), (.int .i64 ((xs.getD k default).kind)), (.slice false 1 (((xs.getD k default).ups).map D.str)), (.slice false 1 (((xs.getD k default).downs).map D.str))]))) rfl (.pure (.loadRefA _ _ rfl ag136 sz136 rfl)) rfl rfl ?_
    refine Ch.step (v := (.agg [(.d (.int .i64 ((xs.getD k default).sig))), (.d (.int .i64 ((xs.getD k default).kind))), (.row 20000), (.row 20001)])) rfl (.call 20000 143 _ _ _ en143 rfl (.inl rfl) (.cons (.d _) .nil) rfl (sol (Gat.sol _) rfl) (sp_laws_toGate (xs.getD k default) (by first | assumption | omega | (rw [List.length_take]; omega) | (have := bulkF_mem hb _ (getD_mem (d := default) (by omega)); assumption) | (unfold bulkS at *; omega) | (simp_all; done))) (.skip _ _ .nil) rfl) rfl rfl ?_
    refine Ch.step (v := (.el 3 4 k 0)) rfl (.pure (.idxRow _ _ _ 108 (k) rfl Try.underlying58 sz108 rfl rfl rfl rfl (by first | omega | (simp; omega)))) rfl rfl ?_
    refine Ch.step (v := .junk) rfl (.storeElK (y' := (.agg [(.int .i64 ((xs.getD k default).sig)), (.int .i64 ((xs.getD k default).kind)), (.slice true 1 (((xs.getD k default).ups).map D.str)), (.slice true 1 (((xs.getD k default).downs).map D.str))])) _ _ _ rfl rfl rfl (.agg (.cons (.d _) (.cons (.d _) (.cons (.row rfl) (.cons (.row rfl) .nil)))) rfl) rfl rfl rfl sz108 rfl (get_fill (l := xs.map Gat.u) (by simp; omega)) rfl rfl) rfl rfl ?_
    refine Ch.nil ?_
    refine T_region hc ?_
    refine Ch.step (v := (.d (.int .i64 ((k : Nat) : Int)))) rfl (.pure (.move _ rfl rfl)) rfl rfl ?_
    refine Ch.step (v := (.d (.int .i64 (((k : Nat) : Int) + 1)))) rfl (.pure (.int _ _ _ _ _ rfl rfl rfl (intV_add (by first | omega | (simp only [List.length_map, List.length_append, List.length_take, List.length_drop, List.length_cons, List.length_nil]; omega) | (simp; omega) | (simp; done)) (by first | omega | (simp only [List.length_map, List.length_append, List.length_take, List.length_drop, List.length_cons, List.length_nil]; omega) | (simp; omega) | (simp; done))))) rfl rfl ?_
    refine Ch.step (v := (.d (.int .i64 (((k : Nat) : Int) + 1)))) rfl (.pure (.assign _ rfl rfl)) rfl rfl ?_
    refine Ch.nil ?_
    refine Exists.intro (k + 1) (And.intro (by omega) (And.intro (by first | omega | (dsimp only; omega)) (Wk.of rfl rfl (And.intro rfl (And.intro rfl (And.intro (vI (by first | rfl | omega | (simp; done) | (simp; omega))) trivial))) (And.intro (oR (by first | (rw [fill_zero, List.length_map]; rfl) | (exact fill_setD (by omega)))) trivial))))
  · replace h1 := of_decide_eq_false h1
    try have hk := bulkF_mem hb _ (getD_mem (l := xs) (j := k) (d := default) (by omega))
    refine T_exit ?_
    refine T_seq ?_
    refine T_region hc ?_
    refine Ch.step (v := (.row 3)) rfl (.pure (.move _ rfl rfl)) rfl rfl ?_
    refine Ch.step (v := (.row 3)) rfl (.pure (.assign _ rfl rfl)) rfl rfl ?_
    refine Ch.nil ?_
    refine T_ret ?_
    refine And.intro (.inr rfl) ?_
    exact Exists.intro [(.row 3)] (Exists.intro [] (Exists.intro [3] (And.intro (.cons (.tmp 2 rfl) .nil) (And.intro (.cons (.any _) .nil) (And.intro (Exp.of (congrArg (D.slice true 4) (by rw [fill_all _ _ (by simp; omega)])) (.row rfl)) (And.intro rfl rfl))))))

theorem sp_laws_eqGate (x y : Gat) (hb : x.bulk ≤ 1048576) : Sp Try.prog 145 [(.agg [(.int .i64 x.sig), (.int .i64 x.kind), (.slice false 1 (x.ups.map D.str)), (.slice false 1 (x.downs.map D.str))]), (.agg [(.int .i64 y.sig), (.int .i64 y.kind), (.slice false 1 (y.ups.map D.str)), (.slice false 1 (y.downs.map D.str))])] [.any, .any] (.bool (decide (x = y))) := by
  refine Sp_intro (lend := true) Try.func145 rfl rfl rfl (fun _ => rfl) (fun c hc hX => ?_)
  obtain ⟨hp0, hp1⟩ := Gat.parts hb
  have hn0 := bulk_len hp0
  have hx0 := bulk_mem hp0
  have hn1 := bulk_len hp1
  have hx1 := bulk_mem hp1
  refine T_seq ?_
  refine T_region hc ?_
  refine Ch.step (v := (.ptr 2000 0)) rfl (.box 2000 _ _ rfl (.aggD _)) rfl rfl ?_
  refine Ch.step (v := (.ptr 3000 0)) rfl (.box 3000 _ _ rfl (.aggD _)) rfl rfl ?_
  refine Ch.step (v := (.d (.bool false))) rfl (.pure (.assign _ rfl rfl)) rfl rfl ?_
  refine Ch.nil ?_
  refine T_seq ?_
  refine T_seq ?_
  refine T_region hc ?_
  refine Ch.step (v := (.ptr 2000 0)) rfl (.pure (.fldPtr _ _ _ rfl fld108_0 rfl)) rfl rfl ?_
  refine Ch.step (v := (.d (.int .i64 x.sig))) rfl (.pure (.loadPtr1 _ _ rfl ag3 rfl rfl rfl)) rfl rfl ?_
  refine Ch.step (v := (.ptr 3000 0)) rfl (.pure (.fldPtr _ _ _ rfl fld108_0 rfl)) rfl rfl ?_
  refine Ch.step (v := (.d (.int .i64 y.sig))) rfl (.pure (.loadPtr1 _ _ rfl ag3 rfl rfl rfl)) rfl rfl ?_
  refine Ch.step (v := (.d (.bool (!(decide (x.sig = y.sig)))))) rfl (.pure (.int _ _ _ _ _ rfl rfl rfl rfl)) rfl rfl ?_
  refine Ch.nil ?_
  refine T_cond (b := (!(decide (x.sig = y.sig)))) rfl (fun h1 => ?_) (fun h1 => ?_)
  · replace h1 := nott h1
    replace h1 := of_decide_eq_false h1
    refine T_seq ?_
    refine T_region hc ?_
    refine Ch.step (v := (.d (.bool false))) rfl (.pure (.assign _ rfl rfl)) rfl rfl ?_
    refine Ch.nil ?_
    refine T_ret ?_
    refine And.intro (.inr rfl) ?_
    exact Exists.intro [(.d (.bool false))] (Exists.intro [] (Exists.intro [] (And.intro (.cons (.tmp 4 rfl) .nil) (And.intro (.cons (.any _) (.cons (.any _) .nil)) (And.intro (Exp.of (congrArg D.bool (by cases x; cases y; simp_all)) (.d _)) (And.intro rfl rfl))))))
  · replace h1 := notf h1
    replace h1 := of_decide_eq_true h1
    refine T_skip ?_
    refine T_seq ?_
    refine T_seq ?_
    refine T_region hc ?_
    refine Ch.step (v := (.ptr 2000 1)) rfl (.pure (.fldPtr _ _ _ rfl fld108_1 rfl)) rfl rfl ?_
    refine Ch.step (v := (.d (.int .i64 x.kind))) rfl (.pure (.loadPtr1 _ _ rfl ag3 rfl rfl rfl)) rfl rfl ?_
    refine Ch.step (v := (.ptr 3000 1)) rfl (.pure (.fldPtr _ _ _ rfl fld108_1 rfl)) rfl rfl ?_
    refine Ch.step (v := (.d (.int .i64 y.kind))) rfl (.pure (.loadPtr1 _ _ rfl ag3 rfl rfl rfl)) rfl rfl ?_
    refine Ch.step (v := (.d (.bool (!(decide (x.kind = y.kind)))))) rfl (.pure (.int _ _ _ _ _ rfl rfl rfl rfl)) rfl rfl ?_
    refine Ch.nil ?_
    refine T_cond (b := (!(decide (x.kind = y.kind)))) rfl (fun h2 => ?_) (fun h2 => ?_)
    · replace h2 := nott h2
      replace h2 := of_decide_eq_false h2
      refine T_seq ?_
      refine T_region hc ?_
      refine Ch.step (v := (.d (.bool false))) rfl (.pure (.assign _ rfl rfl)) rfl rfl ?_
      refine Ch.nil ?_
      refine T_ret ?_
      refine And.intro (.inr rfl) ?_
      exact Exists.intro [(.d (.bool false))] (Exists.intro [] (Exists.intro [] (And.intro (.cons (.tmp 4 rfl) .nil) (And.intro (.cons (.any _) (.cons (.any _) .nil)) (And.intro (Exp.of (congrArg D.bool (by cases x; cases y; simp_all)) (.d _)) (And.intro rfl rfl))))))
    · replace h2 := notf h2
      replace h2 := of_decide_eq_true h2
      refine T_skip ?_
      refine T_seq ?_
      refine T_seq ?_
      refine T_region hc ?_
      refine Ch.step (v := (.ptr 2000 2)) rfl (.pure (.fldPtr _ _ _ rfl fld108_2 rfl)) rfl rfl ?_
      refine Ch.step (v := (.d (.slice false 1 (x.ups.map D.str)))) rfl (.pure (.loadPtr1 _ _ rfl ag22 rfl rfl rfl)) rfl rfl ?_
      refine Ch.step (v := (.ptr 3000 2)) rfl (.pure (.fldPtr _ _ _ rfl fld108_2 rfl)) rfl rfl ?_
      refine Ch.step (v := (.d (.slice false 1 (y.ups.map D.str)))) rfl (.pure (.loadPtr1 _ _ rfl ag22 rfl rfl rfl)) rfl rfl ?_
      refine Ch.step (v := (.d (.bool (decide (x.ups = y.ups))))) rfl (.call 19000 21 _ _ _ en21 rfl (.inl rfl) (.cons (.d _) (.cons (.d _) .nil)) rfl rfl (sp_laws_eqStringS x.ups y.ups (by first | omega | assumption | (exact hx _ (getD_mem (by omega))) | (exact hx _ (by assumption)) | (exact Nat.le_trans (hx _ (by assumption)) (by omega)) | (simp only [List.length_append, List.length_take, List.length_drop, List.length_cons, List.length_nil]; omega) | (simp_all; done))) (.skip _ _ (.skip _ _ .nil)) rfl) rfl rfl ?_
      refine Ch.step (v := (.d (.bool (!(decide (x.ups = y.ups)))))) rfl (.pure (.not _ _ rfl rfl)) rfl rfl ?_
      refine Ch.nil ?_
      refine T_cond (b := (!(decide (x.ups = y.ups)))) rfl (fun h3 => ?_) (fun h3 => ?_)
      · replace h3 := nott h3
        replace h3 := of_decide_eq_false h3
        refine T_seq ?_
        refine T_region hc ?_
        refine Ch.step (v := (.d (.bool false))) rfl (.pure (.assign _ rfl rfl)) rfl rfl ?_
        refine Ch.nil ?_
        refine T_ret ?_
        refine And.intro (.inr rfl) ?_
        exact Exists.intro [(.d (.bool false))] (Exists.intro [] (Exists.intro [] (And.intro (.cons (.tmp 4 rfl) .nil) (And.intro (.cons (.any _) (.cons (.any _) .nil)) (And.intro (Exp.of (congrArg D.bool (by cases x; cases y; simp_all)) (.d _)) (And.intro rfl rfl))))))
      · replace h3 := notf h3
        replace h3 := of_decide_eq_true h3
        refine T_skip ?_
        refine T_seq ?_
        refine T_seq ?_
        refine T_region hc ?_
        refine Ch.step (v := (.ptr 2000 3)) rfl (.pure (.fldPtr _ _ _ rfl fld108_3 rfl)) rfl rfl ?_
        refine Ch.step (v := (.d (.slice false 1 (x.downs.map D.str)))) rfl (.pure (.loadPtr1 _ _ rfl ag22 rfl rfl rfl)) rfl rfl ?_
        refine Ch.step (v := (.ptr 3000 3)) rfl (.pure (.fldPtr _ _ _ rfl fld108_3 rfl)) rfl rfl ?_
        refine Ch.step (v := (.d (.slice false 1 (y.downs.map D.str)))) rfl (.pure (.loadPtr1 _ _ rfl ag22 rfl rfl rfl)) rfl rfl ?_
        refine Ch.step (v := (.d (.bool (decide (x.downs = y.downs))))) rfl (.call 25000 21 _ _ _ en21 rfl (.inl rfl) (.cons (.d _) (.cons (.d _) .nil)) rfl rfl (sp_laws_eqStringS x.downs y.downs (by first | omega | assumption | (exact hx _ (getD_mem (by omega))) | (exact hx _ (by assumption)) | (exact Nat.le_trans (hx _ (by assumption)) (by omega)) | (simp only [List.length_append, List.length_take, List.length_drop, List.length_cons, List.length_nil]; omega) | (simp_all; done))) (.skip _ _ (.skip _ _ .nil)) rfl) rfl rfl ?_
        refine Ch.step (v := (.d (.bool (!(decide (x.downs = y.downs)))))) rfl (.pure (.not _ _ rfl rfl)) rfl rfl ?_
        refine Ch.nil ?_
        refine T_cond (b := (!(decide (x.downs = y.downs)))) rfl (fun h4 => ?_) (fun h4 => ?_)
        · replace h4 := nott h4
          replace h4 := of_decide_eq_false h4
          refine T_seq ?_
          refine T_region hc ?_
          refine Ch.step (v := (.d (.bool false))) rfl (.pure (.assign _ rfl rfl)) rfl rfl ?_
          refine Ch.nil ?_
          refine T_ret ?_
          refine And.intro (.inr rfl) ?_
          exact Exists.intro [(.d (.bool false))] (Exists.intro [] (Exists.intro [] (And.intro (.cons (.tmp 4 rfl) .nil) (And.intro (.cons (.any _) (.cons (.any _) .nil)) (And.intro (Exp.of (congrArg D.bool (by cases x; cases y; simp_all)) (.d _)) (And.intro rfl rfl))))))
        · replace h4 := notf h4
          replace h4 := of_decide_eq_true h4
          refine T_skip ?_
          refine T_seq ?_
          refine T_region hc ?_
          refine Ch.step (v := (.d (.bool true))) rfl (.pure (.assign _ rfl rfl)) rfl rfl ?_
          refine Ch.nil ?_
          refine T_ret ?_
          refine And.intro (.inr rfl) ?_
          exact Exists.intro [(.d (.bool true))] (Exists.intro [] (Exists.intro [] (And.intro (.cons (.tmp 4 rfl) .nil) (And.intro (.cons (.any _) (.cons (.any _) .nil)) (And.intro (Exp.of (congrArg D.bool (by cases x; cases y; simp_all)) (.d _)) (And.intro rfl rfl))))))

theorem sp_laws_eqGateS (xs ys : List (Gat)) (hb : bulkF Gat.bulk xs ≤ 1048576) : Sp Try.prog 99 [(.slice false 4 (xs.map Gat.d)), (.slice false 4 (ys.map Gat.d))] [.any, .any] (.bool (decide (xs = ys))) := by
  refine Sp_intro (lend := true) Try.func99 rfl rfl rfl (fun _ => rfl) (fun c hc hX => ?_)
  have hn := bulkF_len hb
  refine T_seq ?_
  refine T_region hc ?_
  refine Ch.step (v := (.d (.bool false))) rfl (.pure (.assign _ rfl rfl)) rfl rfl ?_
  refine Ch.nil ?_
  refine T_seq ?_
  refine T_seq ?_
  refine T_region hc ?_
  refine Ch.step (v := (.d (.slice false 4 (xs.map Gat.d)))) rfl (.pure (.move _ rfl rfl)) rfl rfl ?_
  refine Ch.step (v := (.d (.int .i64 ((xs.length : Nat) : Int)))) rfl (.pure (.len _ _ 108 rfl Try.underlying58 (.sh _ _) (by simp))) rfl rfl ?_
  refine Ch.step (v := (.d (.slice false 4 (ys.map Gat.d)))) rfl (.pure (.move _ rfl rfl)) rfl rfl ?_
  refine Ch.step (v := (.d (.int .i64 ((ys.length : Nat) : Int)))) rfl (.pure (.len _ _ 108 rfl Try.underlying58 (.sh _ _) (by simp))) rfl rfl ?_
  refine Ch.step (v := (.d (.bool (!(decide (((xs.length : Nat) : Int) = ((ys.length : Nat) : Int))))))) rfl (.pure (.int _ _ _ _ _ rfl rfl rfl rfl)) rfl rfl ?_
  refine Ch.nil ?_
  refine T_cond (b := (!(decide (((xs.length : Nat) : Int) = ((ys.length : Nat) : Int))))) rfl (fun h1 => ?_) (fun h1 => ?_)
  · replace h1 := nott h1
    replace h1 := of_decide_eq_false h1
    refine T_seq ?_
    refine T_region hc ?_
    refine Ch.step (v := (.d (.bool false))) rfl (.pure (.assign _ rfl rfl)) rfl rfl ?_
    refine Ch.nil ?_
    refine T_ret ?_
    refine And.intro (.inr rfl) ?_
    exact Exists.intro [(.d (.bool false))] (Exists.intro [] (Exists.intro [] (And.intro (.cons (.tmp 4 rfl) .nil) (And.intro (.cons (.any _) (.cons (.any _) .nil)) (And.intro (Exp.of (congrArg D.bool (by exact eqL_len (by omega))) (.d _)) (And.intro rfl rfl))))))
  · replace h1 := notf h1
    replace h1 := of_decide_eq_true h1
    refine T_skip ?_
    refine T_seq ?_
    refine T_seq ?_
    refine T_region hc ?_
    refine Ch.step (v := (.d (.int .i64 0))) rfl (.pure (.assign _ rfl rfl)) rfl rfl ?_
    refine Ch.nil ?_
    refine T_block ?_
    refine T_loop (ι := Nat) (fun k => { n := 27, sl := [(0, (.d (.slice false 4 (xs.map Gat.d)))), (1, (.d (.slice false 4 (ys.map Gat.d)))), (5, (.d (.int .i64 ((k : Nat) : Int))))], hp := [], pin := [] }) (fun k => k ≤ xs.length ∧ ∀ j, j < k → xs.getD j default = ys.getD j default) (fun k => xs.length - k) ⟨0, ⟨by omega, fun j hj => by omega⟩, (Wk.of rfl rfl (And.intro rfl (And.intro rfl (And.intro (vI (by first | rfl | omega | (simp; done) | (simp; omega))) trivial))) trivial)⟩ (fun k hp0 => ?_)
    refine T_seq ?_
    refine T_seq ?_
    refine T_region hc ?_
    refine Ch.step (v := (.d (.int .i64 ((k : Nat) : Int)))) rfl (.pure (.move _ rfl rfl)) rfl rfl ?_
    refine Ch.step (v := (.d (.slice false 4 (xs.map Gat.d)))) rfl (.pure (.move _ rfl rfl)) rfl rfl ?_
    refine Ch.step (v := (.d (.int .i64 ((xs.length : Nat) : Int)))) rfl (.pure (.len _ _ 108 rfl Try.underlying58 (.sh _ _) (by simp))) rfl rfl ?_
    refine Ch.step (v := (.d (.bool (decide (((k : Nat) : Int) < ((xs.length : Nat) : Int)))))) rfl (.pure (.int _ _ _ _ _ rfl rfl rfl rfl)) rfl rfl ?_
    refine Ch.nil ?_
    refine T_cond (b := (decide (((k : Nat) : Int) < ((xs.length : Nat) : Int)))) rfl (fun h2 => ?_) (fun h2 => ?_)
    · replace h2 := of_decide_eq_true h2
      try have hk := bulkF_mem hb _ (getD_mem (l := xs) (j := k) (d := default) (by omega))
      refine T_skip ?_
      refine T_seq ?_
      refine T_block ?_
      refine T_seq ?_
      refine T_regionD hc (by kernel_rfl) ?_
      refine ChD.step (v := (.d (.slice false 4 (xs.map Gat.d)))) [] rfl (.pure (.move _ rfl rfl)) rfl rfl ?_
      refine ChD.step (v := (.d (.int .i64 ((k : Nat) : Int)))) [] rfl (.pure (.move _ rfl rfl)) rfl rfl ?_
      refine ChD.step (v := (.d (.ref (.agg [(.int .i64 ((xs.getD k default).sig)), (.int .i64 ((xs.getD k default).kind)), (.slice false 1 (((xs.getD k default).ups).map D.str)), (.slice false 1 (((xs.getD k default).downs).map D.str))])))) [] rfl (.pure (.idx _ _ _ 108 (k) rfl Try.underlying58 sz108 rfl rfl rfl (get_map _ (by first | omega | (simp only [List.length_map, List.length_append, List.length_take, List.length_drop, List.length_cons, List.length_nil]; omega) | (simp; omega) | (simp; done))))) rfl rfl ?_
      refine ChD.step (v := (.d (.agg [(.int .i64 ((xs.getD k default).sig)), (.int .i64 ((xs.getD k default).kind)), (.slice false 1 (((xs.getD k default).ups).map D.str)), (.slice false 1 (((xs.getD k default).downs).map D.str))]))) [] rfl (.pure (.loadRefA _ _ rfl ag108 sz108 rfl)) rfl rfl ?_
      refine ChD.step (v := (.d (.slice false 4 (ys.map Gat.d)))) [] rfl (.pure (.move _ rfl rfl)) rfl rfl ?_
      refine ChD.step (v := (.d (.int .i64 ((k : Nat) : Int)))) [] rfl (.pure (.move _ rfl rfl)) rfl rfl ?_
      refine ChD.step (v := (.d (.ref (.agg [(.int .i64 ((ys.getD k default).sig)), (.int .i64 ((ys.getD k default).kind)), (.slice false 1 (((ys.getD k default).ups).map D.str)), (.slice false 1 (((ys.getD k default).downs).map D.str))])))) [] rfl (.pure (.idx _ _ _ 108 (k) rfl Try.underlying58 sz108 rfl rfl rfl (get_map _ (by first | omega | (simp only [List.length_map, List.length_append, List.length_take, List.length_drop, List.length_cons, List.length_nil]; omega) | (simp; omega) | (simp; done))))) rfl rfl ?_
      refine ChD.step (v := (.d (.agg [(.int .i64 ((ys.getD k default).sig)), (.int .i64 ((ys.getD k default).kind)), (.slice false 1 (((ys.getD k default).ups).map D.str)), (.slice false 1 (((ys.getD k default).downs).map D.str))]))) [] rfl (.pure (.loadRefA _ _ rfl ag108 sz108 rfl)) rfl rfl ?_
      refine ChD.step (v := (.d (.bool (decide ((xs.getD k default) = (ys.getD k default)))))) [] rfl (.call 25000 145 _ _ _ en145 rfl (.inl rfl) (.cons (.d _) (.cons (.d _) .nil)) rfl rfl (sp_laws_eqGate (xs.getD k default) (ys.getD k default) (by first | assumption | omega | (rw [List.length_take]; omega) | (have := bulkF_mem hb _ (getD_mem (d := default) (by omega)); assumption) | (unfold bulkS at *; omega) | (simp_all; done))) (.skip _ _ (.skip _ _ .nil)) rfl) rfl rfl ?_
      refine ChD.step (v := (.d (.bool (!(decide ((xs.getD k default) = (ys.getD k default))))))) [] rfl (.pure (.not _ _ rfl rfl)) rfl rfl ?_
      refine ChD.nil (And.intro ?_ (by kernel_rfl))
      refine T_cond (b := (!(decide ((xs.getD k default) = (ys.getD k default))))) rfl (fun h3 => ?_) (fun h3 => ?_)
      · replace h3 := nott h3
        replace h3 := of_decide_eq_false h3
        refine T_seq ?_
        refine T_region hc ?_
        refine Ch.step (v := (.d (.bool false))) rfl (.pure (.assign _ rfl rfl)) rfl rfl ?_
        refine Ch.nil ?_
        refine T_ret ?_
        refine And.intro (.inr rfl) ?_
        exact Exists.intro [(.d (.bool false))] (Exists.intro [] (Exists.intro [] (And.intro (.cons (.tmp 4 rfl) .nil) (And.intro (.cons (.any _) (.cons (.any _) .nil)) (And.intro (Exp.of (congrArg D.bool (by exact eqL_at default k (by assumption))) (.d _)) (And.intro rfl rfl))))))
      · replace h3 := notf h3
        replace h3 := of_decide_eq_true h3
        refine T_skip ?_
        refine T_region hc ?_
        refine Ch.step (v := (.d (.int .i64 ((k : Nat) : Int)))) rfl (.pure (.move _ rfl rfl)) rfl rfl ?_
        refine Ch.step (v := (.d (.int .i64 (((k : Nat) : Int) + 1)))) rfl (.pure (.int _ _ _ _ _ rfl rfl rfl (intV_add (by first | omega | (simp only [List.length_map, List.length_append, List.length_take, List.length_drop, List.length_cons, List.length_nil]; omega) | (simp; omega) | (simp; done)) (by first | omega | (simp only [List.length_map, List.length_append, List.length_take, List.length_drop, List.length_cons, List.length_nil]; omega) | (simp; omega) | (simp; done))))) rfl rfl ?_
        refine Ch.step (v := (.d (.int .i64 (((k : Nat) : Int) + 1)))) rfl (.pure (.assign _ rfl rfl)) rfl rfl ?_
        refine Ch.nil ?_
        refine Exists.intro (k + 1) (And.intro ⟨by omega, upto_succ hp0.2 (by assumption)⟩ (And.intro (by first | omega | (dsimp only; omega)) (Wk.of rfl rfl (And.intro rfl (And.intro rfl (And.intro (vI (by first | rfl | omega | (simp; done) | (simp; omega))) trivial))) trivial)))
    · replace h2 := of_decide_eq_false h2
      try have hk := bulkF_mem hb _ (getD_mem (l := xs) (j := k) (d := default) (by omega))
      refine T_exit ?_
      refine T_seq ?_
      refine T_region hc ?_
      refine Ch.step (v := (.d (.bool true))) rfl (.pure (.assign _ rfl rfl)) rfl rfl ?_
      refine Ch.nil ?_
      refine T_ret ?_
      refine And.intro (.inr rfl) ?_
      exact Exists.intro [(.d (.bool true))] (Exists.intro [] (Exists.intro [] (And.intro (.cons (.tmp 4 rfl) .nil) (And.intro (.cons (.any _) (.cons (.any _) .nil)) (And.intro (Exp.of (congrArg D.bool (by exact eqL_all default (by omega) (fun j hj => hp0.2 j (by omega)))) (.d _)) (And.intro rfl rfl))))))

theorem sp_laws_szCircuit (x : Cir) (left : Int) (h0 : 0 ≤ left) (h0u : left ≤ 1048576) (hw : x.wide) : Sp Try.prog 40 [(.agg [(.slice false 2 (x.sigs.map Sgn.d)), (.slice false 4 (x.gates.map Gat.d))]), (.int .i64 left)] [.any, .any] (.int .i64 (szR x.bulk left)) := by
  refine Sp_intro (lend := true) Try.func40 rfl rfl rfl (fun _ => rfl) (fun c hc hX => ?_)
  have e0 := szR_cases (bulkF Sgn.bulk x.sigs) left
  have e1 := szR_cases (bulkF Gat.bulk x.gates) (szR (bulkF Sgn.bulk x.sigs) left)
  have ef := szR_cases (bulkF Sgn.bulk x.sigs + bulkF Gat.bulk x.gates) left
  unfold Cir.wide at hw
  refine T_seq ?_
  refine T_region hc ?_
  refine Ch.step (v := (.ptr 2000 0)) rfl (.box 2000 _ _ rfl (.aggD _)) rfl rfl ?_
  refine Ch.step (v := (.d (.int .i64 0))) rfl (.pure (.assign _ rfl rfl)) rfl rfl ?_
  refine Ch.nil ?_
  refine T_seq ?_
  refine T_region hc ?_
  refine Ch.step (v := (.ptr 2000 0)) rfl (.pure (.fldPtr _ _ _ rfl fld55_0 rfl)) rfl rfl ?_
  refine Ch.step (v := (.d (.slice false 2 (x.sigs.map Sgn.d)))) rfl (.pure (.loadPtr1 _ _ rfl ag35 rfl rfl rfl)) rfl rfl ?_
  refine Ch.step (v := (.d (.int .i64 left))) rfl (.pure (.move _ rfl rfl)) rfl rfl ?_
  refine Ch.step (v := (.d (.int .i64 (szR (bulkF Sgn.bulk x.sigs) left)))) rfl (.call 8000 35 _ _ _ en35 rfl (.inl rfl) (.cons (.d _) (.cons (.d _) .nil)) rfl rfl (sp_laws_szSignalS x.sigs left (by first | omega | assumption | (exact hx _ (getD_mem (by omega))) | (exact hx _ (by assumption)) | (exact Nat.le_trans (hx _ (by assumption)) (by omega)) | (simp only [List.length_append, List.length_take, List.length_drop, List.length_cons, List.length_nil]; omega) | (simp_all; done)) (by first | omega | assumption | (exact hx _ (getD_mem (by omega))) | (exact hx _ (by assumption)) | (exact Nat.le_trans (hx _ (by assumption)) (by omega)) | (simp only [List.length_append, List.length_take, List.length_drop, List.length_cons, List.length_nil]; omega) | (simp_all; done)) (by first | assumption | omega | trivial | (simp_all; done) | (exact fun _ _ => trivial) | (exact hx _ (by assumption)) | (refine ⟨?_, ?_⟩ <;> first | assumption | omega)) (by first | assumption | omega | trivial | (simp_all; done) | (exact fun _ _ => trivial) | (exact hx _ (by assumption)) | (refine ⟨?_, ?_⟩ <;> first | assumption | omega))) (.skip _ _ (.skip _ _ .nil)) rfl) rfl rfl ?_
  refine Ch.step (v := (.d (.int .i64 (szR (bulkF Sgn.bulk x.sigs) left)))) rfl (.pure (.assign _ rfl rfl)) rfl rfl ?_
  refine Ch.nil ?_
  refine T_seq ?_
  refine T_seq ?_
  refine T_region hc ?_
  refine Ch.step (v := (.d (.int .i64 (szR (bulkF Sgn.bulk x.sigs) left)))) rfl (.pure (.move _ rfl rfl)) rfl rfl ?_
  refine Ch.step (v := (.d (.bool (decide ((szR (bulkF Sgn.bulk x.sigs) left) < 0))))) rfl (.pure (.int _ _ _ _ _ rfl rfl rfl rfl)) rfl rfl ?_
  refine Ch.nil ?_
  refine T_cond (b := (decide ((szR (bulkF Sgn.bulk x.sigs) left) < 0))) rfl (fun h1 => ?_) (fun h1 => ?_)
  · replace h1 := of_decide_eq_true h1
    refine T_seq ?_
    refine T_region hc ?_
    refine Ch.step (v := (.d (.int .i64 (-1)))) rfl (.pure (.assign _ rfl rfl)) rfl rfl ?_
    refine Ch.nil ?_
    refine T_ret ?_
    refine And.intro (.inr rfl) ?_
    exact Exists.intro [(.d (.int .i64 (-1)))] (Exists.intro [] (Exists.intro [] (And.intro (.cons (.tmp 4 rfl) .nil) (And.intro (.cons (.any _) (.cons (.any _) .nil)) (And.intro (Exp.of (congrArg (D.int .i64) (by show _ = szR (bulkF Sgn.bulk x.sigs + bulkF Gat.bulk x.gates) left; omega)) (.d _)) (And.intro rfl rfl))))))
  · replace h1 := of_decide_eq_false h1
    refine T_skip ?_
    refine T_seq ?_
    refine T_region hc ?_
    refine Ch.step (v := (.ptr 2000 1)) rfl (.pure (.fldPtr _ _ _ rfl fld55_1 rfl)) rfl rfl ?_
    refine Ch.step (v := (.d (.slice false 4 (x.gates.map Gat.d)))) rfl (.pure (.loadPtr1 _ _ rfl ag53 rfl rfl rfl)) rfl rfl ?_
    refine Ch.step (v := (.d (.int .i64 (szR (bulkF Sgn.bulk x.sigs) left)))) rfl (.pure (.move _ rfl rfl)) rfl rfl ?_
    refine Ch.step (v := (.d (.int .i64 (szR (bulkF Gat.bulk x.gates) (szR (bulkF Sgn.bulk x.sigs) left))))) rfl (.call 14000 90 _ _ _ en90 rfl (.inl rfl) (.cons (.d _) (.cons (.d _) .nil)) rfl rfl (sp_laws_szGateS x.gates (szR (bulkF Sgn.bulk x.sigs) left) (by first | omega | assumption | (exact hx _ (getD_mem (by omega))) | (exact hx _ (by assumption)) | (exact Nat.le_trans (hx _ (by assumption)) (by omega)) | (simp only [List.length_append, List.length_take, List.length_drop, List.length_cons, List.length_nil]; omega) | (simp_all; done)) (by first | omega | assumption | (exact hx _ (getD_mem (by omega))) | (exact hx _ (by assumption)) | (exact Nat.le_trans (hx _ (by assumption)) (by omega)) | (simp only [List.length_append, List.length_take, List.length_drop, List.length_cons, List.length_nil]; omega) | (simp_all; done)) (by first | assumption | omega | trivial | (simp_all; done) | (exact fun _ _ => trivial) | (exact hx _ (by assumption)) | (refine ⟨?_, ?_⟩ <;> first | assumption | omega)) (by first | assumption | omega | trivial | (simp_all; done) | (exact fun _ _ => trivial) | (exact hx _ (by assumption)) | (refine ⟨?_, ?_⟩ <;> first | assumption | omega))) (.skip _ _ (.skip _ _ .nil)) rfl) rfl rfl ?_
    refine Ch.step (v := (.d (.int .i64 (szR (bulkF Gat.bulk x.gates) (szR (bulkF Sgn.bulk x.sigs) left))))) rfl (.pure (.assign _ rfl rfl)) rfl rfl ?_
    refine Ch.nil ?_
    refine T_seq ?_
    refine T_seq ?_
    refine T_region hc ?_
    refine Ch.step (v := (.d (.int .i64 (szR (bulkF Gat.bulk x.gates) (szR (bulkF Sgn.bulk x.sigs) left))))) rfl (.pure (.move _ rfl rfl)) rfl rfl ?_
    refine Ch.step (v := (.d (.bool (decide ((szR (bulkF Gat.bulk x.gates) (szR (bulkF Sgn.bulk x.sigs) left)) < 0))))) rfl (.pure (.int _ _ _ _ _ rfl rfl rfl rfl)) rfl rfl ?_
    refine Ch.nil ?_
    refine T_cond (b := (decide ((szR (bulkF Gat.bulk x.gates) (szR (bulkF Sgn.bulk x.sigs) left)) < 0))) rfl (fun h2 => ?_) (fun h2 => ?_)
    · replace h2 := of_decide_eq_true h2
      refine T_seq ?_
      refine T_region hc ?_
      refine Ch.step (v := (.d (.int .i64 (-1)))) rfl (.pure (.assign _ rfl rfl)) rfl rfl ?_
      refine Ch.nil ?_
      refine T_ret ?_
      refine And.intro (.inr rfl) ?_
      exact Exists.intro [(.d (.int .i64 (-1)))] (Exists.intro [] (Exists.intro [] (And.intro (.cons (.tmp 4 rfl) .nil) (And.intro (.cons (.any _) (.cons (.any _) .nil)) (And.intro (Exp.of (congrArg (D.int .i64) (by show _ = szR (bulkF Sgn.bulk x.sigs + bulkF Gat.bulk x.gates) left; omega)) (.d _)) (And.intro rfl rfl))))))
    · replace h2 := of_decide_eq_false h2
      refine T_skip ?_
      refine T_seq ?_
      refine T_region hc ?_
      refine Ch.step (v := (.d (.int .i64 (szR (bulkF Gat.bulk x.gates) (szR (bulkF Sgn.bulk x.sigs) left))))) rfl (.pure (.move _ rfl rfl)) rfl rfl ?_
      refine Ch.step (v := (.d (.int .i64 (szR (bulkF Gat.bulk x.gates) (szR (bulkF Sgn.bulk x.sigs) left))))) rfl (.pure (.assign _ rfl rfl)) rfl rfl ?_
      refine Ch.nil ?_
      refine T_ret ?_
      refine And.intro (.inr rfl) ?_
      exact Exists.intro [(.d (.int .i64 (szR (bulkF Gat.bulk x.gates) (szR (bulkF Sgn.bulk x.sigs) left))))] (Exists.intro [] (Exists.intro [] (And.intro (.cons (.tmp 4 rfl) .nil) (And.intro (.cons (.any _) (.cons (.any _) .nil)) (And.intro (Exp.of (congrArg (D.int .i64) (by show _ = szR (bulkF Sgn.bulk x.sigs + bulkF Gat.bulk x.gates) left; omega)) (.d _)) (And.intro rfl rfl))))))

theorem sp_laws_toCircuit (x : Cir) (hb : x.bulk ≤ 1048576) : Sp Try.prog 42 [(.agg [(.slice false 2 (x.sigs.map Sgn.d)), (.slice false 4 (x.gates.map Gat.d))])] [.any] (.agg [(.slice true 2 (x.sigs.map Sgn.d)), (.slice true 4 (x.gates.map Gat.u))]) := by
  refine Sp_intro (lend := true) Try.func42 rfl rfl rfl (fun _ => rfl) (fun c hc hX => ?_)
  obtain ⟨hp0, hp1⟩ := Cir.parts hb
  have hn0 := bulkF_len hp0
  have hn1 := bulkF_len hp1
  refine T_seq ?_
  refine T_region hc ?_
  refine Ch.step (v := (.ptr 1000 0)) rfl (.box 1000 _ _ rfl (.aggD _)) rfl rfl ?_
  refine Ch.step (v := (.ptr 2000 0)) rfl (.alloc 2000 _ rfl zer60) rfl rfl ?_
  refine Ch.nil ?_
  refine T_seq ?_
  refine T_region hc ?_
  refine Ch.step (v := (.ptr 3000 0)) rfl (.alloc 3000 _ rfl zer60) rfl rfl ?_
  refine Ch.nil ?_
  refine T_seq ?_
  refine T_region hc ?_
  refine Ch.step (v := (.ptr 1000 0)) rfl (.pure (.fldPtr _ _ _ rfl fld55_0 rfl)) rfl rfl ?_
  refine Ch.step (v := (.d (.slice false 2 (x.sigs.map Sgn.d)))) rfl (.pure (.loadPtr1 _ _ rfl ag35 rfl rfl rfl)) rfl rfl ?_
  refine Ch.step (v := (.row 6000)) rfl (.call 6000 37 _ _ _ en37 rfl (.inl rfl) (.cons (.d _) .nil) rfl (sol (solid_row (fun _ => rfl) _) rfl) (sp_laws_toSignalS x.sigs (by first | assumption | omega | (rw [List.length_take]; omega) | (have := bulkF_mem hb _ (getD_mem (d := default) (by omega)); assumption) | (unfold bulkS at *; omega) | (simp_all; done))) (.skip _ _ .nil) rfl) rfl rfl ?_
  refine Ch.step (v := (.ptr 3000 0)) rfl (.pure (.fldPtr _ _ _ rfl fld60_0 rfl)) rfl rfl ?_
  refine Ch.step (v := .junk) rfl (.storePtr _ _ _ rfl rfl rfl (.one _ rfl) sz41 (Nat.le_of_ble_eq_true rfl)) rfl rfl ?_
  refine Ch.nil ?_
  refine T_seq ?_
  refine T_region hc ?_
  refine Ch.step (v := (.ptr 1000 1)) rfl (.pure (.fldPtr _ _ _ rfl fld55_1 rfl)) rfl rfl ?_
  refine Ch.step (v := (.d (.slice false 4 (x.gates.map Gat.d)))) rfl (.pure (.loadPtr1 _ _ rfl ag53 rfl rfl rfl)) rfl rfl ?_
  refine Ch.step (v := (.row 10000)) rfl (.call 10000 92 _ _ _ en92 rfl (.inl rfl) (.cons (.d _) .nil) rfl (sol (solid_row Gat.sol _) rfl) (sp_laws_toGateS x.gates (by first | assumption | omega | (rw [List.length_take]; omega) | (have := bulkF_mem hb _ (getD_mem (d := default) (by omega)); assumption) | (unfold bulkS at *; omega) | (simp_all; done))) (.skip _ _ .nil) rfl) rfl rfl ?_
  refine Ch.step (v := (.ptr 3000 1)) rfl (.pure (.fldPtr _ _ _ rfl fld60_1 rfl)) rfl rfl ?_
  refine Ch.step (v := .junk) rfl (.storePtr _ _ _ rfl rfl rfl (.one _ rfl) sz58 (Nat.le_of_ble_eq_true rfl)) rfl rfl ?_
  refine Ch.nil ?_
  refine T_seq ?_
  refine T_region hc ?_
  refine Ch.step (v := (.agg [(.row 6000), (.row 10000)])) rfl (.pure (.loadPtrA _ _ rfl ag60 sz60 rfl rfl (Nat.le_of_ble_eq_true rfl) rfl)) rfl rfl ?_
  refine Ch.step (v := .junk) rfl (.storePtr _ _ _ rfl rfl rfl (.agg _ rfl) sz60 (Nat.le_of_ble_eq_true rfl)) rfl rfl ?_
  refine Ch.nil ?_
  refine T_ret ?_
  refine And.intro (.inr rfl) ?_
  exact Exists.intro [(.agg [(.row 6000), (.row 10000)])] (Exists.intro [] (Exists.intro [6000, 10000] (And.intro (.cons (.cellA _ _ rfl rfl ag60 sz60) .nil) (And.intro (.cons (.any _) .nil) (And.intro (.agg (.cons (.row rfl) (.cons (.row rfl) .nil)) rfl) (And.intro rfl rfl))))))

theorem sp_laws_eqCircuit (x y : Cir) (hb : x.bulk ≤ 1048576) : Sp Try.prog 44 [(.agg [(.slice false 2 (x.sigs.map Sgn.d)), (.slice false 4 (x.gates.map Gat.d))]), (.agg [(.slice false 2 (y.sigs.map Sgn.d)), (.slice false 4 (y.gates.map Gat.d))])] [.any, .any] (.bool (decide (x = y))) := by
  refine Sp_intro (lend := true) Try.func44 rfl rfl rfl (fun _ => rfl) (fun c hc hX => ?_)
  obtain ⟨hp0, hp1⟩ := Cir.parts hb
  have hn0 := bulkF_len hp0
  have hn1 := bulkF_len hp1
  refine T_seq ?_
  refine T_region hc ?_
  refine Ch.step (v := (.ptr 2000 0)) rfl (.box 2000 _ _ rfl (.aggD _)) rfl rfl ?_
  refine Ch.step (v := (.ptr 3000 0)) rfl (.box 3000 _ _ rfl (.aggD _)) rfl rfl ?_
  refine Ch.step (v := (.d (.bool false))) rfl (.pure (.assign _ rfl rfl)) rfl rfl ?_
  refine Ch.nil ?_
  refine T_seq ?_
  refine T_seq ?_
  refine T_region hc ?_
  refine Ch.step (v := (.ptr 2000 0)) rfl (.pure (.fldPtr _ _ _ rfl fld60_0 rfl)) rfl rfl ?_
  refine Ch.step (v := (.d (.slice false 2 (x.sigs.map Sgn.d)))) rfl (.pure (.loadPtr1 _ _ rfl ag41 rfl rfl rfl)) rfl rfl ?_
  refine Ch.step (v := (.ptr 3000 0)) rfl (.pure (.fldPtr _ _ _ rfl fld60_0 rfl)) rfl rfl ?_
  refine Ch.step (v := (.d (.slice false 2 (y.sigs.map Sgn.d)))) rfl (.pure (.loadPtr1 _ _ rfl ag41 rfl rfl rfl)) rfl rfl ?_
  refine Ch.step (v := (.d (.bool (decide (x.sigs = y.sigs))))) rfl (.call 9000 39 _ _ _ en39 rfl (.inl rfl) (.cons (.d _) (.cons (.d _) .nil)) rfl rfl (sp_laws_eqSignalS x.sigs y.sigs (by first | assumption | omega | (rw [List.length_take]; omega) | (have := bulkF_mem hb _ (getD_mem (d := default) (by omega)); assumption) | (unfold bulkS at *; omega) | (simp_all; done))) (.skip _ _ (.skip _ _ .nil)) rfl) rfl rfl ?_
  refine Ch.step (v := (.d (.bool (!(decide (x.sigs = y.sigs)))))) rfl (.pure (.not _ _ rfl rfl)) rfl rfl ?_
  refine Ch.nil ?_
  refine T_cond (b := (!(decide (x.sigs = y.sigs)))) rfl (fun h1 => ?_) (fun h1 => ?_)
  · replace h1 := nott h1
    replace h1 := of_decide_eq_false h1
    refine T_seq ?_
    refine T_region hc ?_
    refine Ch.step (v := (.d (.bool false))) rfl (.pure (.assign _ rfl rfl)) rfl rfl ?_
    refine Ch.nil ?_
    refine T_ret ?_
    refine And.intro (.inr rfl) ?_
    exact Exists.intro [(.d (.bool false))] (Exists.intro [] (Exists.intro [] (And.intro (.cons (.tmp 4 rfl) .nil) (And.intro (.cons (.any _) (.cons (.any _) .nil)) (And.intro (Exp.of (congrArg D.bool (by cases x; cases y; simp_all)) (.d _)) (And.intro rfl rfl))))))
  · replace h1 := notf h1
    replace h1 := of_decide_eq_true h1
    refine T_skip ?_
    refine T_seq ?_
    refine T_seq ?_
    refine T_region hc ?_
    refine Ch.step (v := (.ptr 2000 1)) rfl (.pure (.fldPtr _ _ _ rfl fld60_1 rfl)) rfl rfl ?_
    refine Ch.step (v := (.d (.slice false 4 (x.gates.map Gat.d)))) rfl (.pure (.loadPtr1 _ _ rfl ag58 rfl rfl rfl)) rfl rfl ?_
    refine Ch.step (v := (.ptr 3000 1)) rfl (.pure (.fldPtr _ _ _ rfl fld60_1 rfl)) rfl rfl ?_
    refine Ch.step (v := (.d (.slice false 4 (y.gates.map Gat.d)))) rfl (.pure (.loadPtr1 _ _ rfl ag58 rfl rfl rfl)) rfl rfl ?_
    refine Ch.step (v := (.d (.bool (decide (x.gates = y.gates))))) rfl (.call 15000 99 _ _ _ en99 rfl (.inl rfl) (.cons (.d _) (.cons (.d _) .nil)) rfl rfl (sp_laws_eqGateS x.gates y.gates (by first | assumption | omega | (rw [List.length_take]; omega) | (have := bulkF_mem hb _ (getD_mem (d := default) (by omega)); assumption) | (unfold bulkS at *; omega) | (simp_all; done))) (.skip _ _ (.skip _ _ .nil)) rfl) rfl rfl ?_
    refine Ch.step (v := (.d (.bool (!(decide (x.gates = y.gates)))))) rfl (.pure (.not _ _ rfl rfl)) rfl rfl ?_
    refine Ch.nil ?_
    refine T_cond (b := (!(decide (x.gates = y.gates)))) rfl (fun h2 => ?_) (fun h2 => ?_)
    · replace h2 := nott h2
      replace h2 := of_decide_eq_false h2
      refine T_seq ?_
      refine T_region hc ?_
      refine Ch.step (v := (.d (.bool false))) rfl (.pure (.assign _ rfl rfl)) rfl rfl ?_
      refine Ch.nil ?_
      refine T_ret ?_
      refine And.intro (.inr rfl) ?_
      exact Exists.intro [(.d (.bool false))] (Exists.intro [] (Exists.intro [] (And.intro (.cons (.tmp 4 rfl) .nil) (And.intro (.cons (.any _) (.cons (.any _) .nil)) (And.intro (Exp.of (congrArg D.bool (by cases x; cases y; simp_all)) (.d _)) (And.intro rfl rfl))))))
    · replace h2 := notf h2
      replace h2 := of_decide_eq_true h2
      refine T_skip ?_
      refine T_seq ?_
      refine T_region hc ?_
      refine Ch.step (v := (.d (.bool true))) rfl (.pure (.assign _ rfl rfl)) rfl rfl ?_
      refine Ch.nil ?_
      refine T_ret ?_
      refine And.intro (.inr rfl) ?_
      exact Exists.intro [(.d (.bool true))] (Exists.intro [] (Exists.intro [] (And.intro (.cons (.tmp 4 rfl) .nil) (And.intro (.cons (.any _) (.cons (.any _) .nil)) (And.intro (Exp.of (congrArg D.bool (by cases x; cases y; simp_all)) (.d _)) (And.intro rfl rfl))))))

theorem en165 : Enters Try.prog 165 := ⟨_, Try.func165, by kernel_rfl, rfl⟩

theorem en144 : Enters Try.prog 144 := ⟨_, Try.func144, by kernel_rfl, rfl⟩

theorem en109 : Enters Try.prog 109 := ⟨_, Try.func109, by kernel_rfl, rfl⟩

theorem en138 : Enters Try.prog 138 := ⟨_, Try.func138, by kernel_rfl, rfl⟩

theorem en137 : Enters Try.prog 137 := ⟨_, Try.func137, by kernel_rfl, rfl⟩

theorem en135 : Enters Try.prog 135 := ⟨_, Try.func135, by kernel_rfl, rfl⟩

def letB (x : UInt8) : Bool := decide ((97 : UInt8) ≤ x) && decide (x ≤ 122)

def digB (x : UInt8) : Bool := decide ((48 : UInt8) ≤ x) && decide (x ≤ 57)

def nameCh (x : UInt8) (j : Nat) : Bool := letB x || (digB x && !decide ((j : Int) = 0))

def nameB (u : List UInt8) : Bool := allB u.length (fun j => nameCh (u.getD j 0) j) && withinB u.length 1 6

def sigOk (xs : List Sgn) (j : Nat) : Bool := nameB (xs.getD j default).name && (withinB (xs.getD j default).kind 1 3 && !(xs.take j).any fun y => decide (y.name = (xs.getD j default).name))

def sigsB (xs : List Sgn) : Bool := allB xs.length (sigOk xs) && withinB xs.length 1 8

theorem digB_n (x : UInt8) : digB x = (!decide (x < 48) && !decide (57 < x)) := by
  unfold digB; rw [← decide_not, ← decide_not]; simp only [UInt8.not_lt]

theorem sp_impl_isName (u : List UInt8) (hu : u.length ≤ 1048576) : Sp Try.prog 109 [(.str u)] [.any] (.bool (nameB u)) := by
  refine Sp_intro (lend := true) Try.func109 rfl rfl rfl (fun _ => rfl) (fun c hc hX => ?_)
  refine T_seq ?_
  refine T_region hc ?_
  refine Ch.step (v := (.d (.bool false))) rfl (.pure (.assign _ rfl rfl)) rfl rfl ?_
  refine Ch.nil ?_
  refine T_seq ?_
  refine T_seq ?_
  refine T_region hc ?_
  refine Ch.step (v := (.d (.int .i64 0))) rfl (.pure (.assign _ rfl rfl)) rfl rfl ?_
  refine Ch.nil ?_
  refine T_block ?_
  refine T_loop (ι := Nat) (fun k => { n := 45, sl := [(0, (.d (.str u))), (3, (.d (.int .i64 ((k : Nat) : Int))))], hp := [], pin := [] }) (fun k => k ≤ u.length ∧ ∀ j, j < k → nameCh (u.getD j 0) j = true) (fun k => u.length - k) ⟨0, ⟨by omega, fun j hj => by omega⟩, (Wk.of rfl rfl (And.intro rfl (And.intro (vI (by first | rfl | omega | (simp; done) | (simp; omega))) trivial)) trivial)⟩ (fun k hp0 => ?_)
  refine T_seq ?_
  refine T_seq ?_
  refine T_region hc ?_
  refine Ch.step (v := (.d (.int .i64 ((k : Nat) : Int)))) rfl (.pure (.move _ rfl rfl)) rfl rfl ?_
  refine Ch.step (v := (.d (.str u))) rfl (.pure (.move _ rfl rfl)) rfl rfl ?_
  refine Ch.step (v := (.d (.int .i64 ((u.length : Nat) : Int)))) rfl (.pure (.lenStr _ _ rfl Try.underlying9 rfl)) rfl rfl ?_
  refine Ch.step (v := (.d (.bool (decide (((k : Nat) : Int) < ((u.length : Nat) : Int)))))) rfl (.pure (.int _ _ _ _ _ rfl rfl rfl rfl)) rfl rfl ?_
  refine Ch.nil ?_
  refine T_cond (b := (decide (((k : Nat) : Int) < ((u.length : Nat) : Int)))) rfl (fun h1 => ?_) (fun h1 => ?_)
  · replace h1 := of_decide_eq_true h1
    refine T_skip ?_
    refine T_seq ?_
    refine T_block ?_
    refine T_seq ?_
    refine T_regionD hc (by kernel_rfl) ?_
    refine ChD.step (v := (.d (.str u))) [] rfl (.pure (.move _ rfl rfl)) rfl rfl ?_
    refine ChD.step (v := (.d (.int .i64 ((k : Nat) : Int)))) [] rfl (.pure (.move _ rfl rfl)) rfl rfl ?_
    refine ChD.step (v := (.d (.int .u8 ((u.getD k 0).toNat : Int)))) [] rfl (.pure (.idxStr _ _ _ (k) rfl Try.underlying9 rfl rfl rfl (get_str (by first | omega | (simp only [List.length_map, List.length_append, List.length_take, List.length_drop, List.length_cons, List.length_nil]; omega) | (simp; omega) | (simp; done))))) rfl rfl ?_
    refine ChD.step (v := (.d (.bool (decide (97 ≤ ((u.getD k 0) : UInt8)))))) [] rfl (.pure (.int _ _ _ _ _ rfl rfl rfl (u8_geq ((u.getD k 0) : UInt8) 97 rfl rfl))) rfl rfl ?_
    refine ChD.step (v := (.d (.bool (decide (97 ≤ ((u.getD k 0) : UInt8)))))) [] rfl (.pure (.move _ rfl rfl)) rfl rfl ?_
    cases h2 : (decide (97 ≤ ((u.getD k 0) : UInt8))) with
    | true =>
      replace h2 := of_decide_eq_true h2
      refine ChD.step (v := (.d (.str u))) [] rfl (.pure (.move _ rfl rfl)) rfl rfl ?_
      refine ChD.step (v := (.d (.int .i64 ((k : Nat) : Int)))) [] rfl (.pure (.move _ rfl rfl)) rfl rfl ?_
      refine ChD.step (v := (.d (.int .u8 ((u.getD k 0).toNat : Int)))) [] rfl (.pure (.idxStr _ _ _ (k) rfl Try.underlying9 rfl rfl rfl (get_str (by first | omega | (simp only [List.length_map, List.length_append, List.length_take, List.length_drop, List.length_cons, List.length_nil]; omega) | (simp; omega) | (simp; done))))) rfl rfl ?_
      refine ChD.step (v := (.d (.bool (decide (((u.getD k 0) : UInt8) ≤ 122))))) [] rfl (.pure (.int _ _ _ _ _ rfl rfl rfl (u8_leq ((u.getD k 0) : UInt8) 122 rfl rfl))) rfl rfl ?_
      refine ChD.step (v := (.d (.bool (decide (((u.getD k 0) : UInt8) ≤ 122))))) [] rfl (.pure (.pickT _ _ _ rfl rfl rfl)) rfl rfl ?_
      refine ChD.step (v := (.d (.str u))) [] rfl (.pure (.move _ rfl rfl)) rfl rfl ?_
      refine ChD.step (v := (.d (.int .i64 ((k : Nat) : Int)))) [] rfl (.pure (.move _ rfl rfl)) rfl rfl ?_
      refine ChD.step (v := (.d (.int .u8 ((u.getD k 0).toNat : Int)))) [] rfl (.pure (.idxStr _ _ _ (k) rfl Try.underlying9 rfl rfl rfl (get_str (by first | omega | (simp only [List.length_map, List.length_append, List.length_take, List.length_drop, List.length_cons, List.length_nil]; omega) | (simp; omega) | (simp; done))))) rfl rfl ?_
      refine ChD.step (v := (.d (.bool (decide (48 ≤ ((u.getD k 0) : UInt8)))))) [] rfl (.pure (.int _ _ _ _ _ rfl rfl rfl (u8_geq ((u.getD k 0) : UInt8) 48 rfl rfl))) rfl rfl ?_
      refine ChD.step (v := (.d (.bool (decide (48 ≤ ((u.getD k 0) : UInt8)))))) [] rfl (.pure (.move _ rfl rfl)) rfl rfl ?_
      cases h3 : (decide (48 ≤ ((u.getD k 0) : UInt8))) with
      | true =>
        replace h3 := of_decide_eq_true h3
        refine ChD.step (v := (.d (.str u))) [] rfl (.pure (.move _ rfl rfl)) rfl rfl ?_
        refine ChD.step (v := (.d (.int .i64 ((k : Nat) : Int)))) [] rfl (.pure (.move _ rfl rfl)) rfl rfl ?_
        refine ChD.step (v := (.d (.int .u8 ((u.getD k 0).toNat : Int)))) [] rfl (.pure (.idxStr _ _ _ (k) rfl Try.underlying9 rfl rfl rfl (get_str (by first | omega | (simp only [List.length_map, List.length_append, List.length_take, List.length_drop, List.length_cons, List.length_nil]; omega) | (simp; omega) | (simp; done))))) rfl rfl ?_
        refine ChD.step (v := (.d (.bool (decide (((u.getD k 0) : UInt8) ≤ 57))))) [] rfl (.pure (.int _ _ _ _ _ rfl rfl rfl (u8_leq ((u.getD k 0) : UInt8) 57 rfl rfl))) rfl rfl ?_
        refine ChD.step (v := (.d (.bool (decide (((u.getD k 0) : UInt8) ≤ 57))))) [] rfl (.pure (.pickT _ _ _ rfl rfl rfl)) rfl rfl ?_
        refine ChD.step (v := (.d (.bool (decide (((u.getD k 0) : UInt8) ≤ 122))))) [] rfl (.pure (.assign _ rfl rfl)) rfl rfl ?_
        refine ChD.step (v := (.d (.bool (decide (((u.getD k 0) : UInt8) ≤ 57))))) [] rfl (.pure (.assign _ rfl rfl)) rfl rfl ?_
        refine ChD.nil (And.intro ?_ (by kernel_rfl))
        refine T_seq ?_
        refine T_region hc ?_
        refine Ch.step (v := (.d (.bool (decide (((u.getD k 0) : UInt8) ≤ 122))))) rfl (.pure (.move _ rfl rfl)) rfl rfl ?_
        refine Ch.step (v := (.d (.bool (!(decide (((u.getD k 0) : UInt8) ≤ 122)))))) rfl (.pure (.not _ _ rfl rfl)) rfl rfl ?_
        refine Ch.step (v := (.d (.bool (!(decide (((u.getD k 0) : UInt8) ≤ 122)))))) rfl (.pure (.move _ rfl rfl)) rfl rfl ?_
        cases h4 : (decide (((u.getD k 0) : UInt8) ≤ 122)) with
        | true =>
          replace h4 := of_decide_eq_true h4
          refine Ch.skip rfl rfl ?_
          refine Ch.skip rfl rfl ?_
          refine Ch.skip rfl rfl ?_
          refine Ch.skip rfl rfl ?_
          refine Ch.skip rfl rfl ?_
          refine Ch.skip rfl rfl ?_
          refine Ch.step (v := (.d (.bool false))) rfl (.pure (.pickF _ _ _ rfl rfl rfl)) rfl rfl ?_
          refine Ch.nil ?_
          refine T_cond (b := false) rfl (fun h => nomatch h) (fun _ => ?_)
          refine T_skip ?_
          refine T_region hc ?_
          refine Ch.step (v := (.d (.int .i64 ((k : Nat) : Int)))) rfl (.pure (.move _ rfl rfl)) rfl rfl ?_
          refine Ch.step (v := (.d (.int .i64 (((k : Nat) : Int) + 1)))) rfl (.pure (.int _ _ _ _ _ rfl rfl rfl (intV_add (by first | omega | (simp only [List.length_map, List.length_append, List.length_take, List.length_drop, List.length_cons, List.length_nil]; omega) | (simp; omega) | (simp; done)) (by first | omega | (simp only [List.length_map, List.length_append, List.length_take, List.length_drop, List.length_cons, List.length_nil]; omega) | (simp; omega) | (simp; done))))) rfl rfl ?_
          refine Ch.step (v := (.d (.int .i64 (((k : Nat) : Int) + 1)))) rfl (.pure (.assign _ rfl rfl)) rfl rfl ?_
          refine Ch.nil ?_
          refine Exists.intro (k + 1) (And.intro ⟨by omega, upto_succ hp0.2 (by first | (rw [nameCh, letB, digB]; simp only [*, decide_true, decide_false, Bool.and_true, Bool.true_and, Bool.and_false, Bool.false_and, Bool.or_false, Bool.false_or, Bool.or_true, Bool.true_or, Bool.not_true, Bool.not_false, not_false_eq_true]; done) | (rw [nameCh, letB, digB_n]; simp only [*, decide_true, decide_false, Bool.and_true, Bool.true_and, Bool.and_false, Bool.false_and, Bool.or_false, Bool.false_or, Bool.or_true, Bool.true_or, Bool.not_true, Bool.not_false, not_false_eq_true]; done))⟩ (And.intro (by first | omega | (dsimp only; omega)) (Wk.of rfl rfl (And.intro rfl (And.intro (vI (by first | rfl | omega | (simp; done) | (simp; omega))) trivial)) trivial)))
        | false =>
          replace h4 := of_decide_eq_false h4
          refine Ch.step (v := (.d (.bool (decide (((u.getD k 0) : UInt8) ≤ 57))))) rfl (.pure (.move _ rfl rfl)) rfl rfl ?_
          refine Ch.step (v := (.d (.bool (!(decide (((u.getD k 0) : UInt8) ≤ 57)))))) rfl (.pure (.not _ _ rfl rfl)) rfl rfl ?_
          refine Ch.step (v := (.d (.bool (!(decide (((u.getD k 0) : UInt8) ≤ 57)))))) rfl (.pure (.move _ rfl rfl)) rfl rfl ?_
          cases h5 : (decide (((u.getD k 0) : UInt8) ≤ 57)) with
          | true =>
            replace h5 := of_decide_eq_true h5
            refine Ch.step (v := (.d (.int .i64 ((k : Nat) : Int)))) rfl (.pure (.move _ rfl rfl)) rfl rfl ?_
            refine Ch.step (v := (.d (.bool (decide (((k : Nat) : Int) = 0))))) rfl (.pure (.int _ _ _ _ _ rfl rfl rfl rfl)) rfl rfl ?_
            refine Ch.step (v := (.d (.bool (decide (((k : Nat) : Int) = 0))))) rfl (.pure (.pickF _ _ _ rfl rfl rfl)) rfl rfl ?_
            refine Ch.step (v := (.d (.bool (decide (((k : Nat) : Int) = 0))))) rfl (.pure (.pickT _ _ _ rfl rfl rfl)) rfl rfl ?_
            refine Ch.nil ?_
            refine T_cond (b := (decide (((k : Nat) : Int) = 0))) rfl (fun h6 => ?_) (fun h6 => ?_)
            · replace h6 := of_decide_eq_true h6
              refine T_seq ?_
              refine T_region hc ?_
              refine Ch.step (v := (.d (.bool false))) rfl (.pure (.assign _ rfl rfl)) rfl rfl ?_
              refine Ch.nil ?_
              refine T_ret ?_
              refine And.intro (.inr rfl) ?_
              exact Exists.intro [(.d (.bool false))] (Exists.intro [] (Exists.intro [] (And.intro (.cons (.tmp 2 rfl) .nil) (And.intro (.cons (.any _) .nil) (And.intro (Exp.of (congrArg D.bool (by first | (rw [nameB, allB_no k (by omega) (by first | (rw [nameCh, letB, digB]; simp only [*, decide_true, decide_false, Bool.and_true, Bool.true_and, Bool.and_false, Bool.false_and, Bool.or_false, Bool.false_or, Bool.or_true, Bool.true_or, Bool.not_true, Bool.not_false, not_false_eq_true]; done) | (rw [nameCh, letB, digB_n]; simp only [*, decide_true, decide_false, Bool.and_true, Bool.true_and, Bool.and_false, Bool.false_and, Bool.or_false, Bool.false_or, Bool.or_true, Bool.true_or, Bool.not_true, Bool.not_false, not_false_eq_true]; done))]; rfl) | (rw [nameB, allB_of (fun j hj => hp0.2 j (by omega)), Bool.true_and]; done))) (.d _)) (And.intro rfl rfl))))))
            · replace h6 := of_decide_eq_false h6
              refine T_skip ?_
              refine T_region hc ?_
              refine Ch.step (v := (.d (.int .i64 ((k : Nat) : Int)))) rfl (.pure (.move _ rfl rfl)) rfl rfl ?_
              refine Ch.step (v := (.d (.int .i64 (((k : Nat) : Int) + 1)))) rfl (.pure (.int _ _ _ _ _ rfl rfl rfl (intV_add (by first | omega | (simp only [List.length_map, List.length_append, List.length_take, List.length_drop, List.length_cons, List.length_nil]; omega) | (simp; omega) | (simp; done)) (by first | omega | (simp only [List.length_map, List.length_append, List.length_take, List.length_drop, List.length_cons, List.length_nil]; omega) | (simp; omega) | (simp; done))))) rfl rfl ?_
              refine Ch.step (v := (.d (.int .i64 (((k : Nat) : Int) + 1)))) rfl (.pure (.assign _ rfl rfl)) rfl rfl ?_
              refine Ch.nil ?_
              refine Exists.intro (k + 1) (And.intro ⟨by omega, upto_succ hp0.2 (by first | (rw [nameCh, letB, digB]; simp only [*, decide_true, decide_false, Bool.and_true, Bool.true_and, Bool.and_false, Bool.false_and, Bool.or_false, Bool.false_or, Bool.or_true, Bool.true_or, Bool.not_true, Bool.not_false, not_false_eq_true]; done) | (rw [nameCh, letB, digB_n]; simp only [*, decide_true, decide_false, Bool.and_true, Bool.true_and, Bool.and_false, Bool.false_and, Bool.or_false, Bool.false_or, Bool.or_true, Bool.true_or, Bool.not_true, Bool.not_false, not_false_eq_true]; done))⟩ (And.intro (by first | omega | (dsimp only; omega)) (Wk.of rfl rfl (And.intro rfl (And.intro (vI (by first | rfl | omega | (simp; done) | (simp; omega))) trivial)) trivial)))
          | false =>
            replace h5 := of_decide_eq_false h5
            refine Ch.skip rfl rfl ?_
            refine Ch.skip rfl rfl ?_
            refine Ch.step (v := (.d (.bool true))) rfl (.pure (.pickT _ _ _ rfl rfl rfl)) rfl rfl ?_
            refine Ch.step (v := (.d (.bool true))) rfl (.pure (.pickT _ _ _ rfl rfl rfl)) rfl rfl ?_
            refine Ch.nil ?_
            refine T_cond (b := true) rfl (fun _ => ?_) (fun h => nomatch h)
            refine T_seq ?_
            refine T_region hc ?_
            refine Ch.step (v := (.d (.bool false))) rfl (.pure (.assign _ rfl rfl)) rfl rfl ?_
            refine Ch.nil ?_
            refine T_ret ?_
            refine And.intro (.inr rfl) ?_
            exact Exists.intro [(.d (.bool false))] (Exists.intro [] (Exists.intro [] (And.intro (.cons (.tmp 2 rfl) .nil) (And.intro (.cons (.any _) .nil) (And.intro (Exp.of (congrArg D.bool (by first | (rw [nameB, allB_no k (by omega) (by first | (rw [nameCh, letB, digB]; simp only [*, decide_true, decide_false, Bool.and_true, Bool.true_and, Bool.and_false, Bool.false_and, Bool.or_false, Bool.false_or, Bool.or_true, Bool.true_or, Bool.not_true, Bool.not_false, not_false_eq_true]; done) | (rw [nameCh, letB, digB_n]; simp only [*, decide_true, decide_false, Bool.and_true, Bool.true_and, Bool.and_false, Bool.false_and, Bool.or_false, Bool.false_or, Bool.or_true, Bool.true_or, Bool.not_true, Bool.not_false, not_false_eq_true]; done))]; rfl) | (rw [nameB, allB_of (fun j hj => hp0.2 j (by omega)), Bool.true_and]; done))) (.d _)) (And.intro rfl rfl))))))
      | false =>
        replace h3 := of_decide_eq_false h3
        refine ChD.skip rfl rfl ?_
        refine ChD.skip rfl rfl ?_
        refine ChD.skip rfl rfl ?_
        refine ChD.skip rfl rfl ?_
        refine ChD.step (v := (.d (.bool false))) [] rfl (.pure (.pickF _ _ _ rfl rfl rfl)) rfl rfl ?_
        refine ChD.step (v := (.d (.bool (decide (((u.getD k 0) : UInt8) ≤ 122))))) [] rfl (.pure (.assign _ rfl rfl)) rfl rfl ?_
        refine ChD.step (v := (.d (.bool false))) [] rfl (.pure (.assign _ rfl rfl)) rfl rfl ?_
        refine ChD.nil (And.intro ?_ (by kernel_rfl))
        refine T_seq ?_
        refine T_region hc ?_
        refine Ch.step (v := (.d (.bool (decide (((u.getD k 0) : UInt8) ≤ 122))))) rfl (.pure (.move _ rfl rfl)) rfl rfl ?_
        refine Ch.step (v := (.d (.bool (!(decide (((u.getD k 0) : UInt8) ≤ 122)))))) rfl (.pure (.not _ _ rfl rfl)) rfl rfl ?_
        refine Ch.step (v := (.d (.bool (!(decide (((u.getD k 0) : UInt8) ≤ 122)))))) rfl (.pure (.move _ rfl rfl)) rfl rfl ?_
        cases h7 : (decide (((u.getD k 0) : UInt8) ≤ 122)) with
        | true =>
          replace h7 := of_decide_eq_true h7
          refine Ch.skip rfl rfl ?_
          refine Ch.skip rfl rfl ?_
          refine Ch.skip rfl rfl ?_
          refine Ch.skip rfl rfl ?_
          refine Ch.skip rfl rfl ?_
          refine Ch.skip rfl rfl ?_
          refine Ch.step (v := (.d (.bool false))) rfl (.pure (.pickF _ _ _ rfl rfl rfl)) rfl rfl ?_
          refine Ch.nil ?_
          refine T_cond (b := false) rfl (fun h => nomatch h) (fun _ => ?_)
          refine T_skip ?_
          refine T_region hc ?_
          refine Ch.step (v := (.d (.int .i64 ((k : Nat) : Int)))) rfl (.pure (.move _ rfl rfl)) rfl rfl ?_
          refine Ch.step (v := (.d (.int .i64 (((k : Nat) : Int) + 1)))) rfl (.pure (.int _ _ _ _ _ rfl rfl rfl (intV_add (by first | omega | (simp only [List.length_map, List.length_append, List.length_take, List.length_drop, List.length_cons, List.length_nil]; omega) | (simp; omega) | (simp; done)) (by first | omega | (simp only [List.length_map, List.length_append, List.length_take, List.length_drop, List.length_cons, List.length_nil]; omega) | (simp; omega) | (simp; done))))) rfl rfl ?_
          refine Ch.step (v := (.d (.int .i64 (((k : Nat) : Int) + 1)))) rfl (.pure (.assign _ rfl rfl)) rfl rfl ?_
          refine Ch.nil ?_
          refine Exists.intro (k + 1) (And.intro ⟨by omega, upto_succ hp0.2 (by first | (rw [nameCh, letB, digB]; simp only [*, decide_true, decide_false, Bool.and_true, Bool.true_and, Bool.and_false, Bool.false_and, Bool.or_false, Bool.false_or, Bool.or_true, Bool.true_or, Bool.not_true, Bool.not_false, not_false_eq_true]; done) | (rw [nameCh, letB, digB_n]; simp only [*, decide_true, decide_false, Bool.and_true, Bool.true_and, Bool.and_false, Bool.false_and, Bool.or_false, Bool.false_or, Bool.or_true, Bool.true_or, Bool.not_true, Bool.not_false, not_false_eq_true]; done))⟩ (And.intro (by first | omega | (dsimp only; omega)) (Wk.of rfl rfl (And.intro rfl (And.intro (vI (by first | rfl | omega | (simp; done) | (simp; omega))) trivial)) trivial)))
        | false =>
          replace h7 := of_decide_eq_false h7
          refine Ch.step (v := (.d (.bool false))) rfl (.pure (.move _ rfl rfl)) rfl rfl ?_
          refine Ch.step (v := (.d (.bool true))) rfl (.pure (.not (b := false) _ _ rfl rfl)) rfl rfl ?_
          refine Ch.step (v := (.d (.bool true))) rfl (.pure (.move _ rfl rfl)) rfl rfl ?_
          refine Ch.skip rfl rfl ?_
          refine Ch.skip rfl rfl ?_
          refine Ch.step (v := (.d (.bool true))) rfl (.pure (.pickT _ _ _ rfl rfl rfl)) rfl rfl ?_
          refine Ch.step (v := (.d (.bool true))) rfl (.pure (.pickT _ _ _ rfl rfl rfl)) rfl rfl ?_
          refine Ch.nil ?_
          refine T_cond (b := true) rfl (fun _ => ?_) (fun h => nomatch h)
          refine T_seq ?_
          refine T_region hc ?_
          refine Ch.step (v := (.d (.bool false))) rfl (.pure (.assign _ rfl rfl)) rfl rfl ?_
          refine Ch.nil ?_
          refine T_ret ?_
          refine And.intro (.inr rfl) ?_
          exact Exists.intro [(.d (.bool false))] (Exists.intro [] (Exists.intro [] (And.intro (.cons (.tmp 2 rfl) .nil) (And.intro (.cons (.any _) .nil) (And.intro (Exp.of (congrArg D.bool (by first | (rw [nameB, allB_no k (by omega) (by first | (rw [nameCh, letB, digB]; simp only [*, decide_true, decide_false, Bool.and_true, Bool.true_and, Bool.and_false, Bool.false_and, Bool.or_false, Bool.false_or, Bool.or_true, Bool.true_or, Bool.not_true, Bool.not_false, not_false_eq_true]; done) | (rw [nameCh, letB, digB_n]; simp only [*, decide_true, decide_false, Bool.and_true, Bool.true_and, Bool.and_false, Bool.false_and, Bool.or_false, Bool.false_or, Bool.or_true, Bool.true_or, Bool.not_true, Bool.not_false, not_false_eq_true]; done))]; rfl) | (rw [nameB, allB_of (fun j hj => hp0.2 j (by omega)), Bool.true_and]; done))) (.d _)) (And.intro rfl rfl))))))
    | false =>
      replace h2 := of_decide_eq_false h2
      refine ChD.skip rfl rfl ?_
      refine ChD.skip rfl rfl ?_
      refine ChD.skip rfl rfl ?_
      refine ChD.skip rfl rfl ?_
      refine ChD.step (v := (.d (.bool false))) [] rfl (.pure (.pickF _ _ _ rfl rfl rfl)) rfl rfl ?_
      refine ChD.step (v := (.d (.str u))) [] rfl (.pure (.move _ rfl rfl)) rfl rfl ?_
      refine ChD.step (v := (.d (.int .i64 ((k : Nat) : Int)))) [] rfl (.pure (.move _ rfl rfl)) rfl rfl ?_
      refine ChD.step (v := (.d (.int .u8 ((u.getD k 0).toNat : Int)))) [] rfl (.pure (.idxStr _ _ _ (k) rfl Try.underlying9 rfl rfl rfl (get_str (by first | omega | (simp only [List.length_map, List.length_append, List.length_take, List.length_drop, List.length_cons, List.length_nil]; omega) | (simp; omega) | (simp; done))))) rfl rfl ?_
      refine ChD.step (v := (.d (.bool (decide (48 ≤ ((u.getD k 0) : UInt8)))))) [] rfl (.pure (.int _ _ _ _ _ rfl rfl rfl (u8_geq ((u.getD k 0) : UInt8) 48 rfl rfl))) rfl rfl ?_
      refine ChD.step (v := (.d (.bool (decide (48 ≤ ((u.getD k 0) : UInt8)))))) [] rfl (.pure (.move _ rfl rfl)) rfl rfl ?_
      cases h8 : (decide (48 ≤ ((u.getD k 0) : UInt8))) with
      | true =>
        replace h8 := of_decide_eq_true h8
        refine ChD.step (v := (.d (.str u))) [] rfl (.pure (.move _ rfl rfl)) rfl rfl ?_
        refine ChD.step (v := (.d (.int .i64 ((k : Nat) : Int)))) [] rfl (.pure (.move _ rfl rfl)) rfl rfl ?_
        refine ChD.step (v := (.d (.int .u8 ((u.getD k 0).toNat : Int)))) [] rfl (.pure (.idxStr _ _ _ (k) rfl Try.underlying9 rfl rfl rfl (get_str (by first | omega | (simp only [List.length_map, List.length_append, List.length_take, List.length_drop, List.length_cons, List.length_nil]; omega) | (simp; omega) | (simp; done))))) rfl rfl ?_
        refine ChD.step (v := (.d (.bool (decide (((u.getD k 0) : UInt8) ≤ 57))))) [] rfl (.pure (.int _ _ _ _ _ rfl rfl rfl (u8_leq ((u.getD k 0) : UInt8) 57 rfl rfl))) rfl rfl ?_
        refine ChD.step (v := (.d (.bool (decide (((u.getD k 0) : UInt8) ≤ 57))))) [] rfl (.pure (.pickT _ _ _ rfl rfl rfl)) rfl rfl ?_
        refine ChD.step (v := (.d (.bool false))) [] rfl (.pure (.assign _ rfl rfl)) rfl rfl ?_
        refine ChD.step (v := (.d (.bool (decide (((u.getD k 0) : UInt8) ≤ 57))))) [] rfl (.pure (.assign _ rfl rfl)) rfl rfl ?_
        refine ChD.nil (And.intro ?_ (by kernel_rfl))
        refine T_seq ?_
        refine T_region hc ?_
        refine Ch.step (v := (.d (.bool false))) rfl (.pure (.move _ rfl rfl)) rfl rfl ?_
        refine Ch.step (v := (.d (.bool true))) rfl (.pure (.not (b := false) _ _ rfl rfl)) rfl rfl ?_
        refine Ch.step (v := (.d (.bool true))) rfl (.pure (.move _ rfl rfl)) rfl rfl ?_
        refine Ch.step (v := (.d (.bool (decide (((u.getD k 0) : UInt8) ≤ 57))))) rfl (.pure (.move _ rfl rfl)) rfl rfl ?_
        refine Ch.step (v := (.d (.bool (!(decide (((u.getD k 0) : UInt8) ≤ 57)))))) rfl (.pure (.not _ _ rfl rfl)) rfl rfl ?_
        refine Ch.step (v := (.d (.bool (!(decide (((u.getD k 0) : UInt8) ≤ 57)))))) rfl (.pure (.move _ rfl rfl)) rfl rfl ?_
        cases h9 : (decide (((u.getD k 0) : UInt8) ≤ 57)) with
        | true =>
          replace h9 := of_decide_eq_true h9
          refine Ch.step (v := (.d (.int .i64 ((k : Nat) : Int)))) rfl (.pure (.move _ rfl rfl)) rfl rfl ?_
          refine Ch.step (v := (.d (.bool (decide (((k : Nat) : Int) = 0))))) rfl (.pure (.int _ _ _ _ _ rfl rfl rfl rfl)) rfl rfl ?_
          refine Ch.step (v := (.d (.bool (decide (((k : Nat) : Int) = 0))))) rfl (.pure (.pickF _ _ _ rfl rfl rfl)) rfl rfl ?_
          refine Ch.step (v := (.d (.bool (decide (((k : Nat) : Int) = 0))))) rfl (.pure (.pickT _ _ _ rfl rfl rfl)) rfl rfl ?_
          refine Ch.nil ?_
          refine T_cond (b := (decide (((k : Nat) : Int) = 0))) rfl (fun h10 => ?_) (fun h10 => ?_)
          · replace h10 := of_decide_eq_true h10
            refine T_seq ?_
            refine T_region hc ?_
            refine Ch.step (v := (.d (.bool false))) rfl (.pure (.assign _ rfl rfl)) rfl rfl ?_
            refine Ch.nil ?_
            refine T_ret ?_
            refine And.intro (.inr rfl) ?_
            exact Exists.intro [(.d (.bool false))] (Exists.intro [] (Exists.intro [] (And.intro (.cons (.tmp 2 rfl) .nil) (And.intro (.cons (.any _) .nil) (And.intro (Exp.of (congrArg D.bool (by first | (rw [nameB, allB_no k (by omega) (by first | (rw [nameCh, letB, digB]; simp only [*, decide_true, decide_false, Bool.and_true, Bool.true_and, Bool.and_false, Bool.false_and, Bool.or_false, Bool.false_or, Bool.or_true, Bool.true_or, Bool.not_true, Bool.not_false, not_false_eq_true]; done) | (rw [nameCh, letB, digB_n]; simp only [*, decide_true, decide_false, Bool.and_true, Bool.true_and, Bool.and_false, Bool.false_and, Bool.or_false, Bool.false_or, Bool.or_true, Bool.true_or, Bool.not_true, Bool.not_false, not_false_eq_true]; done))]; rfl) | (rw [nameB, allB_of (fun j hj => hp0.2 j (by omega)), Bool.true_and]; done))) (.d _)) (And.intro rfl rfl))))))
          · replace h10 := of_decide_eq_false h10
            refine T_skip ?_
            refine T_region hc ?_
            refine Ch.step (v := (.d (.int .i64 ((k : Nat) : Int)))) rfl (.pure (.move _ rfl rfl)) rfl rfl ?_
            refine Ch.step (v := (.d (.int .i64 (((k : Nat) : Int) + 1)))) rfl (.pure (.int _ _ _ _ _ rfl rfl rfl (intV_add (by first | omega | (simp only [List.length_map, List.length_append, List.length_take, List.length_drop, List.length_cons, List.length_nil]; omega) | (simp; omega) | (simp; done)) (by first | omega | (simp only [List.length_map, List.length_append, List.length_take, List.length_drop, List.length_cons, List.length_nil]; omega) | (simp; omega) | (simp; done))))) rfl rfl ?_
            refine Ch.step (v := (.d (.int .i64 (((k : Nat) : Int) + 1)))) rfl (.pure (.assign _ rfl rfl)) rfl rfl ?_
            refine Ch.nil ?_
            refine Exists.intro (k + 1) (And.intro ⟨by omega, upto_succ hp0.2 (by first | (rw [nameCh, letB, digB]; simp only [*, decide_true, decide_false, Bool.and_true, Bool.true_and, Bool.and_false, Bool.false_and, Bool.or_false, Bool.false_or, Bool.or_true, Bool.true_or, Bool.not_true, Bool.not_false, not_false_eq_true]; done) | (rw [nameCh, letB, digB_n]; simp only [*, decide_true, decide_false, Bool.and_true, Bool.true_and, Bool.and_false, Bool.false_and, Bool.or_false, Bool.false_or, Bool.or_true, Bool.true_or, Bool.not_true, Bool.not_false, not_false_eq_true]; done))⟩ (And.intro (by first | omega | (dsimp only; omega)) (Wk.of rfl rfl (And.intro rfl (And.intro (vI (by first | rfl | omega | (simp; done) | (simp; omega))) trivial)) trivial)))
        | false =>
          replace h9 := of_decide_eq_false h9
          refine Ch.skip rfl rfl ?_
          refine Ch.skip rfl rfl ?_
          refine Ch.step (v := (.d (.bool true))) rfl (.pure (.pickT _ _ _ rfl rfl rfl)) rfl rfl ?_
          refine Ch.step (v := (.d (.bool true))) rfl (.pure (.pickT _ _ _ rfl rfl rfl)) rfl rfl ?_
          refine Ch.nil ?_
          refine T_cond (b := true) rfl (fun _ => ?_) (fun h => nomatch h)
          refine T_seq ?_
          refine T_region hc ?_
          refine Ch.step (v := (.d (.bool false))) rfl (.pure (.assign _ rfl rfl)) rfl rfl ?_
          refine Ch.nil ?_
          refine T_ret ?_
          refine And.intro (.inr rfl) ?_
          exact Exists.intro [(.d (.bool false))] (Exists.intro [] (Exists.intro [] (And.intro (.cons (.tmp 2 rfl) .nil) (And.intro (.cons (.any _) .nil) (And.intro (Exp.of (congrArg D.bool (by first | (rw [nameB, allB_no k (by omega) (by first | (rw [nameCh, letB, digB]; simp only [*, decide_true, decide_false, Bool.and_true, Bool.true_and, Bool.and_false, Bool.false_and, Bool.or_false, Bool.false_or, Bool.or_true, Bool.true_or, Bool.not_true, Bool.not_false, not_false_eq_true]; done) | (rw [nameCh, letB, digB_n]; simp only [*, decide_true, decide_false, Bool.and_true, Bool.true_and, Bool.and_false, Bool.false_and, Bool.or_false, Bool.false_or, Bool.or_true, Bool.true_or, Bool.not_true, Bool.not_false, not_false_eq_true]; done))]; rfl) | (rw [nameB, allB_of (fun j hj => hp0.2 j (by omega)), Bool.true_and]; done))) (.d _)) (And.intro rfl rfl))))))
      | false =>
        replace h8 := of_decide_eq_false h8
        refine ChD.skip rfl rfl ?_
        refine ChD.skip rfl rfl ?_
        refine ChD.skip rfl rfl ?_
        refine ChD.skip rfl rfl ?_
        refine ChD.step (v := (.d (.bool false))) [] rfl (.pure (.pickF _ _ _ rfl rfl rfl)) rfl rfl ?_
        refine ChD.step (v := (.d (.bool false))) [] rfl (.pure (.assign _ rfl rfl)) rfl rfl ?_
        refine ChD.step (v := (.d (.bool false))) [] rfl (.pure (.assign _ rfl rfl)) rfl rfl ?_
        refine ChD.nil (And.intro ?_ (by kernel_rfl))
        refine T_seq ?_
        refine T_region hc ?_
        refine Ch.step (v := (.d (.bool false))) rfl (.pure (.move _ rfl rfl)) rfl rfl ?_
        refine Ch.step (v := (.d (.bool true))) rfl (.pure (.not (b := false) _ _ rfl rfl)) rfl rfl ?_
        refine Ch.step (v := (.d (.bool true))) rfl (.pure (.move _ rfl rfl)) rfl rfl ?_
        refine Ch.step (v := (.d (.bool false))) rfl (.pure (.move _ rfl rfl)) rfl rfl ?_
        refine Ch.step (v := (.d (.bool true))) rfl (.pure (.not (b := false) _ _ rfl rfl)) rfl rfl ?_
        refine Ch.step (v := (.d (.bool true))) rfl (.pure (.move _ rfl rfl)) rfl rfl ?_
        refine Ch.skip rfl rfl ?_
        refine Ch.skip rfl rfl ?_
        refine Ch.step (v := (.d (.bool true))) rfl (.pure (.pickT _ _ _ rfl rfl rfl)) rfl rfl ?_
        refine Ch.step (v := (.d (.bool true))) rfl (.pure (.pickT _ _ _ rfl rfl rfl)) rfl rfl ?_
        refine Ch.nil ?_
        refine T_cond (b := true) rfl (fun _ => ?_) (fun h => nomatch h)
        refine T_seq ?_
        refine T_region hc ?_
        refine Ch.step (v := (.d (.bool false))) rfl (.pure (.assign _ rfl rfl)) rfl rfl ?_
        refine Ch.nil ?_
        refine T_ret ?_
        refine And.intro (.inr rfl) ?_
        exact Exists.intro [(.d (.bool false))] (Exists.intro [] (Exists.intro [] (And.intro (.cons (.tmp 2 rfl) .nil) (And.intro (.cons (.any _) .nil) (And.intro (Exp.of (congrArg D.bool (by first | (rw [nameB, allB_no k (by omega) (by first | (rw [nameCh, letB, digB]; simp only [*, decide_true, decide_false, Bool.and_true, Bool.true_and, Bool.and_false, Bool.false_and, Bool.or_false, Bool.false_or, Bool.or_true, Bool.true_or, Bool.not_true, Bool.not_false, not_false_eq_true]; done) | (rw [nameCh, letB, digB_n]; simp only [*, decide_true, decide_false, Bool.and_true, Bool.true_and, Bool.and_false, Bool.false_and, Bool.or_false, Bool.false_or, Bool.or_true, Bool.true_or, Bool.not_true, Bool.not_false, not_false_eq_true]; done))]; rfl) | (rw [nameB, allB_of (fun j hj => hp0.2 j (by omega)), Bool.true_and]; done))) (.d _)) (And.intro rfl rfl))))))
  · replace h1 := of_decide_eq_false h1
    refine T_exit ?_
    refine T_seq ?_
    refine T_region hc ?_
    refine Ch.step (v := (.d (.str u))) rfl (.pure (.move _ rfl rfl)) rfl rfl ?_
    refine Ch.step (v := (.d (.int .i64 ((u.length : Nat) : Int)))) rfl (.pure (.lenStr _ _ rfl Try.underlying9 rfl)) rfl rfl ?_
    refine Ch.step (v := (.d (.bool (withinB ((u.length : Nat) : Int) 1 6)))) rfl (.call 44000 98 _ _ _ en98 rfl (.inl rfl) (.cons (.d _) (.cons (.d _) (.cons (.d _) .nil))) rfl rfl (sp_impl_within ((u.length : Nat) : Int) 1 6) (.skip _ _ (.skip _ _ (.skip _ _ .nil))) rfl) rfl rfl ?_
    refine Ch.step (v := (.d (.bool (withinB ((u.length : Nat) : Int) 1 6)))) rfl (.pure (.assign _ rfl rfl)) rfl rfl ?_
    refine Ch.nil ?_
    refine T_ret ?_
    refine And.intro (.inr rfl) ?_
    exact Exists.intro [(.d (.bool (withinB ((u.length : Nat) : Int) 1 6)))] (Exists.intro [] (Exists.intro [] (And.intro (.cons (.tmp 2 rfl) .nil) (And.intro (.cons (.any _) .nil) (And.intro (Exp.of (congrArg D.bool (by first | (rw [nameB, allB_no k (by omega) (by first | (rw [nameCh, letB, digB]; simp only [*, decide_true, decide_false, Bool.and_true, Bool.true_and, Bool.and_false, Bool.false_and, Bool.or_false, Bool.false_or, Bool.or_true, Bool.true_or, Bool.not_true, Bool.not_false, not_false_eq_true]; done) | (rw [nameCh, letB, digB_n]; simp only [*, decide_true, decide_false, Bool.and_true, Bool.true_and, Bool.and_false, Bool.false_and, Bool.or_false, Bool.false_or, Bool.or_true, Bool.true_or, Bool.not_true, Bool.not_false, not_false_eq_true]; done))]; rfl) | (rw [nameB, allB_of (fun j hj => hp0.2 j (by omega)), Bool.true_and]; done))) (.d _)) (And.intro rfl rfl))))))

end Go.AM
