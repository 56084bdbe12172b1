/-
  The contracts that the law FnExactFormatCover needs.
-/
import Derived.Test.YtfnomecncgejbaaAmO
import Derived.Test.YtfnomecncgejbaaProg
import Derived.KernelRfl
import Derived.Test.YtfnomecncgejbaaAmP
import Derived.Test.YtfnomecncgejbaaAmW
import Derived.Test.YtfnomecncgejbaaSh
namespace Go.AM
open Go.Proofs
set_option linter.unusedVariables false
set_option linter.unusedSimpArgs false

def withinB (n lo hi : Int) : Bool := decide (lo ≤ n) && decide (n ≤ hi)

theorem sp_impl_within (n lo hi : Int) : Sp Try.prog 98 [(.int .i64 n), (.int .i64 lo), (.int .i64 hi)] [.any, .any, .any] (.bool (withinB n lo hi)) := by
  refine Sp_intro (lend := true) Try.func98 rfl rfl rfl (fun _ => rfl) (fun c hc hX => ?_)
  refine T_seq ?_
  refine T_region hc ?_
  refine Ch.step (v := (.d (.bool false))) rfl (.pure (.assign _ rfl rfl)) rfl rfl ?_
  refine Ch.nil ?_
  refine T_seq ?_
  refine T_region hc ?_
  refine Ch.step (v := (.d (.int .i64 lo))) rfl (.pure (.move _ rfl rfl)) rfl rfl ?_
  refine Ch.step (v := (.d (.int .i64 n))) rfl (.pure (.move _ rfl rfl)) rfl rfl ?_
  refine Ch.step (v := (.d (.bool (decide (lo ≤ n))))) rfl (.pure (.int _ _ _ _ _ rfl rfl rfl rfl)) rfl rfl ?_
  refine Ch.step (v := (.d (.bool (decide (lo ≤ n))))) rfl (.pure (.move _ rfl rfl)) rfl rfl ?_
  cases h1 : (decide (lo ≤ n)) with
  | true =>
    replace h1 := of_decide_eq_true h1
    refine Ch.step (v := (.d (.int .i64 n))) rfl (.pure (.move _ rfl rfl)) rfl rfl ?_
    refine Ch.step (v := (.d (.int .i64 hi))) rfl (.pure (.move _ rfl rfl)) rfl rfl ?_
    refine Ch.step (v := (.d (.bool (decide (n ≤ hi))))) rfl (.pure (.int _ _ _ _ _ rfl rfl rfl rfl)) rfl rfl ?_
    refine Ch.step (v := (.d (.bool (decide (n ≤ hi))))) rfl (.pure (.pickT _ _ _ rfl rfl rfl)) rfl rfl ?_
    refine Ch.step (v := (.d (.bool (decide (n ≤ hi))))) rfl (.pure (.assign _ rfl rfl)) rfl rfl ?_
    refine Ch.nil ?_
    refine T_ret ?_
    refine And.intro (.inr rfl) ?_
    exact Exists.intro [(.d (.bool (decide (n ≤ hi))))] (Exists.intro [] (Exists.intro [] (And.intro (.cons (.tmp 6 rfl) .nil) (And.intro (.cons (.any _) (.cons (.any _) (.cons (.any _) .nil))) (And.intro (Exp.of (congrArg D.bool (by simp [withinB] <;> omega)) (.d _)) (And.intro rfl rfl))))))
  | false =>
    replace h1 := of_decide_eq_false h1
    refine Ch.skip rfl rfl ?_
    refine Ch.skip rfl rfl ?_
    refine Ch.skip rfl rfl ?_
    refine Ch.step (v := (.d (.bool false))) rfl (.pure (.pickF _ _ _ rfl rfl rfl)) rfl rfl ?_
    refine Ch.step (v := (.d (.bool false))) rfl (.pure (.assign _ rfl rfl)) rfl rfl ?_
    refine Ch.nil ?_
    refine T_ret ?_
    refine And.intro (.inr rfl) ?_
    exact Exists.intro [(.d (.bool false))] (Exists.intro [] (Exists.intro [] (And.intro (.cons (.tmp 6 rfl) .nil) (And.intro (.cons (.any _) (.cons (.any _) (.cons (.any _) .nil))) (And.intro (Exp.of (congrArg D.bool (by simp [withinB] <;> omega)) (.d _)) (And.intro rfl rfl))))))

theorem sp_spec_l1In (n lo hi : Int) : Sp Try.prog 118 [(.int .i64 n), (.int .i64 lo), (.int .i64 hi)] [.any, .any, .any] (.bool (withinB n lo hi)) := by
  refine Sp_intro (lend := true) Try.func118 rfl rfl rfl (fun _ => rfl) (fun c hc hX => ?_)
  refine T_seq ?_
  refine T_region hc ?_
  refine Ch.step (v := (.d (.bool false))) rfl (.pure (.assign _ rfl rfl)) rfl rfl ?_
  refine Ch.nil ?_
  refine T_seq ?_
  refine T_region hc ?_
  refine Ch.step (v := (.d (.int .i64 n))) rfl (.pure (.move _ rfl rfl)) rfl rfl ?_
  refine Ch.step (v := (.d (.int .i64 lo))) rfl (.pure (.move _ rfl rfl)) rfl rfl ?_
  refine Ch.step (v := (.d (.bool (decide (lo ≤ n))))) rfl (.pure (.int _ _ _ _ _ rfl rfl rfl rfl)) rfl rfl ?_
  refine Ch.step (v := (.d (.bool (decide (lo ≤ n))))) rfl (.pure (.move _ rfl rfl)) rfl rfl ?_
  cases h1 : (decide (lo ≤ n)) with
  | true =>
    replace h1 := of_decide_eq_true h1
    refine Ch.step (v := (.d (.int .i64 n))) rfl (.pure (.move _ rfl rfl)) rfl rfl ?_
    refine Ch.step (v := (.d (.int .i64 hi))) rfl (.pure (.move _ rfl rfl)) rfl rfl ?_
    refine Ch.step (v := (.d (.bool (decide (n ≤ hi))))) rfl (.pure (.int _ _ _ _ _ rfl rfl rfl rfl)) rfl rfl ?_
    refine Ch.step (v := (.d (.bool (decide (n ≤ hi))))) rfl (.pure (.pickT _ _ _ rfl rfl rfl)) rfl rfl ?_
    refine Ch.step (v := (.d (.bool (decide (n ≤ hi))))) rfl (.pure (.assign _ rfl rfl)) rfl rfl ?_
    refine Ch.nil ?_
    refine T_ret ?_
    refine And.intro (.inr rfl) ?_
    exact Exists.intro [(.d (.bool (decide (n ≤ hi))))] (Exists.intro [] (Exists.intro [] (And.intro (.cons (.tmp 6 rfl) .nil) (And.intro (.cons (.any _) (.cons (.any _) (.cons (.any _) .nil))) (And.intro (Exp.of (congrArg D.bool (by simp [withinB] <;> omega)) (.d _)) (And.intro rfl rfl))))))
  | false =>
    replace h1 := of_decide_eq_false h1
    refine Ch.skip rfl rfl ?_
    refine Ch.skip rfl rfl ?_
    refine Ch.skip rfl rfl ?_
    refine Ch.step (v := (.d (.bool false))) rfl (.pure (.pickF _ _ _ rfl rfl rfl)) rfl rfl ?_
    refine Ch.step (v := (.d (.bool false))) rfl (.pure (.assign _ rfl rfl)) rfl rfl ?_
    refine Ch.nil ?_
    refine T_ret ?_
    refine And.intro (.inr rfl) ?_
    exact Exists.intro [(.d (.bool false))] (Exists.intro [] (Exists.intro [] (And.intro (.cons (.tmp 6 rfl) .nil) (And.intro (.cons (.any _) (.cons (.any _) (.cons (.any _) .nil))) (And.intro (Exp.of (congrArg D.bool (by simp [withinB] <;> omega)) (.d _)) (And.intro rfl rfl))))))

theorem en118 : Enters Try.prog 118 := ⟨_, Try.func118, by kernel_rfl, rfl⟩

theorem en98 : Enters Try.prog 98 := ⟨_, Try.func98, by kernel_rfl, rfl⟩

def cubeCh (x : UInt8) : Bool := x == 48 || x == 49 || x == 45

def cubeS (s : List UInt8) : Bool := allB s.length (fun j => cubeCh (s.getD j 0))

def cubeB (s : List UInt8) : Bool := cubeS s && withinB s.length 1 8

def cubeN (s : List UInt8) (n : Int) : Bool := cubeS s && decide ((s.length : Int) = n) && withinB n 1 8

theorem sp_spec_l13Cube (s : List UInt8) (hs : s.length ≤ 1048576) : Sp Try.prog 117 [(.str s)] [.any] (.bool (cubeB s)) := by
  refine Sp_intro (lend := true) Try.func117 rfl rfl rfl (fun _ => rfl) (fun c hc hX => ?_)
  refine T_seq ?_
  refine T_region hc ?_
  refine Ch.step (v := (.d (.bool false))) rfl (.pure (.assign _ rfl rfl)) rfl rfl ?_
  refine Ch.nil ?_
  refine T_seq ?_
  refine T_seq ?_
  refine T_region hc ?_
  refine Ch.step (v := (.d (.int .i64 0))) rfl (.pure (.assign _ rfl rfl)) rfl rfl ?_
  refine Ch.nil ?_
  refine T_block ?_
  refine T_loop (ι := Nat) (fun k => { n := 29, sl := [(0, (.d (.str s))), (3, (.d (.int .i64 ((k : Nat) : Int))))], hp := [], pin := [] }) (fun k => k ≤ s.length ∧ ∀ j, j < k → cubeCh (s.getD j 0) = true) (fun k => s.length - k) ⟨0, ⟨by omega, fun j hj => by omega⟩, (Wk.of rfl rfl (And.intro rfl (And.intro (vI (by first | rfl | omega | (simp; done) | (simp; omega))) trivial)) trivial)⟩ (fun k hp0 => ?_)
  refine T_seq ?_
  refine T_seq ?_
  refine T_region hc ?_
  refine Ch.step (v := (.d (.int .i64 ((k : Nat) : Int)))) rfl (.pure (.move _ rfl rfl)) rfl rfl ?_
  refine Ch.step (v := (.d (.str s))) rfl (.pure (.move _ rfl rfl)) rfl rfl ?_
  refine Ch.step (v := (.d (.int .i64 ((s.length : Nat) : Int)))) rfl (.pure (.lenStr _ _ rfl Try.underlying9 rfl)) rfl rfl ?_
  refine Ch.step (v := (.d (.bool (decide (((k : Nat) : Int) < ((s.length : Nat) : Int)))))) rfl (.pure (.int _ _ _ _ _ rfl rfl rfl rfl)) rfl rfl ?_
  refine Ch.nil ?_
  refine T_cond (b := (decide (((k : Nat) : Int) < ((s.length : Nat) : Int)))) rfl (fun h1 => ?_) (fun h1 => ?_)
  · replace h1 := of_decide_eq_true h1
    refine T_skip ?_
    refine T_seq ?_
    refine T_block ?_
    refine T_seq ?_
    refine T_region hc ?_
    refine Ch.step (v := (.d (.str s))) rfl (.pure (.move _ rfl rfl)) rfl rfl ?_
    refine Ch.step (v := (.d (.int .i64 ((k : Nat) : Int)))) rfl (.pure (.move _ rfl rfl)) rfl rfl ?_
    refine Ch.step (v := (.d (.int .u8 ((s.getD k 0).toNat : Int)))) rfl (.pure (.idxStr _ _ _ (k) rfl Try.underlying9 rfl rfl rfl (get_str (by first | omega | (simp only [List.length_map, List.length_append, List.length_take, List.length_drop, List.length_cons, List.length_nil]; omega) | (simp; omega) | (simp; done))))) rfl rfl ?_
    refine Ch.step (v := (.d (.bool (!(decide (((s.getD k 0) : UInt8) = 48)))))) rfl (.pure (.int _ _ _ _ _ rfl rfl rfl (u8_neq ((s.getD k 0) : UInt8) 48 rfl rfl))) rfl rfl ?_
    refine Ch.step (v := (.d (.bool (!(decide (((s.getD k 0) : UInt8) = 48)))))) rfl (.pure (.move _ rfl rfl)) rfl rfl ?_
    cases h2 : (decide (((s.getD k 0) : UInt8) = 48)) with
    | true =>
      replace h2 := of_decide_eq_true h2
      refine Ch.skip rfl rfl ?_
      refine Ch.skip rfl rfl ?_
      refine Ch.skip rfl rfl ?_
      refine Ch.skip rfl rfl ?_
      refine Ch.step (v := (.d (.bool false))) rfl (.pure (.pickF _ _ _ rfl rfl rfl)) rfl rfl ?_
      refine Ch.step (v := (.d (.bool false))) rfl (.pure (.move _ rfl rfl)) rfl rfl ?_
      refine Ch.skip rfl rfl ?_
      refine Ch.skip rfl rfl ?_
      refine Ch.skip rfl rfl ?_
      refine Ch.skip rfl rfl ?_
      refine Ch.step (v := (.d (.bool false))) rfl (.pure (.pickF _ _ _ rfl rfl rfl)) rfl rfl ?_
      refine Ch.nil ?_
      refine T_cond (b := false) rfl (fun h => nomatch h) (fun _ => ?_)
      refine T_skip ?_
      refine T_region hc ?_
      refine Ch.step (v := (.d (.int .i64 ((k : Nat) : Int)))) rfl (.pure (.move _ rfl rfl)) rfl rfl ?_
      refine Ch.step (v := (.d (.int .i64 (((k : Nat) : Int) + 1)))) rfl (.pure (.int _ _ _ _ _ rfl rfl rfl (intV_add (by first | omega | (simp only [List.length_map, List.length_append, List.length_take, List.length_drop, List.length_cons, List.length_nil]; omega) | (simp; omega) | (simp; done)) (by first | omega | (simp only [List.length_map, List.length_append, List.length_take, List.length_drop, List.length_cons, List.length_nil]; omega) | (simp; omega) | (simp; done))))) rfl rfl ?_
      refine Ch.step (v := (.d (.int .i64 (((k : Nat) : Int) + 1)))) rfl (.pure (.assign _ rfl rfl)) rfl rfl ?_
      refine Ch.nil ?_
      refine Exists.intro (k + 1) (And.intro ⟨by omega, upto_succ hp0.2 (by simp_all [cubeCh])⟩ (And.intro (by first | omega | (dsimp only; omega)) (Wk.of rfl rfl (And.intro rfl (And.intro (vI (by first | rfl | omega | (simp; done) | (simp; omega))) trivial)) trivial)))
    | false =>
      replace h2 := of_decide_eq_false h2
      refine Ch.step (v := (.d (.str s))) rfl (.pure (.move _ rfl rfl)) rfl rfl ?_
      refine Ch.step (v := (.d (.int .i64 ((k : Nat) : Int)))) rfl (.pure (.move _ rfl rfl)) rfl rfl ?_
      refine Ch.step (v := (.d (.int .u8 ((s.getD k 0).toNat : Int)))) rfl (.pure (.idxStr _ _ _ (k) rfl Try.underlying9 rfl rfl rfl (get_str (by first | omega | (simp only [List.length_map, List.length_append, List.length_take, List.length_drop, List.length_cons, List.length_nil]; omega) | (simp; omega) | (simp; done))))) rfl rfl ?_
      refine Ch.step (v := (.d (.bool (!(decide (((s.getD k 0) : UInt8) = 49)))))) rfl (.pure (.int _ _ _ _ _ rfl rfl rfl (u8_neq ((s.getD k 0) : UInt8) 49 rfl rfl))) rfl rfl ?_
      refine Ch.step (v := (.d (.bool (!(decide (((s.getD k 0) : UInt8) = 49)))))) rfl (.pure (.pickT _ _ _ rfl rfl rfl)) rfl rfl ?_
      refine Ch.step (v := (.d (.bool (!(decide (((s.getD k 0) : UInt8) = 49)))))) rfl (.pure (.move _ rfl rfl)) rfl rfl ?_
      cases h3 : (decide (((s.getD k 0) : UInt8) = 49)) with
      | true =>
        replace h3 := of_decide_eq_true h3
        refine Ch.skip rfl rfl ?_
        refine Ch.skip rfl rfl ?_
        refine Ch.skip rfl rfl ?_
        refine Ch.skip rfl rfl ?_
        refine Ch.step (v := (.d (.bool false))) rfl (.pure (.pickF _ _ _ rfl rfl rfl)) rfl rfl ?_
        refine Ch.nil ?_
        refine T_cond (b := false) rfl (fun h => nomatch h) (fun _ => ?_)
        refine T_skip ?_
        refine T_region hc ?_
        refine Ch.step (v := (.d (.int .i64 ((k : Nat) : Int)))) rfl (.pure (.move _ rfl rfl)) rfl rfl ?_
        refine Ch.step (v := (.d (.int .i64 (((k : Nat) : Int) + 1)))) rfl (.pure (.int _ _ _ _ _ rfl rfl rfl (intV_add (by first | omega | (simp only [List.length_map, List.length_append, List.length_take, List.length_drop, List.length_cons, List.length_nil]; omega) | (simp; omega) | (simp; done)) (by first | omega | (simp only [List.length_map, List.length_append, List.length_take, List.length_drop, List.length_cons, List.length_nil]; omega) | (simp; omega) | (simp; done))))) rfl rfl ?_
        refine Ch.step (v := (.d (.int .i64 (((k : Nat) : Int) + 1)))) rfl (.pure (.assign _ rfl rfl)) rfl rfl ?_
        refine Ch.nil ?_
        refine Exists.intro (k + 1) (And.intro ⟨by omega, upto_succ hp0.2 (by simp_all [cubeCh])⟩ (And.intro (by first | omega | (dsimp only; omega)) (Wk.of rfl rfl (And.intro rfl (And.intro (vI (by first | rfl | omega | (simp; done) | (simp; omega))) trivial)) trivial)))
      | false =>
        replace h3 := of_decide_eq_false h3
        refine Ch.step (v := (.d (.str s))) rfl (.pure (.move _ rfl rfl)) rfl rfl ?_
        refine Ch.step (v := (.d (.int .i64 ((k : Nat) : Int)))) rfl (.pure (.move _ rfl rfl)) rfl rfl ?_
        refine Ch.step (v := (.d (.int .u8 ((s.getD k 0).toNat : Int)))) rfl (.pure (.idxStr _ _ _ (k) rfl Try.underlying9 rfl rfl rfl (get_str (by first | omega | (simp only [List.length_map, List.length_append, List.length_take, List.length_drop, List.length_cons, List.length_nil]; omega) | (simp; omega) | (simp; done))))) rfl rfl ?_
        refine Ch.step (v := (.d (.bool (!(decide (((s.getD k 0) : UInt8) = 45)))))) rfl (.pure (.int _ _ _ _ _ rfl rfl rfl (u8_neq ((s.getD k 0) : UInt8) 45 rfl rfl))) rfl rfl ?_
        refine Ch.step (v := (.d (.bool (!(decide (((s.getD k 0) : UInt8) = 45)))))) rfl (.pure (.pickT _ _ _ rfl rfl rfl)) rfl rfl ?_
        refine Ch.nil ?_
        refine T_cond (b := (!(decide (((s.getD k 0) : UInt8) = 45)))) rfl (fun h4 => ?_) (fun h4 => ?_)
        · replace h4 := nott h4
          replace h4 := of_decide_eq_false h4
          refine T_seq ?_
          refine T_region hc ?_
          refine Ch.step (v := (.d (.bool false))) rfl (.pure (.assign _ rfl rfl)) rfl rfl ?_
          refine Ch.nil ?_
          refine T_ret ?_
          refine And.intro (.inr rfl) ?_
          exact Exists.intro [(.d (.bool false))] (Exists.intro [] (Exists.intro [] (And.intro (.cons (.tmp 2 rfl) .nil) (And.intro (.cons (.any _) .nil) (And.intro (Exp.of (congrArg D.bool (by rw [cubeB, cubeS, allB_no k (by omega) (by simp_all [cubeCh])]; rfl)) (.d _)) (And.intro rfl rfl))))))
        · replace h4 := notf h4
          replace h4 := of_decide_eq_true h4
          refine T_skip ?_
          refine T_region hc ?_
          refine Ch.step (v := (.d (.int .i64 ((k : Nat) : Int)))) rfl (.pure (.move _ rfl rfl)) rfl rfl ?_
          refine Ch.step (v := (.d (.int .i64 (((k : Nat) : Int) + 1)))) rfl (.pure (.int _ _ _ _ _ rfl rfl rfl (intV_add (by first | omega | (simp only [List.length_map, List.length_append, List.length_take, List.length_drop, List.length_cons, List.length_nil]; omega) | (simp; omega) | (simp; done)) (by first | omega | (simp only [List.length_map, List.length_append, List.length_take, List.length_drop, List.length_cons, List.length_nil]; omega) | (simp; omega) | (simp; done))))) rfl rfl ?_
          refine Ch.step (v := (.d (.int .i64 (((k : Nat) : Int) + 1)))) rfl (.pure (.assign _ rfl rfl)) rfl rfl ?_
          refine Ch.nil ?_
          refine Exists.intro (k + 1) (And.intro ⟨by omega, upto_succ hp0.2 (by simp_all [cubeCh])⟩ (And.intro (by first | omega | (dsimp only; omega)) (Wk.of rfl rfl (And.intro rfl (And.intro (vI (by first | rfl | omega | (simp; done) | (simp; omega))) trivial)) trivial)))
  · replace h1 := of_decide_eq_false h1
    refine T_exit ?_
    refine T_seq ?_
    refine T_region hc ?_
    refine Ch.step (v := (.d (.str s))) rfl (.pure (.move _ rfl rfl)) rfl rfl ?_
    refine Ch.step (v := (.d (.int .i64 ((s.length : Nat) : Int)))) rfl (.pure (.lenStr _ _ rfl Try.underlying9 rfl)) rfl rfl ?_
    refine Ch.step (v := (.d (.bool (withinB ((s.length : Nat) : Int) 1 8)))) rfl (.call 28000 118 _ _ _ en118 rfl (.inl rfl) (.cons (.d _) (.cons (.d _) (.cons (.d _) .nil))) rfl rfl (sp_spec_l1In ((s.length : Nat) : Int) 1 8) (.skip _ _ (.skip _ _ (.skip _ _ .nil))) rfl) rfl rfl ?_
    refine Ch.step (v := (.d (.bool (withinB ((s.length : Nat) : Int) 1 8)))) rfl (.pure (.assign _ rfl rfl)) rfl rfl ?_
    refine Ch.nil ?_
    refine T_ret ?_
    refine And.intro (.inr rfl) ?_
    exact Exists.intro [(.d (.bool (withinB ((s.length : Nat) : Int) 1 8)))] (Exists.intro [] (Exists.intro [] (And.intro (.cons (.tmp 2 rfl) .nil) (And.intro (.cons (.any _) .nil) (And.intro (Exp.of (congrArg D.bool (by rw [cubeB, cubeS, allB_of (fun j hj => hp0.2 j (by omega)), Bool.true_and])) (.d _)) (And.intro rfl rfl))))))

theorem sp_impl_isCube (s : List UInt8) (n : Int) (hs : s.length ≤ 1048576) : Sp Try.prog 121 [(.str s), (.int .i64 n)] [.any, .any] (.bool (cubeN s n)) := by
  refine Sp_intro (lend := true) Try.func121 rfl rfl rfl (fun _ => rfl) (fun c hc hX => ?_)
  refine T_seq ?_
  refine T_region hc ?_
  refine Ch.step (v := (.d (.bool false))) rfl (.pure (.assign _ rfl rfl)) rfl rfl ?_
  refine Ch.nil ?_
  refine T_seq ?_
  refine T_seq ?_
  refine T_region hc ?_
  refine Ch.step (v := (.d (.int .i64 0))) rfl (.pure (.assign _ rfl rfl)) rfl rfl ?_
  refine Ch.nil ?_
  refine T_block ?_
  refine T_loop (ι := Nat) (fun k => { n := 36, sl := [(0, (.d (.str s))), (1, (.d (.int .i64 n))), (5, (.d (.int .i64 ((k : Nat) : Int))))], hp := [], pin := [] }) (fun k => k ≤ s.length ∧ ∀ j, j < k → cubeCh (s.getD j 0) = true) (fun k => s.length - k) ⟨0, ⟨by omega, fun j hj => by omega⟩, (Wk.of rfl rfl (And.intro rfl (And.intro rfl (And.intro (vI (by first | rfl | omega | (simp; done) | (simp; omega))) trivial))) trivial)⟩ (fun k hp0 => ?_)
  refine T_seq ?_
  refine T_seq ?_
  refine T_region hc ?_
  refine Ch.step (v := (.d (.int .i64 ((k : Nat) : Int)))) rfl (.pure (.move _ rfl rfl)) rfl rfl ?_
  refine Ch.step (v := (.d (.str s))) rfl (.pure (.move _ rfl rfl)) rfl rfl ?_
  refine Ch.step (v := (.d (.int .i64 ((s.length : Nat) : Int)))) rfl (.pure (.lenStr _ _ rfl Try.underlying9 rfl)) rfl rfl ?_
  refine Ch.step (v := (.d (.bool (decide (((k : Nat) : Int) < ((s.length : Nat) : Int)))))) rfl (.pure (.int _ _ _ _ _ rfl rfl rfl rfl)) rfl rfl ?_
  refine Ch.nil ?_
  refine T_cond (b := (decide (((k : Nat) : Int) < ((s.length : Nat) : Int)))) rfl (fun h1 => ?_) (fun h1 => ?_)
  · replace h1 := of_decide_eq_true h1
    refine T_skip ?_
    refine T_seq ?_
    refine T_block ?_
    refine T_seq ?_
    refine T_region hc ?_
    refine Ch.step (v := (.d (.str s))) rfl (.pure (.move _ rfl rfl)) rfl rfl ?_
    refine Ch.step (v := (.d (.int .i64 ((k : Nat) : Int)))) rfl (.pure (.move _ rfl rfl)) rfl rfl ?_
    refine Ch.step (v := (.d (.int .u8 ((s.getD k 0).toNat : Int)))) rfl (.pure (.idxStr _ _ _ (k) rfl Try.underlying9 rfl rfl rfl (get_str (by first | omega | (simp only [List.length_map, List.length_append, List.length_take, List.length_drop, List.length_cons, List.length_nil]; omega) | (simp; omega) | (simp; done))))) rfl rfl ?_
    refine Ch.step (v := (.d (.bool (!(decide (((s.getD k 0) : UInt8) = 48)))))) rfl (.pure (.int _ _ _ _ _ rfl rfl rfl (u8_neq ((s.getD k 0) : UInt8) 48 rfl rfl))) rfl rfl ?_
    refine Ch.step (v := (.d (.bool (!(decide (((s.getD k 0) : UInt8) = 48)))))) rfl (.pure (.move _ rfl rfl)) rfl rfl ?_
    cases h2 : (decide (((s.getD k 0) : UInt8) = 48)) with
    | true =>
      replace h2 := of_decide_eq_true h2
      refine Ch.skip rfl rfl ?_
      refine Ch.skip rfl rfl ?_
      refine Ch.skip rfl rfl ?_
      refine Ch.skip rfl rfl ?_
      refine Ch.step (v := (.d (.bool false))) rfl (.pure (.pickF _ _ _ rfl rfl rfl)) rfl rfl ?_
      refine Ch.step (v := (.d (.bool false))) rfl (.pure (.move _ rfl rfl)) rfl rfl ?_
      refine Ch.skip rfl rfl ?_
      refine Ch.skip rfl rfl ?_
      refine Ch.skip rfl rfl ?_
      refine Ch.skip rfl rfl ?_
      refine Ch.step (v := (.d (.bool false))) rfl (.pure (.pickF _ _ _ rfl rfl rfl)) rfl rfl ?_
      refine Ch.nil ?_
      refine T_cond (b := false) rfl (fun h => nomatch h) (fun _ => ?_)
      refine T_skip ?_
      refine T_region hc ?_
      refine Ch.step (v := (.d (.int .i64 ((k : Nat) : Int)))) rfl (.pure (.move _ rfl rfl)) rfl rfl ?_
      refine Ch.step (v := (.d (.int .i64 (((k : Nat) : Int) + 1)))) rfl (.pure (.int _ _ _ _ _ rfl rfl rfl (intV_add (by first | omega | (simp only [List.length_map, List.length_append, List.length_take, List.length_drop, List.length_cons, List.length_nil]; omega) | (simp; omega) | (simp; done)) (by first | omega | (simp only [List.length_map, List.length_append, List.length_take, List.length_drop, List.length_cons, List.length_nil]; omega) | (simp; omega) | (simp; done))))) rfl rfl ?_
      refine Ch.step (v := (.d (.int .i64 (((k : Nat) : Int) + 1)))) rfl (.pure (.assign _ rfl rfl)) rfl rfl ?_
      refine Ch.nil ?_
      refine Exists.intro (k + 1) (And.intro ⟨by omega, upto_succ hp0.2 (by simp_all [cubeCh])⟩ (And.intro (by first | omega | (dsimp only; omega)) (Wk.of rfl rfl (And.intro rfl (And.intro rfl (And.intro (vI (by first | rfl | omega | (simp; done) | (simp; omega))) trivial))) trivial)))
    | false =>
      replace h2 := of_decide_eq_false h2
      refine Ch.step (v := (.d (.str s))) rfl (.pure (.move _ rfl rfl)) rfl rfl ?_
      refine Ch.step (v := (.d (.int .i64 ((k : Nat) : Int)))) rfl (.pure (.move _ rfl rfl)) rfl rfl ?_
      refine Ch.step (v := (.d (.int .u8 ((s.getD k 0).toNat : Int)))) rfl (.pure (.idxStr _ _ _ (k) rfl Try.underlying9 rfl rfl rfl (get_str (by first | omega | (simp only [List.length_map, List.length_append, List.length_take, List.length_drop, List.length_cons, List.length_nil]; omega) | (simp; omega) | (simp; done))))) rfl rfl ?_
      refine Ch.step (v := (.d (.bool (!(decide (((s.getD k 0) : UInt8) = 49)))))) rfl (.pure (.int _ _ _ _ _ rfl rfl rfl (u8_neq ((s.getD k 0) : UInt8) 49 rfl rfl))) rfl rfl ?_
      refine Ch.step (v := (.d (.bool (!(decide (((s.getD k 0) : UInt8) = 49)))))) rfl (.pure (.pickT _ _ _ rfl rfl rfl)) rfl rfl ?_
      refine Ch.step (v := (.d (.bool (!(decide (((s.getD k 0) : UInt8) = 49)))))) rfl (.pure (.move _ rfl rfl)) rfl rfl ?_
      cases h3 : (decide (((s.getD k 0) : UInt8) = 49)) with
      | true =>
        replace h3 := of_decide_eq_true h3
        refine Ch.skip rfl rfl ?_
        refine Ch.skip rfl rfl ?_
        refine Ch.skip rfl rfl ?_
        refine Ch.skip rfl rfl ?_
        refine Ch.step (v := (.d (.bool false))) rfl (.pure (.pickF _ _ _ rfl rfl rfl)) rfl rfl ?_
        refine Ch.nil ?_
        refine T_cond (b := false) rfl (fun h => nomatch h) (fun _ => ?_)
        refine T_skip ?_
        refine T_region hc ?_
        refine Ch.step (v := (.d (.int .i64 ((k : Nat) : Int)))) rfl (.pure (.move _ rfl rfl)) rfl rfl ?_
        refine Ch.step (v := (.d (.int .i64 (((k : Nat) : Int) + 1)))) rfl (.pure (.int _ _ _ _ _ rfl rfl rfl (intV_add (by first | omega | (simp only [List.length_map, List.length_append, List.length_take, List.length_drop, List.length_cons, List.length_nil]; omega) | (simp; omega) | (simp; done)) (by first | omega | (simp only [List.length_map, List.length_append, List.length_take, List.length_drop, List.length_cons, List.length_nil]; omega) | (simp; omega) | (simp; done))))) rfl rfl ?_
        refine Ch.step (v := (.d (.int .i64 (((k : Nat) : Int) + 1)))) rfl (.pure (.assign _ rfl rfl)) rfl rfl ?_
        refine Ch.nil ?_
        refine Exists.intro (k + 1) (And.intro ⟨by omega, upto_succ hp0.2 (by simp_all [cubeCh])⟩ (And.intro (by first | omega | (dsimp only; omega)) (Wk.of rfl rfl (And.intro rfl (And.intro rfl (And.intro (vI (by first | rfl | omega | (simp; done) | (simp; omega))) trivial))) trivial)))
      | false =>
        replace h3 := of_decide_eq_false h3
        refine Ch.step (v := (.d (.str s))) rfl (.pure (.move _ rfl rfl)) rfl rfl ?_
        refine Ch.step (v := (.d (.int .i64 ((k : Nat) : Int)))) rfl (.pure (.move _ rfl rfl)) rfl rfl ?_
        refine Ch.step (v := (.d (.int .u8 ((s.getD k 0).toNat : Int)))) rfl (.pure (.idxStr _ _ _ (k) rfl Try.underlying9 rfl rfl rfl (get_str (by first | omega | (simp only [List.length_map, List.length_append, List.length_take, List.length_drop, List.length_cons, List.length_nil]; omega) | (simp; omega) | (simp; done))))) rfl rfl ?_
        refine Ch.step (v := (.d (.bool (!(decide (((s.getD k 0) : UInt8) = 45)))))) rfl (.pure (.int _ _ _ _ _ rfl rfl rfl (u8_neq ((s.getD k 0) : UInt8) 45 rfl rfl))) rfl rfl ?_
        refine Ch.step (v := (.d (.bool (!(decide (((s.getD k 0) : UInt8) = 45)))))) rfl (.pure (.pickT _ _ _ rfl rfl rfl)) rfl rfl ?_
        refine Ch.nil ?_
        refine T_cond (b := (!(decide (((s.getD k 0) : UInt8) = 45)))) rfl (fun h4 => ?_) (fun h4 => ?_)
        · replace h4 := nott h4
          replace h4 := of_decide_eq_false h4
          refine T_seq ?_
          refine T_region hc ?_
          refine Ch.step (v := (.d (.bool false))) rfl (.pure (.assign _ rfl rfl)) rfl rfl ?_
          refine Ch.nil ?_
          refine T_ret ?_
          refine And.intro (.inr rfl) ?_
          exact Exists.intro [(.d (.bool false))] (Exists.intro [] (Exists.intro [] (And.intro (.cons (.tmp 4 rfl) .nil) (And.intro (.cons (.any _) (.cons (.any _) .nil)) (And.intro (Exp.of (congrArg D.bool (by rw [cubeN, cubeS, allB_no k (by omega) (by simp_all [cubeCh])]; rfl)) (.d _)) (And.intro rfl rfl))))))
        · replace h4 := notf h4
          replace h4 := of_decide_eq_true h4
          refine T_skip ?_
          refine T_region hc ?_
          refine Ch.step (v := (.d (.int .i64 ((k : Nat) : Int)))) rfl (.pure (.move _ rfl rfl)) rfl rfl ?_
          refine Ch.step (v := (.d (.int .i64 (((k : Nat) : Int) + 1)))) rfl (.pure (.int _ _ _ _ _ rfl rfl rfl (intV_add (by first | omega | (simp only [List.length_map, List.length_append, List.length_take, List.length_drop, List.length_cons, List.length_nil]; omega) | (simp; omega) | (simp; done)) (by first | omega | (simp only [List.length_map, List.length_append, List.length_take, List.length_drop, List.length_cons, List.length_nil]; omega) | (simp; omega) | (simp; done))))) rfl rfl ?_
          refine Ch.step (v := (.d (.int .i64 (((k : Nat) : Int) + 1)))) rfl (.pure (.assign _ rfl rfl)) rfl rfl ?_
          refine Ch.nil ?_
          refine Exists.intro (k + 1) (And.intro ⟨by omega, upto_succ hp0.2 (by simp_all [cubeCh])⟩ (And.intro (by first | omega | (dsimp only; omega)) (Wk.of rfl rfl (And.intro rfl (And.intro rfl (And.intro (vI (by first | rfl | omega | (simp; done) | (simp; omega))) trivial))) trivial)))
  · replace h1 := of_decide_eq_false h1
    refine T_exit ?_
    refine T_seq ?_
    refine T_region hc ?_
    refine Ch.step (v := (.d (.str s))) rfl (.pure (.move _ rfl rfl)) rfl rfl ?_
    refine Ch.step (v := (.d (.int .i64 ((s.length : Nat) : Int)))) rfl (.pure (.lenStr _ _ rfl Try.underlying9 rfl)) rfl rfl ?_
    refine Ch.step (v := (.d (.int .i64 n))) rfl (.pure (.move _ rfl rfl)) rfl rfl ?_
    refine Ch.step (v := (.d (.bool (decide (((s.length : Nat) : Int) = n))))) rfl (.pure (.int _ _ _ _ _ rfl rfl rfl rfl)) rfl rfl ?_
    refine Ch.step (v := (.d (.bool (decide (((s.length : Nat) : Int) = n))))) rfl (.pure (.move _ rfl rfl)) rfl rfl ?_
    cases h5 : (decide (((s.length : Nat) : Int) = n)) with
    | true =>
      replace h5 := of_decide_eq_true h5
      refine Ch.step (v := (.d (.int .i64 n))) rfl (.pure (.move _ rfl rfl)) rfl rfl ?_
      refine Ch.step (v := (.d (.bool (withinB n 1 8)))) rfl (.call 34000 98 _ _ _ en98 rfl (.inl rfl) (.cons (.d _) (.cons (.d _) (.cons (.d _) .nil))) rfl rfl (sp_impl_within n 1 8) (.skip _ _ (.skip _ _ (.skip _ _ .nil))) rfl) rfl rfl ?_
      refine Ch.step (v := (.d (.bool (withinB n 1 8)))) rfl (.pure (.pickT _ _ _ rfl rfl rfl)) rfl rfl ?_
      refine Ch.step (v := (.d (.bool (withinB n 1 8)))) rfl (.pure (.assign _ rfl rfl)) rfl rfl ?_
      refine Ch.nil ?_
      refine T_ret ?_
      refine And.intro (.inr rfl) ?_
      exact Exists.intro [(.d (.bool (withinB n 1 8)))] (Exists.intro [] (Exists.intro [] (And.intro (.cons (.tmp 4 rfl) .nil) (And.intro (.cons (.any _) (.cons (.any _) .nil)) (And.intro (Exp.of (congrArg D.bool (by rw [cubeN, cubeS, allB_of (fun j hj => hp0.2 j (by omega))]; simp_all)) (.d _)) (And.intro rfl rfl))))))
    | false =>
      replace h5 := of_decide_eq_false h5
      refine Ch.skip rfl rfl ?_
      refine Ch.skip rfl rfl ?_
      refine Ch.step (v := (.d (.bool false))) rfl (.pure (.pickF _ _ _ rfl rfl rfl)) rfl rfl ?_
      refine Ch.step (v := (.d (.bool false))) rfl (.pure (.assign _ rfl rfl)) rfl rfl ?_
      refine Ch.nil ?_
      refine T_ret ?_
      refine And.intro (.inr rfl) ?_
      exact Exists.intro [(.d (.bool false))] (Exists.intro [] (Exists.intro [] (And.intro (.cons (.tmp 4 rfl) .nil) (And.intro (.cons (.any _) (.cons (.any _) .nil)) (And.intro (Exp.of (congrArg D.bool (by rw [cubeN, cubeS, allB_of (fun j hj => hp0.2 j (by omega))]; simp_all)) (.d _)) (And.intro rfl rfl))))))

def meetOf (x y : UInt8) : UInt8 := if x = y ∨ y = 45 then x else y

def meetS (a b : List UInt8) (k : Nat) : List UInt8 := tab k fun j => meetOf (a.getD j 0) (b.getD j 0)

@[simp] theorem meetS_length (a b : List UInt8) (k : Nat) : (meetS a b k).length = k := by simp [meetS]

theorem sz9 : SizeIs Try.prog 9 1 := by unfold SizeIs; kernel_rfl

theorem ag9 : AggIs Try.prog 9 false := by unfold AggIs; kernel_rfl

theorem zr9 : (Try.prog.info? 9).bind (·.zero) = some (.string .empty) := by kernel_rfl

theorem sty22 : SlotTy Try.prog 22 9 1 16 := slotTy_mk (by kernel_rfl)

theorem en130 : Enters Try.prog 130 := ⟨_, Try.func130, by kernel_rfl, rfl⟩

theorem sp_laws_szStringS (xs : List (List UInt8)) (left : Int) (h0 : 0 ≤ left) (h0u : left ≤ 1048576) (hn : xs.length ≤ 9223372036854775807) (hx : ∀ x ∈ xs, x.length ≤ 9223372036854775807) : Sp Try.prog 17 [(.slice false 1 (xs.map D.str)), (.int .i64 left)] [.any, .any] (.int .i64 (szS xs left)) := by
  refine Sp_intro (lend := true) Try.func17 rfl rfl rfl (fun _ => rfl) (fun c hc hX => ?_)
  refine T_seq ?_
  refine T_region hc ?_
  refine Ch.step (v := (.d (.int .i64 0))) rfl (.pure (.assign _ rfl rfl)) rfl rfl ?_
  refine Ch.nil ?_
  refine T_seq ?_
  refine T_region hc ?_
  refine Ch.step (v := (.d (.int .i64 left))) rfl (.pure (.move _ rfl rfl)) rfl rfl ?_
  refine Ch.step (v := (.d (.slice false 1 (xs.map D.str)))) rfl (.pure (.move _ rfl rfl)) rfl rfl ?_
  refine Ch.step (v := (.d (.int .i64 ((xs.length : Nat) : Int)))) rfl (.pure (.len _ _ 9 rfl Try.underlying22 (.sh _ _) (by simp))) rfl rfl ?_
  refine Ch.step (v := (.d (.int .i64 (left - ((xs.length : Nat) : Int))))) rfl (.pure (.int _ _ _ _ _ rfl rfl rfl (intV_sub (by first | omega | (simp only [List.length_map, List.length_append, List.length_take, List.length_drop, List.length_cons, List.length_nil]; omega) | (simp; omega) | (simp; done)) (by first | omega | (simp only [List.length_map, List.length_append, List.length_take, List.length_drop, List.length_cons, List.length_nil]; omega) | (simp; omega) | (simp; done))))) rfl rfl ?_
  refine Ch.step (v := (.d (.int .i64 (left - ((xs.length : Nat) : Int))))) rfl (.pure (.assign _ rfl rfl)) rfl rfl ?_
  refine Ch.nil ?_
  refine T_seq ?_
  refine T_seq ?_
  refine T_region hc ?_
  refine Ch.step (v := (.d (.int .i64 (left - ((xs.length : Nat) : Int))))) rfl (.pure (.move _ rfl rfl)) rfl rfl ?_
  refine Ch.step (v := (.d (.bool (decide ((left - ((xs.length : Nat) : Int)) < 0))))) rfl (.pure (.int _ _ _ _ _ rfl rfl rfl rfl)) rfl rfl ?_
  refine Ch.nil ?_
  refine T_cond (b := (decide ((left - ((xs.length : Nat) : Int)) < 0))) rfl (fun h1 => ?_) (fun h1 => ?_)
  · replace h1 := of_decide_eq_true h1
    refine T_seq ?_
    refine T_region hc ?_
    refine Ch.step (v := (.d (.int .i64 (-1)))) rfl (.pure (.assign _ rfl rfl)) rfl rfl ?_
    refine Ch.nil ?_
    refine T_ret ?_
    refine And.intro (.inr rfl) ?_
    exact Exists.intro [(.d (.int .i64 (-1)))] (Exists.intro [] (Exists.intro [] (And.intro (.cons (.tmp 4 rfl) .nil) (And.intro (.cons (.any _) (.cons (.any _) .nil)) (And.intro (Exp.of (congrArg (D.int .i64) (by rw [szS, if_neg (by unfold bulkS; omega)])) (.d _)) (And.intro rfl rfl))))))
  · replace h1 := of_decide_eq_false h1
    refine T_skip ?_
    refine T_seq ?_
    refine T_seq ?_
    refine T_region hc ?_
    refine Ch.step (v := (.d (.int .i64 0))) rfl (.pure (.assign _ rfl rfl)) rfl rfl ?_
    refine Ch.nil ?_
    refine T_block ?_
    refine T_loop (ι := Nat) (fun k => { n := 28, sl := [(0, (.d (.slice false 1 (xs.map D.str)))), (1, (.d (.int .i64 (left - xs.length - sumTo xs k)))), (5, (.d (.int .i64 ((k : Nat) : Int))))], hp := [], pin := [] }) (fun k => k ≤ xs.length ∧ 0 ≤ left - xs.length - sumTo xs k) (fun k => xs.length - k) ⟨0, ⟨by omega, by rw [sumTo_zero]; omega⟩, (Wk.of rfl rfl (And.intro rfl (And.intro (vI (by first | (rw [sumTo_zero]; omega) | (rw [sumTo_succ (by omega)]; omega))) (And.intro (vI (by first | rfl | omega | (simp; done) | (simp; omega))) trivial))) trivial)⟩ (fun k hp0 => ?_)
    refine T_seq ?_
    refine T_seq ?_
    refine T_region hc ?_
    refine Ch.step (v := (.d (.int .i64 ((k : Nat) : Int)))) rfl (.pure (.move _ rfl rfl)) rfl rfl ?_
    refine Ch.step (v := (.d (.slice false 1 (xs.map D.str)))) rfl (.pure (.move _ rfl rfl)) rfl rfl ?_
    refine Ch.step (v := (.d (.int .i64 ((xs.length : Nat) : Int)))) rfl (.pure (.len _ _ 9 rfl Try.underlying22 (.sh _ _) (by simp))) rfl rfl ?_
    refine Ch.step (v := (.d (.bool (decide (((k : Nat) : Int) < ((xs.length : Nat) : Int)))))) rfl (.pure (.int _ _ _ _ _ rfl rfl rfl rfl)) rfl rfl ?_
    refine Ch.nil ?_
    refine T_cond (b := (decide (((k : Nat) : Int) < ((xs.length : Nat) : Int)))) rfl (fun h2 => ?_) (fun h2 => ?_)
    · replace h2 := of_decide_eq_true h2
      try have hk := hx _ (getD_mem (l := xs) (j := k) (d := default) (by omega))
      refine T_skip ?_
      refine T_seq ?_
      refine T_block ?_
      refine T_seq ?_
      refine T_region hc ?_
      refine Ch.step (v := (.d (.int .i64 (left - xs.length - sumTo xs k)))) rfl (.pure (.move _ rfl rfl)) rfl rfl ?_
      refine Ch.step (v := (.d (.slice false 1 (xs.map D.str)))) rfl (.pure (.move _ rfl rfl)) rfl rfl ?_
      refine Ch.step (v := (.d (.int .i64 ((k : Nat) : Int)))) rfl (.pure (.move _ rfl rfl)) rfl rfl ?_
      refine Ch.step (v := (.d (.ref (.str (xs.getD k default))))) rfl (.pure (.idx _ _ _ 9 (k) rfl Try.underlying22 sz9 rfl rfl rfl (get_map _ (by first | omega | (simp only [List.length_map, List.length_append, List.length_take, List.length_drop, List.length_cons, List.length_nil]; omega) | (simp; omega) | (simp; done))))) rfl rfl ?_
      refine Ch.step (v := (.d (.str (xs.getD k default)))) rfl (.pure (.loadRef1 _ _ rfl ag9 rfl rfl)) rfl rfl ?_
      refine Ch.step (v := (.d (.int .i64 (((xs.getD k default).length : Nat) : Int)))) rfl (.pure (.lenStr _ _ rfl Try.underlying9 rfl)) rfl rfl ?_
      refine Ch.step (v := (.d (.int .i64 ((left - xs.length - sumTo xs k) - (((xs.getD k default).length : Nat) : Int))))) rfl (.pure (.int _ _ _ _ _ rfl rfl rfl (intV_sub (by first | omega | (simp only [List.length_map, List.length_append, List.length_take, List.length_drop, List.length_cons, List.length_nil]; omega) | (simp; omega) | (simp; done)) (by first | omega | (simp only [List.length_map, List.length_append, List.length_take, List.length_drop, List.length_cons, List.length_nil]; omega) | (simp; omega) | (simp; done))))) rfl rfl ?_
      refine Ch.step (v := (.d (.int .i64 ((left - xs.length - sumTo xs k) - (((xs.getD k default).length : Nat) : Int))))) rfl (.pure (.assign _ rfl rfl)) rfl rfl ?_
      refine Ch.nil ?_
      refine T_seq ?_
      refine T_region hc ?_
      refine Ch.step (v := (.d (.int .i64 ((left - xs.length - sumTo xs k) - (((xs.getD k default).length : Nat) : Int))))) rfl (.pure (.move _ rfl rfl)) rfl rfl ?_
      refine Ch.step (v := (.d (.bool (decide (((left - xs.length - sumTo xs k) - (((xs.getD k default).length : Nat) : Int)) < 0))))) rfl (.pure (.int _ _ _ _ _ rfl rfl rfl rfl)) rfl rfl ?_
      refine Ch.nil ?_
      refine T_cond (b := (decide (((left - xs.length - sumTo xs k) - (((xs.getD k default).length : Nat) : Int)) < 0))) rfl (fun h3 => ?_) (fun h3 => ?_)
      · replace h3 := of_decide_eq_true h3
        refine T_seq ?_
        refine T_region hc ?_
        refine Ch.step (v := (.d (.int .i64 (-1)))) rfl (.pure (.assign _ rfl rfl)) rfl rfl ?_
        refine Ch.nil ?_
        refine T_ret ?_
        refine And.intro (.inr rfl) ?_
        exact Exists.intro [(.d (.int .i64 (-1)))] (Exists.intro [] (Exists.intro [] (And.intro (.cons (.tmp 4 rfl) .nil) (And.intro (.cons (.any _) (.cons (.any _) .nil)) (And.intro (Exp.of (congrArg (D.int .i64) (by rw [szS, if_neg (by have h4 := sumTo_le xs (k + 1); rw [sumTo_succ (by omega)] at h4; unfold bulkS; omega)])) (.d _)) (And.intro rfl rfl))))))
      · replace h3 := of_decide_eq_false h3
        refine T_skip ?_
        refine T_region hc ?_
        refine Ch.step (v := (.d (.int .i64 ((k : Nat) : Int)))) rfl (.pure (.move _ rfl rfl)) rfl rfl ?_
        refine Ch.step (v := (.d (.int .i64 (((k : Nat) : Int) + 1)))) rfl (.pure (.int _ _ _ _ _ rfl rfl rfl (intV_add (by first | omega | (simp only [List.length_map, List.length_append, List.length_take, List.length_drop, List.length_cons, List.length_nil]; omega) | (simp; omega) | (simp; done)) (by first | omega | (simp only [List.length_map, List.length_append, List.length_take, List.length_drop, List.length_cons, List.length_nil]; omega) | (simp; omega) | (simp; done))))) rfl rfl ?_
        refine Ch.step (v := (.d (.int .i64 (((k : Nat) : Int) + 1)))) rfl (.pure (.assign _ rfl rfl)) rfl rfl ?_
        refine Ch.nil ?_
        refine Exists.intro (k + 1) (And.intro ⟨by omega, by rw [sumTo_succ (by omega)]; omega⟩ (And.intro (by first | omega | (dsimp only; omega)) (Wk.of rfl rfl (And.intro rfl (And.intro (vI (by first | (rw [sumTo_zero]; omega) | (rw [sumTo_succ (by omega)]; omega))) (And.intro (vI (by first | rfl | omega | (simp; done) | (simp; omega))) trivial))) trivial)))
    · replace h2 := of_decide_eq_false h2
      try have hk := hx _ (getD_mem (l := xs) (j := k) (d := default) (by omega))
      refine T_exit ?_
      refine T_seq ?_
      refine T_region hc ?_
      refine Ch.step (v := (.d (.int .i64 (left - xs.length - sumTo xs k)))) rfl (.pure (.move _ rfl rfl)) rfl rfl ?_
      refine Ch.step (v := (.d (.int .i64 (left - xs.length - sumTo xs k)))) rfl (.pure (.assign _ rfl rfl)) rfl rfl ?_
      refine Ch.nil ?_
      refine T_ret ?_
      refine And.intro (.inr rfl) ?_
      exact Exists.intro [(.d (.int .i64 (left - xs.length - sumTo xs k)))] (Exists.intro [] (Exists.intro [] (And.intro (.cons (.tmp 4 rfl) .nil) (And.intro (.cons (.any _) (.cons (.any _) .nil)) (And.intro (Exp.of (congrArg (D.int .i64) (by have h4 := sumTo_all (xs := xs) (k := k) (by omega); rw [szS, if_pos (by unfold bulkS; omega)]; unfold bulkS; omega)) (.d _)) (And.intro rfl rfl))))))

theorem sp_laws_toStringS (xs : List (List UInt8)) (hn : xs.length ≤ 1048576) : Sp Try.prog 19 [(.slice false 1 (xs.map D.str))] [.any] (.slice true 1 (xs.map D.str)) := by
  refine Sp_intro (lend := true) Try.func19 rfl rfl rfl (fun _ => rfl) (fun c hc hX => ?_)
  refine T_seq ?_
  refine T_region hc ?_
  refine Ch.step (v := (.c (.slice none 0 0))) rfl (.pure (.assign _ rfl rfl)) rfl rfl ?_
  refine Ch.nil ?_
  refine T_seq ?_
  refine T_region hc ?_
  refine Ch.step (v := (.d (.slice false 1 (xs.map D.str)))) rfl (.pure (.move _ rfl rfl)) rfl rfl ?_
  refine Ch.step (v := (.d (.int .i64 ((xs.length : Nat) : Int)))) rfl (.pure (.len _ _ 9 rfl Try.underlying22 (.sh _ _) (by simp))) rfl rfl ?_
  refine Ch.step (v := (.row 7000)) rfl (.make 7000 _ 9 _ _ (xs.length) (xs.length) rfl sty22 rfl rfl rfl rfl (by first | omega | (simp only [List.length_map, List.length_append, List.length_take, List.length_drop, List.length_cons, List.length_nil]; omega) | (simp; omega) | (simp; done)) (by first | omega | (simp only [List.length_map, List.length_append, List.length_take, List.length_drop, List.length_cons, List.length_nil]; omega) | (simp; omega) | (simp; done)) (by first | omega | (simp only [List.length_map, List.length_append, List.length_take, List.length_drop, List.length_cons, List.length_nil]; omega) | (simp; omega) | (simp; done)) (zeroD_mk (zd := (.str [])) zr9 (by intro S w; rw [DR]; exact ⟨rfl, rfl⟩) rfl)) rfl rfl ?_
  refine Ch.step (v := (.row 7000)) rfl (.pure (.assign _ rfl rfl)) rfl rfl ?_
  refine Ch.nil ?_
  refine T_seq ?_
  refine T_seq ?_
  refine T_region hc ?_
  refine Ch.step (v := (.d (.int .i64 0))) rfl (.pure (.assign _ rfl rfl)) rfl rfl ?_
  refine Ch.nil ?_
  refine T_block ?_
  refine T_loop (ι := Nat) (fun k => { n := 22, sl := [(0, (.d (.slice false 1 (xs.map D.str)))), (3, (.row 3)), (4, (.d (.int .i64 ((k : Nat) : Int))))], hp := [(3, (some (.row 1 ((fill xs [] k).map D.str))))], pin := [] }) (fun k => k ≤ xs.length) (fun k => xs.length - k) ⟨0, (by omega), (Wk.ren [(3, 7000)] rfl rfl rfl rfl (And.intro rfl (And.intro rfl (And.intro (vI (by first | rfl | omega | (simp; done) | (simp; omega))) trivial))) (And.intro (oR (by first | (rw [fill_zero, List.map_replicate]; done) | (rw [← fill_set xs [] default (by omega), List.map_set]; done))) trivial))⟩ (fun k hp0 => ?_)
  refine T_seq ?_
  refine T_seq ?_
  refine T_region hc ?_
  refine Ch.step (v := (.d (.int .i64 ((k : Nat) : Int)))) rfl (.pure (.move _ rfl rfl)) rfl rfl ?_
  refine Ch.step (v := (.d (.slice false 1 (xs.map D.str)))) rfl (.pure (.move _ rfl rfl)) rfl rfl ?_
  refine Ch.step (v := (.d (.int .i64 ((xs.length : Nat) : Int)))) rfl (.pure (.len _ _ 9 rfl Try.underlying22 (.sh _ _) (by simp))) rfl rfl ?_
  refine Ch.step (v := (.d (.bool (decide (((k : Nat) : Int) < ((xs.length : Nat) : Int)))))) rfl (.pure (.int _ _ _ _ _ rfl rfl rfl rfl)) rfl rfl ?_
  refine Ch.nil ?_
  refine T_cond (b := (decide (((k : Nat) : Int) < ((xs.length : Nat) : Int)))) rfl (fun h1 => ?_) (fun h1 => ?_)
  · replace h1 := of_decide_eq_true h1
    refine T_skip ?_
    refine T_seq ?_
    refine T_block ?_
    refine T_region hc ?_
    refine Ch.step (v := (.row 3)) rfl (.pure (.move _ rfl rfl)) rfl rfl ?_
    refine Ch.step (v := (.d (.int .i64 ((k : Nat) : Int)))) rfl (.pure (.move _ rfl rfl)) rfl rfl ?_
    refine Ch.step (v := (.d (.slice false 1 (xs.map D.str)))) rfl (.pure (.move _ rfl rfl)) rfl rfl ?_
    refine Ch.step (v := (.d (.int .i64 ((k : Nat) : Int)))) rfl (.pure (.move _ rfl rfl)) rfl rfl ?_
    refine Ch.step (v := (.d (.ref (.str (xs.getD k default))))) rfl (.pure (.idx _ _ _ 9 (k) rfl Try.underlying22 sz9 rfl rfl rfl (get_map _ (by first | omega | (simp only [List.length_map, List.length_append, List.length_take, List.length_drop, List.length_cons, List.length_nil]; omega) | (simp; omega) | (simp; done))))) rfl rfl ?_
    refine Ch.step (v := (.d (.str (xs.getD k default)))) rfl (.pure (.loadRef1 _ _ rfl ag9 rfl rfl)) rfl rfl ?_
    refine Ch.step (v := (.el 3 1 k 0)) rfl (.pure (.idxRow _ _ _ 9 (k) rfl Try.underlying22 sz9 rfl rfl rfl rfl (by first | omega | (simp; omega)))) rfl rfl ?_
    refine Ch.step (v := .junk) rfl (.storeEl (y' := (.str (xs.getD k default))) _ _ _ rfl rfl rfl (.d _) rfl sz9 rfl (get_map _ (by first | omega | (simp only [List.length_map, List.length_append, List.length_take, List.length_drop, List.length_cons, List.length_nil]; omega) | (simp; omega) | (simp; done))) rfl rfl) rfl rfl ?_
    refine Ch.nil ?_
    refine T_region hc ?_
    refine Ch.step (v := (.d (.int .i64 ((k : Nat) : Int)))) rfl (.pure (.move _ rfl rfl)) rfl rfl ?_
    refine Ch.step (v := (.d (.int .i64 (((k : Nat) : Int) + 1)))) rfl (.pure (.int _ _ _ _ _ rfl rfl rfl (intV_add (by first | omega | (simp only [List.length_map, List.length_append, List.length_take, List.length_drop, List.length_cons, List.length_nil]; omega) | (simp; omega) | (simp; done)) (by first | omega | (simp only [List.length_map, List.length_append, List.length_take, List.length_drop, List.length_cons, List.length_nil]; omega) | (simp; omega) | (simp; done))))) rfl rfl ?_
    refine Ch.step (v := (.d (.int .i64 (((k : Nat) : Int) + 1)))) rfl (.pure (.assign _ rfl rfl)) rfl rfl ?_
    refine Ch.nil ?_
    refine Exists.intro (k + 1) (And.intro (by omega) (And.intro (by first | omega | (dsimp only; omega)) (Wk.of rfl rfl (And.intro rfl (And.intro rfl (And.intro (vI (by first | rfl | omega | (simp; done) | (simp; omega))) trivial))) (And.intro (oR (by first | (rw [fill_zero, List.map_replicate]; done) | (rw [← fill_set xs [] default (by omega), List.map_set]; done))) trivial))))
  · replace h1 := of_decide_eq_false h1
    refine T_exit ?_
    refine T_seq ?_
    refine T_region hc ?_
    refine Ch.step (v := (.row 3)) rfl (.pure (.move _ rfl rfl)) rfl rfl ?_
    refine Ch.step (v := (.row 3)) rfl (.pure (.assign _ rfl rfl)) rfl rfl ?_
    refine Ch.nil ?_
    refine T_ret ?_
    refine And.intro (.inr rfl) ?_
    exact Exists.intro [(.row 3)] (Exists.intro [] (Exists.intro [3] (And.intro (.cons (.tmp 2 rfl) .nil) (And.intro (.cons (.any _) .nil) (And.intro (Exp.of (congrArg (D.slice true 1) (by rw [fill_all xs [] (by omega)])) (.row rfl)) (And.intro rfl rfl))))))

theorem sp_laws_eqStringS (xs ys : List (List UInt8)) (hn : xs.length ≤ 1048576) : Sp Try.prog 21 [(.slice false 1 (xs.map D.str)), (.slice false 1 (ys.map D.str))] [.any, .any] (.bool (decide (xs = ys))) := by
  refine Sp_intro (lend := true) Try.func21 rfl rfl rfl (fun _ => rfl) (fun c hc hX => ?_)
  refine T_seq ?_
  refine T_region hc ?_
  refine Ch.step (v := (.d (.bool false))) rfl (.pure (.assign _ rfl rfl)) rfl rfl ?_
  refine Ch.nil ?_
  refine T_seq ?_
  refine T_seq ?_
  refine T_region hc ?_
  refine Ch.step (v := (.d (.slice false 1 (xs.map D.str)))) rfl (.pure (.move _ rfl rfl)) rfl rfl ?_
  refine Ch.step (v := (.d (.int .i64 ((xs.length : Nat) : Int)))) rfl (.pure (.len _ _ 9 rfl Try.underlying22 (.sh _ _) (by simp))) rfl rfl ?_
  refine Ch.step (v := (.d (.slice false 1 (ys.map D.str)))) rfl (.pure (.move _ rfl rfl)) rfl rfl ?_
  refine Ch.step (v := (.d (.int .i64 ((ys.length : Nat) : Int)))) rfl (.pure (.len _ _ 9 rfl Try.underlying22 (.sh _ _) (by simp))) rfl rfl ?_
  refine Ch.step (v := (.d (.bool (!(decide (((xs.length : Nat) : Int) = ((ys.length : Nat) : Int))))))) rfl (.pure (.int _ _ _ _ _ rfl rfl rfl rfl)) rfl rfl ?_
  refine Ch.nil ?_
  refine T_cond (b := (!(decide (((xs.length : Nat) : Int) = ((ys.length : Nat) : Int))))) rfl (fun h1 => ?_) (fun h1 => ?_)
  · replace h1 := nott h1
    replace h1 := of_decide_eq_false h1
    refine T_seq ?_
    refine T_region hc ?_
    refine Ch.step (v := (.d (.bool false))) rfl (.pure (.assign _ rfl rfl)) rfl rfl ?_
    refine Ch.nil ?_
    refine T_ret ?_
    refine And.intro (.inr rfl) ?_
    exact Exists.intro [(.d (.bool false))] (Exists.intro [] (Exists.intro [] (And.intro (.cons (.tmp 4 rfl) .nil) (And.intro (.cons (.any _) (.cons (.any _) .nil)) (And.intro (Exp.of (congrArg D.bool (by exact eqL_len (by omega))) (.d _)) (And.intro rfl rfl))))))
  · replace h1 := notf h1
    replace h1 := of_decide_eq_true h1
    refine T_skip ?_
    refine T_seq ?_
    refine T_seq ?_
    refine T_region hc ?_
    refine Ch.step (v := (.d (.int .i64 0))) rfl (.pure (.assign _ rfl rfl)) rfl rfl ?_
    refine Ch.nil ?_
    refine T_block ?_
    refine T_loop (ι := Nat) (fun k => { n := 26, sl := [(0, (.d (.slice false 1 (xs.map D.str)))), (1, (.d (.slice false 1 (ys.map D.str)))), (5, (.d (.int .i64 ((k : Nat) : Int))))], hp := [], pin := [] }) (fun k => k ≤ xs.length ∧ ∀ j, j < k → xs.getD j default = ys.getD j default) (fun k => xs.length - k) ⟨0, ⟨by omega, fun j hj => by omega⟩, (Wk.of rfl rfl (And.intro rfl (And.intro rfl (And.intro (vI (by first | rfl | omega | (simp; done) | (simp; omega))) trivial))) trivial)⟩ (fun k hp0 => ?_)
    refine T_seq ?_
    refine T_seq ?_
    refine T_region hc ?_
    refine Ch.step (v := (.d (.int .i64 ((k : Nat) : Int)))) rfl (.pure (.move _ rfl rfl)) rfl rfl ?_
    refine Ch.step (v := (.d (.slice false 1 (xs.map D.str)))) rfl (.pure (.move _ rfl rfl)) rfl rfl ?_
    refine Ch.step (v := (.d (.int .i64 ((xs.length : Nat) : Int)))) rfl (.pure (.len _ _ 9 rfl Try.underlying22 (.sh _ _) (by simp))) rfl rfl ?_
    refine Ch.step (v := (.d (.bool (decide (((k : Nat) : Int) < ((xs.length : Nat) : Int)))))) rfl (.pure (.int _ _ _ _ _ rfl rfl rfl rfl)) rfl rfl ?_
    refine Ch.nil ?_
    refine T_cond (b := (decide (((k : Nat) : Int) < ((xs.length : Nat) : Int)))) rfl (fun h2 => ?_) (fun h2 => ?_)
    · replace h2 := of_decide_eq_true h2
      refine T_skip ?_
      refine T_seq ?_
      refine T_block ?_
      refine T_seq ?_
      refine T_regionD hc (by kernel_rfl) ?_
      refine ChD.step (v := (.d (.slice false 1 (xs.map D.str)))) [] rfl (.pure (.move _ rfl rfl)) rfl rfl ?_
      refine ChD.step (v := (.d (.int .i64 ((k : Nat) : Int)))) [] rfl (.pure (.move _ rfl rfl)) rfl rfl ?_
      refine ChD.step (v := (.d (.ref (.str (xs.getD k default))))) [] rfl (.pure (.idx _ _ _ 9 (k) rfl Try.underlying22 sz9 rfl rfl rfl (get_map _ (by first | omega | (simp only [List.length_map, List.length_append, List.length_take, List.length_drop, List.length_cons, List.length_nil]; omega) | (simp; omega) | (simp; done))))) rfl rfl ?_
      refine ChD.step (v := (.d (.str (xs.getD k default)))) [] rfl (.pure (.loadRef1 _ _ rfl ag9 rfl rfl)) rfl rfl ?_
      refine ChD.step (v := (.d (.slice false 1 (ys.map D.str)))) [] rfl (.pure (.move _ rfl rfl)) rfl rfl ?_
      refine ChD.step (v := (.d (.int .i64 ((k : Nat) : Int)))) [] rfl (.pure (.move _ rfl rfl)) rfl rfl ?_
      refine ChD.step (v := (.d (.ref (.str (ys.getD k default))))) [] rfl (.pure (.idx _ _ _ 9 (k) rfl Try.underlying22 sz9 rfl rfl rfl (get_map _ (by first | omega | (simp only [List.length_map, List.length_append, List.length_take, List.length_drop, List.length_cons, List.length_nil]; omega) | (simp; omega) | (simp; done))))) rfl rfl ?_
      refine ChD.step (v := (.d (.str (ys.getD k default)))) [] rfl (.pure (.loadRef1 _ _ rfl ag9 rfl rfl)) rfl rfl ?_
      refine ChD.step (v := (.d (.bool (!(decide ((xs.getD k default) = (ys.getD k default))))))) [] rfl (.pure (.str _ _ _ _ _ rfl rfl rfl rfl)) rfl rfl ?_
      refine ChD.nil (And.intro ?_ (by kernel_rfl))
      refine T_cond (b := (!(decide ((xs.getD k default) = (ys.getD k default))))) rfl (fun h3 => ?_) (fun h3 => ?_)
      · replace h3 := nott h3
        replace h3 := of_decide_eq_false h3
        refine T_seq ?_
        refine T_region hc ?_
        refine Ch.step (v := (.d (.bool false))) rfl (.pure (.assign _ rfl rfl)) rfl rfl ?_
        refine Ch.nil ?_
        refine T_ret ?_
        refine And.intro (.inr rfl) ?_
        exact Exists.intro [(.d (.bool false))] (Exists.intro [] (Exists.intro [] (And.intro (.cons (.tmp 4 rfl) .nil) (And.intro (.cons (.any _) (.cons (.any _) .nil)) (And.intro (Exp.of (congrArg D.bool (by exact eqL_at default k (by assumption))) (.d _)) (And.intro rfl rfl))))))
      · replace h3 := notf h3
        replace h3 := of_decide_eq_true h3
        refine T_skip ?_
        refine T_region hc ?_
        refine Ch.step (v := (.d (.int .i64 ((k : Nat) : Int)))) rfl (.pure (.move _ rfl rfl)) rfl rfl ?_
        refine Ch.step (v := (.d (.int .i64 (((k : Nat) : Int) + 1)))) rfl (.pure (.int _ _ _ _ _ rfl rfl rfl (intV_add (by first | omega | (simp only [List.length_map, List.length_append, List.length_take, List.length_drop, List.length_cons, List.length_nil]; omega) | (simp; omega) | (simp; done)) (by first | omega | (simp only [List.length_map, List.length_append, List.length_take, List.length_drop, List.length_cons, List.length_nil]; omega) | (simp; omega) | (simp; done))))) rfl rfl ?_
        refine Ch.step (v := (.d (.int .i64 (((k : Nat) : Int) + 1)))) rfl (.pure (.assign _ rfl rfl)) rfl rfl ?_
        refine Ch.nil ?_
        refine Exists.intro (k + 1) (And.intro ⟨by omega, upto_succ hp0.2 (by assumption)⟩ (And.intro (by first | omega | (dsimp only; omega)) (Wk.of rfl rfl (And.intro rfl (And.intro rfl (And.intro (vI (by first | rfl | omega | (simp; done) | (simp; omega))) trivial))) trivial)))
    · replace h2 := of_decide_eq_false h2
      refine T_exit ?_
      refine T_seq ?_
      refine T_region hc ?_
      refine Ch.step (v := (.d (.bool true))) rfl (.pure (.assign _ rfl rfl)) rfl rfl ?_
      refine Ch.nil ?_
      refine T_ret ?_
      refine And.intro (.inr rfl) ?_
      exact Exists.intro [(.d (.bool true))] (Exists.intro [] (Exists.intro [] (And.intro (.cons (.tmp 4 rfl) .nil) (And.intro (.cons (.any _) (.cons (.any _) .nil)) (And.intro (Exp.of (congrArg D.bool (by exact eqL_all default (by omega) (fun j hj => hp0.2 j (by omega)))) (.d _)) (And.intro rfl rfl))))))

theorem sp_IndexFunc_str (xs : List (List UInt8)) (f : FuncId) (caps : List D) (p : List UInt8 → Bool) (hf : Enters Try.prog f) (hp : ∀ x ∈ xs, Sp Try.prog f (D.str x :: caps) (.any :: anys caps) (.bool (p x))) (hn : xs.length ≤ 1048576) : Sp Try.prog 130 [(.slice false 1 (xs.map D.str)), (.fn f caps)] [.any, .any] (.int .i64 (ixF p xs)) := by
  refine Sp_intro (lend := true) Try.func130 rfl rfl rfl (fun _ => rfl) (fun c hc hX => ?_)
  refine T_seq ?_
  refine T_region hc ?_
  refine Ch.step (v := (.d (.int .i64 0))) rfl (.pure (.assign _ rfl rfl)) rfl rfl ?_
  refine Ch.nil ?_
  refine T_seq ?_
  refine T_seq ?_
  refine T_region hc ?_
  refine Ch.step (v := (.d (.slice false 1 (xs.map D.str)))) rfl (.pure (.move _ rfl rfl)) rfl rfl ?_
  refine Ch.step (v := (.d (.int .i64 ((xs.length : Nat) : Int)))) rfl (.pure (.len _ _ 9 rfl Try.underlying22 (.sh _ _) (by simp))) rfl rfl ?_
  refine Ch.step (v := (.d (.int .i64 0))) rfl (.pure (.move _ rfl rfl)) rfl rfl ?_
  refine Ch.nil ?_
  refine T_block ?_
  refine T_loop (ι := Nat) (fun k => { n := 19, sl := [(0, (.d (.slice false 1 (xs.map D.str)))), (1, (.d (.fn f caps))), (7, (.d (.int .i64 ((xs.length : Nat) : Int)))), (8, (.d (.int .i64 ((k : Nat) : Int))))], hp := [], pin := [] }) (fun k => k ≤ xs.length ∧ ∀ j, j < k → p (xs.getD j default) = false) (fun k => xs.length - k) ⟨0, ⟨by omega, fun j hj => by omega⟩, (Wk.of rfl rfl (And.intro rfl (And.intro rfl (And.intro rfl (And.intro (vI (by first | rfl | omega | (simp; done) | (simp; omega))) trivial)))) trivial)⟩ (fun k hp0 => ?_)
  refine T_seq ?_
  refine T_region hc ?_
  refine Ch.step (v := (.d (.bool (decide (((k : Nat) : Int) < ((xs.length : Nat) : Int)))))) rfl (.pure (.int _ _ _ _ _ rfl rfl rfl rfl)) rfl rfl ?_
  refine Ch.nil ?_
  refine T_seq ?_
  refine T_cond (b := (decide (((k : Nat) : Int) < ((xs.length : Nat) : Int)))) rfl (fun h1 => ?_) (fun h1 => ?_)
  · replace h1 := of_decide_eq_true h1
    refine T_skip ?_
    refine T_seq ?_
    refine T_block ?_
    refine T_seq ?_
    refine T_region hc ?_
    refine Ch.step (v := (.d (.int .i64 ((k : Nat) : Int)))) rfl (.pure (.move _ rfl rfl)) rfl rfl ?_
    refine Ch.step (v := (.d (.int .i64 ((k : Nat) : Int)))) rfl (.pure (.assign _ rfl rfl)) rfl rfl ?_
    refine Ch.nil ?_
    refine T_seq ?_
    refine T_region hc ?_
    refine Ch.step (v := (.d (.fn f caps))) rfl (.pure (.move _ rfl rfl)) rfl rfl ?_
    refine Ch.step (v := (.d (.slice false 1 (xs.map D.str)))) rfl (.pure (.move _ rfl rfl)) rfl rfl ?_
    refine Ch.step (v := (.d (.int .i64 ((k : Nat) : Int)))) rfl (.pure (.move _ rfl rfl)) rfl rfl ?_
    refine Ch.step (v := (.d (.ref (.str (xs.getD k default))))) rfl (.pure (.idx _ _ _ 9 (k) rfl Try.underlying22 sz9 rfl rfl rfl (get_map _ (by first | omega | (simp only [List.length_map, List.length_append, List.length_take, List.length_drop, List.length_cons, List.length_nil]; omega) | (simp; omega) | (simp; done))))) rfl rfl ?_
    refine Ch.step (v := (.d (.str (xs.getD k default)))) rfl (.pure (.loadRef1 _ _ rfl ag9 rfl rfl)) rfl rfl ?_
    refine Ch.step (v := (.d (.bool (p (xs.getD k default))))) rfl (.callS 16000 f _ #[.tmp 15] _ hf rfl (.inr ⟨caps, rfl, rfl⟩) (.cons (.d _) (exps_ds caps)) rfl (hp _ (getD_mem (by omega))) (.skip _ _ (back_anys caps)) rfl) rfl rfl ?_
    refine Ch.nil ?_
    refine T_cond (b := (p (xs.getD k default))) rfl (fun h2 => ?_) (fun h2 => ?_)
    · refine T_seq ?_
      refine T_region hc ?_
      refine Ch.step (v := (.d (.int .i64 ((k : Nat) : Int)))) rfl (.pure (.move _ rfl rfl)) rfl rfl ?_
      refine Ch.step (v := (.d (.int .i64 ((k : Nat) : Int)))) rfl (.pure (.assign _ rfl rfl)) rfl rfl ?_
      refine Ch.nil ?_
      refine T_ret ?_
      refine And.intro (.inr rfl) ?_
      exact Exists.intro [(.d (.int .i64 ((k : Nat) : Int)))] (Exists.intro [] (Exists.intro [] (And.intro (.cons (.tmp 4 rfl) .nil) (And.intro (.cons (.any _) (.cons (.any _) .nil)) (And.intro (Exp.of (congrArg (D.int .i64) (by exact (ixF_some (by omega) hp0.2 (by assumption)).symm)) (.d _)) (And.intro rfl rfl))))))
    · refine T_skip ?_
      refine T_region hc ?_
      refine Ch.step (v := (.d (.int .i64 (((k : Nat) : Int) + 1)))) rfl (.pure (.int _ _ _ _ _ rfl rfl rfl (intV_add (by first | omega | (simp only [List.length_map, List.length_append, List.length_take, List.length_drop, List.length_cons, List.length_nil]; omega) | (simp; omega) | (simp; done)) (by first | omega | (simp only [List.length_map, List.length_append, List.length_take, List.length_drop, List.length_cons, List.length_nil]; omega) | (simp; omega) | (simp; done))))) rfl rfl ?_
      refine Ch.step (v := (.d (.int .i64 (((k : Nat) : Int) + 1)))) rfl (.pure (.move _ rfl rfl)) rfl rfl ?_
      refine Ch.nil ?_
      refine Exists.intro (k + 1) (And.intro ⟨by omega, upto_succ hp0.2 (by assumption)⟩ (And.intro (by first | omega | (dsimp only; omega)) (Wk.of rfl rfl (And.intro rfl (And.intro rfl (And.intro rfl (And.intro (vI (by first | rfl | omega | (simp; done) | (simp; omega))) trivial)))) trivial)))
  · replace h1 := of_decide_eq_false h1
    refine T_exit ?_
    refine T_seq ?_
    refine T_region hc ?_
    refine Ch.step (v := (.d (.int .i64 (-1)))) rfl (.pure (.assign _ rfl rfl)) rfl rfl ?_
    refine Ch.nil ?_
    refine T_ret ?_
    refine And.intro (.inr rfl) ?_
    exact Exists.intro [(.d (.int .i64 (-1)))] (Exists.intro [] (Exists.intro [] (And.intro (.cons (.tmp 4 rfl) .nil) (And.intro (.cons (.any _) (.cons (.any _) .nil)) (And.intro (Exp.of (congrArg (D.int .i64) (by exact (ixF_none (fun j hj => hp0.2 j (by omega))).symm)) (.d _)) (And.intro rfl rfl))))))

theorem sp_ContainsFunc_str (xs : List (List UInt8)) (f : FuncId) (caps : List D) (p : List UInt8 → Bool) (hf : Enters Try.prog f) (hp : ∀ x ∈ xs, Sp Try.prog f (D.str x :: caps) (.any :: anys caps) (.bool (p x))) (hn : xs.length ≤ 1048576) : Sp Try.prog 71 [(.slice false 1 (xs.map D.str)), (.fn f caps)] [.any, .any] (.bool (xs.any p)) := by
  refine Sp_intro (lend := true) Try.func71 rfl rfl rfl (fun _ => rfl) (fun c hc hX => ?_)
  refine T_seq ?_
  refine T_region hc ?_
  refine Ch.step (v := (.d (.bool false))) rfl (.pure (.assign _ rfl rfl)) rfl rfl ?_
  refine Ch.nil ?_
  refine T_seq ?_
  refine T_region hc ?_
  refine Ch.step (v := (.d (.slice false 1 (xs.map D.str)))) rfl (.pure (.move _ rfl rfl)) rfl rfl ?_
  refine Ch.step (v := (.d (.fn f caps))) rfl (.pure (.move _ rfl rfl)) rfl rfl ?_
  refine Ch.step (v := (.d (.int .i64 (ixF p xs)))) rfl (.call 7000 130 _ _ _ en130 rfl (.inl rfl) (.cons (.d _) (.cons (.d _) .nil)) rfl rfl (sp_IndexFunc_str xs f caps p hf hp (by first | omega | assumption | (exact hx _ (getD_mem (by omega))) | (exact hx _ (by assumption)) | (exact Nat.le_trans (hx _ (by assumption)) (by omega)) | (simp only [List.length_append, List.length_take, List.length_drop, List.length_cons, List.length_nil]; omega) | (simp_all; done))) (.skip _ _ (.skip _ _ .nil)) rfl) rfl rfl ?_
  refine Ch.step (v := (.d (.bool (decide (0 ≤ (ixF p xs)))))) rfl (.pure (.int _ _ _ _ _ rfl rfl rfl rfl)) rfl rfl ?_
  refine Ch.step (v := (.d (.bool (decide (0 ≤ (ixF p xs)))))) rfl (.pure (.assign _ rfl rfl)) rfl rfl ?_
  refine Ch.nil ?_
  refine T_ret ?_
  refine And.intro (.inr rfl) ?_
  exact Exists.intro [(.d (.bool (decide (0 ≤ (ixF p xs)))))] (Exists.intro [] (Exists.intro [] (And.intro (.cons (.tmp 4 rfl) .nil) (And.intro (.cons (.any _) (.cons (.any _) .nil)) (And.intro (Exp.of (congrArg D.bool (by exact ixF_nonneg p xs)) (.d _)) (And.intro rfl rfl))))))

theorem en117 : Enters Try.prog 117 := ⟨_, Try.func117, by kernel_rfl, rfl⟩

theorem ag3 : AggIs Try.prog 3 false := by unfold AggIs; kernel_rfl

theorem en121 : Enters Try.prog 121 := ⟨_, Try.func121, by kernel_rfl, rfl⟩

theorem en120 : Enters Try.prog 120 := ⟨_, Try.func120, by kernel_rfl, rfl⟩

theorem en71 : Enters Try.prog 71 := ⟨_, Try.func71, by kernel_rfl, rfl⟩

def okCube (n : Int) (c : List UInt8) : Bool := cubeB c && decide ((c.length : Int) = n)

def allOf {τ : Type} [Inhabited τ] (xs : List τ) (q : τ → Bool) : Bool := allB xs.length fun j => q (xs.getD j default)

def goodB (n : Int) (xs : List (List UInt8)) : Bool := allOf xs (okCube n) && (withinB n 1 8 && decide ((xs.length : Int) ≤ 60))

theorem any_not {τ : Type} [Inhabited τ] (xs : List τ) (q : τ → Bool) : xs.any (fun c => !q c) = !allOf xs q := by
  cases h : allOf xs q with
  | true =>
    rw [Bool.not_true, List.any_eq_false]
    intro x hx
    obtain ⟨j, hj, rfl⟩ := List.mem_iff_getElem.1 hx
    have := allB_true.1 h j hj
    simp [hj] at this
    simp [this]
  | false =>
    rw [Bool.not_false, List.any_eq_true]
    apply Classical.byContradiction
    intro hno
    have : allOf xs q = true := allB_of fun j hj => by
      cases hq : q (xs.getD j default) with
      | true => rfl
      | false => exact absurd ⟨_, getD_mem hj, by rw [hq]; rfl⟩ hno
    rw [h] at this; cases this

theorem okCube_eq (n : Int) (c : List UInt8) : okCube n c = cubeN c n := by
  unfold okCube cubeN cubeB
  by_cases h : (c.length : Int) = n
  · rw [h]; simp
  · simp [h]

theorem good_any (n : Int) (xs : List (List UInt8)) : (xs.any fun c => !cubeN c n) = !allOf xs (okCube n) := by
  rw [← any_not]; congr 1; funext c; rw [okCube_eq]

theorem sp_spec_l13Good (n : Int) (xs : List (List UInt8)) (hn : xs.length ≤ 1048576) (hx : ∀ x ∈ xs, x.length ≤ 1048576) : Sp Try.prog 59 [(.int .i64 n), (.slice false 1 (xs.map D.str))] [.any, .any] (.bool (goodB n xs)) := by
  refine Sp_intro (lend := true) Try.func59 rfl rfl rfl (fun _ => rfl) (fun c hc hX => ?_)
  refine T_seq ?_
  refine T_region hc ?_
  refine Ch.step (v := (.d (.bool false))) rfl (.pure (.assign _ rfl rfl)) rfl rfl ?_
  refine Ch.nil ?_
  refine T_seq ?_
  refine T_seq ?_
  refine T_region hc ?_
  refine Ch.step (v := (.d (.slice false 1 (xs.map D.str)))) rfl (.pure (.move _ rfl rfl)) rfl rfl ?_
  refine Ch.step (v := (.d (.int .i64 ((xs.length : Nat) : Int)))) rfl (.pure (.len _ _ 9 rfl Try.underlying22 (.sh _ _) (by simp))) rfl rfl ?_
  refine Ch.step (v := (.d (.int .i64 0))) rfl (.pure (.move _ rfl rfl)) rfl rfl ?_
  refine Ch.nil ?_
  refine T_block ?_
  refine T_loop (ι := Nat) (fun k => { n := 30, sl := [(0, (.d (.int .i64 n))), (1, (.d (.slice false 1 (xs.map D.str)))), (7, (.d (.slice false 1 (xs.map D.str)))), (8, (.d (.int .i64 ((xs.length : Nat) : Int)))), (9, (.d (.int .i64 ((k : Nat) : Int))))], hp := [], pin := [] }) (fun k => k ≤ xs.length ∧ ∀ j, j < k → okCube n (xs.getD j default) = true) (fun k => xs.length - k) ⟨0, ⟨by omega, fun j hj => by omega⟩, (Wk.of rfl rfl (And.intro rfl (And.intro rfl (And.intro rfl (And.intro rfl (And.intro (vI (by first | rfl | omega | (simp; done) | (simp; omega))) trivial))))) trivial)⟩ (fun k hp0 => ?_)
  refine T_seq ?_
  refine T_region hc ?_
  refine Ch.step (v := (.d (.bool (decide (((k : Nat) : Int) < ((xs.length : Nat) : Int)))))) rfl (.pure (.int _ _ _ _ _ rfl rfl rfl rfl)) rfl rfl ?_
  refine Ch.nil ?_
  refine T_seq ?_
  refine T_cond (b := (decide (((k : Nat) : Int) < ((xs.length : Nat) : Int)))) rfl (fun h1 => ?_) (fun h1 => ?_)
  · replace h1 := of_decide_eq_true h1
    refine T_skip ?_
    refine T_seq ?_
    refine T_block ?_
    refine T_seq ?_
    refine T_region hc ?_
    refine Ch.step (v := (.d (.ref (.str (xs.getD k default))))) rfl (.pure (.idx _ _ _ 9 (k) rfl Try.underlying22 sz9 rfl rfl rfl (get_map _ (by first | omega | (simp only [List.length_map, List.length_append, List.length_take, List.length_drop, List.length_cons, List.length_nil]; omega) | (simp; omega) | (simp; done))))) rfl rfl ?_
    refine Ch.step (v := (.d (.str (xs.getD k default)))) rfl (.pure (.loadRef1 _ _ rfl ag9 rfl rfl)) rfl rfl ?_
    refine Ch.step (v := (.d (.str (xs.getD k default)))) rfl (.pure (.assign _ rfl rfl)) rfl rfl ?_
    refine Ch.nil ?_
    refine T_seq ?_
    refine T_region hc ?_
    refine Ch.step (v := (.d (.str (xs.getD k default)))) rfl (.pure (.move _ rfl rfl)) rfl rfl ?_
    refine Ch.step (v := (.d (.bool (cubeB (xs.getD k default))))) rfl (.call 14000 117 _ _ _ en117 rfl (.inl rfl) (.cons (.d _) .nil) rfl rfl (sp_spec_l13Cube (xs.getD k default) (by first | omega | assumption | (exact hx _ (getD_mem (by omega))) | (exact hx _ (by assumption)) | (exact Nat.le_trans (hx _ (by assumption)) (by omega)) | (simp only [List.length_append, List.length_take, List.length_drop, List.length_cons, List.length_nil]; omega) | (simp_all; done))) (.skip _ _ .nil) rfl) rfl rfl ?_
    refine Ch.step (v := (.d (.bool (!(cubeB (xs.getD k default)))))) rfl (.pure (.not _ _ rfl rfl)) rfl rfl ?_
    refine Ch.step (v := (.d (.bool (!(cubeB (xs.getD k default)))))) rfl (.pure (.move _ rfl rfl)) rfl rfl ?_
    cases h2 : (cubeB (xs.getD k default)) with
    | true =>
      refine Ch.step (v := (.d (.str (xs.getD k default)))) rfl (.pure (.move _ rfl rfl)) rfl rfl ?_
      refine Ch.step (v := (.d (.int .i64 (((xs.getD k default).length : Nat) : Int)))) rfl (.pure (.lenStr _ _ rfl Try.underlying9 rfl)) rfl rfl ?_
      refine Ch.step (v := (.d (.int .i64 n))) rfl (.pure (.move _ rfl rfl)) rfl rfl ?_
      refine Ch.step (v := (.d (.bool (!(decide ((((xs.getD k default).length : Nat) : Int) = n)))))) rfl (.pure (.int _ _ _ _ _ rfl rfl rfl rfl)) rfl rfl ?_
      refine Ch.step (v := (.d (.bool (!(decide ((((xs.getD k default).length : Nat) : Int) = n)))))) rfl (.pure (.pickF _ _ _ rfl rfl rfl)) rfl rfl ?_
      refine Ch.nil ?_
      refine T_cond (b := (!(decide ((((xs.getD k default).length : Nat) : Int) = n)))) rfl (fun h3 => ?_) (fun h3 => ?_)
      · replace h3 := nott h3
        replace h3 := of_decide_eq_false h3
        refine T_seq ?_
        refine T_region hc ?_
        refine Ch.step (v := (.d (.bool false))) rfl (.pure (.assign _ rfl rfl)) rfl rfl ?_
        refine Ch.nil ?_
        refine T_ret ?_
        refine And.intro (.inr rfl) ?_
        exact Exists.intro [(.d (.bool false))] (Exists.intro [] (Exists.intro [] (And.intro (.cons (.tmp 4 rfl) .nil) (And.intro (.cons (.any _) (.cons (.any _) .nil)) (And.intro (Exp.of (congrArg D.bool (by first | (rw [goodB, allOf, allB_no k (by omega) (by simp_all [okCube])]; rfl) | (rw [goodB, allOf, allB_of (fun j hj => hp0.2 j (by omega))]; simp_all))) (.d _)) (And.intro rfl rfl))))))
      · replace h3 := notf h3
        replace h3 := of_decide_eq_true h3
        refine T_skip ?_
        refine T_region hc ?_
        refine Ch.step (v := (.d (.int .i64 (((k : Nat) : Int) + 1)))) rfl (.pure (.int _ _ _ _ _ rfl rfl rfl (intV_add (by first | omega | (simp only [List.length_map, List.length_append, List.length_take, List.length_drop, List.length_cons, List.length_nil]; omega) | (simp; omega) | (simp; done)) (by first | omega | (simp only [List.length_map, List.length_append, List.length_take, List.length_drop, List.length_cons, List.length_nil]; omega) | (simp; omega) | (simp; done))))) rfl rfl ?_
        refine Ch.step (v := (.d (.int .i64 (((k : Nat) : Int) + 1)))) rfl (.pure (.move _ rfl rfl)) rfl rfl ?_
        refine Ch.nil ?_
        refine Exists.intro (k + 1) (And.intro ⟨by omega, upto_succ hp0.2 (by simp_all [okCube])⟩ (And.intro (by first | omega | (dsimp only; omega)) (Wk.of rfl rfl (And.intro rfl (And.intro rfl (And.intro rfl (And.intro rfl (And.intro (vI (by first | rfl | omega | (simp; done) | (simp; omega))) trivial))))) trivial)))
    | false =>
      refine Ch.skip rfl rfl ?_
      refine Ch.skip rfl rfl ?_
      refine Ch.skip rfl rfl ?_
      refine Ch.skip rfl rfl ?_
      refine Ch.step (v := (.d (.bool true))) rfl (.pure (.pickT _ _ _ rfl rfl rfl)) rfl rfl ?_
      refine Ch.nil ?_
      refine T_cond (b := true) rfl (fun _ => ?_) (fun h => nomatch h)
      refine T_seq ?_
      refine T_region hc ?_
      refine Ch.step (v := (.d (.bool false))) rfl (.pure (.assign _ rfl rfl)) rfl rfl ?_
      refine Ch.nil ?_
      refine T_ret ?_
      refine And.intro (.inr rfl) ?_
      exact Exists.intro [(.d (.bool false))] (Exists.intro [] (Exists.intro [] (And.intro (.cons (.tmp 4 rfl) .nil) (And.intro (.cons (.any _) (.cons (.any _) .nil)) (And.intro (Exp.of (congrArg D.bool (by first | (rw [goodB, allOf, allB_no k (by omega) (by simp_all [okCube])]; rfl) | (rw [goodB, allOf, allB_of (fun j hj => hp0.2 j (by omega))]; simp_all))) (.d _)) (And.intro rfl rfl))))))
  · replace h1 := of_decide_eq_false h1
    refine T_exit ?_
    refine T_seq ?_
    refine T_region hc ?_
    refine Ch.step (v := (.d (.int .i64 n))) rfl (.pure (.move _ rfl rfl)) rfl rfl ?_
    refine Ch.step (v := (.d (.bool (withinB n 1 8)))) rfl (.call 24000 118 _ _ _ en118 rfl (.inl rfl) (.cons (.d _) (.cons (.d _) (.cons (.d _) .nil))) rfl rfl (sp_spec_l1In n 1 8) (.skip _ _ (.skip _ _ (.skip _ _ .nil))) rfl) rfl rfl ?_
    refine Ch.step (v := (.d (.bool (withinB n 1 8)))) rfl (.pure (.move _ rfl rfl)) rfl rfl ?_
    cases h4 : (withinB n 1 8) with
    | true =>
      refine Ch.step (v := (.d (.slice false 1 (xs.map D.str)))) rfl (.pure (.move _ rfl rfl)) rfl rfl ?_
      refine Ch.step (v := (.d (.int .i64 ((xs.length : Nat) : Int)))) rfl (.pure (.len _ _ 9 rfl Try.underlying22 (.sh _ _) (by simp))) rfl rfl ?_
      refine Ch.step (v := (.d (.bool (decide (((xs.length : Nat) : Int) ≤ 60))))) rfl (.pure (.int _ _ _ _ _ rfl rfl rfl rfl)) rfl rfl ?_
      refine Ch.step (v := (.d (.bool (decide (((xs.length : Nat) : Int) ≤ 60))))) rfl (.pure (.pickT _ _ _ rfl rfl rfl)) rfl rfl ?_
      refine Ch.step (v := (.d (.bool (decide (((xs.length : Nat) : Int) ≤ 60))))) rfl (.pure (.assign _ rfl rfl)) rfl rfl ?_
      refine Ch.nil ?_
      refine T_ret ?_
      refine And.intro (.inr rfl) ?_
      exact Exists.intro [(.d (.bool (decide (((xs.length : Nat) : Int) ≤ 60))))] (Exists.intro [] (Exists.intro [] (And.intro (.cons (.tmp 4 rfl) .nil) (And.intro (.cons (.any _) (.cons (.any _) .nil)) (And.intro (Exp.of (congrArg D.bool (by first | (rw [goodB, allOf, allB_no k (by omega) (by simp_all [okCube])]; rfl) | (rw [goodB, allOf, allB_of (fun j hj => hp0.2 j (by omega))]; simp_all))) (.d _)) (And.intro rfl rfl))))))
    | false =>
      refine Ch.skip rfl rfl ?_
      refine Ch.skip rfl rfl ?_
      refine Ch.skip rfl rfl ?_
      refine Ch.step (v := (.d (.bool false))) rfl (.pure (.pickF _ _ _ rfl rfl rfl)) rfl rfl ?_
      refine Ch.step (v := (.d (.bool false))) rfl (.pure (.assign _ rfl rfl)) rfl rfl ?_
      refine Ch.nil ?_
      refine T_ret ?_
      refine And.intro (.inr rfl) ?_
      exact Exists.intro [(.d (.bool false))] (Exists.intro [] (Exists.intro [] (And.intro (.cons (.tmp 4 rfl) .nil) (And.intro (.cons (.any _) (.cons (.any _) .nil)) (And.intro (Exp.of (congrArg D.bool (by first | (rw [goodB, allOf, allB_no k (by omega) (by simp_all [okCube])]; rfl) | (rw [goodB, allOf, allB_of (fun j hj => hp0.2 j (by omega))]; simp_all))) (.d _)) (And.intro rfl rfl))))))

theorem sp_impl_IsValidCover_1 (u : List UInt8) (n : Int) (hs : u.length ≤ 1048576) : Sp Try.prog 120 [(.str u), (.ref (.int .i64 n))] [.any, .any] (.bool (!cubeN u n)) := by
  refine Sp_intro (lend := true) Try.func120 rfl rfl rfl (fun _ => rfl) (fun c hc hX => ?_)
  refine T_seq ?_
  refine T_region hc ?_
  refine Ch.step (v := (.d (.bool false))) rfl (.pure (.assign _ rfl rfl)) rfl rfl ?_
  refine Ch.nil ?_
  refine T_seq ?_
  refine T_region hc ?_
  refine Ch.step (v := (.d (.str u))) rfl (.pure (.move _ rfl rfl)) rfl rfl ?_
  refine Ch.step (v := (.d (.int .i64 n))) rfl (.pure (.loadRef1 _ _ rfl ag3 rfl rfl)) rfl rfl ?_
  refine Ch.step (v := (.d (.bool (cubeN u n)))) rfl (.call 6000 121 _ _ _ en121 rfl (.inl rfl) (.cons (.d _) (.cons (.d _) .nil)) rfl rfl (sp_impl_isCube u n (by first | omega | assumption | (exact hx _ (getD_mem (by omega))) | (exact hx _ (by assumption)) | (exact Nat.le_trans (hx _ (by assumption)) (by omega)) | (simp only [List.length_append, List.length_take, List.length_drop, List.length_cons, List.length_nil]; omega) | (simp_all; done))) (.skip _ _ (.skip _ _ .nil)) rfl) rfl rfl ?_
  refine Ch.step (v := (.d (.bool (!(cubeN u n))))) rfl (.pure (.not _ _ rfl rfl)) rfl rfl ?_
  refine Ch.step (v := (.d (.bool (!(cubeN u n))))) rfl (.pure (.assign _ rfl rfl)) rfl rfl ?_
  refine Ch.nil ?_
  refine T_ret ?_
  refine And.intro (.inr rfl) ?_
  exact Exists.intro [(.d (.bool (!(cubeN u n))))] (Exists.intro [] (Exists.intro [] (And.intro (.cons (.tmp 3 rfl) .nil) (And.intro (.cons (.any _) (.cons (.any _) .nil)) (And.intro (Exp.of (congrArg D.bool (by rfl)) (.d _)) (And.intro rfl rfl))))))

theorem sp_impl_IsValidCover (n : Int) (xs : List (List UInt8)) (hn : xs.length ≤ 1048576) (hx : ∀ x ∈ xs, x.length ≤ 1048576) : Sp Try.prog 62 [(.int .i64 n), (.slice false 1 (xs.map D.str))] [.any, .any] (.bool (goodB n xs)) := by
  refine Sp_intro (lend := true) Try.func62 rfl rfl rfl (fun _ => rfl) (fun c hc hX => ?_)
  refine T_seq ?_
  refine T_region hc ?_
  refine Ch.step (v := (.ptr 2000 0)) rfl (.box 2000 _ _ rfl (.one _ rfl)) rfl rfl ?_
  refine Ch.step (v := (.d (.bool false))) rfl (.pure (.assign _ rfl rfl)) rfl rfl ?_
  refine Ch.nil ?_
  refine T_seq ?_
  refine T_region hc ?_
  refine Ch.step (v := (.d (.int .i64 n))) rfl (.pure (.loadPtr1 _ _ rfl ag3 rfl rfl rfl)) rfl rfl ?_
  refine Ch.step (v := (.d (.bool (withinB n 1 8)))) rfl (.call 6000 98 _ _ _ en98 rfl (.inl rfl) (.cons (.d _) (.cons (.d _) (.cons (.d _) .nil))) rfl rfl (sp_impl_within n 1 8) (.skip _ _ (.skip _ _ (.skip _ _ .nil))) rfl) rfl rfl ?_
  refine Ch.step (v := (.d (.bool (withinB n 1 8)))) rfl (.pure (.move _ rfl rfl)) rfl rfl ?_
  cases h1 : (withinB n 1 8) with
  | true =>
    refine Ch.step (v := (.d (.slice false 1 (xs.map D.str)))) rfl (.pure (.move _ rfl rfl)) rfl rfl ?_
    refine Ch.step (v := (.d (.int .i64 ((xs.length : Nat) : Int)))) rfl (.pure (.len _ _ 9 rfl Try.underlying22 (.sh _ _) (by simp))) rfl rfl ?_
    refine Ch.step (v := (.d (.bool (decide (((xs.length : Nat) : Int) ≤ 60))))) rfl (.pure (.int _ _ _ _ _ rfl rfl rfl rfl)) rfl rfl ?_
    refine Ch.step (v := (.d (.bool (decide (((xs.length : Nat) : Int) ≤ 60))))) rfl (.pure (.pickT _ _ _ rfl rfl rfl)) rfl rfl ?_
    refine Ch.step (v := (.d (.bool (decide (((xs.length : Nat) : Int) ≤ 60))))) rfl (.pure (.move _ rfl rfl)) rfl rfl ?_
    cases h2 : (decide (((xs.length : Nat) : Int) ≤ 60)) with
    | true =>
      replace h2 := of_decide_eq_true h2
      refine Ch.step (v := (.d (.slice false 1 (xs.map D.str)))) rfl (.pure (.move _ rfl rfl)) rfl rfl ?_
      refine Ch.step (v := (.fn 120 [(.ptr 2000 0)])) rfl (.pure (.func _ _ rfl rfl)) rfl rfl ?_
      refine Ch.step (v := (.d (.bool (xs.any (fun c => !cubeN c n))))) rfl (.call 15000 71 _ _ _ en71 rfl (.inl rfl) (.cons (.d _) (.cons (.lend (.fn (.cons (.ptr rfl (.one (.d _) rfl)) .nil))) .nil)) rfl rfl (sp_ContainsFunc_str xs 120 [(.ref (.int .i64 n))] (fun c => !cubeN c n) en120 (fun c hc => sp_impl_IsValidCover_1 c n (by first | omega | assumption | (exact hx _ (getD_mem (by omega))) | (exact hx _ (by assumption)) | (exact Nat.le_trans (hx _ (by assumption)) (by omega)) | (simp only [List.length_append, List.length_take, List.length_drop, List.length_cons, List.length_nil]; omega) | (simp_all; done))) (by first | omega | assumption | (exact hx _ (getD_mem (by omega))) | (exact hx _ (by assumption)) | (exact Nat.le_trans (hx _ (by assumption)) (by omega)) | (simp only [List.length_append, List.length_take, List.length_drop, List.length_cons, List.length_nil]; omega) | (simp_all; done))) (.skip _ _ (.skip _ _ .nil)) rfl) rfl rfl ?_
      refine Ch.step (v := (.d (.bool (!(xs.any (fun c => !cubeN c n)))))) rfl (.pure (.not _ _ rfl rfl)) rfl rfl ?_
      refine Ch.step (v := (.d (.bool (!(xs.any (fun c => !cubeN c n)))))) rfl (.pure (.pickT _ _ _ rfl rfl rfl)) rfl rfl ?_
      refine Ch.step (v := (.d (.bool (!(xs.any (fun c => !cubeN c n)))))) rfl (.pure (.assign _ rfl rfl)) rfl rfl ?_
      refine Ch.nil ?_
      refine T_ret ?_
      refine And.intro (.inr rfl) ?_
      exact Exists.intro [(.d (.bool (!(xs.any (fun c => !cubeN c n)))))] (Exists.intro [] (Exists.intro [] (And.intro (.cons (.tmp 4 rfl) .nil) (And.intro (.cons (.any _) (.cons (.any _) .nil)) (And.intro (Exp.of (congrArg D.bool (by simp_all [goodB, good_any])) (.d _)) (And.intro rfl rfl))))))
    | false =>
      replace h2 := of_decide_eq_false h2
      refine Ch.skip rfl rfl ?_
      refine Ch.skip rfl rfl ?_
      refine Ch.skip rfl rfl ?_
      refine Ch.skip rfl rfl ?_
      refine Ch.step (v := (.d (.bool false))) rfl (.pure (.pickF _ _ _ rfl rfl rfl)) rfl rfl ?_
      refine Ch.step (v := (.d (.bool false))) rfl (.pure (.assign _ rfl rfl)) rfl rfl ?_
      refine Ch.nil ?_
      refine T_ret ?_
      refine And.intro (.inr rfl) ?_
      exact Exists.intro [(.d (.bool false))] (Exists.intro [] (Exists.intro [] (And.intro (.cons (.tmp 4 rfl) .nil) (And.intro (.cons (.any _) (.cons (.any _) .nil)) (And.intro (Exp.of (congrArg D.bool (by simp_all [goodB, good_any])) (.d _)) (And.intro rfl rfl))))))
  | false =>
    refine Ch.skip rfl rfl ?_
    refine Ch.skip rfl rfl ?_
    refine Ch.skip rfl rfl ?_
    refine Ch.step (v := (.d (.bool false))) rfl (.pure (.pickF _ _ _ rfl rfl rfl)) rfl rfl ?_
    refine Ch.step (v := (.d (.bool false))) rfl (.pure (.move _ rfl rfl)) rfl rfl ?_
    refine Ch.skip rfl rfl ?_
    refine Ch.skip rfl rfl ?_
    refine Ch.skip rfl rfl ?_
    refine Ch.skip rfl rfl ?_
    refine Ch.step (v := (.d (.bool false))) rfl (.pure (.pickF _ _ _ rfl rfl rfl)) rfl rfl ?_
    refine Ch.step (v := (.d (.bool false))) rfl (.pure (.assign _ rfl rfl)) rfl rfl ?_
    refine Ch.nil ?_
    refine T_ret ?_
    refine And.intro (.inr rfl) ?_
    exact Exists.intro [(.d (.bool false))] (Exists.intro [] (Exists.intro [] (And.intro (.cons (.tmp 4 rfl) .nil) (And.intro (.cons (.any _) (.cons (.any _) .nil)) (And.intro (Exp.of (congrArg D.bool (by simp_all [goodB, good_any])) (.d _)) (And.intro rfl rfl))))))

def isLit (u : List UInt8) (j : Nat) : Bool := u.getD j 0 != 45

theorem any_yes {τ : Type} {l : List τ} {p : τ → Bool} (d : τ) (k : Nat) (hk : k < l.length) (h : p (l.getD k d) = true) : true = l.any p := (List.any_eq_true.2 ⟨_, getD_mem hk, h⟩).symm

theorem any_no {τ : Type} {l : List τ} {p : τ → Bool} (d : τ) (h : ∀ j, j < l.length → p (l.getD j d) = false) : false = l.any p := by
  symm
  rw [List.any_eq_false]
  intro x hx
  obtain ⟨j, hj, rfl⟩ := List.mem_iff_getElem.1 hx
  have := h j hj
  simp [hj] at this
  simp [this]

def keepTo (p : List UInt8 → Bool) (xs : List (List UInt8)) (j : Nat) : List (List UInt8) := (xs.take j).filter fun u => !p u

theorem keepTo_no {p : List UInt8 → Bool} {xs : List (List UInt8)} {j : Nat} (hj : j < xs.length) (h : p (xs.getD j default) = true) : keepTo p xs (j + 1) = keepTo p xs j := by
  have hg : xs.getD j default = xs[j] := by simp [hj]
  rw [hg] at h
  rw [keepTo, keepTo, List.take_succ_eq_append_getElem hj, List.filter_append]; simp [h]

structure DelInv (p : List UInt8 → Bool) (xs : List (List UInt8)) (j : Nat) (R : List (List UInt8)) : Prop where
  le : j ≤ xs.length
  len : R.length = xs.length
  lt : (keepTo p xs j).length < j
  pre : R.take (keepTo p xs j).length = keepTo p xs j
  post : R.drop j = xs.drop j

theorem DelInv.get {p xs j R} (h : DelInv p xs j R) (hj : j < xs.length) : R.getD j default = xs.getD j default := by
  have h1 : (R.drop j)[0]? = (xs.drop j)[0]? := by rw [h.post]
  rw [List.getElem?_drop, List.getElem?_drop, Nat.add_zero] at h1
  rw [List.getD_eq_getElem?_getD, List.getD_eq_getElem?_getD, h1]

theorem DelInv.skip {p xs j R} (h : DelInv p xs j R) (hj : j < xs.length) (hp : p (R.getD j default) = true) : DelInv p xs (j + 1) R ∧ (keepTo p xs j).length = (keepTo p xs (j + 1)).length := by
  rw [h.get hj] at hp
  have hk := keepTo_no hj hp
  refine ⟨⟨by omega, h.len, by rw [hk]; have := h.lt; omega, by rw [hk]; exact h.pre, ?_⟩, by rw [hk]⟩
  rw [← List.drop_drop, ← List.drop_drop, h.post]

def both (u : List UInt8) : List (List UInt8) := [u ++ [48], u ++ [49]]

def codes : Nat → List (List UInt8)
  | 0 => [[]]
  | n + 1 => (codes n).flatMap both

theorem en59 : Enters Try.prog 59 := ⟨_, Try.func59, by kernel_rfl, rfl⟩

theorem en62 : Enters Try.prog 62 := ⟨_, Try.func62, by kernel_rfl, rfl⟩

theorem en17 : Enters Try.prog 17 := ⟨_, Try.func17, by kernel_rfl, rfl⟩

theorem en19 : Enters Try.prog 19 := ⟨_, Try.func19, by kernel_rfl, rfl⟩

theorem en21 : Enters Try.prog 21 := ⟨_, Try.func21, by kernel_rfl, rfl⟩

def three (u : List UInt8) : List (List UInt8) := [u ++ [45], u ++ [48], u ++ [49]]

def cubes : Nat → List (List UInt8)
  | 0 => [[]]
  | n + 1 => (cubes n).flatMap three

theorem en140 : Enters Try.prog 140 := ⟨_, Try.func140, by kernel_rfl, rfl⟩

theorem sp_Join (xs : List (List UInt8)) (sep : List UInt8) (hn : xs.length ≤ 1048576) (hl : (Lib.join xs sep).length ≤ 140737488355328) : Sp Try.prog 140 [.slice false 1 (xs.map D.str), .str sep] [.any, .any] (.str (Lib.join xs sep)) :=
  sp_join Go.Proofs.Try.strings_Join_none Go.Proofs.Try.strings_Join xs sep (by omega) hl

theorem fld92_0 : FieldIs Try.prog 92 0 0 1 false := FieldIs.mk Try.underlying92 rfl rfl sz9 ag9 rfl

theorem sz92 : SizeIs Try.prog 92 2 := by unfold SizeIs; kernel_rfl

theorem ag92 : AggIs Try.prog 92 true := by unfold AggIs; kernel_rfl

theorem en83 : Enters Try.prog 83 := ⟨_, Try.func83, by kernel_rfl, rfl⟩

theorem zr85 : (Try.prog.info? 85).bind (·.zero) = some (.agg #[.string .empty, .int .i64 0]) := by kernel_rfl

theorem zer85 : ∃ i z, Try.prog.info? 85 = some i ∧ i.zero = some z ∧ z.cells = List.toArray [.string .empty, .int .i64 0] := zero_mk zr85 rfl

theorem fld85_0 : FieldIs Try.prog 85 0 0 1 false := FieldIs.mk Try.underlying85 rfl rfl sz9 ag9 rfl

theorem sz3 : SizeIs Try.prog 3 1 := by unfold SizeIs; kernel_rfl

theorem fld92_1 : FieldIs Try.prog 92 1 1 1 false := FieldIs.mk Try.underlying92 rfl rfl sz3 ag3 rfl

theorem fld85_1 : FieldIs Try.prog 85 1 1 1 false := FieldIs.mk Try.underlying85 rfl rfl sz3 ag3 rfl

theorem ag85 : AggIs Try.prog 85 true := by unfold AggIs; kernel_rfl

theorem sz85 : SizeIs Try.prog 85 2 := by unfold SizeIs; kernel_rfl

theorem sty41 : SlotTy Try.prog 41 85 2 24 := slotTy_mk (by kernel_rfl)

theorem en86 : Enters Try.prog 86 := ⟨_, Try.func86, by kernel_rfl, rfl⟩

theorem en89 : Enters Try.prog 89 := ⟨_, Try.func89, by kernel_rfl, rfl⟩

theorem en35 : Enters Try.prog 35 := ⟨_, Try.func35, by kernel_rfl, rfl⟩

theorem en37 : Enters Try.prog 37 := ⟨_, Try.func37, by kernel_rfl, rfl⟩

theorem en39 : Enters Try.prog 39 := ⟨_, Try.func39, by kernel_rfl, rfl⟩

def sumF {τ : Type} (f : τ → Nat) (xs : List τ) (k : Nat) : Nat := ((xs.take k).map f).sum

def bulkF {τ : Type} (f : τ → Nat) (xs : List τ) : Nat := xs.length + (xs.map f).sum

theorem sumF_zero {τ : Type} (f : τ → Nat) (xs : List τ) : sumF f xs 0 = 0 := rfl

theorem sumF_succ {τ : Type} [Inhabited τ] (f : τ → Nat) {xs : List τ} {k : Nat} (h : k < xs.length) : sumF f xs (k + 1) = sumF f xs k + f (xs.getD k default) := by
  have hg : xs.getD k default = xs[k] := by simp [h]
  unfold sumF
  rw [hg, List.take_succ_eq_append_getElem h, List.map_append, List.sum_append]
  simp only [List.map_cons, List.map_nil, List.sum_cons, List.sum_nil, Nat.add_zero]

theorem sumF_all {τ : Type} (f : τ → Nat) {xs : List τ} {k : Nat} (h : xs.length ≤ k) : sumF f xs k = (xs.map f).sum := by rw [sumF, List.take_of_length_le h]

theorem sumF_le {τ : Type} (f : τ → Nat) (xs : List τ) (k : Nat) : sumF f xs k ≤ (xs.map f).sum := by
  conv => rhs; rw [← List.take_append_drop k xs, List.map_append, List.sum_append]
  unfold sumF; omega

theorem le_sumL {x : Nat} : ∀ {l : List Nat}, x ∈ l → x ≤ l.sum
  | y :: l, h => by
    rw [List.sum_cons]
    rcases List.mem_cons.1 h with rfl | h
    · omega
    · have := le_sumL h; omega

theorem bulkF_len {τ : Type} {f : τ → Nat} {xs : List τ} {n : Nat} (h : bulkF f xs ≤ n) : xs.length ≤ n := by unfold bulkF at h; omega

theorem bulkF_mem {τ : Type} {f : τ → Nat} {xs : List τ} {n : Nat} (h : bulkF f xs ≤ n) : ∀ x ∈ xs, f x ≤ n := by
  intro x hx
  have : f x ≤ (xs.map f).sum := le_sumL (List.mem_map.2 ⟨x, hx, rfl⟩)
  unfold bulkF at h; omega

def szR (t : Nat) (left : Int) : Int := if (t : Int) ≤ left then left - t else -1

theorem szR_cases (t : Nat) (left : Int) : ((t : Int) ≤ left ∧ szR t left = left - t) ∨ (left < t ∧ szR t left = -1) := by
  unfold szR; split
  · exact .inl ⟨by assumption, rfl⟩
  · exact .inr ⟨by omega, rfl⟩

theorem szR_ok {t : Nat} {left : Int} (h : ¬ szR t left < 0) (h0 : 0 ≤ left) : t ≤ left.toNat ∧ szR t left = left - t := by
  rcases szR_cases t left with ⟨h1, h2⟩ | ⟨h1, h2⟩
  · exact ⟨by omega, h2⟩
  · exact absurd h2 (by omega)

theorem dr_int {S w k n} : DR S w (.int k n) (.int k n) [] := by rw [DR]; exact ⟨rfl, rfl⟩

theorem dr_str0 {S w} : DR S w (.str []) (.string .empty) [] := by rw [DR]; exact ⟨rfl, rfl⟩

theorem dr_agg {S w ds vs} (h : (ds.all D.one) = true) (hd : DRs S w ds vs []) : DR S w (.agg ds) (.agg vs.toArray) [] := by
  rw [DR]; exact ⟨fun c hc => List.all_eq_true.1 h c hc, vs, rfl, hd⟩

theorem drs_nil {S w} : DRs S w [] [] [] := by rw [DRs]; exact ⟨rfl, rfl⟩

theorem drs_cons {S w d v ds vs} (h : DR S w d v []) (h2 : DRs S w ds vs []) : DRs S w (d :: ds) (v :: vs) [] := by
  rw [DRs]; exact ⟨v, vs, [], [], rfl, rfl, h, h2⟩

structure Sgn where
  name : List UInt8
  kind : Int
  deriving DecidableEq, Inhabited

def Sgn.d (x : Sgn) : D := (.agg [(.str x.name), (.int .i64 x.kind)])

def Sgn.bulk (x : Sgn) : Nat := x.name.length

def Sgn.wide (x : Sgn) : Prop := (x.name.length ≤ 9223372036854775807)

theorem Sgn.parts {x : Sgn} {n : Nat} (h : x.bulk ≤ n) : (x.name.length ≤ n) := by unfold Sgn.bulk at h; omega

structure Lab where
  sig : Int
  up : Bool
  deriving DecidableEq, Inhabited

def Lab.d (x : Lab) : D := (.agg [(.int .i64 x.sig), (.bool (x.up))])

def Lab.bulk (x : Lab) : Nat := 0

def Lab.wide (x : Lab) : Prop := True

structure Arc where
  src : Int
  sig : Int
  up : Bool
  dst : Int
  deriving DecidableEq, Inhabited

def Arc.d (x : Arc) : D := (.agg [(.int .i64 x.src), (.int .i64 x.sig), (.bool (x.up)), (.int .i64 x.dst)])

def Arc.bulk (x : Arc) : Nat := 0

def Arc.wide (x : Arc) : Prop := True

structure Pin where
  num : Int
  neg : Bool
  deriving DecidableEq, Inhabited

def Pin.d (x : Pin) : D := (.agg [(.int .i64 x.num), (.bool (x.neg))])

def Pin.bulk (x : Pin) : Nat := 0

def Pin.wide (x : Pin) : Prop := True

structure Wir where
  name : List UInt8
  kind : Int
  ins : List (Pin)
  cov : List (List UInt8)
  deriving DecidableEq, Inhabited

def Wir.d (x : Wir) : D := (.agg [(.str x.name), (.int .i64 x.kind), (.slice false 2 (x.ins.map Pin.d)), (.slice false 1 (x.cov.map D.str))])

def Wir.bulk (x : Wir) : Nat := x.name.length + bulkF Pin.bulk x.ins + bulkS x.cov

def Wir.wide (x : Wir) : Prop := (x.name.length ≤ 9223372036854775807) ∧ (x.ins.length ≤ 9223372036854775807 ∧ ∀ y ∈ x.ins, Pin.wide y) ∧ (x.cov.length ≤ 9223372036854775807 ∧ ∀ y ∈ x.cov, y.length ≤ 9223372036854775807)

structure Ntl where
  sigs : List (Sgn)
  wires : List (Wir)
  deriving DecidableEq, Inhabited

def Ntl.d (x : Ntl) : D := (.agg [(.slice false 2 (x.sigs.map Sgn.d)), (.slice false 4 (x.wires.map Wir.d))])

def Ntl.bulk (x : Ntl) : Nat := bulkF Sgn.bulk x.sigs + bulkF Wir.bulk x.wires

def Ntl.wide (x : Ntl) : Prop := (x.sigs.length ≤ 9223372036854775807 ∧ ∀ y ∈ x.sigs, Sgn.wide y) ∧ (x.wires.length ≤ 9223372036854775807 ∧ ∀ y ∈ x.wires, Wir.wide y)

structure Gat where
  sig : Int
  kind : Int
  ups : List (List UInt8)
  downs : List (List UInt8)
  deriving DecidableEq, Inhabited

def Gat.d (x : Gat) : D := (.agg [(.int .i64 x.sig), (.int .i64 x.kind), (.slice false 1 (x.ups.map D.str)), (.slice false 1 (x.downs.map D.str))])

def Gat.bulk (x : Gat) : Nat := bulkS x.ups + bulkS x.downs

def Gat.wide (x : Gat) : Prop := (x.ups.length ≤ 9223372036854775807 ∧ ∀ y ∈ x.ups, y.length ≤ 9223372036854775807) ∧ (x.downs.length ≤ 9223372036854775807 ∧ ∀ y ∈ x.downs, y.length ≤ 9223372036854775807)

structure Cir where
  sigs : List (Sgn)
  gates : List (Gat)
  deriving DecidableEq, Inhabited

def Cir.d (x : Cir) : D := (.agg [(.slice false 2 (x.sigs.map Sgn.d)), (.slice false 4 (x.gates.map Gat.d))])

def Cir.bulk (x : Cir) : Nat := bulkF Sgn.bulk x.sigs + bulkF Gat.bulk x.gates

def Cir.wide (x : Cir) : Prop := (x.sigs.length ≤ 9223372036854775807 ∧ ∀ y ∈ x.sigs, Sgn.wide y) ∧ (x.gates.length ≤ 9223372036854775807 ∧ ∀ y ∈ x.gates, Gat.wide y)

structure Sgr where
  sigs : List (Sgn)
  codes : List (List UInt8)
  arcs : List (Arc)
  deriving DecidableEq, Inhabited

def Sgr.d (x : Sgr) : D := (.agg [(.slice false 2 (x.sigs.map Sgn.d)), (.slice false 1 (x.codes.map D.str)), (.slice false 4 (x.arcs.map Arc.d))])

def Sgr.bulk (x : Sgr) : Nat := bulkF Sgn.bulk x.sigs + bulkS x.codes + bulkF Arc.bulk x.arcs

def Sgr.wide (x : Sgr) : Prop := (x.sigs.length ≤ 9223372036854775807 ∧ ∀ y ∈ x.sigs, Sgn.wide y) ∧ (x.codes.length ≤ 9223372036854775807 ∧ ∀ y ∈ x.codes, y.length ≤ 9223372036854775807) ∧ (x.arcs.length ≤ 9223372036854775807 ∧ ∀ y ∈ x.arcs, Arc.wide y)

structure Rcv where
  sig : Int
  up : Bool
  cubes : List (List UInt8)
  deriving DecidableEq, Inhabited

def Rcv.d (x : Rcv) : D := (.agg [(.int .i64 x.sig), (.bool (x.up)), (.slice false 1 (x.cubes.map D.str))])

def Rcv.bulk (x : Rcv) : Nat := bulkS x.cubes

def Rcv.wide (x : Rcv) : Prop := (x.cubes.length ≤ 9223372036854775807 ∧ ∀ y ∈ x.cubes, y.length ≤ 9223372036854775807)

theorem sp_laws_szSignal (x : Sgn) (left : Int) (h0 : 0 ≤ left) (h0u : left ≤ 1048576) (hw : x.wide) : Sp Try.prog 83 [(.agg [(.str x.name), (.int .i64 x.kind)]), (.int .i64 left)] [.any, .any] (.int .i64 (szR x.bulk left)) := by
  refine Sp_intro (lend := true) Try.func83 rfl rfl rfl (fun _ => rfl) (fun c hc hX => ?_)
  have ef := szR_cases (x.name.length) left
  unfold Sgn.wide at hw
  refine T_seq ?_
  refine T_region hc ?_
  refine Ch.step (v := (.ptr 2000 0)) rfl (.box 2000 _ _ rfl (.aggD _)) rfl rfl ?_
  refine Ch.step (v := (.d (.int .i64 0))) rfl (.pure (.assign _ rfl rfl)) rfl rfl ?_
  refine Ch.nil ?_
  refine T_seq ?_
  refine T_region hc ?_
  refine Ch.step (v := (.d (.int .i64 left))) rfl (.pure (.move _ rfl rfl)) rfl rfl ?_
  refine Ch.step (v := (.ptr 2000 0)) rfl (.pure (.fldPtr _ _ _ rfl fld92_0 rfl)) rfl rfl ?_
  refine Ch.step (v := (.d (.str x.name))) rfl (.pure (.loadPtr1 _ _ rfl ag9 rfl rfl rfl)) rfl rfl ?_
  refine Ch.step (v := (.d (.int .i64 ((x.name.length : Nat) : Int)))) rfl (.pure (.lenStr _ _ rfl Try.underlying9 rfl)) rfl rfl ?_
  refine Ch.step (v := (.d (.int .i64 (left - ((x.name.length : Nat) : Int))))) rfl (.pure (.int _ _ _ _ _ rfl rfl rfl (intV_sub (by first | omega | (simp only [List.length_map, List.length_append, List.length_take, List.length_drop, List.length_cons, List.length_nil]; omega) | (simp; omega) | (simp; done)) (by first | omega | (simp only [List.length_map, List.length_append, List.length_take, List.length_drop, List.length_cons, List.length_nil]; omega) | (simp; omega) | (simp; done))))) rfl rfl ?_
  refine Ch.step (v := (.d (.int .i64 (left - ((x.name.length : Nat) : Int))))) rfl (.pure (.assign _ rfl rfl)) rfl rfl ?_
  refine Ch.nil ?_
  refine T_seq ?_
  refine T_seq ?_
  refine T_region hc ?_
  refine Ch.step (v := (.d (.int .i64 (left - ((x.name.length : Nat) : Int))))) rfl (.pure (.move _ rfl rfl)) rfl rfl ?_
  refine Ch.step (v := (.d (.bool (decide ((left - ((x.name.length : Nat) : Int)) < 0))))) rfl (.pure (.int _ _ _ _ _ rfl rfl rfl rfl)) rfl rfl ?_
  refine Ch.nil ?_
  refine T_cond (b := (decide ((left - ((x.name.length : Nat) : Int)) < 0))) rfl (fun h1 => ?_) (fun h1 => ?_)
  · replace h1 := of_decide_eq_true h1
    refine T_seq ?_
    refine T_region hc ?_
    refine Ch.step (v := (.d (.int .i64 (-1)))) rfl (.pure (.assign _ rfl rfl)) rfl rfl ?_
    refine Ch.nil ?_
    refine T_ret ?_
    refine And.intro (.inr rfl) ?_
    exact Exists.intro [(.d (.int .i64 (-1)))] (Exists.intro [] (Exists.intro [] (And.intro (.cons (.tmp 4 rfl) .nil) (And.intro (.cons (.any _) (.cons (.any _) .nil)) (And.intro (Exp.of (congrArg (D.int .i64) (by show _ = szR (x.name.length) left; omega)) (.d _)) (And.intro rfl rfl))))))
  · replace h1 := of_decide_eq_false h1
    refine T_skip ?_
    refine T_seq ?_
    refine T_region hc ?_
    refine Ch.step (v := (.d (.int .i64 (left - ((x.name.length : Nat) : Int))))) rfl (.pure (.move _ rfl rfl)) rfl rfl ?_
    refine Ch.step (v := (.d (.int .i64 (left - ((x.name.length : Nat) : Int))))) rfl (.pure (.assign _ rfl rfl)) rfl rfl ?_
    refine Ch.nil ?_
    refine T_ret ?_
    refine And.intro (.inr rfl) ?_
    exact Exists.intro [(.d (.int .i64 (left - ((x.name.length : Nat) : Int))))] (Exists.intro [] (Exists.intro [] (And.intro (.cons (.tmp 4 rfl) .nil) (And.intro (.cons (.any _) (.cons (.any _) .nil)) (And.intro (Exp.of (congrArg (D.int .i64) (by show _ = szR (x.name.length) left; omega)) (.d _)) (And.intro rfl rfl))))))

theorem sp_laws_szSignalS (xs : List (Sgn)) (left : Int) (h0 : 0 ≤ left) (h0u : left ≤ 1048576) (hn : xs.length ≤ 9223372036854775807) (hx : ∀ y ∈ xs, Sgn.wide y) : Sp Try.prog 35 [(.slice false 2 (xs.map Sgn.d)), (.int .i64 left)] [.any, .any] (.int .i64 (szR (bulkF Sgn.bulk xs) left)) := by
  refine Sp_intro (lend := true) Try.func35 rfl rfl rfl (fun _ => rfl) (fun c hc hX => ?_)
  refine T_seq ?_
  refine T_region hc ?_
  refine Ch.step (v := (.d (.int .i64 0))) rfl (.pure (.assign _ rfl rfl)) rfl rfl ?_
  refine Ch.nil ?_
  refine T_seq ?_
  refine T_region hc ?_
  refine Ch.step (v := (.d (.int .i64 left))) rfl (.pure (.move _ rfl rfl)) rfl rfl ?_
  refine Ch.step (v := (.d (.slice false 2 (xs.map Sgn.d)))) rfl (.pure (.move _ rfl rfl)) rfl rfl ?_
  refine Ch.step (v := (.d (.int .i64 ((xs.length : Nat) : Int)))) rfl (.pure (.len _ _ 92 rfl Try.underlying35 (.sh _ _) (by simp))) rfl rfl ?_
  refine Ch.step (v := (.d (.int .i64 (left - ((xs.length : Nat) : Int))))) rfl (.pure (.int _ _ _ _ _ rfl rfl rfl (intV_sub (by first | omega | (simp only [List.length_map, List.length_append, List.length_take, List.length_drop, List.length_cons, List.length_nil]; omega) | (simp; omega) | (simp; done)) (by first | omega | (simp only [List.length_map, List.length_append, List.length_take, List.length_drop, List.length_cons, List.length_nil]; omega) | (simp; omega) | (simp; done))))) rfl rfl ?_
  refine Ch.step (v := (.d (.int .i64 (left - ((xs.length : Nat) : Int))))) rfl (.pure (.assign _ rfl rfl)) rfl rfl ?_
  refine Ch.nil ?_
  refine T_seq ?_
  refine T_seq ?_
  refine T_region hc ?_
  refine Ch.step (v := (.d (.int .i64 (left - ((xs.length : Nat) : Int))))) rfl (.pure (.move _ rfl rfl)) rfl rfl ?_
  refine Ch.step (v := (.d (.bool (decide ((left - ((xs.length : Nat) : Int)) < 0))))) rfl (.pure (.int _ _ _ _ _ rfl rfl rfl rfl)) rfl rfl ?_
  refine Ch.nil ?_
  refine T_cond (b := (decide ((left - ((xs.length : Nat) : Int)) < 0))) rfl (fun h1 => ?_) (fun h1 => ?_)
  · replace h1 := of_decide_eq_true h1
    refine T_seq ?_
    refine T_region hc ?_
    refine Ch.step (v := (.d (.int .i64 (-1)))) rfl (.pure (.assign _ rfl rfl)) rfl rfl ?_
    refine Ch.nil ?_
    refine T_ret ?_
    refine And.intro (.inr rfl) ?_
    exact Exists.intro [(.d (.int .i64 (-1)))] (Exists.intro [] (Exists.intro [] (And.intro (.cons (.tmp 4 rfl) .nil) (And.intro (.cons (.any _) (.cons (.any _) .nil)) (And.intro (Exp.of (congrArg (D.int .i64) (by first | (have hal := sumF_all Sgn.bulk (xs := xs) (k := k) (by omega); rw [szR, bulkF]; split <;> omega) | (rw [szR, bulkF]; split <;> omega))) (.d _)) (And.intro rfl rfl))))))
  · replace h1 := of_decide_eq_false h1
    refine T_skip ?_
    refine T_seq ?_
    refine T_seq ?_
    refine T_region hc ?_
    refine Ch.step (v := (.d (.int .i64 0))) rfl (.pure (.assign _ rfl rfl)) rfl rfl ?_
    refine Ch.nil ?_
    refine T_block ?_
    refine T_loop (ι := Nat) (fun k => { n := 27, sl := [(0, (.d (.slice false 2 (xs.map Sgn.d)))), (1, (.d (.int .i64 (left - xs.length - sumF Sgn.bulk xs k)))), (5, (.d (.int .i64 ((k : Nat) : Int))))], hp := [], pin := [] }) (fun k => k ≤ xs.length ∧ 0 ≤ left - xs.length - sumF Sgn.bulk xs k) (fun k => xs.length - k) ⟨0, ⟨by omega, by rw [sumF_zero]; omega⟩, (Wk.of rfl rfl (And.intro rfl (And.intro (vI (by first | (rw [sumF_zero]; omega) | (rw [sumF_succ _ (by omega)]; omega))) (And.intro (vI (by first | rfl | omega | (simp; done) | (simp; omega))) trivial))) trivial)⟩ (fun k hp0 => ?_)
    have hsl := sumF_le Sgn.bulk xs k; have hsc := szR_cases (Sgn.bulk (xs.getD k default)) (left - xs.length - sumF Sgn.bulk xs k)
    refine T_seq ?_
    refine T_seq ?_
    refine T_region hc ?_
    refine Ch.step (v := (.d (.int .i64 ((k : Nat) : Int)))) rfl (.pure (.move _ rfl rfl)) rfl rfl ?_
    refine Ch.step (v := (.d (.slice false 2 (xs.map Sgn.d)))) rfl (.pure (.move _ rfl rfl)) rfl rfl ?_
    refine Ch.step (v := (.d (.int .i64 ((xs.length : Nat) : Int)))) rfl (.pure (.len _ _ 92 rfl Try.underlying35 (.sh _ _) (by simp))) rfl rfl ?_
    refine Ch.step (v := (.d (.bool (decide (((k : Nat) : Int) < ((xs.length : Nat) : Int)))))) rfl (.pure (.int _ _ _ _ _ rfl rfl rfl rfl)) rfl rfl ?_
    refine Ch.nil ?_
    refine T_cond (b := (decide (((k : Nat) : Int) < ((xs.length : Nat) : Int)))) rfl (fun h2 => ?_) (fun h2 => ?_)
    · replace h2 := of_decide_eq_true h2
      try have hk := hx _ (getD_mem (l := xs) (j := k) (d := default) (by omega))
      try have hs1 := sumF_succ Sgn.bulk (xs := xs) (k := k) (by omega)
      try have hs2 := sumF_le Sgn.bulk xs (k + 1)
      refine T_skip ?_
      refine T_seq ?_
      refine T_block ?_
      refine T_seq ?_
      refine T_region hc ?_
      refine Ch.step (v := (.d (.slice false 2 (xs.map Sgn.d)))) rfl (.pure (.move _ rfl rfl)) rfl rfl ?_
      refine Ch.step (v := (.d (.int .i64 ((k : Nat) : Int)))) rfl (.pure (.move _ rfl rfl)) rfl rfl ?_
      refine Ch.step (v := (.d (.ref (.agg [(.str ((xs.getD k default).name)), (.int .i64 ((xs.getD k default).kind))])))) rfl (.pure (.idx _ _ _ 92 (k) rfl Try.underlying35 sz92 rfl rfl rfl (get_map _ (by first | omega | (simp only [List.length_map, List.length_append, List.length_take, List.length_drop, List.length_cons, List.length_nil]; omega) | (simp; omega) | (simp; done))))) rfl rfl ?_
      refine Ch.step (v := (.d (.agg [(.str ((xs.getD k default).name)), (.int .i64 ((xs.getD k default).kind))]))) rfl (.pure (.loadRefA _ _ rfl ag92 sz92 rfl)) rfl rfl ?_
      refine Ch.step (v := (.d (.int .i64 (left - xs.length - sumF Sgn.bulk xs k)))) rfl (.pure (.move _ rfl rfl)) rfl rfl ?_
      refine Ch.step (v := (.d (.int .i64 (szR (xs.getD k default).bulk (left - xs.length - sumF Sgn.bulk xs k))))) rfl (.call 23000 83 _ _ _ en83 rfl (.inl rfl) (.cons (.d _) (.cons (.d _) .nil)) rfl rfl (sp_laws_szSignal (xs.getD k default) (left - xs.length - sumF Sgn.bulk xs k) (by first | omega | assumption | (exact hx _ (getD_mem (by omega))) | (exact hx _ (by assumption)) | (exact Nat.le_trans (hx _ (by assumption)) (by omega)) | (simp only [List.length_append, List.length_take, List.length_drop, List.length_cons, List.length_nil]; omega) | (simp_all; done)) (by first | omega | assumption | (exact hx _ (getD_mem (by omega))) | (exact hx _ (by assumption)) | (exact Nat.le_trans (hx _ (by assumption)) (by omega)) | (simp only [List.length_append, List.length_take, List.length_drop, List.length_cons, List.length_nil]; omega) | (simp_all; done)) (by first | assumption | omega | trivial | (simp_all; done) | (exact fun _ _ => trivial) | (exact hx _ (by assumption)) | (refine ⟨?_, ?_⟩ <;> first | assumption | omega))) (.skip _ _ (.skip _ _ .nil)) rfl) rfl rfl ?_
      refine Ch.step (v := (.d (.int .i64 (szR (xs.getD k default).bulk (left - xs.length - sumF Sgn.bulk xs k))))) rfl (.pure (.assign _ rfl rfl)) rfl rfl ?_
      refine Ch.nil ?_
      refine T_seq ?_
      refine T_region hc ?_
      refine Ch.step (v := (.d (.int .i64 (szR (xs.getD k default).bulk (left - xs.length - sumF Sgn.bulk xs k))))) rfl (.pure (.move _ rfl rfl)) rfl rfl ?_
      refine Ch.step (v := (.d (.bool (decide ((szR (xs.getD k default).bulk (left - xs.length - sumF Sgn.bulk xs k)) < 0))))) rfl (.pure (.int _ _ _ _ _ rfl rfl rfl rfl)) rfl rfl ?_
      refine Ch.nil ?_
      refine T_cond (b := (decide ((szR (xs.getD k default).bulk (left - xs.length - sumF Sgn.bulk xs k)) < 0))) rfl (fun h3 => ?_) (fun h3 => ?_)
      · replace h3 := of_decide_eq_true h3
        refine T_seq ?_
        refine T_region hc ?_
        refine Ch.step (v := (.d (.int .i64 (-1)))) rfl (.pure (.assign _ rfl rfl)) rfl rfl ?_
        refine Ch.nil ?_
        refine T_ret ?_
        refine And.intro (.inr rfl) ?_
        exact Exists.intro [(.d (.int .i64 (-1)))] (Exists.intro [] (Exists.intro [] (And.intro (.cons (.tmp 4 rfl) .nil) (And.intro (.cons (.any _) (.cons (.any _) .nil)) (And.intro (Exp.of (congrArg (D.int .i64) (by first | (have hal := sumF_all Sgn.bulk (xs := xs) (k := k) (by omega); rw [szR, bulkF]; split <;> omega) | (rw [szR, bulkF]; split <;> omega))) (.d _)) (And.intro rfl rfl))))))
      · replace h3 := of_decide_eq_false h3
        refine T_skip ?_
        refine T_region hc ?_
        refine Ch.step (v := (.d (.int .i64 ((k : Nat) : Int)))) rfl (.pure (.move _ rfl rfl)) rfl rfl ?_
        refine Ch.step (v := (.d (.int .i64 (((k : Nat) : Int) + 1)))) rfl (.pure (.int _ _ _ _ _ rfl rfl rfl (intV_add (by first | omega | (simp only [List.length_map, List.length_append, List.length_take, List.length_drop, List.length_cons, List.length_nil]; omega) | (simp; omega) | (simp; done)) (by first | omega | (simp only [List.length_map, List.length_append, List.length_take, List.length_drop, List.length_cons, List.length_nil]; omega) | (simp; omega) | (simp; done))))) rfl rfl ?_
        refine Ch.step (v := (.d (.int .i64 (((k : Nat) : Int) + 1)))) rfl (.pure (.assign _ rfl rfl)) rfl rfl ?_
        refine Ch.nil ?_
        refine Exists.intro (k + 1) (And.intro ⟨by omega, by rw [sumF_succ _ (by omega)]; omega⟩ (And.intro (by first | omega | (dsimp only; omega)) (Wk.of rfl rfl (And.intro rfl (And.intro (vI (by first | (rw [sumF_zero]; omega) | (rw [sumF_succ _ (by omega)]; omega))) (And.intro (vI (by first | rfl | omega | (simp; done) | (simp; omega))) trivial))) trivial)))
    · replace h2 := of_decide_eq_false h2
      try have hk := hx _ (getD_mem (l := xs) (j := k) (d := default) (by omega))
      try have hs1 := sumF_succ Sgn.bulk (xs := xs) (k := k) (by omega)
      try have hs2 := sumF_le Sgn.bulk xs (k + 1)
      refine T_exit ?_
      refine T_seq ?_
      refine T_region hc ?_
      refine Ch.step (v := (.d (.int .i64 (left - xs.length - sumF Sgn.bulk xs k)))) rfl (.pure (.move _ rfl rfl)) rfl rfl ?_
      refine Ch.step (v := (.d (.int .i64 (left - xs.length - sumF Sgn.bulk xs k)))) rfl (.pure (.assign _ rfl rfl)) rfl rfl ?_
      refine Ch.nil ?_
      refine T_ret ?_
      refine And.intro (.inr rfl) ?_
      exact Exists.intro [(.d (.int .i64 (left - xs.length - sumF Sgn.bulk xs k)))] (Exists.intro [] (Exists.intro [] (And.intro (.cons (.tmp 4 rfl) .nil) (And.intro (.cons (.any _) (.cons (.any _) .nil)) (And.intro (Exp.of (congrArg (D.int .i64) (by first | (have hal := sumF_all Sgn.bulk (xs := xs) (k := k) (by omega); rw [szR, bulkF]; split <;> omega) | (rw [szR, bulkF]; split <;> omega))) (.d _)) (And.intro rfl rfl))))))

theorem sp_laws_toSignal (x : Sgn) (hb : x.bulk ≤ 1048576) : Sp Try.prog 86 [(.agg [(.str x.name), (.int .i64 x.kind)])] [.any] (.agg [(.str x.name), (.int .i64 x.kind)]) := by
  refine Sp_intro (lend := true) Try.func86 rfl rfl rfl (fun _ => rfl) (fun c hc hX => ?_)
  have hp0 := Sgn.parts hb
  refine T_seq ?_
  refine T_region hc ?_
  refine Ch.step (v := (.ptr 1000 0)) rfl (.box 1000 _ _ rfl (.aggD _)) rfl rfl ?_
  refine Ch.step (v := (.ptr 2000 0)) rfl (.alloc 2000 _ rfl zer85) rfl rfl ?_
  refine Ch.nil ?_
  refine T_seq ?_
  refine T_region hc ?_
  refine Ch.step (v := (.ptr 3000 0)) rfl (.alloc 3000 _ rfl zer85) rfl rfl ?_
  refine Ch.nil ?_
  refine T_seq ?_
  refine T_region hc ?_
  refine Ch.step (v := (.ptr 1000 0)) rfl (.pure (.fldPtr _ _ _ rfl fld92_0 rfl)) rfl rfl ?_
  refine Ch.step (v := (.d (.str x.name))) rfl (.pure (.loadPtr1 _ _ rfl ag9 rfl rfl rfl)) rfl rfl ?_
  refine Ch.step (v := (.ptr 3000 0)) rfl (.pure (.fldPtr _ _ _ rfl fld85_0 rfl)) rfl rfl ?_
  refine Ch.step (v := .junk) rfl (.storePtr _ _ _ rfl rfl rfl (.one _ rfl) sz9 (Nat.le_of_ble_eq_true rfl)) rfl rfl ?_
  refine Ch.nil ?_
  refine T_seq ?_
  refine T_region hc ?_
  refine Ch.step (v := (.ptr 1000 1)) rfl (.pure (.fldPtr _ _ _ rfl fld92_1 rfl)) rfl rfl ?_
  refine Ch.step (v := (.d (.int .i64 x.kind))) rfl (.pure (.loadPtr1 _ _ rfl ag3 rfl rfl rfl)) rfl rfl ?_
  refine Ch.step (v := (.ptr 3000 1)) rfl (.pure (.fldPtr _ _ _ rfl fld85_1 rfl)) rfl rfl ?_
  refine Ch.step (v := .junk) rfl (.storePtr _ _ _ rfl rfl rfl (.one _ rfl) sz3 (Nat.le_of_ble_eq_true rfl)) rfl rfl ?_
  refine Ch.nil ?_
  refine T_seq ?_
  refine T_region hc ?_
  refine Ch.step (v := (.agg [(.d (.str x.name)), (.d (.int .i64 x.kind))])) rfl (.pure (.loadPtrA _ _ rfl ag85 sz85 rfl rfl (Nat.le_of_ble_eq_true rfl) rfl)) rfl rfl ?_
  refine Ch.step (v := .junk) rfl (.storePtr _ _ _ rfl rfl rfl (.agg _ rfl) sz85 (Nat.le_of_ble_eq_true rfl)) rfl rfl ?_
  refine Ch.nil ?_
  refine T_ret ?_
  refine And.intro (.inr rfl) ?_
  exact Exists.intro [(.agg [(.d (.str x.name)), (.d (.int .i64 x.kind))])] (Exists.intro [] (Exists.intro [] (And.intro (.cons (.cellA _ _ rfl rfl ag85 sz85) .nil) (And.intro (.cons (.any _) .nil) (And.intro (.agg (.cons (.d _) (.cons (.d _) .nil)) rfl) (And.intro rfl rfl))))))

theorem sp_laws_toSignalS (xs : List (Sgn)) (hb : bulkF Sgn.bulk xs ≤ 1048576) : Sp Try.prog 37 [(.slice false 2 (xs.map Sgn.d))] [.any] (.slice true 2 (xs.map Sgn.d)) := by
  refine Sp_intro (lend := true) Try.func37 rfl rfl rfl (fun _ => rfl) (fun c hc hX => ?_)
  have hn := bulkF_len hb
  refine T_seq ?_
  refine T_region hc ?_
  refine Ch.step (v := (.c (.slice none 0 0))) rfl (.pure (.assign _ rfl rfl)) rfl rfl ?_
  refine Ch.nil ?_
  refine T_seq ?_
  refine T_region hc ?_
  refine Ch.step (v := (.d (.slice false 2 (xs.map Sgn.d)))) rfl (.pure (.move _ rfl rfl)) rfl rfl ?_
  refine Ch.step (v := (.d (.int .i64 ((xs.length : Nat) : Int)))) rfl (.pure (.len _ _ 92 rfl Try.underlying35 (.sh _ _) (by simp))) rfl rfl ?_
  refine Ch.step (v := (.row 7000)) rfl (.make 7000 _ 85 _ _ (xs.length) (xs.length) rfl sty41 rfl rfl rfl rfl (by first | omega | (simp only [List.length_map, List.length_append, List.length_take, List.length_drop, List.length_cons, List.length_nil]; omega) | (simp; omega) | (simp; done)) (by first | omega | (simp only [List.length_map, List.length_append, List.length_take, List.length_drop, List.length_cons, List.length_nil]; omega) | (simp; omega) | (simp; done)) (by first | omega | (simp only [List.length_map, List.length_append, List.length_take, List.length_drop, List.length_cons, List.length_nil]; omega) | (simp; omega) | (simp; done)) (zeroD_mk (zd := (.agg [(.str []), (.int .i64 0)])) zr85 (by intro S w; exact dr_agg rfl (drs_cons dr_str0 (drs_cons dr_int drs_nil))) rfl)) rfl rfl ?_
  refine Ch.step (v := (.row 7000)) rfl (.pure (.assign _ rfl rfl)) rfl rfl ?_
  refine Ch.nil ?_
  refine T_seq ?_
  refine T_seq ?_
  refine T_region hc ?_
  refine Ch.step (v := (.d (.int .i64 0))) rfl (.pure (.assign _ rfl rfl)) rfl rfl ?_
  refine Ch.nil ?_
  refine T_block ?_
  refine T_loop (ι := Nat) (fun k => { n := 23, sl := [(0, (.d (.slice false 2 (xs.map Sgn.d)))), (3, (.row 3)), (4, (.d (.int .i64 ((k : Nat) : Int))))], hp := [(3, (some (.row 2 ((fill xs default k).map Sgn.d))))], pin := [] }) (fun k => k ≤ xs.length) (fun k => xs.length - k) ⟨0, (by omega), (Wk.ren [(3, 7000)] rfl rfl rfl rfl (And.intro rfl (And.intro rfl (And.intro (vI (by first | rfl | omega | (simp; done) | (simp; omega))) trivial))) (And.intro (oR (by first | (rw [fill_zero, List.map_replicate]; rfl) | (rw [← fill_set xs default default (by omega), List.map_set]; rfl))) trivial))⟩ (fun k hp0 => ?_)
  refine T_seq ?_
  refine T_seq ?_
  refine T_region hc ?_
  refine Ch.step (v := (.d (.int .i64 ((k : Nat) : Int)))) rfl (.pure (.move _ rfl rfl)) rfl rfl ?_
  refine Ch.step (v := (.d (.slice false 2 (xs.map Sgn.d)))) rfl (.pure (.move _ rfl rfl)) rfl rfl ?_
  refine Ch.step (v := (.d (.int .i64 ((xs.length : Nat) : Int)))) rfl (.pure (.len _ _ 92 rfl Try.underlying35 (.sh _ _) (by simp))) rfl rfl ?_
  refine Ch.step (v := (.d (.bool (decide (((k : Nat) : Int) < ((xs.length : Nat) : Int)))))) rfl (.pure (.int _ _ _ _ _ rfl rfl rfl rfl)) rfl rfl ?_
  refine Ch.nil ?_
  refine T_cond (b := (decide (((k : Nat) : Int) < ((xs.length : Nat) : Int)))) rfl (fun h1 => ?_) (fun h1 => ?_)
  · replace h1 := of_decide_eq_true h1
    try have hk := bulkF_mem hb _ (getD_mem (l := xs) (j := k) (d := default) (by omega))
    refine T_skip ?_
    refine T_seq ?_
    refine T_block ?_
    refine T_region hc ?_
    refine Ch.step (v := (.row 3)) rfl (.pure (.move _ rfl rfl)) rfl rfl ?_
    refine Ch.step (v := (.d (.int .i64 ((k : Nat) : Int)))) rfl (.pure (.move _ rfl rfl)) rfl rfl ?_
    refine Ch.step (v := (.d (.slice false 2 (xs.map Sgn.d)))) rfl (.pure (.move _ rfl rfl)) rfl rfl ?_
    refine Ch.step (v := (.d (.int .i64 ((k : Nat) : Int)))) rfl (.pure (.move _ rfl rfl)) rfl rfl ?_
    refine Ch.step (v := (.d (.ref (.agg [(.str ((xs.getD k default).name)), (.int .i64 ((xs.getD k default).kind))])))) rfl (.pure (.idx _ _ _ 92 (k) rfl Try.underlying35 sz92 rfl rfl rfl (get_map _ (by first | omega | (simp only [List.length_map, List.length_append, List.length_take, List.length_drop, List.length_cons, List.length_nil]; omega) | (simp; omega) | (simp; done))))) rfl rfl ?_
    refine Ch.step (v := (.d (.agg [(.str ((xs.getD k default).name)), (.int .i64 ((xs.getD k default).kind))]))) rfl (.pure (.loadRefA _ _ rfl ag92 sz92 rfl)) rfl rfl ?_
    refine Ch.step (v := (.d (.agg [(.str ((xs.getD k default).name)), (.int .i64 ((xs.getD k default).kind))]))) rfl (.call 20000 86 _ _ _ en86 rfl (.inl rfl) (.cons (.d _) .nil) rfl rfl (sp_laws_toSignal (xs.getD k default) (by first | assumption | omega | (rw [List.length_take]; omega) | (have := bulkF_mem hb _ (getD_mem (d := default) (by omega)); assumption) | (unfold bulkS at *; omega) | (simp_all; done))) (.skip _ _ .nil) rfl) rfl rfl ?_
    refine Ch.step (v := (.el 3 2 k 0)) rfl (.pure (.idxRow _ _ _ 85 (k) rfl Try.underlying41 sz85 rfl rfl rfl rfl (by first | omega | (simp; omega)))) rfl rfl ?_
    refine Ch.step (v := .junk) rfl (.storeEl (y' := (.agg [(.str ((xs.getD k default).name)), (.int .i64 ((xs.getD k default).kind))])) _ _ _ rfl rfl rfl (.d _) rfl sz85 rfl (get_map _ (by first | omega | (simp only [List.length_map, List.length_append, List.length_take, List.length_drop, List.length_cons, List.length_nil]; omega) | (simp; omega) | (simp; done))) rfl rfl) rfl rfl ?_
    refine Ch.nil ?_
    refine T_region hc ?_
    refine Ch.step (v := (.d (.int .i64 ((k : Nat) : Int)))) rfl (.pure (.move _ rfl rfl)) rfl rfl ?_
    refine Ch.step (v := (.d (.int .i64 (((k : Nat) : Int) + 1)))) rfl (.pure (.int _ _ _ _ _ rfl rfl rfl (intV_add (by first | omega | (simp only [List.length_map, List.length_append, List.length_take, List.length_drop, List.length_cons, List.length_nil]; omega) | (simp; omega) | (simp; done)) (by first | omega | (simp only [List.length_map, List.length_append, List.length_take, List.length_drop, List.length_cons, List.length_nil]; omega) | (simp; omega) | (simp; done))))) rfl rfl ?_
    refine Ch.step (v := (.d (.int .i64 (((k : Nat) : Int) + 1)))) rfl (.pure (.assign _ rfl rfl)) rfl rfl ?_
    refine Ch.nil ?_
    refine Exists.intro (k + 1) (And.intro (by omega) (And.intro (by first | omega | (dsimp only; omega)) (Wk.of rfl rfl (And.intro rfl (And.intro rfl (And.intro (vI (by first | rfl | omega | (simp; done) | (simp; omega))) trivial))) (And.intro (oR (by first | (rw [fill_zero, List.map_replicate]; rfl) | (rw [← fill_set xs default default (by omega), List.map_set]; rfl))) trivial))))
  · replace h1 := of_decide_eq_false h1
    try have hk := bulkF_mem hb _ (getD_mem (l := xs) (j := k) (d := default) (by omega))
    refine T_exit ?_
    refine T_seq ?_
    refine T_region hc ?_
    refine Ch.step (v := (.row 3)) rfl (.pure (.move _ rfl rfl)) rfl rfl ?_
    refine Ch.step (v := (.row 3)) rfl (.pure (.assign _ rfl rfl)) rfl rfl ?_
    refine Ch.nil ?_
    refine T_ret ?_
    refine And.intro (.inr rfl) ?_
    exact Exists.intro [(.row 3)] (Exists.intro [] (Exists.intro [3] (And.intro (.cons (.tmp 2 rfl) .nil) (And.intro (.cons (.any _) .nil) (And.intro (Exp.of (congrArg (D.slice true 2) (by rw [fill_all xs default (by omega)])) (.row rfl)) (And.intro rfl rfl))))))

theorem sp_laws_eqSignal (x y : Sgn) (hb : x.bulk ≤ 1048576) : Sp Try.prog 89 [(.agg [(.str x.name), (.int .i64 x.kind)]), (.agg [(.str y.name), (.int .i64 y.kind)])] [.any, .any] (.bool (decide (x = y))) := by
  refine Sp_intro (lend := true) Try.func89 rfl rfl rfl (fun _ => rfl) (fun c hc hX => ?_)
  have hp0 := Sgn.parts hb
  refine T_seq ?_
  refine T_region hc ?_
  refine Ch.step (v := (.ptr 2000 0)) rfl (.box 2000 _ _ rfl (.aggD _)) rfl rfl ?_
  refine Ch.step (v := (.ptr 3000 0)) rfl (.box 3000 _ _ rfl (.aggD _)) rfl rfl ?_
  refine Ch.step (v := (.d (.bool false))) rfl (.pure (.assign _ rfl rfl)) rfl rfl ?_
  refine Ch.nil ?_
  refine T_seq ?_
  refine T_seq ?_
  refine T_region hc ?_
  refine Ch.step (v := (.ptr 2000 0)) rfl (.pure (.fldPtr _ _ _ rfl fld85_0 rfl)) rfl rfl ?_
  refine Ch.step (v := (.d (.str x.name))) rfl (.pure (.loadPtr1 _ _ rfl ag9 rfl rfl rfl)) rfl rfl ?_
  refine Ch.step (v := (.ptr 3000 0)) rfl (.pure (.fldPtr _ _ _ rfl fld85_0 rfl)) rfl rfl ?_
  refine Ch.step (v := (.d (.str y.name))) rfl (.pure (.loadPtr1 _ _ rfl ag9 rfl rfl rfl)) rfl rfl ?_
  refine Ch.step (v := (.d (.bool (!(decide (x.name = y.name)))))) rfl (.pure (.str _ _ _ _ _ rfl rfl rfl rfl)) rfl rfl ?_
  refine Ch.nil ?_
  refine T_cond (b := (!(decide (x.name = y.name)))) rfl (fun h1 => ?_) (fun h1 => ?_)
  · replace h1 := nott h1
    replace h1 := of_decide_eq_false h1
    refine T_seq ?_
    refine T_region hc ?_
    refine Ch.step (v := (.d (.bool false))) rfl (.pure (.assign _ rfl rfl)) rfl rfl ?_
    refine Ch.nil ?_
    refine T_ret ?_
    refine And.intro (.inr rfl) ?_
    exact Exists.intro [(.d (.bool false))] (Exists.intro [] (Exists.intro [] (And.intro (.cons (.tmp 4 rfl) .nil) (And.intro (.cons (.any _) (.cons (.any _) .nil)) (And.intro (Exp.of (congrArg D.bool (by cases x; cases y; simp_all)) (.d _)) (And.intro rfl rfl))))))
  · replace h1 := notf h1
    replace h1 := of_decide_eq_true h1
    refine T_skip ?_
    refine T_seq ?_
    refine T_seq ?_
    refine T_region hc ?_
    refine Ch.step (v := (.ptr 2000 1)) rfl (.pure (.fldPtr _ _ _ rfl fld85_1 rfl)) rfl rfl ?_
    refine Ch.step (v := (.d (.int .i64 x.kind))) rfl (.pure (.loadPtr1 _ _ rfl ag3 rfl rfl rfl)) rfl rfl ?_
    refine Ch.step (v := (.ptr 3000 1)) rfl (.pure (.fldPtr _ _ _ rfl fld85_1 rfl)) rfl rfl ?_
    refine Ch.step (v := (.d (.int .i64 y.kind))) rfl (.pure (.loadPtr1 _ _ rfl ag3 rfl rfl rfl)) rfl rfl ?_
    refine Ch.step (v := (.d (.bool (!(decide (x.kind = y.kind)))))) rfl (.pure (.int _ _ _ _ _ rfl rfl rfl rfl)) rfl rfl ?_
    refine Ch.nil ?_
    refine T_cond (b := (!(decide (x.kind = y.kind)))) rfl (fun h2 => ?_) (fun h2 => ?_)
    · replace h2 := nott h2
      replace h2 := of_decide_eq_false h2
      refine T_seq ?_
      refine T_region hc ?_
      refine Ch.step (v := (.d (.bool false))) rfl (.pure (.assign _ rfl rfl)) rfl rfl ?_
      refine Ch.nil ?_
      refine T_ret ?_
      refine And.intro (.inr rfl) ?_
      exact Exists.intro [(.d (.bool false))] (Exists.intro [] (Exists.intro [] (And.intro (.cons (.tmp 4 rfl) .nil) (And.intro (.cons (.any _) (.cons (.any _) .nil)) (And.intro (Exp.of (congrArg D.bool (by cases x; cases y; simp_all)) (.d _)) (And.intro rfl rfl))))))
    · replace h2 := notf h2
      replace h2 := of_decide_eq_true h2
      refine T_skip ?_
      refine T_seq ?_
      refine T_region hc ?_
      refine Ch.step (v := (.d (.bool true))) rfl (.pure (.assign _ rfl rfl)) rfl rfl ?_
      refine Ch.nil ?_
      refine T_ret ?_
      refine And.intro (.inr rfl) ?_
      exact Exists.intro [(.d (.bool true))] (Exists.intro [] (Exists.intro [] (And.intro (.cons (.tmp 4 rfl) .nil) (And.intro (.cons (.any _) (.cons (.any _) .nil)) (And.intro (Exp.of (congrArg D.bool (by cases x; cases y; simp_all)) (.d _)) (And.intro rfl rfl))))))

theorem sp_laws_eqSignalS (xs ys : List (Sgn)) (hb : bulkF Sgn.bulk xs ≤ 1048576) : Sp Try.prog 39 [(.slice false 2 (xs.map Sgn.d)), (.slice false 2 (ys.map Sgn.d))] [.any, .any] (.bool (decide (xs = ys))) := by
  refine Sp_intro (lend := true) Try.func39 rfl rfl rfl (fun _ => rfl) (fun c hc hX => ?_)
  have hn := bulkF_len hb
  refine T_seq ?_
  refine T_region hc ?_
  refine Ch.step (v := (.d (.bool false))) rfl (.pure (.assign _ rfl rfl)) rfl rfl ?_
  refine Ch.nil ?_
  refine T_seq ?_
  refine T_seq ?_
  refine T_region hc ?_
  refine Ch.step (v := (.d (.slice false 2 (xs.map Sgn.d)))) rfl (.pure (.move _ rfl rfl)) rfl rfl ?_
  refine Ch.step (v := (.d (.int .i64 ((xs.length : Nat) : Int)))) rfl (.pure (.len _ _ 85 rfl Try.underlying41 (.sh _ _) (by simp))) rfl rfl ?_
  refine Ch.step (v := (.d (.slice false 2 (ys.map Sgn.d)))) rfl (.pure (.move _ rfl rfl)) rfl rfl ?_
  refine Ch.step (v := (.d (.int .i64 ((ys.length : Nat) : Int)))) rfl (.pure (.len _ _ 85 rfl Try.underlying41 (.sh _ _) (by simp))) rfl rfl ?_
  refine Ch.step (v := (.d (.bool (!(decide (((xs.length : Nat) : Int) = ((ys.length : Nat) : Int))))))) rfl (.pure (.int _ _ _ _ _ rfl rfl rfl rfl)) rfl rfl ?_
  refine Ch.nil ?_
  refine T_cond (b := (!(decide (((xs.length : Nat) : Int) = ((ys.length : Nat) : Int))))) rfl (fun h1 => ?_) (fun h1 => ?_)
  · replace h1 := nott h1
    replace h1 := of_decide_eq_false h1
    refine T_seq ?_
    refine T_region hc ?_
    refine Ch.step (v := (.d (.bool false))) rfl (.pure (.assign _ rfl rfl)) rfl rfl ?_
    refine Ch.nil ?_
    refine T_ret ?_
    refine And.intro (.inr rfl) ?_
    exact Exists.intro [(.d (.bool false))] (Exists.intro [] (Exists.intro [] (And.intro (.cons (.tmp 4 rfl) .nil) (And.intro (.cons (.any _) (.cons (.any _) .nil)) (And.intro (Exp.of (congrArg D.bool (by exact eqL_len (by omega))) (.d _)) (And.intro rfl rfl))))))
  · replace h1 := notf h1
    replace h1 := of_decide_eq_true h1
    refine T_skip ?_
    refine T_seq ?_
    refine T_seq ?_
    refine T_region hc ?_
    refine Ch.step (v := (.d (.int .i64 0))) rfl (.pure (.assign _ rfl rfl)) rfl rfl ?_
    refine Ch.nil ?_
    refine T_block ?_
    refine T_loop (ι := Nat) (fun k => { n := 27, sl := [(0, (.d (.slice false 2 (xs.map Sgn.d)))), (1, (.d (.slice false 2 (ys.map Sgn.d)))), (5, (.d (.int .i64 ((k : Nat) : Int))))], hp := [], pin := [] }) (fun k => k ≤ xs.length ∧ ∀ j, j < k → xs.getD j default = ys.getD j default) (fun k => xs.length - k) ⟨0, ⟨by omega, fun j hj => by omega⟩, (Wk.of rfl rfl (And.intro rfl (And.intro rfl (And.intro (vI (by first | rfl | omega | (simp; done) | (simp; omega))) trivial))) trivial)⟩ (fun k hp0 => ?_)
    refine T_seq ?_
    refine T_seq ?_
    refine T_region hc ?_
    refine Ch.step (v := (.d (.int .i64 ((k : Nat) : Int)))) rfl (.pure (.move _ rfl rfl)) rfl rfl ?_
    refine Ch.step (v := (.d (.slice false 2 (xs.map Sgn.d)))) rfl (.pure (.move _ rfl rfl)) rfl rfl ?_
    refine Ch.step (v := (.d (.int .i64 ((xs.length : Nat) : Int)))) rfl (.pure (.len _ _ 85 rfl Try.underlying41 (.sh _ _) (by simp))) rfl rfl ?_
    refine Ch.step (v := (.d (.bool (decide (((k : Nat) : Int) < ((xs.length : Nat) : Int)))))) rfl (.pure (.int _ _ _ _ _ rfl rfl rfl rfl)) rfl rfl ?_
    refine Ch.nil ?_
    refine T_cond (b := (decide (((k : Nat) : Int) < ((xs.length : Nat) : Int)))) rfl (fun h2 => ?_) (fun h2 => ?_)
    · replace h2 := of_decide_eq_true h2
      try have hk := bulkF_mem hb _ (getD_mem (l := xs) (j := k) (d := default) (by omega))
      refine T_skip ?_
      refine T_seq ?_
      refine T_block ?_
      refine T_seq ?_
      refine T_regionD hc (by kernel_rfl) ?_
      refine ChD.step (v := (.d (.slice false 2 (xs.map Sgn.d)))) [] rfl (.pure (.move _ rfl rfl)) rfl rfl ?_
      refine ChD.step (v := (.d (.int .i64 ((k : Nat) : Int)))) [] rfl (.pure (.move _ rfl rfl)) rfl rfl ?_
      refine ChD.step (v := (.d (.ref (.agg [(.str ((xs.getD k default).name)), (.int .i64 ((xs.getD k default).kind))])))) [] rfl (.pure (.idx _ _ _ 85 (k) rfl Try.underlying41 sz85 rfl rfl rfl (get_map _ (by first | omega | (simp only [List.length_map, List.length_append, List.length_take, List.length_drop, List.length_cons, List.length_nil]; omega) | (simp; omega) | (simp; done))))) rfl rfl ?_
      refine ChD.step (v := (.d (.agg [(.str ((xs.getD k default).name)), (.int .i64 ((xs.getD k default).kind))]))) [] rfl (.pure (.loadRefA _ _ rfl ag85 sz85 rfl)) rfl rfl ?_
      refine ChD.step (v := (.d (.slice false 2 (ys.map Sgn.d)))) [] rfl (.pure (.move _ rfl rfl)) rfl rfl ?_
      refine ChD.step (v := (.d (.int .i64 ((k : Nat) : Int)))) [] rfl (.pure (.move _ rfl rfl)) rfl rfl ?_
      refine ChD.step (v := (.d (.ref (.agg [(.str ((ys.getD k default).name)), (.int .i64 ((ys.getD k default).kind))])))) [] rfl (.pure (.idx _ _ _ 85 (k) rfl Try.underlying41 sz85 rfl rfl rfl (get_map _ (by first | omega | (simp only [List.length_map, List.length_append, List.length_take, List.length_drop, List.length_cons, List.length_nil]; omega) | (simp; omega) | (simp; done))))) rfl rfl ?_
      refine ChD.step (v := (.d (.agg [(.str ((ys.getD k default).name)), (.int .i64 ((ys.getD k default).kind))]))) [] rfl (.pure (.loadRefA _ _ rfl ag85 sz85 rfl)) rfl rfl ?_
      refine ChD.step (v := (.d (.bool (decide ((xs.getD k default) = (ys.getD k default)))))) [] rfl (.call 25000 89 _ _ _ en89 rfl (.inl rfl) (.cons (.d _) (.cons (.d _) .nil)) rfl rfl (sp_laws_eqSignal (xs.getD k default) (ys.getD k default) (by first | assumption | omega | (rw [List.length_take]; omega) | (have := bulkF_mem hb _ (getD_mem (d := default) (by omega)); assumption) | (unfold bulkS at *; omega) | (simp_all; done))) (.skip _ _ (.skip _ _ .nil)) rfl) rfl rfl ?_
      refine ChD.step (v := (.d (.bool (!(decide ((xs.getD k default) = (ys.getD k default))))))) [] rfl (.pure (.not _ _ rfl rfl)) rfl rfl ?_
      refine ChD.nil (And.intro ?_ (by kernel_rfl))
      refine T_cond (b := (!(decide ((xs.getD k default) = (ys.getD k default))))) rfl (fun h3 => ?_) (fun h3 => ?_)
      · replace h3 := nott h3
        replace h3 := of_decide_eq_false h3
        refine T_seq ?_
        refine T_region hc ?_
        refine Ch.step (v := (.d (.bool false))) rfl (.pure (.assign _ rfl rfl)) rfl rfl ?_
        refine Ch.nil ?_
        refine T_ret ?_
        refine And.intro (.inr rfl) ?_
        exact Exists.intro [(.d (.bool false))] (Exists.intro [] (Exists.intro [] (And.intro (.cons (.tmp 4 rfl) .nil) (And.intro (.cons (.any _) (.cons (.any _) .nil)) (And.intro (Exp.of (congrArg D.bool (by exact eqL_at default k (by assumption))) (.d _)) (And.intro rfl rfl))))))
      · replace h3 := notf h3
        replace h3 := of_decide_eq_true h3
        refine T_skip ?_
        refine T_region hc ?_
        refine Ch.step (v := (.d (.int .i64 ((k : Nat) : Int)))) rfl (.pure (.move _ rfl rfl)) rfl rfl ?_
        refine Ch.step (v := (.d (.int .i64 (((k : Nat) : Int) + 1)))) rfl (.pure (.int _ _ _ _ _ rfl rfl rfl (intV_add (by first | omega | (simp only [List.length_map, List.length_append, List.length_take, List.length_drop, List.length_cons, List.length_nil]; omega) | (simp; omega) | (simp; done)) (by first | omega | (simp only [List.length_map, List.length_append, List.length_take, List.length_drop, List.length_cons, List.length_nil]; omega) | (simp; omega) | (simp; done))))) rfl rfl ?_
        refine Ch.step (v := (.d (.int .i64 (((k : Nat) : Int) + 1)))) rfl (.pure (.assign _ rfl rfl)) rfl rfl ?_
        refine Ch.nil ?_
        refine Exists.intro (k + 1) (And.intro ⟨by omega, upto_succ hp0.2 (by assumption)⟩ (And.intro (by first | omega | (dsimp only; omega)) (Wk.of rfl rfl (And.intro rfl (And.intro rfl (And.intro (vI (by first | rfl | omega | (simp; done) | (simp; omega))) trivial))) trivial)))
    · replace h2 := of_decide_eq_false h2
      try have hk := bulkF_mem hb _ (getD_mem (l := xs) (j := k) (d := default) (by omega))
      refine T_exit ?_
      refine T_seq ?_
      refine T_region hc ?_
      refine Ch.step (v := (.d (.bool true))) rfl (.pure (.assign _ rfl rfl)) rfl rfl ?_
      refine Ch.nil ?_
      refine T_ret ?_
      refine And.intro (.inr rfl) ?_
      exact Exists.intro [(.d (.bool true))] (Exists.intro [] (Exists.intro [] (And.intro (.cons (.tmp 4 rfl) .nil) (And.intro (.cons (.any _) (.cons (.any _) .nil)) (And.intro (Exp.of (congrArg D.bool (by exact eqL_all default (by omega) (fun j hj => hp0.2 j (by omega)))) (.d _)) (And.intro rfl rfl))))))

theorem en165 : Enters Try.prog 165 := ⟨_, Try.func165, by kernel_rfl, rfl⟩

theorem en109 : Enters Try.prog 109 := ⟨_, Try.func109, by kernel_rfl, rfl⟩

theorem en138 : Enters Try.prog 138 := ⟨_, Try.func138, by kernel_rfl, rfl⟩

theorem en137 : Enters Try.prog 137 := ⟨_, Try.func137, by kernel_rfl, rfl⟩

theorem en135 : Enters Try.prog 135 := ⟨_, Try.func135, by kernel_rfl, rfl⟩

def letB (x : UInt8) : Bool := decide ((97 : UInt8) ≤ x) && decide (x ≤ 122)

def digB (x : UInt8) : Bool := decide ((48 : UInt8) ≤ x) && decide (x ≤ 57)

def nameCh (x : UInt8) (j : Nat) : Bool := letB x || (digB x && !decide ((j : Int) = 0))

def nameB (u : List UInt8) : Bool := allB u.length (fun j => nameCh (u.getD j 0) j) && withinB u.length 1 6

def sigOk (xs : List Sgn) (j : Nat) : Bool := nameB (xs.getD j default).name && (withinB (xs.getD j default).kind 1 3 && !(xs.take j).any fun y => decide (y.name = (xs.getD j default).name))

def sigsB (xs : List Sgn) : Bool := allB xs.length (sigOk xs) && withinB xs.length 1 8

theorem digB_n (x : UInt8) : digB x = (!decide (x < 48) && !decide (57 < x)) := by
  unfold digB; rw [← decide_not, ← decide_not]; simp only [UInt8.not_lt]

theorem sp_impl_isName (u : List UInt8) (hu : u.length ≤ 1048576) : Sp Try.prog 109 [(.str u)] [.any] (.bool (nameB u)) := by
  refine Sp_intro (lend := true) Try.func109 rfl rfl rfl (fun _ => rfl) (fun c hc hX => ?_)
  refine T_seq ?_
  refine T_region hc ?_
  refine Ch.step (v := (.d (.bool false))) rfl (.pure (.assign _ rfl rfl)) rfl rfl ?_
  refine Ch.nil ?_
  refine T_seq ?_
  refine T_seq ?_
  refine T_region hc ?_
  refine Ch.step (v := (.d (.int .i64 0))) rfl (.pure (.assign _ rfl rfl)) rfl rfl ?_
  refine Ch.nil ?_
  refine T_block ?_
  refine T_loop (ι := Nat) (fun k => { n := 45, sl := [(0, (.d (.str u))), (3, (.d (.int .i64 ((k : Nat) : Int))))], hp := [], pin := [] }) (fun k => k ≤ u.length ∧ ∀ j, j < k → nameCh (u.getD j 0) j = true) (fun k => u.length - k) ⟨0, ⟨by omega, fun j hj => by omega⟩, (Wk.of rfl rfl (And.intro rfl (And.intro (vI (by first | rfl | omega | (simp; done) | (simp; omega))) trivial)) trivial)⟩ (fun k hp0 => ?_)
  refine T_seq ?_
  refine T_seq ?_
  refine T_region hc ?_
  refine Ch.step (v := (.d (.int .i64 ((k : Nat) : Int)))) rfl (.pure (.move _ rfl rfl)) rfl rfl ?_
  refine Ch.step (v := (.d (.str u))) rfl (.pure (.move _ rfl rfl)) rfl rfl ?_
  refine Ch.step (v := (.d (.int .i64 ((u.length : Nat) : Int)))) rfl (.pure (.lenStr _ _ rfl Try.underlying9 rfl)) rfl rfl ?_
  refine Ch.step (v := (.d (.bool (decide (((k : Nat) : Int) < ((u.length : Nat) : Int)))))) rfl (.pure (.int _ _ _ _ _ rfl rfl rfl rfl)) rfl rfl ?_
  refine Ch.nil ?_
  refine T_cond (b := (decide (((k : Nat) : Int) < ((u.length : Nat) : Int)))) rfl (fun h1 => ?_) (fun h1 => ?_)
  · replace h1 := of_decide_eq_true h1
    refine T_skip ?_
    refine T_seq ?_
    refine T_block ?_
    refine T_seq ?_
    refine T_regionD hc (by kernel_rfl) ?_
    refine ChD.step (v := (.d (.str u))) [] rfl (.pure (.move _ rfl rfl)) rfl rfl ?_
    refine ChD.step (v := (.d (.int .i64 ((k : Nat) : Int)))) [] rfl (.pure (.move _ rfl rfl)) rfl rfl ?_
    refine ChD.step (v := (.d (.int .u8 ((u.getD k 0).toNat : Int)))) [] rfl (.pure (.idxStr _ _ _ (k) rfl Try.underlying9 rfl rfl rfl (get_str (by first | omega | (simp only [List.length_map, List.length_append, List.length_take, List.length_drop, List.length_cons, List.length_nil]; omega) | (simp; omega) | (simp; done))))) rfl rfl ?_
    refine ChD.step (v := (.d (.bool (decide (97 ≤ ((u.getD k 0) : UInt8)))))) [] rfl (.pure (.int _ _ _ _ _ rfl rfl rfl (u8_geq ((u.getD k 0) : UInt8) 97 rfl rfl))) rfl rfl ?_
    refine ChD.step (v := (.d (.bool (decide (97 ≤ ((u.getD k 0) : UInt8)))))) [] rfl (.pure (.move _ rfl rfl)) rfl rfl ?_
    cases h2 : (decide (97 ≤ ((u.getD k 0) : UInt8))) with
    | true =>
      replace h2 := of_decide_eq_true h2
      refine ChD.step (v := (.d (.str u))) [] rfl (.pure (.move _ rfl rfl)) rfl rfl ?_
      refine ChD.step (v := (.d (.int .i64 ((k : Nat) : Int)))) [] rfl (.pure (.move _ rfl rfl)) rfl rfl ?_
      refine ChD.step (v := (.d (.int .u8 ((u.getD k 0).toNat : Int)))) [] rfl (.pure (.idxStr _ _ _ (k) rfl Try.underlying9 rfl rfl rfl (get_str (by first | omega | (simp only [List.length_map, List.length_append, List.length_take, List.length_drop, List.length_cons, List.length_nil]; omega) | (simp; omega) | (simp; done))))) rfl rfl ?_
      refine ChD.step (v := (.d (.bool (decide (((u.getD k 0) : UInt8) ≤ 122))))) [] rfl (.pure (.int _ _ _ _ _ rfl rfl rfl (u8_leq ((u.getD k 0) : UInt8) 122 rfl rfl))) rfl rfl ?_
      refine ChD.step (v := (.d (.bool (decide (((u.getD k 0) : UInt8) ≤ 122))))) [] rfl (.pure (.pickT _ _ _ rfl rfl rfl)) rfl rfl ?_
      refine ChD.step (v := (.d (.str u))) [] rfl (.pure (.move _ rfl rfl)) rfl rfl ?_
      refine ChD.step (v := (.d (.int .i64 ((k : Nat) : Int)))) [] rfl (.pure (.move _ rfl rfl)) rfl rfl ?_
      refine ChD.step (v := (.d (.int .u8 ((u.getD k 0).toNat : Int)))) [] rfl (.pure (.idxStr _ _ _ (k) rfl Try.underlying9 rfl rfl rfl (get_str (by first | omega | (simp only [List.length_map, List.length_append, List.length_take, List.length_drop, List.length_cons, List.length_nil]; omega) | (simp; omega) | (simp; done))))) rfl rfl ?_
      refine ChD.step (v := (.d (.bool (decide (48 ≤ ((u.getD k 0) : UInt8)))))) [] rfl (.pure (.int _ _ _ _ _ rfl rfl rfl (u8_geq ((u.getD k 0) : UInt8) 48 rfl rfl))) rfl rfl ?_
      refine ChD.step (v := (.d (.bool (decide (48 ≤ ((u.getD k 0) : UInt8)))))) [] rfl (.pure (.move _ rfl rfl)) rfl rfl ?_
      cases h3 : (decide (48 ≤ ((u.getD k 0) : UInt8))) with
      | true =>
        replace h3 := of_decide_eq_true h3
        refine ChD.step (v := (.d (.str u))) [] rfl (.pure (.move _ rfl rfl)) rfl rfl ?_
        refine ChD.step (v := (.d (.int .i64 ((k : Nat) : Int)))) [] rfl (.pure (.move _ rfl rfl)) rfl rfl ?_
        refine ChD.step (v := (.d (.int .u8 ((u.getD k 0).toNat : Int)))) [] rfl (.pure (.idxStr _ _ _ (k) rfl Try.underlying9 rfl rfl rfl (get_str (by first | omega | (simp only [List.length_map, List.length_append, List.length_take, List.length_drop, List.length_cons, List.length_nil]; omega) | (simp; omega) | (simp; done))))) rfl rfl ?_
        refine ChD.step (v := (.d (.bool (decide (((u.getD k 0) : UInt8) ≤ 57))))) [] rfl (.pure (.int _ _ _ _ _ rfl rfl rfl (u8_leq ((u.getD k 0) : UInt8) 57 rfl rfl))) rfl rfl ?_
        refine ChD.step (v := (.d (.bool (decide (((u.getD k 0) : UInt8) ≤ 57))))) [] rfl (.pure (.pickT _ _ _ rfl rfl rfl)) rfl rfl ?_
        refine ChD.step (v := (.d (.bool (decide (((u.getD k 0) : UInt8) ≤ 122))))) [] rfl (.pure (.assign _ rfl rfl)) rfl rfl ?_
        refine ChD.step (v := (.d (.bool (decide (((u.getD k 0) : UInt8) ≤ 57))))) [] rfl (.pure (.assign _ rfl rfl)) rfl rfl ?_
        refine ChD.nil (And.intro ?_ (by kernel_rfl))
        refine T_seq ?_
        refine T_region hc ?_
        refine Ch.step (v := (.d (.bool (decide (((u.getD k 0) : UInt8) ≤ 122))))) rfl (.pure (.move _ rfl rfl)) rfl rfl ?_
        refine Ch.step (v := (.d (.bool (!(decide (((u.getD k 0) : UInt8) ≤ 122)))))) rfl (.pure (.not _ _ rfl rfl)) rfl rfl ?_
        refine Ch.step (v := (.d (.bool (!(decide (((u.getD k 0) : UInt8) ≤ 122)))))) rfl (.pure (.move _ rfl rfl)) rfl rfl ?_
        cases h4 : (decide (((u.getD k 0) : UInt8) ≤ 122)) with
        | true =>
          replace h4 := of_decide_eq_true h4
          refine Ch.skip rfl rfl ?_
          refine Ch.skip rfl rfl ?_
          refine Ch.skip rfl rfl ?_
          refine Ch.skip rfl rfl ?_
          refine Ch.skip rfl rfl ?_
          refine Ch.skip rfl rfl ?_
          refine Ch.step (v := (.d (.bool false))) rfl (.pure (.pickF _ _ _ rfl rfl rfl)) rfl rfl ?_
          refine Ch.nil ?_
          refine T_cond (b := false) rfl (fun h => nomatch h) (fun _ => ?_)
          refine T_skip ?_
          refine T_region hc ?_
          refine Ch.step (v := (.d (.int .i64 ((k : Nat) : Int)))) rfl (.pure (.move _ rfl rfl)) rfl rfl ?_
          refine Ch.step (v := (.d (.int .i64 (((k : Nat) : Int) + 1)))) rfl (.pure (.int _ _ _ _ _ rfl rfl rfl (intV_add (by first | omega | (simp only [List.length_map, List.length_append, List.length_take, List.length_drop, List.length_cons, List.length_nil]; omega) | (simp; omega) | (simp; done)) (by first | omega | (simp only [List.length_map, List.length_append, List.length_take, List.length_drop, List.length_cons, List.length_nil]; omega) | (simp; omega) | (simp; done))))) rfl rfl ?_
          refine Ch.step (v := (.d (.int .i64 (((k : Nat) : Int) + 1)))) rfl (.pure (.assign _ rfl rfl)) rfl rfl ?_
          refine Ch.nil ?_
          refine Exists.intro (k + 1) (And.intro ⟨by omega, upto_succ hp0.2 (by first | (rw [nameCh, letB, digB]; simp only [*, decide_true, decide_false, Bool.and_true, Bool.true_and, Bool.and_false, Bool.false_and, Bool.or_false, Bool.false_or, Bool.or_true, Bool.true_or, Bool.not_true, Bool.not_false, not_false_eq_true]; done) | (rw [nameCh, letB, digB_n]; simp only [*, decide_true, decide_false, Bool.and_true, Bool.true_and, Bool.and_false, Bool.false_and, Bool.or_false, Bool.false_or, Bool.or_true, Bool.true_or, Bool.not_true, Bool.not_false, not_false_eq_true]; done))⟩ (And.intro (by first | omega | (dsimp only; omega)) (Wk.of rfl rfl (And.intro rfl (And.intro (vI (by first | rfl | omega | (simp; done) | (simp; omega))) trivial)) trivial)))
        | false =>
          replace h4 := of_decide_eq_false h4
          refine Ch.step (v := (.d (.bool (decide (((u.getD k 0) : UInt8) ≤ 57))))) rfl (.pure (.move _ rfl rfl)) rfl rfl ?_
          refine Ch.step (v := (.d (.bool (!(decide (((u.getD k 0) : UInt8) ≤ 57)))))) rfl (.pure (.not _ _ rfl rfl)) rfl rfl ?_
          refine Ch.step (v := (.d (.bool (!(decide (((u.getD k 0) : UInt8) ≤ 57)))))) rfl (.pure (.move _ rfl rfl)) rfl rfl ?_
          cases h5 : (decide (((u.getD k 0) : UInt8) ≤ 57)) with
          | true =>
            replace h5 := of_decide_eq_true h5
            refine Ch.step (v := (.d (.int .i64 ((k : Nat) : Int)))) rfl (.pure (.move _ rfl rfl)) rfl rfl ?_
            refine Ch.step (v := (.d (.bool (decide (((k : Nat) : Int) = 0))))) rfl (.pure (.int _ _ _ _ _ rfl rfl rfl rfl)) rfl rfl ?_
            refine Ch.step (v := (.d (.bool (decide (((k : Nat) : Int) = 0))))) rfl (.pure (.pickF _ _ _ rfl rfl rfl)) rfl rfl ?_
            refine Ch.step (v := (.d (.bool (decide (((k : Nat) : Int) = 0))))) rfl (.pure (.pickT _ _ _ rfl rfl rfl)) rfl rfl ?_
            refine Ch.nil ?_
            refine T_cond (b := (decide (((k : Nat) : Int) = 0))) rfl (fun h6 => ?_) (fun h6 => ?_)
            · replace h6 := of_decide_eq_true h6
              refine T_seq ?_
              refine T_region hc ?_
              refine Ch.step (v := (.d (.bool false))) rfl (.pure (.assign _ rfl rfl)) rfl rfl ?_
              refine Ch.nil ?_
              refine T_ret ?_
              refine And.intro (.inr rfl) ?_
              exact Exists.intro [(.d (.bool false))] (Exists.intro [] (Exists.intro [] (And.intro (.cons (.tmp 2 rfl) .nil) (And.intro (.cons (.any _) .nil) (And.intro (Exp.of (congrArg D.bool (by first | (rw [nameB, allB_no k (by omega) (by first | (rw [nameCh, letB, digB]; simp only [*, decide_true, decide_false, Bool.and_true, Bool.true_and, Bool.and_false, Bool.false_and, Bool.or_false, Bool.false_or, Bool.or_true, Bool.true_or, Bool.not_true, Bool.not_false, not_false_eq_true]; done) | (rw [nameCh, letB, digB_n]; simp only [*, decide_true, decide_false, Bool.and_true, Bool.true_and, Bool.and_false, Bool.false_and, Bool.or_false, Bool.false_or, Bool.or_true, Bool.true_or, Bool.not_true, Bool.not_false, not_false_eq_true]; done))]; rfl) | (rw [nameB, allB_of (fun j hj => hp0.2 j (by omega)), Bool.true_and]; done))) (.d _)) (And.intro rfl rfl))))))
            · replace h6 := of_decide_eq_false h6
              refine T_skip ?_
              refine T_region hc ?_
              refine Ch.step (v := (.d (.int .i64 ((k : Nat) : Int)))) rfl (.pure (.move _ rfl rfl)) rfl rfl ?_
              refine Ch.step (v := (.d (.int .i64 (((k : Nat) : Int) + 1)))) rfl (.pure (.int _ _ _ _ _ rfl rfl rfl (intV_add (by first | omega | (simp only [List.length_map, List.length_append, List.length_take, List.length_drop, List.length_cons, List.length_nil]; omega) | (simp; omega) | (simp; done)) (by first | omega | (simp only [List.length_map, List.length_append, List.length_take, List.length_drop, List.length_cons, List.length_nil]; omega) | (simp; omega) | (simp; done))))) rfl rfl ?_
              refine Ch.step (v := (.d (.int .i64 (((k : Nat) : Int) + 1)))) rfl (.pure (.assign _ rfl rfl)) rfl rfl ?_
              refine Ch.nil ?_
              refine Exists.intro (k + 1) (And.intro ⟨by omega, upto_succ hp0.2 (by first | (rw [nameCh, letB, digB]; simp only [*, decide_true, decide_false, Bool.and_true, Bool.true_and, Bool.and_false, Bool.false_and, Bool.or_false, Bool.false_or, Bool.or_true, Bool.true_or, Bool.not_true, Bool.not_false, not_false_eq_true]; done) | (rw [nameCh, letB, digB_n]; simp only [*, decide_true, decide_false, Bool.and_true, Bool.true_and, Bool.and_false, Bool.false_and, Bool.or_false, Bool.false_or, Bool.or_true, Bool.true_or, Bool.not_true, Bool.not_false, not_false_eq_true]; done))⟩ (And.intro (by first | omega | (dsimp only; omega)) (Wk.of rfl rfl (And.intro rfl (And.intro (vI (by first | rfl | omega | (simp; done) | (simp; omega))) trivial)) trivial)))
          | false =>
            replace h5 := of_decide_eq_false h5
            refine Ch.skip rfl rfl ?_
            refine Ch.skip rfl rfl ?_
            refine Ch.step (v := (.d (.bool true))) rfl (.pure (.pickT _ _ _ rfl rfl rfl)) rfl rfl ?_
            refine Ch.step (v := (.d (.bool true))) rfl (.pure (.pickT _ _ _ rfl rfl rfl)) rfl rfl ?_
            refine Ch.nil ?_
            refine T_cond (b := true) rfl (fun _ => ?_) (fun h => nomatch h)
            refine T_seq ?_
            refine T_region hc ?_
            refine Ch.step (v := (.d (.bool false))) rfl (.pure (.assign _ rfl rfl)) rfl rfl ?_
            refine Ch.nil ?_
            refine T_ret ?_
            refine And.intro (.inr rfl) ?_
            exact Exists.intro [(.d (.bool false))] (Exists.intro [] (Exists.intro [] (And.intro (.cons (.tmp 2 rfl) .nil) (And.intro (.cons (.any _) .nil) (And.intro (Exp.of (congrArg D.bool (by first | (rw [nameB, allB_no k (by omega) (by first | (rw [nameCh, letB, digB]; simp only [*, decide_true, decide_false, Bool.and_true, Bool.true_and, Bool.and_false, Bool.false_and, Bool.or_false, Bool.false_or, Bool.or_true, Bool.true_or, Bool.not_true, Bool.not_false, not_false_eq_true]; done) | (rw [nameCh, letB, digB_n]; simp only [*, decide_true, decide_false, Bool.and_true, Bool.true_and, Bool.and_false, Bool.false_and, Bool.or_false, Bool.false_or, Bool.or_true, Bool.true_or, Bool.not_true, Bool.not_false, not_false_eq_true]; done))]; rfl) | (rw [nameB, allB_of (fun j hj => hp0.2 j (by omega)), Bool.true_and]; done))) (.d _)) (And.intro rfl rfl))))))
      | false =>
        replace h3 := of_decide_eq_false h3
        refine ChD.skip rfl rfl ?_
        refine ChD.skip rfl rfl ?_
        refine ChD.skip rfl rfl ?_
        refine ChD.skip rfl rfl ?_
        refine ChD.step (v := (.d (.bool false))) [] rfl (.pure (.pickF _ _ _ rfl rfl rfl)) rfl rfl ?_
        refine ChD.step (v := (.d (.bool (decide (((u.getD k 0) : UInt8) ≤ 122))))) [] rfl (.pure (.assign _ rfl rfl)) rfl rfl ?_
        refine ChD.step (v := (.d (.bool false))) [] rfl (.pure (.assign _ rfl rfl)) rfl rfl ?_
        refine ChD.nil (And.intro ?_ (by kernel_rfl))
        refine T_seq ?_
        refine T_region hc ?_
        refine Ch.step (v := (.d (.bool (decide (((u.getD k 0) : UInt8) ≤ 122))))) rfl (.pure (.move _ rfl rfl)) rfl rfl ?_
        refine Ch.step (v := (.d (.bool (!(decide (((u.getD k 0) : UInt8) ≤ 122)))))) rfl (.pure (.not _ _ rfl rfl)) rfl rfl ?_
        refine Ch.step (v := (.d (.bool (!(decide (((u.getD k 0) : UInt8) ≤ 122)))))) rfl (.pure (.move _ rfl rfl)) rfl rfl ?_
        cases h7 : (decide (((u.getD k 0) : UInt8) ≤ 122)) with
        | true =>
          replace h7 := of_decide_eq_true h7
          refine Ch.skip rfl rfl ?_
          refine Ch.skip rfl rfl ?_
          refine Ch.skip rfl rfl ?_
          refine Ch.skip rfl rfl ?_
          refine Ch.skip rfl rfl ?_
          refine Ch.skip rfl rfl ?_
          refine Ch.step (v := (.d (.bool false))) rfl (.pure (.pickF _ _ _ rfl rfl rfl)) rfl rfl ?_
          refine Ch.nil ?_
          refine T_cond (b := false) rfl (fun h => nomatch h) (fun _ => ?_)
          refine T_skip ?_
          refine T_region hc ?_
          refine Ch.step (v := (.d (.int .i64 ((k : Nat) : Int)))) rfl (.pure (.move _ rfl rfl)) rfl rfl ?_
          refine Ch.step (v := (.d (.int .i64 (((k : Nat) : Int) + 1)))) rfl (.pure (.int _ _ _ _ _ rfl rfl rfl (intV_add (by first | omega | (simp only [List.length_map, List.length_append, List.length_take, List.length_drop, List.length_cons, List.length_nil]; omega) | (simp; omega) | (simp; done)) (by first | omega | (simp only [List.length_map, List.length_append, List.length_take, List.length_drop, List.length_cons, List.length_nil]; omega) | (simp; omega) | (simp; done))))) rfl rfl ?_
          refine Ch.step (v := (.d (.int .i64 (((k : Nat) : Int) + 1)))) rfl (.pure (.assign _ rfl rfl)) rfl rfl ?_
          refine Ch.nil ?_
          refine Exists.intro (k + 1) (And.intro ⟨by omega, upto_succ hp0.2 (by first | (rw [nameCh, letB, digB]; simp only [*, decide_true, decide_false, Bool.and_true, Bool.true_and, Bool.and_false, Bool.false_and, Bool.or_false, Bool.false_or, Bool.or_true, Bool.true_or, Bool.not_true, Bool.not_false, not_false_eq_true]; done) | (rw [nameCh, letB, digB_n]; simp only [*, decide_true, decide_false, Bool.and_true, Bool.true_and, Bool.and_false, Bool.false_and, Bool.or_false, Bool.false_or, Bool.or_true, Bool.true_or, Bool.not_true, Bool.not_false, not_false_eq_true]; done))⟩ (And.intro (by first | omega | (dsimp only; omega)) (Wk.of rfl rfl (And.intro rfl (And.intro (vI (by first | rfl | omega | (simp; done) | (simp; omega))) trivial)) trivial)))
        | false =>
          replace h7 := of_decide_eq_false h7
          refine Ch.step (v := (.d (.bool false))) rfl (.pure (.move _ rfl rfl)) rfl rfl ?_
          refine Ch.step (v := (.d (.bool true))) rfl (.pure (.not (b := false) _ _ rfl rfl)) rfl rfl ?_
          refine Ch.step (v := (.d (.bool true))) rfl (.pure (.move _ rfl rfl)) rfl rfl ?_
          refine Ch.skip rfl rfl ?_
          refine Ch.skip rfl rfl ?_
          refine Ch.step (v := (.d (.bool true))) rfl (.pure (.pickT _ _ _ rfl rfl rfl)) rfl rfl ?_
          refine Ch.step (v := (.d (.bool true))) rfl (.pure (.pickT _ _ _ rfl rfl rfl)) rfl rfl ?_
          refine Ch.nil ?_
          refine T_cond (b := true) rfl (fun _ => ?_) (fun h => nomatch h)
          refine T_seq ?_
          refine T_region hc ?_
          refine Ch.step (v := (.d (.bool false))) rfl (.pure (.assign _ rfl rfl)) rfl rfl ?_
          refine Ch.nil ?_
          refine T_ret ?_
          refine And.intro (.inr rfl) ?_
          exact Exists.intro [(.d (.bool false))] (Exists.intro [] (Exists.intro [] (And.intro (.cons (.tmp 2 rfl) .nil) (And.intro (.cons (.any _) .nil) (And.intro (Exp.of (congrArg D.bool (by first | (rw [nameB, allB_no k (by omega) (by first | (rw [nameCh, letB, digB]; simp only [*, decide_true, decide_false, Bool.and_true, Bool.true_and, Bool.and_false, Bool.false_and, Bool.or_false, Bool.false_or, Bool.or_true, Bool.true_or, Bool.not_true, Bool.not_false, not_false_eq_true]; done) | (rw [nameCh, letB, digB_n]; simp only [*, decide_true, decide_false, Bool.and_true, Bool.true_and, Bool.and_false, Bool.false_and, Bool.or_false, Bool.false_or, Bool.or_true, Bool.true_or, Bool.not_true, Bool.not_false, not_false_eq_true]; done))]; rfl) | (rw [nameB, allB_of (fun j hj => hp0.2 j (by omega)), Bool.true_and]; done))) (.d _)) (And.intro rfl rfl))))))
    | false =>
      replace h2 := of_decide_eq_false h2
      refine ChD.skip rfl rfl ?_
      refine ChD.skip rfl rfl ?_
      refine ChD.skip rfl rfl ?_
      refine ChD.skip rfl rfl ?_
      refine ChD.step (v := (.d (.bool false))) [] rfl (.pure (.pickF _ _ _ rfl rfl rfl)) rfl rfl ?_
      refine ChD.step (v := (.d (.str u))) [] rfl (.pure (.move _ rfl rfl)) rfl rfl ?_
      refine ChD.step (v := (.d (.int .i64 ((k : Nat) : Int)))) [] rfl (.pure (.move _ rfl rfl)) rfl rfl ?_
      refine ChD.step (v := (.d (.int .u8 ((u.getD k 0).toNat : Int)))) [] rfl (.pure (.idxStr _ _ _ (k) rfl Try.underlying9 rfl rfl rfl (get_str (by first | omega | (simp only [List.length_map, List.length_append, List.length_take, List.length_drop, List.length_cons, List.length_nil]; omega) | (simp; omega) | (simp; done))))) rfl rfl ?_
      refine ChD.step (v := (.d (.bool (decide (48 ≤ ((u.getD k 0) : UInt8)))))) [] rfl (.pure (.int _ _ _ _ _ rfl rfl rfl (u8_geq ((u.getD k 0) : UInt8) 48 rfl rfl))) rfl rfl ?_
      refine ChD.step (v := (.d (.bool (decide (48 ≤ ((u.getD k 0) : UInt8)))))) [] rfl (.pure (.move _ rfl rfl)) rfl rfl ?_
      cases h8 : (decide (48 ≤ ((u.getD k 0) : UInt8))) with
      | true =>
        replace h8 := of_decide_eq_true h8
        refine ChD.step (v := (.d (.str u))) [] rfl (.pure (.move _ rfl rfl)) rfl rfl ?_
        refine ChD.step (v := (.d (.int .i64 ((k : Nat) : Int)))) [] rfl (.pure (.move _ rfl rfl)) rfl rfl ?_
        refine ChD.step (v := (.d (.int .u8 ((u.getD k 0).toNat : Int)))) [] rfl (.pure (.idxStr _ _ _ (k) rfl Try.underlying9 rfl rfl rfl (get_str (by first | omega | (simp only [List.length_map, List.length_append, List.length_take, List.length_drop, List.length_cons, List.length_nil]; omega) | (simp; omega) | (simp; done))))) rfl rfl ?_
        refine ChD.step (v := (.d (.bool (decide (((u.getD k 0) : UInt8) ≤ 57))))) [] rfl (.pure (.int _ _ _ _ _ rfl rfl rfl (u8_leq ((u.getD k 0) : UInt8) 57 rfl rfl))) rfl rfl ?_
        refine ChD.step (v := (.d (.bool (decide (((u.getD k 0) : UInt8) ≤ 57))))) [] rfl (.pure (.pickT _ _ _ rfl rfl rfl)) rfl rfl ?_
        refine ChD.step (v := (.d (.bool false))) [] rfl (.pure (.assign _ rfl rfl)) rfl rfl ?_
        refine ChD.step (v := (.d (.bool (decide (((u.getD k 0) : UInt8) ≤ 57))))) [] rfl (.pure (.assign _ rfl rfl)) rfl rfl ?_
        refine ChD.nil (And.intro ?_ (by kernel_rfl))
        refine T_seq ?_
        refine T_region hc ?_
        refine Ch.step (v := (.d (.bool false))) rfl (.pure (.move _ rfl rfl)) rfl rfl ?_
        refine Ch.step (v := (.d (.bool true))) rfl (.pure (.not (b := false) _ _ rfl rfl)) rfl rfl ?_
        refine Ch.step (v := (.d (.bool true))) rfl (.pure (.move _ rfl rfl)) rfl rfl ?_
        refine Ch.step (v := (.d (.bool (decide (((u.getD k 0) : UInt8) ≤ 57))))) rfl (.pure (.move _ rfl rfl)) rfl rfl ?_
        refine Ch.step (v := (.d (.bool (!(decide (((u.getD k 0) : UInt8) ≤ 57)))))) rfl (.pure (.not _ _ rfl rfl)) rfl rfl ?_
        refine Ch.step (v := (.d (.bool (!(decide (((u.getD k 0) : UInt8) ≤ 57)))))) rfl (.pure (.move _ rfl rfl)) rfl rfl ?_
        cases h9 : (decide (((u.getD k 0) : UInt8) ≤ 57)) with
        | true =>
          replace h9 := of_decide_eq_true h9
          refine Ch.step (v := (.d (.int .i64 ((k : Nat) : Int)))) rfl (.pure (.move _ rfl rfl)) rfl rfl ?_
          refine Ch.step (v := (.d (.bool (decide (((k : Nat) : Int) = 0))))) rfl (.pure (.int _ _ _ _ _ rfl rfl rfl rfl)) rfl rfl ?_
          refine Ch.step (v := (.d (.bool (decide (((k : Nat) : Int) = 0))))) rfl (.pure (.pickF _ _ _ rfl rfl rfl)) rfl rfl ?_
          refine Ch.step (v := (.d (.bool (decide (((k : Nat) : Int) = 0))))) rfl (.pure (.pickT _ _ _ rfl rfl rfl)) rfl rfl ?_
          refine Ch.nil ?_
          refine T_cond (b := (decide (((k : Nat) : Int) = 0))) rfl (fun h10 => ?_) (fun h10 => ?_)
          · replace h10 := of_decide_eq_true h10
            refine T_seq ?_
            refine T_region hc ?_
            refine Ch.step (v := (.d (.bool false))) rfl (.pure (.assign _ rfl rfl)) rfl rfl ?_
            refine Ch.nil ?_
            refine T_ret ?_
            refine And.intro (.inr rfl) ?_
            exact Exists.intro [(.d (.bool false))] (Exists.intro [] (Exists.intro [] (And.intro (.cons (.tmp 2 rfl) .nil) (And.intro (.cons (.any _) .nil) (And.intro (Exp.of (congrArg D.bool (by first | (rw [nameB, allB_no k (by omega) (by first | (rw [nameCh, letB, digB]; simp only [*, decide_true, decide_false, Bool.and_true, Bool.true_and, Bool.and_false, Bool.false_and, Bool.or_false, Bool.false_or, Bool.or_true, Bool.true_or, Bool.not_true, Bool.not_false, not_false_eq_true]; done) | (rw [nameCh, letB, digB_n]; simp only [*, decide_true, decide_false, Bool.and_true, Bool.true_and, Bool.and_false, Bool.false_and, Bool.or_false, Bool.false_or, Bool.or_true, Bool.true_or, Bool.not_true, Bool.not_false, not_false_eq_true]; done))]; rfl) | (rw [nameB, allB_of (fun j hj => hp0.2 j (by omega)), Bool.true_and]; done))) (.d _)) (And.intro rfl rfl))))))
          · replace h10 := of_decide_eq_false h10
            refine T_skip ?_
            refine T_region hc ?_
            refine Ch.step (v := (.d (.int .i64 ((k : Nat) : Int)))) rfl (.pure (.move _ rfl rfl)) rfl rfl ?_
            refine Ch.step (v := (.d (.int .i64 (((k : Nat) : Int) + 1)))) rfl (.pure (.int _ _ _ _ _ rfl rfl rfl (intV_add (by first | omega | (simp only [List.length_map, List.length_append, List.length_take, List.length_drop, List.length_cons, List.length_nil]; omega) | (simp; omega) | (simp; done)) (by first | omega | (simp only [List.length_map, List.length_append, List.length_take, List.length_drop, List.length_cons, List.length_nil]; omega) | (simp; omega) | (simp; done))))) rfl rfl ?_
            refine Ch.step (v := (.d (.int .i64 (((k : Nat) : Int) + 1)))) rfl (.pure (.assign _ rfl rfl)) rfl rfl ?_
            refine Ch.nil ?_
            refine Exists.intro (k + 1) (And.intro ⟨by omega, upto_succ hp0.2 (by first | (rw [nameCh, letB, digB]; simp only [*, decide_true, decide_false, Bool.and_true, Bool.true_and, Bool.and_false, Bool.false_and, Bool.or_false, Bool.false_or, Bool.or_true, Bool.true_or, Bool.not_true, Bool.not_false, not_false_eq_true]; done) | (rw [nameCh, letB, digB_n]; simp only [*, decide_true, decide_false, Bool.and_true, Bool.true_and, Bool.and_false, Bool.false_and, Bool.or_false, Bool.false_or, Bool.or_true, Bool.true_or, Bool.not_true, Bool.not_false, not_false_eq_true]; done))⟩ (And.intro (by first | omega | (dsimp only; omega)) (Wk.of rfl rfl (And.intro rfl (And.intro (vI (by first | rfl | omega | (simp; done) | (simp; omega))) trivial)) trivial)))
        | false =>
          replace h9 := of_decide_eq_false h9
          refine Ch.skip rfl rfl ?_
          refine Ch.skip rfl rfl ?_
          refine Ch.step (v := (.d (.bool true))) rfl (.pure (.pickT _ _ _ rfl rfl rfl)) rfl rfl ?_
          refine Ch.step (v := (.d (.bool true))) rfl (.pure (.pickT _ _ _ rfl rfl rfl)) rfl rfl ?_
          refine Ch.nil ?_
          refine T_cond (b := true) rfl (fun _ => ?_) (fun h => nomatch h)
          refine T_seq ?_
          refine T_region hc ?_
          refine Ch.step (v := (.d (.bool false))) rfl (.pure (.assign _ rfl rfl)) rfl rfl ?_
          refine Ch.nil ?_
          refine T_ret ?_
          refine And.intro (.inr rfl) ?_
          exact Exists.intro [(.d (.bool false))] (Exists.intro [] (Exists.intro [] (And.intro (.cons (.tmp 2 rfl) .nil) (And.intro (.cons (.any _) .nil) (And.intro (Exp.of (congrArg D.bool (by first | (rw [nameB, allB_no k (by omega) (by first | (rw [nameCh, letB, digB]; simp only [*, decide_true, decide_false, Bool.and_true, Bool.true_and, Bool.and_false, Bool.false_and, Bool.or_false, Bool.false_or, Bool.or_true, Bool.true_or, Bool.not_true, Bool.not_false, not_false_eq_true]; done) | (rw [nameCh, letB, digB_n]; simp only [*, decide_true, decide_false, Bool.and_true, Bool.true_and, Bool.and_false, Bool.false_and, Bool.or_false, Bool.false_or, Bool.or_true, Bool.true_or, Bool.not_true, Bool.not_false, not_false_eq_true]; done))]; rfl) | (rw [nameB, allB_of (fun j hj => hp0.2 j (by omega)), Bool.true_and]; done))) (.d _)) (And.intro rfl rfl))))))
      | false =>
        replace h8 := of_decide_eq_false h8
        refine ChD.skip rfl rfl ?_
        refine ChD.skip rfl rfl ?_
        refine ChD.skip rfl rfl ?_
        refine ChD.skip rfl rfl ?_
        refine ChD.step (v := (.d (.bool false))) [] rfl (.pure (.pickF _ _ _ rfl rfl rfl)) rfl rfl ?_
        refine ChD.step (v := (.d (.bool false))) [] rfl (.pure (.assign _ rfl rfl)) rfl rfl ?_
        refine ChD.step (v := (.d (.bool false))) [] rfl (.pure (.assign _ rfl rfl)) rfl rfl ?_
        refine ChD.nil (And.intro ?_ (by kernel_rfl))
        refine T_seq ?_
        refine T_region hc ?_
        refine Ch.step (v := (.d (.bool false))) rfl (.pure (.move _ rfl rfl)) rfl rfl ?_
        refine Ch.step (v := (.d (.bool true))) rfl (.pure (.not (b := false) _ _ rfl rfl)) rfl rfl ?_
        refine Ch.step (v := (.d (.bool true))) rfl (.pure (.move _ rfl rfl)) rfl rfl ?_
        refine Ch.step (v := (.d (.bool false))) rfl (.pure (.move _ rfl rfl)) rfl rfl ?_
        refine Ch.step (v := (.d (.bool true))) rfl (.pure (.not (b := false) _ _ rfl rfl)) rfl rfl ?_
        refine Ch.step (v := (.d (.bool true))) rfl (.pure (.move _ rfl rfl)) rfl rfl ?_
        refine Ch.skip rfl rfl ?_
        refine Ch.skip rfl rfl ?_
        refine Ch.step (v := (.d (.bool true))) rfl (.pure (.pickT _ _ _ rfl rfl rfl)) rfl rfl ?_
        refine Ch.step (v := (.d (.bool true))) rfl (.pure (.pickT _ _ _ rfl rfl rfl)) rfl rfl ?_
        refine Ch.nil ?_
        refine T_cond (b := true) rfl (fun _ => ?_) (fun h => nomatch h)
        refine T_seq ?_
        refine T_region hc ?_
        refine Ch.step (v := (.d (.bool false))) rfl (.pure (.assign _ rfl rfl)) rfl rfl ?_
        refine Ch.nil ?_
        refine T_ret ?_
        refine And.intro (.inr rfl) ?_
        exact Exists.intro [(.d (.bool false))] (Exists.intro [] (Exists.intro [] (And.intro (.cons (.tmp 2 rfl) .nil) (And.intro (.cons (.any _) .nil) (And.intro (Exp.of (congrArg D.bool (by first | (rw [nameB, allB_no k (by omega) (by first | (rw [nameCh, letB, digB]; simp only [*, decide_true, decide_false, Bool.and_true, Bool.true_and, Bool.and_false, Bool.false_and, Bool.or_false, Bool.false_or, Bool.or_true, Bool.true_or, Bool.not_true, Bool.not_false, not_false_eq_true]; done) | (rw [nameCh, letB, digB_n]; simp only [*, decide_true, decide_false, Bool.and_true, Bool.true_and, Bool.and_false, Bool.false_and, Bool.or_false, Bool.false_or, Bool.or_true, Bool.true_or, Bool.not_true, Bool.not_false, not_false_eq_true]; done))]; rfl) | (rw [nameB, allB_of (fun j hj => hp0.2 j (by omega)), Bool.true_and]; done))) (.d _)) (And.intro rfl rfl))))))
  · replace h1 := of_decide_eq_false h1
    refine T_exit ?_
    refine T_seq ?_
    refine T_region hc ?_
    refine Ch.step (v := (.d (.str u))) rfl (.pure (.move _ rfl rfl)) rfl rfl ?_
    refine Ch.step (v := (.d (.int .i64 ((u.length : Nat) : Int)))) rfl (.pure (.lenStr _ _ rfl Try.underlying9 rfl)) rfl rfl ?_
    refine Ch.step (v := (.d (.bool (withinB ((u.length : Nat) : Int) 1 6)))) rfl (.call 44000 98 _ _ _ en98 rfl (.inl rfl) (.cons (.d _) (.cons (.d _) (.cons (.d _) .nil))) rfl rfl (sp_impl_within ((u.length : Nat) : Int) 1 6) (.skip _ _ (.skip _ _ (.skip _ _ .nil))) rfl) rfl rfl ?_
    refine Ch.step (v := (.d (.bool (withinB ((u.length : Nat) : Int) 1 6)))) rfl (.pure (.assign _ rfl rfl)) rfl rfl ?_
    refine Ch.nil ?_
    refine T_ret ?_
    refine And.intro (.inr rfl) ?_
    exact Exists.intro [(.d (.bool (withinB ((u.length : Nat) : Int) 1 6)))] (Exists.intro [] (Exists.intro [] (And.intro (.cons (.tmp 2 rfl) .nil) (And.intro (.cons (.any _) .nil) (And.intro (Exp.of (congrArg D.bool (by first | (rw [nameB, allB_no k (by omega) (by first | (rw [nameCh, letB, digB]; simp only [*, decide_true, decide_false, Bool.and_true, Bool.true_and, Bool.and_false, Bool.false_and, Bool.or_false, Bool.false_or, Bool.or_true, Bool.true_or, Bool.not_true, Bool.not_false, not_false_eq_true]; done) | (rw [nameCh, letB, digB_n]; simp only [*, decide_true, decide_false, Bool.and_true, Bool.true_and, Bool.and_false, Bool.false_and, Bool.or_false, Bool.false_or, Bool.or_true, Bool.true_or, Bool.not_true, Bool.not_false, not_false_eq_true]; done))]; rfl) | (rw [nameB, allB_of (fun j hj => hp0.2 j (by omega)), Bool.true_and]; done))) (.d _)) (And.intro rfl rfl))))))

theorem sp_spec_l2Name (u : List UInt8) (hu : u.length ≤ 1048576) : Sp Try.prog 135 [(.str u)] [.any] (.bool (nameB u)) := by
  refine Sp_intro (lend := true) Try.func135 rfl rfl rfl (fun _ => rfl) (fun c hc hX => ?_)
  refine T_seq ?_
  refine T_region hc ?_
  refine Ch.step (v := (.d (.bool false))) rfl (.pure (.assign _ rfl rfl)) rfl rfl ?_
  refine Ch.nil ?_
  refine T_seq ?_
  refine T_seq ?_
  refine T_region hc ?_
  refine Ch.step (v := (.d (.int .i64 0))) rfl (.pure (.assign _ rfl rfl)) rfl rfl ?_
  refine Ch.nil ?_
  refine T_block ?_
  refine T_loop (ι := Nat) (fun k => { n := 42, sl := [(0, (.d (.str u))), (3, (.d (.int .i64 ((k : Nat) : Int))))], hp := [], pin := [] }) (fun k => k ≤ u.length ∧ ∀ j, j < k → nameCh (u.getD j 0) j = true) (fun k => u.length - k) ⟨0, ⟨by omega, fun j hj => by omega⟩, (Wk.of rfl rfl (And.intro rfl (And.intro (vI (by first | rfl | omega | (simp; done) | (simp; omega))) trivial)) trivial)⟩ (fun k hp0 => ?_)
  refine T_seq ?_
  refine T_seq ?_
  refine T_region hc ?_
  refine Ch.step (v := (.d (.int .i64 ((k : Nat) : Int)))) rfl (.pure (.move _ rfl rfl)) rfl rfl ?_
  refine Ch.step (v := (.d (.str u))) rfl (.pure (.move _ rfl rfl)) rfl rfl ?_
  refine Ch.step (v := (.d (.int .i64 ((u.length : Nat) : Int)))) rfl (.pure (.lenStr _ _ rfl Try.underlying9 rfl)) rfl rfl ?_
  refine Ch.step (v := (.d (.bool (decide (((k : Nat) : Int) < ((u.length : Nat) : Int)))))) rfl (.pure (.int _ _ _ _ _ rfl rfl rfl rfl)) rfl rfl ?_
  refine Ch.nil ?_
  refine T_cond (b := (decide (((k : Nat) : Int) < ((u.length : Nat) : Int)))) rfl (fun h1 => ?_) (fun h1 => ?_)
  · replace h1 := of_decide_eq_true h1
    refine T_skip ?_
    refine T_seq ?_
    refine T_block ?_
    refine T_seq ?_
    refine T_region hc ?_
    refine Ch.step (v := (.d (.str u))) rfl (.pure (.move _ rfl rfl)) rfl rfl ?_
    refine Ch.step (v := (.d (.int .i64 ((k : Nat) : Int)))) rfl (.pure (.move _ rfl rfl)) rfl rfl ?_
    refine Ch.step (v := (.d (.int .u8 ((u.getD k 0).toNat : Int)))) rfl (.pure (.idxStr _ _ _ (k) rfl Try.underlying9 rfl rfl rfl (get_str (by first | omega | (simp only [List.length_map, List.length_append, List.length_take, List.length_drop, List.length_cons, List.length_nil]; omega) | (simp; omega) | (simp; done))))) rfl rfl ?_
    refine Ch.step (v := (.d (.bool (decide (97 ≤ ((u.getD k 0) : UInt8)))))) rfl (.pure (.int _ _ _ _ _ rfl rfl rfl (u8_geq ((u.getD k 0) : UInt8) 97 rfl rfl))) rfl rfl ?_
    refine Ch.step (v := (.d (.bool (decide (97 ≤ ((u.getD k 0) : UInt8)))))) rfl (.pure (.move _ rfl rfl)) rfl rfl ?_
    cases h2 : (decide (97 ≤ ((u.getD k 0) : UInt8))) with
    | true =>
      replace h2 := of_decide_eq_true h2
      refine Ch.step (v := (.d (.str u))) rfl (.pure (.move _ rfl rfl)) rfl rfl ?_
      refine Ch.step (v := (.d (.int .i64 ((k : Nat) : Int)))) rfl (.pure (.move _ rfl rfl)) rfl rfl ?_
      refine Ch.step (v := (.d (.int .u8 ((u.getD k 0).toNat : Int)))) rfl (.pure (.idxStr _ _ _ (k) rfl Try.underlying9 rfl rfl rfl (get_str (by first | omega | (simp only [List.length_map, List.length_append, List.length_take, List.length_drop, List.length_cons, List.length_nil]; omega) | (simp; omega) | (simp; done))))) rfl rfl ?_
      refine Ch.step (v := (.d (.bool (decide (((u.getD k 0) : UInt8) ≤ 122))))) rfl (.pure (.int _ _ _ _ _ rfl rfl rfl (u8_leq ((u.getD k 0) : UInt8) 122 rfl rfl))) rfl rfl ?_
      refine Ch.step (v := (.d (.bool (decide (((u.getD k 0) : UInt8) ≤ 122))))) rfl (.pure (.pickT _ _ _ rfl rfl rfl)) rfl rfl ?_
      refine Ch.step (v := (.d (.bool (decide (((u.getD k 0) : UInt8) ≤ 122))))) rfl (.pure (.assign _ rfl rfl)) rfl rfl ?_
      refine Ch.nil ?_
      refine T_seq ?_
      refine T_region hc ?_
      refine Ch.step (v := (.d (.bool (decide (((u.getD k 0) : UInt8) ≤ 122))))) rfl (.pure (.move _ rfl rfl)) rfl rfl ?_
      refine Ch.step (v := (.d (.bool (!(decide (((u.getD k 0) : UInt8) ≤ 122)))))) rfl (.pure (.not _ _ rfl rfl)) rfl rfl ?_
      refine Ch.step (v := (.d (.bool (!(decide (((u.getD k 0) : UInt8) ≤ 122)))))) rfl (.pure (.move _ rfl rfl)) rfl rfl ?_
      cases h3 : (decide (((u.getD k 0) : UInt8) ≤ 122)) with
      | true =>
        replace h3 := of_decide_eq_true h3
        refine Ch.skip rfl rfl ?_
        refine Ch.skip rfl rfl ?_
        refine Ch.skip rfl rfl ?_
        refine Ch.skip rfl rfl ?_
        refine Ch.skip rfl rfl ?_
        refine Ch.skip rfl rfl ?_
        refine Ch.skip rfl rfl ?_
        refine Ch.skip rfl rfl ?_
        refine Ch.skip rfl rfl ?_
        refine Ch.skip rfl rfl ?_
        refine Ch.skip rfl rfl ?_
        refine Ch.skip rfl rfl ?_
        refine Ch.skip rfl rfl ?_
        refine Ch.skip rfl rfl ?_
        refine Ch.step (v := (.d (.bool false))) rfl (.pure (.pickF _ _ _ rfl rfl rfl)) rfl rfl ?_
        refine Ch.nil ?_
        refine T_cond (b := false) rfl (fun h => nomatch h) (fun _ => ?_)
        refine T_skip ?_
        refine T_region hc ?_
        refine Ch.step (v := (.d (.int .i64 ((k : Nat) : Int)))) rfl (.pure (.move _ rfl rfl)) rfl rfl ?_
        refine Ch.step (v := (.d (.int .i64 (((k : Nat) : Int) + 1)))) rfl (.pure (.int _ _ _ _ _ rfl rfl rfl (intV_add (by first | omega | (simp only [List.length_map, List.length_append, List.length_take, List.length_drop, List.length_cons, List.length_nil]; omega) | (simp; omega) | (simp; done)) (by first | omega | (simp only [List.length_map, List.length_append, List.length_take, List.length_drop, List.length_cons, List.length_nil]; omega) | (simp; omega) | (simp; done))))) rfl rfl ?_
        refine Ch.step (v := (.d (.int .i64 (((k : Nat) : Int) + 1)))) rfl (.pure (.assign _ rfl rfl)) rfl rfl ?_
        refine Ch.nil ?_
        refine Exists.intro (k + 1) (And.intro ⟨by omega, upto_succ hp0.2 (by first | (rw [nameCh, letB, digB]; simp only [*, decide_true, decide_false, Bool.and_true, Bool.true_and, Bool.and_false, Bool.false_and, Bool.or_false, Bool.false_or, Bool.or_true, Bool.true_or, Bool.not_true, Bool.not_false, not_false_eq_true]; done) | (rw [nameCh, letB, digB_n]; simp only [*, decide_true, decide_false, Bool.and_true, Bool.true_and, Bool.and_false, Bool.false_and, Bool.or_false, Bool.false_or, Bool.or_true, Bool.true_or, Bool.not_true, Bool.not_false, not_false_eq_true]; done))⟩ (And.intro (by first | omega | (dsimp only; omega)) (Wk.of rfl rfl (And.intro rfl (And.intro (vI (by first | rfl | omega | (simp; done) | (simp; omega))) trivial)) trivial)))
      | false =>
        replace h3 := of_decide_eq_false h3
        refine Ch.step (v := (.d (.int .i64 ((k : Nat) : Int)))) rfl (.pure (.move _ rfl rfl)) rfl rfl ?_
        refine Ch.step (v := (.d (.bool (decide (((k : Nat) : Int) = 0))))) rfl (.pure (.int _ _ _ _ _ rfl rfl rfl rfl)) rfl rfl ?_
        refine Ch.step (v := (.d (.bool (decide (((k : Nat) : Int) = 0))))) rfl (.pure (.move _ rfl rfl)) rfl rfl ?_
        cases h4 : (decide (((k : Nat) : Int) = 0)) with
        | true =>
          replace h4 := of_decide_eq_true h4
          refine Ch.skip rfl rfl ?_
          refine Ch.skip rfl rfl ?_
          refine Ch.skip rfl rfl ?_
          refine Ch.skip rfl rfl ?_
          refine Ch.step (v := (.d (.bool true))) rfl (.pure (.pickT _ _ _ rfl rfl rfl)) rfl rfl ?_
          refine Ch.step (v := (.d (.bool true))) rfl (.pure (.move _ rfl rfl)) rfl rfl ?_
          refine Ch.skip rfl rfl ?_
          refine Ch.skip rfl rfl ?_
          refine Ch.skip rfl rfl ?_
          refine Ch.skip rfl rfl ?_
          refine Ch.step (v := (.d (.bool true))) rfl (.pure (.pickT _ _ _ rfl rfl rfl)) rfl rfl ?_
          refine Ch.step (v := (.d (.bool true))) rfl (.pure (.pickT _ _ _ rfl rfl rfl)) rfl rfl ?_
          refine Ch.nil ?_
          refine T_cond (b := true) rfl (fun _ => ?_) (fun h => nomatch h)
          refine T_seq ?_
          refine T_region hc ?_
          refine Ch.step (v := (.d (.bool false))) rfl (.pure (.assign _ rfl rfl)) rfl rfl ?_
          refine Ch.nil ?_
          refine T_ret ?_
          refine And.intro (.inr rfl) ?_
          exact Exists.intro [(.d (.bool false))] (Exists.intro [] (Exists.intro [] (And.intro (.cons (.tmp 2 rfl) .nil) (And.intro (.cons (.any _) .nil) (And.intro (Exp.of (congrArg D.bool (by first | (rw [nameB, allB_no k (by omega) (by first | (rw [nameCh, letB, digB]; simp only [*, decide_true, decide_false, Bool.and_true, Bool.true_and, Bool.and_false, Bool.false_and, Bool.or_false, Bool.false_or, Bool.or_true, Bool.true_or, Bool.not_true, Bool.not_false, not_false_eq_true]; done) | (rw [nameCh, letB, digB_n]; simp only [*, decide_true, decide_false, Bool.and_true, Bool.true_and, Bool.and_false, Bool.false_and, Bool.or_false, Bool.false_or, Bool.or_true, Bool.true_or, Bool.not_true, Bool.not_false, not_false_eq_true]; done))]; rfl) | (rw [nameB, allB_of (fun j hj => hp0.2 j (by omega)), Bool.true_and]; done))) (.d _)) (And.intro rfl rfl))))))
        | false =>
          replace h4 := of_decide_eq_false h4
          refine Ch.step (v := (.d (.str u))) rfl (.pure (.move _ rfl rfl)) rfl rfl ?_
          refine Ch.step (v := (.d (.int .i64 ((k : Nat) : Int)))) rfl (.pure (.move _ rfl rfl)) rfl rfl ?_
          refine Ch.step (v := (.d (.int .u8 ((u.getD k 0).toNat : Int)))) rfl (.pure (.idxStr _ _ _ (k) rfl Try.underlying9 rfl rfl rfl (get_str (by first | omega | (simp only [List.length_map, List.length_append, List.length_take, List.length_drop, List.length_cons, List.length_nil]; omega) | (simp; omega) | (simp; done))))) rfl rfl ?_
          refine Ch.step (v := (.d (.bool (decide (((u.getD k 0) : UInt8) < 48))))) rfl (.pure (.int _ _ _ _ _ rfl rfl rfl (u8_lss ((u.getD k 0) : UInt8) 48 rfl rfl))) rfl rfl ?_
          refine Ch.step (v := (.d (.bool (decide (((u.getD k 0) : UInt8) < 48))))) rfl (.pure (.pickF _ _ _ rfl rfl rfl)) rfl rfl ?_
          refine Ch.step (v := (.d (.bool (decide (((u.getD k 0) : UInt8) < 48))))) rfl (.pure (.move _ rfl rfl)) rfl rfl ?_
          cases h5 : (decide (((u.getD k 0) : UInt8) < 48)) with
          | true =>
            replace h5 := of_decide_eq_true h5
            refine Ch.skip rfl rfl ?_
            refine Ch.skip rfl rfl ?_
            refine Ch.skip rfl rfl ?_
            refine Ch.skip rfl rfl ?_
            refine Ch.step (v := (.d (.bool true))) rfl (.pure (.pickT _ _ _ rfl rfl rfl)) rfl rfl ?_
            refine Ch.step (v := (.d (.bool true))) rfl (.pure (.pickT _ _ _ rfl rfl rfl)) rfl rfl ?_
            refine Ch.nil ?_
            refine T_cond (b := true) rfl (fun _ => ?_) (fun h => nomatch h)
            refine T_seq ?_
            refine T_region hc ?_
            refine Ch.step (v := (.d (.bool false))) rfl (.pure (.assign _ rfl rfl)) rfl rfl ?_
            refine Ch.nil ?_
            refine T_ret ?_
            refine And.intro (.inr rfl) ?_
            exact Exists.intro [(.d (.bool false))] (Exists.intro [] (Exists.intro [] (And.intro (.cons (.tmp 2 rfl) .nil) (And.intro (.cons (.any _) .nil) (And.intro (Exp.of (congrArg D.bool (by first | (rw [nameB, allB_no k (by omega) (by first | (rw [nameCh, letB, digB]; simp only [*, decide_true, decide_false, Bool.and_true, Bool.true_and, Bool.and_false, Bool.false_and, Bool.or_false, Bool.false_or, Bool.or_true, Bool.true_or, Bool.not_true, Bool.not_false, not_false_eq_true]; done) | (rw [nameCh, letB, digB_n]; simp only [*, decide_true, decide_false, Bool.and_true, Bool.true_and, Bool.and_false, Bool.false_and, Bool.or_false, Bool.false_or, Bool.or_true, Bool.true_or, Bool.not_true, Bool.not_false, not_false_eq_true]; done))]; rfl) | (rw [nameB, allB_of (fun j hj => hp0.2 j (by omega)), Bool.true_and]; done))) (.d _)) (And.intro rfl rfl))))))
          | false =>
            replace h5 := of_decide_eq_false h5
            refine Ch.step (v := (.d (.str u))) rfl (.pure (.move _ rfl rfl)) rfl rfl ?_
            refine Ch.step (v := (.d (.int .i64 ((k : Nat) : Int)))) rfl (.pure (.move _ rfl rfl)) rfl rfl ?_
            refine Ch.step (v := (.d (.int .u8 ((u.getD k 0).toNat : Int)))) rfl (.pure (.idxStr _ _ _ (k) rfl Try.underlying9 rfl rfl rfl (get_str (by first | omega | (simp only [List.length_map, List.length_append, List.length_take, List.length_drop, List.length_cons, List.length_nil]; omega) | (simp; omega) | (simp; done))))) rfl rfl ?_
            refine Ch.step (v := (.d (.bool (decide (57 < ((u.getD k 0) : UInt8)))))) rfl (.pure (.int _ _ _ _ _ rfl rfl rfl (u8_gtr ((u.getD k 0) : UInt8) 57 rfl rfl))) rfl rfl ?_
            refine Ch.step (v := (.d (.bool (decide (57 < ((u.getD k 0) : UInt8)))))) rfl (.pure (.pickF _ _ _ rfl rfl rfl)) rfl rfl ?_
            refine Ch.step (v := (.d (.bool (decide (57 < ((u.getD k 0) : UInt8)))))) rfl (.pure (.pickT _ _ _ rfl rfl rfl)) rfl rfl ?_
            refine Ch.nil ?_
            refine T_cond (b := (decide (57 < ((u.getD k 0) : UInt8)))) rfl (fun h6 => ?_) (fun h6 => ?_)
            · replace h6 := of_decide_eq_true h6
              refine T_seq ?_
              refine T_region hc ?_
              refine Ch.step (v := (.d (.bool false))) rfl (.pure (.assign _ rfl rfl)) rfl rfl ?_
              refine Ch.nil ?_
              refine T_ret ?_
              refine And.intro (.inr rfl) ?_
              exact Exists.intro [(.d (.bool false))] (Exists.intro [] (Exists.intro [] (And.intro (.cons (.tmp 2 rfl) .nil) (And.intro (.cons (.any _) .nil) (And.intro (Exp.of (congrArg D.bool (by first | (rw [nameB, allB_no k (by omega) (by first | (rw [nameCh, letB, digB]; simp only [*, decide_true, decide_false, Bool.and_true, Bool.true_and, Bool.and_false, Bool.false_and, Bool.or_false, Bool.false_or, Bool.or_true, Bool.true_or, Bool.not_true, Bool.not_false, not_false_eq_true]; done) | (rw [nameCh, letB, digB_n]; simp only [*, decide_true, decide_false, Bool.and_true, Bool.true_and, Bool.and_false, Bool.false_and, Bool.or_false, Bool.false_or, Bool.or_true, Bool.true_or, Bool.not_true, Bool.not_false, not_false_eq_true]; done))]; rfl) | (rw [nameB, allB_of (fun j hj => hp0.2 j (by omega)), Bool.true_and]; done))) (.d _)) (And.intro rfl rfl))))))
            · replace h6 := of_decide_eq_false h6
              refine T_skip ?_
              refine T_region hc ?_
              refine Ch.step (v := (.d (.int .i64 ((k : Nat) : Int)))) rfl (.pure (.move _ rfl rfl)) rfl rfl ?_
              refine Ch.step (v := (.d (.int .i64 (((k : Nat) : Int) + 1)))) rfl (.pure (.int _ _ _ _ _ rfl rfl rfl (intV_add (by first | omega | (simp only [List.length_map, List.length_append, List.length_take, List.length_drop, List.length_cons, List.length_nil]; omega) | (simp; omega) | (simp; done)) (by first | omega | (simp only [List.length_map, List.length_append, List.length_take, List.length_drop, List.length_cons, List.length_nil]; omega) | (simp; omega) | (simp; done))))) rfl rfl ?_
              refine Ch.step (v := (.d (.int .i64 (((k : Nat) : Int) + 1)))) rfl (.pure (.assign _ rfl rfl)) rfl rfl ?_
              refine Ch.nil ?_
              refine Exists.intro (k + 1) (And.intro ⟨by omega, upto_succ hp0.2 (by first | (rw [nameCh, letB, digB]; simp only [*, decide_true, decide_false, Bool.and_true, Bool.true_and, Bool.and_false, Bool.false_and, Bool.or_false, Bool.false_or, Bool.or_true, Bool.true_or, Bool.not_true, Bool.not_false, not_false_eq_true]; done) | (rw [nameCh, letB, digB_n]; simp only [*, decide_true, decide_false, Bool.and_true, Bool.true_and, Bool.and_false, Bool.false_and, Bool.or_false, Bool.false_or, Bool.or_true, Bool.true_or, Bool.not_true, Bool.not_false, not_false_eq_true]; done))⟩ (And.intro (by first | omega | (dsimp only; omega)) (Wk.of rfl rfl (And.intro rfl (And.intro (vI (by first | rfl | omega | (simp; done) | (simp; omega))) trivial)) trivial)))
    | false =>
      replace h2 := of_decide_eq_false h2
      refine Ch.skip rfl rfl ?_
      refine Ch.skip rfl rfl ?_
      refine Ch.skip rfl rfl ?_
      refine Ch.skip rfl rfl ?_
      refine Ch.step (v := (.d (.bool false))) rfl (.pure (.pickF _ _ _ rfl rfl rfl)) rfl rfl ?_
      refine Ch.step (v := (.d (.bool false))) rfl (.pure (.assign _ rfl rfl)) rfl rfl ?_
      refine Ch.nil ?_
      refine T_seq ?_
      refine T_region hc ?_
      refine Ch.step (v := (.d (.bool false))) rfl (.pure (.move _ rfl rfl)) rfl rfl ?_
      refine Ch.step (v := (.d (.bool true))) rfl (.pure (.not (b := false) _ _ rfl rfl)) rfl rfl ?_
      refine Ch.step (v := (.d (.bool true))) rfl (.pure (.move _ rfl rfl)) rfl rfl ?_
      refine Ch.step (v := (.d (.int .i64 ((k : Nat) : Int)))) rfl (.pure (.move _ rfl rfl)) rfl rfl ?_
      refine Ch.step (v := (.d (.bool (decide (((k : Nat) : Int) = 0))))) rfl (.pure (.int _ _ _ _ _ rfl rfl rfl rfl)) rfl rfl ?_
      refine Ch.step (v := (.d (.bool (decide (((k : Nat) : Int) = 0))))) rfl (.pure (.move _ rfl rfl)) rfl rfl ?_
      cases h7 : (decide (((k : Nat) : Int) = 0)) with
      | true =>
        replace h7 := of_decide_eq_true h7
        refine Ch.skip rfl rfl ?_
        refine Ch.skip rfl rfl ?_
        refine Ch.skip rfl rfl ?_
        refine Ch.skip rfl rfl ?_
        refine Ch.step (v := (.d (.bool true))) rfl (.pure (.pickT _ _ _ rfl rfl rfl)) rfl rfl ?_
        refine Ch.step (v := (.d (.bool true))) rfl (.pure (.move _ rfl rfl)) rfl rfl ?_
        refine Ch.skip rfl rfl ?_
        refine Ch.skip rfl rfl ?_
        refine Ch.skip rfl rfl ?_
        refine Ch.skip rfl rfl ?_
        refine Ch.step (v := (.d (.bool true))) rfl (.pure (.pickT _ _ _ rfl rfl rfl)) rfl rfl ?_
        refine Ch.step (v := (.d (.bool true))) rfl (.pure (.pickT _ _ _ rfl rfl rfl)) rfl rfl ?_
        refine Ch.nil ?_
        refine T_cond (b := true) rfl (fun _ => ?_) (fun h => nomatch h)
        refine T_seq ?_
        refine T_region hc ?_
        refine Ch.step (v := (.d (.bool false))) rfl (.pure (.assign _ rfl rfl)) rfl rfl ?_
        refine Ch.nil ?_
        refine T_ret ?_
        refine And.intro (.inr rfl) ?_
        exact Exists.intro [(.d (.bool false))] (Exists.intro [] (Exists.intro [] (And.intro (.cons (.tmp 2 rfl) .nil) (And.intro (.cons (.any _) .nil) (And.intro (Exp.of (congrArg D.bool (by first | (rw [nameB, allB_no k (by omega) (by first | (rw [nameCh, letB, digB]; simp only [*, decide_true, decide_false, Bool.and_true, Bool.true_and, Bool.and_false, Bool.false_and, Bool.or_false, Bool.false_or, Bool.or_true, Bool.true_or, Bool.not_true, Bool.not_false, not_false_eq_true]; done) | (rw [nameCh, letB, digB_n]; simp only [*, decide_true, decide_false, Bool.and_true, Bool.true_and, Bool.and_false, Bool.false_and, Bool.or_false, Bool.false_or, Bool.or_true, Bool.true_or, Bool.not_true, Bool.not_false, not_false_eq_true]; done))]; rfl) | (rw [nameB, allB_of (fun j hj => hp0.2 j (by omega)), Bool.true_and]; done))) (.d _)) (And.intro rfl rfl))))))
      | false =>
        replace h7 := of_decide_eq_false h7
        refine Ch.step (v := (.d (.str u))) rfl (.pure (.move _ rfl rfl)) rfl rfl ?_
        refine Ch.step (v := (.d (.int .i64 ((k : Nat) : Int)))) rfl (.pure (.move _ rfl rfl)) rfl rfl ?_
        refine Ch.step (v := (.d (.int .u8 ((u.getD k 0).toNat : Int)))) rfl (.pure (.idxStr _ _ _ (k) rfl Try.underlying9 rfl rfl rfl (get_str (by first | omega | (simp only [List.length_map, List.length_append, List.length_take, List.length_drop, List.length_cons, List.length_nil]; omega) | (simp; omega) | (simp; done))))) rfl rfl ?_
        refine Ch.step (v := (.d (.bool (decide (((u.getD k 0) : UInt8) < 48))))) rfl (.pure (.int _ _ _ _ _ rfl rfl rfl (u8_lss ((u.getD k 0) : UInt8) 48 rfl rfl))) rfl rfl ?_
        refine Ch.step (v := (.d (.bool (decide (((u.getD k 0) : UInt8) < 48))))) rfl (.pure (.pickF _ _ _ rfl rfl rfl)) rfl rfl ?_
        refine Ch.step (v := (.d (.bool (decide (((u.getD k 0) : UInt8) < 48))))) rfl (.pure (.move _ rfl rfl)) rfl rfl ?_
        cases h8 : (decide (((u.getD k 0) : UInt8) < 48)) with
        | true =>
          replace h8 := of_decide_eq_true h8
          refine Ch.skip rfl rfl ?_
          refine Ch.skip rfl rfl ?_
          refine Ch.skip rfl rfl ?_
          refine Ch.skip rfl rfl ?_
          refine Ch.step (v := (.d (.bool true))) rfl (.pure (.pickT _ _ _ rfl rfl rfl)) rfl rfl ?_
          refine Ch.step (v := (.d (.bool true))) rfl (.pure (.pickT _ _ _ rfl rfl rfl)) rfl rfl ?_
          refine Ch.nil ?_
          refine T_cond (b := true) rfl (fun _ => ?_) (fun h => nomatch h)
          refine T_seq ?_
          refine T_region hc ?_
          refine Ch.step (v := (.d (.bool false))) rfl (.pure (.assign _ rfl rfl)) rfl rfl ?_
          refine Ch.nil ?_
          refine T_ret ?_
          refine And.intro (.inr rfl) ?_
          exact Exists.intro [(.d (.bool false))] (Exists.intro [] (Exists.intro [] (And.intro (.cons (.tmp 2 rfl) .nil) (And.intro (.cons (.any _) .nil) (And.intro (Exp.of (congrArg D.bool (by first | (rw [nameB, allB_no k (by omega) (by first | (rw [nameCh, letB, digB]; simp only [*, decide_true, decide_false, Bool.and_true, Bool.true_and, Bool.and_false, Bool.false_and, Bool.or_false, Bool.false_or, Bool.or_true, Bool.true_or, Bool.not_true, Bool.not_false, not_false_eq_true]; done) | (rw [nameCh, letB, digB_n]; simp only [*, decide_true, decide_false, Bool.and_true, Bool.true_and, Bool.and_false, Bool.false_and, Bool.or_false, Bool.false_or, Bool.or_true, Bool.true_or, Bool.not_true, Bool.not_false, not_false_eq_true]; done))]; rfl) | (rw [nameB, allB_of (fun j hj => hp0.2 j (by omega)), Bool.true_and]; done))) (.d _)) (And.intro rfl rfl))))))
        | false =>
          replace h8 := of_decide_eq_false h8
          refine Ch.step (v := (.d (.str u))) rfl (.pure (.move _ rfl rfl)) rfl rfl ?_
          refine Ch.step (v := (.d (.int .i64 ((k : Nat) : Int)))) rfl (.pure (.move _ rfl rfl)) rfl rfl ?_
          refine Ch.step (v := (.d (.int .u8 ((u.getD k 0).toNat : Int)))) rfl (.pure (.idxStr _ _ _ (k) rfl Try.underlying9 rfl rfl rfl (get_str (by first | omega | (simp only [List.length_map, List.length_append, List.length_take, List.length_drop, List.length_cons, List.length_nil]; omega) | (simp; omega) | (simp; done))))) rfl rfl ?_
          refine Ch.step (v := (.d (.bool (decide (57 < ((u.getD k 0) : UInt8)))))) rfl (.pure (.int _ _ _ _ _ rfl rfl rfl (u8_gtr ((u.getD k 0) : UInt8) 57 rfl rfl))) rfl rfl ?_
          refine Ch.step (v := (.d (.bool (decide (57 < ((u.getD k 0) : UInt8)))))) rfl (.pure (.pickF _ _ _ rfl rfl rfl)) rfl rfl ?_
          refine Ch.step (v := (.d (.bool (decide (57 < ((u.getD k 0) : UInt8)))))) rfl (.pure (.pickT _ _ _ rfl rfl rfl)) rfl rfl ?_
          refine Ch.nil ?_
          refine T_cond (b := (decide (57 < ((u.getD k 0) : UInt8)))) rfl (fun h9 => ?_) (fun h9 => ?_)
          · replace h9 := of_decide_eq_true h9
            refine T_seq ?_
            refine T_region hc ?_
            refine Ch.step (v := (.d (.bool false))) rfl (.pure (.assign _ rfl rfl)) rfl rfl ?_
            refine Ch.nil ?_
            refine T_ret ?_
            refine And.intro (.inr rfl) ?_
            exact Exists.intro [(.d (.bool false))] (Exists.intro [] (Exists.intro [] (And.intro (.cons (.tmp 2 rfl) .nil) (And.intro (.cons (.any _) .nil) (And.intro (Exp.of (congrArg D.bool (by first | (rw [nameB, allB_no k (by omega) (by first | (rw [nameCh, letB, digB]; simp only [*, decide_true, decide_false, Bool.and_true, Bool.true_and, Bool.and_false, Bool.false_and, Bool.or_false, Bool.false_or, Bool.or_true, Bool.true_or, Bool.not_true, Bool.not_false, not_false_eq_true]; done) | (rw [nameCh, letB, digB_n]; simp only [*, decide_true, decide_false, Bool.and_true, Bool.true_and, Bool.and_false, Bool.false_and, Bool.or_false, Bool.false_or, Bool.or_true, Bool.true_or, Bool.not_true, Bool.not_false, not_false_eq_true]; done))]; rfl) | (rw [nameB, allB_of (fun j hj => hp0.2 j (by omega)), Bool.true_and]; done))) (.d _)) (And.intro rfl rfl))))))
          · replace h9 := of_decide_eq_false h9
            refine T_skip ?_
            refine T_region hc ?_
            refine Ch.step (v := (.d (.int .i64 ((k : Nat) : Int)))) rfl (.pure (.move _ rfl rfl)) rfl rfl ?_
            refine Ch.step (v := (.d (.int .i64 (((k : Nat) : Int) + 1)))) rfl (.pure (.int _ _ _ _ _ rfl rfl rfl (intV_add (by first | omega | (simp only [List.length_map, List.length_append, List.length_take, List.length_drop, List.length_cons, List.length_nil]; omega) | (simp; omega) | (simp; done)) (by first | omega | (simp only [List.length_map, List.length_append, List.length_take, List.length_drop, List.length_cons, List.length_nil]; omega) | (simp; omega) | (simp; done))))) rfl rfl ?_
            refine Ch.step (v := (.d (.int .i64 (((k : Nat) : Int) + 1)))) rfl (.pure (.assign _ rfl rfl)) rfl rfl ?_
            refine Ch.nil ?_
            refine Exists.intro (k + 1) (And.intro ⟨by omega, upto_succ hp0.2 (by first | (rw [nameCh, letB, digB]; simp only [*, decide_true, decide_false, Bool.and_true, Bool.true_and, Bool.and_false, Bool.false_and, Bool.or_false, Bool.false_or, Bool.or_true, Bool.true_or, Bool.not_true, Bool.not_false, not_false_eq_true]; done) | (rw [nameCh, letB, digB_n]; simp only [*, decide_true, decide_false, Bool.and_true, Bool.true_and, Bool.and_false, Bool.false_and, Bool.or_false, Bool.false_or, Bool.or_true, Bool.true_or, Bool.not_true, Bool.not_false, not_false_eq_true]; done))⟩ (And.intro (by first | omega | (dsimp only; omega)) (Wk.of rfl rfl (And.intro rfl (And.intro (vI (by first | rfl | omega | (simp; done) | (simp; omega))) trivial)) trivial)))
  · replace h1 := of_decide_eq_false h1
    refine T_exit ?_
    refine T_seq ?_
    refine T_region hc ?_
    refine Ch.step (v := (.d (.str u))) rfl (.pure (.move _ rfl rfl)) rfl rfl ?_
    refine Ch.step (v := (.d (.int .i64 ((u.length : Nat) : Int)))) rfl (.pure (.lenStr _ _ rfl Try.underlying9 rfl)) rfl rfl ?_
    refine Ch.step (v := (.d (.bool (withinB ((u.length : Nat) : Int) 1 6)))) rfl (.call 41000 118 _ _ _ en118 rfl (.inl rfl) (.cons (.d _) (.cons (.d _) (.cons (.d _) .nil))) rfl rfl (sp_spec_l1In ((u.length : Nat) : Int) 1 6) (.skip _ _ (.skip _ _ (.skip _ _ .nil))) rfl) rfl rfl ?_
    refine Ch.step (v := (.d (.bool (withinB ((u.length : Nat) : Int) 1 6)))) rfl (.pure (.assign _ rfl rfl)) rfl rfl ?_
    refine Ch.nil ?_
    refine T_ret ?_
    refine And.intro (.inr rfl) ?_
    exact Exists.intro [(.d (.bool (withinB ((u.length : Nat) : Int) 1 6)))] (Exists.intro [] (Exists.intro [] (And.intro (.cons (.tmp 2 rfl) .nil) (And.intro (.cons (.any _) .nil) (And.intro (Exp.of (congrArg D.bool (by first | (rw [nameB, allB_no k (by omega) (by first | (rw [nameCh, letB, digB]; simp only [*, decide_true, decide_false, Bool.and_true, Bool.true_and, Bool.and_false, Bool.false_and, Bool.or_false, Bool.false_or, Bool.or_true, Bool.true_or, Bool.not_true, Bool.not_false, not_false_eq_true]; done) | (rw [nameCh, letB, digB_n]; simp only [*, decide_true, decide_false, Bool.and_true, Bool.true_and, Bool.and_false, Bool.false_and, Bool.or_false, Bool.false_or, Bool.or_true, Bool.true_or, Bool.not_true, Bool.not_false, not_false_eq_true]; done))]; rfl) | (rw [nameB, allB_of (fun j hj => hp0.2 j (by omega)), Bool.true_and]; done))) (.d _)) (And.intro rfl rfl))))))

theorem sp_IndexFunc_sgn (xs : List Sgn) (f : FuncId) (caps : List D) (p : Sgn → Bool) (hf : Enters Try.prog f) (hp : ∀ x ∈ xs, Sp Try.prog f (Sgn.d x :: caps) (.any :: anys caps) (.bool (p x))) (hn : xs.length ≤ 1048576) : Sp Try.prog 165 [(.slice false 2 (xs.map Sgn.d)), (.fn f caps)] [.any, .any] (.int .i64 (ixF p xs)) := by
  refine Sp_intro (lend := true) Try.func165 rfl rfl rfl (fun _ => rfl) (fun c hc hX => ?_)
  refine T_seq ?_
  refine T_region hc ?_
  refine Ch.step (v := (.d (.int .i64 0))) rfl (.pure (.assign _ rfl rfl)) rfl rfl ?_
  refine Ch.nil ?_
  refine T_seq ?_
  refine T_seq ?_
  refine T_region hc ?_
  refine Ch.step (v := (.d (.slice false 2 (xs.map Sgn.d)))) rfl (.pure (.move _ rfl rfl)) rfl rfl ?_
  refine Ch.step (v := (.d (.int .i64 ((xs.length : Nat) : Int)))) rfl (.pure (.len _ _ 85 rfl Try.underlying41 (.sh _ _) (by simp))) rfl rfl ?_
  refine Ch.step (v := (.d (.int .i64 0))) rfl (.pure (.move _ rfl rfl)) rfl rfl ?_
  refine Ch.nil ?_
  refine T_block ?_
  refine T_loop (ι := Nat) (fun k => { n := 19, sl := [(0, (.d (.slice false 2 (xs.map Sgn.d)))), (1, (.d (.fn f caps))), (7, (.d (.int .i64 ((xs.length : Nat) : Int)))), (8, (.d (.int .i64 ((k : Nat) : Int))))], hp := [], pin := [] }) (fun k => k ≤ xs.length ∧ ∀ j, j < k → p (xs.getD j default) = false) (fun k => xs.length - k) ⟨0, ⟨by omega, fun j hj => by omega⟩, (Wk.of rfl rfl (And.intro rfl (And.intro rfl (And.intro rfl (And.intro (vI (by first | rfl | omega | (simp; done) | (simp; omega))) trivial)))) trivial)⟩ (fun k hp0 => ?_)
  refine T_seq ?_
  refine T_region hc ?_
  refine Ch.step (v := (.d (.bool (decide (((k : Nat) : Int) < ((xs.length : Nat) : Int)))))) rfl (.pure (.int _ _ _ _ _ rfl rfl rfl rfl)) rfl rfl ?_
  refine Ch.nil ?_
  refine T_seq ?_
  refine T_cond (b := (decide (((k : Nat) : Int) < ((xs.length : Nat) : Int)))) rfl (fun h1 => ?_) (fun h1 => ?_)
  · replace h1 := of_decide_eq_true h1
    refine T_skip ?_
    refine T_seq ?_
    refine T_block ?_
    refine T_seq ?_
    refine T_region hc ?_
    refine Ch.step (v := (.d (.int .i64 ((k : Nat) : Int)))) rfl (.pure (.move _ rfl rfl)) rfl rfl ?_
    refine Ch.step (v := (.d (.int .i64 ((k : Nat) : Int)))) rfl (.pure (.assign _ rfl rfl)) rfl rfl ?_
    refine Ch.nil ?_
    refine T_seq ?_
    refine T_region hc ?_
    refine Ch.step (v := (.d (.fn f caps))) rfl (.pure (.move _ rfl rfl)) rfl rfl ?_
    refine Ch.step (v := (.d (.slice false 2 (xs.map Sgn.d)))) rfl (.pure (.move _ rfl rfl)) rfl rfl ?_
    refine Ch.step (v := (.d (.int .i64 ((k : Nat) : Int)))) rfl (.pure (.move _ rfl rfl)) rfl rfl ?_
    refine Ch.step (v := (.d (.ref (.agg [(.str ((xs.getD k default).name)), (.int .i64 ((xs.getD k default).kind))])))) rfl (.pure (.idx _ _ _ 85 (k) rfl Try.underlying41 sz85 rfl rfl rfl (get_map _ (by first | omega | (simp only [List.length_map, List.length_append, List.length_take, List.length_drop, List.length_cons, List.length_nil]; omega) | (simp; omega) | (simp; done))))) rfl rfl ?_
    refine Ch.step (v := (.d (.agg [(.str ((xs.getD k default).name)), (.int .i64 ((xs.getD k default).kind))]))) rfl (.pure (.loadRefA _ _ rfl ag85 sz85 rfl)) rfl rfl ?_
    refine Ch.step (v := (.d (.bool (p (xs.getD k default))))) rfl (.callS 16000 f _ #[.tmp 15] _ hf rfl (.inr ⟨caps, rfl, rfl⟩) (.cons (.d _) (exps_ds caps)) rfl (hp _ (getD_mem (by omega))) (.skip _ _ (back_anys caps)) rfl) rfl rfl ?_
    refine Ch.nil ?_
    refine T_cond (b := (p (xs.getD k default))) rfl (fun h2 => ?_) (fun h2 => ?_)
    · refine T_seq ?_
      refine T_region hc ?_
      refine Ch.step (v := (.d (.int .i64 ((k : Nat) : Int)))) rfl (.pure (.move _ rfl rfl)) rfl rfl ?_
      refine Ch.step (v := (.d (.int .i64 ((k : Nat) : Int)))) rfl (.pure (.assign _ rfl rfl)) rfl rfl ?_
      refine Ch.nil ?_
      refine T_ret ?_
      refine And.intro (.inr rfl) ?_
      exact Exists.intro [(.d (.int .i64 ((k : Nat) : Int)))] (Exists.intro [] (Exists.intro [] (And.intro (.cons (.tmp 4 rfl) .nil) (And.intro (.cons (.any _) (.cons (.any _) .nil)) (And.intro (Exp.of (congrArg (D.int .i64) (by exact (ixF_some (d := default) (by omega) hp0.2 (by assumption)).symm)) (.d _)) (And.intro rfl rfl))))))
    · refine T_skip ?_
      refine T_region hc ?_
      refine Ch.step (v := (.d (.int .i64 (((k : Nat) : Int) + 1)))) rfl (.pure (.int _ _ _ _ _ rfl rfl rfl (intV_add (by first | omega | (simp only [List.length_map, List.length_append, List.length_take, List.length_drop, List.length_cons, List.length_nil]; omega) | (simp; omega) | (simp; done)) (by first | omega | (simp only [List.length_map, List.length_append, List.length_take, List.length_drop, List.length_cons, List.length_nil]; omega) | (simp; omega) | (simp; done))))) rfl rfl ?_
      refine Ch.step (v := (.d (.int .i64 (((k : Nat) : Int) + 1)))) rfl (.pure (.move _ rfl rfl)) rfl rfl ?_
      refine Ch.nil ?_
      refine Exists.intro (k + 1) (And.intro ⟨by omega, upto_succ hp0.2 (by assumption)⟩ (And.intro (by first | omega | (dsimp only; omega)) (Wk.of rfl rfl (And.intro rfl (And.intro rfl (And.intro rfl (And.intro (vI (by first | rfl | omega | (simp; done) | (simp; omega))) trivial)))) trivial)))
  · replace h1 := of_decide_eq_false h1
    refine T_exit ?_
    refine T_seq ?_
    refine T_region hc ?_
    refine Ch.step (v := (.d (.int .i64 (-1)))) rfl (.pure (.assign _ rfl rfl)) rfl rfl ?_
    refine Ch.nil ?_
    refine T_ret ?_
    refine And.intro (.inr rfl) ?_
    exact Exists.intro [(.d (.int .i64 (-1)))] (Exists.intro [] (Exists.intro [] (And.intro (.cons (.tmp 4 rfl) .nil) (And.intro (.cons (.any _) (.cons (.any _) .nil)) (And.intro (Exp.of (congrArg (D.int .i64) (by exact (ixF_none (d := default) (fun j hj => hp0.2 j (by omega))).symm)) (.d _)) (And.intro rfl rfl))))))

theorem sp_ContainsFunc_sgn (xs : List Sgn) (f : FuncId) (caps : List D) (p : Sgn → Bool) (hf : Enters Try.prog f) (hp : ∀ x ∈ xs, Sp Try.prog f (Sgn.d x :: caps) (.any :: anys caps) (.bool (p x))) (hn : xs.length ≤ 1048576) : Sp Try.prog 137 [(.slice false 2 (xs.map Sgn.d)), (.fn f caps)] [.any, .any] (.bool (xs.any p)) := by
  refine Sp_intro (lend := true) Try.func137 rfl rfl rfl (fun _ => rfl) (fun c hc hX => ?_)
  refine T_seq ?_
  refine T_region hc ?_
  refine Ch.step (v := (.d (.bool false))) rfl (.pure (.assign _ rfl rfl)) rfl rfl ?_
  refine Ch.nil ?_
  refine T_seq ?_
  refine T_region hc ?_
  refine Ch.step (v := (.d (.slice false 2 (xs.map Sgn.d)))) rfl (.pure (.move _ rfl rfl)) rfl rfl ?_
  refine Ch.step (v := (.d (.fn f caps))) rfl (.pure (.move _ rfl rfl)) rfl rfl ?_
  refine Ch.step (v := (.d (.int .i64 (ixF p xs)))) rfl (.call 7000 165 _ _ _ en165 rfl (.inl rfl) (.cons (.d _) (.cons (.d _) .nil)) rfl rfl (sp_IndexFunc_sgn xs f caps p hf hp (by first | omega | assumption | (exact hx _ (getD_mem (by omega))) | (exact hx _ (by assumption)) | (exact Nat.le_trans (hx _ (by assumption)) (by omega)) | (simp only [List.length_append, List.length_take, List.length_drop, List.length_cons, List.length_nil]; omega) | (simp_all; done))) (.skip _ _ (.skip _ _ .nil)) rfl) rfl rfl ?_
  refine Ch.step (v := (.d (.bool (decide (0 ≤ (ixF p xs)))))) rfl (.pure (.int _ _ _ _ _ rfl rfl rfl rfl)) rfl rfl ?_
  refine Ch.step (v := (.d (.bool (decide (0 ≤ (ixF p xs)))))) rfl (.pure (.assign _ rfl rfl)) rfl rfl ?_
  refine Ch.nil ?_
  refine T_ret ?_
  refine And.intro (.inr rfl) ?_
  exact Exists.intro [(.d (.bool (decide (0 ≤ (ixF p xs)))))] (Exists.intro [] (Exists.intro [] (And.intro (.cons (.tmp 4 rfl) .nil) (And.intro (.cons (.any _) (.cons (.any _) .nil)) (And.intro (Exp.of (congrArg D.bool (by exact ixF_nonneg p xs)) (.d _)) (And.intro rfl rfl))))))

theorem sp_impl_areSignals_1 (y x : Sgn) : Sp Try.prog 138 [(.agg [(.str y.name), (.int .i64 y.kind)]), (.ref (.agg [(.str x.name), (.int .i64 x.kind)]))] [.any, .any] (.bool (decide (y.name = x.name))) := by
  refine Sp_intro (lend := true) Try.func138 rfl rfl rfl (fun _ => rfl) (fun c hc hX => ?_)
  refine T_seq ?_
  refine T_region hc ?_
  refine Ch.step (v := (.ptr 2000 0)) rfl (.box 2000 _ _ rfl (.aggD _)) rfl rfl ?_
  refine Ch.step (v := (.d (.bool false))) rfl (.pure (.assign _ rfl rfl)) rfl rfl ?_
  refine Ch.nil ?_
  refine T_seq ?_
  refine T_region hc ?_
  refine Ch.step (v := (.ptr 2000 0)) rfl (.pure (.fldPtr _ _ _ rfl fld85_0 rfl)) rfl rfl ?_
  refine Ch.step (v := (.d (.str y.name))) rfl (.pure (.loadPtr1 _ _ rfl ag9 rfl rfl rfl)) rfl rfl ?_
  refine Ch.step (v := (.d (.ref (.str x.name)))) rfl (.pure (.fldRef _ _ _ rfl fld85_0 rfl rfl rfl)) rfl rfl ?_
  refine Ch.step (v := (.d (.str x.name))) rfl (.pure (.loadRef1 _ _ rfl ag9 rfl rfl)) rfl rfl ?_
  refine Ch.step (v := (.d (.bool (decide (y.name = x.name))))) rfl (.pure (.str _ _ _ _ _ rfl rfl rfl rfl)) rfl rfl ?_
  refine Ch.step (v := (.d (.bool (decide (y.name = x.name))))) rfl (.pure (.assign _ rfl rfl)) rfl rfl ?_
  refine Ch.nil ?_
  refine T_ret ?_
  refine And.intro (.inr rfl) ?_
  exact Exists.intro [(.d (.bool (decide (y.name = x.name))))] (Exists.intro [] (Exists.intro [] (And.intro (.cons (.tmp 3 rfl) .nil) (And.intro (.cons (.any _) (.cons (.any _) .nil)) (And.intro (.d _) (And.intro rfl rfl))))))

theorem sp_impl_areSignals (xs : List Sgn) (hb : bulkF Sgn.bulk xs ≤ 1048576) : Sp Try.prog 87 [(.slice false 2 (xs.map Sgn.d))] [.any] (.bool (sigsB xs)) := by
  refine Sp_intro (lend := true) Try.func87 rfl rfl rfl (fun _ => rfl) (fun c hc hX => ?_)
  have hn := bulkF_len hb
  refine T_seq ?_
  refine T_region hc ?_
  refine Ch.step (v := (.d (.bool false))) rfl (.pure (.assign _ rfl rfl)) rfl rfl ?_
  refine Ch.nil ?_
  refine T_seq ?_
  refine T_seq ?_
  refine T_region hc ?_
  refine Ch.step (v := (.d (.slice false 2 (xs.map Sgn.d)))) rfl (.pure (.move _ rfl rfl)) rfl rfl ?_
  refine Ch.step (v := (.d (.int .i64 ((xs.length : Nat) : Int)))) rfl (.pure (.len _ _ 85 rfl Try.underlying41 (.sh _ _) (by simp))) rfl rfl ?_
  refine Ch.step (v := (.d (.int .i64 0))) rfl (.pure (.move _ rfl rfl)) rfl rfl ?_
  refine Ch.nil ?_
  refine T_block ?_
  refine T_loop (ι := Nat) (fun k => { n := 33, sl := [(0, (.d (.slice false 2 (xs.map Sgn.d)))), (5, (.d (.slice false 2 (xs.map Sgn.d)))), (6, (.d (.int .i64 ((xs.length : Nat) : Int)))), (7, (.d (.int .i64 ((k : Nat) : Int))))], hp := [], pin := [] }) (fun k => k ≤ xs.length ∧ ∀ j, j < k → sigOk xs j = true) (fun k => xs.length - k) ⟨0, ⟨by omega, fun j hj => by omega⟩, (Wk.of rfl rfl (And.intro rfl (And.intro rfl (And.intro rfl (And.intro (vI (by first | rfl | omega | (simp; done) | (simp; omega))) trivial)))) trivial)⟩ (fun k hp0 => ?_)
  refine T_seq ?_
  refine T_region hc ?_
  refine Ch.step (v := (.d (.bool (decide (((k : Nat) : Int) < ((xs.length : Nat) : Int)))))) rfl (.pure (.int _ _ _ _ _ rfl rfl rfl rfl)) rfl rfl ?_
  refine Ch.nil ?_
  refine T_seq ?_
  refine T_cond (b := (decide (((k : Nat) : Int) < ((xs.length : Nat) : Int)))) rfl (fun h1 => ?_) (fun h1 => ?_)
  · replace h1 := of_decide_eq_true h1
    try have hk : (xs.getD k default).name.length ≤ 1048576 := bulkF_mem hb _ (getD_mem (l := xs) (j := k) (d := default) (by omega))
    refine T_skip ?_
    refine T_seq ?_
    refine T_block ?_
    refine T_seq ?_
    refine T_region hc ?_
    refine Ch.step (v := (.d (.int .i64 ((k : Nat) : Int)))) rfl (.pure (.move _ rfl rfl)) rfl rfl ?_
    refine Ch.step (v := (.d (.ref (.agg [(.str ((xs.getD k default).name)), (.int .i64 ((xs.getD k default).kind))])))) rfl (.pure (.idx _ _ _ 85 (k) rfl Try.underlying41 sz85 rfl rfl rfl (get_map _ (by first | omega | (simp only [List.length_map, List.length_append, List.length_take, List.length_drop, List.length_cons, List.length_nil]; omega) | (simp; omega) | (simp; done))))) rfl rfl ?_
    refine Ch.step (v := (.d (.agg [(.str ((xs.getD k default).name)), (.int .i64 ((xs.getD k default).kind))]))) rfl (.pure (.loadRefA _ _ rfl ag85 sz85 rfl)) rfl rfl ?_
    refine Ch.step (v := (.ptr 4000 0)) rfl (.alloc 4000 _ rfl zer85) rfl rfl ?_
    refine Ch.step (v := (.d (.int .i64 ((k : Nat) : Int)))) rfl (.pure (.assign _ rfl rfl)) rfl rfl ?_
    refine Ch.step (v := .junk) rfl (.storePtr _ _ _ rfl rfl rfl (.aggD _) sz85 (Nat.le_of_ble_eq_true rfl)) rfl rfl ?_
    refine Ch.nil ?_
    refine T_seq ?_
    refine T_region hc ?_
    refine Ch.step (v := (.ptr 4000 0)) rfl (.pure (.fldPtr _ _ _ rfl fld85_0 rfl)) rfl rfl ?_
    refine Ch.step (v := (.d (.str ((xs.getD k default).name)))) rfl (.pure (.loadPtr1 _ _ rfl ag9 rfl rfl rfl)) rfl rfl ?_
    refine Ch.step (v := (.d (.bool (nameB ((xs.getD k default).name))))) rfl (.call 14000 109 _ _ _ en109 rfl (.inl rfl) (.cons (.d _) .nil) rfl rfl (sp_impl_isName ((xs.getD k default).name) (by first | omega | assumption | (exact hx _ (getD_mem (by omega))) | (exact hx _ (by assumption)) | (exact Nat.le_trans (hx _ (by assumption)) (by omega)) | (simp only [List.length_append, List.length_take, List.length_drop, List.length_cons, List.length_nil]; omega) | (simp_all; done))) (.skip _ _ .nil) rfl) rfl rfl ?_
    refine Ch.step (v := (.d (.bool (!(nameB ((xs.getD k default).name)))))) rfl (.pure (.not _ _ rfl rfl)) rfl rfl ?_
    refine Ch.step (v := (.d (.bool (!(nameB ((xs.getD k default).name)))))) rfl (.pure (.move _ rfl rfl)) rfl rfl ?_
    cases h2 : (nameB ((xs.getD k default).name)) with
    | true =>
      refine Ch.step (v := (.ptr 4000 1)) rfl (.pure (.fldPtr _ _ _ rfl fld85_1 rfl)) rfl rfl ?_
      refine Ch.step (v := (.d (.int .i64 ((xs.getD k default).kind)))) rfl (.pure (.loadPtr1 _ _ rfl ag3 rfl rfl rfl)) rfl rfl ?_
      refine Ch.step (v := (.d (.bool (withinB ((xs.getD k default).kind) 1 3)))) rfl (.call 19000 98 _ _ _ en98 rfl (.inl rfl) (.cons (.d _) (.cons (.d _) (.cons (.d _) .nil))) rfl rfl (sp_impl_within ((xs.getD k default).kind) 1 3) (.skip _ _ (.skip _ _ (.skip _ _ .nil))) rfl) rfl rfl ?_
      refine Ch.step (v := (.d (.bool (!(withinB ((xs.getD k default).kind) 1 3))))) rfl (.pure (.not _ _ rfl rfl)) rfl rfl ?_
      refine Ch.step (v := (.d (.bool (!(withinB ((xs.getD k default).kind) 1 3))))) rfl (.pure (.pickF _ _ _ rfl rfl rfl)) rfl rfl ?_
      refine Ch.step (v := (.d (.bool (!(withinB ((xs.getD k default).kind) 1 3))))) rfl (.pure (.move _ rfl rfl)) rfl rfl ?_
      cases h3 : (withinB ((xs.getD k default).kind) 1 3) with
      | true =>
        refine Ch.step (v := (.d (.slice false 2 (xs.map Sgn.d)))) rfl (.pure (.move _ rfl rfl)) rfl rfl ?_
        refine Ch.step (v := (.d (.int .i64 ((k : Nat) : Int)))) rfl (.pure (.move _ rfl rfl)) rfl rfl ?_
        refine Ch.step (v := (.d (.slice false 2 ((xs.take k).map Sgn.d)))) rfl (.pure (.sliceSh _ _ _ _ 85 (0) (k) rfl Try.underlying41 sz85 rfl (bndN rfl) (bndS rfl rfl) (by simp <;> omega) (by simp <;> omega) (by simp [List.map_take, List.map_drop]))) rfl rfl ?_
        refine Ch.step (v := (.fn 138 [(.ptr 4000 0)])) rfl (.pure (.func _ _ rfl rfl)) rfl rfl ?_
        refine Ch.step (v := (.d (.bool ((xs.take k).any (fun y => decide (y.name = (xs.getD k default).name)))))) rfl (.call 27000 137 _ _ _ en137 rfl (.inl rfl) (.cons (.d _) (.cons (.lend (.fn (.cons (.ptr rfl (.agg (.cons (.d _) (.cons (.d _) .nil)) rfl)) .nil))) .nil)) rfl rfl (sp_ContainsFunc_sgn (xs.take k) 138 [(.ref (.agg [(.str ((xs.getD k default).name)), (.int .i64 ((xs.getD k default).kind))]))] (fun y => decide (y.name = (xs.getD k default).name)) en138 (fun y _ => sp_impl_areSignals_1 y (xs.getD k default)) (by first | omega | assumption | (exact hx _ (getD_mem (by omega))) | (exact hx _ (by assumption)) | (exact Nat.le_trans (hx _ (by assumption)) (by omega)) | (simp only [List.length_append, List.length_take, List.length_drop, List.length_cons, List.length_nil]; omega) | (simp_all; done))) (.skip _ _ (.skip _ _ .nil)) rfl) rfl rfl ?_
        refine Ch.step (v := (.d (.bool ((xs.take k).any (fun y => decide (y.name = (xs.getD k default).name)))))) rfl (.pure (.pickF _ _ _ rfl rfl rfl)) rfl rfl ?_
        refine Ch.nil ?_
        refine T_cond (b := ((xs.take k).any (fun y => decide (y.name = (xs.getD k default).name)))) rfl (fun h4 => ?_) (fun h4 => ?_)
        · refine T_seq ?_
          refine T_region hc ?_
          refine Ch.step (v := (.d (.bool false))) rfl (.pure (.assign _ rfl rfl)) rfl rfl ?_
          refine Ch.nil ?_
          refine T_ret ?_
          refine And.intro (.inr rfl) ?_
          exact Exists.intro [(.d (.bool false))] (Exists.intro [] (Exists.intro [] (And.intro (.cons (.tmp 2 rfl) .nil) (And.intro (.cons (.any _) .nil) (And.intro (Exp.of (congrArg D.bool (by first | (rw [sigsB, allB_no k (by omega) (by first | (simp_all [sigOk]; done) | (simp_all [sigOk]; omega))] <;> rfl) | (rw [sigsB, allB_of (fun j hj => hp0.2 j (by omega)), Bool.true_and]; done))) (.d _)) (And.intro rfl rfl))))))
        · refine T_skip ?_
          refine T_region hc ?_
          refine Ch.step (v := (.d (.int .i64 (((k : Nat) : Int) + 1)))) rfl (.pure (.int _ _ _ _ _ rfl rfl rfl (intV_add (by first | omega | (simp only [List.length_map, List.length_append, List.length_take, List.length_drop, List.length_cons, List.length_nil]; omega) | (simp; omega) | (simp; done)) (by first | omega | (simp only [List.length_map, List.length_append, List.length_take, List.length_drop, List.length_cons, List.length_nil]; omega) | (simp; omega) | (simp; done))))) rfl rfl ?_
          refine Ch.step (v := (.d (.int .i64 (((k : Nat) : Int) + 1)))) rfl (.pure (.move _ rfl rfl)) rfl rfl ?_
          refine Ch.nil ?_
          refine Exists.intro (k + 1) (And.intro ⟨by omega, upto_succ hp0.2 (by first | (rw [sigOk, h2, h3, any_take (by omega) (by omega) hp1.2]; rfl) | (simp_all [sigOk]; done) | (simp_all [sigOk]; omega))⟩ (And.intro (by first | omega | (dsimp only; omega)) (Wk.of rfl rfl (And.intro rfl (And.intro rfl (And.intro rfl (And.intro (vI (by first | rfl | omega | (simp; done) | (simp; omega))) trivial)))) trivial)))
      | false =>
        refine Ch.skip rfl rfl ?_
        refine Ch.skip rfl rfl ?_
        refine Ch.skip rfl rfl ?_
        refine Ch.skip rfl rfl ?_
        refine Ch.skip rfl rfl ?_
        refine Ch.step (v := (.d (.bool true))) rfl (.pure (.pickT _ _ _ rfl rfl rfl)) rfl rfl ?_
        refine Ch.nil ?_
        refine T_cond (b := true) rfl (fun _ => ?_) (fun h => nomatch h)
        refine T_seq ?_
        refine T_region hc ?_
        refine Ch.step (v := (.d (.bool false))) rfl (.pure (.assign _ rfl rfl)) rfl rfl ?_
        refine Ch.nil ?_
        refine T_ret ?_
        refine And.intro (.inr rfl) ?_
        exact Exists.intro [(.d (.bool false))] (Exists.intro [] (Exists.intro [] (And.intro (.cons (.tmp 2 rfl) .nil) (And.intro (.cons (.any _) .nil) (And.intro (Exp.of (congrArg D.bool (by first | (rw [sigsB, allB_no k (by omega) (by first | (simp_all [sigOk]; done) | (simp_all [sigOk]; omega))] <;> rfl) | (rw [sigsB, allB_of (fun j hj => hp0.2 j (by omega)), Bool.true_and]; done))) (.d _)) (And.intro rfl rfl))))))
    | false =>
      refine Ch.skip rfl rfl ?_
      refine Ch.skip rfl rfl ?_
      refine Ch.skip rfl rfl ?_
      refine Ch.skip rfl rfl ?_
      refine Ch.step (v := (.d (.bool true))) rfl (.pure (.pickT _ _ _ rfl rfl rfl)) rfl rfl ?_
      refine Ch.step (v := (.d (.bool true))) rfl (.pure (.move _ rfl rfl)) rfl rfl ?_
      refine Ch.skip rfl rfl ?_
      refine Ch.skip rfl rfl ?_
      refine Ch.skip rfl rfl ?_
      refine Ch.skip rfl rfl ?_
      refine Ch.skip rfl rfl ?_
      refine Ch.step (v := (.d (.bool true))) rfl (.pure (.pickT _ _ _ rfl rfl rfl)) rfl rfl ?_
      refine Ch.nil ?_
      refine T_cond (b := true) rfl (fun _ => ?_) (fun h => nomatch h)
      refine T_seq ?_
      refine T_region hc ?_
      refine Ch.step (v := (.d (.bool false))) rfl (.pure (.assign _ rfl rfl)) rfl rfl ?_
      refine Ch.nil ?_
      refine T_ret ?_
      refine And.intro (.inr rfl) ?_
      exact Exists.intro [(.d (.bool false))] (Exists.intro [] (Exists.intro [] (And.intro (.cons (.tmp 2 rfl) .nil) (And.intro (.cons (.any _) .nil) (And.intro (Exp.of (congrArg D.bool (by first | (rw [sigsB, allB_no k (by omega) (by first | (simp_all [sigOk]; done) | (simp_all [sigOk]; omega))] <;> rfl) | (rw [sigsB, allB_of (fun j hj => hp0.2 j (by omega)), Bool.true_and]; done))) (.d _)) (And.intro rfl rfl))))))
  · replace h1 := of_decide_eq_false h1
    try have hk : (xs.getD k default).name.length ≤ 1048576 := bulkF_mem hb _ (getD_mem (l := xs) (j := k) (d := default) (by omega))
    refine T_exit ?_
    refine T_seq ?_
    refine T_region hc ?_
    refine Ch.step (v := (.d (.slice false 2 (xs.map Sgn.d)))) rfl (.pure (.move _ rfl rfl)) rfl rfl ?_
    refine Ch.step (v := (.d (.int .i64 ((xs.length : Nat) : Int)))) rfl (.pure (.len _ _ 85 rfl Try.underlying41 (.sh _ _) (by simp))) rfl rfl ?_
    refine Ch.step (v := (.d (.bool (withinB ((xs.length : Nat) : Int) 1 8)))) rfl (.call 32000 98 _ _ _ en98 rfl (.inl rfl) (.cons (.d _) (.cons (.d _) (.cons (.d _) .nil))) rfl rfl (sp_impl_within ((xs.length : Nat) : Int) 1 8) (.skip _ _ (.skip _ _ (.skip _ _ .nil))) rfl) rfl rfl ?_
    refine Ch.step (v := (.d (.bool (withinB ((xs.length : Nat) : Int) 1 8)))) rfl (.pure (.assign _ rfl rfl)) rfl rfl ?_
    refine Ch.nil ?_
    refine T_ret ?_
    refine And.intro (.inr rfl) ?_
    exact Exists.intro [(.d (.bool (withinB ((xs.length : Nat) : Int) 1 8)))] (Exists.intro [] (Exists.intro [] (And.intro (.cons (.tmp 2 rfl) .nil) (And.intro (.cons (.any _) .nil) (And.intro (Exp.of (congrArg D.bool (by first | (rw [sigsB, allB_no k (by omega) (by first | (simp_all [sigOk]; done) | (simp_all [sigOk]; omega))] <;> rfl) | (rw [sigsB, allB_of (fun j hj => hp0.2 j (by omega)), Bool.true_and]; done))) (.d _)) (And.intro rfl rfl))))))

theorem any_take {xs : List Sgn} {k m : Nat} (hk : k ≤ xs.length) (hm : (xs.take k).length ≤ m) (h : ∀ j, j < m → decide (((xs.take k).getD j default).name = (xs.getD k default).name) = false) : ((xs.take k).any fun y => decide (y.name = (xs.getD k default).name)) = false :=
  (any_no default fun j hj => h j (by omega)).symm

theorem sp_spec_l2Signals (xs : List Sgn) (hb : bulkF Sgn.bulk xs ≤ 1048576) : Sp Try.prog 84 [(.slice false 2 (xs.map Sgn.d))] [.any] (.bool (sigsB xs)) := by
  refine Sp_intro (lend := true) Try.func84 rfl rfl rfl (fun _ => rfl) (fun c hc hX => ?_)
  have hn := bulkF_len hb
  refine T_seq ?_
  refine T_region hc ?_
  refine Ch.step (v := (.d (.bool false))) rfl (.pure (.assign _ rfl rfl)) rfl rfl ?_
  refine Ch.nil ?_
  refine T_seq ?_
  refine T_seq ?_
  refine T_region hc ?_
  refine Ch.step (v := (.d (.slice false 2 (xs.map Sgn.d)))) rfl (.pure (.move _ rfl rfl)) rfl rfl ?_
  refine Ch.step (v := (.d (.int .i64 ((xs.length : Nat) : Int)))) rfl (.pure (.len _ _ 85 rfl Try.underlying41 (.sh _ _) (by simp))) rfl rfl ?_
  refine Ch.step (v := (.d (.int .i64 0))) rfl (.pure (.move _ rfl rfl)) rfl rfl ?_
  refine Ch.nil ?_
  refine T_block ?_
  refine T_loop (ι := Nat) (fun k => { n := 42, sl := [(0, (.d (.slice false 2 (xs.map Sgn.d)))), (7, (.d (.slice false 2 (xs.map Sgn.d)))), (8, (.d (.int .i64 ((xs.length : Nat) : Int)))), (9, (.d (.int .i64 ((k : Nat) : Int))))], hp := [], pin := [] }) (fun k => k ≤ xs.length ∧ ∀ j, j < k → sigOk xs j = true) (fun k => xs.length - k) ⟨0, ⟨by omega, fun j hj => by omega⟩, (Wk.of rfl rfl (And.intro rfl (And.intro rfl (And.intro rfl (And.intro (vI (by first | rfl | omega | (simp; done) | (simp; omega))) trivial)))) trivial)⟩ (fun k hp0 => ?_)
  refine T_seq ?_
  refine T_region hc ?_
  refine Ch.step (v := (.d (.bool (decide (((k : Nat) : Int) < ((xs.length : Nat) : Int)))))) rfl (.pure (.int _ _ _ _ _ rfl rfl rfl rfl)) rfl rfl ?_
  refine Ch.nil ?_
  refine T_seq ?_
  refine T_cond (b := (decide (((k : Nat) : Int) < ((xs.length : Nat) : Int)))) rfl (fun h1 => ?_) (fun h1 => ?_)
  · replace h1 := of_decide_eq_true h1
    try have hk : (xs.getD k default).name.length ≤ 1048576 := bulkF_mem hb _ (getD_mem (l := xs) (j := k) (d := default) (by omega))
    refine T_skip ?_
    refine T_seq ?_
    refine T_block ?_
    refine T_seq ?_
    refine T_region hc ?_
    refine Ch.step (v := (.d (.int .i64 ((k : Nat) : Int)))) rfl (.pure (.move _ rfl rfl)) rfl rfl ?_
    refine Ch.step (v := (.d (.ref (.agg [(.str ((xs.getD k default).name)), (.int .i64 ((xs.getD k default).kind))])))) rfl (.pure (.idx _ _ _ 85 (k) rfl Try.underlying41 sz85 rfl rfl rfl (get_map _ (by first | omega | (simp only [List.length_map, List.length_append, List.length_take, List.length_drop, List.length_cons, List.length_nil]; omega) | (simp; omega) | (simp; done))))) rfl rfl ?_
    refine Ch.step (v := (.d (.agg [(.str ((xs.getD k default).name)), (.int .i64 ((xs.getD k default).kind))]))) rfl (.pure (.loadRefA _ _ rfl ag85 sz85 rfl)) rfl rfl ?_
    refine Ch.step (v := (.ptr 4000 0)) rfl (.alloc 4000 _ rfl zer85) rfl rfl ?_
    refine Ch.step (v := (.d (.int .i64 ((k : Nat) : Int)))) rfl (.pure (.assign _ rfl rfl)) rfl rfl ?_
    refine Ch.step (v := .junk) rfl (.storePtr _ _ _ rfl rfl rfl (.aggD _) sz85 (Nat.le_of_ble_eq_true rfl)) rfl rfl ?_
    refine Ch.nil ?_
    refine T_seq ?_
    refine T_seq ?_
    refine T_region hc ?_
    refine Ch.step (v := (.ptr 4000 0)) rfl (.pure (.fldPtr _ _ _ rfl fld85_0 rfl)) rfl rfl ?_
    refine Ch.step (v := (.d (.str ((xs.getD k default).name)))) rfl (.pure (.loadPtr1 _ _ rfl ag9 rfl rfl rfl)) rfl rfl ?_
    refine Ch.step (v := (.d (.bool (nameB ((xs.getD k default).name))))) rfl (.call 16000 135 _ _ _ en135 rfl (.inl rfl) (.cons (.d _) .nil) rfl rfl (sp_spec_l2Name ((xs.getD k default).name) (by first | omega | assumption | (exact hx _ (getD_mem (by omega))) | (exact hx _ (by assumption)) | (exact Nat.le_trans (hx _ (by assumption)) (by omega)) | (simp only [List.length_append, List.length_take, List.length_drop, List.length_cons, List.length_nil]; omega) | (simp_all; done))) (.skip _ _ .nil) rfl) rfl rfl ?_
    refine Ch.step (v := (.d (.bool (!(nameB ((xs.getD k default).name)))))) rfl (.pure (.not _ _ rfl rfl)) rfl rfl ?_
    refine Ch.step (v := (.d (.bool (!(nameB ((xs.getD k default).name)))))) rfl (.pure (.move _ rfl rfl)) rfl rfl ?_
    cases h2 : (nameB ((xs.getD k default).name)) with
    | true =>
      refine Ch.step (v := (.ptr 4000 1)) rfl (.pure (.fldPtr _ _ _ rfl fld85_1 rfl)) rfl rfl ?_
      refine Ch.step (v := (.d (.int .i64 ((xs.getD k default).kind)))) rfl (.pure (.loadPtr1 _ _ rfl ag3 rfl rfl rfl)) rfl rfl ?_
      refine Ch.step (v := (.d (.bool (withinB ((xs.getD k default).kind) 1 3)))) rfl (.call 21000 118 _ _ _ en118 rfl (.inl rfl) (.cons (.d _) (.cons (.d _) (.cons (.d _) .nil))) rfl rfl (sp_spec_l1In ((xs.getD k default).kind) 1 3) (.skip _ _ (.skip _ _ (.skip _ _ .nil))) rfl) rfl rfl ?_
      refine Ch.step (v := (.d (.bool (!(withinB ((xs.getD k default).kind) 1 3))))) rfl (.pure (.not _ _ rfl rfl)) rfl rfl ?_
      refine Ch.step (v := (.d (.bool (!(withinB ((xs.getD k default).kind) 1 3))))) rfl (.pure (.pickF _ _ _ rfl rfl rfl)) rfl rfl ?_
      refine Ch.nil ?_
      refine T_cond (b := (!(withinB ((xs.getD k default).kind) 1 3))) rfl (fun h3 => ?_) (fun h3 => ?_)
      · replace h3 := nott h3
        refine T_seq ?_
        refine T_region hc ?_
        refine Ch.step (v := (.d (.bool false))) rfl (.pure (.assign _ rfl rfl)) rfl rfl ?_
        refine Ch.nil ?_
        refine T_ret ?_
        refine And.intro (.inr rfl) ?_
        exact Exists.intro [(.d (.bool false))] (Exists.intro [] (Exists.intro [] (And.intro (.cons (.tmp 2 rfl) .nil) (And.intro (.cons (.any _) .nil) (And.intro (Exp.of (congrArg D.bool (by first | (rw [sigsB, allB_no k (by omega) (by first | (rw [sigOk, h2, h3, ← hy]; done) | (rw [sigOk, h2, h3, ← hy]; rfl) | (simp_all [sigOk]; done) | (simp_all [sigOk]; omega))] <;> rfl) | (rw [sigsB, allB_of (fun j hj => hp0.2 j (by omega)), Bool.true_and]; done))) (.d _)) (And.intro rfl rfl))))))
      · replace h3 := notf h3
        refine T_skip ?_
        refine T_seq ?_
        refine T_region hc ?_
        refine Ch.step (v := (.d (.slice false 2 (xs.map Sgn.d)))) rfl (.pure (.move _ rfl rfl)) rfl rfl ?_
        refine Ch.step (v := (.d (.int .i64 ((k : Nat) : Int)))) rfl (.pure (.move _ rfl rfl)) rfl rfl ?_
        refine Ch.step (v := (.d (.slice false 2 ((xs.take k).map Sgn.d)))) rfl (.pure (.sliceSh _ _ _ _ 85 (0) (k) rfl Try.underlying41 sz85 rfl (bndN rfl) (bndS rfl rfl) (by simp <;> omega) (by simp <;> omega) (by simp [List.map_take, List.map_drop]))) rfl rfl ?_
        refine Ch.step (v := (.d (.int .i64 (((xs.take k).length : Nat) : Int)))) rfl (.pure (.len _ _ 85 rfl Try.underlying41 (.sh _ _) (by simp))) rfl rfl ?_
        refine Ch.step (v := (.d (.int .i64 0))) rfl (.pure (.move _ rfl rfl)) rfl rfl ?_
        refine Ch.nil ?_
        refine T_block ?_
        refine T_loop (ι := Nat) (fun m => { n := 42, sl := [(0, (.d (.slice false 2 (xs.map Sgn.d)))), (4, (.ptr 4000 0)), (7, (.d (.slice false 2 (xs.map Sgn.d)))), (8, (.d (.int .i64 ((xs.length : Nat) : Int)))), (9, (.d (.int .i64 ((k : Nat) : Int)))), (26, (.d (.slice false 2 ((xs.take k).map Sgn.d)))), (27, (.d (.int .i64 (((xs.take k).length : Nat) : Int)))), (28, (.d (.int .i64 ((m : Nat) : Int))))], hp := [(4000, (some (.box [(.d (.str ((xs.getD k default).name))), (.d (.int .i64 ((xs.getD k default).kind)))])))], pin := [] }) (fun m => m ≤ (xs.take k).length ∧ ∀ j, j < m → decide (((xs.take k).getD j default).name = (xs.getD k default).name) = false) (fun m => (xs.take k).length - m) ⟨0, ⟨by omega, fun j hj => by omega⟩, (Wk.of rfl rfl (And.intro rfl (And.intro rfl (And.intro rfl (And.intro rfl (And.intro rfl (And.intro rfl (And.intro rfl (And.intro (vI (by first | rfl | omega | (simp; done) | (simp; omega))) trivial)))))))) (And.intro rfl trivial))⟩ (fun m hp1 => ?_)
        have hlt : (xs.take k).length = k := by simp; omega
        refine T_seq ?_
        refine T_region hc ?_
        refine Ch.step (v := (.d (.bool (decide (((m : Nat) : Int) < (((xs.take k).length : Nat) : Int)))))) rfl (.pure (.int _ _ _ _ _ rfl rfl rfl rfl)) rfl rfl ?_
        refine Ch.nil ?_
        refine T_seq ?_
        refine T_cond (b := (decide (((m : Nat) : Int) < (((xs.take k).length : Nat) : Int)))) rfl (fun h4 => ?_) (fun h4 => ?_)
        · replace h4 := of_decide_eq_true h4
          refine T_skip ?_
          refine T_seq ?_
          refine T_block ?_
          refine T_seq ?_
          refine T_region hc ?_
          refine Ch.step (v := (.d (.ref (.agg [(.str (((xs.take k).getD m default).name)), (.int .i64 (((xs.take k).getD m default).kind))])))) rfl (.pure (.idx _ _ _ 85 (m) rfl Try.underlying41 sz85 rfl rfl rfl (get_map _ (by first | omega | (simp only [List.length_map, List.length_append, List.length_take, List.length_drop, List.length_cons, List.length_nil]; omega) | (simp; omega) | (simp; done))))) rfl rfl ?_
          refine Ch.step (v := (.d (.agg [(.str (((xs.take k).getD m default).name)), (.int .i64 (((xs.take k).getD m default).kind))]))) rfl (.pure (.loadRefA _ _ rfl ag85 sz85 rfl)) rfl rfl ?_
          refine Ch.step (v := (.ptr 6000 0)) rfl (.alloc 6000 _ rfl zer85) rfl rfl ?_
          refine Ch.step (v := .junk) rfl (.storePtr _ _ _ rfl rfl rfl (.aggD _) sz85 (Nat.le_of_ble_eq_true rfl)) rfl rfl ?_
          refine Ch.nil ?_
          refine T_seq ?_
          refine T_region hc ?_
          refine Ch.step (v := (.ptr 4000 0)) rfl (.pure (.fldPtr _ _ _ rfl fld85_0 rfl)) rfl rfl ?_
          refine Ch.step (v := (.d (.str ((xs.getD k default).name)))) rfl (.pure (.loadPtr1 _ _ rfl ag9 rfl rfl rfl)) rfl rfl ?_
          refine Ch.step (v := (.ptr 6000 0)) rfl (.pure (.fldPtr _ _ _ rfl fld85_0 rfl)) rfl rfl ?_
          refine Ch.step (v := (.d (.str (((xs.take k).getD m default).name)))) rfl (.pure (.loadPtr1 _ _ rfl ag9 rfl rfl rfl)) rfl rfl ?_
          refine Ch.step (v := (.d (.bool (decide (((xs.getD k default).name) = (((xs.take k).getD m default).name)))))) rfl (.pure (.str _ _ _ _ _ rfl rfl rfl rfl)) rfl rfl ?_
          refine Ch.nil ?_
          refine T_cond (b := (decide (((xs.getD k default).name) = (((xs.take k).getD m default).name)))) rfl (fun h5 => ?_) (fun h5 => ?_)
          · replace h5 := of_decide_eq_true h5
            try have hy := any_yes (p := fun y : Sgn => decide (y.name = (xs.getD k default).name)) (l := xs.take k) default m (by omega) (decide_eq_true h5.symm)
            refine T_seq ?_
            refine T_region hc ?_
            refine Ch.step (v := (.d (.bool false))) rfl (.pure (.assign _ rfl rfl)) rfl rfl ?_
            refine Ch.nil ?_
            refine T_ret ?_
            refine And.intro (.inr rfl) ?_
            exact Exists.intro [(.d (.bool false))] (Exists.intro [] (Exists.intro [] (And.intro (.cons (.tmp 2 rfl) .nil) (And.intro (.cons (.any _) .nil) (And.intro (Exp.of (congrArg D.bool (by first | (rw [sigsB, allB_no k (by omega) (by first | (rw [sigOk, h2, h3, ← hy]; done) | (rw [sigOk, h2, h3, ← hy]; rfl) | (simp_all [sigOk]; done) | (simp_all [sigOk]; omega))] <;> rfl) | (rw [sigsB, allB_of (fun j hj => hp0.2 j (by omega)), Bool.true_and]; done))) (.d _)) (And.intro rfl rfl))))))
          · replace h5 := of_decide_eq_false h5
            try have hy := any_yes (p := fun y : Sgn => decide (y.name = (xs.getD k default).name)) (l := xs.take k) default m (by omega) (decide_eq_true h5.symm)
            refine T_skip ?_
            refine T_region hc ?_
            refine Ch.step (v := (.d (.int .i64 (((m : Nat) : Int) + 1)))) rfl (.pure (.int _ _ _ _ _ rfl rfl rfl (intV_add (by first | omega | (simp only [List.length_map, List.length_append, List.length_take, List.length_drop, List.length_cons, List.length_nil]; omega) | (simp; omega) | (simp; done)) (by first | omega | (simp only [List.length_map, List.length_append, List.length_take, List.length_drop, List.length_cons, List.length_nil]; omega) | (simp; omega) | (simp; done))))) rfl rfl ?_
            refine Ch.step (v := (.d (.int .i64 (((m : Nat) : Int) + 1)))) rfl (.pure (.move _ rfl rfl)) rfl rfl ?_
            refine Ch.nil ?_
            refine Exists.intro (m + 1) (And.intro ⟨by omega, upto_succ hp1.2 (by first | (simp_all; done) | (exact decide_eq_false (fun e => (by assumption : ¬ _) e.symm)))⟩ (And.intro (by first | omega | (dsimp only; omega)) (Wk.of rfl rfl (And.intro rfl (And.intro rfl (And.intro rfl (And.intro rfl (And.intro rfl (And.intro rfl (And.intro rfl (And.intro (vI (by first | rfl | omega | (simp; done) | (simp; omega))) trivial)))))))) (And.intro rfl trivial))))
        · replace h4 := of_decide_eq_false h4
          refine T_exit ?_
          refine T_region hc ?_
          refine Ch.step (v := (.d (.int .i64 (((k : Nat) : Int) + 1)))) rfl (.pure (.int _ _ _ _ _ rfl rfl rfl (intV_add (by first | omega | (simp only [List.length_map, List.length_append, List.length_take, List.length_drop, List.length_cons, List.length_nil]; omega) | (simp; omega) | (simp; done)) (by first | omega | (simp only [List.length_map, List.length_append, List.length_take, List.length_drop, List.length_cons, List.length_nil]; omega) | (simp; omega) | (simp; done))))) rfl rfl ?_
          refine Ch.step (v := (.d (.int .i64 (((k : Nat) : Int) + 1)))) rfl (.pure (.move _ rfl rfl)) rfl rfl ?_
          refine Ch.nil ?_
          refine Exists.intro (k + 1) (And.intro ⟨by omega, upto_succ hp0.2 (by first | (rw [sigOk, h2, h3, any_take (by omega) (by omega) hp1.2]; rfl) | (simp_all [sigOk]; done) | (simp_all [sigOk]; omega))⟩ (And.intro (by first | omega | (dsimp only; omega)) (Wk.of rfl rfl (And.intro rfl (And.intro rfl (And.intro rfl (And.intro (vI (by first | rfl | omega | (simp; done) | (simp; omega))) trivial)))) trivial)))
    | false =>
      refine Ch.skip rfl rfl ?_
      refine Ch.skip rfl rfl ?_
      refine Ch.skip rfl rfl ?_
      refine Ch.skip rfl rfl ?_
      refine Ch.step (v := (.d (.bool true))) rfl (.pure (.pickT _ _ _ rfl rfl rfl)) rfl rfl ?_
      refine Ch.nil ?_
      refine T_cond (b := true) rfl (fun _ => ?_) (fun h => nomatch h)
      refine T_seq ?_
      refine T_region hc ?_
      refine Ch.step (v := (.d (.bool false))) rfl (.pure (.assign _ rfl rfl)) rfl rfl ?_
      refine Ch.nil ?_
      refine T_ret ?_
      refine And.intro (.inr rfl) ?_
      exact Exists.intro [(.d (.bool false))] (Exists.intro [] (Exists.intro [] (And.intro (.cons (.tmp 2 rfl) .nil) (And.intro (.cons (.any _) .nil) (And.intro (Exp.of (congrArg D.bool (by first | (rw [sigsB, allB_no k (by omega) (by first | (rw [sigOk, h2, h3, ← hy]; done) | (rw [sigOk, h2, h3, ← hy]; rfl) | (simp_all [sigOk]; done) | (simp_all [sigOk]; omega))] <;> rfl) | (rw [sigsB, allB_of (fun j hj => hp0.2 j (by omega)), Bool.true_and]; done))) (.d _)) (And.intro rfl rfl))))))
  · replace h1 := of_decide_eq_false h1
    try have hk : (xs.getD k default).name.length ≤ 1048576 := bulkF_mem hb _ (getD_mem (l := xs) (j := k) (d := default) (by omega))
    refine T_exit ?_
    refine T_seq ?_
    refine T_region hc ?_
    refine Ch.step (v := (.d (.slice false 2 (xs.map Sgn.d)))) rfl (.pure (.move _ rfl rfl)) rfl rfl ?_
    refine Ch.step (v := (.d (.int .i64 ((xs.length : Nat) : Int)))) rfl (.pure (.len _ _ 85 rfl Try.underlying41 (.sh _ _) (by simp))) rfl rfl ?_
    refine Ch.step (v := (.d (.bool (withinB ((xs.length : Nat) : Int) 1 8)))) rfl (.call 41000 118 _ _ _ en118 rfl (.inl rfl) (.cons (.d _) (.cons (.d _) (.cons (.d _) .nil))) rfl rfl (sp_spec_l1In ((xs.length : Nat) : Int) 1 8) (.skip _ _ (.skip _ _ (.skip _ _ .nil))) rfl) rfl rfl ?_
    refine Ch.step (v := (.d (.bool (withinB ((xs.length : Nat) : Int) 1 8)))) rfl (.pure (.assign _ rfl rfl)) rfl rfl ?_
    refine Ch.nil ?_
    refine T_ret ?_
    refine And.intro (.inr rfl) ?_
    exact Exists.intro [(.d (.bool (withinB ((xs.length : Nat) : Int) 1 8)))] (Exists.intro [] (Exists.intro [] (And.intro (.cons (.tmp 2 rfl) .nil) (And.intro (.cons (.any _) .nil) (And.intro (Exp.of (congrArg D.bool (by first | (rw [sigsB, allB_no k (by omega) (by first | (rw [sigOk, h2, h3, ← hy]; done) | (rw [sigOk, h2, h3, ← hy]; rfl) | (simp_all [sigOk]; done) | (simp_all [sigOk]; omega))] <;> rfl) | (rw [sigsB, allB_of (fun j hj => hp0.2 j (by omega)), Bool.true_and]; done))) (.d _)) (And.intro rfl rfl))))))

theorem en87 : Enters Try.prog 87 := ⟨_, Try.func87, by kernel_rfl, rfl⟩

theorem en84 : Enters Try.prog 84 := ⟨_, Try.func84, by kernel_rfl, rfl⟩

def outP (sg : List Sgn) (j : Nat) : Bool := !decide ((sg.getD j default).kind = 1)

def outK (sg : List Sgn) (k : Nat) : List Int := selTo k (outP sg) fun j => (j : Int)

def gsig (gs : List Gat) : List Int := gs.map Gat.sig

def gateOk (n : Int) (a : Gat) : Bool := if a.kind = 1 then goodB n a.ups && decide ((a.downs.length : Int) = 0) else if a.kind = 2 then goodB n a.ups && goodB n a.downs else false

structure CirInv (x : Cir) (k : Nat) : Prop where
  le : (outK x.sigs k).length ≤ x.gates.length
  sig : (gsig x.gates).take (outK x.sigs k).length = outK x.sigs k
  ok : ∀ j, j < (outK x.sigs k).length → gateOk (x.sigs.length : Int) (x.gates.getD j default) = true

theorem CirInv.zero (x : Cir) : CirInv x 0 := ⟨Nat.zero_le _, rfl, fun j h => absurd h (Nat.not_lt_zero _)⟩

theorem en139 : Enters Try.prog 139 := ⟨_, Try.func139, by kernel_rfl, rfl⟩

theorem en136 : Enters Try.prog 136 := ⟨_, Try.func136, by kernel_rfl, rfl⟩

theorem en85 : Enters Try.prog 85 := ⟨_, Try.func85, by kernel_rfl, rfl⟩

theorem en88 : Enters Try.prog 88 := ⟨_, Try.func88, by kernel_rfl, rfl⟩

theorem en36 : Enters Try.prog 36 := ⟨_, Try.func36, by kernel_rfl, rfl⟩

theorem en38 : Enters Try.prog 38 := ⟨_, Try.func38, by kernel_rfl, rfl⟩

theorem join_two (a b : List UInt8) (r : List (List UInt8)) (sep : List UInt8) : Lib.join (a :: b :: r) sep = a ++ sep ++ Lib.join (b :: r) sep := by
  unfold Lib.join; simp [List.intercalate, List.intersperse]

theorem join_one (a sep : List UInt8) : Lib.join [a] sep = a := by unfold Lib.join; simp [List.intercalate, List.intersperse]

theorem join_snoc (w sep : List UInt8) : ∀ {xs : List (List UInt8)}, xs ≠ [] → Lib.join (xs ++ [w]) sep = Lib.join xs sep ++ sep ++ w
  | [], h => absurd rfl h
  | [a], _ => by rw [List.singleton_append, join_two, join_one, join_one]
  | a :: b :: r, _ => by
    have ih := join_snoc w sep (xs := b :: r) (by simp)
    rw [List.cons_append] at ih
    rw [List.cons_append, List.cons_append, join_two, ih, join_two]
    simp only [List.append_assoc]

theorem join_le {B : Nat} (sep : List UInt8) : ∀ {xs : List (List UInt8)}, (∀ x ∈ xs, x.length ≤ B) → (Lib.join xs sep).length ≤ xs.length * (B + sep.length)
  | [], _ => by unfold Lib.join; simp [List.intercalate, List.intersperse]
  | [a], h => by
    rw [join_one]; have := h a (by simp); rw [List.length_singleton]; omega
  | a :: b :: r, h => by
    have ih := join_le sep (xs := b :: r) (fun x hx => h x (List.mem_cons_of_mem _ hx))
    have ha := h a (by simp)
    rw [join_two, List.length_append, List.length_append]
    show _ ≤ ((b :: r).length + 1) * (B + sep.length)
    rw [Nat.succ_mul]
    omega

theorem join_ne (sep : List UInt8) : ∀ {xs : List (List UInt8)}, xs ≠ [] → (∀ x ∈ xs, x ≠ []) → Lib.join xs sep ≠ []
  | [], h, _ => absurd rfl h
  | [a], _, h => by rw [join_one]; exact h a (by simp)
  | a :: b :: r, _, h => by
    rw [join_two]
    intro e
    have := h a (by simp)
    simp at e
    exact this e.1

def wordOf (sg : List Sgn) (c : List UInt8) (j : Nat) : List UInt8 := if c.getD j 0 = 48 then (sg.getD j default).name ++ [39] else (sg.getD j default).name

def wordsTo (sg : List Sgn) (c : List UInt8) (k : Nat) : List (List UInt8) := selTo k (isLit c) (wordOf sg c)

def prodTo (sg : List Sgn) (c : List UInt8) (k : Nat) : List UInt8 := Lib.join (wordsTo sg c k) [32]

def prodT (sg : List Sgn) (c : List UInt8) : List UInt8 := if prodTo sg c sg.length = [] then [49] else prodTo sg c sg.length

def covTo (sg : List Sgn) (l : List (List UInt8)) (k : Nat) : List UInt8 := Lib.join ((l.take k).map (prodT sg)) [32, 43, 32]

def covT (sg : List Sgn) (l : List (List UInt8)) : List UInt8 := if covTo sg l l.length = [] then [48] else covTo sg l l.length

def sgOk (sg : List Sgn) : Prop := sg.length ≤ 8 ∧ ∀ y ∈ sg, 1 ≤ y.name.length ∧ y.name.length ≤ 6

def cubOk (sg : List Sgn) (c : List UInt8) : Prop := c.length = sg.length ∧ ∀ j, j < c.length → c.getD j 0 = 48 ∨ c.getD j 0 = 49 ∨ c.getD j 0 = 45

def covGd (sg : List Sgn) (l : List (List UInt8)) : Prop := l.length ≤ 60 ∧ ∀ c ∈ l, cubOk sg c

theorem sgOk_of {sg : List Sgn} (h : sigsB sg = true) : sgOk sg := by
  unfold sigsB at h
  simp only [Bool.and_eq_true, allB_true] at h
  have hw := h.2
  unfold withinB at hw
  simp only [Bool.and_eq_true, decide_eq_true_iff] at hw
  refine ⟨by omega, fun y hy => ?_⟩
  obtain ⟨j, hj, rfl⟩ := List.mem_iff_getElem.1 hy
  have h1 := h.1 j hj
  have hg : sg.getD j default = sg[j] := by simp [hj]
  unfold sigOk at h1
  rw [hg] at h1
  simp only [Bool.and_eq_true] at h1
  have h2 := h1.1
  unfold nameB at h2
  simp only [Bool.and_eq_true] at h2
  have h3 := h2.2
  unfold withinB at h3
  simp only [Bool.and_eq_true, decide_eq_true_iff] at h3
  omega

theorem covGd_of {sg : List Sgn} {l : List (List UInt8)} (h : goodB (sg.length : Int) l = true) : covGd sg l := by
  unfold goodB at h
  simp only [Bool.and_eq_true, decide_eq_true_iff] at h
  refine ⟨by omega, fun c hc => ?_⟩
  obtain ⟨j, hj, rfl⟩ := List.mem_iff_getElem.1 hc
  have h1 := allB_true.1 h.1 j hj
  have hg : l.getD j default = l[j] := by simp [hj]
  rw [hg] at h1
  unfold okCube cubeB at h1
  simp only [Bool.and_eq_true, decide_eq_true_iff] at h1
  refine ⟨by omega, fun q hq => ?_⟩
  have h2 := h1.1
  have h3 := allB_true.1 h2.1 q hq
  simp only [cubeCh, Bool.or_eq_true, beq_iff_eq] at h3
  rcases h3 with (h4 | h4) | h4
  · exact .inl h4
  · exact .inr (.inl h4)
  · exact .inr (.inr h4)

theorem word_len {sg : List Sgn} {c : List UInt8} {j : Nat} (hs : sgOk sg) (hj : j < sg.length) : 1 ≤ (wordOf sg c j).length ∧ (wordOf sg c j).length ≤ 7 := by
  have := hs.2 _ (getD_mem (l := sg) (j := j) (d := default) hj)
  unfold wordOf
  split
  · rw [List.length_append, List.length_singleton]; omega
  · omega

theorem words_mem {sg : List Sgn} {c : List UInt8} {k : Nat} {w : List UInt8} (hk : k ≤ sg.length) (h : w ∈ wordsTo sg c k) : ∃ j, j < sg.length ∧ w = wordOf sg c j := by
  unfold wordsTo selTo at h
  obtain ⟨j, hj, rfl⟩ := List.mem_map.1 h
  have := List.mem_range.1 (List.mem_filter.1 hj).1
  exact ⟨j, by omega, rfl⟩

theorem words_ne {sg : List Sgn} {c : List UInt8} {k : Nat} (hs : sgOk sg) (hk : k ≤ sg.length) : ∀ w ∈ wordsTo sg c k, w ≠ [] := by
  intro w hw e
  obtain ⟨j, hj, rfl⟩ := words_mem hk hw
  have := (word_len (c := c) hs hj).1
  rw [e] at this; simp at this

theorem prodTo_le {sg : List Sgn} (c : List UInt8) {k : Nat} (hs : sgOk sg) (hk : k ≤ sg.length) : (prodTo sg c k).length ≤ 64 := by
  have h1 := join_le (B := 7) [32] (xs := wordsTo sg c k) (fun w hw => by
    obtain ⟨j, hj, rfl⟩ := words_mem hk hw
    exact (word_len hs hj).2)
  have h2 : (wordsTo sg c k).length ≤ k := selTo_le _ _ _
  have h3 := hs.1
  rw [List.length_singleton] at h1
  unfold prodTo; omega

theorem prodTo_nil {sg : List Sgn} {c : List UInt8} {k : Nat} (hs : sgOk sg) (hk : k ≤ sg.length) : prodTo sg c k = [] ↔ wordsTo sg c k = [] := by
  constructor
  · intro h
    apply Classical.byContradiction
    intro hn
    exact join_ne [32] hn (words_ne hs hk) h
  · intro h; unfold prodTo; rw [h]; rfl

theorem prodTo_no {sg : List Sgn} {c : List UInt8} {k : Nat} (h : isLit c k = false) : prodTo sg c (k + 1) = prodTo sg c k := by
  unfold prodTo wordsTo; rw [← selTo_no h]

theorem prodTo_first {sg : List Sgn} {c : List UInt8} {k : Nat} (hs : sgOk sg) (hk : k ≤ sg.length) (h : isLit c k = true) (e : prodTo sg c k = []) : prodTo sg c (k + 1) = prodTo sg c k ++ wordOf sg c k := by
  rw [e, List.nil_append]
  have := (prodTo_nil hs hk).1 e
  unfold prodTo wordsTo at *
  rw [← selTo_yes h, this, List.nil_append, join_one]

theorem prodTo_more {sg : List Sgn} {c : List UInt8} {k : Nat} (hs : sgOk sg) (hk : k ≤ sg.length) (h : isLit c k = true) (e : ¬ prodTo sg c k = []) : prodTo sg c (k + 1) = prodTo sg c k ++ [32] ++ wordOf sg c k := by
  have hne : wordsTo sg c k ≠ [] := fun h2 => e ((prodTo_nil hs hk).2 h2)
  unfold prodTo wordsTo at *
  rw [← selTo_yes h, join_snoc _ _ hne]

theorem wordOf_zero {sg : List Sgn} {c : List UInt8} {k : Nat} (h : c.getD k 0 = 48) : wordOf sg c k = (sg.getD k default).name ++ [39] := if_pos h

theorem wordOf_one {sg : List Sgn} {c : List UInt8} {k : Nat} (h : ¬ c.getD k 0 = 48) : wordOf sg c k = (sg.getD k default).name := if_neg h

theorem prodT_le {sg : List Sgn} (c : List UInt8) (hs : sgOk sg) : (prodT sg c).length ≤ 64 := by
  have := prodTo_le c hs (Nat.le_refl _)
  unfold prodT; split
  · decide
  · exact this

theorem prodT_ne (sg : List Sgn) (c : List UInt8) : prodT sg c ≠ [] := by
  unfold prodT; split
  · simp
  · assumption

theorem covTo_le {sg : List Sgn} {l : List (List UInt8)} (k : Nat) (hs : sgOk sg) (hl : covGd sg l) : (covTo sg l k).length ≤ 4020 := by
  have h1 := join_le (B := 64) [32, 43, 32] (xs := (l.take k).map (prodT sg)) (fun w hw => by
    obtain ⟨c, _, rfl⟩ := List.mem_map.1 hw
    exact prodT_le c hs)
  have h2 := hl.1
  have h3 : (l.take k).length ≤ l.length := by rw [List.length_take]; omega
  rw [List.length_map, show ([32, 43, 32] : List UInt8).length = 3 from rfl] at h1
  unfold covTo; omega

theorem take_ne {l : List (List UInt8)} {k : Nat} (h : k < l.length) (h0 : 0 < k) : (l.take k) ≠ [] := by
  intro e
  have := congrArg List.length e
  rw [List.length_take, List.length_nil] at this
  omega

theorem covTo_more {sg : List Sgn} {l : List (List UInt8)} {k : Nat} (hk : k < l.length) (h : 0 < k) : covTo sg l (k + 1) = covTo sg l k ++ [32, 43, 32] ++ prodT sg (l.getD k default) := by
  have hne := take_ne hk h
  have hg : l.getD k default = l[k] := by simp [hk]
  unfold covTo
  rw [List.take_succ_eq_append_getElem hk, List.map_append, hg]
  exact join_snoc _ _ (by simpa using hne)

theorem covTo_first {sg : List Sgn} {l : List (List UInt8)} {k : Nat} (hk : k < l.length) (h : ¬ 0 < k) : covTo sg l (k + 1) = covTo sg l k ++ prodT sg (l.getD k default) := by
  obtain rfl : k = 0 := by omega
  have hg : l.getD 0 default = l[0] := by simp [hk]
  unfold covTo
  rw [List.take_succ_eq_append_getElem hk, hg]
  simp [Lib.join, List.intercalate, List.intersperse]

theorem covTo_nil {sg : List Sgn} {l : List (List UInt8)} : covTo sg l l.length = [] ↔ l.length = 0 := by
  constructor
  · intro h
    apply Classical.byContradiction
    intro hn
    have : l ≠ [] := fun e => hn (by rw [e]; rfl)
    refine join_ne [32, 43, 32] (xs := (l.take l.length).map (prodT sg)) (by rw [List.take_length]; simpa using this) (fun w hw => ?_) h
    obtain ⟨c, _, rfl⟩ := List.mem_map.1 hw
    exact prodT_ne sg c
  · intro h
    have : l = [] := List.eq_nil_of_length_eq_zero h
    subst this; rfl

theorem sp_impl_cubeText (sg : List Sgn) (u : List UInt8) (hs : sgOk sg) (hu : cubOk sg u) : Sp Try.prog 139 [(.slice false 2 (sg.map Sgn.d)), (.str u)] [.any, .any] (.str (prodT sg u)) := by
  refine Sp_intro (lend := true) Try.func139 rfl rfl rfl (fun _ => rfl) (fun c hc hX => ?_)
  have hs8 := hs.1; have hcl := hu.1
  refine T_seq ?_
  refine T_region hc ?_
  refine Ch.step (v := (.d (.str []))) rfl (.pure (.assign _ rfl rfl)) rfl rfl ?_
  refine Ch.nil ?_
  refine T_seq ?_
  refine T_region hc ?_
  refine Ch.step (v := (.row 8000)) rfl (.slice 8000 _ 9 _ rfl sty22 (xs := []) rfl rfl .nil rfl rfl (by decide)) rfl rfl ?_
  refine Ch.step (v := (.row 8000)) rfl (.pure (.assign _ rfl rfl)) rfl rfl ?_
  refine Ch.nil ?_
  refine T_seq ?_
  refine T_seq ?_
  refine T_region hc ?_
  refine Ch.step (v := (.d (.slice false 2 (sg.map Sgn.d)))) rfl (.pure (.move _ rfl rfl)) rfl rfl ?_
  refine Ch.step (v := (.d (.int .i64 ((sg.length : Nat) : Int)))) rfl (.pure (.len _ _ 85 rfl Try.underlying41 (.sh _ _) (by simp))) rfl rfl ?_
  refine Ch.step (v := (.d (.int .i64 0))) rfl (.pure (.move _ rfl rfl)) rfl rfl ?_
  refine Ch.nil ?_
  refine T_block ?_
  refine T_loop (ι := Nat) (fun k => { n := 40, sl := [(1, (.d (.str u))), (5, (.row 5)), (9, (.d (.slice false 2 (sg.map Sgn.d)))), (10, (.d (.int .i64 ((sg.length : Nat) : Int)))), (11, (.d (.int .i64 ((k : Nat) : Int))))], hp := [(5, (some (.row 1 ((wordsTo sg u k).map D.str))))], pin := [] }) (fun k => k ≤ sg.length) (fun k => sg.length - k) ⟨0, (by omega), (Wk.ren [(5, 8000)] rfl rfl rfl rfl (And.intro rfl (And.intro rfl (And.intro rfl (And.intro rfl (And.intro (vI (by first | rfl | omega | (simp; done) | (simp; omega))) trivial))))) (And.intro (oR (by first | rfl | (exact push rfl (by rw [← wordOf_one (c := u) (by simp_all)]; exact selTo_yes (by simp_all [isLit]))) | (exact push rfl (by rw [← wordOf_zero (c := u) (by simp_all)]; exact selTo_yes (by simp_all [isLit]))) | (exact congrArg (List.map _) (selTo_no (by simp_all [isLit]))))) trivial))⟩ (fun k hp0 => ?_)
  have hq : (wordsTo sg u k).length ≤ k := selTo_le _ _ _; have hpl := prodTo_le u hs hp0; have hpn := prodTo_nil (c := u) hs hp0
  refine T_seq ?_
  refine T_region hc ?_
  refine Ch.step (v := (.d (.bool (decide (((k : Nat) : Int) < ((sg.length : Nat) : Int)))))) rfl (.pure (.int _ _ _ _ _ rfl rfl rfl rfl)) rfl rfl ?_
  refine Ch.nil ?_
  refine T_seq ?_
  refine T_cond (b := (decide (((k : Nat) : Int) < ((sg.length : Nat) : Int)))) rfl (fun h1 => ?_) (fun h1 => ?_)
  · replace h1 := of_decide_eq_true h1
    try have hnk := hs.2 _ (getD_mem (l := sg) (j := k) (d := default) (by omega))
    try have hck := hu.2 k (by omega)
    try have hkk : k = sg.length := by omega
    try unfold prodTo at hpl
    refine T_skip ?_
    refine T_seq ?_
    refine T_block ?_
    refine T_seq ?_
    refine T_region hc ?_
    refine Ch.step (v := (.d (.int .i64 ((k : Nat) : Int)))) rfl (.pure (.move _ rfl rfl)) rfl rfl ?_
    refine Ch.step (v := (.d (.ref (.agg [(.str ((sg.getD k default).name)), (.int .i64 ((sg.getD k default).kind))])))) rfl (.pure (.idx _ _ _ 85 (k) rfl Try.underlying41 sz85 rfl rfl rfl (get_map _ (by first | omega | (simp only [List.length_map, List.length_append, List.length_take, List.length_drop, List.length_cons, List.length_nil]; omega) | (simp; omega) | (simp; done))))) rfl rfl ?_
    refine Ch.step (v := (.d (.agg [(.str ((sg.getD k default).name)), (.int .i64 ((sg.getD k default).kind))]))) rfl (.pure (.loadRefA _ _ rfl ag85 sz85 rfl)) rfl rfl ?_
    refine Ch.step (v := (.ptr 7000 0)) rfl (.alloc 7000 _ rfl zer85) rfl rfl ?_
    refine Ch.step (v := (.d (.int .i64 ((k : Nat) : Int)))) rfl (.pure (.assign _ rfl rfl)) rfl rfl ?_
    refine Ch.step (v := .junk) rfl (.storePtr _ _ _ rfl rfl rfl (.aggD _) sz85 (Nat.le_of_ble_eq_true rfl)) rfl rfl ?_
    refine Ch.nil ?_
    refine T_seq ?_
    refine T_region hc ?_
    refine Ch.step (v := (.d (.str u))) rfl (.pure (.move _ rfl rfl)) rfl rfl ?_
    refine Ch.step (v := (.d (.int .i64 ((k : Nat) : Int)))) rfl (.pure (.move _ rfl rfl)) rfl rfl ?_
    refine Ch.step (v := (.d (.int .u8 ((u.getD k 0).toNat : Int)))) rfl (.pure (.idxStr _ _ _ (k) rfl Try.underlying9 rfl rfl rfl (get_str (by first | omega | (simp only [List.length_map, List.length_append, List.length_take, List.length_drop, List.length_cons, List.length_nil]; omega) | (simp; omega) | (simp; done))))) rfl rfl ?_
    refine Ch.nil ?_
    refine T_block ?_
    refine T_seq ?_
    refine T_region hc ?_
    refine Ch.step (v := (.d (.bool (decide (((u.getD k 0) : UInt8) = 49))))) rfl (.pure (.int _ _ _ _ _ rfl rfl rfl (u8_eql ((u.getD k 0) : UInt8) 49 rfl rfl))) rfl rfl ?_
    refine Ch.step (v := (.d (.bool (decide (((u.getD k 0) : UInt8) = 49))))) rfl (.pure (.assign _ rfl rfl)) rfl rfl ?_
    refine Ch.nil ?_
    refine T_cond (b := (decide (((u.getD k 0) : UInt8) = 49))) rfl (fun h2 => ?_) (fun h2 => ?_)
    · replace h2 := of_decide_eq_true h2
      refine T_region hc ?_
      refine Ch.step (v := (.row 5)) rfl (.pure (.move _ rfl rfl)) rfl rfl ?_
      refine Ch.step (v := (.ptr 7000 0)) rfl (.pure (.fldPtr _ _ _ rfl fld85_0 rfl)) rfl rfl ?_
      refine Ch.step (v := (.d (.str ((sg.getD k default).name)))) rfl (.pure (.loadPtr1 _ _ rfl ag9 rfl rfl rfl)) rfl rfl ?_
      refine Ch.step (v := (.row 24000)) rfl (.slice 24000 _ 9 _ rfl sty22 (xs := [.tmp 23]) rfl rfl (.cons (.d _) .nil) rfl rfl (by decide)) rfl rfl ?_
      refine Ch.step (v := (.row 25000)) rfl (.append 25000 _ _ _ 9 rfl sty22 (by decide) (.rowK rfl) (.inr ⟨_, rfl, rfl⟩) (.row rfl rfl) rfl (by first | omega | (simp; omega) | (simp; done))) rfl rfl ?_
      refine Ch.step (v := (.row 25000)) rfl (.pure (.assign _ rfl rfl)) rfl rfl ?_
      refine Ch.nil ?_
      refine T_region hc ?_
      refine Ch.step (v := (.d (.int .i64 (((k : Nat) : Int) + 1)))) rfl (.pure (.int _ _ _ _ _ rfl rfl rfl (intV_add (by first | omega | (simp only [List.length_map, List.length_append, List.length_take, List.length_drop, List.length_cons, List.length_nil]; omega) | (simp; omega) | (simp; done)) (by first | omega | (simp only [List.length_map, List.length_append, List.length_take, List.length_drop, List.length_cons, List.length_nil]; omega) | (simp; omega) | (simp; done))))) rfl rfl ?_
      refine Ch.step (v := (.d (.int .i64 (((k : Nat) : Int) + 1)))) rfl (.pure (.move _ rfl rfl)) rfl rfl ?_
      refine Ch.nil ?_
      refine Exists.intro (k + 1) (And.intro (by omega) (And.intro (by first | omega | (dsimp only; omega)) (Wk.ren [(5, 25000)] rfl rfl rfl rfl (And.intro rfl (And.intro rfl (And.intro rfl (And.intro rfl (And.intro (vI (by first | rfl | omega | (simp; done) | (simp; omega))) trivial))))) (And.intro (oR (by first | rfl | (exact push rfl (by rw [← wordOf_one (c := u) (by simp_all)]; exact selTo_yes (by simp_all [isLit]))) | (exact push rfl (by rw [← wordOf_zero (c := u) (by simp_all)]; exact selTo_yes (by simp_all [isLit]))) | (exact congrArg (List.map _) (selTo_no (by simp_all [isLit]))))) trivial))))
    · replace h2 := of_decide_eq_false h2
      refine T_seq ?_
      refine T_region hc ?_
      refine Ch.step (v := (.d (.bool (decide (((u.getD k 0) : UInt8) = 48))))) rfl (.pure (.int _ _ _ _ _ rfl rfl rfl (u8_eql ((u.getD k 0) : UInt8) 48 rfl rfl))) rfl rfl ?_
      refine Ch.step (v := (.d (.bool (decide (((u.getD k 0) : UInt8) = 48))))) rfl (.pure (.assign _ rfl rfl)) rfl rfl ?_
      refine Ch.nil ?_
      refine T_cond (b := (decide (((u.getD k 0) : UInt8) = 48))) rfl (fun h3 => ?_) (fun h3 => ?_)
      · replace h3 := of_decide_eq_true h3
        refine T_region hc ?_
        refine Ch.step (v := (.row 5)) rfl (.pure (.move _ rfl rfl)) rfl rfl ?_
        refine Ch.step (v := (.ptr 7000 0)) rfl (.pure (.fldPtr _ _ _ rfl fld85_0 rfl)) rfl rfl ?_
        refine Ch.step (v := (.d (.str ((sg.getD k default).name)))) rfl (.pure (.loadPtr1 _ _ rfl ag9 rfl rfl rfl)) rfl rfl ?_
        refine Ch.step (v := (.d (.str (((sg.getD k default).name) ++ [39])))) rfl (.pure (.str _ _ _ _ _ rfl rfl rfl (strV_add (by first | omega | (simp only [List.length_map, List.length_append, List.length_take, List.length_drop, List.length_cons, List.length_nil]; omega) | (simp; omega) | (simp; done))))) rfl rfl ?_
        refine Ch.step (v := (.row 32000)) rfl (.slice 32000 _ 9 _ rfl sty22 (xs := [.tmp 31]) rfl rfl (.cons (.d _) .nil) rfl rfl (by decide)) rfl rfl ?_
        refine Ch.step (v := (.row 33000)) rfl (.append 33000 _ _ _ 9 rfl sty22 (by decide) (.rowK rfl) (.inr ⟨_, rfl, rfl⟩) (.row rfl rfl) rfl (by first | omega | (simp; omega) | (simp; done))) rfl rfl ?_
        refine Ch.step (v := (.row 33000)) rfl (.pure (.assign _ rfl rfl)) rfl rfl ?_
        refine Ch.nil ?_
        refine T_region hc ?_
        refine Ch.step (v := (.d (.int .i64 (((k : Nat) : Int) + 1)))) rfl (.pure (.int _ _ _ _ _ rfl rfl rfl (intV_add (by first | omega | (simp only [List.length_map, List.length_append, List.length_take, List.length_drop, List.length_cons, List.length_nil]; omega) | (simp; omega) | (simp; done)) (by first | omega | (simp only [List.length_map, List.length_append, List.length_take, List.length_drop, List.length_cons, List.length_nil]; omega) | (simp; omega) | (simp; done))))) rfl rfl ?_
        refine Ch.step (v := (.d (.int .i64 (((k : Nat) : Int) + 1)))) rfl (.pure (.move _ rfl rfl)) rfl rfl ?_
        refine Ch.nil ?_
        refine Exists.intro (k + 1) (And.intro (by omega) (And.intro (by first | omega | (dsimp only; omega)) (Wk.ren [(5, 33000)] rfl rfl rfl rfl (And.intro rfl (And.intro rfl (And.intro rfl (And.intro rfl (And.intro (vI (by first | rfl | omega | (simp; done) | (simp; omega))) trivial))))) (And.intro (oR (by first | rfl | (exact push rfl (by rw [← wordOf_one (c := u) (by simp_all)]; exact selTo_yes (by simp_all [isLit]))) | (exact push rfl (by rw [← wordOf_zero (c := u) (by simp_all)]; exact selTo_yes (by simp_all [isLit]))) | (exact congrArg (List.map _) (selTo_no (by simp_all [isLit]))))) trivial))))
      · replace h3 := of_decide_eq_false h3
        refine T_skip ?_
        refine T_region hc ?_
        refine Ch.step (v := (.d (.int .i64 (((k : Nat) : Int) + 1)))) rfl (.pure (.int _ _ _ _ _ rfl rfl rfl (intV_add (by first | omega | (simp only [List.length_map, List.length_append, List.length_take, List.length_drop, List.length_cons, List.length_nil]; omega) | (simp; omega) | (simp; done)) (by first | omega | (simp only [List.length_map, List.length_append, List.length_take, List.length_drop, List.length_cons, List.length_nil]; omega) | (simp; omega) | (simp; done))))) rfl rfl ?_
        refine Ch.step (v := (.d (.int .i64 (((k : Nat) : Int) + 1)))) rfl (.pure (.move _ rfl rfl)) rfl rfl ?_
        refine Ch.nil ?_
        refine Exists.intro (k + 1) (And.intro (by omega) (And.intro (by first | omega | (dsimp only; omega)) (Wk.of rfl rfl (And.intro rfl (And.intro rfl (And.intro rfl (And.intro rfl (And.intro (vI (by first | rfl | omega | (simp; done) | (simp; omega))) trivial))))) (And.intro (oR (by first | rfl | (exact push rfl (by rw [← wordOf_one (c := u) (by simp_all)]; exact selTo_yes (by simp_all [isLit]))) | (exact push rfl (by rw [← wordOf_zero (c := u) (by simp_all)]; exact selTo_yes (by simp_all [isLit]))) | (exact congrArg (List.map _) (selTo_no (by simp_all [isLit]))))) trivial))))
  · replace h1 := of_decide_eq_false h1
    try have hnk := hs.2 _ (getD_mem (l := sg) (j := k) (d := default) (by omega))
    try have hck := hu.2 k (by omega)
    try have hkk : k = sg.length := by omega
    try unfold prodTo at hpl
    refine T_exit ?_
    refine T_seq ?_
    refine T_seq ?_
    refine T_region hc ?_
    refine Ch.step (v := (.row 5)) rfl (.pure (.move _ rfl rfl)) rfl rfl ?_
    refine Ch.step (v := (.d (.int .i64 (((wordsTo sg u k).length : Nat) : Int)))) rfl (.pure (.len _ _ 9 rfl Try.underlying22 (.row rfl) (by simp))) rfl rfl ?_
    refine Ch.step (v := (.d (.bool (decide ((((wordsTo sg u k).length : Nat) : Int) = 0))))) rfl (.pure (.int _ _ _ _ _ rfl rfl rfl rfl)) rfl rfl ?_
    refine Ch.nil ?_
    refine T_cond (b := (decide ((((wordsTo sg u k).length : Nat) : Int) = 0))) rfl (fun h4 => ?_) (fun h4 => ?_)
    · replace h4 := of_decide_eq_true h4
      refine T_seq ?_
      refine T_region hc ?_
      refine Ch.step (v := (.d (.str [49]))) rfl (.pure (.assign _ rfl rfl)) rfl rfl ?_
      refine Ch.nil ?_
      refine T_ret ?_
      refine And.intro (.inr rfl) ?_
      exact Exists.intro [(.d (.str [49]))] (Exists.intro [] (Exists.intro [] (And.intro (.cons (.tmp 4 rfl) .nil) (And.intro (.cons (.any _) (.cons (.any _) .nil)) (And.intro (Exp.of (congrArg D.str (by first | (rw [prodT, ← hkk, if_pos (hpn.2 (List.eq_nil_of_length_eq_zero (by omega)))]; done) | (rw [prodT, ← hkk, if_neg (fun e => by have := hpn.1 e; simp_all)]; rfl))) (.d _)) (And.intro rfl rfl))))))
    · replace h4 := of_decide_eq_false h4
      refine T_skip ?_
      refine T_seq ?_
      refine T_region hc ?_
      refine Ch.step (v := (.row 5)) rfl (.pure (.move _ rfl rfl)) rfl rfl ?_
      refine Ch.step (v := (.d (.str (Lib.join (wordsTo sg u k) ([32]))))) rfl (.call 39000 140 _ _ _ en140 rfl (.inl rfl) (.cons (.lend (.row rfl (frozs_map (fun _ => rfl) _))) (.cons (.d _) .nil)) rfl rfl (sp_Join (wordsTo sg u k) ([32]) (by first | omega | assumption | (exact hx _ (getD_mem (by omega))) | (exact hx _ (by assumption)) | (exact Nat.le_trans (hx _ (by assumption)) (by omega)) | (simp only [List.length_append, List.length_take, List.length_drop, List.length_cons, List.length_nil]; omega) | (simp_all; done)) (by first | omega | assumption | (exact hx _ (getD_mem (by omega))) | (exact hx _ (by assumption)) | (exact Nat.le_trans (hx _ (by assumption)) (by omega)) | (simp only [List.length_append, List.length_take, List.length_drop, List.length_cons, List.length_nil]; omega) | (simp_all; done))) (.skip _ _ (.skip _ _ .nil)) rfl) rfl rfl ?_
      refine Ch.step (v := (.d (.str (Lib.join (wordsTo sg u k) ([32]))))) rfl (.pure (.assign _ rfl rfl)) rfl rfl ?_
      refine Ch.nil ?_
      refine T_ret ?_
      refine And.intro (.inr rfl) ?_
      exact Exists.intro [(.d (.str (Lib.join (wordsTo sg u k) ([32]))))] (Exists.intro [] (Exists.intro [] (And.intro (.cons (.tmp 4 rfl) .nil) (And.intro (.cons (.any _) (.cons (.any _) .nil)) (And.intro (Exp.of (congrArg D.str (by first | (rw [prodT, ← hkk, if_pos (hpn.2 (List.eq_nil_of_length_eq_zero (by omega)))]; done) | (rw [prodT, ← hkk, if_neg (fun e => by have := hpn.1 e; simp_all)]; rfl))) (.d _)) (And.intro rfl rfl))))))

end Go.AM
