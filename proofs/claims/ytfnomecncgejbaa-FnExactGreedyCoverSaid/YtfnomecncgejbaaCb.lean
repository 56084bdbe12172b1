/-
  Contracts: the cubes: IsSubcube, IntersectCubes.
-/
import Derived.Test.YtfnomecncgejbaaAmO
import Derived.Test.YtfnomecncgejbaaCa
import Derived.Test.YtfnomecncgejbaaProg
import Derived.KernelRfl
namespace Go.AM
open Go.Proofs
set_option linter.unusedVariables false
set_option linter.unusedSimpArgs false

theorem en118 : Enters Try.prog 118 := ⟨_, Try.func118, by kernel_rfl, rfl⟩
theorem en98 : Enters Try.prog 98 := ⟨_, Try.func98, by kernel_rfl, rfl⟩

def cubeCh (x : UInt8) : Bool := x == 48 || x == 49 || x == 45
def cubeS (s : List UInt8) : Bool := allB s.length (fun j => cubeCh (s.getD j 0))
def cubeB (s : List UInt8) : Bool := cubeS s && withinB s.length 1 8
def cubeN (s : List UInt8) (n : Int) : Bool := cubeS s && decide ((s.length : Int) = n) && withinB n 1 8
def twoB (a b : List UInt8) : Bool := cubeB a && (cubeB b && decide ((a.length : Int) = b.length))

theorem sp_spec_l13Cube (s : List UInt8) (hs : s.length ≤ 1048576) : Sp Try.prog 117 [(.str s)] [.any] (.bool (cubeB s)) := by
  refine Sp_intro (lend := true) Try.func117 rfl rfl rfl (fun _ => rfl) (fun c hc hX => ?_)
  refine T_seq ?_
  refine T_region hc ?_
  refine Ch.step (v := (.d (.bool false))) rfl (.pure (.assign _ rfl rfl)) rfl rfl ?_
  refine Ch.nil ?_
  refine T_seq ?_
  refine T_seq ?_
  refine T_region hc ?_
  refine Ch.step (v := (.d (.int .i64 0))) rfl (.pure (.assign _ rfl rfl)) rfl rfl ?_
  refine Ch.nil ?_
  refine T_block ?_
  refine T_loop (ι := Nat) (fun k => { n := 29, sl := [(0, (.d (.str s))), (3, (.d (.int .i64 ((k : Nat) : Int))))], hp := [], pin := [] }) (fun k => k ≤ s.length ∧ ∀ j, j < k → cubeCh (s.getD j 0) = true) (fun k => s.length - k) ⟨0, ⟨by omega, fun j hj => by omega⟩, (Wk.of rfl rfl (And.intro rfl (And.intro (vI (by first | rfl | omega | (simp; done) | (simp; omega))) trivial)) trivial)⟩ (fun k hp0 => ?_)
  refine T_seq ?_
  refine T_seq ?_
  refine T_region hc ?_
  refine Ch.step (v := (.d (.int .i64 ((k : Nat) : Int)))) rfl (.pure (.move _ rfl rfl)) rfl rfl ?_
  refine Ch.step (v := (.d (.str s))) rfl (.pure (.move _ rfl rfl)) rfl rfl ?_
  refine Ch.step (v := (.d (.int .i64 ((s.length : Nat) : Int)))) rfl (.pure (.lenStr _ _ rfl Try.underlying9 rfl)) rfl rfl ?_
  refine Ch.step (v := (.d (.bool (decide (((k : Nat) : Int) < ((s.length : Nat) : Int)))))) rfl (.pure (.int _ _ _ _ _ rfl rfl rfl rfl)) rfl rfl ?_
  refine Ch.nil ?_
  refine T_cond (b := (decide (((k : Nat) : Int) < ((s.length : Nat) : Int)))) rfl (fun h1 => ?_) (fun h1 => ?_)
  · replace h1 := of_decide_eq_true h1
    refine T_skip ?_
    refine T_seq ?_
    refine T_block ?_
    refine T_seq ?_
    refine T_region hc ?_
    refine Ch.step (v := (.d (.str s))) rfl (.pure (.move _ rfl rfl)) rfl rfl ?_
    refine Ch.step (v := (.d (.int .i64 ((k : Nat) : Int)))) rfl (.pure (.move _ rfl rfl)) rfl rfl ?_
    refine Ch.step (v := (.d (.int .u8 ((s.getD k 0).toNat : Int)))) rfl (.pure (.idxStr _ _ _ (k) rfl Try.underlying9 rfl rfl rfl (get_str (by first | omega | (simp only [List.length_map, List.length_append, List.length_take, List.length_drop, List.length_cons, List.length_nil]; omega) | (simp; omega) | (simp; done))))) rfl rfl ?_
    refine Ch.step (v := (.d (.bool (!(decide (((s.getD k 0) : UInt8) = 48)))))) rfl (.pure (.int _ _ _ _ _ rfl rfl rfl (u8_neq ((s.getD k 0) : UInt8) 48 rfl rfl))) rfl rfl ?_
    refine Ch.step (v := (.d (.bool (!(decide (((s.getD k 0) : UInt8) = 48)))))) rfl (.pure (.move _ rfl rfl)) rfl rfl ?_
    cases h2 : (decide (((s.getD k 0) : UInt8) = 48)) with
    | true =>
      replace h2 := of_decide_eq_true h2
      refine Ch.skip rfl rfl ?_
      refine Ch.skip rfl rfl ?_
      refine Ch.skip rfl rfl ?_
      refine Ch.skip rfl rfl ?_
      refine Ch.step (v := (.d (.bool false))) rfl (.pure (.pickF _ _ _ rfl rfl rfl)) rfl rfl ?_
      refine Ch.step (v := (.d (.bool false))) rfl (.pure (.move _ rfl rfl)) rfl rfl ?_
      refine Ch.skip rfl rfl ?_
      refine Ch.skip rfl rfl ?_
      refine Ch.skip rfl rfl ?_
      refine Ch.skip rfl rfl ?_
      refine Ch.step (v := (.d (.bool false))) rfl (.pure (.pickF _ _ _ rfl rfl rfl)) rfl rfl ?_
      refine Ch.nil ?_
      refine T_cond (b := false) rfl (fun h => nomatch h) (fun _ => ?_)
      refine T_skip ?_
      refine T_region hc ?_
      refine Ch.step (v := (.d (.int .i64 ((k : Nat) : Int)))) rfl (.pure (.move _ rfl rfl)) rfl rfl ?_
      refine Ch.step (v := (.d (.int .i64 (((k : Nat) : Int) + 1)))) rfl (.pure (.int _ _ _ _ _ rfl rfl rfl (intV_add (by first | omega | (simp only [List.length_map, List.length_append, List.length_take, List.length_drop, List.length_cons, List.length_nil]; omega) | (simp; omega) | (simp; done)) (by first | omega | (simp only [List.length_map, List.length_append, List.length_take, List.length_drop, List.length_cons, List.length_nil]; omega) | (simp; omega) | (simp; done))))) rfl rfl ?_
      refine Ch.step (v := (.d (.int .i64 (((k : Nat) : Int) + 1)))) rfl (.pure (.assign _ rfl rfl)) rfl rfl ?_
      refine Ch.nil ?_
      refine Exists.intro (k + 1) (And.intro ⟨by omega, upto_succ hp0.2 (by simp_all [cubeCh])⟩ (And.intro (by first | omega | (dsimp only; omega)) (Wk.of rfl rfl (And.intro rfl (And.intro (vI (by first | rfl | omega | (simp; done) | (simp; omega))) trivial)) trivial)))
    | false =>
      replace h2 := of_decide_eq_false h2
      refine Ch.step (v := (.d (.str s))) rfl (.pure (.move _ rfl rfl)) rfl rfl ?_
      refine Ch.step (v := (.d (.int .i64 ((k : Nat) : Int)))) rfl (.pure (.move _ rfl rfl)) rfl rfl ?_
      refine Ch.step (v := (.d (.int .u8 ((s.getD k 0).toNat : Int)))) rfl (.pure (.idxStr _ _ _ (k) rfl Try.underlying9 rfl rfl rfl (get_str (by first | omega | (simp only [List.length_map, List.length_append, List.length_take, List.length_drop, List.length_cons, List.length_nil]; omega) | (simp; omega) | (simp; done))))) rfl rfl ?_
      refine Ch.step (v := (.d (.bool (!(decide (((s.getD k 0) : UInt8) = 49)))))) rfl (.pure (.int _ _ _ _ _ rfl rfl rfl (u8_neq ((s.getD k 0) : UInt8) 49 rfl rfl))) rfl rfl ?_
      refine Ch.step (v := (.d (.bool (!(decide (((s.getD k 0) : UInt8) = 49)))))) rfl (.pure (.pickT _ _ _ rfl rfl rfl)) rfl rfl ?_
      refine Ch.step (v := (.d (.bool (!(decide (((s.getD k 0) : UInt8) = 49)))))) rfl (.pure (.move _ rfl rfl)) rfl rfl ?_
      cases h3 : (decide (((s.getD k 0) : UInt8) = 49)) with
      | true =>
        replace h3 := of_decide_eq_true h3
        refine Ch.skip rfl rfl ?_
        refine Ch.skip rfl rfl ?_
        refine Ch.skip rfl rfl ?_
        refine Ch.skip rfl rfl ?_
        refine Ch.step (v := (.d (.bool false))) rfl (.pure (.pickF _ _ _ rfl rfl rfl)) rfl rfl ?_
        refine Ch.nil ?_
        refine T_cond (b := false) rfl (fun h => nomatch h) (fun _ => ?_)
        refine T_skip ?_
        refine T_region hc ?_
        refine Ch.step (v := (.d (.int .i64 ((k : Nat) : Int)))) rfl (.pure (.move _ rfl rfl)) rfl rfl ?_
        refine Ch.step (v := (.d (.int .i64 (((k : Nat) : Int) + 1)))) rfl (.pure (.int _ _ _ _ _ rfl rfl rfl (intV_add (by first | omega | (simp only [List.length_map, List.length_append, List.length_take, List.length_drop, List.length_cons, List.length_nil]; omega) | (simp; omega) | (simp; done)) (by first | omega | (simp only [List.length_map, List.length_append, List.length_take, List.length_drop, List.length_cons, List.length_nil]; omega) | (simp; omega) | (simp; done))))) rfl rfl ?_
        refine Ch.step (v := (.d (.int .i64 (((k : Nat) : Int) + 1)))) rfl (.pure (.assign _ rfl rfl)) rfl rfl ?_
        refine Ch.nil ?_
        refine Exists.intro (k + 1) (And.intro ⟨by omega, upto_succ hp0.2 (by simp_all [cubeCh])⟩ (And.intro (by first | omega | (dsimp only; omega)) (Wk.of rfl rfl (And.intro rfl (And.intro (vI (by first | rfl | omega | (simp; done) | (simp; omega))) trivial)) trivial)))
      | false =>
        replace h3 := of_decide_eq_false h3
        refine Ch.step (v := (.d (.str s))) rfl (.pure (.move _ rfl rfl)) rfl rfl ?_
        refine Ch.step (v := (.d (.int .i64 ((k : Nat) : Int)))) rfl (.pure (.move _ rfl rfl)) rfl rfl ?_
        refine Ch.step (v := (.d (.int .u8 ((s.getD k 0).toNat : Int)))) rfl (.pure (.idxStr _ _ _ (k) rfl Try.underlying9 rfl rfl rfl (get_str (by first | omega | (simp only [List.length_map, List.length_append, List.length_take, List.length_drop, List.length_cons, List.length_nil]; omega) | (simp; omega) | (simp; done))))) rfl rfl ?_
        refine Ch.step (v := (.d (.bool (!(decide (((s.getD k 0) : UInt8) = 45)))))) rfl (.pure (.int _ _ _ _ _ rfl rfl rfl (u8_neq ((s.getD k 0) : UInt8) 45 rfl rfl))) rfl rfl ?_
        refine Ch.step (v := (.d (.bool (!(decide (((s.getD k 0) : UInt8) = 45)))))) rfl (.pure (.pickT _ _ _ rfl rfl rfl)) rfl rfl ?_
        refine Ch.nil ?_
        refine T_cond (b := (!(decide (((s.getD k 0) : UInt8) = 45)))) rfl (fun h4 => ?_) (fun h4 => ?_)
        · replace h4 := nott h4
          replace h4 := of_decide_eq_false h4
          refine T_seq ?_
          refine T_region hc ?_
          refine Ch.step (v := (.d (.bool false))) rfl (.pure (.assign _ rfl rfl)) rfl rfl ?_
          refine Ch.nil ?_
          refine T_ret ?_
          refine And.intro (.inr rfl) ?_
          exact Exists.intro [(.d (.bool false))] (Exists.intro [] (Exists.intro [] (And.intro (.cons (.tmp 2 rfl) .nil) (And.intro (.cons (.any _) .nil) (And.intro (Exp.of (congrArg D.bool (by rw [cubeB, cubeS, allB_no k (by omega) (by simp_all [cubeCh])]; rfl)) (.d _)) (And.intro rfl rfl))))))
        · replace h4 := notf h4
          replace h4 := of_decide_eq_true h4
          refine T_skip ?_
          refine T_region hc ?_
          refine Ch.step (v := (.d (.int .i64 ((k : Nat) : Int)))) rfl (.pure (.move _ rfl rfl)) rfl rfl ?_
          refine Ch.step (v := (.d (.int .i64 (((k : Nat) : Int) + 1)))) rfl (.pure (.int _ _ _ _ _ rfl rfl rfl (intV_add (by first | omega | (simp only [List.length_map, List.length_append, List.length_take, List.length_drop, List.length_cons, List.length_nil]; omega) | (simp; omega) | (simp; done)) (by first | omega | (simp only [List.length_map, List.length_append, List.length_take, List.length_drop, List.length_cons, List.length_nil]; omega) | (simp; omega) | (simp; done))))) rfl rfl ?_
          refine Ch.step (v := (.d (.int .i64 (((k : Nat) : Int) + 1)))) rfl (.pure (.assign _ rfl rfl)) rfl rfl ?_
          refine Ch.nil ?_
          refine Exists.intro (k + 1) (And.intro ⟨by omega, upto_succ hp0.2 (by simp_all [cubeCh])⟩ (And.intro (by first | omega | (dsimp only; omega)) (Wk.of rfl rfl (And.intro rfl (And.intro (vI (by first | rfl | omega | (simp; done) | (simp; omega))) trivial)) trivial)))
  · replace h1 := of_decide_eq_false h1
    refine T_exit ?_
    refine T_seq ?_
    refine T_region hc ?_
    refine Ch.step (v := (.d (.str s))) rfl (.pure (.move _ rfl rfl)) rfl rfl ?_
    refine Ch.step (v := (.d (.int .i64 ((s.length : Nat) : Int)))) rfl (.pure (.lenStr _ _ rfl Try.underlying9 rfl)) rfl rfl ?_
    refine Ch.step (v := (.d (.bool (withinB ((s.length : Nat) : Int) 1 8)))) rfl (.call 28000 118 _ _ _ en118 rfl (.inl rfl) (.cons (.d _) (.cons (.d _) (.cons (.d _) .nil))) rfl rfl (sp_spec_l1In ((s.length : Nat) : Int) 1 8) (.skip _ _ (.skip _ _ (.skip _ _ .nil))) rfl) rfl rfl ?_
    refine Ch.step (v := (.d (.bool (withinB ((s.length : Nat) : Int) 1 8)))) rfl (.pure (.assign _ rfl rfl)) rfl rfl ?_
    refine Ch.nil ?_
    refine T_ret ?_
    refine And.intro (.inr rfl) ?_
    exact Exists.intro [(.d (.bool (withinB ((s.length : Nat) : Int) 1 8)))] (Exists.intro [] (Exists.intro [] (And.intro (.cons (.tmp 2 rfl) .nil) (And.intro (.cons (.any _) .nil) (And.intro (Exp.of (congrArg D.bool (by rw [cubeB, cubeS, allB_of (fun j hj => hp0.2 j (by omega)), Bool.true_and])) (.d _)) (And.intro rfl rfl))))))

theorem sp_impl_isCube (s : List UInt8) (n : Int) (hs : s.length ≤ 1048576) : Sp Try.prog 121 [(.str s), (.int .i64 n)] [.any, .any] (.bool (cubeN s n)) := by
  refine Sp_intro (lend := true) Try.func121 rfl rfl rfl (fun _ => rfl) (fun c hc hX => ?_)
  refine T_seq ?_
  refine T_region hc ?_
  refine Ch.step (v := (.d (.bool false))) rfl (.pure (.assign _ rfl rfl)) rfl rfl ?_
  refine Ch.nil ?_
  refine T_seq ?_
  refine T_seq ?_
  refine T_region hc ?_
  refine Ch.step (v := (.d (.int .i64 0))) rfl (.pure (.assign _ rfl rfl)) rfl rfl ?_
  refine Ch.nil ?_
  refine T_block ?_
  refine T_loop (ι := Nat) (fun k => { n := 36, sl := [(0, (.d (.str s))), (1, (.d (.int .i64 n))), (5, (.d (.int .i64 ((k : Nat) : Int))))], hp := [], pin := [] }) (fun k => k ≤ s.length ∧ ∀ j, j < k → cubeCh (s.getD j 0) = true) (fun k => s.length - k) ⟨0, ⟨by omega, fun j hj => by omega⟩, (Wk.of rfl rfl (And.intro rfl (And.intro rfl (And.intro (vI (by first | rfl | omega | (simp; done) | (simp; omega))) trivial))) trivial)⟩ (fun k hp0 => ?_)
  refine T_seq ?_
  refine T_seq ?_
  refine T_region hc ?_
  refine Ch.step (v := (.d (.int .i64 ((k : Nat) : Int)))) rfl (.pure (.move _ rfl rfl)) rfl rfl ?_
  refine Ch.step (v := (.d (.str s))) rfl (.pure (.move _ rfl rfl)) rfl rfl ?_
  refine Ch.step (v := (.d (.int .i64 ((s.length : Nat) : Int)))) rfl (.pure (.lenStr _ _ rfl Try.underlying9 rfl)) rfl rfl ?_
  refine Ch.step (v := (.d (.bool (decide (((k : Nat) : Int) < ((s.length : Nat) : Int)))))) rfl (.pure (.int _ _ _ _ _ rfl rfl rfl rfl)) rfl rfl ?_
  refine Ch.nil ?_
  refine T_cond (b := (decide (((k : Nat) : Int) < ((s.length : Nat) : Int)))) rfl (fun h1 => ?_) (fun h1 => ?_)
  · replace h1 := of_decide_eq_true h1
    refine T_skip ?_
    refine T_seq ?_
    refine T_block ?_
    refine T_seq ?_
    refine T_region hc ?_
    refine Ch.step (v := (.d (.str s))) rfl (.pure (.move _ rfl rfl)) rfl rfl ?_
    refine Ch.step (v := (.d (.int .i64 ((k : Nat) : Int)))) rfl (.pure (.move _ rfl rfl)) rfl rfl ?_
    refine Ch.step (v := (.d (.int .u8 ((s.getD k 0).toNat : Int)))) rfl (.pure (.idxStr _ _ _ (k) rfl Try.underlying9 rfl rfl rfl (get_str (by first | omega | (simp only [List.length_map, List.length_append, List.length_take, List.length_drop, List.length_cons, List.length_nil]; omega) | (simp; omega) | (simp; done))))) rfl rfl ?_
    refine Ch.step (v := (.d (.bool (!(decide (((s.getD k 0) : UInt8) = 48)))))) rfl (.pure (.int _ _ _ _ _ rfl rfl rfl (u8_neq ((s.getD k 0) : UInt8) 48 rfl rfl))) rfl rfl ?_
    refine Ch.step (v := (.d (.bool (!(decide (((s.getD k 0) : UInt8) = 48)))))) rfl (.pure (.move _ rfl rfl)) rfl rfl ?_
    cases h2 : (decide (((s.getD k 0) : UInt8) = 48)) with
    | true =>
      replace h2 := of_decide_eq_true h2
      refine Ch.skip rfl rfl ?_
      refine Ch.skip rfl rfl ?_
      refine Ch.skip rfl rfl ?_
      refine Ch.skip rfl rfl ?_
      refine Ch.step (v := (.d (.bool false))) rfl (.pure (.pickF _ _ _ rfl rfl rfl)) rfl rfl ?_
      refine Ch.step (v := (.d (.bool false))) rfl (.pure (.move _ rfl rfl)) rfl rfl ?_
      refine Ch.skip rfl rfl ?_
      refine Ch.skip rfl rfl ?_
      refine Ch.skip rfl rfl ?_
      refine Ch.skip rfl rfl ?_
      refine Ch.step (v := (.d (.bool false))) rfl (.pure (.pickF _ _ _ rfl rfl rfl)) rfl rfl ?_
      refine Ch.nil ?_
      refine T_cond (b := false) rfl (fun h => nomatch h) (fun _ => ?_)
      refine T_skip ?_
      refine T_region hc ?_
      refine Ch.step (v := (.d (.int .i64 ((k : Nat) : Int)))) rfl (.pure (.move _ rfl rfl)) rfl rfl ?_
      refine Ch.step (v := (.d (.int .i64 (((k : Nat) : Int) + 1)))) rfl (.pure (.int _ _ _ _ _ rfl rfl rfl (intV_add (by first | omega | (simp only [List.length_map, List.length_append, List.length_take, List.length_drop, List.length_cons, List.length_nil]; omega) | (simp; omega) | (simp; done)) (by first | omega | (simp only [List.length_map, List.length_append, List.length_take, List.length_drop, List.length_cons, List.length_nil]; omega) | (simp; omega) | (simp; done))))) rfl rfl ?_
      refine Ch.step (v := (.d (.int .i64 (((k : Nat) : Int) + 1)))) rfl (.pure (.assign _ rfl rfl)) rfl rfl ?_
      refine Ch.nil ?_
      refine Exists.intro (k + 1) (And.intro ⟨by omega, upto_succ hp0.2 (by simp_all [cubeCh])⟩ (And.intro (by first | omega | (dsimp only; omega)) (Wk.of rfl rfl (And.intro rfl (And.intro rfl (And.intro (vI (by first | rfl | omega | (simp; done) | (simp; omega))) trivial))) trivial)))
    | false =>
      replace h2 := of_decide_eq_false h2
      refine Ch.step (v := (.d (.str s))) rfl (.pure (.move _ rfl rfl)) rfl rfl ?_
      refine Ch.step (v := (.d (.int .i64 ((k : Nat) : Int)))) rfl (.pure (.move _ rfl rfl)) rfl rfl ?_
      refine Ch.step (v := (.d (.int .u8 ((s.getD k 0).toNat : Int)))) rfl (.pure (.idxStr _ _ _ (k) rfl Try.underlying9 rfl rfl rfl (get_str (by first | omega | (simp only [List.length_map, List.length_append, List.length_take, List.length_drop, List.length_cons, List.length_nil]; omega) | (simp; omega) | (simp; done))))) rfl rfl ?_
      refine Ch.step (v := (.d (.bool (!(decide (((s.getD k 0) : UInt8) = 49)))))) rfl (.pure (.int _ _ _ _ _ rfl rfl rfl (u8_neq ((s.getD k 0) : UInt8) 49 rfl rfl))) rfl rfl ?_
      refine Ch.step (v := (.d (.bool (!(decide (((s.getD k 0) : UInt8) = 49)))))) rfl (.pure (.pickT _ _ _ rfl rfl rfl)) rfl rfl ?_
      refine Ch.step (v := (.d (.bool (!(decide (((s.getD k 0) : UInt8) = 49)))))) rfl (.pure (.move _ rfl rfl)) rfl rfl ?_
      cases h3 : (decide (((s.getD k 0) : UInt8) = 49)) with
      | true =>
        replace h3 := of_decide_eq_true h3
        refine Ch.skip rfl rfl ?_
        refine Ch.skip rfl rfl ?_
        refine Ch.skip rfl rfl ?_
        refine Ch.skip rfl rfl ?_
        refine Ch.step (v := (.d (.bool false))) rfl (.pure (.pickF _ _ _ rfl rfl rfl)) rfl rfl ?_
        refine Ch.nil ?_
        refine T_cond (b := false) rfl (fun h => nomatch h) (fun _ => ?_)
        refine T_skip ?_
        refine T_region hc ?_
        refine Ch.step (v := (.d (.int .i64 ((k : Nat) : Int)))) rfl (.pure (.move _ rfl rfl)) rfl rfl ?_
        refine Ch.step (v := (.d (.int .i64 (((k : Nat) : Int) + 1)))) rfl (.pure (.int _ _ _ _ _ rfl rfl rfl (intV_add (by first | omega | (simp only [List.length_map, List.length_append, List.length_take, List.length_drop, List.length_cons, List.length_nil]; omega) | (simp; omega) | (simp; done)) (by first | omega | (simp only [List.length_map, List.length_append, List.length_take, List.length_drop, List.length_cons, List.length_nil]; omega) | (simp; omega) | (simp; done))))) rfl rfl ?_
        refine Ch.step (v := (.d (.int .i64 (((k : Nat) : Int) + 1)))) rfl (.pure (.assign _ rfl rfl)) rfl rfl ?_
        refine Ch.nil ?_
        refine Exists.intro (k + 1) (And.intro ⟨by omega, upto_succ hp0.2 (by simp_all [cubeCh])⟩ (And.intro (by first | omega | (dsimp only; omega)) (Wk.of rfl rfl (And.intro rfl (And.intro rfl (And.intro (vI (by first | rfl | omega | (simp; done) | (simp; omega))) trivial))) trivial)))
      | false =>
        replace h3 := of_decide_eq_false h3
        refine Ch.step (v := (.d (.str s))) rfl (.pure (.move _ rfl rfl)) rfl rfl ?_
        refine Ch.step (v := (.d (.int .i64 ((k : Nat) : Int)))) rfl (.pure (.move _ rfl rfl)) rfl rfl ?_
        refine Ch.step (v := (.d (.int .u8 ((s.getD k 0).toNat : Int)))) rfl (.pure (.idxStr _ _ _ (k) rfl Try.underlying9 rfl rfl rfl (get_str (by first | omega | (simp only [List.length_map, List.length_append, List.length_take, List.length_drop, List.length_cons, List.length_nil]; omega) | (simp; omega) | (simp; done))))) rfl rfl ?_
        refine Ch.step (v := (.d (.bool (!(decide (((s.getD k 0) : UInt8) = 45)))))) rfl (.pure (.int _ _ _ _ _ rfl rfl rfl (u8_neq ((s.getD k 0) : UInt8) 45 rfl rfl))) rfl rfl ?_
        refine Ch.step (v := (.d (.bool (!(decide (((s.getD k 0) : UInt8) = 45)))))) rfl (.pure (.pickT _ _ _ rfl rfl rfl)) rfl rfl ?_
        refine Ch.nil ?_
        refine T_cond (b := (!(decide (((s.getD k 0) : UInt8) = 45)))) rfl (fun h4 => ?_) (fun h4 => ?_)
        · replace h4 := nott h4
          replace h4 := of_decide_eq_false h4
          refine T_seq ?_
          refine T_region hc ?_
          refine Ch.step (v := (.d (.bool false))) rfl (.pure (.assign _ rfl rfl)) rfl rfl ?_
          refine Ch.nil ?_
          refine T_ret ?_
          refine And.intro (.inr rfl) ?_
          exact Exists.intro [(.d (.bool false))] (Exists.intro [] (Exists.intro [] (And.intro (.cons (.tmp 4 rfl) .nil) (And.intro (.cons (.any _) (.cons (.any _) .nil)) (And.intro (Exp.of (congrArg D.bool (by rw [cubeN, cubeS, allB_no k (by omega) (by simp_all [cubeCh])]; rfl)) (.d _)) (And.intro rfl rfl))))))
        · replace h4 := notf h4
          replace h4 := of_decide_eq_true h4
          refine T_skip ?_
          refine T_region hc ?_
          refine Ch.step (v := (.d (.int .i64 ((k : Nat) : Int)))) rfl (.pure (.move _ rfl rfl)) rfl rfl ?_
          refine Ch.step (v := (.d (.int .i64 (((k : Nat) : Int) + 1)))) rfl (.pure (.int _ _ _ _ _ rfl rfl rfl (intV_add (by first | omega | (simp only [List.length_map, List.length_append, List.length_take, List.length_drop, List.length_cons, List.length_nil]; omega) | (simp; omega) | (simp; done)) (by first | omega | (simp only [List.length_map, List.length_append, List.length_take, List.length_drop, List.length_cons, List.length_nil]; omega) | (simp; omega) | (simp; done))))) rfl rfl ?_
          refine Ch.step (v := (.d (.int .i64 (((k : Nat) : Int) + 1)))) rfl (.pure (.assign _ rfl rfl)) rfl rfl ?_
          refine Ch.nil ?_
          refine Exists.intro (k + 1) (And.intro ⟨by omega, upto_succ hp0.2 (by simp_all [cubeCh])⟩ (And.intro (by first | omega | (dsimp only; omega)) (Wk.of rfl rfl (And.intro rfl (And.intro rfl (And.intro (vI (by first | rfl | omega | (simp; done) | (simp; omega))) trivial))) trivial)))
  · replace h1 := of_decide_eq_false h1
    refine T_exit ?_
    refine T_seq ?_
    refine T_region hc ?_
    refine Ch.step (v := (.d (.str s))) rfl (.pure (.move _ rfl rfl)) rfl rfl ?_
    refine Ch.step (v := (.d (.int .i64 ((s.length : Nat) : Int)))) rfl (.pure (.lenStr _ _ rfl Try.underlying9 rfl)) rfl rfl ?_
    refine Ch.step (v := (.d (.int .i64 n))) rfl (.pure (.move _ rfl rfl)) rfl rfl ?_
    refine Ch.step (v := (.d (.bool (decide (((s.length : Nat) : Int) = n))))) rfl (.pure (.int _ _ _ _ _ rfl rfl rfl rfl)) rfl rfl ?_
    refine Ch.step (v := (.d (.bool (decide (((s.length : Nat) : Int) = n))))) rfl (.pure (.move _ rfl rfl)) rfl rfl ?_
    cases h5 : (decide (((s.length : Nat) : Int) = n)) with
    | true =>
      replace h5 := of_decide_eq_true h5
      refine Ch.step (v := (.d (.int .i64 n))) rfl (.pure (.move _ rfl rfl)) rfl rfl ?_
      refine Ch.step (v := (.d (.bool (withinB n 1 8)))) rfl (.call 34000 98 _ _ _ en98 rfl (.inl rfl) (.cons (.d _) (.cons (.d _) (.cons (.d _) .nil))) rfl rfl (sp_impl_within n 1 8) (.skip _ _ (.skip _ _ (.skip _ _ .nil))) rfl) rfl rfl ?_
      refine Ch.step (v := (.d (.bool (withinB n 1 8)))) rfl (.pure (.pickT _ _ _ rfl rfl rfl)) rfl rfl ?_
      refine Ch.step (v := (.d (.bool (withinB n 1 8)))) rfl (.pure (.assign _ rfl rfl)) rfl rfl ?_
      refine Ch.nil ?_
      refine T_ret ?_
      refine And.intro (.inr rfl) ?_
      exact Exists.intro [(.d (.bool (withinB n 1 8)))] (Exists.intro [] (Exists.intro [] (And.intro (.cons (.tmp 4 rfl) .nil) (And.intro (.cons (.any _) (.cons (.any _) .nil)) (And.intro (Exp.of (congrArg D.bool (by rw [cubeN, cubeS, allB_of (fun j hj => hp0.2 j (by omega))]; simp_all)) (.d _)) (And.intro rfl rfl))))))
    | false =>
      replace h5 := of_decide_eq_false h5
      refine Ch.skip rfl rfl ?_
      refine Ch.skip rfl rfl ?_
      refine Ch.step (v := (.d (.bool false))) rfl (.pure (.pickF _ _ _ rfl rfl rfl)) rfl rfl ?_
      refine Ch.step (v := (.d (.bool false))) rfl (.pure (.assign _ rfl rfl)) rfl rfl ?_
      refine Ch.nil ?_
      refine T_ret ?_
      refine And.intro (.inr rfl) ?_
      exact Exists.intro [(.d (.bool false))] (Exists.intro [] (Exists.intro [] (And.intro (.cons (.tmp 4 rfl) .nil) (And.intro (.cons (.any _) (.cons (.any _) .nil)) (And.intro (Exp.of (congrArg D.bool (by rw [cubeN, cubeS, allB_of (fun j hj => hp0.2 j (by omega))]; simp_all)) (.d _)) (And.intro rfl rfl))))))



def isInCh (x y : UInt8) : Bool := y == 45 || y == x
def isInB (a b : List UInt8) : Bool := allB a.length fun j => isInCh (a.getD j 0) (b.getD j 0)
def meetCh (x y : UInt8) : Bool := x == y || x == 45 || y == 45
def meetOf (x y : UInt8) : UInt8 := if x = y ∨ y = 45 then x else y
def meetB (a b : List UInt8) : Bool := allB a.length fun j => meetCh (a.getD j 0) (b.getD j 0)
def meetS (a b : List UInt8) (k : Nat) : List UInt8 := tab k fun j => meetOf (a.getD j 0) (b.getD j 0)
def meetR (a b : List UInt8) : List UInt8 := if meetB a b then meetS a b a.length else []
theorem meetS_a {a b : List UInt8} {k : Nat} (h : a.getD k 0 = b.getD k 0 ∨ b.getD k 0 = 45) : meetS a b k ++ [a.getD k 0] = meetS a b (k + 1) := by
  rw [meetS, meetS, tab_succ, meetOf, if_pos h]
theorem meetS_b {a b : List UInt8} {k : Nat} (h : a.getD k 0 = 45 ∨ a.getD k 0 = b.getD k 0) : meetS a b k ++ [b.getD k 0] = meetS a b (k + 1) := by
  rw [meetS, meetS, tab_succ, meetOf]
  split
  · rename_i h2; rcases h with h | h
    · rcases h2 with h2 | h2
      · rw [h2]
      · rw [h, h2]
    · rw [h]
  · rfl
theorem meetS_0 (a b : List UInt8) : [] = meetS a b 0 := rfl
@[simp] theorem meetS_length (a b : List UInt8) (k : Nat) : (meetS a b k).length = k := by simp [meetS]







def subB (a b : List UInt8) : Bool := twoB a b && isInB a b
def interR (a b : List UInt8) : List UInt8 := if twoB a b then meetR a b else []
def interB (a b : List UInt8) : Bool := twoB a b && meetB a b
theorem twoB_len {a b : List UInt8} (h : twoB a b = true) : b.length = a.length := by simp [twoB] at h; omega

theorem two_eq (a b : List UInt8) : twoB a b = (cubeN a a.length && cubeN b a.length) := by
  by_cases h : b.length = a.length
  · simp [twoB, cubeN, cubeB, h]
  · have h2 : decide ((a.length : Int) = b.length) = false := decide_eq_false (by omega)
    have h3 : decide ((b.length : Int) = a.length) = false := decide_eq_false (by omega)
    rw [twoB, cubeN, cubeN, h2, h3]; simp
theorem cubeN_len {b : List UInt8} {n : Nat} (h : cubeN b n = true) : b.length = n := by simp [cubeN] at h; omega
theorem isIn_eq (a b : List UInt8) : isInB a b = (meetB a b && decide (meetR a b = a)) := by
  have hp : ∀ x y : UInt8, isInCh x y = true ↔ meetCh x y = true ∧ meetOf x y = x := by
    intro x y
    simp only [isInCh, meetCh, meetOf, Bool.or_eq_true, beq_iff_eq]
    constructor
    · rintro (h | h)
      · simp [h]
      · simp [h]
    · rintro ⟨_, h⟩
      split at h
      · rename_i h2; exact h2.symm.imp id Eq.symm
      · exact .inr h
  rw [Bool.eq_iff_iff, Bool.and_eq_true, decide_eq_true_iff, meetR]
  constructor
  · intro h
    have h := allB_true.1 h
    have hm : meetB a b = true := allB_of fun j hj => ((hp _ _).1 (h j hj)).1
    refine ⟨hm, ?_⟩
    rw [if_pos hm, meetS, tab_eq 0 rfl]
    exact fun j hj => ((hp _ _).1 (h j hj)).2
  · rintro ⟨h1, h2⟩
    rw [if_pos h1, meetS, tab_eq 0 rfl] at h2
    exact allB_of fun j hj => (hp _ _).2 ⟨allB_true.1 h1 j hj, h2 j hj⟩













end Go.AM
