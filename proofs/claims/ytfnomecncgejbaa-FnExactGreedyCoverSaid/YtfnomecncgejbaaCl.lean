/-
  Contracts: EqualOnOffSets.
-/
import Derived.Test.YtfnomecncgejbaaCk
namespace Go.AM
open Go.Proofs
set_option linter.unusedVariables false
set_option linter.unusedSimpArgs false



theorem sp_spec_l1SameS (xs ys : List (List UInt8)) (hn : xs.length ≤ 1048576) : Sp Try.prog 64 [(.slice false 1 (xs.map D.str)), (.slice false 1 (ys.map D.str))] [.any, .any] (.bool (decide (xs = ys))) := by
  refine Sp_intro (lend := true) Try.func64 rfl rfl rfl (fun _ => rfl) (fun c hc hX => ?_)
  refine T_seq ?_
  refine T_region hc ?_
  refine Ch.step (v := (.d (.bool false))) rfl (.pure (.assign _ rfl rfl)) rfl rfl ?_
  refine Ch.nil ?_
  refine T_seq ?_
  refine T_seq ?_
  refine T_region hc ?_
  refine Ch.step (v := (.d (.slice false 1 (xs.map D.str)))) rfl (.pure (.move _ rfl rfl)) rfl rfl ?_
  refine Ch.step (v := (.d (.int .i64 ((xs.length : Nat) : Int)))) rfl (.pure (.len _ _ 9 rfl Try.underlying22 (.sh _ _) (by simp))) rfl rfl ?_
  refine Ch.step (v := (.d (.slice false 1 (ys.map D.str)))) rfl (.pure (.move _ rfl rfl)) rfl rfl ?_
  refine Ch.step (v := (.d (.int .i64 ((ys.length : Nat) : Int)))) rfl (.pure (.len _ _ 9 rfl Try.underlying22 (.sh _ _) (by simp))) rfl rfl ?_
  refine Ch.step (v := (.d (.bool (!(decide (((xs.length : Nat) : Int) = ((ys.length : Nat) : Int))))))) rfl (.pure (.int _ _ _ _ _ rfl rfl rfl rfl)) rfl rfl ?_
  refine Ch.nil ?_
  refine T_cond (b := (!(decide (((xs.length : Nat) : Int) = ((ys.length : Nat) : Int))))) rfl (fun h1 => ?_) (fun h1 => ?_)
  · replace h1 := nott h1
    replace h1 := of_decide_eq_false h1
    refine T_seq ?_
    refine T_region hc ?_
    refine Ch.step (v := (.d (.bool false))) rfl (.pure (.assign _ rfl rfl)) rfl rfl ?_
    refine Ch.nil ?_
    refine T_ret ?_
    refine And.intro (.inr rfl) ?_
    exact Exists.intro [(.d (.bool false))] (Exists.intro [] (Exists.intro [] (And.intro (.cons (.tmp 4 rfl) .nil) (And.intro (.cons (.any _) (.cons (.any _) .nil)) (And.intro (Exp.of (congrArg D.bool (by exact eqL_len (by omega))) (.d _)) (And.intro rfl rfl))))))
  · replace h1 := notf h1
    replace h1 := of_decide_eq_true h1
    refine T_skip ?_
    refine T_seq ?_
    refine T_seq ?_
    refine T_region hc ?_
    refine Ch.step (v := (.d (.slice false 1 (xs.map D.str)))) rfl (.pure (.move _ rfl rfl)) rfl rfl ?_
    refine Ch.step (v := (.d (.int .i64 ((xs.length : Nat) : Int)))) rfl (.pure (.len _ _ 9 rfl Try.underlying22 (.sh _ _) (by simp))) rfl rfl ?_
    refine Ch.step (v := (.d (.int .i64 0))) rfl (.pure (.move _ rfl rfl)) rfl rfl ?_
    refine Ch.nil ?_
    refine T_block ?_
    refine T_loop (ι := Nat) (fun k => { n := 26, sl := [(0, (.d (.slice false 1 (xs.map D.str)))), (1, (.d (.slice false 1 (ys.map D.str)))), (12, (.d (.int .i64 ((xs.length : Nat) : Int)))), (13, (.d (.int .i64 ((k : Nat) : Int))))], hp := [], pin := [] }) (fun k => k ≤ xs.length ∧ ∀ j, j < k → xs.getD j default = ys.getD j default) (fun k => xs.length - k) ⟨0, ⟨by omega, fun j hj => by omega⟩, (Wk.of rfl rfl (And.intro rfl (And.intro rfl (And.intro rfl (And.intro (vI (by first | rfl | omega | (simp; done) | (simp; omega))) trivial)))) trivial)⟩ (fun k hp0 => ?_)
    refine T_seq ?_
    refine T_region hc ?_
    refine Ch.step (v := (.d (.bool (decide (((k : Nat) : Int) < ((xs.length : Nat) : Int)))))) rfl (.pure (.int _ _ _ _ _ rfl rfl rfl rfl)) rfl rfl ?_
    refine Ch.nil ?_
    refine T_seq ?_
    refine T_cond (b := (decide (((k : Nat) : Int) < ((xs.length : Nat) : Int)))) rfl (fun h2 => ?_) (fun h2 => ?_)
    · replace h2 := of_decide_eq_true h2
      refine T_skip ?_
      refine T_seq ?_
      refine T_block ?_
      refine T_seq ?_
      refine T_region hc ?_
      refine Ch.step (v := (.d (.int .i64 ((k : Nat) : Int)))) rfl (.pure (.move _ rfl rfl)) rfl rfl ?_
      refine Ch.step (v := (.d (.int .i64 ((k : Nat) : Int)))) rfl (.pure (.assign _ rfl rfl)) rfl rfl ?_
      refine Ch.nil ?_
      refine T_seq ?_
      refine T_regionD hc (by kernel_rfl) ?_
      refine ChD.step (v := (.d (.slice false 1 (xs.map D.str)))) [] rfl (.pure (.move _ rfl rfl)) rfl rfl ?_
      refine ChD.step (v := (.d (.int .i64 ((k : Nat) : Int)))) [] rfl (.pure (.move _ rfl rfl)) rfl rfl ?_
      refine ChD.step (v := (.d (.ref (.str (xs.getD k default))))) [] rfl (.pure (.idx _ _ _ 9 (k) rfl Try.underlying22 sz9 rfl rfl rfl (get_map _ (by first | omega | (simp only [List.length_map, List.length_append, List.length_take, List.length_drop, List.length_cons, List.length_nil]; omega) | (simp; omega) | (simp; done))))) rfl rfl ?_
      refine ChD.step (v := (.d (.str (xs.getD k default)))) [] rfl (.pure (.loadRef1 _ _ rfl ag9 rfl rfl)) rfl rfl ?_
      refine ChD.step (v := (.d (.slice false 1 (ys.map D.str)))) [] rfl (.pure (.move _ rfl rfl)) rfl rfl ?_
      refine ChD.step (v := (.d (.int .i64 ((k : Nat) : Int)))) [] rfl (.pure (.move _ rfl rfl)) rfl rfl ?_
      refine ChD.step (v := (.d (.ref (.str (ys.getD k default))))) [] rfl (.pure (.idx _ _ _ 9 (k) rfl Try.underlying22 sz9 rfl rfl rfl (get_map _ (by first | omega | (simp only [List.length_map, List.length_append, List.length_take, List.length_drop, List.length_cons, List.length_nil]; omega) | (simp; omega) | (simp; done))))) rfl rfl ?_
      refine ChD.step (v := (.d (.str (ys.getD k default)))) [] rfl (.pure (.loadRef1 _ _ rfl ag9 rfl rfl)) rfl rfl ?_
      refine ChD.step (v := (.d (.bool (!(decide ((xs.getD k default) = (ys.getD k default))))))) [] rfl (.pure (.str _ _ _ _ _ rfl rfl rfl rfl)) rfl rfl ?_
      refine ChD.nil (And.intro ?_ (by kernel_rfl))
      refine T_cond (b := (!(decide ((xs.getD k default) = (ys.getD k default))))) rfl (fun h3 => ?_) (fun h3 => ?_)
      · replace h3 := nott h3
        replace h3 := of_decide_eq_false h3
        refine T_seq ?_
        refine T_region hc ?_
        refine Ch.step (v := (.d (.bool false))) rfl (.pure (.assign _ rfl rfl)) rfl rfl ?_
        refine Ch.nil ?_
        refine T_ret ?_
        refine And.intro (.inr rfl) ?_
        exact Exists.intro [(.d (.bool false))] (Exists.intro [] (Exists.intro [] (And.intro (.cons (.tmp 4 rfl) .nil) (And.intro (.cons (.any _) (.cons (.any _) .nil)) (And.intro (Exp.of (congrArg D.bool (by exact eqL_at default k (by assumption))) (.d _)) (And.intro rfl rfl))))))
      · replace h3 := notf h3
        replace h3 := of_decide_eq_true h3
        refine T_skip ?_
        refine T_region hc ?_
        refine Ch.step (v := (.d (.int .i64 (((k : Nat) : Int) + 1)))) rfl (.pure (.int _ _ _ _ _ rfl rfl rfl (intV_add (by first | omega | (simp only [List.length_map, List.length_append, List.length_take, List.length_drop, List.length_cons, List.length_nil]; omega) | (simp; omega) | (simp; done)) (by first | omega | (simp only [List.length_map, List.length_append, List.length_take, List.length_drop, List.length_cons, List.length_nil]; omega) | (simp; omega) | (simp; done))))) rfl rfl ?_
        refine Ch.step (v := (.d (.int .i64 (((k : Nat) : Int) + 1)))) rfl (.pure (.move _ rfl rfl)) rfl rfl ?_
        refine Ch.nil ?_
        refine Exists.intro (k + 1) (And.intro ⟨by omega, upto_succ hp0.2 (by assumption)⟩ (And.intro (by first | omega | (dsimp only; omega)) (Wk.of rfl rfl (And.intro rfl (And.intro rfl (And.intro rfl (And.intro (vI (by first | rfl | omega | (simp; done) | (simp; omega))) trivial)))) trivial)))
    · replace h2 := of_decide_eq_false h2
      refine T_exit ?_
      refine T_seq ?_
      refine T_region hc ?_
      refine Ch.step (v := (.d (.bool true))) rfl (.pure (.assign _ rfl rfl)) rfl rfl ?_
      refine Ch.nil ?_
      refine T_ret ?_
      refine And.intro (.inr rfl) ?_
      exact Exists.intro [(.d (.bool true))] (Exists.intro [] (Exists.intro [] (And.intro (.cons (.tmp 4 rfl) .nil) (And.intro (.cons (.any _) (.cons (.any _) .nil)) (And.intro (Exp.of (congrArg D.bool (by exact eqL_all default (by omega) (fun j hj => hp0.2 j (by omega)))) (.d _)) (And.intro rfl rfl))))))

theorem sp_Equal_str (xs ys : List (List UInt8)) (hn : xs.length ≤ 1048576) : Sp Try.prog 65 [(.slice false 1 (xs.map D.str)), (.slice false 1 (ys.map D.str))] [.any, .any] (.bool (decide (xs = ys))) := by
  refine Sp_intro (lend := true) Try.func65 rfl rfl rfl (fun _ => rfl) (fun c hc hX => ?_)
  refine T_seq ?_
  refine T_region hc ?_
  refine Ch.step (v := (.d (.bool false))) rfl (.pure (.assign _ rfl rfl)) rfl rfl ?_
  refine Ch.nil ?_
  refine T_seq ?_
  refine T_seq ?_
  refine T_region hc ?_
  refine Ch.step (v := (.d (.slice false 1 (xs.map D.str)))) rfl (.pure (.move _ rfl rfl)) rfl rfl ?_
  refine Ch.step (v := (.d (.int .i64 ((xs.length : Nat) : Int)))) rfl (.pure (.len _ _ 9 rfl Try.underlying22 (.sh _ _) (by simp))) rfl rfl ?_
  refine Ch.step (v := (.d (.slice false 1 (ys.map D.str)))) rfl (.pure (.move _ rfl rfl)) rfl rfl ?_
  refine Ch.step (v := (.d (.int .i64 ((ys.length : Nat) : Int)))) rfl (.pure (.len _ _ 9 rfl Try.underlying22 (.sh _ _) (by simp))) rfl rfl ?_
  refine Ch.step (v := (.d (.bool (!(decide (((xs.length : Nat) : Int) = ((ys.length : Nat) : Int))))))) rfl (.pure (.int _ _ _ _ _ rfl rfl rfl rfl)) rfl rfl ?_
  refine Ch.nil ?_
  refine T_cond (b := (!(decide (((xs.length : Nat) : Int) = ((ys.length : Nat) : Int))))) rfl (fun h1 => ?_) (fun h1 => ?_)
  · replace h1 := nott h1
    replace h1 := of_decide_eq_false h1
    refine T_seq ?_
    refine T_region hc ?_
    refine Ch.step (v := (.d (.bool false))) rfl (.pure (.assign _ rfl rfl)) rfl rfl ?_
    refine Ch.nil ?_
    refine T_ret ?_
    refine And.intro (.inr rfl) ?_
    exact Exists.intro [(.d (.bool false))] (Exists.intro [] (Exists.intro [] (And.intro (.cons (.tmp 4 rfl) .nil) (And.intro (.cons (.any _) (.cons (.any _) .nil)) (And.intro (Exp.of (congrArg D.bool (by exact eqL_len (by omega))) (.d _)) (And.intro rfl rfl))))))
  · replace h1 := notf h1
    replace h1 := of_decide_eq_true h1
    refine T_skip ?_
    refine T_seq ?_
    refine T_seq ?_
    refine T_region hc ?_
    refine Ch.step (v := (.d (.slice false 1 (xs.map D.str)))) rfl (.pure (.move _ rfl rfl)) rfl rfl ?_
    refine Ch.step (v := (.d (.int .i64 ((xs.length : Nat) : Int)))) rfl (.pure (.len _ _ 9 rfl Try.underlying22 (.sh _ _) (by simp))) rfl rfl ?_
    refine Ch.step (v := (.d (.int .i64 0))) rfl (.pure (.move _ rfl rfl)) rfl rfl ?_
    refine Ch.nil ?_
    refine T_block ?_
    refine T_loop (ι := Nat) (fun k => { n := 26, sl := [(0, (.d (.slice false 1 (xs.map D.str)))), (1, (.d (.slice false 1 (ys.map D.str)))), (12, (.d (.int .i64 ((xs.length : Nat) : Int)))), (13, (.d (.int .i64 ((k : Nat) : Int))))], hp := [], pin := [] }) (fun k => k ≤ xs.length ∧ ∀ j, j < k → xs.getD j default = ys.getD j default) (fun k => xs.length - k) ⟨0, ⟨by omega, fun j hj => by omega⟩, (Wk.of rfl rfl (And.intro rfl (And.intro rfl (And.intro rfl (And.intro (vI (by first | rfl | omega | (simp; done) | (simp; omega))) trivial)))) trivial)⟩ (fun k hp0 => ?_)
    refine T_seq ?_
    refine T_region hc ?_
    refine Ch.step (v := (.d (.bool (decide (((k : Nat) : Int) < ((xs.length : Nat) : Int)))))) rfl (.pure (.int _ _ _ _ _ rfl rfl rfl rfl)) rfl rfl ?_
    refine Ch.nil ?_
    refine T_seq ?_
    refine T_cond (b := (decide (((k : Nat) : Int) < ((xs.length : Nat) : Int)))) rfl (fun h2 => ?_) (fun h2 => ?_)
    · replace h2 := of_decide_eq_true h2
      refine T_skip ?_
      refine T_seq ?_
      refine T_block ?_
      refine T_seq ?_
      refine T_region hc ?_
      refine Ch.step (v := (.d (.int .i64 ((k : Nat) : Int)))) rfl (.pure (.move _ rfl rfl)) rfl rfl ?_
      refine Ch.step (v := (.d (.int .i64 ((k : Nat) : Int)))) rfl (.pure (.assign _ rfl rfl)) rfl rfl ?_
      refine Ch.nil ?_
      refine T_seq ?_
      refine T_regionD hc (by kernel_rfl) ?_
      refine ChD.step (v := (.d (.slice false 1 (xs.map D.str)))) [] rfl (.pure (.move _ rfl rfl)) rfl rfl ?_
      refine ChD.step (v := (.d (.int .i64 ((k : Nat) : Int)))) [] rfl (.pure (.move _ rfl rfl)) rfl rfl ?_
      refine ChD.step (v := (.d (.ref (.str (xs.getD k default))))) [] rfl (.pure (.idx _ _ _ 9 (k) rfl Try.underlying22 sz9 rfl rfl rfl (get_map _ (by first | omega | (simp only [List.length_map, List.length_append, List.length_take, List.length_drop, List.length_cons, List.length_nil]; omega) | (simp; omega) | (simp; done))))) rfl rfl ?_
      refine ChD.step (v := (.d (.str (xs.getD k default)))) [] rfl (.pure (.loadRef1 _ _ rfl ag9 rfl rfl)) rfl rfl ?_
      refine ChD.step (v := (.d (.slice false 1 (ys.map D.str)))) [] rfl (.pure (.move _ rfl rfl)) rfl rfl ?_
      refine ChD.step (v := (.d (.int .i64 ((k : Nat) : Int)))) [] rfl (.pure (.move _ rfl rfl)) rfl rfl ?_
      refine ChD.step (v := (.d (.ref (.str (ys.getD k default))))) [] rfl (.pure (.idx _ _ _ 9 (k) rfl Try.underlying22 sz9 rfl rfl rfl (get_map _ (by first | omega | (simp only [List.length_map, List.length_append, List.length_take, List.length_drop, List.length_cons, List.length_nil]; omega) | (simp; omega) | (simp; done))))) rfl rfl ?_
      refine ChD.step (v := (.d (.str (ys.getD k default)))) [] rfl (.pure (.loadRef1 _ _ rfl ag9 rfl rfl)) rfl rfl ?_
      refine ChD.step (v := (.d (.bool (!(decide ((xs.getD k default) = (ys.getD k default))))))) [] rfl (.pure (.str _ _ _ _ _ rfl rfl rfl rfl)) rfl rfl ?_
      refine ChD.nil (And.intro ?_ (by kernel_rfl))
      refine T_cond (b := (!(decide ((xs.getD k default) = (ys.getD k default))))) rfl (fun h3 => ?_) (fun h3 => ?_)
      · replace h3 := nott h3
        replace h3 := of_decide_eq_false h3
        refine T_seq ?_
        refine T_region hc ?_
        refine Ch.step (v := (.d (.bool false))) rfl (.pure (.assign _ rfl rfl)) rfl rfl ?_
        refine Ch.nil ?_
        refine T_ret ?_
        refine And.intro (.inr rfl) ?_
        exact Exists.intro [(.d (.bool false))] (Exists.intro [] (Exists.intro [] (And.intro (.cons (.tmp 4 rfl) .nil) (And.intro (.cons (.any _) (.cons (.any _) .nil)) (And.intro (Exp.of (congrArg D.bool (by exact eqL_at default k (by assumption))) (.d _)) (And.intro rfl rfl))))))
      · replace h3 := notf h3
        replace h3 := of_decide_eq_true h3
        refine T_skip ?_
        refine T_region hc ?_
        refine Ch.step (v := (.d (.int .i64 (((k : Nat) : Int) + 1)))) rfl (.pure (.int _ _ _ _ _ rfl rfl rfl (intV_add (by first | omega | (simp only [List.length_map, List.length_append, List.length_take, List.length_drop, List.length_cons, List.length_nil]; omega) | (simp; omega) | (simp; done)) (by first | omega | (simp only [List.length_map, List.length_append, List.length_take, List.length_drop, List.length_cons, List.length_nil]; omega) | (simp; omega) | (simp; done))))) rfl rfl ?_
        refine Ch.step (v := (.d (.int .i64 (((k : Nat) : Int) + 1)))) rfl (.pure (.move _ rfl rfl)) rfl rfl ?_
        refine Ch.nil ?_
        refine Exists.intro (k + 1) (And.intro ⟨by omega, upto_succ hp0.2 (by assumption)⟩ (And.intro (by first | omega | (dsimp only; omega)) (Wk.of rfl rfl (And.intro rfl (And.intro rfl (And.intro rfl (And.intro (vI (by first | rfl | omega | (simp; done) | (simp; omega))) trivial)))) trivial)))
    · replace h2 := of_decide_eq_false h2
      refine T_exit ?_
      refine T_seq ?_
      refine T_region hc ?_
      refine Ch.step (v := (.d (.bool true))) rfl (.pure (.assign _ rfl rfl)) rfl rfl ?_
      refine Ch.nil ?_
      refine T_ret ?_
      refine And.intro (.inr rfl) ?_
      exact Exists.intro [(.d (.bool true))] (Exists.intro [] (Exists.intro [] (And.intro (.cons (.tmp 4 rfl) .nil) (And.intro (.cons (.any _) (.cons (.any _) .nil)) (And.intro (Exp.of (congrArg D.bool (by exact eqL_all default (by omega) (fun j hj => hp0.2 j (by omega)))) (.d _)) (And.intro rfl rfl))))))

def szO (a b : List (List UInt8)) (left : Int) : Int := if szS a left < 0 then -1 else if szS b (szS a left) < 0 then -1 else szS b (szS a left)
theorem szO_ok {a b : List (List UInt8)} {left : Int} (h : ¬ szO a b left < 0) : (bulkS a + bulkS b : Int) ≤ left ∧ szO a b left = left - bulkS a - bulkS b := by
  unfold szO at *
  split at h
  · omega
  · rename_i h1
    rw [if_neg h1]
    split at h
    · omega
    · rename_i h2
      rw [if_neg h2]
      have e1 := szS_ok h1
      have e2 := szS_ok h2
      have e3 : szS a left = left - bulkS a := by rw [szS, if_pos e1]
      have e4 : szS b (szS a left) = szS a left - bulkS b := by rw [szS, if_pos e2]
      omega
def eqO (a b c d : List (List UInt8)) : Bool := decide (a = c) && decide (b = d)













end Go.AM
