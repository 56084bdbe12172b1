/-
  The contracts that the law FnExactNextValue needs.
-/
import Derived.Test.YtnmlcebejnlikaaGreatAmO
import Derived.Test.YtnmlcebejnlikaaGreatProg
import Derived.KernelRfl
import Derived.Test.YtnmlcebejnlikaaGreatAmP
import Derived.Test.YtnmlcebejnlikaaGreatAmW
import Derived.Test.YtnmlcebejnlikaaGreatAmX
import Derived.Test.YtnmlcebejnlikaaGreatAmY
namespace Go.AM
open Go.Proofs
set_option linter.unusedVariables false
set_option linter.unusedSimpArgs false

def bitN (up : Bool) : UInt8 := if up then 49 else 48

def withinB (n lo hi : Int) : Bool := decide (lo ≤ n) && decide (n ≤ hi)

theorem sp_impl_within (n lo hi : Int) : Sp Tryz.prog 91 [(.int .i64 n), (.int .i64 lo), (.int .i64 hi)] [.any, .any, .any] (.bool (withinB n lo hi)) := by
 refine Sp_intro (lend := true) Tryz.func91 rfl rfl rfl (fun _ => rfl) (fun c hc hX => ?_)
 refine T_seq ?_
 refine T_region hc ?_
 refine Ch.s (.d (.bool false)) (.pure (.assign _ rfl rfl)) ?_
 refine Ch.nil ?_
 refine T_seq ?_
 refine T_region hc ?_
 refine Ch.s (.d (.int .i64 lo)) (.pure (.move _ rfl rfl)) ?_
 refine Ch.s (.d (.int .i64 n)) (.pure (.move _ rfl rfl)) ?_
 refine Ch.s (.d (.bool (decide (lo ≤ n)))) (.pure (.int _ _ _ _ _ rfl rfl rfl rfl)) ?_
 refine Ch.s (.d (.bool (decide (lo ≤ n)))) (.pure (.move _ rfl rfl)) ?_
 cases h1 : (decide (lo ≤ n)) with
 | true =>
  replace h1 := of_decide_eq_true h1
  refine Ch.s (.d (.int .i64 n)) (.pure (.move _ rfl rfl)) ?_
  refine Ch.s (.d (.int .i64 hi)) (.pure (.move _ rfl rfl)) ?_
  refine Ch.s (.d (.bool (decide (n ≤ hi)))) (.pure (.int _ _ _ _ _ rfl rfl rfl rfl)) ?_
  refine Ch.s (.d (.bool (decide (n ≤ hi)))) (.pure (.pickT _ _ _ rfl rfl rfl)) ?_
  refine Ch.s (.d (.bool (decide (n ≤ hi)))) (.pure (.assign _ rfl rfl)) ?_
  refine Ch.nil ?_
  refine T_ret ?_
  refine And.intro (.inr rfl) ?_
  exact Exists.intro [(.d (.bool (decide (n ≤ hi))))] (Exists.intro [] (Exists.intro [] (And.intro (.cons (.tmp 6 rfl) .nil) (And.intro (.cons (.any _) (.cons (.any _) (.cons (.any _) .nil))) (And.intro (Exp.of (congrArg D.bool (by simp [withinB] <;> omega)) (.d _)) (And.intro rfl rfl))))))
 | false =>
  replace h1 := of_decide_eq_false h1
  refine Ch.skip rfl rfl ?_
  refine Ch.skip rfl rfl ?_
  refine Ch.skip rfl rfl ?_
  refine Ch.s (.d (.bool false)) (.pure (.pickF _ _ _ rfl rfl rfl)) ?_
  refine Ch.s (.d (.bool false)) (.pure (.assign _ rfl rfl)) ?_
  refine Ch.nil ?_
  refine T_ret ?_
  refine And.intro (.inr rfl) ?_
  exact Exists.intro [(.d (.bool false))] (Exists.intro [] (Exists.intro [] (And.intro (.cons (.tmp 6 rfl) .nil) (And.intro (.cons (.any _) (.cons (.any _) (.cons (.any _) .nil))) (And.intro (Exp.of (congrArg D.bool (by simp [withinB] <;> omega)) (.d _)) (And.intro rfl rfl))))))

theorem sp_spec_l1In (n lo hi : Int) : Sp Tryz.prog 89 [(.int .i64 n), (.int .i64 lo), (.int .i64 hi)] [.any, .any, .any] (.bool (withinB n lo hi)) := by
 refine Sp_intro (lend := true) Tryz.func89 rfl rfl rfl (fun _ => rfl) (fun c hc hX => ?_)
 refine T_seq ?_
 refine T_region hc ?_
 refine Ch.s (.d (.bool false)) (.pure (.assign _ rfl rfl)) ?_
 refine Ch.nil ?_
 refine T_seq ?_
 refine T_region hc ?_
 refine Ch.s (.d (.int .i64 n)) (.pure (.move _ rfl rfl)) ?_
 refine Ch.s (.d (.int .i64 lo)) (.pure (.move _ rfl rfl)) ?_
 refine Ch.s (.d (.bool (decide (lo ≤ n)))) (.pure (.int _ _ _ _ _ rfl rfl rfl rfl)) ?_
 refine Ch.s (.d (.bool (decide (lo ≤ n)))) (.pure (.move _ rfl rfl)) ?_
 cases h1 : (decide (lo ≤ n)) with
 | true =>
  replace h1 := of_decide_eq_true h1
  refine Ch.s (.d (.int .i64 n)) (.pure (.move _ rfl rfl)) ?_
  refine Ch.s (.d (.int .i64 hi)) (.pure (.move _ rfl rfl)) ?_
  refine Ch.s (.d (.bool (decide (n ≤ hi)))) (.pure (.int _ _ _ _ _ rfl rfl rfl rfl)) ?_
  refine Ch.s (.d (.bool (decide (n ≤ hi)))) (.pure (.pickT _ _ _ rfl rfl rfl)) ?_
  refine Ch.s (.d (.bool (decide (n ≤ hi)))) (.pure (.assign _ rfl rfl)) ?_
  refine Ch.nil ?_
  refine T_ret ?_
  refine And.intro (.inr rfl) ?_
  exact Exists.intro [(.d (.bool (decide (n ≤ hi))))] (Exists.intro [] (Exists.intro [] (And.intro (.cons (.tmp 6 rfl) .nil) (And.intro (.cons (.any _) (.cons (.any _) (.cons (.any _) .nil))) (And.intro (Exp.of (congrArg D.bool (by simp [withinB] <;> omega)) (.d _)) (And.intro rfl rfl))))))
 | false =>
  replace h1 := of_decide_eq_false h1
  refine Ch.skip rfl rfl ?_
  refine Ch.skip rfl rfl ?_
  refine Ch.skip rfl rfl ?_
  refine Ch.s (.d (.bool false)) (.pure (.pickF _ _ _ rfl rfl rfl)) ?_
  refine Ch.s (.d (.bool false)) (.pure (.assign _ rfl rfl)) ?_
  refine Ch.nil ?_
  refine T_ret ?_
  refine And.intro (.inr rfl) ?_
  exact Exists.intro [(.d (.bool false))] (Exists.intro [] (Exists.intro [] (And.intro (.cons (.tmp 6 rfl) .nil) (And.intro (.cons (.any _) (.cons (.any _) (.cons (.any _) .nil))) (And.intro (Exp.of (congrArg D.bool (by simp [withinB] <;> omega)) (.d _)) (And.intro rfl rfl))))))

theorem en89 : Enters Tryz.prog 89 := ⟨_, Tryz.func89, by kernel_rfl, rfl⟩

theorem en91 : Enters Tryz.prog 91 := ⟨_, Tryz.func91, by kernel_rfl, rfl⟩

def cubeCh (x : UInt8) : Bool := x == 48 || x == 49 || x == 45

def cubeS (s : List UInt8) : Bool := allB s.length (fun j => cubeCh (s.getD j 0))

def cubeN (s : List UInt8) (n : Int) : Bool := cubeS s && decide ((s.length : Int) = n) && withinB n 1 8

theorem sp_impl_isCube (s : List UInt8) (n : Int) (hs : s.length ≤ 1048576) : Sp Tryz.prog 127 [(.str s), (.int .i64 n)] [.any, .any] (.bool (cubeN s n)) := by
 refine Sp_intro (lend := true) Tryz.func127 rfl rfl rfl (fun _ => rfl) (fun c hc hX => ?_)
 refine T_seq ?_
 refine T_region hc ?_
 refine Ch.s (.d (.bool false)) (.pure (.assign _ rfl rfl)) ?_
 refine Ch.nil ?_
 refine T_seq ?_
 refine T_seq ?_
 refine T_region hc ?_
 refine Ch.s (.d (.int .i64 0)) (.pure (.assign _ rfl rfl)) ?_
 refine Ch.nil ?_
 refine T_block ?_
 refine T_loop (ι := Nat) (fun k => { n := 36, sl := [(0, (.d (.str s))), (1, (.d (.int .i64 n))), (5, (.d (.int .i64 ((k : Nat) : Int))))], hp := [], pin := [] }) (fun k => k ≤ s.length ∧ ∀ j, j < k → cubeCh (s.getD j 0) = true) (fun k => s.length - k) ⟨0, ⟨by omega, fun j hj => by omega⟩, (Wk.of rfl rfl (And.intro rfl (And.intro rfl (And.intro (vI (by first | rfl | omega | (simp; done) | (simp; omega))) trivial))) trivial)⟩ (fun k hp0 => ?_)
 refine T_seq ?_
 refine T_seq ?_
 refine T_region hc ?_
 refine Ch.s (.d (.int .i64 ((k : Nat) : Int))) (.pure (.move _ rfl rfl)) ?_
 refine Ch.s (.d (.str s)) (.pure (.move _ rfl rfl)) ?_
 refine Ch.s (.d (.int .i64 ((s.length : Nat) : Int))) (.pure (.lenStr _ _ rfl Tryz.underlying9 rfl)) ?_
 refine Ch.s (.d (.bool (decide (((k : Nat) : Int) < ((s.length : Nat) : Int))))) (.pure (.int _ _ _ _ _ rfl rfl rfl rfl)) ?_
 refine Ch.nil ?_
 refine T_cond (b := (decide (((k : Nat) : Int) < ((s.length : Nat) : Int)))) rfl (fun h1 => ?_) (fun h1 => ?_)
 ·
  replace h1 := of_decide_eq_true h1
  refine T_skip ?_
  refine T_seq ?_
  refine T_block ?_
  refine T_seq ?_
  refine T_region hc ?_
  refine Ch.s (.d (.str s)) (.pure (.move _ rfl rfl)) ?_
  refine Ch.s (.d (.int .i64 ((k : Nat) : Int))) (.pure (.move _ rfl rfl)) ?_
  refine Ch.s (.d (.int .u8 ((s.getD k 0).toNat : Int))) (.pure (.idxStr _ _ _ (k) rfl Tryz.underlying9 rfl rfl rfl get_strA)) ?_
  refine Ch.s (.d (.bool (!(decide (((s.getD k 0) : UInt8) = 48))))) (.pure (.int _ _ _ _ _ rfl rfl rfl (u8_neq ((s.getD k 0) : UInt8) 48 rfl rfl))) ?_
  refine Ch.s (.d (.bool (!(decide (((s.getD k 0) : UInt8) = 48))))) (.pure (.move _ rfl rfl)) ?_
  cases h2 : (decide (((s.getD k 0) : UInt8) = 48)) with
  | true =>
   replace h2 := of_decide_eq_true h2
   refine Ch.skip rfl rfl ?_
   refine Ch.skip rfl rfl ?_
   refine Ch.skip rfl rfl ?_
   refine Ch.skip rfl rfl ?_
   refine Ch.s (.d (.bool false)) (.pure (.pickF _ _ _ rfl rfl rfl)) ?_
   refine Ch.s (.d (.bool false)) (.pure (.move _ rfl rfl)) ?_
   refine Ch.skip rfl rfl ?_
   refine Ch.skip rfl rfl ?_
   refine Ch.skip rfl rfl ?_
   refine Ch.skip rfl rfl ?_
   refine Ch.s (.d (.bool false)) (.pure (.pickF _ _ _ rfl rfl rfl)) ?_
   refine Ch.nil ?_
   refine T_cond (b := false) rfl (fun h => nomatch h) (fun _ => ?_)
   refine T_skip ?_
   refine T_region hc ?_
   refine Ch.s (.d (.int .i64 ((k : Nat) : Int))) (.pure (.move _ rfl rfl)) ?_
   refine Ch.s (.d (.int .i64 (((k : Nat) : Int) + 1))) (.pure (.int _ _ _ _ _ rfl rfl rfl intV_addA)) ?_
   refine Ch.s (.d (.int .i64 (((k : Nat) : Int) + 1))) (.pure (.assign _ rfl rfl)) ?_
   refine Ch.nil ?_
   refine Exists.intro (k + 1) (And.intro ⟨by omega, upto_succ hp0.2 (by simp_all [cubeCh])⟩ (And.intro (by first | omega | (dsimp only; omega)) (Wk.of rfl rfl (And.intro rfl (And.intro rfl (And.intro (vI (by first | rfl | omega | (simp; done) | (simp; omega))) trivial))) trivial)))
  | false =>
   replace h2 := of_decide_eq_false h2
   refine Ch.s (.d (.str s)) (.pure (.move _ rfl rfl)) ?_
   refine Ch.s (.d (.int .i64 ((k : Nat) : Int))) (.pure (.move _ rfl rfl)) ?_
   refine Ch.s (.d (.int .u8 ((s.getD k 0).toNat : Int))) (.pure (.idxStr _ _ _ (k) rfl Tryz.underlying9 rfl rfl rfl get_strA)) ?_
   refine Ch.s (.d (.bool (!(decide (((s.getD k 0) : UInt8) = 49))))) (.pure (.int _ _ _ _ _ rfl rfl rfl (u8_neq ((s.getD k 0) : UInt8) 49 rfl rfl))) ?_
   refine Ch.s (.d (.bool (!(decide (((s.getD k 0) : UInt8) = 49))))) (.pure (.pickT _ _ _ rfl rfl rfl)) ?_
   refine Ch.s (.d (.bool (!(decide (((s.getD k 0) : UInt8) = 49))))) (.pure (.move _ rfl rfl)) ?_
   cases h3 : (decide (((s.getD k 0) : UInt8) = 49)) with
   | true =>
    replace h3 := of_decide_eq_true h3
    refine Ch.skip rfl rfl ?_
    refine Ch.skip rfl rfl ?_
    refine Ch.skip rfl rfl ?_
    refine Ch.skip rfl rfl ?_
    refine Ch.s (.d (.bool false)) (.pure (.pickF _ _ _ rfl rfl rfl)) ?_
    refine Ch.nil ?_
    refine T_cond (b := false) rfl (fun h => nomatch h) (fun _ => ?_)
    refine T_skip ?_
    refine T_region hc ?_
    refine Ch.s (.d (.int .i64 ((k : Nat) : Int))) (.pure (.move _ rfl rfl)) ?_
    refine Ch.s (.d (.int .i64 (((k : Nat) : Int) + 1))) (.pure (.int _ _ _ _ _ rfl rfl rfl intV_addA)) ?_
    refine Ch.s (.d (.int .i64 (((k : Nat) : Int) + 1))) (.pure (.assign _ rfl rfl)) ?_
    refine Ch.nil ?_
    refine Exists.intro (k + 1) (And.intro ⟨by omega, upto_succ hp0.2 (by simp_all [cubeCh])⟩ (And.intro (by first | omega | (dsimp only; omega)) (Wk.of rfl rfl (And.intro rfl (And.intro rfl (And.intro (vI (by first | rfl | omega | (simp; done) | (simp; omega))) trivial))) trivial)))
   | false =>
    replace h3 := of_decide_eq_false h3
    refine Ch.s (.d (.str s)) (.pure (.move _ rfl rfl)) ?_
    refine Ch.s (.d (.int .i64 ((k : Nat) : Int))) (.pure (.move _ rfl rfl)) ?_
    refine Ch.s (.d (.int .u8 ((s.getD k 0).toNat : Int))) (.pure (.idxStr _ _ _ (k) rfl Tryz.underlying9 rfl rfl rfl get_strA)) ?_
    refine Ch.s (.d (.bool (!(decide (((s.getD k 0) : UInt8) = 45))))) (.pure (.int _ _ _ _ _ rfl rfl rfl (u8_neq ((s.getD k 0) : UInt8) 45 rfl rfl))) ?_
    refine Ch.s (.d (.bool (!(decide (((s.getD k 0) : UInt8) = 45))))) (.pure (.pickT _ _ _ rfl rfl rfl)) ?_
    refine Ch.nil ?_
    refine T_cond (b := (!(decide (((s.getD k 0) : UInt8) = 45)))) rfl (fun h4 => ?_) (fun h4 => ?_)
    ·
     replace h4 := nott h4
     replace h4 := of_decide_eq_false h4
     refine T_seq ?_
     refine T_region hc ?_
     refine Ch.s (.d (.bool false)) (.pure (.assign _ rfl rfl)) ?_
     refine Ch.nil ?_
     refine T_ret ?_
     refine And.intro (.inr rfl) ?_
     exact Exists.intro [(.d (.bool false))] (Exists.intro [] (Exists.intro [] (And.intro (.cons (.tmp 4 rfl) .nil) (And.intro (.cons (.any _) (.cons (.any _) .nil)) (And.intro (Exp.of (congrArg D.bool (by rw [cubeN, cubeS, allB_no k (by omega) (by simp_all [cubeCh])]; rfl)) (.d _)) (And.intro rfl rfl))))))
    ·
     replace h4 := notf h4
     replace h4 := of_decide_eq_true h4
     refine T_skip ?_
     refine T_region hc ?_
     refine Ch.s (.d (.int .i64 ((k : Nat) : Int))) (.pure (.move _ rfl rfl)) ?_
     refine Ch.s (.d (.int .i64 (((k : Nat) : Int) + 1))) (.pure (.int _ _ _ _ _ rfl rfl rfl intV_addA)) ?_
     refine Ch.s (.d (.int .i64 (((k : Nat) : Int) + 1))) (.pure (.assign _ rfl rfl)) ?_
     refine Ch.nil ?_
     refine Exists.intro (k + 1) (And.intro ⟨by omega, upto_succ hp0.2 (by simp_all [cubeCh])⟩ (And.intro (by first | omega | (dsimp only; omega)) (Wk.of rfl rfl (And.intro rfl (And.intro rfl (And.intro (vI (by first | rfl | omega | (simp; done) | (simp; omega))) trivial))) trivial)))
 ·
  replace h1 := of_decide_eq_false h1
  refine T_exit ?_
  refine T_seq ?_
  refine T_region hc ?_
  refine Ch.s (.d (.str s)) (.pure (.move _ rfl rfl)) ?_
  refine Ch.s (.d (.int .i64 ((s.length : Nat) : Int))) (.pure (.lenStr _ _ rfl Tryz.underlying9 rfl)) ?_
  refine Ch.s (.d (.int .i64 n)) (.pure (.move _ rfl rfl)) ?_
  refine Ch.s (.d (.bool (decide (((s.length : Nat) : Int) = n)))) (.pure (.int _ _ _ _ _ rfl rfl rfl rfl)) ?_
  refine Ch.s (.d (.bool (decide (((s.length : Nat) : Int) = n)))) (.pure (.move _ rfl rfl)) ?_
  cases h5 : (decide (((s.length : Nat) : Int) = n)) with
  | true =>
   replace h5 := of_decide_eq_true h5
   refine Ch.s (.d (.int .i64 n)) (.pure (.move _ rfl rfl)) ?_
   refine Ch.s (.d (.bool (withinB n 1 8))) (.call 34000 91 _ _ _ en91 rfl (.inl rfl) (.cons (.d _) (.cons (.d _) (.cons (.d _) .nil))) rfl rfl (sp_impl_within n 1 8) (.skip _ _ (.skip _ _ (.skip _ _ .nil))) rfl) ?_
   refine Ch.s (.d (.bool (withinB n 1 8))) (.pure (.pickT _ _ _ rfl rfl rfl)) ?_
   refine Ch.s (.d (.bool (withinB n 1 8))) (.pure (.assign _ rfl rfl)) ?_
   refine Ch.nil ?_
   refine T_ret ?_
   refine And.intro (.inr rfl) ?_
   exact Exists.intro [(.d (.bool (withinB n 1 8)))] (Exists.intro [] (Exists.intro [] (And.intro (.cons (.tmp 4 rfl) .nil) (And.intro (.cons (.any _) (.cons (.any _) .nil)) (And.intro (Exp.of (congrArg D.bool (by rw [cubeN, cubeS, allB_of (fun j hj => hp0.2 j (by omega))]; simp_all)) (.d _)) (And.intro rfl rfl))))))
  | false =>
   replace h5 := of_decide_eq_false h5
   refine Ch.skip rfl rfl ?_
   refine Ch.skip rfl rfl ?_
   refine Ch.s (.d (.bool false)) (.pure (.pickF _ _ _ rfl rfl rfl)) ?_
   refine Ch.s (.d (.bool false)) (.pure (.assign _ rfl rfl)) ?_
   refine Ch.nil ?_
   refine T_ret ?_
   refine And.intro (.inr rfl) ?_
   exact Exists.intro [(.d (.bool false))] (Exists.intro [] (Exists.intro [] (And.intro (.cons (.tmp 4 rfl) .nil) (And.intro (.cons (.any _) (.cons (.any _) .nil)) (And.intro (Exp.of (congrArg D.bool (by rw [cubeN, cubeS, allB_of (fun j hj => hp0.2 j (by omega))]; simp_all)) (.d _)) (And.intro rfl rfl))))))

def meetOf (x y : UInt8) : UInt8 := if x = y ∨ y = 45 then x else y

def meetS (a b : List UInt8) (k : Nat) : List UInt8 := tab k fun j => meetOf (a.getD j 0) (b.getD j 0)

@[simp] theorem meetS_length (a b : List UInt8) (k : Nat) : (meetS a b k).length = k := by simp [meetS]

theorem sz9 : SizeIs Tryz.prog 9 1 := by unfold SizeIs; kernel_rfl

theorem ag9 : AggIs Tryz.prog 9 false := by unfold AggIs; kernel_rfl

theorem zr9 : (Tryz.prog.info? 9).bind (·.zero) = some (.string .empty) := by kernel_rfl

theorem sty23 : SlotTy Tryz.prog 23 9 1 16 := slotTy_mk (by kernel_rfl)

theorem en230 : Enters Tryz.prog 230 := ⟨_, Tryz.func230, by kernel_rfl, rfl⟩

theorem sp_laws_szStringS (xs : List (List UInt8)) (left : Int) (h0 : 0 ≤ left) (h0u : left ≤ 1048576) (hn : xs.length ≤ 9223372036854775807) (hx : ∀ x ∈ xs, x.length ≤ 9223372036854775807) : Sp Tryz.prog 67 [(.slice false 1 (xs.map D.str)), (.int .i64 left)] [.any, .any] (.int .i64 (szS xs left)) := by
 refine Sp_intro (lend := true) Tryz.func67 rfl rfl rfl (fun _ => rfl) (fun c hc hX => ?_)
 refine T_seq ?_
 refine T_region hc ?_
 refine Ch.s (.d (.int .i64 0)) (.pure (.assign _ rfl rfl)) ?_
 refine Ch.nil ?_
 refine T_seq ?_
 refine T_region hc ?_
 refine Ch.s (.d (.int .i64 left)) (.pure (.move _ rfl rfl)) ?_
 refine Ch.s (.d (.slice false 1 (xs.map D.str))) (.pure (.move _ rfl rfl)) ?_
 refine Ch.s (.d (.int .i64 ((xs.length : Nat) : Int))) (.pure (.len _ _ 9 rfl Tryz.underlying23 (.sh _ _) (by simp))) ?_
 refine Ch.s (.d (.int .i64 (left - ((xs.length : Nat) : Int)))) (.pure (.int _ _ _ _ _ rfl rfl rfl intV_subA)) ?_
 refine Ch.s (.d (.int .i64 (left - ((xs.length : Nat) : Int)))) (.pure (.assign _ rfl rfl)) ?_
 refine Ch.nil ?_
 refine T_seq ?_
 refine T_seq ?_
 refine T_region hc ?_
 refine Ch.s (.d (.int .i64 (left - ((xs.length : Nat) : Int)))) (.pure (.move _ rfl rfl)) ?_
 refine Ch.s (.d (.bool (decide ((left - ((xs.length : Nat) : Int)) < 0)))) (.pure (.int _ _ _ _ _ rfl rfl rfl rfl)) ?_
 refine Ch.nil ?_
 refine T_cond (b := (decide ((left - ((xs.length : Nat) : Int)) < 0))) rfl (fun h1 => ?_) (fun h1 => ?_)
 ·
  replace h1 := of_decide_eq_true h1
  refine T_seq ?_
  refine T_region hc ?_
  refine Ch.s (.d (.int .i64 (-1))) (.pure (.assign _ rfl rfl)) ?_
  refine Ch.nil ?_
  refine T_ret ?_
  refine And.intro (.inr rfl) ?_
  exact Exists.intro [(.d (.int .i64 (-1)))] (Exists.intro [] (Exists.intro [] (And.intro (.cons (.tmp 4 rfl) .nil) (And.intro (.cons (.any _) (.cons (.any _) .nil)) (And.intro (Exp.of (congrArg (D.int .i64) (by rw [szS, if_neg (by unfold bulkS; omega)])) (.d _)) (And.intro rfl rfl))))))
 ·
  replace h1 := of_decide_eq_false h1
  refine T_skip ?_
  refine T_seq ?_
  refine T_seq ?_
  refine T_region hc ?_
  refine Ch.s (.d (.int .i64 0)) (.pure (.assign _ rfl rfl)) ?_
  refine Ch.nil ?_
  refine T_block ?_
  refine T_loop (ι := Nat) (fun k => { n := 28, sl := [(0, (.d (.slice false 1 (xs.map D.str)))), (1, (.d (.int .i64 (left - xs.length - sumTo xs k)))), (5, (.d (.int .i64 ((k : Nat) : Int))))], hp := [], pin := [] }) (fun k => k ≤ xs.length ∧ 0 ≤ left - xs.length - sumTo xs k) (fun k => xs.length - k) ⟨0, ⟨by omega, by rw [sumTo_zero]; omega⟩, (Wk.of rfl rfl (And.intro rfl (And.intro (vI (by first | (rw [sumTo_zero]; omega) | (rw [sumTo_succ (by omega)]; omega))) (And.intro (vI (by first | rfl | omega | (simp; done) | (simp; omega))) trivial))) trivial)⟩ (fun k hp0 => ?_)
  refine T_seq ?_
  refine T_seq ?_
  refine T_region hc ?_
  refine Ch.s (.d (.int .i64 ((k : Nat) : Int))) (.pure (.move _ rfl rfl)) ?_
  refine Ch.s (.d (.slice false 1 (xs.map D.str))) (.pure (.move _ rfl rfl)) ?_
  refine Ch.s (.d (.int .i64 ((xs.length : Nat) : Int))) (.pure (.len _ _ 9 rfl Tryz.underlying23 (.sh _ _) (by simp))) ?_
  refine Ch.s (.d (.bool (decide (((k : Nat) : Int) < ((xs.length : Nat) : Int))))) (.pure (.int _ _ _ _ _ rfl rfl rfl rfl)) ?_
  refine Ch.nil ?_
  refine T_cond (b := (decide (((k : Nat) : Int) < ((xs.length : Nat) : Int)))) rfl (fun h2 => ?_) (fun h2 => ?_)
  ·
   replace h2 := of_decide_eq_true h2
   try have hk := hx _ (getD_mem (l := xs) (j := k) (d := default) (by omega))
   refine T_skip ?_
   refine T_seq ?_
   refine T_block ?_
   refine T_seq ?_
   refine T_region hc ?_
   refine Ch.s (.d (.int .i64 (left - xs.length - sumTo xs k))) (.pure (.move _ rfl rfl)) ?_
   refine Ch.s (.d (.slice false 1 (xs.map D.str))) (.pure (.move _ rfl rfl)) ?_
   refine Ch.s (.d (.int .i64 ((k : Nat) : Int))) (.pure (.move _ rfl rfl)) ?_
   refine Ch.s (.d (.ref (.str (xs.getD k default)))) (.pure (.idx _ _ _ 9 (k) rfl Tryz.underlying23 sz9 rfl rfl rfl get_mapA)) ?_
   refine Ch.s (.d (.str (xs.getD k default))) (.pure (.loadRef1 _ _ rfl ag9 rfl rfl)) ?_
   refine Ch.s (.d (.int .i64 (((xs.getD k default).length : Nat) : Int))) (.pure (.lenStr _ _ rfl Tryz.underlying9 rfl)) ?_
   refine Ch.s (.d (.int .i64 ((left - xs.length - sumTo xs k) - (((xs.getD k default).length : Nat) : Int)))) (.pure (.int _ _ _ _ _ rfl rfl rfl intV_subA)) ?_
   refine Ch.s (.d (.int .i64 ((left - xs.length - sumTo xs k) - (((xs.getD k default).length : Nat) : Int)))) (.pure (.assign _ rfl rfl)) ?_
   refine Ch.nil ?_
   refine T_seq ?_
   refine T_region hc ?_
   refine Ch.s (.d (.int .i64 ((left - xs.length - sumTo xs k) - (((xs.getD k default).length : Nat) : Int)))) (.pure (.move _ rfl rfl)) ?_
   refine Ch.s (.d (.bool (decide (((left - xs.length - sumTo xs k) - (((xs.getD k default).length : Nat) : Int)) < 0)))) (.pure (.int _ _ _ _ _ rfl rfl rfl rfl)) ?_
   refine Ch.nil ?_
   refine T_cond (b := (decide (((left - xs.length - sumTo xs k) - (((xs.getD k default).length : Nat) : Int)) < 0))) rfl (fun h3 => ?_) (fun h3 => ?_)
   ·
    replace h3 := of_decide_eq_true h3
    refine T_seq ?_
    refine T_region hc ?_
    refine Ch.s (.d (.int .i64 (-1))) (.pure (.assign _ rfl rfl)) ?_
    refine Ch.nil ?_
    refine T_ret ?_
    refine And.intro (.inr rfl) ?_
    exact Exists.intro [(.d (.int .i64 (-1)))] (Exists.intro [] (Exists.intro [] (And.intro (.cons (.tmp 4 rfl) .nil) (And.intro (.cons (.any _) (.cons (.any _) .nil)) (And.intro (Exp.of (congrArg (D.int .i64) (by rw [szS, if_neg (by have h4 := sumTo_le xs (k + 1); rw [sumTo_succ (by omega)] at h4; unfold bulkS; omega)])) (.d _)) (And.intro rfl rfl))))))
   ·
    replace h3 := of_decide_eq_false h3
    refine T_skip ?_
    refine T_region hc ?_
    refine Ch.s (.d (.int .i64 ((k : Nat) : Int))) (.pure (.move _ rfl rfl)) ?_
    refine Ch.s (.d (.int .i64 (((k : Nat) : Int) + 1))) (.pure (.int _ _ _ _ _ rfl rfl rfl intV_addA)) ?_
    refine Ch.s (.d (.int .i64 (((k : Nat) : Int) + 1))) (.pure (.assign _ rfl rfl)) ?_
    refine Ch.nil ?_
    refine Exists.intro (k + 1) (And.intro ⟨by omega, by rw [sumTo_succ (by omega)]; omega⟩ (And.intro (by first | omega | (dsimp only; omega)) (Wk.of rfl rfl (And.intro rfl (And.intro (vI (by first | (rw [sumTo_zero]; omega) | (rw [sumTo_succ (by omega)]; omega))) (And.intro (vI (by first | rfl | omega | (simp; done) | (simp; omega))) trivial))) trivial)))
  ·
   replace h2 := of_decide_eq_false h2
   try have hk := hx _ (getD_mem (l := xs) (j := k) (d := default) (by omega))
   refine T_exit ?_
   refine T_seq ?_
   refine T_region hc ?_
   refine Ch.s (.d (.int .i64 (left - xs.length - sumTo xs k))) (.pure (.move _ rfl rfl)) ?_
   refine Ch.s (.d (.int .i64 (left - xs.length - sumTo xs k))) (.pure (.assign _ rfl rfl)) ?_
   refine Ch.nil ?_
   refine T_ret ?_
   refine And.intro (.inr rfl) ?_
   exact Exists.intro [(.d (.int .i64 (left - xs.length - sumTo xs k)))] (Exists.intro [] (Exists.intro [] (And.intro (.cons (.tmp 4 rfl) .nil) (And.intro (.cons (.any _) (.cons (.any _) .nil)) (And.intro (Exp.of (congrArg (D.int .i64) (by have h4 := sumTo_all (xs := xs) (k := k) (by omega); rw [szS, if_pos (by unfold bulkS; omega)]; unfold bulkS; omega)) (.d _)) (And.intro rfl rfl))))))

theorem sp_laws_toStringS (xs : List (List UInt8)) (hn : xs.length ≤ 1048576) : Sp Tryz.prog 71 [(.slice false 1 (xs.map D.str))] [.any] (.slice true 1 (xs.map D.str)) := by
 refine Sp_intro (lend := true) Tryz.func71 rfl rfl rfl (fun _ => rfl) (fun c hc hX => ?_)
 refine T_seq ?_
 refine T_region hc ?_
 refine Ch.s (.c (.slice none 0 0)) (.pure (.assign _ rfl rfl)) ?_
 refine Ch.nil ?_
 refine T_seq ?_
 refine T_region hc ?_
 refine Ch.s (.d (.slice false 1 (xs.map D.str))) (.pure (.move _ rfl rfl)) ?_
 refine Ch.s (.d (.int .i64 ((xs.length : Nat) : Int))) (.pure (.len _ _ 9 rfl Tryz.underlying23 (.sh _ _) (by simp))) ?_
 refine Ch.s (.row 7000) (.make 7000 _ 9 _ _ (xs.length) (xs.length) rfl sty23 rfl rfl rfl rfl (by first | omega | (simp only [List.length_map, List.length_append, List.length_take, List.length_drop, List.length_cons, List.length_nil]; omega) | (simp; omega) | (simp; done)) (by first | omega | (simp only [List.length_map, List.length_append, List.length_take, List.length_drop, List.length_cons, List.length_nil]; omega) | (simp; omega) | (simp; done)) (by first | omega | (simp only [List.length_map, List.length_append, List.length_take, List.length_drop, List.length_cons, List.length_nil]; omega) | (simp; omega) | (simp; done)) (zeroD_mk (zd := (.str [])) zr9 (by intro S w; rw [DR]; exact ⟨rfl, rfl⟩) rfl)) ?_
 refine Ch.s (.row 7000) (.pure (.assign _ rfl rfl)) ?_
 refine Ch.nil ?_
 refine T_seq ?_
 refine T_seq ?_
 refine T_region hc ?_
 refine Ch.s (.d (.int .i64 0)) (.pure (.assign _ rfl rfl)) ?_
 refine Ch.nil ?_
 refine T_block ?_
 refine T_loop (ι := Nat) (fun k => { n := 22, sl := [(0, (.d (.slice false 1 (xs.map D.str)))), (3, (.row 3)), (4, (.d (.int .i64 ((k : Nat) : Int))))], hp := [(3, (some (.row 1 ((fill xs [] k).map D.str))))], pin := [] }) (fun k => k ≤ xs.length) (fun k => xs.length - k) ⟨0, (by omega), (Wk.ren [(3, 7000)] rfl rfl rfl rfl (And.intro rfl (And.intro rfl (And.intro (vI (by first | rfl | omega | (simp; done) | (simp; omega))) trivial))) (And.intro (oR (by first | (rw [fill_zero, List.map_replicate]; done) | (rw [← fill_set xs [] default (by omega), List.map_set]; done))) trivial))⟩ (fun k hp0 => ?_)
 refine T_seq ?_
 refine T_seq ?_
 refine T_region hc ?_
 refine Ch.s (.d (.int .i64 ((k : Nat) : Int))) (.pure (.move _ rfl rfl)) ?_
 refine Ch.s (.d (.slice false 1 (xs.map D.str))) (.pure (.move _ rfl rfl)) ?_
 refine Ch.s (.d (.int .i64 ((xs.length : Nat) : Int))) (.pure (.len _ _ 9 rfl Tryz.underlying23 (.sh _ _) (by simp))) ?_
 refine Ch.s (.d (.bool (decide (((k : Nat) : Int) < ((xs.length : Nat) : Int))))) (.pure (.int _ _ _ _ _ rfl rfl rfl rfl)) ?_
 refine Ch.nil ?_
 refine T_cond (b := (decide (((k : Nat) : Int) < ((xs.length : Nat) : Int)))) rfl (fun h1 => ?_) (fun h1 => ?_)
 ·
  replace h1 := of_decide_eq_true h1
  refine T_skip ?_
  refine T_seq ?_
  refine T_block ?_
  refine T_region hc ?_
  refine Ch.s (.row 3) (.pure (.move _ rfl rfl)) ?_
  refine Ch.s (.d (.int .i64 ((k : Nat) : Int))) (.pure (.move _ rfl rfl)) ?_
  refine Ch.s (.d (.slice false 1 (xs.map D.str))) (.pure (.move _ rfl rfl)) ?_
  refine Ch.s (.d (.int .i64 ((k : Nat) : Int))) (.pure (.move _ rfl rfl)) ?_
  refine Ch.s (.d (.ref (.str (xs.getD k default)))) (.pure (.idx _ _ _ 9 (k) rfl Tryz.underlying23 sz9 rfl rfl rfl get_mapA)) ?_
  refine Ch.s (.d (.str (xs.getD k default))) (.pure (.loadRef1 _ _ rfl ag9 rfl rfl)) ?_
  refine Ch.s (.el 3 1 k 0) (.pure (.idxRow _ _ _ 9 (k) rfl Tryz.underlying23 sz9 rfl rfl rfl rfl (by first | omega | (simp only [List.length_map, List.length_set]; omega) | (simp; omega)))) ?_
  refine Ch.s .junk (.storeEl (y' := (.str (xs.getD k default))) _ _ _ rfl rfl rfl (.d _) rfl sz9 rfl get_mapA rfl rfl) ?_
  refine Ch.nil ?_
  refine T_region hc ?_
  refine Ch.s (.d (.int .i64 ((k : Nat) : Int))) (.pure (.move _ rfl rfl)) ?_
  refine Ch.s (.d (.int .i64 (((k : Nat) : Int) + 1))) (.pure (.int _ _ _ _ _ rfl rfl rfl intV_addA)) ?_
  refine Ch.s (.d (.int .i64 (((k : Nat) : Int) + 1))) (.pure (.assign _ rfl rfl)) ?_
  refine Ch.nil ?_
  refine Exists.intro (k + 1) (And.intro (by omega) (And.intro (by first | omega | (dsimp only; omega)) (Wk.of rfl rfl (And.intro rfl (And.intro rfl (And.intro (vI (by first | rfl | omega | (simp; done) | (simp; omega))) trivial))) (And.intro (oR (by first | (rw [fill_zero, List.map_replicate]; done) | (rw [← fill_set xs [] default (by omega), List.map_set]; done))) trivial))))
 ·
  replace h1 := of_decide_eq_false h1
  refine T_exit ?_
  refine T_seq ?_
  refine T_region hc ?_
  refine Ch.s (.row 3) (.pure (.move _ rfl rfl)) ?_
  refine Ch.s (.row 3) (.pure (.assign _ rfl rfl)) ?_
  refine Ch.nil ?_
  refine T_ret ?_
  refine And.intro (.inr rfl) ?_
  exact Exists.intro [(.row 3)] (Exists.intro [] (Exists.intro [3] (And.intro (.cons (.tmp 2 rfl) .nil) (And.intro (.cons (.any _) .nil) (And.intro (Exp.of (congrArg (D.slice true 1) (by rw [fill_all xs [] (by omega)])) (.row rfl)) (And.intro rfl rfl))))))

theorem sp_laws_eqStringS (xs ys : List (List UInt8)) (hn : xs.length ≤ 1048576) : Sp Tryz.prog 29 [(.slice false 1 (xs.map D.str)), (.slice false 1 (ys.map D.str))] [.any, .any] (.bool (decide (xs = ys))) := by
 refine Sp_intro (lend := true) Tryz.func29 rfl rfl rfl (fun _ => rfl) (fun c hc hX => ?_)
 refine T_seq ?_
 refine T_region hc ?_
 refine Ch.s (.d (.bool false)) (.pure (.assign _ rfl rfl)) ?_
 refine Ch.nil ?_
 refine T_seq ?_
 refine T_seq ?_
 refine T_region hc ?_
 refine Ch.s (.d (.slice false 1 (xs.map D.str))) (.pure (.move _ rfl rfl)) ?_
 refine Ch.s (.d (.int .i64 ((xs.length : Nat) : Int))) (.pure (.len _ _ 9 rfl Tryz.underlying23 (.sh _ _) (by simp))) ?_
 refine Ch.s (.d (.slice false 1 (ys.map D.str))) (.pure (.move _ rfl rfl)) ?_
 refine Ch.s (.d (.int .i64 ((ys.length : Nat) : Int))) (.pure (.len _ _ 9 rfl Tryz.underlying23 (.sh _ _) (by simp))) ?_
 refine Ch.s (.d (.bool (!(decide (((xs.length : Nat) : Int) = ((ys.length : Nat) : Int)))))) (.pure (.int _ _ _ _ _ rfl rfl rfl rfl)) ?_
 refine Ch.nil ?_
 refine T_cond (b := (!(decide (((xs.length : Nat) : Int) = ((ys.length : Nat) : Int))))) rfl (fun h1 => ?_) (fun h1 => ?_)
 ·
  replace h1 := nott h1
  replace h1 := of_decide_eq_false h1
  refine T_seq ?_
  refine T_region hc ?_
  refine Ch.s (.d (.bool false)) (.pure (.assign _ rfl rfl)) ?_
  refine Ch.nil ?_
  refine T_ret ?_
  refine And.intro (.inr rfl) ?_
  exact Exists.intro [(.d (.bool false))] (Exists.intro [] (Exists.intro [] (And.intro (.cons (.tmp 4 rfl) .nil) (And.intro (.cons (.any _) (.cons (.any _) .nil)) (And.intro (Exp.of (congrArg D.bool (by exact eqL_len (by omega))) (.d _)) (And.intro rfl rfl))))))
 ·
  replace h1 := notf h1
  replace h1 := of_decide_eq_true h1
  refine T_skip ?_
  refine T_seq ?_
  refine T_seq ?_
  refine T_region hc ?_
  refine Ch.s (.d (.int .i64 0)) (.pure (.assign _ rfl rfl)) ?_
  refine Ch.nil ?_
  refine T_block ?_
  refine T_loop (ι := Nat) (fun k => { n := 26, sl := [(0, (.d (.slice false 1 (xs.map D.str)))), (1, (.d (.slice false 1 (ys.map D.str)))), (5, (.d (.int .i64 ((k : Nat) : Int))))], hp := [], pin := [] }) (fun k => k ≤ xs.length ∧ ∀ j, j < k → xs.getD j default = ys.getD j default) (fun k => xs.length - k) ⟨0, ⟨by omega, fun j hj => by omega⟩, (Wk.of rfl rfl (And.intro rfl (And.intro rfl (And.intro (vI (by first | rfl | omega | (simp; done) | (simp; omega))) trivial))) trivial)⟩ (fun k hp0 => ?_)
  refine T_seq ?_
  refine T_seq ?_
  refine T_region hc ?_
  refine Ch.s (.d (.int .i64 ((k : Nat) : Int))) (.pure (.move _ rfl rfl)) ?_
  refine Ch.s (.d (.slice false 1 (xs.map D.str))) (.pure (.move _ rfl rfl)) ?_
  refine Ch.s (.d (.int .i64 ((xs.length : Nat) : Int))) (.pure (.len _ _ 9 rfl Tryz.underlying23 (.sh _ _) (by simp))) ?_
  refine Ch.s (.d (.bool (decide (((k : Nat) : Int) < ((xs.length : Nat) : Int))))) (.pure (.int _ _ _ _ _ rfl rfl rfl rfl)) ?_
  refine Ch.nil ?_
  refine T_cond (b := (decide (((k : Nat) : Int) < ((xs.length : Nat) : Int)))) rfl (fun h2 => ?_) (fun h2 => ?_)
  ·
   replace h2 := of_decide_eq_true h2
   refine T_skip ?_
   refine T_seq ?_
   refine T_block ?_
   refine T_seq ?_
   refine T_regionD hc (by kernel_rfl) ?_
   refine ChD.s (.d (.slice false 1 (xs.map D.str))) [] (.pure (.move _ rfl rfl)) ?_
   refine ChD.s (.d (.int .i64 ((k : Nat) : Int))) [] (.pure (.move _ rfl rfl)) ?_
   refine ChD.s (.d (.ref (.str (xs.getD k default)))) [] (.pure (.idx _ _ _ 9 (k) rfl Tryz.underlying23 sz9 rfl rfl rfl get_mapA)) ?_
   refine ChD.s (.d (.str (xs.getD k default))) [] (.pure (.loadRef1 _ _ rfl ag9 rfl rfl)) ?_
   refine ChD.s (.d (.slice false 1 (ys.map D.str))) [] (.pure (.move _ rfl rfl)) ?_
   refine ChD.s (.d (.int .i64 ((k : Nat) : Int))) [] (.pure (.move _ rfl rfl)) ?_
   refine ChD.s (.d (.ref (.str (ys.getD k default)))) [] (.pure (.idx _ _ _ 9 (k) rfl Tryz.underlying23 sz9 rfl rfl rfl get_mapA)) ?_
   refine ChD.s (.d (.str (ys.getD k default))) [] (.pure (.loadRef1 _ _ rfl ag9 rfl rfl)) ?_
   refine ChD.s (.d (.bool (!(decide ((xs.getD k default) = (ys.getD k default)))))) [] (.pure (.str _ _ _ _ _ rfl rfl rfl rfl)) ?_
   refine ChD.nil (And.intro ?_ (by kernel_rfl))
   refine T_cond (b := (!(decide ((xs.getD k default) = (ys.getD k default))))) rfl (fun h3 => ?_) (fun h3 => ?_)
   ·
    replace h3 := nott h3
    replace h3 := of_decide_eq_false h3
    refine T_seq ?_
    refine T_region hc ?_
    refine Ch.s (.d (.bool false)) (.pure (.assign _ rfl rfl)) ?_
    refine Ch.nil ?_
    refine T_ret ?_
    refine And.intro (.inr rfl) ?_
    exact Exists.intro [(.d (.bool false))] (Exists.intro [] (Exists.intro [] (And.intro (.cons (.tmp 4 rfl) .nil) (And.intro (.cons (.any _) (.cons (.any _) .nil)) (And.intro (Exp.of (congrArg D.bool (by exact eqL_at default k (by assumption))) (.d _)) (And.intro rfl rfl))))))
   ·
    replace h3 := notf h3
    replace h3 := of_decide_eq_true h3
    refine T_skip ?_
    refine T_region hc ?_
    refine Ch.s (.d (.int .i64 ((k : Nat) : Int))) (.pure (.move _ rfl rfl)) ?_
    refine Ch.s (.d (.int .i64 (((k : Nat) : Int) + 1))) (.pure (.int _ _ _ _ _ rfl rfl rfl intV_addA)) ?_
    refine Ch.s (.d (.int .i64 (((k : Nat) : Int) + 1))) (.pure (.assign _ rfl rfl)) ?_
    refine Ch.nil ?_
    refine Exists.intro (k + 1) (And.intro ⟨by omega, upto_succ hp0.2 (by assumption)⟩ (And.intro (by first | omega | (dsimp only; omega)) (Wk.of rfl rfl (And.intro rfl (And.intro rfl (And.intro (vI (by first | rfl | omega | (simp; done) | (simp; omega))) trivial))) trivial)))
  ·
   replace h2 := of_decide_eq_false h2
   refine T_exit ?_
   refine T_seq ?_
   refine T_region hc ?_
   refine Ch.s (.d (.bool true)) (.pure (.assign _ rfl rfl)) ?_
   refine Ch.nil ?_
   refine T_ret ?_
   refine And.intro (.inr rfl) ?_
   exact Exists.intro [(.d (.bool true))] (Exists.intro [] (Exists.intro [] (And.intro (.cons (.tmp 4 rfl) .nil) (And.intro (.cons (.any _) (.cons (.any _) .nil)) (And.intro (Exp.of (congrArg D.bool (by exact eqL_all default (by omega) (fun j hj => hp0.2 j (by omega)))) (.d _)) (And.intro rfl rfl))))))

theorem sp_IndexFunc_str (xs : List (List UInt8)) (f : FuncId) (caps : List D) (p : List UInt8 → Bool) (hf : Enters Tryz.prog f) (hp : ∀ x ∈ xs, Sp Tryz.prog f (D.str x :: caps) (.any :: anys caps) (.bool (p x))) (hn : xs.length ≤ 1048576) : Sp Tryz.prog 230 [(.slice false 1 (xs.map D.str)), (.fn f caps)] [.any, .any] (.int .i64 (ixF p xs)) := by
 refine Sp_intro (lend := true) Tryz.func230 rfl rfl rfl (fun _ => rfl) (fun c hc hX => ?_)
 refine T_seq ?_
 refine T_region hc ?_
 refine Ch.s (.d (.int .i64 0)) (.pure (.assign _ rfl rfl)) ?_
 refine Ch.nil ?_
 refine T_seq ?_
 refine T_seq ?_
 refine T_region hc ?_
 refine Ch.s (.d (.slice false 1 (xs.map D.str))) (.pure (.move _ rfl rfl)) ?_
 refine Ch.s (.d (.int .i64 ((xs.length : Nat) : Int))) (.pure (.len _ _ 9 rfl Tryz.underlying23 (.sh _ _) (by simp))) ?_
 refine Ch.s (.d (.int .i64 0)) (.pure (.move _ rfl rfl)) ?_
 refine Ch.nil ?_
 refine T_block ?_
 refine T_loop (ι := Nat) (fun k => { n := 19, sl := [(0, (.d (.slice false 1 (xs.map D.str)))), (1, (.d (.fn f caps))), (7, (.d (.int .i64 ((xs.length : Nat) : Int)))), (8, (.d (.int .i64 ((k : Nat) : Int))))], hp := [], pin := [] }) (fun k => k ≤ xs.length ∧ ∀ j, j < k → p (xs.getD j default) = false) (fun k => xs.length - k) ⟨0, ⟨by omega, fun j hj => by omega⟩, (Wk.of rfl rfl (And.intro rfl (And.intro rfl (And.intro rfl (And.intro (vI (by first | rfl | omega | (simp; done) | (simp; omega))) trivial)))) trivial)⟩ (fun k hp0 => ?_)
 refine T_seq ?_
 refine T_region hc ?_
 refine Ch.s (.d (.bool (decide (((k : Nat) : Int) < ((xs.length : Nat) : Int))))) (.pure (.int _ _ _ _ _ rfl rfl rfl rfl)) ?_
 refine Ch.nil ?_
 refine T_seq ?_
 refine T_cond (b := (decide (((k : Nat) : Int) < ((xs.length : Nat) : Int)))) rfl (fun h1 => ?_) (fun h1 => ?_)
 ·
  replace h1 := of_decide_eq_true h1
  refine T_skip ?_
  refine T_seq ?_
  refine T_block ?_
  refine T_seq ?_
  refine T_region hc ?_
  refine Ch.s (.d (.int .i64 ((k : Nat) : Int))) (.pure (.move _ rfl rfl)) ?_
  refine Ch.s (.d (.int .i64 ((k : Nat) : Int))) (.pure (.assign _ rfl rfl)) ?_
  refine Ch.nil ?_
  refine T_seq ?_
  refine T_region hc ?_
  refine Ch.s (.d (.fn f caps)) (.pure (.move _ rfl rfl)) ?_
  refine Ch.s (.d (.slice false 1 (xs.map D.str))) (.pure (.move _ rfl rfl)) ?_
  refine Ch.s (.d (.int .i64 ((k : Nat) : Int))) (.pure (.move _ rfl rfl)) ?_
  refine Ch.s (.d (.ref (.str (xs.getD k default)))) (.pure (.idx _ _ _ 9 (k) rfl Tryz.underlying23 sz9 rfl rfl rfl get_mapA)) ?_
  refine Ch.s (.d (.str (xs.getD k default))) (.pure (.loadRef1 _ _ rfl ag9 rfl rfl)) ?_
  refine Ch.step (v := (.d (.bool (p (xs.getD k default))))) rfl (.callS 16000 f _ #[.tmp 15] _ hf rfl (.inr ⟨caps, rfl, rfl⟩) (.cons (.d _) (exps_ds caps)) rfl (hp _ (getD_mem (by omega))) (.skip _ _ (back_anys caps)) rfl) rfl rfl ?_
  refine Ch.nil ?_
  refine T_cond (b := (p (xs.getD k default))) rfl (fun h2 => ?_) (fun h2 => ?_)
  ·
   refine T_seq ?_
   refine T_region hc ?_
   refine Ch.s (.d (.int .i64 ((k : Nat) : Int))) (.pure (.move _ rfl rfl)) ?_
   refine Ch.s (.d (.int .i64 ((k : Nat) : Int))) (.pure (.assign _ rfl rfl)) ?_
   refine Ch.nil ?_
   refine T_ret ?_
   refine And.intro (.inr rfl) ?_
   exact Exists.intro [(.d (.int .i64 ((k : Nat) : Int)))] (Exists.intro [] (Exists.intro [] (And.intro (.cons (.tmp 4 rfl) .nil) (And.intro (.cons (.any _) (.cons (.any _) .nil)) (And.intro (Exp.of (congrArg (D.int .i64) (by exact (ixF_some (by omega) hp0.2 (by assumption)).symm)) (.d _)) (And.intro rfl rfl))))))
  ·
   refine T_skip ?_
   refine T_region hc ?_
   refine Ch.s (.d (.int .i64 (((k : Nat) : Int) + 1))) (.pure (.int _ _ _ _ _ rfl rfl rfl intV_addA)) ?_
   refine Ch.s (.d (.int .i64 (((k : Nat) : Int) + 1))) (.pure (.move _ rfl rfl)) ?_
   refine Ch.nil ?_
   refine Exists.intro (k + 1) (And.intro ⟨by omega, upto_succ hp0.2 (by assumption)⟩ (And.intro (by first | omega | (dsimp only; omega)) (Wk.of rfl rfl (And.intro rfl (And.intro rfl (And.intro rfl (And.intro (vI (by first | rfl | omega | (simp; done) | (simp; omega))) trivial)))) trivial)))
 ·
  replace h1 := of_decide_eq_false h1
  refine T_exit ?_
  refine T_seq ?_
  refine T_region hc ?_
  refine Ch.s (.d (.int .i64 (-1))) (.pure (.assign _ rfl rfl)) ?_
  refine Ch.nil ?_
  refine T_ret ?_
  refine And.intro (.inr rfl) ?_
  exact Exists.intro [(.d (.int .i64 (-1)))] (Exists.intro [] (Exists.intro [] (And.intro (.cons (.tmp 4 rfl) .nil) (And.intro (.cons (.any _) (.cons (.any _) .nil)) (And.intro (Exp.of (congrArg (D.int .i64) (by exact (ixF_none (fun j hj => hp0.2 j (by omega))).symm)) (.d _)) (And.intro rfl rfl))))))

theorem sp_ContainsFunc_str (xs : List (List UInt8)) (f : FuncId) (caps : List D) (p : List UInt8 → Bool) (hf : Enters Tryz.prog f) (hp : ∀ x ∈ xs, Sp Tryz.prog f (D.str x :: caps) (.any :: anys caps) (.bool (p x))) (hn : xs.length ≤ 1048576) : Sp Tryz.prog 178 [(.slice false 1 (xs.map D.str)), (.fn f caps)] [.any, .any] (.bool (xs.any p)) := by
 refine Sp_intro (lend := true) Tryz.func178 rfl rfl rfl (fun _ => rfl) (fun c hc hX => ?_)
 refine T_seq ?_
 refine T_region hc ?_
 refine Ch.s (.d (.bool false)) (.pure (.assign _ rfl rfl)) ?_
 refine Ch.nil ?_
 refine T_seq ?_
 refine T_region hc ?_
 refine Ch.s (.d (.slice false 1 (xs.map D.str))) (.pure (.move _ rfl rfl)) ?_
 refine Ch.s (.d (.fn f caps)) (.pure (.move _ rfl rfl)) ?_
 refine Ch.s (.d (.int .i64 (ixF p xs))) (.call 7000 230 _ _ _ en230 rfl (.inl rfl) (.cons (.d _) (.cons (.d _) .nil)) rfl rfl (sp_IndexFunc_str xs f caps p hf hp (by first | omega | assumption | (exact hx _ (getD_mem (by omega))) | (exact hx _ (by assumption)) | (exact Nat.le_trans (hx _ (by assumption)) (by omega)) | (simp only [List.length_append, List.length_take, List.length_drop, List.length_cons, List.length_nil]; omega) | (simp_all; done))) (.skip _ _ (.skip _ _ .nil)) rfl) ?_
 refine Ch.s (.d (.bool (decide (0 ≤ (ixF p xs))))) (.pure (.int _ _ _ _ _ rfl rfl rfl rfl)) ?_
 refine Ch.s (.d (.bool (decide (0 ≤ (ixF p xs))))) (.pure (.assign _ rfl rfl)) ?_
 refine Ch.nil ?_
 refine T_ret ?_
 refine And.intro (.inr rfl) ?_
 exact Exists.intro [(.d (.bool (decide (0 ≤ (ixF p xs)))))] (Exists.intro [] (Exists.intro [] (And.intro (.cons (.tmp 4 rfl) .nil) (And.intro (.cons (.any _) (.cons (.any _) .nil)) (And.intro (Exp.of (congrArg D.bool (by exact ixF_nonneg p xs)) (.d _)) (And.intro rfl rfl))))))

theorem ag3 : AggIs Tryz.prog 3 false := by unfold AggIs; kernel_rfl

theorem en127 : Enters Tryz.prog 127 := ⟨_, Tryz.func127, by kernel_rfl, rfl⟩

theorem en178 : Enters Tryz.prog 178 := ⟨_, Tryz.func178, by kernel_rfl, rfl⟩

def allOf {τ : Type} [Inhabited τ] (xs : List τ) (q : τ → Bool) : Bool := allB xs.length fun j => q (xs.getD j default)

theorem any_not {τ : Type} [Inhabited τ] (xs : List τ) (q : τ → Bool) : xs.any (fun c => !q c) = !allOf xs q := by
  cases h : allOf xs q with
  | true =>
    rw [Bool.not_true, List.any_eq_false]
    intro x hx
    obtain ⟨j, hj, rfl⟩ := List.mem_iff_getElem.1 hx
    have := allB_true.1 h j hj
    simp [hj] at this
    simp [this]
  | false =>
    rw [Bool.not_false, List.any_eq_true]
    apply Classical.byContradiction
    intro hno
    have : allOf xs q = true := allB_of fun j hj => by
      cases hq : q (xs.getD j default) with
      | true => rfl
      | false => exact absurd ⟨_, getD_mem hj, by rw [hq]; rfl⟩ hno
    rw [h] at this; cases this

theorem en308 : Enters Tryz.prog 308 := ⟨_, Tryz.func308, by kernel_rfl, rfl⟩

theorem en305 : Enters Tryz.prog 305 := ⟨_, Tryz.func305, by kernel_rfl, rfl⟩

theorem en295 : Enters Tryz.prog 295 := ⟨_, Tryz.func295, by kernel_rfl, rfl⟩

theorem en280 : Enters Tryz.prog 280 := ⟨_, Tryz.func280, by kernel_rfl, rfl⟩

def codeCh (x : UInt8) : Bool := x == 48 || x == 49

def codeN (u : List UInt8) (n : Int) : Bool := allB u.length (fun j => codeCh (u.getD j 0)) && decide ((u.length : Int) = n)

def dashB (u : List UInt8) : Bool := decide (0 ≤ Lib.indexByte u 45)

def isCodeB (u : List UInt8) (n : Int) : Bool := cubeN u n && !dashB u

theorem dashB_iff (u : List UInt8) : dashB u = true ↔ 45 ∈ u := by
  unfold dashB
  rw [decide_eq_true_iff]
  induction u with
  | nil => exact ⟨fun h => absurd h (by decide), fun h => by cases h⟩
  | cons x u ih =>
    have hge := Lib.indexByte_ge u 45
    rw [Lib.indexByte, List.mem_cons]
    split
    · rename_i h
      have h : x = 45 := by simpa using h
      exact ⟨fun _ => .inl h.symm, fun _ => Int.le_refl 0⟩
    · rename_i h
      have hx : ¬ (45 : UInt8) = x := fun e => h (by rw [e]; simp)
      split
      · rename_i h2
        have h2 : Lib.indexByte u 45 = -1 := by simpa using h2
        rw [h2] at ih
        constructor
        · intro h3; exact absurd h3 (by decide)
        · rintro (h3 | h3)
          · exact absurd h3 hx
          · exact absurd (ih.2 h3) (by decide)
      · rename_i h2
        have h2 : ¬ Lib.indexByte u 45 = -1 := by simpa using h2
        constructor
        · intro h3
          have h4 : 0 ≤ Lib.indexByte u 45 := by generalize Lib.indexByte u 45 = z at *; omega
          exact .inr (ih.1 h4)
        · rintro (h3 | h3)
          · exact absurd h3 hx
          · have h4 := ih.2 h3; generalize Lib.indexByte u 45 = z at *; omega

theorem code_eq (u : List UInt8) (n : Int) : isCodeB u n = (codeN u n && withinB n 1 8) := by
  rw [Bool.eq_iff_iff]
  unfold isCodeB cubeN cubeS codeN
  simp only [Bool.and_eq_true, Bool.not_eq_true', allB_true, ← Bool.not_eq_true, dashB_iff, decide_eq_true_iff]
  have hm : (∃ j, j < u.length ∧ u.getD j 0 = 45) ↔ 45 ∈ u := by
    constructor
    · rintro ⟨j, hj, h⟩; rw [← h]; exact getD_mem hj
    · intro h; obtain ⟨j, hj, h⟩ := List.mem_iff_getElem.1 h; exact ⟨j, hj, by simp [hj, h]⟩
  constructor
  · rintro ⟨⟨⟨h1, h2⟩, h3⟩, h4⟩
    refine ⟨⟨fun j hj => ?_, h2⟩, h3⟩
    have h5 := h1 j hj
    have h6 : ¬ u.getD j 0 = 45 := fun e => h4 (hm.1 ⟨j, hj, e⟩)
    unfold cubeCh at h5
    unfold codeCh
    simp only [Bool.or_eq_true, beq_iff_eq] at h5 ⊢
    exact h5.resolve_right h6
  · rintro ⟨⟨h1, h2⟩, h3⟩
    refine ⟨⟨⟨fun j hj => ?_, h2⟩, h3⟩, fun h => ?_⟩
    · have h5 := h1 j hj
      unfold codeCh at h5
      unfold cubeCh
      simp only [Bool.or_eq_true] at h5 ⊢
      exact .inl h5
    · obtain ⟨j, hj, h6⟩ := hm.2 h
      have h5 := h1 j hj
      rw [h6] at h5
      exact absurd h5 (by decide)

theorem sp_spec_l5Code (u : List UInt8) (n : Int) (hs : u.length ≤ 1048576) : Sp Tryz.prog 163 [(.str u), (.int .i64 n)] [.any, .any] (.bool (codeN u n)) := by
 refine Sp_intro (lend := true) Tryz.func163 rfl rfl rfl (fun _ => rfl) (fun c hc hX => ?_)
 refine T_seq ?_
 refine T_region hc ?_
 refine Ch.s (.d (.bool false)) (.pure (.assign _ rfl rfl)) ?_
 refine Ch.nil ?_
 refine T_seq ?_
 refine T_seq ?_
 refine T_region hc ?_
 refine Ch.s (.d (.int .i64 0)) (.pure (.assign _ rfl rfl)) ?_
 refine Ch.nil ?_
 refine T_block ?_
 refine T_loop (ι := Nat) (fun k => { n := 26, sl := [(0, (.d (.str u))), (1, (.d (.int .i64 n))), (5, (.d (.int .i64 ((k : Nat) : Int))))], hp := [], pin := [] }) (fun k => k ≤ u.length ∧ ∀ j, j < k → codeCh (u.getD j 0) = true) (fun k => u.length - k) ⟨0, ⟨by omega, fun j hj => by omega⟩, (Wk.of rfl rfl (And.intro rfl (And.intro rfl (And.intro (vI (by first | rfl | omega | (simp; done) | (simp; omega))) trivial))) trivial)⟩ (fun k hp0 => ?_)
 refine T_seq ?_
 refine T_seq ?_
 refine T_region hc ?_
 refine Ch.s (.d (.int .i64 ((k : Nat) : Int))) (.pure (.move _ rfl rfl)) ?_
 refine Ch.s (.d (.str u)) (.pure (.move _ rfl rfl)) ?_
 refine Ch.s (.d (.int .i64 ((u.length : Nat) : Int))) (.pure (.lenStr _ _ rfl Tryz.underlying9 rfl)) ?_
 refine Ch.s (.d (.bool (decide (((k : Nat) : Int) < ((u.length : Nat) : Int))))) (.pure (.int _ _ _ _ _ rfl rfl rfl rfl)) ?_
 refine Ch.nil ?_
 refine T_cond (b := (decide (((k : Nat) : Int) < ((u.length : Nat) : Int)))) rfl (fun h1 => ?_) (fun h1 => ?_)
 ·
  replace h1 := of_decide_eq_true h1
  refine T_skip ?_
  refine T_seq ?_
  refine T_block ?_
  refine T_seq ?_
  refine T_region hc ?_
  refine Ch.s (.d (.str u)) (.pure (.move _ rfl rfl)) ?_
  refine Ch.s (.d (.int .i64 ((k : Nat) : Int))) (.pure (.move _ rfl rfl)) ?_
  refine Ch.s (.d (.int .u8 ((u.getD k 0).toNat : Int))) (.pure (.idxStr _ _ _ (k) rfl Tryz.underlying9 rfl rfl rfl get_strA)) ?_
  refine Ch.s (.d (.bool (!(decide (((u.getD k 0) : UInt8) = 48))))) (.pure (.int _ _ _ _ _ rfl rfl rfl (u8_neq ((u.getD k 0) : UInt8) 48 rfl rfl))) ?_
  refine Ch.s (.d (.bool (!(decide (((u.getD k 0) : UInt8) = 48))))) (.pure (.move _ rfl rfl)) ?_
  cases h2 : (decide (((u.getD k 0) : UInt8) = 48)) with
  | true =>
   replace h2 := of_decide_eq_true h2
   refine Ch.skip rfl rfl ?_
   refine Ch.skip rfl rfl ?_
   refine Ch.skip rfl rfl ?_
   refine Ch.skip rfl rfl ?_
   refine Ch.s (.d (.bool false)) (.pure (.pickF _ _ _ rfl rfl rfl)) ?_
   refine Ch.nil ?_
   refine T_cond (b := false) rfl (fun h => nomatch h) (fun _ => ?_)
   refine T_skip ?_
   refine T_region hc ?_
   refine Ch.s (.d (.int .i64 ((k : Nat) : Int))) (.pure (.move _ rfl rfl)) ?_
   refine Ch.s (.d (.int .i64 (((k : Nat) : Int) + 1))) (.pure (.int _ _ _ _ _ rfl rfl rfl intV_addA)) ?_
   refine Ch.s (.d (.int .i64 (((k : Nat) : Int) + 1))) (.pure (.assign _ rfl rfl)) ?_
   refine Ch.nil ?_
   refine Exists.intro (k + 1) (And.intro ⟨by omega, upto_succ hp0.2 (by simp_all [codeCh])⟩ (And.intro (by first | omega | (dsimp only; omega)) (Wk.of rfl rfl (And.intro rfl (And.intro rfl (And.intro (vI (by first | rfl | omega | (simp; done) | (simp; omega))) trivial))) trivial)))
  | false =>
   replace h2 := of_decide_eq_false h2
   refine Ch.s (.d (.str u)) (.pure (.move _ rfl rfl)) ?_
   refine Ch.s (.d (.int .i64 ((k : Nat) : Int))) (.pure (.move _ rfl rfl)) ?_
   refine Ch.s (.d (.int .u8 ((u.getD k 0).toNat : Int))) (.pure (.idxStr _ _ _ (k) rfl Tryz.underlying9 rfl rfl rfl get_strA)) ?_
   refine Ch.s (.d (.bool (!(decide (((u.getD k 0) : UInt8) = 49))))) (.pure (.int _ _ _ _ _ rfl rfl rfl (u8_neq ((u.getD k 0) : UInt8) 49 rfl rfl))) ?_
   refine Ch.s (.d (.bool (!(decide (((u.getD k 0) : UInt8) = 49))))) (.pure (.pickT _ _ _ rfl rfl rfl)) ?_
   refine Ch.nil ?_
   refine T_cond (b := (!(decide (((u.getD k 0) : UInt8) = 49)))) rfl (fun h3 => ?_) (fun h3 => ?_)
   ·
    replace h3 := nott h3
    replace h3 := of_decide_eq_false h3
    refine T_seq ?_
    refine T_region hc ?_
    refine Ch.s (.d (.bool false)) (.pure (.assign _ rfl rfl)) ?_
    refine Ch.nil ?_
    refine T_ret ?_
    refine And.intro (.inr rfl) ?_
    exact Exists.intro [(.d (.bool false))] (Exists.intro [] (Exists.intro [] (And.intro (.cons (.tmp 4 rfl) .nil) (And.intro (.cons (.any _) (.cons (.any _) .nil)) (And.intro (Exp.of (congrArg D.bool (by first | (rw [codeN, allB_no k (by omega) (by simp_all [codeCh])]; rfl) | (rw [codeN, allB_of (fun j hj => hp0.2 j (by omega)), Bool.true_and]))) (.d _)) (And.intro rfl rfl))))))
   ·
    replace h3 := notf h3
    replace h3 := of_decide_eq_true h3
    refine T_skip ?_
    refine T_region hc ?_
    refine Ch.s (.d (.int .i64 ((k : Nat) : Int))) (.pure (.move _ rfl rfl)) ?_
    refine Ch.s (.d (.int .i64 (((k : Nat) : Int) + 1))) (.pure (.int _ _ _ _ _ rfl rfl rfl intV_addA)) ?_
    refine Ch.s (.d (.int .i64 (((k : Nat) : Int) + 1))) (.pure (.assign _ rfl rfl)) ?_
    refine Ch.nil ?_
    refine Exists.intro (k + 1) (And.intro ⟨by omega, upto_succ hp0.2 (by simp_all [codeCh])⟩ (And.intro (by first | omega | (dsimp only; omega)) (Wk.of rfl rfl (And.intro rfl (And.intro rfl (And.intro (vI (by first | rfl | omega | (simp; done) | (simp; omega))) trivial))) trivial)))
 ·
  replace h1 := of_decide_eq_false h1
  refine T_exit ?_
  refine T_seq ?_
  refine T_region hc ?_
  refine Ch.s (.d (.str u)) (.pure (.move _ rfl rfl)) ?_
  refine Ch.s (.d (.int .i64 ((u.length : Nat) : Int))) (.pure (.lenStr _ _ rfl Tryz.underlying9 rfl)) ?_
  refine Ch.s (.d (.int .i64 n)) (.pure (.move _ rfl rfl)) ?_
  refine Ch.s (.d (.bool (decide (((u.length : Nat) : Int) = n)))) (.pure (.int _ _ _ _ _ rfl rfl rfl rfl)) ?_
  refine Ch.s (.d (.bool (decide (((u.length : Nat) : Int) = n)))) (.pure (.assign _ rfl rfl)) ?_
  refine Ch.nil ?_
  refine T_ret ?_
  refine And.intro (.inr rfl) ?_
  exact Exists.intro [(.d (.bool (decide (((u.length : Nat) : Int) = n))))] (Exists.intro [] (Exists.intro [] (And.intro (.cons (.tmp 4 rfl) .nil) (And.intro (.cons (.any _) (.cons (.any _) .nil)) (And.intro (Exp.of (congrArg D.bool (by first | (rw [codeN, allB_no k (by omega) (by simp_all [codeCh])]; rfl) | (rw [codeN, allB_of (fun j hj => hp0.2 j (by omega)), Bool.true_and]))) (.d _)) (And.intro rfl rfl))))))

theorem sp_stringslite_IndexByte (u : List UInt8) (x : UInt8) : Sp Tryz.prog 308 [(.str u), (.int .u8 (x.toNat : Int))] [.any, .any] (.int .i64 (Lib.indexByte u x)) := by
 refine Sp_intro (lend := true) Tryz.func308 rfl rfl rfl (fun _ => rfl) (fun c hc hX => ?_)
 refine T_seq ?_
 refine T_region hc ?_
 refine Ch.s (.d (.int .i64 0)) (.pure (.assign _ rfl rfl)) ?_
 refine Ch.nil ?_
 refine T_seq ?_
 refine T_region hc ?_
 refine Ch.s (.d (.str u)) (.pure (.move _ rfl rfl)) ?_
 refine Ch.s (.d (.int .u8 (x.toNat : Int))) (.pure (.move _ rfl rfl)) ?_
 refine Ch.step (v := (.d (.int .i64 (Lib.indexByte u x)))) rfl (.pure (.ext 312 _ _ _ (ext_indexByte Tryz.func312 (by kernel_rfl) rfl (by kernel_rfl) (by kernel_rfl) u x) rfl rfl rfl)) rfl rfl ?_
 refine Ch.s (.d (.int .i64 (Lib.indexByte u x))) (.pure (.assign _ rfl rfl)) ?_
 refine Ch.nil ?_
 refine T_ret ?_
 refine And.intro (.inr rfl) ?_
 exact Exists.intro [(.d (.int .i64 (Lib.indexByte u x)))] (Exists.intro [] (Exists.intro [] (And.intro (.cons (.tmp 4 rfl) .nil) (And.intro (.cons (.any _) (.cons (.any _) .nil)) (And.intro (.d _) (And.intro rfl rfl))))))

theorem sp_stringslite_Index (u : List UInt8) : Sp Tryz.prog 305 [(.str u), (.str ([45]))] [.any, .any] (.int .i64 (Lib.indexByte u 45)) := by
 refine Sp_intro (lend := true) Tryz.func305 rfl rfl rfl (fun _ => rfl) (fun c hc hX => ?_)
 refine T_seq ?_
 refine T_region hc ?_
 refine Ch.s (.d (.int .i64 0)) (.pure (.assign _ rfl rfl)) ?_
 refine Ch.nil ?_
 refine T_seq ?_
 refine T_region hc ?_
 refine Ch.s (.d (.str ([45]))) (.pure (.move _ rfl rfl)) ?_
 refine Ch.s (.d (.int .i64 1)) (.pure (.lenStr (s := ([45])) _ _ rfl Tryz.underlying9 rfl)) ?_
 refine Ch.s (.d (.int .i64 1)) (.pure (.assign _ rfl rfl)) ?_
 refine Ch.nil ?_
 refine T_seq ?_
 refine T_block ?_
 refine T_seq ?_
 refine T_region hc ?_
 refine Ch.s (.d (.int .i64 1)) (.pure (.move _ rfl rfl)) ?_
 refine Ch.s (.d (.bool false)) (.pure (.int _ _ _ _ _ rfl rfl rfl rfl)) ?_
 refine Ch.s (.d (.bool false)) (.pure (.move _ rfl rfl)) ?_
 refine Ch.s (.d (.str ([45]))) (.pure (.move _ rfl rfl)) ?_
 refine Ch.s (.d (.str u)) (.pure (.move _ rfl rfl)) ?_
 refine Ch.s (.d (.bool (decide (([45]) = u)))) (.pure (.str _ _ _ _ _ rfl rfl rfl rfl)) ?_
 refine Ch.s (.d (.bool (decide (([45]) = u)))) (.pure (.pickF _ _ _ rfl rfl rfl)) ?_
 refine Ch.s (.d (.bool (decide (([45]) = u)))) (.pure (.assign _ rfl rfl)) ?_
 refine Ch.nil ?_
 refine T_cond (b := (decide (([45]) = u))) rfl (fun h1 => ?_) (fun h1 => ?_)
 ·
  replace h1 := of_decide_eq_true h1
  refine T_seq ?_
  refine T_region hc ?_
  refine Ch.s (.d (.int .i64 0)) (.pure (.assign _ rfl rfl)) ?_
  refine Ch.nil ?_
  refine T_ret ?_
  refine And.intro (.inr rfl) ?_
  exact Exists.intro [(.d (.int .i64 0))] (Exists.intro [] (Exists.intro [] (And.intro (.cons (.tmp 4 rfl) .nil) (And.intro (.cons (.any _) (.cons (.any _) .nil)) (And.intro (Exp.of (congrArg (D.int .i64) (by first | rfl | (subst_vars; rfl) | (simp_all; done))) (.d _)) (And.intro rfl rfl))))))
 ·
  replace h1 := of_decide_eq_false h1
  refine T_seq ?_
  refine T_region hc ?_
  refine Ch.s (.d (.int .i64 1)) (.pure (.move _ rfl rfl)) ?_
  refine Ch.s (.d (.bool true)) (.pure (.int _ _ _ _ _ rfl rfl rfl rfl)) ?_
  refine Ch.s (.d (.bool true)) (.pure (.assign _ rfl rfl)) ?_
  refine Ch.nil ?_
  refine T_cond (b := true) rfl (fun _ => ?_) (fun h => nomatch h)
  refine T_seq ?_
  refine T_region hc ?_
  refine Ch.s (.d (.str u)) (.pure (.move _ rfl rfl)) ?_
  refine Ch.s (.d (.str ([45]))) (.pure (.move _ rfl rfl)) ?_
  refine Ch.s (.d (.int .u8 ((45 : UInt8).toNat : Int))) (.pure (.idxStr _ _ _ (0) rfl Tryz.underlying9 rfl rfl rfl rfl)) ?_
  refine Ch.s (.d (.int .i64 (Lib.indexByte u ((45 : UInt8) : UInt8)))) (.call 30000 308 _ _ _ en308 rfl (.inl rfl) (.cons (.d _) (.cons (.d _) .nil)) rfl rfl (sp_stringslite_IndexByte u ((45 : UInt8) : UInt8)) (.skip _ _ (.skip _ _ .nil)) rfl) ?_
  refine Ch.s (.d (.int .i64 (Lib.indexByte u ((45 : UInt8) : UInt8)))) (.pure (.assign _ rfl rfl)) ?_
  refine Ch.nil ?_
  refine T_ret ?_
  refine And.intro (.inr rfl) ?_
  exact Exists.intro [(.d (.int .i64 (Lib.indexByte u ((45 : UInt8) : UInt8))))] (Exists.intro [] (Exists.intro [] (And.intro (.cons (.tmp 4 rfl) .nil) (And.intro (.cons (.any _) (.cons (.any _) .nil)) (And.intro (Exp.of (congrArg (D.int .i64) (by first | rfl | (subst_vars; rfl) | (simp_all; done))) (.d _)) (And.intro rfl rfl))))))

theorem sp_strings_Index (u : List UInt8) : Sp Tryz.prog 295 [(.str u), (.str ([45]))] [.any, .any] (.int .i64 (Lib.indexByte u 45)) := by
 refine Sp_intro (lend := true) Tryz.func295 rfl rfl rfl (fun _ => rfl) (fun c hc hX => ?_)
 refine T_seq ?_
 refine T_region hc ?_
 refine Ch.s (.d (.int .i64 0)) (.pure (.assign _ rfl rfl)) ?_
 refine Ch.nil ?_
 refine T_seq ?_
 refine T_region hc ?_
 refine Ch.s (.d (.str u)) (.pure (.move _ rfl rfl)) ?_
 refine Ch.s (.d (.str ([45]))) (.pure (.move _ rfl rfl)) ?_
 refine Ch.s (.d (.int .i64 (Lib.indexByte u 45))) (.call 7000 305 _ _ _ en305 rfl (.inl rfl) (.cons (.d _) (.cons (.d _) .nil)) rfl rfl (sp_stringslite_Index u) (.skip _ _ (.skip _ _ .nil)) rfl) ?_
 refine Ch.s (.d (.int .i64 (Lib.indexByte u 45))) (.pure (.assign _ rfl rfl)) ?_
 refine Ch.nil ?_
 refine T_ret ?_
 refine And.intro (.inr rfl) ?_
 exact Exists.intro [(.d (.int .i64 (Lib.indexByte u 45)))] (Exists.intro [] (Exists.intro [] (And.intro (.cons (.tmp 4 rfl) .nil) (And.intro (.cons (.any _) (.cons (.any _) .nil)) (And.intro (.d _) (And.intro rfl rfl))))))

theorem sp_strings_Contains (u : List UInt8) : Sp Tryz.prog 280 [(.str u), (.str ([45]))] [.any, .any] (.bool (dashB u)) := by
 refine Sp_intro (lend := true) Tryz.func280 rfl rfl rfl (fun _ => rfl) (fun c hc hX => ?_)
 refine T_seq ?_
 refine T_region hc ?_
 refine Ch.s (.d (.bool false)) (.pure (.assign _ rfl rfl)) ?_
 refine Ch.nil ?_
 refine T_seq ?_
 refine T_region hc ?_
 refine Ch.s (.d (.str u)) (.pure (.move _ rfl rfl)) ?_
 refine Ch.s (.d (.str ([45]))) (.pure (.move _ rfl rfl)) ?_
 refine Ch.s (.d (.int .i64 (Lib.indexByte u 45))) (.call 7000 295 _ _ _ en295 rfl (.inl rfl) (.cons (.d _) (.cons (.d _) .nil)) rfl rfl (sp_strings_Index u) (.skip _ _ (.skip _ _ .nil)) rfl) ?_
 refine Ch.s (.d (.bool (decide (0 ≤ (Lib.indexByte u 45))))) (.pure (.int _ _ _ _ _ rfl rfl rfl rfl)) ?_
 refine Ch.s (.d (.bool (decide (0 ≤ (Lib.indexByte u 45))))) (.pure (.assign _ rfl rfl)) ?_
 refine Ch.nil ?_
 refine T_ret ?_
 refine And.intro (.inr rfl) ?_
 exact Exists.intro [(.d (.bool (decide (0 ≤ (Lib.indexByte u 45)))))] (Exists.intro [] (Exists.intro [] (And.intro (.cons (.tmp 4 rfl) .nil) (And.intro (.cons (.any _) (.cons (.any _) .nil)) (And.intro (Exp.of (congrArg D.bool (by rfl)) (.d _)) (And.intro rfl rfl))))))

theorem sp_impl_isCode (u : List UInt8) (n : Int) (hs : u.length ≤ 1048576) : Sp Tryz.prog 256 [(.str u), (.int .i64 n)] [.any, .any] (.bool (isCodeB u n)) := by
 refine Sp_intro (lend := true) Tryz.func256 rfl rfl rfl (fun _ => rfl) (fun c hc hX => ?_)
 refine T_seq ?_
 refine T_region hc ?_
 refine Ch.s (.d (.bool false)) (.pure (.assign _ rfl rfl)) ?_
 refine Ch.nil ?_
 refine T_seq ?_
 refine T_region hc ?_
 refine Ch.s (.d (.str u)) (.pure (.move _ rfl rfl)) ?_
 refine Ch.s (.d (.int .i64 n)) (.pure (.move _ rfl rfl)) ?_
 refine Ch.s (.d (.bool (cubeN u n))) (.call 7000 127 _ _ _ en127 rfl (.inl rfl) (.cons (.d _) (.cons (.d _) .nil)) rfl rfl (sp_impl_isCube u n (by first | omega | assumption | (exact hx _ (getD_mem (by omega))) | (exact hx _ (by assumption)) | (exact Nat.le_trans (hx _ (by assumption)) (by omega)) | (simp only [List.length_append, List.length_take, List.length_drop, List.length_cons, List.length_nil]; omega) | (simp_all; done))) (.skip _ _ (.skip _ _ .nil)) rfl) ?_
 refine Ch.s (.d (.bool (cubeN u n))) (.pure (.move _ rfl rfl)) ?_
 cases h1 : (cubeN u n) with
 | true =>
  refine Ch.s (.d (.str u)) (.pure (.move _ rfl rfl)) ?_
  refine Ch.s (.d (.bool (dashB u))) (.call 10000 280 _ _ _ en280 rfl (.inl rfl) (.cons (.d _) (.cons (.d _) .nil)) rfl rfl (sp_strings_Contains u) (.skip _ _ (.skip _ _ .nil)) rfl) ?_
  refine Ch.s (.d (.bool (!(dashB u)))) (.pure (.not _ _ rfl rfl)) ?_
  refine Ch.s (.d (.bool (!(dashB u)))) (.pure (.pickT _ _ _ rfl rfl rfl)) ?_
  refine Ch.s (.d (.bool (!(dashB u)))) (.pure (.assign _ rfl rfl)) ?_
  refine Ch.nil ?_
  refine T_ret ?_
  refine And.intro (.inr rfl) ?_
  exact Exists.intro [(.d (.bool (!(dashB u))))] (Exists.intro [] (Exists.intro [] (And.intro (.cons (.tmp 4 rfl) .nil) (And.intro (.cons (.any _) (.cons (.any _) .nil)) (And.intro (Exp.of (congrArg D.bool (by first | (simp_all; done) | simp_all [isCodeB])) (.d _)) (And.intro rfl rfl))))))
 | false =>
  refine Ch.skip rfl rfl ?_
  refine Ch.skip rfl rfl ?_
  refine Ch.skip rfl rfl ?_
  refine Ch.s (.d (.bool false)) (.pure (.pickF _ _ _ rfl rfl rfl)) ?_
  refine Ch.s (.d (.bool false)) (.pure (.assign _ rfl rfl)) ?_
  refine Ch.nil ?_
  refine T_ret ?_
  refine And.intro (.inr rfl) ?_
  exact Exists.intro [(.d (.bool false))] (Exists.intro [] (Exists.intro [] (And.intro (.cons (.tmp 4 rfl) .nil) (And.intro (.cons (.any _) (.cons (.any _) .nil)) (And.intro (Exp.of (congrArg D.bool (by first | (simp_all; done) | simp_all [isCodeB])) (.d _)) (And.intro rfl rfl))))))

theorem any_yes {τ : Type} {l : List τ} {p : τ → Bool} (d : τ) (k : Nat) (hk : k < l.length) (h : p (l.getD k d) = true) : true = l.any p := (List.any_eq_true.2 ⟨_, getD_mem hk, h⟩).symm

theorem any_no {τ : Type} {l : List τ} {p : τ → Bool} (d : τ) (h : ∀ j, j < l.length → p (l.getD j d) = false) : false = l.any p := by
  symm
  rw [List.any_eq_false]
  intro x hx
  obtain ⟨j, hj, rfl⟩ := List.mem_iff_getElem.1 hx
  have := h j hj
  simp [hj] at this
  simp [this]

theorem en149 : Enters Tryz.prog 149 := ⟨_, Tryz.func149, by kernel_rfl, rfl⟩

theorem en163 : Enters Tryz.prog 163 := ⟨_, Tryz.func163, by kernel_rfl, rfl⟩

theorem en256 : Enters Tryz.prog 256 := ⟨_, Tryz.func256, by kernel_rfl, rfl⟩

theorem en205 : Enters Tryz.prog 205 := ⟨_, Tryz.func205, by kernel_rfl, rfl⟩

theorem en79 : Enters Tryz.prog 79 := ⟨_, Tryz.func79, by kernel_rfl, rfl⟩

theorem ag23 : AggIs Tryz.prog 23 false := by unfold AggIs; kernel_rfl

theorem en81 : Enters Tryz.prog 81 := ⟨_, Tryz.func81, by kernel_rfl, rfl⟩

theorem en212 : Enters Tryz.prog 212 := ⟨_, Tryz.func212, by kernel_rfl, rfl⟩

theorem en213 : Enters Tryz.prog 213 := ⟨_, Tryz.func213, by kernel_rfl, rfl⟩

def hasS (xs : List (List UInt8)) (u : List UInt8) : Bool := xs.any fun a => decide (a = u)

def upB (xs : List (List UInt8)) (j : Nat) : Bool := decide (j = 0) || Op.bytesLess (xs.getD (j - 1) default) (xs.getD j default)

def codesB (n : Int) (xs : List (List UInt8)) : Bool := allB xs.length fun j => codeN (xs.getD j default) n && upB xs j

def codesI (n : Int) (xs : List (List UInt8)) : Bool := allB xs.length fun j => isCodeB (xs.getD j default) n && upB xs j

def onoffB (n : Int) (xs ys : List (List UInt8)) : Bool := withinB n 1 8 && (decide ((xs.length : Int) ≤ 64) && (decide ((ys.length : Int) ≤ 256) && (codesB n xs && (codesB n ys && allOf xs (fun u => !hasS ys u)))))

theorem codesI_eq {n : Int} (h : withinB n 1 8 = true) (xs : List (List UInt8)) : codesI n xs = codesB n xs := by
  unfold codesI codesB
  apply allB_congr
  intro j _
  rw [code_eq, h, Bool.and_true]

theorem has_any (xs ys : List (List UInt8)) : (xs.any fun u => hasS ys u) = !allOf xs (fun u => !hasS ys u) := by
  rw [← any_not]; congr 1; funext u; rw [Bool.not_not]

theorem onoff_impl (n : Int) (xs ys : List (List UInt8)) : onoffB n xs ys = (withinB n 1 8 && ((codesI n xs && decide ((xs.length : Int) ≤ 64)) && ((codesI n ys && decide ((ys.length : Int) ≤ 256)) && !(xs.any fun u => hasS ys u)))) := by
  unfold onoffB
  cases hw : withinB n 1 8 with
  | false => rfl
  | true =>
    rw [codesI_eq hw, codesI_eq hw, has_any, Bool.not_not]
    cases codesB n xs <;> cases codesB n ys <;> cases decide ((xs.length : Int) ≤ 64) <;> cases decide ((ys.length : Int) ≤ 256) <;> simp

theorem sp_spec_l1HasS (xs : List (List UInt8)) (u : List UInt8) (hn : xs.length ≤ 1048576) : Sp Tryz.prog 79 [(.slice false 1 (xs.map D.str)), (.str u)] [.any, .any] (.bool (hasS xs u)) := by
 refine Sp_intro (lend := true) Tryz.func79 rfl rfl rfl (fun _ => rfl) (fun c hc hX => ?_)
 refine T_seq ?_
 refine T_region hc ?_
 refine Ch.s (.d (.bool false)) (.pure (.assign _ rfl rfl)) ?_
 refine Ch.nil ?_
 refine T_seq ?_
 refine T_seq ?_
 refine T_region hc ?_
 refine Ch.s (.d (.slice false 1 (xs.map D.str))) (.pure (.move _ rfl rfl)) ?_
 refine Ch.s (.d (.int .i64 ((xs.length : Nat) : Int))) (.pure (.len _ _ 9 rfl Tryz.underlying23 (.sh _ _) (by simp))) ?_
 refine Ch.s (.d (.int .i64 0)) (.pure (.move _ rfl rfl)) ?_
 refine Ch.nil ?_
 refine T_block ?_
 refine T_loop (ι := Nat) (fun k => { n := 17, sl := [(1, (.d (.str u))), (7, (.d (.slice false 1 (xs.map D.str)))), (8, (.d (.int .i64 ((xs.length : Nat) : Int)))), (9, (.d (.int .i64 ((k : Nat) : Int))))], hp := [], pin := [] }) (fun k => k ≤ xs.length ∧ ∀ j, j < k → decide (xs.getD j default = u) = false) (fun k => xs.length - k) ⟨0, ⟨by omega, fun j hj => by omega⟩, (Wk.of rfl rfl (And.intro rfl (And.intro rfl (And.intro rfl (And.intro (vI (by first | rfl | omega | (simp; done) | (simp; omega))) trivial)))) trivial)⟩ (fun k hp0 => ?_)
 refine T_seq ?_
 refine T_region hc ?_
 refine Ch.s (.d (.bool (decide (((k : Nat) : Int) < ((xs.length : Nat) : Int))))) (.pure (.int _ _ _ _ _ rfl rfl rfl rfl)) ?_
 refine Ch.nil ?_
 refine T_seq ?_
 refine T_cond (b := (decide (((k : Nat) : Int) < ((xs.length : Nat) : Int)))) rfl (fun h1 => ?_) (fun h1 => ?_)
 ·
  replace h1 := of_decide_eq_true h1
  refine T_skip ?_
  refine T_seq ?_
  refine T_block ?_
  refine T_seq ?_
  refine T_region hc ?_
  refine Ch.s (.d (.ref (.str (xs.getD k default)))) (.pure (.idx _ _ _ 9 (k) rfl Tryz.underlying23 sz9 rfl rfl rfl get_mapA)) ?_
  refine Ch.s (.d (.str (xs.getD k default))) (.pure (.loadRef1 _ _ rfl ag9 rfl rfl)) ?_
  refine Ch.s (.d (.str (xs.getD k default))) (.pure (.assign _ rfl rfl)) ?_
  refine Ch.nil ?_
  refine T_seq ?_
  refine T_region hc ?_
  refine Ch.s (.d (.str (xs.getD k default))) (.pure (.move _ rfl rfl)) ?_
  refine Ch.s (.d (.str u)) (.pure (.move _ rfl rfl)) ?_
  refine Ch.s (.d (.bool (decide ((xs.getD k default) = u)))) (.pure (.str _ _ _ _ _ rfl rfl rfl rfl)) ?_
  refine Ch.nil ?_
  refine T_cond (b := (decide ((xs.getD k default) = u))) rfl (fun h2 => ?_) (fun h2 => ?_)
  ·
   replace h2 := of_decide_eq_true h2
   refine T_seq ?_
   refine T_region hc ?_
   refine Ch.s (.d (.bool true)) (.pure (.assign _ rfl rfl)) ?_
   refine Ch.nil ?_
   refine T_ret ?_
   refine And.intro (.inr rfl) ?_
   exact Exists.intro [(.d (.bool true))] (Exists.intro [] (Exists.intro [] (And.intro (.cons (.tmp 4 rfl) .nil) (And.intro (.cons (.any _) (.cons (.any _) .nil)) (And.intro (Exp.of (congrArg D.bool (by exact any_yes default k (by omega) (by simp_all))) (.d _)) (And.intro rfl rfl))))))
  ·
   replace h2 := of_decide_eq_false h2
   refine T_skip ?_
   refine T_region hc ?_
   refine Ch.s (.d (.int .i64 (((k : Nat) : Int) + 1))) (.pure (.int _ _ _ _ _ rfl rfl rfl intV_addA)) ?_
   refine Ch.s (.d (.int .i64 (((k : Nat) : Int) + 1))) (.pure (.move _ rfl rfl)) ?_
   refine Ch.nil ?_
   refine Exists.intro (k + 1) (And.intro ⟨by omega, upto_succ hp0.2 (by first | (simp_all; done) | (exact decide_eq_false (fun e => h2 e.symm)))⟩ (And.intro (by first | omega | (dsimp only; omega)) (Wk.of rfl rfl (And.intro rfl (And.intro rfl (And.intro rfl (And.intro (vI (by first | rfl | omega | (simp; done) | (simp; omega))) trivial)))) trivial)))
 ·
  replace h1 := of_decide_eq_false h1
  refine T_exit ?_
  refine T_seq ?_
  refine T_region hc ?_
  refine Ch.s (.d (.bool false)) (.pure (.assign _ rfl rfl)) ?_
  refine Ch.nil ?_
  refine T_ret ?_
  refine And.intro (.inr rfl) ?_
  exact Exists.intro [(.d (.bool false))] (Exists.intro [] (Exists.intro [] (And.intro (.cons (.tmp 4 rfl) .nil) (And.intro (.cons (.any _) (.cons (.any _) .nil)) (And.intro (Exp.of (congrArg D.bool (by exact any_no default (fun j hj => hp0.2 j (by omega)))) (.d _)) (And.intro rfl rfl))))))

theorem sp_Index_str (xs : List (List UInt8)) (u : List UInt8) (hn : xs.length ≤ 1048576) : Sp Tryz.prog 149 [(.slice false 1 (xs.map D.str)), (.str u)] [.any, .any] (.int .i64 (ixF (fun a => decide (a = u)) xs)) := by
 refine Sp_intro (lend := true) Tryz.func149 rfl rfl rfl (fun _ => rfl) (fun c hc hX => ?_)
 refine T_seq ?_
 refine T_region hc ?_
 refine Ch.s (.d (.int .i64 0)) (.pure (.assign _ rfl rfl)) ?_
 refine Ch.nil ?_
 refine T_seq ?_
 refine T_seq ?_
 refine T_region hc ?_
 refine Ch.s (.d (.slice false 1 (xs.map D.str))) (.pure (.move _ rfl rfl)) ?_
 refine Ch.s (.d (.int .i64 ((xs.length : Nat) : Int))) (.pure (.len _ _ 9 rfl Tryz.underlying23 (.sh _ _) (by simp))) ?_
 refine Ch.s (.d (.int .i64 0)) (.pure (.move _ rfl rfl)) ?_
 refine Ch.nil ?_
 refine T_block ?_
 refine T_loop (ι := Nat) (fun k => { n := 19, sl := [(0, (.d (.slice false 1 (xs.map D.str)))), (1, (.d (.str u))), (7, (.d (.int .i64 ((xs.length : Nat) : Int)))), (8, (.d (.int .i64 ((k : Nat) : Int))))], hp := [], pin := [] }) (fun k => k ≤ xs.length ∧ ∀ j, j < k → decide (xs.getD j default = u) = false) (fun k => xs.length - k) ⟨0, ⟨by omega, fun j hj => by omega⟩, (Wk.of rfl rfl (And.intro rfl (And.intro rfl (And.intro rfl (And.intro (vI (by first | rfl | omega | (simp; done) | (simp; omega))) trivial)))) trivial)⟩ (fun k hp0 => ?_)
 refine T_seq ?_
 refine T_region hc ?_
 refine Ch.s (.d (.bool (decide (((k : Nat) : Int) < ((xs.length : Nat) : Int))))) (.pure (.int _ _ _ _ _ rfl rfl rfl rfl)) ?_
 refine Ch.nil ?_
 refine T_seq ?_
 refine T_cond (b := (decide (((k : Nat) : Int) < ((xs.length : Nat) : Int)))) rfl (fun h1 => ?_) (fun h1 => ?_)
 ·
  replace h1 := of_decide_eq_true h1
  refine T_skip ?_
  refine T_seq ?_
  refine T_block ?_
  refine T_seq ?_
  refine T_region hc ?_
  refine Ch.s (.d (.int .i64 ((k : Nat) : Int))) (.pure (.move _ rfl rfl)) ?_
  refine Ch.s (.d (.int .i64 ((k : Nat) : Int))) (.pure (.assign _ rfl rfl)) ?_
  refine Ch.nil ?_
  refine T_seq ?_
  refine T_region hc ?_
  refine Ch.s (.d (.str u)) (.pure (.move _ rfl rfl)) ?_
  refine Ch.s (.d (.slice false 1 (xs.map D.str))) (.pure (.move _ rfl rfl)) ?_
  refine Ch.s (.d (.int .i64 ((k : Nat) : Int))) (.pure (.move _ rfl rfl)) ?_
  refine Ch.s (.d (.ref (.str (xs.getD k default)))) (.pure (.idx _ _ _ 9 (k) rfl Tryz.underlying23 sz9 rfl rfl rfl get_mapA)) ?_
  refine Ch.s (.d (.str (xs.getD k default))) (.pure (.loadRef1 _ _ rfl ag9 rfl rfl)) ?_
  refine Ch.s (.d (.bool (decide (u = (xs.getD k default))))) (.pure (.str _ _ _ _ _ rfl rfl rfl rfl)) ?_
  refine Ch.nil ?_
  refine T_cond (b := (decide (u = (xs.getD k default)))) rfl (fun h2 => ?_) (fun h2 => ?_)
  ·
   replace h2 := of_decide_eq_true h2
   refine T_seq ?_
   refine T_region hc ?_
   refine Ch.s (.d (.int .i64 ((k : Nat) : Int))) (.pure (.move _ rfl rfl)) ?_
   refine Ch.s (.d (.int .i64 ((k : Nat) : Int))) (.pure (.assign _ rfl rfl)) ?_
   refine Ch.nil ?_
   refine T_ret ?_
   refine And.intro (.inr rfl) ?_
   exact Exists.intro [(.d (.int .i64 ((k : Nat) : Int)))] (Exists.intro [] (Exists.intro [] (And.intro (.cons (.tmp 4 rfl) .nil) (And.intro (.cons (.any _) (.cons (.any _) .nil)) (And.intro (Exp.of (congrArg (D.int .i64) (by exact (ixF_some (d := default) (by omega) hp0.2 (by simp_all)).symm)) (.d _)) (And.intro rfl rfl))))))
  ·
   replace h2 := of_decide_eq_false h2
   refine T_skip ?_
   refine T_region hc ?_
   refine Ch.s (.d (.int .i64 (((k : Nat) : Int) + 1))) (.pure (.int _ _ _ _ _ rfl rfl rfl intV_addA)) ?_
   refine Ch.s (.d (.int .i64 (((k : Nat) : Int) + 1))) (.pure (.move _ rfl rfl)) ?_
   refine Ch.nil ?_
   refine Exists.intro (k + 1) (And.intro ⟨by omega, upto_succ hp0.2 (by first | (simp_all; done) | (exact decide_eq_false (fun e => h2 e.symm)))⟩ (And.intro (by first | omega | (dsimp only; omega)) (Wk.of rfl rfl (And.intro rfl (And.intro rfl (And.intro rfl (And.intro (vI (by first | rfl | omega | (simp; done) | (simp; omega))) trivial)))) trivial)))
 ·
  replace h1 := of_decide_eq_false h1
  refine T_exit ?_
  refine T_seq ?_
  refine T_region hc ?_
  refine Ch.s (.d (.int .i64 (-1))) (.pure (.assign _ rfl rfl)) ?_
  refine Ch.nil ?_
  refine T_ret ?_
  refine And.intro (.inr rfl) ?_
  exact Exists.intro [(.d (.int .i64 (-1)))] (Exists.intro [] (Exists.intro [] (And.intro (.cons (.tmp 4 rfl) .nil) (And.intro (.cons (.any _) (.cons (.any _) .nil)) (And.intro (Exp.of (congrArg (D.int .i64) (by exact (ixF_none (d := default) (fun j hj => hp0.2 j (by omega))).symm)) (.d _)) (And.intro rfl rfl))))))

theorem sp_Contains_str (xs : List (List UInt8)) (u : List UInt8) (hn : xs.length ≤ 1048576) : Sp Tryz.prog 81 [(.slice false 1 (xs.map D.str)), (.str u)] [.any, .any] (.bool (hasS xs u)) := by
 refine Sp_intro (lend := true) Tryz.func81 rfl rfl rfl (fun _ => rfl) (fun c hc hX => ?_)
 refine T_seq ?_
 refine T_region hc ?_
 refine Ch.s (.d (.bool false)) (.pure (.assign _ rfl rfl)) ?_
 refine Ch.nil ?_
 refine T_seq ?_
 refine T_region hc ?_
 refine Ch.s (.d (.slice false 1 (xs.map D.str))) (.pure (.move _ rfl rfl)) ?_
 refine Ch.s (.d (.str u)) (.pure (.move _ rfl rfl)) ?_
 refine Ch.s (.d (.int .i64 (ixF (fun a => decide (a = u)) xs))) (.call 7000 149 _ _ _ en149 rfl (.inl rfl) (.cons (.d _) (.cons (.d _) .nil)) rfl rfl (sp_Index_str xs u (by first | omega | assumption | (exact hx _ (getD_mem (by omega))) | (exact hx _ (by assumption)) | (exact Nat.le_trans (hx _ (by assumption)) (by omega)) | (simp only [List.length_append, List.length_take, List.length_drop, List.length_cons, List.length_nil]; omega) | (simp_all; done))) (.skip _ _ (.skip _ _ .nil)) rfl) ?_
 refine Ch.s (.d (.bool (decide (0 ≤ (ixF (fun a => decide (a = u)) xs))))) (.pure (.int _ _ _ _ _ rfl rfl rfl rfl)) ?_
 refine Ch.s (.d (.bool (decide (0 ≤ (ixF (fun a => decide (a = u)) xs))))) (.pure (.assign _ rfl rfl)) ?_
 refine Ch.nil ?_
 refine T_ret ?_
 refine And.intro (.inr rfl) ?_
 exact Exists.intro [(.d (.bool (decide (0 ≤ (ixF (fun a => decide (a = u)) xs)))))] (Exists.intro [] (Exists.intro [] (And.intro (.cons (.tmp 4 rfl) .nil) (And.intro (.cons (.any _) (.cons (.any _) .nil)) (And.intro (Exp.of (congrArg D.bool (by exact ixF_nonneg _ xs)) (.d _)) (And.intro rfl rfl))))))

theorem sp_spec_l14Codes (n : Int) (xs : List (List UInt8)) (hn : xs.length ≤ 1048576) (hx : ∀ x ∈ xs, x.length ≤ 1048576) : Sp Tryz.prog 205 [(.int .i64 n), (.slice false 1 (xs.map D.str))] [.any, .any] (.bool (codesB n xs)) := by
 refine Sp_intro (lend := true) Tryz.func205 rfl rfl rfl (fun _ => rfl) (fun c hc hX => ?_)
 refine T_seq ?_
 refine T_region hc ?_
 refine Ch.s (.d (.bool false)) (.pure (.assign _ rfl rfl)) ?_
 refine Ch.nil ?_
 refine T_seq ?_
 refine T_seq ?_
 refine T_region hc ?_
 refine Ch.s (.d (.slice false 1 (xs.map D.str))) (.pure (.move _ rfl rfl)) ?_
 refine Ch.s (.d (.int .i64 ((xs.length : Nat) : Int))) (.pure (.len _ _ 9 rfl Tryz.underlying23 (.sh _ _) (by simp))) ?_
 refine Ch.s (.d (.int .i64 0)) (.pure (.move _ rfl rfl)) ?_
 refine Ch.nil ?_
 refine T_block ?_
 refine T_loop (ι := Nat) (fun k => { n := 32, sl := [(0, (.d (.int .i64 n))), (1, (.d (.slice false 1 (xs.map D.str)))), (7, (.d (.slice false 1 (xs.map D.str)))), (8, (.d (.int .i64 ((xs.length : Nat) : Int)))), (9, (.d (.int .i64 ((k : Nat) : Int))))], hp := [], pin := [] }) (fun k => k ≤ xs.length ∧ ∀ j, j < k → (codeN (xs.getD j default) n && upB xs j) = true) (fun k => xs.length - k) ⟨0, ⟨by omega, fun j hj => by omega⟩, (Wk.of rfl rfl (And.intro rfl (And.intro rfl (And.intro rfl (And.intro rfl (And.intro (vI (by first | rfl | omega | (simp; done) | (simp; omega))) trivial))))) trivial)⟩ (fun k hp0 => ?_)
 refine T_seq ?_
 refine T_region hc ?_
 refine Ch.s (.d (.bool (decide (((k : Nat) : Int) < ((xs.length : Nat) : Int))))) (.pure (.int _ _ _ _ _ rfl rfl rfl rfl)) ?_
 refine Ch.nil ?_
 refine T_seq ?_
 refine T_cond (b := (decide (((k : Nat) : Int) < ((xs.length : Nat) : Int)))) rfl (fun h1 => ?_) (fun h1 => ?_)
 ·
  replace h1 := of_decide_eq_true h1
  refine T_skip ?_
  refine T_seq ?_
  refine T_block ?_
  refine T_seq ?_
  refine T_region hc ?_
  refine Ch.s (.d (.int .i64 ((k : Nat) : Int))) (.pure (.move _ rfl rfl)) ?_
  refine Ch.s (.d (.ref (.str (xs.getD k default)))) (.pure (.idx _ _ _ 9 (k) rfl Tryz.underlying23 sz9 rfl rfl rfl get_mapA)) ?_
  refine Ch.s (.d (.str (xs.getD k default))) (.pure (.loadRef1 _ _ rfl ag9 rfl rfl)) ?_
  refine Ch.s (.d (.int .i64 ((k : Nat) : Int))) (.pure (.assign _ rfl rfl)) ?_
  refine Ch.s (.d (.str (xs.getD k default))) (.pure (.assign _ rfl rfl)) ?_
  refine Ch.nil ?_
  refine T_seq ?_
  refine T_region hc ?_
  refine Ch.s (.d (.str (xs.getD k default))) (.pure (.move _ rfl rfl)) ?_
  refine Ch.s (.d (.int .i64 n)) (.pure (.move _ rfl rfl)) ?_
  refine Ch.s (.d (.bool (codeN (xs.getD k default) n))) (.call 16000 163 _ _ _ en163 rfl (.inl rfl) (.cons (.d _) (.cons (.d _) .nil)) rfl rfl (sp_spec_l5Code (xs.getD k default) n (by first | omega | assumption | (exact hx _ (getD_mem (by omega))) | (exact hx _ (by assumption)) | (exact Nat.le_trans (hx _ (by assumption)) (by omega)) | (simp only [List.length_append, List.length_take, List.length_drop, List.length_cons, List.length_nil]; omega) | (simp_all; done))) (.skip _ _ (.skip _ _ .nil)) rfl) ?_
  refine Ch.s (.d (.bool (!(codeN (xs.getD k default) n)))) (.pure (.not _ _ rfl rfl)) ?_
  refine Ch.s (.d (.bool (!(codeN (xs.getD k default) n)))) (.pure (.move _ rfl rfl)) ?_
  cases h2 : (codeN (xs.getD k default) n) with
  | true =>
   refine Ch.s (.d (.int .i64 ((k : Nat) : Int))) (.pure (.move _ rfl rfl)) ?_
   refine Ch.s (.d (.bool (decide (0 < ((k : Nat) : Int))))) (.pure (.int _ _ _ _ _ rfl rfl rfl rfl)) ?_
   refine Ch.s (.d (.bool (decide (0 < ((k : Nat) : Int))))) (.pure (.move _ rfl rfl)) ?_
   cases h3 : (decide (0 < ((k : Nat) : Int))) with
   | true =>
    replace h3 := of_decide_eq_true h3
    refine Ch.s (.d (.slice false 1 (xs.map D.str))) (.pure (.move _ rfl rfl)) ?_
    refine Ch.s (.d (.int .i64 ((k : Nat) : Int))) (.pure (.move _ rfl rfl)) ?_
    refine Ch.s (.d (.int .i64 (((k : Nat) : Int) - 1))) (.pure (.int _ _ _ _ _ rfl rfl rfl intV_subA)) ?_
    refine Ch.s (.d (.ref (.str (xs.getD (k - 1) default)))) (.pure (.idx _ _ _ 9 ((k - 1)) rfl Tryz.underlying23 sz9 rfl rfl (by omega) get_mapA)) ?_
    refine Ch.s (.d (.str (xs.getD (k - 1) default))) (.pure (.loadRef1 _ _ rfl ag9 rfl rfl)) ?_
    refine Ch.s (.d (.str (xs.getD k default))) (.pure (.move _ rfl rfl)) ?_
    refine Ch.s (.d (.bool (!(Op.bytesLess (xs.getD (k - 1) default) (xs.getD k default))))) (.pure (.str _ _ _ _ _ rfl rfl rfl rfl)) ?_
    refine Ch.s (.d (.bool (!(Op.bytesLess (xs.getD (k - 1) default) (xs.getD k default))))) (.pure (.pickT _ _ _ rfl rfl rfl)) ?_
    refine Ch.s (.d (.bool (!(Op.bytesLess (xs.getD (k - 1) default) (xs.getD k default))))) (.pure (.pickF _ _ _ rfl rfl rfl)) ?_
    refine Ch.nil ?_
    refine T_cond (b := (!(Op.bytesLess (xs.getD (k - 1) default) (xs.getD k default)))) rfl (fun h4 => ?_) (fun h4 => ?_)
    ·
     replace h4 := nott h4
     refine T_seq ?_
     refine T_region hc ?_
     refine Ch.s (.d (.bool false)) (.pure (.assign _ rfl rfl)) ?_
     refine Ch.nil ?_
     refine T_ret ?_
     refine And.intro (.inr rfl) ?_
     exact Exists.intro [(.d (.bool false))] (Exists.intro [] (Exists.intro [] (And.intro (.cons (.tmp 4 rfl) .nil) (And.intro (.cons (.any _) (.cons (.any _) .nil)) (And.intro (Exp.of (congrArg D.bool (by first | (rw [codesB, allB_no k (by omega) (by first | (simp_all [upB]; done) | (simp_all [upB]; omega))]; done) | (rw [codesB, allB_of (fun j hj => hp0.2 j (by omega))]; done))) (.d _)) (And.intro rfl rfl))))))
    ·
     replace h4 := notf h4
     refine T_skip ?_
     refine T_region hc ?_
     refine Ch.s (.d (.int .i64 (((k : Nat) : Int) + 1))) (.pure (.int _ _ _ _ _ rfl rfl rfl intV_addA)) ?_
     refine Ch.s (.d (.int .i64 (((k : Nat) : Int) + 1))) (.pure (.move _ rfl rfl)) ?_
     refine Ch.nil ?_
     refine Exists.intro (k + 1) (And.intro ⟨by omega, upto_succ hp0.2 (by first | (simp_all [upB]; done) | (simp_all [upB]; omega))⟩ (And.intro (by first | omega | (dsimp only; omega)) (Wk.of rfl rfl (And.intro rfl (And.intro rfl (And.intro rfl (And.intro rfl (And.intro (vI (by first | rfl | omega | (simp; done) | (simp; omega))) trivial))))) trivial)))
   | false =>
    replace h3 := of_decide_eq_false h3
    refine Ch.skip rfl rfl ?_
    refine Ch.skip rfl rfl ?_
    refine Ch.skip rfl rfl ?_
    refine Ch.skip rfl rfl ?_
    refine Ch.skip rfl rfl ?_
    refine Ch.skip rfl rfl ?_
    refine Ch.skip rfl rfl ?_
    refine Ch.s (.d (.bool false)) (.pure (.pickF _ _ _ rfl rfl rfl)) ?_
    refine Ch.s (.d (.bool false)) (.pure (.pickF _ _ _ rfl rfl rfl)) ?_
    refine Ch.nil ?_
    refine T_cond (b := false) rfl (fun h => nomatch h) (fun _ => ?_)
    refine T_skip ?_
    refine T_region hc ?_
    refine Ch.s (.d (.int .i64 (((k : Nat) : Int) + 1))) (.pure (.int _ _ _ _ _ rfl rfl rfl intV_addA)) ?_
    refine Ch.s (.d (.int .i64 (((k : Nat) : Int) + 1))) (.pure (.move _ rfl rfl)) ?_
    refine Ch.nil ?_
    refine Exists.intro (k + 1) (And.intro ⟨by omega, upto_succ hp0.2 (by first | (simp_all [upB]; done) | (simp_all [upB]; omega))⟩ (And.intro (by first | omega | (dsimp only; omega)) (Wk.of rfl rfl (And.intro rfl (And.intro rfl (And.intro rfl (And.intro rfl (And.intro (vI (by first | rfl | omega | (simp; done) | (simp; omega))) trivial))))) trivial)))
  | false =>
   refine Ch.skip rfl rfl ?_
   refine Ch.skip rfl rfl ?_
   refine Ch.skip rfl rfl ?_
   refine Ch.skip rfl rfl ?_
   refine Ch.skip rfl rfl ?_
   refine Ch.skip rfl rfl ?_
   refine Ch.skip rfl rfl ?_
   refine Ch.skip rfl rfl ?_
   refine Ch.skip rfl rfl ?_
   refine Ch.skip rfl rfl ?_
   refine Ch.skip rfl rfl ?_
   refine Ch.s (.d (.bool true)) (.pure (.pickT _ _ _ rfl rfl rfl)) ?_
   refine Ch.nil ?_
   refine T_cond (b := true) rfl (fun _ => ?_) (fun h => nomatch h)
   refine T_seq ?_
   refine T_region hc ?_
   refine Ch.s (.d (.bool false)) (.pure (.assign _ rfl rfl)) ?_
   refine Ch.nil ?_
   refine T_ret ?_
   refine And.intro (.inr rfl) ?_
   exact Exists.intro [(.d (.bool false))] (Exists.intro [] (Exists.intro [] (And.intro (.cons (.tmp 4 rfl) .nil) (And.intro (.cons (.any _) (.cons (.any _) .nil)) (And.intro (Exp.of (congrArg D.bool (by first | (rw [codesB, allB_no k (by omega) (by first | (simp_all [upB]; done) | (simp_all [upB]; omega))]; done) | (rw [codesB, allB_of (fun j hj => hp0.2 j (by omega))]; done))) (.d _)) (And.intro rfl rfl))))))
 ·
  replace h1 := of_decide_eq_false h1
  refine T_exit ?_
  refine T_seq ?_
  refine T_region hc ?_
  refine Ch.s (.d (.bool true)) (.pure (.assign _ rfl rfl)) ?_
  refine Ch.nil ?_
  refine T_ret ?_
  refine And.intro (.inr rfl) ?_
  exact Exists.intro [(.d (.bool true))] (Exists.intro [] (Exists.intro [] (And.intro (.cons (.tmp 4 rfl) .nil) (And.intro (.cons (.any _) (.cons (.any _) .nil)) (And.intro (Exp.of (congrArg D.bool (by first | (rw [codesB, allB_no k (by omega) (by first | (simp_all [upB]; done) | (simp_all [upB]; omega))]; done) | (rw [codesB, allB_of (fun j hj => hp0.2 j (by omega))]; done))) (.d _)) (And.intro rfl rfl))))))

theorem sp_impl_areCodes (n : Int) (xs : List (List UInt8)) (most : Int) (hn : xs.length ≤ 1048576) (hx : ∀ x ∈ xs, x.length ≤ 1048576) : Sp Tryz.prog 212 [(.int .i64 n), (.slice false 1 (xs.map D.str)), (.int .i64 most)] [.any, .any, .any] (.bool (codesI n xs && decide ((xs.length : Int) ≤ most))) := by
 refine Sp_intro (lend := true) Tryz.func212 rfl rfl rfl (fun _ => rfl) (fun c hc hX => ?_)
 refine T_seq ?_
 refine T_region hc ?_
 refine Ch.s (.d (.bool false)) (.pure (.assign _ rfl rfl)) ?_
 refine Ch.nil ?_
 refine T_seq ?_
 refine T_seq ?_
 refine T_region hc ?_
 refine Ch.s (.d (.slice false 1 (xs.map D.str))) (.pure (.move _ rfl rfl)) ?_
 refine Ch.s (.d (.int .i64 ((xs.length : Nat) : Int))) (.pure (.len _ _ 9 rfl Tryz.underlying23 (.sh _ _) (by simp))) ?_
 refine Ch.s (.d (.int .i64 0)) (.pure (.move _ rfl rfl)) ?_
 refine Ch.nil ?_
 refine T_block ?_
 refine T_loop (ι := Nat) (fun k => { n := 38, sl := [(0, (.d (.int .i64 n))), (1, (.d (.slice false 1 (xs.map D.str)))), (2, (.d (.int .i64 most))), (9, (.d (.slice false 1 (xs.map D.str)))), (10, (.d (.int .i64 ((xs.length : Nat) : Int)))), (11, (.d (.int .i64 ((k : Nat) : Int))))], hp := [], pin := [] }) (fun k => k ≤ xs.length ∧ ∀ j, j < k → (isCodeB (xs.getD j default) n && upB xs j) = true) (fun k => xs.length - k) ⟨0, ⟨by omega, fun j hj => by omega⟩, (Wk.of rfl rfl (And.intro rfl (And.intro rfl (And.intro rfl (And.intro rfl (And.intro rfl (And.intro (vI (by first | rfl | omega | (simp; done) | (simp; omega))) trivial)))))) trivial)⟩ (fun k hp0 => ?_)
 refine T_seq ?_
 refine T_region hc ?_
 refine Ch.s (.d (.bool (decide (((k : Nat) : Int) < ((xs.length : Nat) : Int))))) (.pure (.int _ _ _ _ _ rfl rfl rfl rfl)) ?_
 refine Ch.nil ?_
 refine T_seq ?_
 refine T_cond (b := (decide (((k : Nat) : Int) < ((xs.length : Nat) : Int)))) rfl (fun h1 => ?_) (fun h1 => ?_)
 ·
  replace h1 := of_decide_eq_true h1
  refine T_skip ?_
  refine T_seq ?_
  refine T_block ?_
  refine T_seq ?_
  refine T_region hc ?_
  refine Ch.s (.d (.int .i64 ((k : Nat) : Int))) (.pure (.move _ rfl rfl)) ?_
  refine Ch.s (.d (.ref (.str (xs.getD k default)))) (.pure (.idx _ _ _ 9 (k) rfl Tryz.underlying23 sz9 rfl rfl rfl get_mapA)) ?_
  refine Ch.s (.d (.str (xs.getD k default))) (.pure (.loadRef1 _ _ rfl ag9 rfl rfl)) ?_
  refine Ch.s (.d (.int .i64 ((k : Nat) : Int))) (.pure (.assign _ rfl rfl)) ?_
  refine Ch.s (.d (.str (xs.getD k default))) (.pure (.assign _ rfl rfl)) ?_
  refine Ch.nil ?_
  refine T_seq ?_
  refine T_region hc ?_
  refine Ch.s (.d (.str (xs.getD k default))) (.pure (.move _ rfl rfl)) ?_
  refine Ch.s (.d (.int .i64 n)) (.pure (.move _ rfl rfl)) ?_
  refine Ch.s (.d (.bool (isCodeB (xs.getD k default) n))) (.call 18000 256 _ _ _ en256 rfl (.inl rfl) (.cons (.d _) (.cons (.d _) .nil)) rfl rfl (sp_impl_isCode (xs.getD k default) n (by first | omega | assumption | (exact hx _ (getD_mem (by omega))) | (exact hx _ (by assumption)) | (exact Nat.le_trans (hx _ (by assumption)) (by omega)) | (simp only [List.length_append, List.length_take, List.length_drop, List.length_cons, List.length_nil]; omega) | (simp_all; done))) (.skip _ _ (.skip _ _ .nil)) rfl) ?_
  refine Ch.s (.d (.bool (!(isCodeB (xs.getD k default) n)))) (.pure (.not _ _ rfl rfl)) ?_
  refine Ch.s (.d (.bool (!(isCodeB (xs.getD k default) n)))) (.pure (.move _ rfl rfl)) ?_
  cases h2 : (isCodeB (xs.getD k default) n) with
  | true =>
   refine Ch.s (.d (.int .i64 ((k : Nat) : Int))) (.pure (.move _ rfl rfl)) ?_
   refine Ch.s (.d (.bool (decide (0 < ((k : Nat) : Int))))) (.pure (.int _ _ _ _ _ rfl rfl rfl rfl)) ?_
   refine Ch.s (.d (.bool (decide (0 < ((k : Nat) : Int))))) (.pure (.move _ rfl rfl)) ?_
   cases h3 : (decide (0 < ((k : Nat) : Int))) with
   | true =>
    replace h3 := of_decide_eq_true h3
    refine Ch.s (.d (.slice false 1 (xs.map D.str))) (.pure (.move _ rfl rfl)) ?_
    refine Ch.s (.d (.int .i64 ((k : Nat) : Int))) (.pure (.move _ rfl rfl)) ?_
    refine Ch.s (.d (.int .i64 (((k : Nat) : Int) - 1))) (.pure (.int _ _ _ _ _ rfl rfl rfl intV_subA)) ?_
    refine Ch.s (.d (.ref (.str (xs.getD (k - 1) default)))) (.pure (.idx _ _ _ 9 ((k - 1)) rfl Tryz.underlying23 sz9 rfl rfl (by omega) get_mapA)) ?_
    refine Ch.s (.d (.str (xs.getD (k - 1) default))) (.pure (.loadRef1 _ _ rfl ag9 rfl rfl)) ?_
    refine Ch.s (.d (.str (xs.getD k default))) (.pure (.move _ rfl rfl)) ?_
    refine Ch.s (.d (.bool (!(Op.bytesLess (xs.getD (k - 1) default) (xs.getD k default))))) (.pure (.str _ _ _ _ _ rfl rfl rfl rfl)) ?_
    refine Ch.s (.d (.bool (!(Op.bytesLess (xs.getD (k - 1) default) (xs.getD k default))))) (.pure (.pickT _ _ _ rfl rfl rfl)) ?_
    refine Ch.s (.d (.bool (!(Op.bytesLess (xs.getD (k - 1) default) (xs.getD k default))))) (.pure (.pickF _ _ _ rfl rfl rfl)) ?_
    refine Ch.nil ?_
    refine T_cond (b := (!(Op.bytesLess (xs.getD (k - 1) default) (xs.getD k default)))) rfl (fun h4 => ?_) (fun h4 => ?_)
    ·
     replace h4 := nott h4
     refine T_seq ?_
     refine T_region hc ?_
     refine Ch.s (.d (.bool false)) (.pure (.assign _ rfl rfl)) ?_
     refine Ch.nil ?_
     refine T_ret ?_
     refine And.intro (.inr rfl) ?_
     exact Exists.intro [(.d (.bool false))] (Exists.intro [] (Exists.intro [] (And.intro (.cons (.tmp 6 rfl) .nil) (And.intro (.cons (.any _) (.cons (.any _) (.cons (.any _) .nil))) (And.intro (Exp.of (congrArg D.bool (by first | (rw [codesI, allB_no k (by omega) (by first | (simp_all [upB]; done) | (simp_all [upB]; omega))]; rfl) | (rw [codesI, allB_of (fun j hj => hp0.2 j (by omega)), Bool.true_and]; done))) (.d _)) (And.intro rfl rfl))))))
    ·
     replace h4 := notf h4
     refine T_skip ?_
     refine T_region hc ?_
     refine Ch.s (.d (.int .i64 (((k : Nat) : Int) + 1))) (.pure (.int _ _ _ _ _ rfl rfl rfl intV_addA)) ?_
     refine Ch.s (.d (.int .i64 (((k : Nat) : Int) + 1))) (.pure (.move _ rfl rfl)) ?_
     refine Ch.nil ?_
     refine Exists.intro (k + 1) (And.intro ⟨by omega, upto_succ hp0.2 (by first | (simp_all [upB]; done) | (simp_all [upB]; omega))⟩ (And.intro (by first | omega | (dsimp only; omega)) (Wk.of rfl rfl (And.intro rfl (And.intro rfl (And.intro rfl (And.intro rfl (And.intro rfl (And.intro (vI (by first | rfl | omega | (simp; done) | (simp; omega))) trivial)))))) trivial)))
   | false =>
    replace h3 := of_decide_eq_false h3
    refine Ch.skip rfl rfl ?_
    refine Ch.skip rfl rfl ?_
    refine Ch.skip rfl rfl ?_
    refine Ch.skip rfl rfl ?_
    refine Ch.skip rfl rfl ?_
    refine Ch.skip rfl rfl ?_
    refine Ch.skip rfl rfl ?_
    refine Ch.s (.d (.bool false)) (.pure (.pickF _ _ _ rfl rfl rfl)) ?_
    refine Ch.s (.d (.bool false)) (.pure (.pickF _ _ _ rfl rfl rfl)) ?_
    refine Ch.nil ?_
    refine T_cond (b := false) rfl (fun h => nomatch h) (fun _ => ?_)
    refine T_skip ?_
    refine T_region hc ?_
    refine Ch.s (.d (.int .i64 (((k : Nat) : Int) + 1))) (.pure (.int _ _ _ _ _ rfl rfl rfl intV_addA)) ?_
    refine Ch.s (.d (.int .i64 (((k : Nat) : Int) + 1))) (.pure (.move _ rfl rfl)) ?_
    refine Ch.nil ?_
    refine Exists.intro (k + 1) (And.intro ⟨by omega, upto_succ hp0.2 (by first | (simp_all [upB]; done) | (simp_all [upB]; omega))⟩ (And.intro (by first | omega | (dsimp only; omega)) (Wk.of rfl rfl (And.intro rfl (And.intro rfl (And.intro rfl (And.intro rfl (And.intro rfl (And.intro (vI (by first | rfl | omega | (simp; done) | (simp; omega))) trivial)))))) trivial)))
  | false =>
   refine Ch.skip rfl rfl ?_
   refine Ch.skip rfl rfl ?_
   refine Ch.skip rfl rfl ?_
   refine Ch.skip rfl rfl ?_
   refine Ch.skip rfl rfl ?_
   refine Ch.skip rfl rfl ?_
   refine Ch.skip rfl rfl ?_
   refine Ch.skip rfl rfl ?_
   refine Ch.skip rfl rfl ?_
   refine Ch.skip rfl rfl ?_
   refine Ch.skip rfl rfl ?_
   refine Ch.s (.d (.bool true)) (.pure (.pickT _ _ _ rfl rfl rfl)) ?_
   refine Ch.nil ?_
   refine T_cond (b := true) rfl (fun _ => ?_) (fun h => nomatch h)
   refine T_seq ?_
   refine T_region hc ?_
   refine Ch.s (.d (.bool false)) (.pure (.assign _ rfl rfl)) ?_
   refine Ch.nil ?_
   refine T_ret ?_
   refine And.intro (.inr rfl) ?_
   exact Exists.intro [(.d (.bool false))] (Exists.intro [] (Exists.intro [] (And.intro (.cons (.tmp 6 rfl) .nil) (And.intro (.cons (.any _) (.cons (.any _) (.cons (.any _) .nil))) (And.intro (Exp.of (congrArg D.bool (by first | (rw [codesI, allB_no k (by omega) (by first | (simp_all [upB]; done) | (simp_all [upB]; omega))]; rfl) | (rw [codesI, allB_of (fun j hj => hp0.2 j (by omega)), Bool.true_and]; done))) (.d _)) (And.intro rfl rfl))))))
 ·
  replace h1 := of_decide_eq_false h1
  refine T_exit ?_
  refine T_seq ?_
  refine T_region hc ?_
  refine Ch.s (.d (.slice false 1 (xs.map D.str))) (.pure (.move _ rfl rfl)) ?_
  refine Ch.s (.d (.int .i64 ((xs.length : Nat) : Int))) (.pure (.len _ _ 9 rfl Tryz.underlying23 (.sh _ _) (by simp))) ?_
  refine Ch.s (.d (.int .i64 most)) (.pure (.move _ rfl rfl)) ?_
  refine Ch.s (.d (.bool (decide (((xs.length : Nat) : Int) ≤ most)))) (.pure (.int _ _ _ _ _ rfl rfl rfl rfl)) ?_
  refine Ch.s (.d (.bool (decide (((xs.length : Nat) : Int) ≤ most)))) (.pure (.assign _ rfl rfl)) ?_
  refine Ch.nil ?_
  refine T_ret ?_
  refine And.intro (.inr rfl) ?_
  exact Exists.intro [(.d (.bool (decide (((xs.length : Nat) : Int) ≤ most))))] (Exists.intro [] (Exists.intro [] (And.intro (.cons (.tmp 6 rfl) .nil) (And.intro (.cons (.any _) (.cons (.any _) (.cons (.any _) .nil))) (And.intro (Exp.of (congrArg D.bool (by first | (rw [codesI, allB_no k (by omega) (by first | (simp_all [upB]; done) | (simp_all [upB]; omega))]; rfl) | (rw [codesI, allB_of (fun j hj => hp0.2 j (by omega)), Bool.true_and]; done))) (.d _)) (And.intro rfl rfl))))))

theorem sp_spec_l14Sets (n : Int) (xs ys : List (List UInt8)) (hn : xs.length ≤ 1048576) (hx : ∀ x ∈ xs, x.length ≤ 1048576) (hm : ys.length ≤ 1048576) (hy : ∀ x ∈ ys, x.length ≤ 1048576) : Sp Tryz.prog 136 [(.int .i64 n), (.slice false 1 (xs.map D.str)), (.slice false 1 (ys.map D.str))] [.any, .any, .any] (.bool (onoffB n xs ys)) := by
 refine Sp_intro (lend := true) Tryz.func136 rfl rfl rfl (fun _ => rfl) (fun c hc hX => ?_)
 refine T_seq ?_
 refine T_region hc ?_
 refine Ch.s (.d (.bool false)) (.pure (.assign _ rfl rfl)) ?_
 refine Ch.nil ?_
 refine T_seq ?_
 refine T_seq ?_
 refine T_region hc ?_
 refine Ch.s (.d (.int .i64 n)) (.pure (.move _ rfl rfl)) ?_
 refine Ch.s (.d (.bool (withinB n 1 8))) (.call 10000 89 _ _ _ en89 rfl (.inl rfl) (.cons (.d _) (.cons (.d _) (.cons (.d _) .nil))) rfl rfl (sp_spec_l1In n 1 8) (.skip _ _ (.skip _ _ (.skip _ _ .nil))) rfl) ?_
 refine Ch.s (.d (.bool (!(withinB n 1 8)))) (.pure (.not _ _ rfl rfl)) ?_
 refine Ch.s (.d (.bool (!(withinB n 1 8)))) (.pure (.move _ rfl rfl)) ?_
 cases h1 : (withinB n 1 8) with
 | true =>
  refine Ch.s (.d (.slice false 1 (xs.map D.str))) (.pure (.move _ rfl rfl)) ?_
  refine Ch.s (.d (.int .i64 ((xs.length : Nat) : Int))) (.pure (.len _ _ 9 rfl Tryz.underlying23 (.sh _ _) (by simp))) ?_
  refine Ch.s (.d (.bool (decide (64 < ((xs.length : Nat) : Int))))) (.pure (.int _ _ _ _ _ rfl rfl rfl rfl)) ?_
  refine Ch.s (.d (.bool (decide (64 < ((xs.length : Nat) : Int))))) (.pure (.pickF _ _ _ rfl rfl rfl)) ?_
  refine Ch.s (.d (.bool (decide (64 < ((xs.length : Nat) : Int))))) (.pure (.move _ rfl rfl)) ?_
  cases h2 : (decide (64 < ((xs.length : Nat) : Int))) with
  | true =>
   replace h2 := of_decide_eq_true h2
   refine Ch.skip rfl rfl ?_
   refine Ch.skip rfl rfl ?_
   refine Ch.skip rfl rfl ?_
   refine Ch.s (.d (.bool true)) (.pure (.pickT _ _ _ rfl rfl rfl)) ?_
   refine Ch.s (.d (.bool true)) (.pure (.move _ rfl rfl)) ?_
   refine Ch.skip rfl rfl ?_
   refine Ch.skip rfl rfl ?_
   refine Ch.skip rfl rfl ?_
   refine Ch.skip rfl rfl ?_
   refine Ch.s (.d (.bool true)) (.pure (.pickT _ _ _ rfl rfl rfl)) ?_
   refine Ch.s (.d (.bool true)) (.pure (.move _ rfl rfl)) ?_
   refine Ch.skip rfl rfl ?_
   refine Ch.skip rfl rfl ?_
   refine Ch.skip rfl rfl ?_
   refine Ch.skip rfl rfl ?_
   refine Ch.s (.d (.bool true)) (.pure (.pickT _ _ _ rfl rfl rfl)) ?_
   refine Ch.nil ?_
   refine T_cond (b := true) rfl (fun _ => ?_) (fun h => nomatch h)
   refine T_seq ?_
   refine T_region hc ?_
   refine Ch.s (.d (.bool false)) (.pure (.assign _ rfl rfl)) ?_
   refine Ch.nil ?_
   refine T_ret ?_
   refine And.intro (.inr rfl) ?_
   exact Exists.intro [(.d (.bool false))] (Exists.intro [] (Exists.intro [] (And.intro (.cons (.tmp 6 rfl) .nil) (And.intro (.cons (.any _) (.cons (.any _) (.cons (.any _) .nil))) (And.intro (Exp.of (congrArg D.bool (by first | (simp_all [onoffB]; done) | (simp_all [onoffB]; omega) | (rw [onoffB, allOf, allB_no k (by omega) (by simp_all)]; simp; done) | (rw [onoffB, allOf, allB_of (fun j hj => hp0.2 j (by omega))]; first | (simp_all; done) | (simp_all; omega)))) (.d _)) (And.intro rfl rfl))))))
  | false =>
   replace h2 := of_decide_eq_false h2
   refine Ch.s (.d (.slice false 1 (ys.map D.str))) (.pure (.move _ rfl rfl)) ?_
   refine Ch.s (.d (.int .i64 ((ys.length : Nat) : Int))) (.pure (.len _ _ 9 rfl Tryz.underlying23 (.sh _ _) (by simp))) ?_
   refine Ch.s (.d (.bool (decide (256 < ((ys.length : Nat) : Int))))) (.pure (.int _ _ _ _ _ rfl rfl rfl rfl)) ?_
   refine Ch.s (.d (.bool (decide (256 < ((ys.length : Nat) : Int))))) (.pure (.pickF _ _ _ rfl rfl rfl)) ?_
   refine Ch.s (.d (.bool (decide (256 < ((ys.length : Nat) : Int))))) (.pure (.move _ rfl rfl)) ?_
   cases h3 : (decide (256 < ((ys.length : Nat) : Int))) with
   | true =>
    replace h3 := of_decide_eq_true h3
    refine Ch.skip rfl rfl ?_
    refine Ch.skip rfl rfl ?_
    refine Ch.skip rfl rfl ?_
    refine Ch.skip rfl rfl ?_
    refine Ch.s (.d (.bool true)) (.pure (.pickT _ _ _ rfl rfl rfl)) ?_
    refine Ch.s (.d (.bool true)) (.pure (.move _ rfl rfl)) ?_
    refine Ch.skip rfl rfl ?_
    refine Ch.skip rfl rfl ?_
    refine Ch.skip rfl rfl ?_
    refine Ch.skip rfl rfl ?_
    refine Ch.s (.d (.bool true)) (.pure (.pickT _ _ _ rfl rfl rfl)) ?_
    refine Ch.nil ?_
    refine T_cond (b := true) rfl (fun _ => ?_) (fun h => nomatch h)
    refine T_seq ?_
    refine T_region hc ?_
    refine Ch.s (.d (.bool false)) (.pure (.assign _ rfl rfl)) ?_
    refine Ch.nil ?_
    refine T_ret ?_
    refine And.intro (.inr rfl) ?_
    exact Exists.intro [(.d (.bool false))] (Exists.intro [] (Exists.intro [] (And.intro (.cons (.tmp 6 rfl) .nil) (And.intro (.cons (.any _) (.cons (.any _) (.cons (.any _) .nil))) (And.intro (Exp.of (congrArg D.bool (by first | (simp_all [onoffB]; done) | (simp_all [onoffB]; omega) | (rw [onoffB, allOf, allB_no k (by omega) (by simp_all)]; simp; done) | (rw [onoffB, allOf, allB_of (fun j hj => hp0.2 j (by omega))]; first | (simp_all; done) | (simp_all; omega)))) (.d _)) (And.intro rfl rfl))))))
   | false =>
    replace h3 := of_decide_eq_false h3
    refine Ch.s (.d (.int .i64 n)) (.pure (.move _ rfl rfl)) ?_
    refine Ch.s (.d (.slice false 1 (xs.map D.str))) (.pure (.move _ rfl rfl)) ?_
    refine Ch.s (.d (.bool (codesB n xs))) (.call 25000 205 _ _ _ en205 rfl (.inl rfl) (.cons (.d _) (.cons (.d _) .nil)) rfl rfl (sp_spec_l14Codes n xs (by first | omega | assumption | (exact hx _ (getD_mem (by omega))) | (exact hx _ (by assumption)) | (exact Nat.le_trans (hx _ (by assumption)) (by omega)) | (simp only [List.length_append, List.length_take, List.length_drop, List.length_cons, List.length_nil]; omega) | (simp_all; done)) (by first | omega | assumption | (exact hx _ (getD_mem (by omega))) | (exact hx _ (by assumption)) | (exact Nat.le_trans (hx _ (by assumption)) (by omega)) | (simp only [List.length_append, List.length_take, List.length_drop, List.length_cons, List.length_nil]; omega) | (simp_all; done))) (.skip _ _ (.skip _ _ .nil)) rfl) ?_
    refine Ch.s (.d (.bool (!(codesB n xs)))) (.pure (.not _ _ rfl rfl)) ?_
    refine Ch.s (.d (.bool (!(codesB n xs)))) (.pure (.pickF _ _ _ rfl rfl rfl)) ?_
    refine Ch.s (.d (.bool (!(codesB n xs)))) (.pure (.move _ rfl rfl)) ?_
    cases h4 : (codesB n xs) with
    | true =>
     refine Ch.s (.d (.int .i64 n)) (.pure (.move _ rfl rfl)) ?_
     refine Ch.s (.d (.slice false 1 (ys.map D.str))) (.pure (.move _ rfl rfl)) ?_
     refine Ch.s (.d (.bool (codesB n ys))) (.call 31000 205 _ _ _ en205 rfl (.inl rfl) (.cons (.d _) (.cons (.d _) .nil)) rfl rfl (sp_spec_l14Codes n ys (by first | omega | assumption | (exact hx _ (getD_mem (by omega))) | (exact hx _ (by assumption)) | (exact Nat.le_trans (hx _ (by assumption)) (by omega)) | (simp only [List.length_append, List.length_take, List.length_drop, List.length_cons, List.length_nil]; omega) | (simp_all; done)) (by first | omega | assumption | (exact hx _ (getD_mem (by omega))) | (exact hx _ (by assumption)) | (exact Nat.le_trans (hx _ (by assumption)) (by omega)) | (simp only [List.length_append, List.length_take, List.length_drop, List.length_cons, List.length_nil]; omega) | (simp_all; done))) (.skip _ _ (.skip _ _ .nil)) rfl) ?_
     refine Ch.s (.d (.bool (!(codesB n ys)))) (.pure (.not _ _ rfl rfl)) ?_
     refine Ch.s (.d (.bool (!(codesB n ys)))) (.pure (.pickF _ _ _ rfl rfl rfl)) ?_
     refine Ch.nil ?_
     refine T_cond (b := (!(codesB n ys))) rfl (fun h5 => ?_) (fun h5 => ?_)
     ·
      replace h5 := nott h5
      refine T_seq ?_
      refine T_region hc ?_
      refine Ch.s (.d (.bool false)) (.pure (.assign _ rfl rfl)) ?_
      refine Ch.nil ?_
      refine T_ret ?_
      refine And.intro (.inr rfl) ?_
      exact Exists.intro [(.d (.bool false))] (Exists.intro [] (Exists.intro [] (And.intro (.cons (.tmp 6 rfl) .nil) (And.intro (.cons (.any _) (.cons (.any _) (.cons (.any _) .nil))) (And.intro (Exp.of (congrArg D.bool (by first | (simp_all [onoffB]; done) | (simp_all [onoffB]; omega) | (rw [onoffB, allOf, allB_no k (by omega) (by simp_all)]; simp; done) | (rw [onoffB, allOf, allB_of (fun j hj => hp0.2 j (by omega))]; first | (simp_all; done) | (simp_all; omega)))) (.d _)) (And.intro rfl rfl))))))
     ·
      replace h5 := notf h5
      refine T_skip ?_
      refine T_seq ?_
      refine T_seq ?_
      refine T_region hc ?_
      refine Ch.s (.d (.slice false 1 (xs.map D.str))) (.pure (.move _ rfl rfl)) ?_
      refine Ch.s (.d (.int .i64 ((xs.length : Nat) : Int))) (.pure (.len _ _ 9 rfl Tryz.underlying23 (.sh _ _) (by simp))) ?_
      refine Ch.s (.d (.int .i64 0)) (.pure (.move _ rfl rfl)) ?_
      refine Ch.nil ?_
      refine T_block ?_
      refine T_loop (ι := Nat) (fun k => { n := 44, sl := [(2, (.d (.slice false 1 (ys.map D.str)))), (34, (.d (.slice false 1 (xs.map D.str)))), (35, (.d (.int .i64 ((xs.length : Nat) : Int)))), (36, (.d (.int .i64 ((k : Nat) : Int))))], hp := [], pin := [] }) (fun k => k ≤ xs.length ∧ ∀ j, j < k → (!hasS ys (xs.getD j default)) = true) (fun k => xs.length - k) ⟨0, ⟨by omega, fun j hj => by omega⟩, (Wk.of rfl rfl (And.intro rfl (And.intro rfl (And.intro rfl (And.intro (vI (by first | rfl | omega | (simp; done) | (simp; omega))) trivial)))) trivial)⟩ (fun k hp0 => ?_)
      refine T_seq ?_
      refine T_region hc ?_
      refine Ch.s (.d (.bool (decide (((k : Nat) : Int) < ((xs.length : Nat) : Int))))) (.pure (.int _ _ _ _ _ rfl rfl rfl rfl)) ?_
      refine Ch.nil ?_
      refine T_seq ?_
      refine T_cond (b := (decide (((k : Nat) : Int) < ((xs.length : Nat) : Int)))) rfl (fun h6 => ?_) (fun h6 => ?_)
      ·
       replace h6 := of_decide_eq_true h6
       refine T_skip ?_
       refine T_seq ?_
       refine T_block ?_
       refine T_seq ?_
       refine T_region hc ?_
       refine Ch.s (.d (.ref (.str (xs.getD k default)))) (.pure (.idx _ _ _ 9 (k) rfl Tryz.underlying23 sz9 rfl rfl rfl get_mapA)) ?_
       refine Ch.s (.d (.str (xs.getD k default))) (.pure (.loadRef1 _ _ rfl ag9 rfl rfl)) ?_
       refine Ch.s (.d (.str (xs.getD k default))) (.pure (.assign _ rfl rfl)) ?_
       refine Ch.nil ?_
       refine T_seq ?_
       refine T_region hc ?_
       refine Ch.s (.d (.slice false 1 (ys.map D.str))) (.pure (.move _ rfl rfl)) ?_
       refine Ch.s (.d (.str (xs.getD k default))) (.pure (.move _ rfl rfl)) ?_
       refine Ch.s (.d (.bool (hasS ys (xs.getD k default)))) (.call 42000 79 _ _ _ en79 rfl (.inl rfl) (.cons (.d _) (.cons (.d _) .nil)) rfl rfl (sp_spec_l1HasS ys (xs.getD k default) (by first | omega | assumption | (exact hx _ (getD_mem (by omega))) | (exact hx _ (by assumption)) | (exact Nat.le_trans (hx _ (by assumption)) (by omega)) | (simp only [List.length_append, List.length_take, List.length_drop, List.length_cons, List.length_nil]; omega) | (simp_all; done))) (.skip _ _ (.skip _ _ .nil)) rfl) ?_
       refine Ch.nil ?_
       refine T_cond (b := (hasS ys (xs.getD k default))) rfl (fun h7 => ?_) (fun h7 => ?_)
       ·
        refine T_seq ?_
        refine T_region hc ?_
        refine Ch.s (.d (.bool false)) (.pure (.assign _ rfl rfl)) ?_
        refine Ch.nil ?_
        refine T_ret ?_
        refine And.intro (.inr rfl) ?_
        exact Exists.intro [(.d (.bool false))] (Exists.intro [] (Exists.intro [] (And.intro (.cons (.tmp 6 rfl) .nil) (And.intro (.cons (.any _) (.cons (.any _) (.cons (.any _) .nil))) (And.intro (Exp.of (congrArg D.bool (by first | (simp_all [onoffB]; done) | (simp_all [onoffB]; omega) | (rw [onoffB, allOf, allB_no k (by omega) (by simp_all)]; simp; done) | (rw [onoffB, allOf, allB_of (fun j hj => hp0.2 j (by omega))]; first | (simp_all; done) | (simp_all; omega)))) (.d _)) (And.intro rfl rfl))))))
       ·
        refine T_skip ?_
        refine T_region hc ?_
        refine Ch.s (.d (.int .i64 (((k : Nat) : Int) + 1))) (.pure (.int _ _ _ _ _ rfl rfl rfl intV_addA)) ?_
        refine Ch.s (.d (.int .i64 (((k : Nat) : Int) + 1))) (.pure (.move _ rfl rfl)) ?_
        refine Ch.nil ?_
        refine Exists.intro (k + 1) (And.intro ⟨by omega, upto_succ hp0.2 (by simp_all)⟩ (And.intro (by first | omega | (dsimp only; omega)) (Wk.of rfl rfl (And.intro rfl (And.intro rfl (And.intro rfl (And.intro (vI (by first | rfl | omega | (simp; done) | (simp; omega))) trivial)))) trivial)))
      ·
       replace h6 := of_decide_eq_false h6
       refine T_exit ?_
       refine T_seq ?_
       refine T_region hc ?_
       refine Ch.s (.d (.bool true)) (.pure (.assign _ rfl rfl)) ?_
       refine Ch.nil ?_
       refine T_ret ?_
       refine And.intro (.inr rfl) ?_
       exact Exists.intro [(.d (.bool true))] (Exists.intro [] (Exists.intro [] (And.intro (.cons (.tmp 6 rfl) .nil) (And.intro (.cons (.any _) (.cons (.any _) (.cons (.any _) .nil))) (And.intro (Exp.of (congrArg D.bool (by first | (simp_all [onoffB]; done) | (simp_all [onoffB]; omega) | (rw [onoffB, allOf, allB_no k (by omega) (by simp_all)]; simp; done) | (rw [onoffB, allOf, allB_of (fun j hj => hp0.2 j (by omega))]; first | (simp_all; done) | (simp_all; omega)))) (.d _)) (And.intro rfl rfl))))))
    | false =>
     refine Ch.skip rfl rfl ?_
     refine Ch.skip rfl rfl ?_
     refine Ch.skip rfl rfl ?_
     refine Ch.skip rfl rfl ?_
     refine Ch.s (.d (.bool true)) (.pure (.pickT _ _ _ rfl rfl rfl)) ?_
     refine Ch.nil ?_
     refine T_cond (b := true) rfl (fun _ => ?_) (fun h => nomatch h)
     refine T_seq ?_
     refine T_region hc ?_
     refine Ch.s (.d (.bool false)) (.pure (.assign _ rfl rfl)) ?_
     refine Ch.nil ?_
     refine T_ret ?_
     refine And.intro (.inr rfl) ?_
     exact Exists.intro [(.d (.bool false))] (Exists.intro [] (Exists.intro [] (And.intro (.cons (.tmp 6 rfl) .nil) (And.intro (.cons (.any _) (.cons (.any _) (.cons (.any _) .nil))) (And.intro (Exp.of (congrArg D.bool (by first | (simp_all [onoffB]; done) | (simp_all [onoffB]; omega) | (rw [onoffB, allOf, allB_no k (by omega) (by simp_all)]; simp; done) | (rw [onoffB, allOf, allB_of (fun j hj => hp0.2 j (by omega))]; first | (simp_all; done) | (simp_all; omega)))) (.d _)) (And.intro rfl rfl))))))
 | false =>
  refine Ch.skip rfl rfl ?_
  refine Ch.skip rfl rfl ?_
  refine Ch.skip rfl rfl ?_
  refine Ch.s (.d (.bool true)) (.pure (.pickT _ _ _ rfl rfl rfl)) ?_
  refine Ch.s (.d (.bool true)) (.pure (.move _ rfl rfl)) ?_
  refine Ch.skip rfl rfl ?_
  refine Ch.skip rfl rfl ?_
  refine Ch.skip rfl rfl ?_
  refine Ch.s (.d (.bool true)) (.pure (.pickT _ _ _ rfl rfl rfl)) ?_
  refine Ch.s (.d (.bool true)) (.pure (.move _ rfl rfl)) ?_
  refine Ch.skip rfl rfl ?_
  refine Ch.skip rfl rfl ?_
  refine Ch.skip rfl rfl ?_
  refine Ch.skip rfl rfl ?_
  refine Ch.s (.d (.bool true)) (.pure (.pickT _ _ _ rfl rfl rfl)) ?_
  refine Ch.s (.d (.bool true)) (.pure (.move _ rfl rfl)) ?_
  refine Ch.skip rfl rfl ?_
  refine Ch.skip rfl rfl ?_
  refine Ch.skip rfl rfl ?_
  refine Ch.skip rfl rfl ?_
  refine Ch.s (.d (.bool true)) (.pure (.pickT _ _ _ rfl rfl rfl)) ?_
  refine Ch.nil ?_
  refine T_cond (b := true) rfl (fun _ => ?_) (fun h => nomatch h)
  refine T_seq ?_
  refine T_region hc ?_
  refine Ch.s (.d (.bool false)) (.pure (.assign _ rfl rfl)) ?_
  refine Ch.nil ?_
  refine T_ret ?_
  refine And.intro (.inr rfl) ?_
  exact Exists.intro [(.d (.bool false))] (Exists.intro [] (Exists.intro [] (And.intro (.cons (.tmp 6 rfl) .nil) (And.intro (.cons (.any _) (.cons (.any _) (.cons (.any _) .nil))) (And.intro (Exp.of (congrArg D.bool (by first | (simp_all [onoffB]; done) | (simp_all [onoffB]; omega) | (rw [onoffB, allOf, allB_no k (by omega) (by simp_all)]; simp; done) | (rw [onoffB, allOf, allB_of (fun j hj => hp0.2 j (by omega))]; first | (simp_all; done) | (simp_all; omega)))) (.d _)) (And.intro rfl rfl))))))

theorem sp_impl_IsValidOnOff_1 (u : List UInt8) (ys : List (List UInt8)) (hm : ys.length ≤ 1048576) : Sp Tryz.prog 213 [(.str u), (.ref (.slice false 1 (ys.map D.str)))] [.any, .any] (.bool (hasS ys u)) := by
 refine Sp_intro (lend := true) Tryz.func213 rfl rfl rfl (fun _ => rfl) (fun c hc hX => ?_)
 refine T_seq ?_
 refine T_region hc ?_
 refine Ch.s (.d (.bool false)) (.pure (.assign _ rfl rfl)) ?_
 refine Ch.nil ?_
 refine T_seq ?_
 refine T_region hc ?_
 refine Ch.s (.d (.slice false 1 (ys.map D.str))) (.pure (.loadRef1 _ _ rfl ag23 rfl rfl)) ?_
 refine Ch.s (.d (.str u)) (.pure (.move _ rfl rfl)) ?_
 refine Ch.s (.d (.bool (hasS ys u))) (.call 6000 81 _ _ _ en81 rfl (.inl rfl) (.cons (.d _) (.cons (.d _) .nil)) rfl rfl (sp_Contains_str ys u (by first | omega | assumption | (exact hx _ (getD_mem (by omega))) | (exact hx _ (by assumption)) | (exact Nat.le_trans (hx _ (by assumption)) (by omega)) | (simp only [List.length_append, List.length_take, List.length_drop, List.length_cons, List.length_nil]; omega) | (simp_all; done))) (.skip _ _ (.skip _ _ .nil)) rfl) ?_
 refine Ch.s (.d (.bool (hasS ys u))) (.pure (.assign _ rfl rfl)) ?_
 refine Ch.nil ?_
 refine T_ret ?_
 refine And.intro (.inr rfl) ?_
 exact Exists.intro [(.d (.bool (hasS ys u)))] (Exists.intro [] (Exists.intro [] (And.intro (.cons (.tmp 3 rfl) .nil) (And.intro (.cons (.any _) (.cons (.any _) .nil)) (And.intro (.d _) (And.intro rfl rfl))))))

theorem sp_impl_IsValidOnOff (n : Int) (xs ys : List (List UInt8)) (hn : xs.length ≤ 1048576) (hx : ∀ x ∈ xs, x.length ≤ 1048576) (hm : ys.length ≤ 1048576) (hy : ∀ x ∈ ys, x.length ≤ 1048576) : Sp Tryz.prog 152 [(.int .i64 n), (.slice false 1 (xs.map D.str)), (.slice false 1 (ys.map D.str))] [.any, .any, .any] (.bool (onoffB n xs ys)) := by
 refine Sp_intro (lend := true) Tryz.func152 rfl rfl rfl (fun _ => rfl) (fun c hc hX => ?_)
 refine T_seq ?_
 refine T_region hc ?_
 refine Ch.s (.ptr 5000 0) (.box 5000 _ _ rfl (.one _ rfl)) ?_
 refine Ch.s (.d (.bool false)) (.pure (.assign _ rfl rfl)) ?_
 refine Ch.nil ?_
 refine T_seq ?_
 refine T_region hc ?_
 refine Ch.s (.d (.int .i64 n)) (.pure (.move _ rfl rfl)) ?_
 refine Ch.s (.d (.bool (withinB n 1 8))) (.call 8000 91 _ _ _ en91 rfl (.inl rfl) (.cons (.d _) (.cons (.d _) (.cons (.d _) .nil))) rfl rfl (sp_impl_within n 1 8) (.skip _ _ (.skip _ _ (.skip _ _ .nil))) rfl) ?_
 refine Ch.s (.d (.bool (withinB n 1 8))) (.pure (.move _ rfl rfl)) ?_
 cases h1 : (withinB n 1 8) with
 | true =>
  refine Ch.s (.d (.int .i64 n)) (.pure (.move _ rfl rfl)) ?_
  refine Ch.s (.d (.slice false 1 (xs.map D.str))) (.pure (.move _ rfl rfl)) ?_
  refine Ch.s (.d (.bool (codesI n xs && decide ((xs.length : Int) ≤ 64)))) (.call 12000 212 _ _ _ en212 rfl (.inl rfl) (.cons (.d _) (.cons (.d _) (.cons (.d _) .nil))) rfl rfl (sp_impl_areCodes n xs 64 (by first | omega | assumption | (exact hx _ (getD_mem (by omega))) | (exact hx _ (by assumption)) | (exact Nat.le_trans (hx _ (by assumption)) (by omega)) | (simp only [List.length_append, List.length_take, List.length_drop, List.length_cons, List.length_nil]; omega) | (simp_all; done)) (by first | omega | assumption | (exact hx _ (getD_mem (by omega))) | (exact hx _ (by assumption)) | (exact Nat.le_trans (hx _ (by assumption)) (by omega)) | (simp only [List.length_append, List.length_take, List.length_drop, List.length_cons, List.length_nil]; omega) | (simp_all; done))) (.skip _ _ (.skip _ _ (.skip _ _ .nil))) rfl) ?_
  refine Ch.s (.d (.bool (codesI n xs && decide ((xs.length : Int) ≤ 64)))) (.pure (.pickT _ _ _ rfl rfl rfl)) ?_
  refine Ch.s (.d (.bool (codesI n xs && decide ((xs.length : Int) ≤ 64)))) (.pure (.move _ rfl rfl)) ?_
  cases h2 : (codesI n xs && decide ((xs.length : Int) ≤ 64)) with
  | true =>
   refine Ch.s (.d (.int .i64 n)) (.pure (.move _ rfl rfl)) ?_
   refine Ch.s (.d (.slice false 1 (ys.map D.str))) (.pure (.loadPtr1 _ _ rfl ag23 rfl rfl rfl)) ?_
   refine Ch.s (.d (.bool (codesI n ys && decide ((ys.length : Int) ≤ 256)))) (.call 17000 212 _ _ _ en212 rfl (.inl rfl) (.cons (.d _) (.cons (.d _) (.cons (.d _) .nil))) rfl rfl (sp_impl_areCodes n ys 256 (by first | omega | assumption | (exact hx _ (getD_mem (by omega))) | (exact hx _ (by assumption)) | (exact Nat.le_trans (hx _ (by assumption)) (by omega)) | (simp only [List.length_append, List.length_take, List.length_drop, List.length_cons, List.length_nil]; omega) | (simp_all; done)) (by first | omega | assumption | (exact hx _ (getD_mem (by omega))) | (exact hx _ (by assumption)) | (exact Nat.le_trans (hx _ (by assumption)) (by omega)) | (simp only [List.length_append, List.length_take, List.length_drop, List.length_cons, List.length_nil]; omega) | (simp_all; done))) (.skip _ _ (.skip _ _ (.skip _ _ .nil))) rfl) ?_
   refine Ch.s (.d (.bool (codesI n ys && decide ((ys.length : Int) ≤ 256)))) (.pure (.pickT _ _ _ rfl rfl rfl)) ?_
   refine Ch.s (.d (.bool (codesI n ys && decide ((ys.length : Int) ≤ 256)))) (.pure (.move _ rfl rfl)) ?_
   cases h3 : (codesI n ys && decide ((ys.length : Int) ≤ 256)) with
   | true =>
    refine Ch.s (.d (.slice false 1 (xs.map D.str))) (.pure (.move _ rfl rfl)) ?_
    refine Ch.s (.fn 213 [(.ptr 5000 0)]) (.pure (.func _ _ rfl rfl)) ?_
    refine Ch.s (.d (.bool (xs.any (fun u => hasS ys u)))) (.call 22000 178 _ _ _ en178 rfl (.inl rfl) (.cons (.d _) (.cons (.lend (.fn (.cons (.ptr rfl (.one (.d _) rfl)) .nil))) .nil)) rfl rfl (sp_ContainsFunc_str xs 213 [(.ref (.slice false 1 (ys.map D.str)))] (fun u => hasS ys u) en213 (fun u _ => sp_impl_IsValidOnOff_1 u ys (by first | omega | assumption | (exact hx _ (getD_mem (by omega))) | (exact hx _ (by assumption)) | (exact Nat.le_trans (hx _ (by assumption)) (by omega)) | (simp only [List.length_append, List.length_take, List.length_drop, List.length_cons, List.length_nil]; omega) | (simp_all; done))) (by first | omega | assumption | (exact hx _ (getD_mem (by omega))) | (exact hx _ (by assumption)) | (exact Nat.le_trans (hx _ (by assumption)) (by omega)) | (simp only [List.length_append, List.length_take, List.length_drop, List.length_cons, List.length_nil]; omega) | (simp_all; done))) (.skip _ _ (.skip _ _ .nil)) rfl) ?_
    refine Ch.s (.d (.bool (!(xs.any (fun u => hasS ys u))))) (.pure (.not _ _ rfl rfl)) ?_
    refine Ch.s (.d (.bool (!(xs.any (fun u => hasS ys u))))) (.pure (.pickT _ _ _ rfl rfl rfl)) ?_
    refine Ch.s (.d (.bool (!(xs.any (fun u => hasS ys u))))) (.pure (.assign _ rfl rfl)) ?_
    refine Ch.nil ?_
    refine T_ret ?_
    refine And.intro (.inr rfl) ?_
    exact Exists.intro [(.d (.bool (!(xs.any (fun u => hasS ys u)))))] (Exists.intro [] (Exists.intro [] (And.intro (.cons (.tmp 6 rfl) .nil) (And.intro (.cons (.any _) (.cons (.any _) (.cons (.any _) .nil))) (And.intro (Exp.of (congrArg D.bool (by first | (rw [onoff_impl, h1, h2, h3]; rfl) | (rw [onoff_impl, h1, h2]; rfl) | (rw [onoff_impl, h1]; rfl))) (.d _)) (And.intro rfl rfl))))))
   | false =>
    refine Ch.skip rfl rfl ?_
    refine Ch.skip rfl rfl ?_
    refine Ch.skip rfl rfl ?_
    refine Ch.skip rfl rfl ?_
    refine Ch.s (.d (.bool false)) (.pure (.pickF _ _ _ rfl rfl rfl)) ?_
    refine Ch.s (.d (.bool false)) (.pure (.assign _ rfl rfl)) ?_
    refine Ch.nil ?_
    refine T_ret ?_
    refine And.intro (.inr rfl) ?_
    exact Exists.intro [(.d (.bool false))] (Exists.intro [] (Exists.intro [] (And.intro (.cons (.tmp 6 rfl) .nil) (And.intro (.cons (.any _) (.cons (.any _) (.cons (.any _) .nil))) (And.intro (Exp.of (congrArg D.bool (by first | (rw [onoff_impl, h1, h2, h3]; rfl) | (rw [onoff_impl, h1, h2]; rfl) | (rw [onoff_impl, h1]; rfl))) (.d _)) (And.intro rfl rfl))))))
  | false =>
   refine Ch.skip rfl rfl ?_
   refine Ch.skip rfl rfl ?_
   refine Ch.skip rfl rfl ?_
   refine Ch.s (.d (.bool false)) (.pure (.pickF _ _ _ rfl rfl rfl)) ?_
   refine Ch.s (.d (.bool false)) (.pure (.move _ rfl rfl)) ?_
   refine Ch.skip rfl rfl ?_
   refine Ch.skip rfl rfl ?_
   refine Ch.skip rfl rfl ?_
   refine Ch.skip rfl rfl ?_
   refine Ch.s (.d (.bool false)) (.pure (.pickF _ _ _ rfl rfl rfl)) ?_
   refine Ch.s (.d (.bool false)) (.pure (.assign _ rfl rfl)) ?_
   refine Ch.nil ?_
   refine T_ret ?_
   refine And.intro (.inr rfl) ?_
   exact Exists.intro [(.d (.bool false))] (Exists.intro [] (Exists.intro [] (And.intro (.cons (.tmp 6 rfl) .nil) (And.intro (.cons (.any _) (.cons (.any _) (.cons (.any _) .nil))) (And.intro (Exp.of (congrArg D.bool (by first | (rw [onoff_impl, h1, h2, h3]; rfl) | (rw [onoff_impl, h1, h2]; rfl) | (rw [onoff_impl, h1]; rfl))) (.d _)) (And.intro rfl rfl))))))
 | false =>
  refine Ch.skip rfl rfl ?_
  refine Ch.skip rfl rfl ?_
  refine Ch.skip rfl rfl ?_
  refine Ch.s (.d (.bool false)) (.pure (.pickF _ _ _ rfl rfl rfl)) ?_
  refine Ch.s (.d (.bool false)) (.pure (.move _ rfl rfl)) ?_
  refine Ch.skip rfl rfl ?_
  refine Ch.skip rfl rfl ?_
  refine Ch.skip rfl rfl ?_
  refine Ch.s (.d (.bool false)) (.pure (.pickF _ _ _ rfl rfl rfl)) ?_
  refine Ch.s (.d (.bool false)) (.pure (.move _ rfl rfl)) ?_
  refine Ch.skip rfl rfl ?_
  refine Ch.skip rfl rfl ?_
  refine Ch.skip rfl rfl ?_
  refine Ch.skip rfl rfl ?_
  refine Ch.s (.d (.bool false)) (.pure (.pickF _ _ _ rfl rfl rfl)) ?_
  refine Ch.s (.d (.bool false)) (.pure (.assign _ rfl rfl)) ?_
  refine Ch.nil ?_
  refine T_ret ?_
  refine And.intro (.inr rfl) ?_
  exact Exists.intro [(.d (.bool false))] (Exists.intro [] (Exists.intro [] (And.intro (.cons (.tmp 6 rfl) .nil) (And.intro (.cons (.any _) (.cons (.any _) (.cons (.any _) .nil))) (And.intro (Exp.of (congrArg D.bool (by first | (rw [onoff_impl, h1, h2, h3]; rfl) | (rw [onoff_impl, h1, h2]; rfl) | (rw [onoff_impl, h1]; rfl))) (.d _)) (And.intro rfl rfl))))))

theorem sp_spec_l5Bit (up : Bool) : Sp Tryz.prog 214 [(.bool (up))] [.any] (.str ([bitN up])) := by
 refine Sp_intro (lend := true) Tryz.func214 rfl rfl rfl (fun _ => rfl) (fun c hc hX => ?_)
 refine T_seq ?_
 refine T_region hc ?_
 refine Ch.s (.d (.str [])) (.pure (.assign _ rfl rfl)) ?_
 refine Ch.nil ?_
 refine T_seq ?_
 refine T_seq ?_
 refine T_region hc ?_
 refine Ch.s (.d (.bool (up))) (.pure (.move _ rfl rfl)) ?_
 refine Ch.nil ?_
 refine T_cond (b := (up)) rfl (fun h1 => ?_) (fun h1 => ?_)
 ·
  refine T_seq ?_
  refine T_region hc ?_
  refine Ch.s (.d (.str [49])) (.pure (.assign _ rfl rfl)) ?_
  refine Ch.nil ?_
  refine T_ret ?_
  refine And.intro (.inr rfl) ?_
  exact Exists.intro [(.d (.str [49]))] (Exists.intro [] (Exists.intro [] (And.intro (.cons (.tmp 2 rfl) .nil) (And.intro (.cons (.any _) .nil) (And.intro (Exp.of (congrArg D.str (by subst_vars; rfl)) (.d _)) (And.intro rfl rfl))))))
 ·
  refine T_skip ?_
  refine T_seq ?_
  refine T_region hc ?_
  refine Ch.s (.d (.str [48])) (.pure (.assign _ rfl rfl)) ?_
  refine Ch.nil ?_
  refine T_ret ?_
  refine And.intro (.inr rfl) ?_
  exact Exists.intro [(.d (.str [48]))] (Exists.intro [] (Exists.intro [] (And.intro (.cons (.tmp 2 rfl) .nil) (And.intro (.cons (.any _) .nil) (And.intro (Exp.of (congrArg D.str (by subst_vars; rfl)) (.d _)) (And.intro rfl rfl))))))

theorem sp_spec_l5Set (u : List UInt8) (sig : Int) (v : List UInt8) (hu : u.length ≤ 1048576) (hv : v.length ≤ 1048576) (h0 : 0 ≤ sig) (h1s : sig + 1 ≤ u.length) : Sp Tryz.prog 220 [(.str u), (.int .i64 sig), (.str v)] [.any, .any, .any] (.str (u.take sig.toNat ++ v ++ u.drop (sig + 1).toNat)) := by
 refine Sp_intro (lend := true) Tryz.func220 rfl rfl rfl (fun _ => rfl) (fun c hc hX => ?_)
 refine T_seq ?_
 refine T_region hc ?_
 refine Ch.s (.d (.str [])) (.pure (.assign _ rfl rfl)) ?_
 refine Ch.nil ?_
 refine T_seq ?_
 refine T_regionD hc (by kernel_rfl) ?_
 refine ChD.s (.d (.str u)) [] (.pure (.move _ rfl rfl)) ?_
 refine ChD.s (.d (.int .i64 sig)) [] (.pure (.move _ rfl rfl)) ?_
 refine ChD.s (.d (.str (u.take ((sig).toNat)))) [] (.pure (.sliceStr _ _ _ _ (0) ((sig).toNat) rfl Tryz.underlying9 rfl (bndN rfl) (bndS rfl (by omega)) (by first | omega | (simp only [List.length_map, List.length_append, List.length_take, List.length_drop, List.length_cons, List.length_nil]; omega) | (simp; omega) | (simp; done)) (by first | omega | (simp only [List.length_map, List.length_append, List.length_take, List.length_drop, List.length_cons, List.length_nil]; omega) | (simp; omega) | (simp; done)) (by simp))) ?_
 refine ChD.s (.d (.str v)) [] (.pure (.move _ rfl rfl)) ?_
 refine ChD.s (.d (.str ((u.take ((sig).toNat)) ++ v))) [] (.pure (.str _ _ _ _ _ rfl rfl rfl (strV_add (by first | omega | (simp only [List.length_map, List.length_append, List.length_take, List.length_drop, List.length_cons, List.length_nil]; omega) | (simp; omega) | (simp; done))))) ?_
 refine ChD.s (.d (.str u)) [] (.pure (.move _ rfl rfl)) ?_
 refine ChD.s (.d (.int .i64 sig)) [] (.pure (.move _ rfl rfl)) ?_
 refine ChD.s (.d (.int .i64 (sig + 1))) [] (.pure (.int _ _ _ _ _ rfl rfl rfl intV_addA)) ?_
 refine ChD.s (.d (.str (u.drop (((sig + 1)).toNat)))) [] (.pure (.sliceStr _ _ _ _ (((sig + 1)).toNat) (u.length) rfl Tryz.underlying9 rfl (bndS rfl (by omega)) (bndN rfl) (by first | omega | (simp only [List.length_map, List.length_append, List.length_take, List.length_drop, List.length_cons, List.length_nil]; omega) | (simp; omega) | (simp; done)) (by first | omega | (simp only [List.length_map, List.length_append, List.length_take, List.length_drop, List.length_cons, List.length_nil]; omega) | (simp; omega) | (simp; done)) (by simp))) ?_
 refine ChD.s (.d (.str (((u.take ((sig).toNat)) ++ v) ++ (u.drop (((sig + 1)).toNat))))) [] (.pure (.str _ _ _ _ _ rfl rfl rfl (strV_add (by first | omega | (simp only [List.length_map, List.length_append, List.length_take, List.length_drop, List.length_cons, List.length_nil]; omega) | (simp; omega) | (simp; done))))) ?_
 refine ChD.s (.d (.str (((u.take ((sig).toNat)) ++ v) ++ (u.drop (((sig + 1)).toNat))))) [] (.pure (.assign _ rfl rfl)) ?_
 refine ChD.nil (And.intro ?_ (by kernel_rfl))
 refine T_ret ?_
 refine And.intro (.inr rfl) ?_
 exact Exists.intro [(.d (.str (((u.take ((sig).toNat)) ++ v) ++ (u.drop (((sig + 1)).toNat)))))] (Exists.intro [] (Exists.intro [] (And.intro (.cons (.tmp 6 rfl) .nil) (And.intro (.cons (.any _) (.cons (.any _) (.cons (.any _) .nil))) (And.intro (Exp.of (congrArg D.str (by rfl)) (.d _)) (And.intro rfl rfl))))))

theorem within_two {n lo hi : Int} (h : withinB n lo hi = true) : lo ≤ n ∧ n ≤ hi := by simpa [withinB] using h

theorem sz3 : SizeIs Tryz.prog 3 1 := by unfold SizeIs; kernel_rfl

theorem sz23 : SizeIs Tryz.prog 23 1 := by unfold SizeIs; kernel_rfl

theorem fld29_0 : FieldIs Tryz.prog 29 0 0 1 false := FieldIs.mk Tryz.underlying29 rfl rfl sz23 ag23 rfl

theorem en29 : Enters Tryz.prog 29 := ⟨_, Tryz.func29, by kernel_rfl, rfl⟩

theorem fld29_1 : FieldIs Tryz.prog 29 1 1 1 false := FieldIs.mk Tryz.underlying29 rfl rfl sz23 ag23 rfl

def both (u : List UInt8) : List (List UInt8) := [u ++ [48], u ++ [49]]

def codes : Nat → List (List UInt8)
  | 0 => [[]]
  | n + 1 => (codes n).flatMap both

theorem en220 : Enters Tryz.prog 220 := ⟨_, Tryz.func220, by kernel_rfl, rfl⟩

theorem en136 : Enters Tryz.prog 136 := ⟨_, Tryz.func136, by kernel_rfl, rfl⟩

theorem sp_spec_l1OwnS (xs : List (List UInt8)) (hn : xs.length ≤ 1048576) : Sp Tryz.prog 183 [(.slice false 1 (xs.map D.str))] [.any] (.slice true 1 (xs.map D.str)) := by
 refine Sp_intro (lend := true) Tryz.func183 rfl rfl rfl (fun _ => rfl) (fun c hc hX => ?_)
 refine T_seq ?_
 refine T_region hc ?_
 refine Ch.s (.c (.slice none 0 0)) (.pure (.assign _ rfl rfl)) ?_
 refine Ch.nil ?_
 refine T_seq ?_
 refine T_region hc ?_
 refine Ch.s (.row 3000) (.slice 3000 _ 9 _ rfl sty23 (xs := []) rfl rfl .nil rfl rfl (by decide)) ?_
 refine Ch.s (.d (.slice false 1 (xs.map D.str))) (.pure (.move _ rfl rfl)) ?_
 refine Ch.step (v := (.row 5000)) rfl (.append 5000 _ _ _ 9 rfl sty23 (by decide) (.rowK rfl) (.inr ⟨_, rfl, rfl⟩) (.sh _ _) rfl (by first | omega | (simp only [List.length_append, List.length_map, List.length_cons, List.length_nil]; omega) | (simp; omega) | (simp; done))) rfl rfl ?_
 refine Ch.s (.row 5000) (.pure (.assign _ rfl rfl)) ?_
 refine Ch.nil ?_
 refine T_ret ?_
 refine And.intro (.inr rfl) ?_
 exact Exists.intro [(.row 5000)] (Exists.intro [] (Exists.intro [5000] (And.intro (.cons (.tmp 2 rfl) .nil) (And.intro (.cons (.any _) .nil) (And.intro (.row rfl) (And.intro rfl rfl))))))

theorem fld151_0 : FieldIs Tryz.prog 151 0 0 1 false := FieldIs.mk Tryz.underlying151 rfl rfl sz9 ag9 rfl

theorem sz151 : SizeIs Tryz.prog 151 2 := by unfold SizeIs; kernel_rfl

theorem ag151 : AggIs Tryz.prog 151 true := by unfold AggIs; kernel_rfl

theorem en133 : Enters Tryz.prog 133 := ⟨_, Tryz.func133, by kernel_rfl, rfl⟩

theorem zr154 : (Tryz.prog.info? 154).bind (·.zero) = some (.agg #[.string .empty, .int .i64 0]) := by kernel_rfl

theorem zer154 : ∃ i z, Tryz.prog.info? 154 = some i ∧ i.zero = some z ∧ z.cells = List.toArray [.string .empty, .int .i64 0] := zero_mk zr154 rfl

theorem fld154_0 : FieldIs Tryz.prog 154 0 0 1 false := FieldIs.mk Tryz.underlying154 rfl rfl sz9 ag9 rfl

theorem fld151_1 : FieldIs Tryz.prog 151 1 1 1 false := FieldIs.mk Tryz.underlying151 rfl rfl sz3 ag3 rfl

theorem fld154_1 : FieldIs Tryz.prog 154 1 1 1 false := FieldIs.mk Tryz.underlying154 rfl rfl sz3 ag3 rfl

theorem ag154 : AggIs Tryz.prog 154 true := by unfold AggIs; kernel_rfl

theorem sz154 : SizeIs Tryz.prog 154 2 := by unfold SizeIs; kernel_rfl

theorem sty32 : SlotTy Tryz.prog 32 154 2 24 := slotTy_mk (by kernel_rfl)

theorem en137 : Enters Tryz.prog 137 := ⟨_, Tryz.func137, by kernel_rfl, rfl⟩

theorem en144 : Enters Tryz.prog 144 := ⟨_, Tryz.func144, by kernel_rfl, rfl⟩

theorem zr125 : (Tryz.prog.info? 125).bind (·.zero) = some (.agg #[.int .i64 0, .int .i64 0, .bool false, .int .i64 0]) := by kernel_rfl

theorem zer125 : ∃ i z, Tryz.prog.info? 125 = some i ∧ i.zero = some z ∧ z.cells = List.toArray [.int .i64 0, .int .i64 0, .bool false, .int .i64 0] := zero_mk zr125 rfl

theorem fld157_0 : FieldIs Tryz.prog 157 0 0 1 false := FieldIs.mk Tryz.underlying157 rfl rfl sz3 ag3 rfl

theorem fld125_0 : FieldIs Tryz.prog 125 0 0 1 false := FieldIs.mk Tryz.underlying125 rfl rfl sz3 ag3 rfl

theorem fld157_1 : FieldIs Tryz.prog 157 1 1 1 false := FieldIs.mk Tryz.underlying157 rfl rfl sz3 ag3 rfl

theorem fld125_1 : FieldIs Tryz.prog 125 1 1 1 false := FieldIs.mk Tryz.underlying125 rfl rfl sz3 ag3 rfl

theorem sz4 : SizeIs Tryz.prog 4 1 := by unfold SizeIs; kernel_rfl

theorem ag4 : AggIs Tryz.prog 4 false := by unfold AggIs; kernel_rfl

theorem fld157_2 : FieldIs Tryz.prog 157 2 2 1 false := FieldIs.mk Tryz.underlying157 rfl rfl sz4 ag4 rfl

theorem fld125_2 : FieldIs Tryz.prog 125 2 2 1 false := FieldIs.mk Tryz.underlying125 rfl rfl sz4 ag4 rfl

theorem fld157_3 : FieldIs Tryz.prog 157 3 3 1 false := FieldIs.mk Tryz.underlying157 rfl rfl sz3 ag3 rfl

theorem fld125_3 : FieldIs Tryz.prog 125 3 3 1 false := FieldIs.mk Tryz.underlying125 rfl rfl sz3 ag3 rfl

theorem ag125 : AggIs Tryz.prog 125 true := by unfold AggIs; kernel_rfl

theorem sz125 : SizeIs Tryz.prog 125 4 := by unfold SizeIs; kernel_rfl

theorem sty33 : SlotTy Tryz.prog 33 125 4 32 := slotTy_mk (by kernel_rfl)

theorem sz157 : SizeIs Tryz.prog 157 4 := by unfold SizeIs; kernel_rfl

theorem ag157 : AggIs Tryz.prog 157 true := by unfold AggIs; kernel_rfl

theorem en138 : Enters Tryz.prog 138 := ⟨_, Tryz.func138, by kernel_rfl, rfl⟩

theorem en145 : Enters Tryz.prog 145 := ⟨_, Tryz.func145, by kernel_rfl, rfl⟩

theorem sz32 : SizeIs Tryz.prog 32 1 := by unfold SizeIs; kernel_rfl

theorem ag32 : AggIs Tryz.prog 32 false := by unfold AggIs; kernel_rfl

theorem en74 : Enters Tryz.prog 74 := ⟨_, Tryz.func74, by kernel_rfl, rfl⟩

theorem sz22 : SizeIs Tryz.prog 22 1 := by unfold SizeIs; kernel_rfl

theorem ag22 : AggIs Tryz.prog 22 false := by unfold AggIs; kernel_rfl

theorem fld26_0 : FieldIs Tryz.prog 26 0 0 1 false := FieldIs.mk Tryz.underlying26 rfl rfl sz22 ag22 rfl

theorem en66 : Enters Tryz.prog 66 := ⟨_, Tryz.func66, by kernel_rfl, rfl⟩

theorem fld26_1 : FieldIs Tryz.prog 26 1 1 1 false := FieldIs.mk Tryz.underlying26 rfl rfl sz23 ag23 rfl

theorem en67 : Enters Tryz.prog 67 := ⟨_, Tryz.func67, by kernel_rfl, rfl⟩

theorem sz24 : SizeIs Tryz.prog 24 1 := by unfold SizeIs; kernel_rfl

theorem ag24 : AggIs Tryz.prog 24 false := by unfold AggIs; kernel_rfl

theorem fld26_2 : FieldIs Tryz.prog 26 2 2 1 false := FieldIs.mk Tryz.underlying26 rfl rfl sz24 ag24 rfl

theorem en68 : Enters Tryz.prog 68 := ⟨_, Tryz.func68, by kernel_rfl, rfl⟩

theorem zr35 : (Tryz.prog.info? 35).bind (·.zero) = some (.agg #[.slice none 0 0, .slice none 0 0, .slice none 0 0]) := by kernel_rfl

theorem zer35 : ∃ i z, Tryz.prog.info? 35 = some i ∧ i.zero = some z ∧ z.cells = List.toArray [.slice none 0 0, .slice none 0 0, .slice none 0 0] := zero_mk zr35 rfl

theorem en70 : Enters Tryz.prog 70 := ⟨_, Tryz.func70, by kernel_rfl, rfl⟩

theorem fld35_0 : FieldIs Tryz.prog 35 0 0 1 false := FieldIs.mk Tryz.underlying35 rfl rfl sz32 ag32 rfl

theorem en71 : Enters Tryz.prog 71 := ⟨_, Tryz.func71, by kernel_rfl, rfl⟩

theorem fld35_1 : FieldIs Tryz.prog 35 1 1 1 false := FieldIs.mk Tryz.underlying35 rfl rfl sz23 ag23 rfl

theorem en72 : Enters Tryz.prog 72 := ⟨_, Tryz.func72, by kernel_rfl, rfl⟩

theorem sz33 : SizeIs Tryz.prog 33 1 := by unfold SizeIs; kernel_rfl

theorem ag33 : AggIs Tryz.prog 33 false := by unfold AggIs; kernel_rfl

theorem fld35_2 : FieldIs Tryz.prog 35 2 2 1 false := FieldIs.mk Tryz.underlying35 rfl rfl sz33 ag33 rfl

theorem ag35 : AggIs Tryz.prog 35 true := by unfold AggIs; kernel_rfl

theorem sz35 : SizeIs Tryz.prog 35 3 := by unfold SizeIs; kernel_rfl

theorem en75 : Enters Tryz.prog 75 := ⟨_, Tryz.func75, by kernel_rfl, rfl⟩

def intsU (l : List Int) : D := .slice true 1 (l.map fun n => D.int .i64 n)

def sumF {τ : Type} (f : τ → Nat) (xs : List τ) (k : Nat) : Nat := ((xs.take k).map f).sum

def bulkF {τ : Type} (f : τ → Nat) (xs : List τ) : Nat := xs.length + (xs.map f).sum

theorem sumF_zero {τ : Type} (f : τ → Nat) (xs : List τ) : sumF f xs 0 = 0 := rfl

theorem sumF_succ {τ : Type} [Inhabited τ] (f : τ → Nat) {xs : List τ} {k : Nat} (h : k < xs.length) : sumF f xs (k + 1) = sumF f xs k + f (xs.getD k default) := by
  have hg : xs.getD k default = xs[k] := by simp [h]
  unfold sumF
  rw [hg, List.take_succ_eq_append_getElem h, List.map_append, List.sum_append]
  simp only [List.map_cons, List.map_nil, List.sum_cons, List.sum_nil, Nat.add_zero]

theorem sumF_all {τ : Type} (f : τ → Nat) {xs : List τ} {k : Nat} (h : xs.length ≤ k) : sumF f xs k = (xs.map f).sum := by rw [sumF, List.take_of_length_le h]

theorem sumF_le {τ : Type} (f : τ → Nat) (xs : List τ) (k : Nat) : sumF f xs k ≤ (xs.map f).sum := by
  conv => rhs; rw [← List.take_append_drop k xs, List.map_append, List.sum_append]
  unfold sumF; omega

theorem le_sumL {x : Nat} : ∀ {l : List Nat}, x ∈ l → x ≤ l.sum
  | y :: l, h => by
    rw [List.sum_cons]
    rcases List.mem_cons.1 h with rfl | h
    · omega
    · have := le_sumL h; omega

theorem sum_zero {τ : Type} {f : τ → Nat} (h : ∀ x, f x = 0) : ∀ xs : List τ, (xs.map f).sum = 0
  | [] => rfl
  | x :: xs => by rw [List.map_cons, List.sum_cons, h x, sum_zero h xs]

theorem bulkF_len {τ : Type} {f : τ → Nat} {xs : List τ} {n : Nat} (h : bulkF f xs ≤ n) : xs.length ≤ n := by unfold bulkF at h; omega

theorem bulkF_mem {τ : Type} {f : τ → Nat} {xs : List τ} {n : Nat} (h : bulkF f xs ≤ n) : ∀ x ∈ xs, f x ≤ n := by
  intro x hx
  have : f x ≤ (xs.map f).sum := le_sumL (List.mem_map.2 ⟨x, hx, rfl⟩)
  unfold bulkF at h; omega

def szR (t : Nat) (left : Int) : Int := if (t : Int) ≤ left then left - t else -1

theorem szR_cases (t : Nat) (left : Int) : ((t : Int) ≤ left ∧ szR t left = left - t) ∨ (left < t ∧ szR t left = -1) := by
  unfold szR; split
  · exact .inl ⟨by assumption, rfl⟩
  · exact .inr ⟨by omega, rfl⟩

theorem szR_ok {t : Nat} {left : Int} (h : ¬ szR t left < 0) (h0 : 0 ≤ left) : t ≤ left.toNat ∧ szR t left = left - t := by
  rcases szR_cases t left with ⟨h1, h2⟩ | ⟨h1, h2⟩
  · exact ⟨by omega, h2⟩
  · exact absurd h2 (by omega)

theorem szS_cases (xs : List (List UInt8)) (left : Int) : ((bulkS xs : Int) ≤ left ∧ szS xs left = left - bulkS xs) ∨ (left < bulkS xs ∧ szS xs left = -1) := szR_cases (bulkS xs) left

theorem dr_int {S w k n} : DR S w (.int k n) (.int k n) [] := by rw [DR]; exact ⟨rfl, rfl⟩

theorem dr_bool {S w b} : DR S w (.bool b) (.bool b) [] := by rw [DR]; exact ⟨rfl, rfl⟩

theorem dr_str0 {S w} : DR S w (.str []) (.string .empty) [] := by rw [DR]; exact ⟨rfl, rfl⟩

theorem dr_agg {S w ds vs} (h : (ds.all D.one) = true) (hd : DRs S w ds vs []) : DR S w (.agg ds) (.agg vs.toArray) [] := by
  rw [DR]; exact ⟨fun c hc => List.all_eq_true.1 h c hc, vs, rfl, hd⟩

theorem drs_nil {S w} : DRs S w [] [] [] := by rw [DRs]; exact ⟨rfl, rfl⟩

theorem drs_cons {S w d v ds vs} (h : DR S w d v []) (h2 : DRs S w ds vs []) : DRs S w (d :: ds) (v :: vs) [] := by
  rw [DRs]; exact ⟨v, vs, [], [], rfl, rfl, h, h2⟩

theorem get_set {τ : Type} {l : List τ} {j : Nat} {y : τ} (h : j < l.length) : (l.set j y)[j]? = some y := by simp [h]

theorem set_back {τ : Type} {f : τ → D} [Inhabited τ] {l : List τ} {j : Nat} {a : D} (h : j < l.length) : ((l.map f).set j a).set j (f (l.getD j default)) = l.map f := by
  rw [List.set_set]
  apply List.ext_getElem
  · simp
  · intro q h1 h2
    rw [List.getElem_set]
    split
    · rename_i e; subst e; simp [h]
    · rfl

theorem set_hole {τ : Type} {f : τ → D} {l : List τ} {j : Nat} {a : D} {y : τ} : ((l.map f).set j a).set j (f y) = (l.set j y).map f := by
  rw [List.set_set, List.map_set]

structure Sgn where
  name : List UInt8
  kind : Int
  deriving DecidableEq, Inhabited

def Sgn.d (x : Sgn) : D := (.agg [(.str x.name), (.int .i64 x.kind)])

def Sgn.bulk (x : Sgn) : Nat := x.name.length

def Sgn.wide (x : Sgn) : Prop := (x.name.length ≤ 9223372036854775807)

theorem Sgn.parts {x : Sgn} {n : Nat} (h : x.bulk ≤ n) : (x.name.length ≤ n) := by unfold Sgn.bulk at h; omega

structure Lab where
  sig : Int
  up : Bool
  deriving DecidableEq, Inhabited

def Lab.d (x : Lab) : D := (.agg [(.int .i64 x.sig), (.bool (x.up))])

def Lab.bulk (x : Lab) : Nat := 0

def Lab.wide (x : Lab) : Prop := True

theorem Lab.eqv (x y : Lab) : ((decide (x.sig = y.sig) && (decide (x.up = y.up) && true))) = decide (x = y) := by cases x; cases y; simp

structure Arc where
  src : Int
  sig : Int
  up : Bool
  dst : Int
  deriving DecidableEq, Inhabited

def Arc.d (x : Arc) : D := (.agg [(.int .i64 x.src), (.int .i64 x.sig), (.bool (x.up)), (.int .i64 x.dst)])

def Arc.bulk (x : Arc) : Nat := 0

def Arc.wide (x : Arc) : Prop := True

structure Sgr where
  sigs : List (Sgn)
  codes : List (List UInt8)
  arcs : List (Arc)
  deriving DecidableEq, Inhabited

def Sgr.d (x : Sgr) : D := (.agg [(.slice false 2 (x.sigs.map Sgn.d)), (.slice false 1 (x.codes.map D.str)), (.slice false 4 (x.arcs.map Arc.d))])

def Sgr.u (x : Sgr) : D := (.agg [(.slice true 2 (x.sigs.map Sgn.d)), (.slice true 1 (x.codes.map D.str)), (.slice true 4 (x.arcs.map Arc.d))])

theorem Sgr.sol (x : Sgr) : (Sgr.u x).solid = true := by unfold Sgr.u; rw [D.solid]; exact (solids_c (solid_row (fun _ => rfl) _) (solids_c (solid_row (fun _ => rfl) _) (solids_c (solid_row (fun _ => rfl) _) rfl)))

def Sgr.bulk (x : Sgr) : Nat := bulkF Sgn.bulk x.sigs + bulkS x.codes + bulkF Arc.bulk x.arcs

def Sgr.wide (x : Sgr) : Prop := (x.sigs.length ≤ 9223372036854775807 ∧ ∀ y ∈ x.sigs, Sgn.wide y) ∧ (x.codes.length ≤ 9223372036854775807 ∧ ∀ y ∈ x.codes, y.length ≤ 9223372036854775807) ∧ (x.arcs.length ≤ 9223372036854775807 ∧ ∀ y ∈ x.arcs, Arc.wide y)

theorem Sgr.parts {x : Sgr} {n : Nat} (h : x.bulk ≤ n) : (bulkF Sgn.bulk x.sigs ≤ n) ∧ (bulkS x.codes ≤ n) ∧ (bulkF Arc.bulk x.arcs ≤ n) := by unfold Sgr.bulk at h; omega

structure Stp where
  src : Int
  dst : Int
  deriving DecidableEq, Inhabited

def Stp.d (x : Stp) : D := (.agg [(.int .i64 x.src), (.int .i64 x.dst)])

def Stp.bulk (x : Stp) : Nat := 0

def Stp.wide (x : Stp) : Prop := True

theorem sp_laws_szSignal (x : Sgn) (left : Int) (h0 : 0 ≤ left) (h0u : left ≤ 1048576) (hw : x.wide) : Sp Tryz.prog 133 [(.agg [(.str x.name), (.int .i64 x.kind)]), (.int .i64 left)] [.any, .any] (.int .i64 (szR x.bulk left)) := by
 refine Sp_intro (lend := true) Tryz.func133 rfl rfl rfl (fun _ => rfl) (fun c hc hX => ?_)
 have ef := szR_cases (x.name.length) left
 unfold Sgn.wide at hw
 refine T_seq ?_
 refine T_region hc ?_
 refine Ch.s (.ptr 2000 0) (.box 2000 _ _ rfl (.aggD _)) ?_
 refine Ch.s (.d (.int .i64 0)) (.pure (.assign _ rfl rfl)) ?_
 refine Ch.nil ?_
 refine T_seq ?_
 refine T_region hc ?_
 refine Ch.s (.d (.int .i64 left)) (.pure (.move _ rfl rfl)) ?_
 refine Ch.s (.ptr 2000 0) (.pure (.fldPtr _ _ _ rfl fld151_0 rfl)) ?_
 refine Ch.s (.d (.str x.name)) (.pure (.loadPtr1 _ _ rfl ag9 rfl rfl rfl)) ?_
 refine Ch.s (.d (.int .i64 ((x.name.length : Nat) : Int))) (.pure (.lenStr _ _ rfl Tryz.underlying9 rfl)) ?_
 refine Ch.s (.d (.int .i64 (left - ((x.name.length : Nat) : Int)))) (.pure (.int _ _ _ _ _ rfl rfl rfl intV_subA)) ?_
 refine Ch.s (.d (.int .i64 (left - ((x.name.length : Nat) : Int)))) (.pure (.assign _ rfl rfl)) ?_
 refine Ch.nil ?_
 refine T_seq ?_
 refine T_seq ?_
 refine T_region hc ?_
 refine Ch.s (.d (.int .i64 (left - ((x.name.length : Nat) : Int)))) (.pure (.move _ rfl rfl)) ?_
 refine Ch.s (.d (.bool (decide ((left - ((x.name.length : Nat) : Int)) < 0)))) (.pure (.int _ _ _ _ _ rfl rfl rfl rfl)) ?_
 refine Ch.nil ?_
 refine T_cond (b := (decide ((left - ((x.name.length : Nat) : Int)) < 0))) rfl (fun h1 => ?_) (fun h1 => ?_)
 ·
  replace h1 := of_decide_eq_true h1
  refine T_seq ?_
  refine T_region hc ?_
  refine Ch.s (.d (.int .i64 (-1))) (.pure (.assign _ rfl rfl)) ?_
  refine Ch.nil ?_
  refine T_ret ?_
  refine And.intro (.inr rfl) ?_
  exact Exists.intro [(.d (.int .i64 (-1)))] (Exists.intro [] (Exists.intro [] (And.intro (.cons (.tmp 4 rfl) .nil) (And.intro (.cons (.any _) (.cons (.any _) .nil)) (And.intro (Exp.of (congrArg (D.int .i64) (by show _ = szR (x.name.length) left; omega)) (.d _)) (And.intro rfl rfl))))))
 ·
  replace h1 := of_decide_eq_false h1
  refine T_skip ?_
  refine T_seq ?_
  refine T_region hc ?_
  refine Ch.s (.d (.int .i64 (left - ((x.name.length : Nat) : Int)))) (.pure (.move _ rfl rfl)) ?_
  refine Ch.s (.d (.int .i64 (left - ((x.name.length : Nat) : Int)))) (.pure (.assign _ rfl rfl)) ?_
  refine Ch.nil ?_
  refine T_ret ?_
  refine And.intro (.inr rfl) ?_
  exact Exists.intro [(.d (.int .i64 (left - ((x.name.length : Nat) : Int))))] (Exists.intro [] (Exists.intro [] (And.intro (.cons (.tmp 4 rfl) .nil) (And.intro (.cons (.any _) (.cons (.any _) .nil)) (And.intro (Exp.of (congrArg (D.int .i64) (by show _ = szR (x.name.length) left; omega)) (.d _)) (And.intro rfl rfl))))))

theorem sp_laws_szSignalS (xs : List (Sgn)) (left : Int) (h0 : 0 ≤ left) (h0u : left ≤ 1048576) (hn : xs.length ≤ 9223372036854775807) (hx : ∀ y ∈ xs, Sgn.wide y) : Sp Tryz.prog 66 [(.slice false 2 (xs.map Sgn.d)), (.int .i64 left)] [.any, .any] (.int .i64 (szR (bulkF Sgn.bulk xs) left)) := by
 refine Sp_intro (lend := true) Tryz.func66 rfl rfl rfl (fun _ => rfl) (fun c hc hX => ?_)
 refine T_seq ?_
 refine T_region hc ?_
 refine Ch.s (.d (.int .i64 0)) (.pure (.assign _ rfl rfl)) ?_
 refine Ch.nil ?_
 refine T_seq ?_
 refine T_region hc ?_
 refine Ch.s (.d (.int .i64 left)) (.pure (.move _ rfl rfl)) ?_
 refine Ch.s (.d (.slice false 2 (xs.map Sgn.d))) (.pure (.move _ rfl rfl)) ?_
 refine Ch.s (.d (.int .i64 ((xs.length : Nat) : Int))) (.pure (.len _ _ 151 rfl Tryz.underlying22 (.sh _ _) (by simp))) ?_
 refine Ch.s (.d (.int .i64 (left - ((xs.length : Nat) : Int)))) (.pure (.int _ _ _ _ _ rfl rfl rfl intV_subA)) ?_
 refine Ch.s (.d (.int .i64 (left - ((xs.length : Nat) : Int)))) (.pure (.assign _ rfl rfl)) ?_
 refine Ch.nil ?_
 refine T_seq ?_
 refine T_seq ?_
 refine T_region hc ?_
 refine Ch.s (.d (.int .i64 (left - ((xs.length : Nat) : Int)))) (.pure (.move _ rfl rfl)) ?_
 refine Ch.s (.d (.bool (decide ((left - ((xs.length : Nat) : Int)) < 0)))) (.pure (.int _ _ _ _ _ rfl rfl rfl rfl)) ?_
 refine Ch.nil ?_
 refine T_cond (b := (decide ((left - ((xs.length : Nat) : Int)) < 0))) rfl (fun h1 => ?_) (fun h1 => ?_)
 ·
  replace h1 := of_decide_eq_true h1
  refine T_seq ?_
  refine T_region hc ?_
  refine Ch.s (.d (.int .i64 (-1))) (.pure (.assign _ rfl rfl)) ?_
  refine Ch.nil ?_
  refine T_ret ?_
  refine And.intro (.inr rfl) ?_
  exact Exists.intro [(.d (.int .i64 (-1)))] (Exists.intro [] (Exists.intro [] (And.intro (.cons (.tmp 4 rfl) .nil) (And.intro (.cons (.any _) (.cons (.any _) .nil)) (And.intro (Exp.of (congrArg (D.int .i64) (by first | (have hal := sumF_all Sgn.bulk (xs := xs) (k := k) (by omega); rw [szR, bulkF]; split <;> omega) | (rw [szR, bulkF]; split <;> omega))) (.d _)) (And.intro rfl rfl))))))
 ·
  replace h1 := of_decide_eq_false h1
  refine T_skip ?_
  refine T_seq ?_
  refine T_seq ?_
  refine T_region hc ?_
  refine Ch.s (.d (.int .i64 0)) (.pure (.assign _ rfl rfl)) ?_
  refine Ch.nil ?_
  refine T_block ?_
  refine T_loop (ι := Nat) (fun k => { n := 27, sl := [(0, (.d (.slice false 2 (xs.map Sgn.d)))), (1, (.d (.int .i64 (left - xs.length - sumF Sgn.bulk xs k)))), (5, (.d (.int .i64 ((k : Nat) : Int))))], hp := [], pin := [] }) (fun k => k ≤ xs.length ∧ 0 ≤ left - xs.length - sumF Sgn.bulk xs k) (fun k => xs.length - k) ⟨0, ⟨by omega, by rw [sumF_zero]; omega⟩, (Wk.of rfl rfl (And.intro rfl (And.intro (vI (by first | (rw [sumF_zero]; omega) | (rw [sumF_succ _ (by omega)]; omega))) (And.intro (vI (by first | rfl | omega | (simp; done) | (simp; omega))) trivial))) trivial)⟩ (fun k hp0 => ?_)
  have hsl := sumF_le Sgn.bulk xs k; have hsc := szR_cases (Sgn.bulk (xs.getD k default)) (left - xs.length - sumF Sgn.bulk xs k)
  refine T_seq ?_
  refine T_seq ?_
  refine T_region hc ?_
  refine Ch.s (.d (.int .i64 ((k : Nat) : Int))) (.pure (.move _ rfl rfl)) ?_
  refine Ch.s (.d (.slice false 2 (xs.map Sgn.d))) (.pure (.move _ rfl rfl)) ?_
  refine Ch.s (.d (.int .i64 ((xs.length : Nat) : Int))) (.pure (.len _ _ 151 rfl Tryz.underlying22 (.sh _ _) (by simp))) ?_
  refine Ch.s (.d (.bool (decide (((k : Nat) : Int) < ((xs.length : Nat) : Int))))) (.pure (.int _ _ _ _ _ rfl rfl rfl rfl)) ?_
  refine Ch.nil ?_
  refine T_cond (b := (decide (((k : Nat) : Int) < ((xs.length : Nat) : Int)))) rfl (fun h2 => ?_) (fun h2 => ?_)
  ·
   replace h2 := of_decide_eq_true h2
   try have hk := hx _ (getD_mem (l := xs) (j := k) (d := default) (by omega))
   try have hs1 := sumF_succ Sgn.bulk (xs := xs) (k := k) (by omega)
   try have hs2 := sumF_le Sgn.bulk xs (k + 1)
   refine T_skip ?_
   refine T_seq ?_
   refine T_block ?_
   refine T_seq ?_
   refine T_region hc ?_
   refine Ch.s (.d (.slice false 2 (xs.map Sgn.d))) (.pure (.move _ rfl rfl)) ?_
   refine Ch.s (.d (.int .i64 ((k : Nat) : Int))) (.pure (.move _ rfl rfl)) ?_
   refine Ch.s (.d (.ref (.agg [(.str ((xs.getD k default).name)), (.int .i64 ((xs.getD k default).kind))]))) (.pure (.idx _ _ _ 151 (k) rfl Tryz.underlying22 sz151 rfl rfl rfl get_mapA)) ?_
   refine Ch.s (.d (.agg [(.str ((xs.getD k default).name)), (.int .i64 ((xs.getD k default).kind))])) (.pure (.loadRefA _ _ rfl ag151 sz151 rfl)) ?_
   refine Ch.s (.d (.int .i64 (left - xs.length - sumF Sgn.bulk xs k))) (.pure (.move _ rfl rfl)) ?_
   refine Ch.s (.d (.int .i64 (szR (xs.getD k default).bulk (left - xs.length - sumF Sgn.bulk xs k)))) (.call 23000 133 _ _ _ en133 rfl (.inl rfl) (.cons (.d _) (.cons (.d _) .nil)) rfl rfl (sp_laws_szSignal (xs.getD k default) (left - xs.length - sumF Sgn.bulk xs k) (by first | omega | assumption | (exact hx _ (getD_mem (by omega))) | (exact hx _ (by assumption)) | (exact Nat.le_trans (hx _ (by assumption)) (by omega)) | (simp only [List.length_append, List.length_take, List.length_drop, List.length_cons, List.length_nil]; omega) | (simp_all; done)) (by first | omega | assumption | (exact hx _ (getD_mem (by omega))) | (exact hx _ (by assumption)) | (exact Nat.le_trans (hx _ (by assumption)) (by omega)) | (simp only [List.length_append, List.length_take, List.length_drop, List.length_cons, List.length_nil]; omega) | (simp_all; done)) (by first | assumption | omega | trivial | (simp_all; done) | (exact fun _ _ => trivial) | (exact hx _ (by assumption)) | (refine ⟨?_, ?_⟩ <;> first | assumption | omega))) (.skip _ _ (.skip _ _ .nil)) rfl) ?_
   refine Ch.s (.d (.int .i64 (szR (xs.getD k default).bulk (left - xs.length - sumF Sgn.bulk xs k)))) (.pure (.assign _ rfl rfl)) ?_
   refine Ch.nil ?_
   refine T_seq ?_
   refine T_region hc ?_
   refine Ch.s (.d (.int .i64 (szR (xs.getD k default).bulk (left - xs.length - sumF Sgn.bulk xs k)))) (.pure (.move _ rfl rfl)) ?_
   refine Ch.s (.d (.bool (decide ((szR (xs.getD k default).bulk (left - xs.length - sumF Sgn.bulk xs k)) < 0)))) (.pure (.int _ _ _ _ _ rfl rfl rfl rfl)) ?_
   refine Ch.nil ?_
   refine T_cond (b := (decide ((szR (xs.getD k default).bulk (left - xs.length - sumF Sgn.bulk xs k)) < 0))) rfl (fun h3 => ?_) (fun h3 => ?_)
   ·
    replace h3 := of_decide_eq_true h3
    refine T_seq ?_
    refine T_region hc ?_
    refine Ch.s (.d (.int .i64 (-1))) (.pure (.assign _ rfl rfl)) ?_
    refine Ch.nil ?_
    refine T_ret ?_
    refine And.intro (.inr rfl) ?_
    exact Exists.intro [(.d (.int .i64 (-1)))] (Exists.intro [] (Exists.intro [] (And.intro (.cons (.tmp 4 rfl) .nil) (And.intro (.cons (.any _) (.cons (.any _) .nil)) (And.intro (Exp.of (congrArg (D.int .i64) (by first | (have hal := sumF_all Sgn.bulk (xs := xs) (k := k) (by omega); rw [szR, bulkF]; split <;> omega) | (rw [szR, bulkF]; split <;> omega))) (.d _)) (And.intro rfl rfl))))))
   ·
    replace h3 := of_decide_eq_false h3
    refine T_skip ?_
    refine T_region hc ?_
    refine Ch.s (.d (.int .i64 ((k : Nat) : Int))) (.pure (.move _ rfl rfl)) ?_
    refine Ch.s (.d (.int .i64 (((k : Nat) : Int) + 1))) (.pure (.int _ _ _ _ _ rfl rfl rfl intV_addA)) ?_
    refine Ch.s (.d (.int .i64 (((k : Nat) : Int) + 1))) (.pure (.assign _ rfl rfl)) ?_
    refine Ch.nil ?_
    refine Exists.intro (k + 1) (And.intro ⟨by omega, by rw [sumF_succ _ (by omega)]; omega⟩ (And.intro (by first | omega | (dsimp only; omega)) (Wk.of rfl rfl (And.intro rfl (And.intro (vI (by first | (rw [sumF_zero]; omega) | (rw [sumF_succ _ (by omega)]; omega))) (And.intro (vI (by first | rfl | omega | (simp; done) | (simp; omega))) trivial))) trivial)))
  ·
   replace h2 := of_decide_eq_false h2
   try have hk := hx _ (getD_mem (l := xs) (j := k) (d := default) (by omega))
   try have hs1 := sumF_succ Sgn.bulk (xs := xs) (k := k) (by omega)
   try have hs2 := sumF_le Sgn.bulk xs (k + 1)
   refine T_exit ?_
   refine T_seq ?_
   refine T_region hc ?_
   refine Ch.s (.d (.int .i64 (left - xs.length - sumF Sgn.bulk xs k))) (.pure (.move _ rfl rfl)) ?_
   refine Ch.s (.d (.int .i64 (left - xs.length - sumF Sgn.bulk xs k))) (.pure (.assign _ rfl rfl)) ?_
   refine Ch.nil ?_
   refine T_ret ?_
   refine And.intro (.inr rfl) ?_
   exact Exists.intro [(.d (.int .i64 (left - xs.length - sumF Sgn.bulk xs k)))] (Exists.intro [] (Exists.intro [] (And.intro (.cons (.tmp 4 rfl) .nil) (And.intro (.cons (.any _) (.cons (.any _) .nil)) (And.intro (Exp.of (congrArg (D.int .i64) (by first | (have hal := sumF_all Sgn.bulk (xs := xs) (k := k) (by omega); rw [szR, bulkF]; split <;> omega) | (rw [szR, bulkF]; split <;> omega))) (.d _)) (And.intro rfl rfl))))))

theorem sp_laws_toSignal (x : Sgn) (hb : x.bulk ≤ 1048576) : Sp Tryz.prog 137 [(.agg [(.str x.name), (.int .i64 x.kind)])] [.any] (.agg [(.str x.name), (.int .i64 x.kind)]) := by
 refine Sp_intro (lend := true) Tryz.func137 rfl rfl rfl (fun _ => rfl) (fun c hc hX => ?_)
 have hp0 := Sgn.parts hb
 refine T_seq ?_
 refine T_region hc ?_
 refine Ch.s (.ptr 1000 0) (.box 1000 _ _ rfl (.aggD _)) ?_
 refine Ch.s (.ptr 2000 0) (.alloc 2000 _ rfl zer154) ?_
 refine Ch.nil ?_
 refine T_seq ?_
 refine T_region hc ?_
 refine Ch.s (.ptr 3000 0) (.alloc 3000 _ rfl zer154) ?_
 refine Ch.nil ?_
 refine T_seq ?_
 refine T_region hc ?_
 refine Ch.s (.ptr 1000 0) (.pure (.fldPtr _ _ _ rfl fld151_0 rfl)) ?_
 refine Ch.s (.d (.str x.name)) (.pure (.loadPtr1 _ _ rfl ag9 rfl rfl rfl)) ?_
 refine Ch.s (.ptr 3000 0) (.pure (.fldPtr _ _ _ rfl fld154_0 rfl)) ?_
 refine Ch.s .junk (.storePtr _ _ _ rfl rfl rfl (.one _ rfl) sz9 (Nat.le_of_ble_eq_true rfl)) ?_
 refine Ch.nil ?_
 refine T_seq ?_
 refine T_region hc ?_
 refine Ch.s (.ptr 1000 1) (.pure (.fldPtr _ _ _ rfl fld151_1 rfl)) ?_
 refine Ch.s (.d (.int .i64 x.kind)) (.pure (.loadPtr1 _ _ rfl ag3 rfl rfl rfl)) ?_
 refine Ch.s (.ptr 3000 1) (.pure (.fldPtr _ _ _ rfl fld154_1 rfl)) ?_
 refine Ch.s .junk (.storePtr _ _ _ rfl rfl rfl (.one _ rfl) sz3 (Nat.le_of_ble_eq_true rfl)) ?_
 refine Ch.nil ?_
 refine T_seq ?_
 refine T_region hc ?_
 refine Ch.s (.agg [(.d (.str x.name)), (.d (.int .i64 x.kind))]) (.pure (.loadPtrA _ _ rfl ag154 sz154 rfl rfl (Nat.le_of_ble_eq_true rfl) rfl)) ?_
 refine Ch.s .junk (.storePtr _ _ _ rfl rfl rfl (.agg _ rfl) sz154 (Nat.le_of_ble_eq_true rfl)) ?_
 refine Ch.nil ?_
 refine T_ret ?_
 refine And.intro (.inr rfl) ?_
 exact Exists.intro [(.agg [(.d (.str x.name)), (.d (.int .i64 x.kind))])] (Exists.intro [] (Exists.intro [] (And.intro (.cons (.cellA _ _ rfl rfl ag154 sz154) .nil) (And.intro (.cons (.any _) .nil) (And.intro (.agg (.cons (.d _) (.cons (.d _) .nil)) rfl) (And.intro rfl rfl))))))

theorem sp_laws_toSignalS (xs : List (Sgn)) (hb : bulkF Sgn.bulk xs ≤ 1048576) : Sp Tryz.prog 70 [(.slice false 2 (xs.map Sgn.d))] [.any] (.slice true 2 (xs.map Sgn.d)) := by
 refine Sp_intro (lend := true) Tryz.func70 rfl rfl rfl (fun _ => rfl) (fun c hc hX => ?_)
 have hn := bulkF_len hb
 refine T_seq ?_
 refine T_region hc ?_
 refine Ch.s (.c (.slice none 0 0)) (.pure (.assign _ rfl rfl)) ?_
 refine Ch.nil ?_
 refine T_seq ?_
 refine T_region hc ?_
 refine Ch.s (.d (.slice false 2 (xs.map Sgn.d))) (.pure (.move _ rfl rfl)) ?_
 refine Ch.s (.d (.int .i64 ((xs.length : Nat) : Int))) (.pure (.len _ _ 151 rfl Tryz.underlying22 (.sh _ _) (by simp))) ?_
 refine Ch.s (.row 7000) (.make 7000 _ 154 _ _ (xs.length) (xs.length) rfl sty32 rfl rfl rfl rfl (by first | omega | (simp only [List.length_map, List.length_append, List.length_take, List.length_drop, List.length_cons, List.length_nil]; omega) | (simp; omega) | (simp; done)) (by first | omega | (simp only [List.length_map, List.length_append, List.length_take, List.length_drop, List.length_cons, List.length_nil]; omega) | (simp; omega) | (simp; done)) (by first | omega | (simp only [List.length_map, List.length_append, List.length_take, List.length_drop, List.length_cons, List.length_nil]; omega) | (simp; omega) | (simp; done)) (zeroD_mk (zd := (.agg [(.str []), (.int .i64 0)])) zr154 (by intro S w; exact dr_agg rfl (drs_cons dr_str0 (drs_cons dr_int drs_nil))) rfl)) ?_
 refine Ch.s (.row 7000) (.pure (.assign _ rfl rfl)) ?_
 refine Ch.nil ?_
 refine T_seq ?_
 refine T_seq ?_
 refine T_region hc ?_
 refine Ch.s (.d (.int .i64 0)) (.pure (.assign _ rfl rfl)) ?_
 refine Ch.nil ?_
 refine T_block ?_
 refine T_loop (ι := Nat) (fun k => { n := 23, sl := [(0, (.d (.slice false 2 (xs.map Sgn.d)))), (3, (.row 3)), (4, (.d (.int .i64 ((k : Nat) : Int))))], hp := [(3, (some (.row 2 ((fill xs default k).map Sgn.d))))], pin := [] }) (fun k => k ≤ xs.length) (fun k => xs.length - k) ⟨0, (by omega), (Wk.ren [(3, 7000)] rfl rfl rfl rfl (And.intro rfl (And.intro rfl (And.intro (vI (by first | rfl | omega | (simp; done) | (simp; omega))) trivial))) (And.intro (oR (by first | (rw [fill_zero, List.map_replicate]; rfl) | (rw [← fill_set xs default default (by omega), List.map_set]; rfl))) trivial))⟩ (fun k hp0 => ?_)
 refine T_seq ?_
 refine T_seq ?_
 refine T_region hc ?_
 refine Ch.s (.d (.int .i64 ((k : Nat) : Int))) (.pure (.move _ rfl rfl)) ?_
 refine Ch.s (.d (.slice false 2 (xs.map Sgn.d))) (.pure (.move _ rfl rfl)) ?_
 refine Ch.s (.d (.int .i64 ((xs.length : Nat) : Int))) (.pure (.len _ _ 151 rfl Tryz.underlying22 (.sh _ _) (by simp))) ?_
 refine Ch.s (.d (.bool (decide (((k : Nat) : Int) < ((xs.length : Nat) : Int))))) (.pure (.int _ _ _ _ _ rfl rfl rfl rfl)) ?_
 refine Ch.nil ?_
 refine T_cond (b := (decide (((k : Nat) : Int) < ((xs.length : Nat) : Int)))) rfl (fun h1 => ?_) (fun h1 => ?_)
 ·
  replace h1 := of_decide_eq_true h1
  try have hk := bulkF_mem hb _ (getD_mem (l := xs) (j := k) (d := default) (by omega))
  refine T_skip ?_
  refine T_seq ?_
  refine T_block ?_
  refine T_region hc ?_
  refine Ch.s (.row 3) (.pure (.move _ rfl rfl)) ?_
  refine Ch.s (.d (.int .i64 ((k : Nat) : Int))) (.pure (.move _ rfl rfl)) ?_
  refine Ch.s (.d (.slice false 2 (xs.map Sgn.d))) (.pure (.move _ rfl rfl)) ?_
  refine Ch.s (.d (.int .i64 ((k : Nat) : Int))) (.pure (.move _ rfl rfl)) ?_
  refine Ch.s (.d (.ref (.agg [(.str ((xs.getD k default).name)), (.int .i64 ((xs.getD k default).kind))]))) (.pure (.idx _ _ _ 151 (k) rfl Tryz.underlying22 sz151 rfl rfl rfl get_mapA)) ?_
  refine Ch.s (.d (.agg [(.str ((xs.getD k default).name)), (.int .i64 ((xs.getD k default).kind))])) (.pure (.loadRefA _ _ rfl ag151 sz151 rfl)) ?_
  refine Ch.s (.d (.agg [(.str ((xs.getD k default).name)), (.int .i64 ((xs.getD k default).kind))])) (.call 20000 137 _ _ _ en137 rfl (.inl rfl) (.cons (.d _) .nil) rfl rfl (sp_laws_toSignal (xs.getD k default) (by first | assumption | omega | (rw [List.length_take]; omega) | (have := bulkF_mem hb _ (getD_mem (d := default) (by omega)); assumption) | (unfold bulkS at *; omega) | (simp_all; done))) (.skip _ _ .nil) rfl) ?_
  refine Ch.s (.el 3 2 k 0) (.pure (.idxRow _ _ _ 154 (k) rfl Tryz.underlying32 sz154 rfl rfl rfl rfl (by first | omega | (simp only [List.length_map, List.length_set]; omega) | (simp; omega)))) ?_
  refine Ch.s .junk (.storeEl (y' := (.agg [(.str ((xs.getD k default).name)), (.int .i64 ((xs.getD k default).kind))])) _ _ _ rfl rfl rfl (.d _) rfl sz154 rfl get_mapA rfl rfl) ?_
  refine Ch.nil ?_
  refine T_region hc ?_
  refine Ch.s (.d (.int .i64 ((k : Nat) : Int))) (.pure (.move _ rfl rfl)) ?_
  refine Ch.s (.d (.int .i64 (((k : Nat) : Int) + 1))) (.pure (.int _ _ _ _ _ rfl rfl rfl intV_addA)) ?_
  refine Ch.s (.d (.int .i64 (((k : Nat) : Int) + 1))) (.pure (.assign _ rfl rfl)) ?_
  refine Ch.nil ?_
  refine Exists.intro (k + 1) (And.intro (by omega) (And.intro (by first | omega | (dsimp only; omega)) (Wk.of rfl rfl (And.intro rfl (And.intro rfl (And.intro (vI (by first | rfl | omega | (simp; done) | (simp; omega))) trivial))) (And.intro (oR (by first | (rw [fill_zero, List.map_replicate]; rfl) | (rw [← fill_set xs default default (by omega), List.map_set]; rfl))) trivial))))
 ·
  replace h1 := of_decide_eq_false h1
  try have hk := bulkF_mem hb _ (getD_mem (l := xs) (j := k) (d := default) (by omega))
  refine T_exit ?_
  refine T_seq ?_
  refine T_region hc ?_
  refine Ch.s (.row 3) (.pure (.move _ rfl rfl)) ?_
  refine Ch.s (.row 3) (.pure (.assign _ rfl rfl)) ?_
  refine Ch.nil ?_
  refine T_ret ?_
  refine And.intro (.inr rfl) ?_
  exact Exists.intro [(.row 3)] (Exists.intro [] (Exists.intro [3] (And.intro (.cons (.tmp 2 rfl) .nil) (And.intro (.cons (.any _) .nil) (And.intro (Exp.of (congrArg (D.slice true 2) (by rw [fill_all xs default (by omega)])) (.row rfl)) (And.intro rfl rfl))))))

theorem sp_laws_eqSignal (x y : Sgn) (hb : x.bulk ≤ 1048576) : Sp Tryz.prog 144 [(.agg [(.str x.name), (.int .i64 x.kind)]), (.agg [(.str y.name), (.int .i64 y.kind)])] [.any, .any] (.bool (decide (x = y))) := by
 refine Sp_intro (lend := true) Tryz.func144 rfl rfl rfl (fun _ => rfl) (fun c hc hX => ?_)
 have hp0 := Sgn.parts hb
 refine T_seq ?_
 refine T_region hc ?_
 refine Ch.s (.ptr 2000 0) (.box 2000 _ _ rfl (.aggD _)) ?_
 refine Ch.s (.ptr 3000 0) (.box 3000 _ _ rfl (.aggD _)) ?_
 refine Ch.s (.d (.bool false)) (.pure (.assign _ rfl rfl)) ?_
 refine Ch.nil ?_
 refine T_seq ?_
 refine T_seq ?_
 refine T_region hc ?_
 refine Ch.s (.ptr 2000 0) (.pure (.fldPtr _ _ _ rfl fld154_0 rfl)) ?_
 refine Ch.s (.d (.str x.name)) (.pure (.loadPtr1 _ _ rfl ag9 rfl rfl rfl)) ?_
 refine Ch.s (.ptr 3000 0) (.pure (.fldPtr _ _ _ rfl fld154_0 rfl)) ?_
 refine Ch.s (.d (.str y.name)) (.pure (.loadPtr1 _ _ rfl ag9 rfl rfl rfl)) ?_
 refine Ch.s (.d (.bool (!(decide (x.name = y.name))))) (.pure (.str _ _ _ _ _ rfl rfl rfl rfl)) ?_
 refine Ch.nil ?_
 refine T_cond (b := (!(decide (x.name = y.name)))) rfl (fun h1 => ?_) (fun h1 => ?_)
 ·
  replace h1 := nott h1
  replace h1 := of_decide_eq_false h1
  refine T_seq ?_
  refine T_region hc ?_
  refine Ch.s (.d (.bool false)) (.pure (.assign _ rfl rfl)) ?_
  refine Ch.nil ?_
  refine T_ret ?_
  refine And.intro (.inr rfl) ?_
  exact Exists.intro [(.d (.bool false))] (Exists.intro [] (Exists.intro [] (And.intro (.cons (.tmp 4 rfl) .nil) (And.intro (.cons (.any _) (.cons (.any _) .nil)) (And.intro (Exp.of (congrArg D.bool (by cases x; cases y; simp_all)) (.d _)) (And.intro rfl rfl))))))
 ·
  replace h1 := notf h1
  replace h1 := of_decide_eq_true h1
  refine T_skip ?_
  refine T_seq ?_
  refine T_seq ?_
  refine T_region hc ?_
  refine Ch.s (.ptr 2000 1) (.pure (.fldPtr _ _ _ rfl fld154_1 rfl)) ?_
  refine Ch.s (.d (.int .i64 x.kind)) (.pure (.loadPtr1 _ _ rfl ag3 rfl rfl rfl)) ?_
  refine Ch.s (.ptr 3000 1) (.pure (.fldPtr _ _ _ rfl fld154_1 rfl)) ?_
  refine Ch.s (.d (.int .i64 y.kind)) (.pure (.loadPtr1 _ _ rfl ag3 rfl rfl rfl)) ?_
  refine Ch.s (.d (.bool (!(decide (x.kind = y.kind))))) (.pure (.int _ _ _ _ _ rfl rfl rfl rfl)) ?_
  refine Ch.nil ?_
  refine T_cond (b := (!(decide (x.kind = y.kind)))) rfl (fun h2 => ?_) (fun h2 => ?_)
  ·
   replace h2 := nott h2
   replace h2 := of_decide_eq_false h2
   refine T_seq ?_
   refine T_region hc ?_
   refine Ch.s (.d (.bool false)) (.pure (.assign _ rfl rfl)) ?_
   refine Ch.nil ?_
   refine T_ret ?_
   refine And.intro (.inr rfl) ?_
   exact Exists.intro [(.d (.bool false))] (Exists.intro [] (Exists.intro [] (And.intro (.cons (.tmp 4 rfl) .nil) (And.intro (.cons (.any _) (.cons (.any _) .nil)) (And.intro (Exp.of (congrArg D.bool (by cases x; cases y; simp_all)) (.d _)) (And.intro rfl rfl))))))
  ·
   replace h2 := notf h2
   replace h2 := of_decide_eq_true h2
   refine T_skip ?_
   refine T_seq ?_
   refine T_region hc ?_
   refine Ch.s (.d (.bool true)) (.pure (.assign _ rfl rfl)) ?_
   refine Ch.nil ?_
   refine T_ret ?_
   refine And.intro (.inr rfl) ?_
   exact Exists.intro [(.d (.bool true))] (Exists.intro [] (Exists.intro [] (And.intro (.cons (.tmp 4 rfl) .nil) (And.intro (.cons (.any _) (.cons (.any _) .nil)) (And.intro (Exp.of (congrArg D.bool (by cases x; cases y; simp_all)) (.d _)) (And.intro rfl rfl))))))

theorem sp_laws_eqSignalS (xs ys : List (Sgn)) (hb : bulkF Sgn.bulk xs ≤ 1048576) : Sp Tryz.prog 74 [(.slice false 2 (xs.map Sgn.d)), (.slice false 2 (ys.map Sgn.d))] [.any, .any] (.bool (decide (xs = ys))) := by
 refine Sp_intro (lend := true) Tryz.func74 rfl rfl rfl (fun _ => rfl) (fun c hc hX => ?_)
 have hn := bulkF_len hb
 refine T_seq ?_
 refine T_region hc ?_
 refine Ch.s (.d (.bool false)) (.pure (.assign _ rfl rfl)) ?_
 refine Ch.nil ?_
 refine T_seq ?_
 refine T_seq ?_
 refine T_region hc ?_
 refine Ch.s (.d (.slice false 2 (xs.map Sgn.d))) (.pure (.move _ rfl rfl)) ?_
 refine Ch.s (.d (.int .i64 ((xs.length : Nat) : Int))) (.pure (.len _ _ 154 rfl Tryz.underlying32 (.sh _ _) (by simp))) ?_
 refine Ch.s (.d (.slice false 2 (ys.map Sgn.d))) (.pure (.move _ rfl rfl)) ?_
 refine Ch.s (.d (.int .i64 ((ys.length : Nat) : Int))) (.pure (.len _ _ 154 rfl Tryz.underlying32 (.sh _ _) (by simp))) ?_
 refine Ch.s (.d (.bool (!(decide (((xs.length : Nat) : Int) = ((ys.length : Nat) : Int)))))) (.pure (.int _ _ _ _ _ rfl rfl rfl rfl)) ?_
 refine Ch.nil ?_
 refine T_cond (b := (!(decide (((xs.length : Nat) : Int) = ((ys.length : Nat) : Int))))) rfl (fun h1 => ?_) (fun h1 => ?_)
 ·
  replace h1 := nott h1
  replace h1 := of_decide_eq_false h1
  refine T_seq ?_
  refine T_region hc ?_
  refine Ch.s (.d (.bool false)) (.pure (.assign _ rfl rfl)) ?_
  refine Ch.nil ?_
  refine T_ret ?_
  refine And.intro (.inr rfl) ?_
  exact Exists.intro [(.d (.bool false))] (Exists.intro [] (Exists.intro [] (And.intro (.cons (.tmp 4 rfl) .nil) (And.intro (.cons (.any _) (.cons (.any _) .nil)) (And.intro (Exp.of (congrArg D.bool (by exact eqL_len (by omega))) (.d _)) (And.intro rfl rfl))))))
 ·
  replace h1 := notf h1
  replace h1 := of_decide_eq_true h1
  refine T_skip ?_
  refine T_seq ?_
  refine T_seq ?_
  refine T_region hc ?_
  refine Ch.s (.d (.int .i64 0)) (.pure (.assign _ rfl rfl)) ?_
  refine Ch.nil ?_
  refine T_block ?_
  refine T_loop (ι := Nat) (fun k => { n := 27, sl := [(0, (.d (.slice false 2 (xs.map Sgn.d)))), (1, (.d (.slice false 2 (ys.map Sgn.d)))), (5, (.d (.int .i64 ((k : Nat) : Int))))], hp := [], pin := [] }) (fun k => k ≤ xs.length ∧ ∀ j, j < k → xs.getD j default = ys.getD j default) (fun k => xs.length - k) ⟨0, ⟨by omega, fun j hj => by omega⟩, (Wk.of rfl rfl (And.intro rfl (And.intro rfl (And.intro (vI (by first | rfl | omega | (simp; done) | (simp; omega))) trivial))) trivial)⟩ (fun k hp0 => ?_)
  refine T_seq ?_
  refine T_seq ?_
  refine T_region hc ?_
  refine Ch.s (.d (.int .i64 ((k : Nat) : Int))) (.pure (.move _ rfl rfl)) ?_
  refine Ch.s (.d (.slice false 2 (xs.map Sgn.d))) (.pure (.move _ rfl rfl)) ?_
  refine Ch.s (.d (.int .i64 ((xs.length : Nat) : Int))) (.pure (.len _ _ 154 rfl Tryz.underlying32 (.sh _ _) (by simp))) ?_
  refine Ch.s (.d (.bool (decide (((k : Nat) : Int) < ((xs.length : Nat) : Int))))) (.pure (.int _ _ _ _ _ rfl rfl rfl rfl)) ?_
  refine Ch.nil ?_
  refine T_cond (b := (decide (((k : Nat) : Int) < ((xs.length : Nat) : Int)))) rfl (fun h2 => ?_) (fun h2 => ?_)
  ·
   replace h2 := of_decide_eq_true h2
   try have hk := bulkF_mem hb _ (getD_mem (l := xs) (j := k) (d := default) (by omega))
   refine T_skip ?_
   refine T_seq ?_
   refine T_block ?_
   refine T_seq ?_
   refine T_regionD hc (by kernel_rfl) ?_
   refine ChD.s (.d (.slice false 2 (xs.map Sgn.d))) [] (.pure (.move _ rfl rfl)) ?_
   refine ChD.s (.d (.int .i64 ((k : Nat) : Int))) [] (.pure (.move _ rfl rfl)) ?_
   refine ChD.s (.d (.ref (.agg [(.str ((xs.getD k default).name)), (.int .i64 ((xs.getD k default).kind))]))) [] (.pure (.idx _ _ _ 154 (k) rfl Tryz.underlying32 sz154 rfl rfl rfl get_mapA)) ?_
   refine ChD.s (.d (.agg [(.str ((xs.getD k default).name)), (.int .i64 ((xs.getD k default).kind))])) [] (.pure (.loadRefA _ _ rfl ag154 sz154 rfl)) ?_
   refine ChD.s (.d (.slice false 2 (ys.map Sgn.d))) [] (.pure (.move _ rfl rfl)) ?_
   refine ChD.s (.d (.int .i64 ((k : Nat) : Int))) [] (.pure (.move _ rfl rfl)) ?_
   refine ChD.s (.d (.ref (.agg [(.str ((ys.getD k default).name)), (.int .i64 ((ys.getD k default).kind))]))) [] (.pure (.idx _ _ _ 154 (k) rfl Tryz.underlying32 sz154 rfl rfl rfl get_mapA)) ?_
   refine ChD.s (.d (.agg [(.str ((ys.getD k default).name)), (.int .i64 ((ys.getD k default).kind))])) [] (.pure (.loadRefA _ _ rfl ag154 sz154 rfl)) ?_
   refine ChD.s (.d (.bool (decide ((xs.getD k default) = (ys.getD k default))))) [] (.call 25000 144 _ _ _ en144 rfl (.inl rfl) (.cons (.d _) (.cons (.d _) .nil)) rfl rfl (sp_laws_eqSignal (xs.getD k default) (ys.getD k default) (by first | assumption | omega | (rw [List.length_take]; omega) | (have := bulkF_mem hb _ (getD_mem (d := default) (by omega)); assumption) | (unfold bulkS at *; omega) | (simp_all; done))) (.skip _ _ (.skip _ _ .nil)) rfl) ?_
   refine ChD.s (.d (.bool (!(decide ((xs.getD k default) = (ys.getD k default)))))) [] (.pure (.not _ _ rfl rfl)) ?_
   refine ChD.nil (And.intro ?_ (by kernel_rfl))
   refine T_cond (b := (!(decide ((xs.getD k default) = (ys.getD k default))))) rfl (fun h3 => ?_) (fun h3 => ?_)
   ·
    replace h3 := nott h3
    replace h3 := of_decide_eq_false h3
    refine T_seq ?_
    refine T_region hc ?_
    refine Ch.s (.d (.bool false)) (.pure (.assign _ rfl rfl)) ?_
    refine Ch.nil ?_
    refine T_ret ?_
    refine And.intro (.inr rfl) ?_
    exact Exists.intro [(.d (.bool false))] (Exists.intro [] (Exists.intro [] (And.intro (.cons (.tmp 4 rfl) .nil) (And.intro (.cons (.any _) (.cons (.any _) .nil)) (And.intro (Exp.of (congrArg D.bool (by exact eqL_at default k (by assumption))) (.d _)) (And.intro rfl rfl))))))
   ·
    replace h3 := notf h3
    replace h3 := of_decide_eq_true h3
    refine T_skip ?_
    refine T_region hc ?_
    refine Ch.s (.d (.int .i64 ((k : Nat) : Int))) (.pure (.move _ rfl rfl)) ?_
    refine Ch.s (.d (.int .i64 (((k : Nat) : Int) + 1))) (.pure (.int _ _ _ _ _ rfl rfl rfl intV_addA)) ?_
    refine Ch.s (.d (.int .i64 (((k : Nat) : Int) + 1))) (.pure (.assign _ rfl rfl)) ?_
    refine Ch.nil ?_
    refine Exists.intro (k + 1) (And.intro ⟨by omega, upto_succ hp0.2 (by assumption)⟩ (And.intro (by first | omega | (dsimp only; omega)) (Wk.of rfl rfl (And.intro rfl (And.intro rfl (And.intro (vI (by first | rfl | omega | (simp; done) | (simp; omega))) trivial))) trivial)))
  ·
   replace h2 := of_decide_eq_false h2
   try have hk := bulkF_mem hb _ (getD_mem (l := xs) (j := k) (d := default) (by omega))
   refine T_exit ?_
   refine T_seq ?_
   refine T_region hc ?_
   refine Ch.s (.d (.bool true)) (.pure (.assign _ rfl rfl)) ?_
   refine Ch.nil ?_
   refine T_ret ?_
   refine And.intro (.inr rfl) ?_
   exact Exists.intro [(.d (.bool true))] (Exists.intro [] (Exists.intro [] (And.intro (.cons (.tmp 4 rfl) .nil) (And.intro (.cons (.any _) (.cons (.any _) .nil)) (And.intro (Exp.of (congrArg D.bool (by exact eqL_all default (by omega) (fun j hj => hp0.2 j (by omega)))) (.d _)) (And.intro rfl rfl))))))

theorem sp_laws_szArcS (xs : List (Arc)) (left : Int) (h0 : 0 ≤ left) (h0u : left ≤ 1048576) (hn : xs.length ≤ 9223372036854775807) (hx : ∀ y ∈ xs, Arc.wide y) : Sp Tryz.prog 68 [(.slice false 4 (xs.map Arc.d)), (.int .i64 left)] [.any, .any] (.int .i64 (szR (bulkF Arc.bulk xs) left)) := by
 refine Sp_intro (lend := true) Tryz.func68 rfl rfl rfl (fun _ => rfl) (fun c hc hX => ?_)
 have hz : (xs.map Arc.bulk).sum = 0 := sum_zero (fun _ => rfl) xs
 refine T_seq ?_
 refine T_region hc ?_
 refine Ch.s (.d (.int .i64 0)) (.pure (.assign _ rfl rfl)) ?_
 refine Ch.nil ?_
 refine T_seq ?_
 refine T_region hc ?_
 refine Ch.s (.d (.int .i64 left)) (.pure (.move _ rfl rfl)) ?_
 refine Ch.s (.d (.slice false 4 (xs.map Arc.d))) (.pure (.move _ rfl rfl)) ?_
 refine Ch.s (.d (.int .i64 ((xs.length : Nat) : Int))) (.pure (.len _ _ 157 rfl Tryz.underlying24 (.sh _ _) (by simp))) ?_
 refine Ch.s (.d (.int .i64 (left - ((xs.length : Nat) : Int)))) (.pure (.int _ _ _ _ _ rfl rfl rfl intV_subA)) ?_
 refine Ch.s (.d (.int .i64 (left - ((xs.length : Nat) : Int)))) (.pure (.assign _ rfl rfl)) ?_
 refine Ch.nil ?_
 refine T_seq ?_
 refine T_seq ?_
 refine T_region hc ?_
 refine Ch.s (.d (.int .i64 (left - ((xs.length : Nat) : Int)))) (.pure (.move _ rfl rfl)) ?_
 refine Ch.s (.d (.bool (decide ((left - ((xs.length : Nat) : Int)) < 0)))) (.pure (.int _ _ _ _ _ rfl rfl rfl rfl)) ?_
 refine Ch.nil ?_
 refine T_cond (b := (decide ((left - ((xs.length : Nat) : Int)) < 0))) rfl (fun h1 => ?_) (fun h1 => ?_)
 ·
  replace h1 := of_decide_eq_true h1
  refine T_seq ?_
  refine T_region hc ?_
  refine Ch.s (.d (.int .i64 (-1))) (.pure (.assign _ rfl rfl)) ?_
  refine Ch.nil ?_
  refine T_ret ?_
  refine And.intro (.inr rfl) ?_
  exact Exists.intro [(.d (.int .i64 (-1)))] (Exists.intro [] (Exists.intro [] (And.intro (.cons (.tmp 4 rfl) .nil) (And.intro (.cons (.any _) (.cons (.any _) .nil)) (And.intro (Exp.of (congrArg (D.int .i64) (by rw [szR, bulkF, hz]; split <;> omega)) (.d _)) (And.intro rfl rfl))))))
 ·
  replace h1 := of_decide_eq_false h1
  refine T_skip ?_
  refine T_seq ?_
  refine T_region hc ?_
  refine Ch.s (.d (.int .i64 (left - ((xs.length : Nat) : Int)))) (.pure (.move _ rfl rfl)) ?_
  refine Ch.s (.d (.int .i64 (left - ((xs.length : Nat) : Int)))) (.pure (.assign _ rfl rfl)) ?_
  refine Ch.nil ?_
  refine T_ret ?_
  refine And.intro (.inr rfl) ?_
  exact Exists.intro [(.d (.int .i64 (left - ((xs.length : Nat) : Int))))] (Exists.intro [] (Exists.intro [] (And.intro (.cons (.tmp 4 rfl) .nil) (And.intro (.cons (.any _) (.cons (.any _) .nil)) (And.intro (Exp.of (congrArg (D.int .i64) (by rw [szR, bulkF, hz]; split <;> omega)) (.d _)) (And.intro rfl rfl))))))

theorem sp_laws_toArc (x : Arc) (hb : x.bulk ≤ 1048576) : Sp Tryz.prog 138 [(.agg [(.int .i64 x.src), (.int .i64 x.sig), (.bool (x.up)), (.int .i64 x.dst)])] [.any] (.agg [(.int .i64 x.src), (.int .i64 x.sig), (.bool (x.up)), (.int .i64 x.dst)]) := by
 refine Sp_intro (lend := true) Tryz.func138 rfl rfl rfl (fun _ => rfl) (fun c hc hX => ?_)
 refine T_seq ?_
 refine T_region hc ?_
 refine Ch.s (.ptr 1000 0) (.box 1000 _ _ rfl (.aggD _)) ?_
 refine Ch.s (.ptr 2000 0) (.alloc 2000 _ rfl zer125) ?_
 refine Ch.nil ?_
 refine T_seq ?_
 refine T_region hc ?_
 refine Ch.s (.ptr 3000 0) (.alloc 3000 _ rfl zer125) ?_
 refine Ch.nil ?_
 refine T_seq ?_
 refine T_region hc ?_
 refine Ch.s (.ptr 1000 0) (.pure (.fldPtr _ _ _ rfl fld157_0 rfl)) ?_
 refine Ch.s (.d (.int .i64 x.src)) (.pure (.loadPtr1 _ _ rfl ag3 rfl rfl rfl)) ?_
 refine Ch.s (.ptr 3000 0) (.pure (.fldPtr _ _ _ rfl fld125_0 rfl)) ?_
 refine Ch.s .junk (.storePtr _ _ _ rfl rfl rfl (.one _ rfl) sz3 (Nat.le_of_ble_eq_true rfl)) ?_
 refine Ch.nil ?_
 refine T_seq ?_
 refine T_region hc ?_
 refine Ch.s (.ptr 1000 1) (.pure (.fldPtr _ _ _ rfl fld157_1 rfl)) ?_
 refine Ch.s (.d (.int .i64 x.sig)) (.pure (.loadPtr1 _ _ rfl ag3 rfl rfl rfl)) ?_
 refine Ch.s (.ptr 3000 1) (.pure (.fldPtr _ _ _ rfl fld125_1 rfl)) ?_
 refine Ch.s .junk (.storePtr _ _ _ rfl rfl rfl (.one _ rfl) sz3 (Nat.le_of_ble_eq_true rfl)) ?_
 refine Ch.nil ?_
 refine T_seq ?_
 refine T_region hc ?_
 refine Ch.s (.ptr 1000 2) (.pure (.fldPtr _ _ _ rfl fld157_2 rfl)) ?_
 refine Ch.s (.d (.bool (x.up))) (.pure (.loadPtr1 _ _ rfl ag4 rfl rfl rfl)) ?_
 refine Ch.s (.ptr 3000 2) (.pure (.fldPtr _ _ _ rfl fld125_2 rfl)) ?_
 refine Ch.s .junk (.storePtr _ _ _ rfl rfl rfl (.one _ rfl) sz4 (Nat.le_of_ble_eq_true rfl)) ?_
 refine Ch.nil ?_
 refine T_seq ?_
 refine T_region hc ?_
 refine Ch.s (.ptr 1000 3) (.pure (.fldPtr _ _ _ rfl fld157_3 rfl)) ?_
 refine Ch.s (.d (.int .i64 x.dst)) (.pure (.loadPtr1 _ _ rfl ag3 rfl rfl rfl)) ?_
 refine Ch.s (.ptr 3000 3) (.pure (.fldPtr _ _ _ rfl fld125_3 rfl)) ?_
 refine Ch.s .junk (.storePtr _ _ _ rfl rfl rfl (.one _ rfl) sz3 (Nat.le_of_ble_eq_true rfl)) ?_
 refine Ch.nil ?_
 refine T_seq ?_
 refine T_region hc ?_
 refine Ch.s (.agg [(.d (.int .i64 x.src)), (.d (.int .i64 x.sig)), (.d (.bool (x.up))), (.d (.int .i64 x.dst))]) (.pure (.loadPtrA _ _ rfl ag125 sz125 rfl rfl (Nat.le_of_ble_eq_true rfl) rfl)) ?_
 refine Ch.s .junk (.storePtr _ _ _ rfl rfl rfl (.agg _ rfl) sz125 (Nat.le_of_ble_eq_true rfl)) ?_
 refine Ch.nil ?_
 refine T_ret ?_
 refine And.intro (.inr rfl) ?_
 exact Exists.intro [(.agg [(.d (.int .i64 x.src)), (.d (.int .i64 x.sig)), (.d (.bool (x.up))), (.d (.int .i64 x.dst))])] (Exists.intro [] (Exists.intro [] (And.intro (.cons (.cellA _ _ rfl rfl ag125 sz125) .nil) (And.intro (.cons (.any _) .nil) (And.intro (.agg (.cons (.d _) (.cons (.d _) (.cons (.d _) (.cons (.d _) .nil)))) rfl) (And.intro rfl rfl))))))

theorem sp_laws_toArcS (xs : List (Arc)) (hb : bulkF Arc.bulk xs ≤ 1048576) : Sp Tryz.prog 72 [(.slice false 4 (xs.map Arc.d))] [.any] (.slice true 4 (xs.map Arc.d)) := by
 refine Sp_intro (lend := true) Tryz.func72 rfl rfl rfl (fun _ => rfl) (fun c hc hX => ?_)
 have hn := bulkF_len hb
 refine T_seq ?_
 refine T_region hc ?_
 refine Ch.s (.c (.slice none 0 0)) (.pure (.assign _ rfl rfl)) ?_
 refine Ch.nil ?_
 refine T_seq ?_
 refine T_region hc ?_
 refine Ch.s (.d (.slice false 4 (xs.map Arc.d))) (.pure (.move _ rfl rfl)) ?_
 refine Ch.s (.d (.int .i64 ((xs.length : Nat) : Int))) (.pure (.len _ _ 157 rfl Tryz.underlying24 (.sh _ _) (by simp))) ?_
 refine Ch.s (.row 7000) (.make 7000 _ 125 _ _ (xs.length) (xs.length) rfl sty33 rfl rfl rfl rfl (by first | omega | (simp only [List.length_map, List.length_append, List.length_take, List.length_drop, List.length_cons, List.length_nil]; omega) | (simp; omega) | (simp; done)) (by first | omega | (simp only [List.length_map, List.length_append, List.length_take, List.length_drop, List.length_cons, List.length_nil]; omega) | (simp; omega) | (simp; done)) (by first | omega | (simp only [List.length_map, List.length_append, List.length_take, List.length_drop, List.length_cons, List.length_nil]; omega) | (simp; omega) | (simp; done)) (zeroD_mk (zd := (.agg [(.int .i64 0), (.int .i64 0), (.bool false), (.int .i64 0)])) zr125 (by intro S w; exact dr_agg rfl (drs_cons dr_int (drs_cons dr_int (drs_cons dr_bool (drs_cons dr_int drs_nil))))) rfl)) ?_
 refine Ch.s (.row 7000) (.pure (.assign _ rfl rfl)) ?_
 refine Ch.nil ?_
 refine T_seq ?_
 refine T_seq ?_
 refine T_region hc ?_
 refine Ch.s (.d (.int .i64 0)) (.pure (.assign _ rfl rfl)) ?_
 refine Ch.nil ?_
 refine T_block ?_
 refine T_loop (ι := Nat) (fun k => { n := 23, sl := [(0, (.d (.slice false 4 (xs.map Arc.d)))), (3, (.row 3)), (4, (.d (.int .i64 ((k : Nat) : Int))))], hp := [(3, (some (.row 4 ((fill xs default k).map Arc.d))))], pin := [] }) (fun k => k ≤ xs.length) (fun k => xs.length - k) ⟨0, (by omega), (Wk.ren [(3, 7000)] rfl rfl rfl rfl (And.intro rfl (And.intro rfl (And.intro (vI (by first | rfl | omega | (simp; done) | (simp; omega))) trivial))) (And.intro (oR (by first | (rw [fill_zero, List.map_replicate]; rfl) | (rw [← fill_set xs default default (by omega), List.map_set]; rfl))) trivial))⟩ (fun k hp0 => ?_)
 refine T_seq ?_
 refine T_seq ?_
 refine T_region hc ?_
 refine Ch.s (.d (.int .i64 ((k : Nat) : Int))) (.pure (.move _ rfl rfl)) ?_
 refine Ch.s (.d (.slice false 4 (xs.map Arc.d))) (.pure (.move _ rfl rfl)) ?_
 refine Ch.s (.d (.int .i64 ((xs.length : Nat) : Int))) (.pure (.len _ _ 157 rfl Tryz.underlying24 (.sh _ _) (by simp))) ?_
 refine Ch.s (.d (.bool (decide (((k : Nat) : Int) < ((xs.length : Nat) : Int))))) (.pure (.int _ _ _ _ _ rfl rfl rfl rfl)) ?_
 refine Ch.nil ?_
 refine T_cond (b := (decide (((k : Nat) : Int) < ((xs.length : Nat) : Int)))) rfl (fun h1 => ?_) (fun h1 => ?_)
 ·
  replace h1 := of_decide_eq_true h1
  try have hk := bulkF_mem hb _ (getD_mem (l := xs) (j := k) (d := default) (by omega))
  refine T_skip ?_
  refine T_seq ?_
  refine T_block ?_
  refine T_region hc ?_
  refine Ch.s (.row 3) (.pure (.move _ rfl rfl)) ?_
  refine Ch.s (.d (.int .i64 ((k : Nat) : Int))) (.pure (.move _ rfl rfl)) ?_
  refine Ch.s (.d (.slice false 4 (xs.map Arc.d))) (.pure (.move _ rfl rfl)) ?_
  refine Ch.s (.d (.int .i64 ((k : Nat) : Int))) (.pure (.move _ rfl rfl)) ?_
  refine Ch.s (.d (.ref (.agg [(.int .i64 ((xs.getD k default).src)), (.int .i64 ((xs.getD k default).sig)), (.bool ((xs.getD k default).up)), (.int .i64 ((xs.getD k default).dst))]))) (.pure (.idx _ _ _ 157 (k) rfl Tryz.underlying24 sz157 rfl rfl rfl get_mapA)) ?_
  refine Ch.s (.d (.agg [(.int .i64 ((xs.getD k default).src)), (.int .i64 ((xs.getD k default).sig)), (.bool ((xs.getD k default).up)), (.int .i64 ((xs.getD k default).dst))])) (.pure (.loadRefA _ _ rfl ag157 sz157 rfl)) ?_
  refine Ch.s (.d (.agg [(.int .i64 ((xs.getD k default).src)), (.int .i64 ((xs.getD k default).sig)), (.bool ((xs.getD k default).up)), (.int .i64 ((xs.getD k default).dst))])) (.call 20000 138 _ _ _ en138 rfl (.inl rfl) (.cons (.d _) .nil) rfl rfl (sp_laws_toArc (xs.getD k default) (by first | assumption | omega | (rw [List.length_take]; omega) | (have := bulkF_mem hb _ (getD_mem (d := default) (by omega)); assumption) | (unfold bulkS at *; omega) | (simp_all; done))) (.skip _ _ .nil) rfl) ?_
  refine Ch.s (.el 3 4 k 0) (.pure (.idxRow _ _ _ 125 (k) rfl Tryz.underlying33 sz125 rfl rfl rfl rfl (by first | omega | (simp only [List.length_map, List.length_set]; omega) | (simp; omega)))) ?_
  refine Ch.s .junk (.storeEl (y' := (.agg [(.int .i64 ((xs.getD k default).src)), (.int .i64 ((xs.getD k default).sig)), (.bool ((xs.getD k default).up)), (.int .i64 ((xs.getD k default).dst))])) _ _ _ rfl rfl rfl (.d _) rfl sz125 rfl get_mapA rfl rfl) ?_
  refine Ch.nil ?_
  refine T_region hc ?_
  refine Ch.s (.d (.int .i64 ((k : Nat) : Int))) (.pure (.move _ rfl rfl)) ?_
  refine Ch.s (.d (.int .i64 (((k : Nat) : Int) + 1))) (.pure (.int _ _ _ _ _ rfl rfl rfl intV_addA)) ?_
  refine Ch.s (.d (.int .i64 (((k : Nat) : Int) + 1))) (.pure (.assign _ rfl rfl)) ?_
  refine Ch.nil ?_
  refine Exists.intro (k + 1) (And.intro (by omega) (And.intro (by first | omega | (dsimp only; omega)) (Wk.of rfl rfl (And.intro rfl (And.intro rfl (And.intro (vI (by first | rfl | omega | (simp; done) | (simp; omega))) trivial))) (And.intro (oR (by first | (rw [fill_zero, List.map_replicate]; rfl) | (rw [← fill_set xs default default (by omega), List.map_set]; rfl))) trivial))))
 ·
  replace h1 := of_decide_eq_false h1
  try have hk := bulkF_mem hb _ (getD_mem (l := xs) (j := k) (d := default) (by omega))
  refine T_exit ?_
  refine T_seq ?_
  refine T_region hc ?_
  refine Ch.s (.row 3) (.pure (.move _ rfl rfl)) ?_
  refine Ch.s (.row 3) (.pure (.assign _ rfl rfl)) ?_
  refine Ch.nil ?_
  refine T_ret ?_
  refine And.intro (.inr rfl) ?_
  exact Exists.intro [(.row 3)] (Exists.intro [] (Exists.intro [3] (And.intro (.cons (.tmp 2 rfl) .nil) (And.intro (.cons (.any _) .nil) (And.intro (Exp.of (congrArg (D.slice true 4) (by rw [fill_all xs default (by omega)])) (.row rfl)) (And.intro rfl rfl))))))

theorem sp_laws_eqArc (x y : Arc) (hb : x.bulk ≤ 1048576) : Sp Tryz.prog 145 [(.agg [(.int .i64 x.src), (.int .i64 x.sig), (.bool (x.up)), (.int .i64 x.dst)]), (.agg [(.int .i64 y.src), (.int .i64 y.sig), (.bool (y.up)), (.int .i64 y.dst)])] [.any, .any] (.bool (decide (x = y))) := by
 refine Sp_intro (lend := true) Tryz.func145 rfl rfl rfl (fun _ => rfl) (fun c hc hX => ?_)
 refine T_seq ?_
 refine T_region hc ?_
 refine Ch.s (.ptr 2000 0) (.box 2000 _ _ rfl (.aggD _)) ?_
 refine Ch.s (.ptr 3000 0) (.box 3000 _ _ rfl (.aggD _)) ?_
 refine Ch.s (.d (.bool false)) (.pure (.assign _ rfl rfl)) ?_
 refine Ch.nil ?_
 refine T_seq ?_
 refine T_seq ?_
 refine T_region hc ?_
 refine Ch.s (.ptr 2000 0) (.pure (.fldPtr _ _ _ rfl fld125_0 rfl)) ?_
 refine Ch.s (.d (.int .i64 x.src)) (.pure (.loadPtr1 _ _ rfl ag3 rfl rfl rfl)) ?_
 refine Ch.s (.ptr 3000 0) (.pure (.fldPtr _ _ _ rfl fld125_0 rfl)) ?_
 refine Ch.s (.d (.int .i64 y.src)) (.pure (.loadPtr1 _ _ rfl ag3 rfl rfl rfl)) ?_
 refine Ch.s (.d (.bool (!(decide (x.src = y.src))))) (.pure (.int _ _ _ _ _ rfl rfl rfl rfl)) ?_
 refine Ch.nil ?_
 refine T_cond (b := (!(decide (x.src = y.src)))) rfl (fun h1 => ?_) (fun h1 => ?_)
 ·
  replace h1 := nott h1
  replace h1 := of_decide_eq_false h1
  refine T_seq ?_
  refine T_region hc ?_
  refine Ch.s (.d (.bool false)) (.pure (.assign _ rfl rfl)) ?_
  refine Ch.nil ?_
  refine T_ret ?_
  refine And.intro (.inr rfl) ?_
  exact Exists.intro [(.d (.bool false))] (Exists.intro [] (Exists.intro [] (And.intro (.cons (.tmp 4 rfl) .nil) (And.intro (.cons (.any _) (.cons (.any _) .nil)) (And.intro (Exp.of (congrArg D.bool (by cases x; cases y; simp_all)) (.d _)) (And.intro rfl rfl))))))
 ·
  replace h1 := notf h1
  replace h1 := of_decide_eq_true h1
  refine T_skip ?_
  refine T_seq ?_
  refine T_seq ?_
  refine T_region hc ?_
  refine Ch.s (.ptr 2000 1) (.pure (.fldPtr _ _ _ rfl fld125_1 rfl)) ?_
  refine Ch.s (.d (.int .i64 x.sig)) (.pure (.loadPtr1 _ _ rfl ag3 rfl rfl rfl)) ?_
  refine Ch.s (.ptr 3000 1) (.pure (.fldPtr _ _ _ rfl fld125_1 rfl)) ?_
  refine Ch.s (.d (.int .i64 y.sig)) (.pure (.loadPtr1 _ _ rfl ag3 rfl rfl rfl)) ?_
  refine Ch.s (.d (.bool (!(decide (x.sig = y.sig))))) (.pure (.int _ _ _ _ _ rfl rfl rfl rfl)) ?_
  refine Ch.nil ?_
  refine T_cond (b := (!(decide (x.sig = y.sig)))) rfl (fun h2 => ?_) (fun h2 => ?_)
  ·
   replace h2 := nott h2
   replace h2 := of_decide_eq_false h2
   refine T_seq ?_
   refine T_region hc ?_
   refine Ch.s (.d (.bool false)) (.pure (.assign _ rfl rfl)) ?_
   refine Ch.nil ?_
   refine T_ret ?_
   refine And.intro (.inr rfl) ?_
   exact Exists.intro [(.d (.bool false))] (Exists.intro [] (Exists.intro [] (And.intro (.cons (.tmp 4 rfl) .nil) (And.intro (.cons (.any _) (.cons (.any _) .nil)) (And.intro (Exp.of (congrArg D.bool (by cases x; cases y; simp_all)) (.d _)) (And.intro rfl rfl))))))
  ·
   replace h2 := notf h2
   replace h2 := of_decide_eq_true h2
   refine T_skip ?_
   refine T_seq ?_
   refine T_seq ?_
   refine T_region hc ?_
   refine Ch.s (.ptr 2000 2) (.pure (.fldPtr _ _ _ rfl fld125_2 rfl)) ?_
   refine Ch.s (.d (.bool (x.up))) (.pure (.loadPtr1 _ _ rfl ag4 rfl rfl rfl)) ?_
   refine Ch.s (.ptr 3000 2) (.pure (.fldPtr _ _ _ rfl fld125_2 rfl)) ?_
   refine Ch.s (.d (.bool (y.up))) (.pure (.loadPtr1 _ _ rfl ag4 rfl rfl rfl)) ?_
   refine Ch.s (.d (.bool (!(decide ((x.up) = (y.up)))))) (.pure (.neB _ _ _ _ rfl Tryz.underlying4 rfl rfl)) ?_
   refine Ch.nil ?_
   refine T_cond (b := (!(decide ((x.up) = (y.up))))) rfl (fun h3 => ?_) (fun h3 => ?_)
   ·
    replace h3 := nott h3
    replace h3 := of_decide_eq_false h3
    refine T_seq ?_
    refine T_region hc ?_
    refine Ch.s (.d (.bool false)) (.pure (.assign _ rfl rfl)) ?_
    refine Ch.nil ?_
    refine T_ret ?_
    refine And.intro (.inr rfl) ?_
    exact Exists.intro [(.d (.bool false))] (Exists.intro [] (Exists.intro [] (And.intro (.cons (.tmp 4 rfl) .nil) (And.intro (.cons (.any _) (.cons (.any _) .nil)) (And.intro (Exp.of (congrArg D.bool (by cases x; cases y; simp_all)) (.d _)) (And.intro rfl rfl))))))
   ·
    replace h3 := notf h3
    replace h3 := of_decide_eq_true h3
    refine T_skip ?_
    refine T_seq ?_
    refine T_seq ?_
    refine T_region hc ?_
    refine Ch.s (.ptr 2000 3) (.pure (.fldPtr _ _ _ rfl fld125_3 rfl)) ?_
    refine Ch.s (.d (.int .i64 x.dst)) (.pure (.loadPtr1 _ _ rfl ag3 rfl rfl rfl)) ?_
    refine Ch.s (.ptr 3000 3) (.pure (.fldPtr _ _ _ rfl fld125_3 rfl)) ?_
    refine Ch.s (.d (.int .i64 y.dst)) (.pure (.loadPtr1 _ _ rfl ag3 rfl rfl rfl)) ?_
    refine Ch.s (.d (.bool (!(decide (x.dst = y.dst))))) (.pure (.int _ _ _ _ _ rfl rfl rfl rfl)) ?_
    refine Ch.nil ?_
    refine T_cond (b := (!(decide (x.dst = y.dst)))) rfl (fun h4 => ?_) (fun h4 => ?_)
    ·
     replace h4 := nott h4
     replace h4 := of_decide_eq_false h4
     refine T_seq ?_
     refine T_region hc ?_
     refine Ch.s (.d (.bool false)) (.pure (.assign _ rfl rfl)) ?_
     refine Ch.nil ?_
     refine T_ret ?_
     refine And.intro (.inr rfl) ?_
     exact Exists.intro [(.d (.bool false))] (Exists.intro [] (Exists.intro [] (And.intro (.cons (.tmp 4 rfl) .nil) (And.intro (.cons (.any _) (.cons (.any _) .nil)) (And.intro (Exp.of (congrArg D.bool (by cases x; cases y; simp_all)) (.d _)) (And.intro rfl rfl))))))
    ·
     replace h4 := notf h4
     replace h4 := of_decide_eq_true h4
     refine T_skip ?_
     refine T_seq ?_
     refine T_region hc ?_
     refine Ch.s (.d (.bool true)) (.pure (.assign _ rfl rfl)) ?_
     refine Ch.nil ?_
     refine T_ret ?_
     refine And.intro (.inr rfl) ?_
     exact Exists.intro [(.d (.bool true))] (Exists.intro [] (Exists.intro [] (And.intro (.cons (.tmp 4 rfl) .nil) (And.intro (.cons (.any _) (.cons (.any _) .nil)) (And.intro (Exp.of (congrArg D.bool (by cases x; cases y; simp_all)) (.d _)) (And.intro rfl rfl))))))

theorem sp_laws_eqArcS (xs ys : List (Arc)) (hb : bulkF Arc.bulk xs ≤ 1048576) : Sp Tryz.prog 75 [(.slice false 4 (xs.map Arc.d)), (.slice false 4 (ys.map Arc.d))] [.any, .any] (.bool (decide (xs = ys))) := by
 refine Sp_intro (lend := true) Tryz.func75 rfl rfl rfl (fun _ => rfl) (fun c hc hX => ?_)
 have hn := bulkF_len hb
 refine T_seq ?_
 refine T_region hc ?_
 refine Ch.s (.d (.bool false)) (.pure (.assign _ rfl rfl)) ?_
 refine Ch.nil ?_
 refine T_seq ?_
 refine T_seq ?_
 refine T_region hc ?_
 refine Ch.s (.d (.slice false 4 (xs.map Arc.d))) (.pure (.move _ rfl rfl)) ?_
 refine Ch.s (.d (.int .i64 ((xs.length : Nat) : Int))) (.pure (.len _ _ 125 rfl Tryz.underlying33 (.sh _ _) (by simp))) ?_
 refine Ch.s (.d (.slice false 4 (ys.map Arc.d))) (.pure (.move _ rfl rfl)) ?_
 refine Ch.s (.d (.int .i64 ((ys.length : Nat) : Int))) (.pure (.len _ _ 125 rfl Tryz.underlying33 (.sh _ _) (by simp))) ?_
 refine Ch.s (.d (.bool (!(decide (((xs.length : Nat) : Int) = ((ys.length : Nat) : Int)))))) (.pure (.int _ _ _ _ _ rfl rfl rfl rfl)) ?_
 refine Ch.nil ?_
 refine T_cond (b := (!(decide (((xs.length : Nat) : Int) = ((ys.length : Nat) : Int))))) rfl (fun h1 => ?_) (fun h1 => ?_)
 ·
  replace h1 := nott h1
  replace h1 := of_decide_eq_false h1
  refine T_seq ?_
  refine T_region hc ?_
  refine Ch.s (.d (.bool false)) (.pure (.assign _ rfl rfl)) ?_
  refine Ch.nil ?_
  refine T_ret ?_
  refine And.intro (.inr rfl) ?_
  exact Exists.intro [(.d (.bool false))] (Exists.intro [] (Exists.intro [] (And.intro (.cons (.tmp 4 rfl) .nil) (And.intro (.cons (.any _) (.cons (.any _) .nil)) (And.intro (Exp.of (congrArg D.bool (by exact eqL_len (by omega))) (.d _)) (And.intro rfl rfl))))))
 ·
  replace h1 := notf h1
  replace h1 := of_decide_eq_true h1
  refine T_skip ?_
  refine T_seq ?_
  refine T_seq ?_
  refine T_region hc ?_
  refine Ch.s (.d (.int .i64 0)) (.pure (.assign _ rfl rfl)) ?_
  refine Ch.nil ?_
  refine T_block ?_
  refine T_loop (ι := Nat) (fun k => { n := 27, sl := [(0, (.d (.slice false 4 (xs.map Arc.d)))), (1, (.d (.slice false 4 (ys.map Arc.d)))), (5, (.d (.int .i64 ((k : Nat) : Int))))], hp := [], pin := [] }) (fun k => k ≤ xs.length ∧ ∀ j, j < k → xs.getD j default = ys.getD j default) (fun k => xs.length - k) ⟨0, ⟨by omega, fun j hj => by omega⟩, (Wk.of rfl rfl (And.intro rfl (And.intro rfl (And.intro (vI (by first | rfl | omega | (simp; done) | (simp; omega))) trivial))) trivial)⟩ (fun k hp0 => ?_)
  refine T_seq ?_
  refine T_seq ?_
  refine T_region hc ?_
  refine Ch.s (.d (.int .i64 ((k : Nat) : Int))) (.pure (.move _ rfl rfl)) ?_
  refine Ch.s (.d (.slice false 4 (xs.map Arc.d))) (.pure (.move _ rfl rfl)) ?_
  refine Ch.s (.d (.int .i64 ((xs.length : Nat) : Int))) (.pure (.len _ _ 125 rfl Tryz.underlying33 (.sh _ _) (by simp))) ?_
  refine Ch.s (.d (.bool (decide (((k : Nat) : Int) < ((xs.length : Nat) : Int))))) (.pure (.int _ _ _ _ _ rfl rfl rfl rfl)) ?_
  refine Ch.nil ?_
  refine T_cond (b := (decide (((k : Nat) : Int) < ((xs.length : Nat) : Int)))) rfl (fun h2 => ?_) (fun h2 => ?_)
  ·
   replace h2 := of_decide_eq_true h2
   try have hk := bulkF_mem hb _ (getD_mem (l := xs) (j := k) (d := default) (by omega))
   refine T_skip ?_
   refine T_seq ?_
   refine T_block ?_
   refine T_seq ?_
   refine T_regionD hc (by kernel_rfl) ?_
   refine ChD.s (.d (.slice false 4 (xs.map Arc.d))) [] (.pure (.move _ rfl rfl)) ?_
   refine ChD.s (.d (.int .i64 ((k : Nat) : Int))) [] (.pure (.move _ rfl rfl)) ?_
   refine ChD.s (.d (.ref (.agg [(.int .i64 ((xs.getD k default).src)), (.int .i64 ((xs.getD k default).sig)), (.bool ((xs.getD k default).up)), (.int .i64 ((xs.getD k default).dst))]))) [] (.pure (.idx _ _ _ 125 (k) rfl Tryz.underlying33 sz125 rfl rfl rfl get_mapA)) ?_
   refine ChD.s (.d (.agg [(.int .i64 ((xs.getD k default).src)), (.int .i64 ((xs.getD k default).sig)), (.bool ((xs.getD k default).up)), (.int .i64 ((xs.getD k default).dst))])) [] (.pure (.loadRefA _ _ rfl ag125 sz125 rfl)) ?_
   refine ChD.s (.d (.slice false 4 (ys.map Arc.d))) [] (.pure (.move _ rfl rfl)) ?_
   refine ChD.s (.d (.int .i64 ((k : Nat) : Int))) [] (.pure (.move _ rfl rfl)) ?_
   refine ChD.s (.d (.ref (.agg [(.int .i64 ((ys.getD k default).src)), (.int .i64 ((ys.getD k default).sig)), (.bool ((ys.getD k default).up)), (.int .i64 ((ys.getD k default).dst))]))) [] (.pure (.idx _ _ _ 125 (k) rfl Tryz.underlying33 sz125 rfl rfl rfl get_mapA)) ?_
   refine ChD.s (.d (.agg [(.int .i64 ((ys.getD k default).src)), (.int .i64 ((ys.getD k default).sig)), (.bool ((ys.getD k default).up)), (.int .i64 ((ys.getD k default).dst))])) [] (.pure (.loadRefA _ _ rfl ag125 sz125 rfl)) ?_
   refine ChD.s (.d (.bool (decide ((xs.getD k default) = (ys.getD k default))))) [] (.call 25000 145 _ _ _ en145 rfl (.inl rfl) (.cons (.d _) (.cons (.d _) .nil)) rfl rfl (sp_laws_eqArc (xs.getD k default) (ys.getD k default) (by first | assumption | omega | (rw [List.length_take]; omega) | (have := bulkF_mem hb _ (getD_mem (d := default) (by omega)); assumption) | (unfold bulkS at *; omega) | (simp_all; done))) (.skip _ _ (.skip _ _ .nil)) rfl) ?_
   refine ChD.s (.d (.bool (!(decide ((xs.getD k default) = (ys.getD k default)))))) [] (.pure (.not _ _ rfl rfl)) ?_
   refine ChD.nil (And.intro ?_ (by kernel_rfl))
   refine T_cond (b := (!(decide ((xs.getD k default) = (ys.getD k default))))) rfl (fun h3 => ?_) (fun h3 => ?_)
   ·
    replace h3 := nott h3
    replace h3 := of_decide_eq_false h3
    refine T_seq ?_
    refine T_region hc ?_
    refine Ch.s (.d (.bool false)) (.pure (.assign _ rfl rfl)) ?_
    refine Ch.nil ?_
    refine T_ret ?_
    refine And.intro (.inr rfl) ?_
    exact Exists.intro [(.d (.bool false))] (Exists.intro [] (Exists.intro [] (And.intro (.cons (.tmp 4 rfl) .nil) (And.intro (.cons (.any _) (.cons (.any _) .nil)) (And.intro (Exp.of (congrArg D.bool (by exact eqL_at default k (by assumption))) (.d _)) (And.intro rfl rfl))))))
   ·
    replace h3 := notf h3
    replace h3 := of_decide_eq_true h3
    refine T_skip ?_
    refine T_region hc ?_
    refine Ch.s (.d (.int .i64 ((k : Nat) : Int))) (.pure (.move _ rfl rfl)) ?_
    refine Ch.s (.d (.int .i64 (((k : Nat) : Int) + 1))) (.pure (.int _ _ _ _ _ rfl rfl rfl intV_addA)) ?_
    refine Ch.s (.d (.int .i64 (((k : Nat) : Int) + 1))) (.pure (.assign _ rfl rfl)) ?_
    refine Ch.nil ?_
    refine Exists.intro (k + 1) (And.intro ⟨by omega, upto_succ hp0.2 (by assumption)⟩ (And.intro (by first | omega | (dsimp only; omega)) (Wk.of rfl rfl (And.intro rfl (And.intro rfl (And.intro (vI (by first | rfl | omega | (simp; done) | (simp; omega))) trivial))) trivial)))
  ·
   replace h2 := of_decide_eq_false h2
   try have hk := bulkF_mem hb _ (getD_mem (l := xs) (j := k) (d := default) (by omega))
   refine T_exit ?_
   refine T_seq ?_
   refine T_region hc ?_
   refine Ch.s (.d (.bool true)) (.pure (.assign _ rfl rfl)) ?_
   refine Ch.nil ?_
   refine T_ret ?_
   refine And.intro (.inr rfl) ?_
   exact Exists.intro [(.d (.bool true))] (Exists.intro [] (Exists.intro [] (And.intro (.cons (.tmp 4 rfl) .nil) (And.intro (.cons (.any _) (.cons (.any _) .nil)) (And.intro (Exp.of (congrArg D.bool (by exact eqL_all default (by omega) (fun j hj => hp0.2 j (by omega)))) (.d _)) (And.intro rfl rfl))))))

theorem sp_laws_szStateGraph (x : Sgr) (left : Int) (h0 : 0 ≤ left) (h0u : left ≤ 1048576) (hw : x.wide) : Sp Tryz.prog 16 [(.agg [(.slice false 2 (x.sigs.map Sgn.d)), (.slice false 1 (x.codes.map D.str)), (.slice false 4 (x.arcs.map Arc.d))]), (.int .i64 left)] [.any, .any] (.int .i64 (szR x.bulk left)) := by
 refine Sp_intro (lend := true) Tryz.func16 rfl rfl rfl (fun _ => rfl) (fun c hc hX => ?_)
 have e0 := szR_cases (bulkF Sgn.bulk x.sigs) left
 have e1 := szS_cases x.codes (szR (bulkF Sgn.bulk x.sigs) left)
 have e2 := szR_cases (bulkF Arc.bulk x.arcs) (szS x.codes (szR (bulkF Sgn.bulk x.sigs) left))
 have ef := szR_cases (bulkF Sgn.bulk x.sigs + bulkS x.codes + bulkF Arc.bulk x.arcs) left
 unfold Sgr.wide at hw
 refine T_seq ?_
 refine T_region hc ?_
 refine Ch.s (.ptr 2000 0) (.box 2000 _ _ rfl (.aggD _)) ?_
 refine Ch.s (.d (.int .i64 0)) (.pure (.assign _ rfl rfl)) ?_
 refine Ch.nil ?_
 refine T_seq ?_
 refine T_region hc ?_
 refine Ch.s (.ptr 2000 0) (.pure (.fldPtr _ _ _ rfl fld26_0 rfl)) ?_
 refine Ch.s (.d (.slice false 2 (x.sigs.map Sgn.d))) (.pure (.loadPtr1 _ _ rfl ag22 rfl rfl rfl)) ?_
 refine Ch.s (.d (.int .i64 left)) (.pure (.move _ rfl rfl)) ?_
 refine Ch.s (.d (.int .i64 (szR (bulkF Sgn.bulk x.sigs) left))) (.call 8000 66 _ _ _ en66 rfl (.inl rfl) (.cons (.d _) (.cons (.d _) .nil)) rfl rfl (sp_laws_szSignalS x.sigs left (by first | omega | assumption | (exact hx _ (getD_mem (by omega))) | (exact hx _ (by assumption)) | (exact Nat.le_trans (hx _ (by assumption)) (by omega)) | (simp only [List.length_append, List.length_take, List.length_drop, List.length_cons, List.length_nil]; omega) | (simp_all; done)) (by first | omega | assumption | (exact hx _ (getD_mem (by omega))) | (exact hx _ (by assumption)) | (exact Nat.le_trans (hx _ (by assumption)) (by omega)) | (simp only [List.length_append, List.length_take, List.length_drop, List.length_cons, List.length_nil]; omega) | (simp_all; done)) (by first | assumption | omega | trivial | (simp_all; done) | (exact fun _ _ => trivial) | (exact hx _ (by assumption)) | (refine ⟨?_, ?_⟩ <;> first | assumption | omega)) (by first | assumption | omega | trivial | (simp_all; done) | (exact fun _ _ => trivial) | (exact hx _ (by assumption)) | (refine ⟨?_, ?_⟩ <;> first | assumption | omega))) (.skip _ _ (.skip _ _ .nil)) rfl) ?_
 refine Ch.s (.d (.int .i64 (szR (bulkF Sgn.bulk x.sigs) left))) (.pure (.assign _ rfl rfl)) ?_
 refine Ch.nil ?_
 refine T_seq ?_
 refine T_seq ?_
 refine T_region hc ?_
 refine Ch.s (.d (.int .i64 (szR (bulkF Sgn.bulk x.sigs) left))) (.pure (.move _ rfl rfl)) ?_
 refine Ch.s (.d (.bool (decide ((szR (bulkF Sgn.bulk x.sigs) left) < 0)))) (.pure (.int _ _ _ _ _ rfl rfl rfl rfl)) ?_
 refine Ch.nil ?_
 refine T_cond (b := (decide ((szR (bulkF Sgn.bulk x.sigs) left) < 0))) rfl (fun h1 => ?_) (fun h1 => ?_)
 ·
  replace h1 := of_decide_eq_true h1
  refine T_seq ?_
  refine T_region hc ?_
  refine Ch.s (.d (.int .i64 (-1))) (.pure (.assign _ rfl rfl)) ?_
  refine Ch.nil ?_
  refine T_ret ?_
  refine And.intro (.inr rfl) ?_
  exact Exists.intro [(.d (.int .i64 (-1)))] (Exists.intro [] (Exists.intro [] (And.intro (.cons (.tmp 4 rfl) .nil) (And.intro (.cons (.any _) (.cons (.any _) .nil)) (And.intro (Exp.of (congrArg (D.int .i64) (by show _ = szR (bulkF Sgn.bulk x.sigs + bulkS x.codes + bulkF Arc.bulk x.arcs) left; omega)) (.d _)) (And.intro rfl rfl))))))
 ·
  replace h1 := of_decide_eq_false h1
  refine T_skip ?_
  refine T_seq ?_
  refine T_region hc ?_
  refine Ch.s (.ptr 2000 1) (.pure (.fldPtr _ _ _ rfl fld26_1 rfl)) ?_
  refine Ch.s (.d (.slice false 1 (x.codes.map D.str))) (.pure (.loadPtr1 _ _ rfl ag23 rfl rfl rfl)) ?_
  refine Ch.s (.d (.int .i64 (szR (bulkF Sgn.bulk x.sigs) left))) (.pure (.move _ rfl rfl)) ?_
  refine Ch.s (.d (.int .i64 (szS x.codes (szR (bulkF Sgn.bulk x.sigs) left)))) (.call 14000 67 _ _ _ en67 rfl (.inl rfl) (.cons (.d _) (.cons (.d _) .nil)) rfl rfl (sp_laws_szStringS x.codes (szR (bulkF Sgn.bulk x.sigs) left) (by first | omega | assumption | (exact hx _ (getD_mem (by omega))) | (exact hx _ (by assumption)) | (exact Nat.le_trans (hx _ (by assumption)) (by omega)) | (simp only [List.length_append, List.length_take, List.length_drop, List.length_cons, List.length_nil]; omega) | (simp_all; done)) (by first | omega | assumption | (exact hx _ (getD_mem (by omega))) | (exact hx _ (by assumption)) | (exact Nat.le_trans (hx _ (by assumption)) (by omega)) | (simp only [List.length_append, List.length_take, List.length_drop, List.length_cons, List.length_nil]; omega) | (simp_all; done)) (by first | omega | assumption | (exact hx _ (getD_mem (by omega))) | (exact hx _ (by assumption)) | (exact Nat.le_trans (hx _ (by assumption)) (by omega)) | (simp only [List.length_append, List.length_take, List.length_drop, List.length_cons, List.length_nil]; omega) | (simp_all; done)) (by first | omega | assumption | (exact hx _ (getD_mem (by omega))) | (exact hx _ (by assumption)) | (exact Nat.le_trans (hx _ (by assumption)) (by omega)) | (simp only [List.length_append, List.length_take, List.length_drop, List.length_cons, List.length_nil]; omega) | (simp_all; done))) (.skip _ _ (.skip _ _ .nil)) rfl) ?_
  refine Ch.s (.d (.int .i64 (szS x.codes (szR (bulkF Sgn.bulk x.sigs) left)))) (.pure (.assign _ rfl rfl)) ?_
  refine Ch.nil ?_
  refine T_seq ?_
  refine T_seq ?_
  refine T_region hc ?_
  refine Ch.s (.d (.int .i64 (szS x.codes (szR (bulkF Sgn.bulk x.sigs) left)))) (.pure (.move _ rfl rfl)) ?_
  refine Ch.s (.d (.bool (decide ((szS x.codes (szR (bulkF Sgn.bulk x.sigs) left)) < 0)))) (.pure (.int _ _ _ _ _ rfl rfl rfl rfl)) ?_
  refine Ch.nil ?_
  refine T_cond (b := (decide ((szS x.codes (szR (bulkF Sgn.bulk x.sigs) left)) < 0))) rfl (fun h2 => ?_) (fun h2 => ?_)
  ·
   replace h2 := of_decide_eq_true h2
   refine T_seq ?_
   refine T_region hc ?_
   refine Ch.s (.d (.int .i64 (-1))) (.pure (.assign _ rfl rfl)) ?_
   refine Ch.nil ?_
   refine T_ret ?_
   refine And.intro (.inr rfl) ?_
   exact Exists.intro [(.d (.int .i64 (-1)))] (Exists.intro [] (Exists.intro [] (And.intro (.cons (.tmp 4 rfl) .nil) (And.intro (.cons (.any _) (.cons (.any _) .nil)) (And.intro (Exp.of (congrArg (D.int .i64) (by show _ = szR (bulkF Sgn.bulk x.sigs + bulkS x.codes + bulkF Arc.bulk x.arcs) left; omega)) (.d _)) (And.intro rfl rfl))))))
  ·
   replace h2 := of_decide_eq_false h2
   refine T_skip ?_
   refine T_seq ?_
   refine T_region hc ?_
   refine Ch.s (.ptr 2000 2) (.pure (.fldPtr _ _ _ rfl fld26_2 rfl)) ?_
   refine Ch.s (.d (.slice false 4 (x.arcs.map Arc.d))) (.pure (.loadPtr1 _ _ rfl ag24 rfl rfl rfl)) ?_
   refine Ch.s (.d (.int .i64 (szS x.codes (szR (bulkF Sgn.bulk x.sigs) left)))) (.pure (.move _ rfl rfl)) ?_
   refine Ch.s (.d (.int .i64 (szR (bulkF Arc.bulk x.arcs) (szS x.codes (szR (bulkF Sgn.bulk x.sigs) left))))) (.call 20000 68 _ _ _ en68 rfl (.inl rfl) (.cons (.d _) (.cons (.d _) .nil)) rfl rfl (sp_laws_szArcS x.arcs (szS x.codes (szR (bulkF Sgn.bulk x.sigs) left)) (by first | omega | assumption | (exact hx _ (getD_mem (by omega))) | (exact hx _ (by assumption)) | (exact Nat.le_trans (hx _ (by assumption)) (by omega)) | (simp only [List.length_append, List.length_take, List.length_drop, List.length_cons, List.length_nil]; omega) | (simp_all; done)) (by first | omega | assumption | (exact hx _ (getD_mem (by omega))) | (exact hx _ (by assumption)) | (exact Nat.le_trans (hx _ (by assumption)) (by omega)) | (simp only [List.length_append, List.length_take, List.length_drop, List.length_cons, List.length_nil]; omega) | (simp_all; done)) (by first | assumption | omega | trivial | (simp_all; done) | (exact fun _ _ => trivial) | (exact hx _ (by assumption)) | (refine ⟨?_, ?_⟩ <;> first | assumption | omega)) (by first | assumption | omega | trivial | (simp_all; done) | (exact fun _ _ => trivial) | (exact hx _ (by assumption)) | (refine ⟨?_, ?_⟩ <;> first | assumption | omega))) (.skip _ _ (.skip _ _ .nil)) rfl) ?_
   refine Ch.s (.d (.int .i64 (szR (bulkF Arc.bulk x.arcs) (szS x.codes (szR (bulkF Sgn.bulk x.sigs) left))))) (.pure (.assign _ rfl rfl)) ?_
   refine Ch.nil ?_
   refine T_seq ?_
   refine T_seq ?_
   refine T_region hc ?_
   refine Ch.s (.d (.int .i64 (szR (bulkF Arc.bulk x.arcs) (szS x.codes (szR (bulkF Sgn.bulk x.sigs) left))))) (.pure (.move _ rfl rfl)) ?_
   refine Ch.s (.d (.bool (decide ((szR (bulkF Arc.bulk x.arcs) (szS x.codes (szR (bulkF Sgn.bulk x.sigs) left))) < 0)))) (.pure (.int _ _ _ _ _ rfl rfl rfl rfl)) ?_
   refine Ch.nil ?_
   refine T_cond (b := (decide ((szR (bulkF Arc.bulk x.arcs) (szS x.codes (szR (bulkF Sgn.bulk x.sigs) left))) < 0))) rfl (fun h3 => ?_) (fun h3 => ?_)
   ·
    replace h3 := of_decide_eq_true h3
    refine T_seq ?_
    refine T_region hc ?_
    refine Ch.s (.d (.int .i64 (-1))) (.pure (.assign _ rfl rfl)) ?_
    refine Ch.nil ?_
    refine T_ret ?_
    refine And.intro (.inr rfl) ?_
    exact Exists.intro [(.d (.int .i64 (-1)))] (Exists.intro [] (Exists.intro [] (And.intro (.cons (.tmp 4 rfl) .nil) (And.intro (.cons (.any _) (.cons (.any _) .nil)) (And.intro (Exp.of (congrArg (D.int .i64) (by show _ = szR (bulkF Sgn.bulk x.sigs + bulkS x.codes + bulkF Arc.bulk x.arcs) left; omega)) (.d _)) (And.intro rfl rfl))))))
   ·
    replace h3 := of_decide_eq_false h3
    refine T_skip ?_
    refine T_seq ?_
    refine T_region hc ?_
    refine Ch.s (.d (.int .i64 (szR (bulkF Arc.bulk x.arcs) (szS x.codes (szR (bulkF Sgn.bulk x.sigs) left))))) (.pure (.move _ rfl rfl)) ?_
    refine Ch.s (.d (.int .i64 (szR (bulkF Arc.bulk x.arcs) (szS x.codes (szR (bulkF Sgn.bulk x.sigs) left))))) (.pure (.assign _ rfl rfl)) ?_
    refine Ch.nil ?_
    refine T_ret ?_
    refine And.intro (.inr rfl) ?_
    exact Exists.intro [(.d (.int .i64 (szR (bulkF Arc.bulk x.arcs) (szS x.codes (szR (bulkF Sgn.bulk x.sigs) left)))))] (Exists.intro [] (Exists.intro [] (And.intro (.cons (.tmp 4 rfl) .nil) (And.intro (.cons (.any _) (.cons (.any _) .nil)) (And.intro (Exp.of (congrArg (D.int .i64) (by show _ = szR (bulkF Sgn.bulk x.sigs + bulkS x.codes + bulkF Arc.bulk x.arcs) left; omega)) (.d _)) (And.intro rfl rfl))))))

theorem sp_laws_toStateGraph (x : Sgr) (hb : x.bulk ≤ 1048576) : Sp Tryz.prog 18 [(.agg [(.slice false 2 (x.sigs.map Sgn.d)), (.slice false 1 (x.codes.map D.str)), (.slice false 4 (x.arcs.map Arc.d))])] [.any] (.agg [(.slice true 2 (x.sigs.map Sgn.d)), (.slice true 1 (x.codes.map D.str)), (.slice true 4 (x.arcs.map Arc.d))]) := by
 refine Sp_intro (lend := true) Tryz.func18 rfl rfl rfl (fun _ => rfl) (fun c hc hX => ?_)
 obtain ⟨hp0, hp1, hp2⟩ := Sgr.parts hb
 have hn0 := bulkF_len hp0
 have hn1 := bulk_len hp1
 have hx1 := bulk_mem hp1
 have hn2 := bulkF_len hp2
 refine T_seq ?_
 refine T_region hc ?_
 refine Ch.s (.ptr 1000 0) (.box 1000 _ _ rfl (.aggD _)) ?_
 refine Ch.s (.ptr 2000 0) (.alloc 2000 _ rfl zer35) ?_
 refine Ch.nil ?_
 refine T_seq ?_
 refine T_region hc ?_
 refine Ch.s (.ptr 3000 0) (.alloc 3000 _ rfl zer35) ?_
 refine Ch.nil ?_
 refine T_seq ?_
 refine T_region hc ?_
 refine Ch.s (.ptr 1000 0) (.pure (.fldPtr _ _ _ rfl fld26_0 rfl)) ?_
 refine Ch.s (.d (.slice false 2 (x.sigs.map Sgn.d))) (.pure (.loadPtr1 _ _ rfl ag22 rfl rfl rfl)) ?_
 refine Ch.step (v := (.row 6000)) rfl (.call 6000 70 _ _ _ en70 rfl (.inl rfl) (.cons (.d _) .nil) rfl (sol (solid_row (fun _ => rfl) _) rfl) (sp_laws_toSignalS x.sigs (by first | assumption | omega | (rw [List.length_take]; omega) | (have := bulkF_mem hb _ (getD_mem (d := default) (by omega)); assumption) | (unfold bulkS at *; omega) | (simp_all; done))) (.skip _ _ .nil) rfl) rfl rfl ?_
 refine Ch.s (.ptr 3000 0) (.pure (.fldPtr _ _ _ rfl fld35_0 rfl)) ?_
 refine Ch.s .junk (.storePtr _ _ _ rfl rfl rfl (.one _ rfl) sz32 (Nat.le_of_ble_eq_true rfl)) ?_
 refine Ch.nil ?_
 refine T_seq ?_
 refine T_region hc ?_
 refine Ch.s (.ptr 1000 1) (.pure (.fldPtr _ _ _ rfl fld26_1 rfl)) ?_
 refine Ch.s (.d (.slice false 1 (x.codes.map D.str))) (.pure (.loadPtr1 _ _ rfl ag23 rfl rfl rfl)) ?_
 refine Ch.step (v := (.row 10000)) rfl (.call 10000 71 _ _ _ en71 rfl (.inl rfl) (.cons (.d _) .nil) rfl (sol (solid_row (fun _ => rfl) _) rfl) (sp_laws_toStringS x.codes (by first | omega | assumption | (exact hx _ (getD_mem (by omega))) | (exact hx _ (by assumption)) | (exact Nat.le_trans (hx _ (by assumption)) (by omega)) | (simp only [List.length_append, List.length_take, List.length_drop, List.length_cons, List.length_nil]; omega) | (simp_all; done))) (.skip _ _ .nil) rfl) rfl rfl ?_
 refine Ch.s (.ptr 3000 1) (.pure (.fldPtr _ _ _ rfl fld35_1 rfl)) ?_
 refine Ch.s .junk (.storePtr _ _ _ rfl rfl rfl (.one _ rfl) sz23 (Nat.le_of_ble_eq_true rfl)) ?_
 refine Ch.nil ?_
 refine T_seq ?_
 refine T_region hc ?_
 refine Ch.s (.ptr 1000 2) (.pure (.fldPtr _ _ _ rfl fld26_2 rfl)) ?_
 refine Ch.s (.d (.slice false 4 (x.arcs.map Arc.d))) (.pure (.loadPtr1 _ _ rfl ag24 rfl rfl rfl)) ?_
 refine Ch.step (v := (.row 14000)) rfl (.call 14000 72 _ _ _ en72 rfl (.inl rfl) (.cons (.d _) .nil) rfl (sol (solid_row (fun _ => rfl) _) rfl) (sp_laws_toArcS x.arcs (by first | assumption | omega | (rw [List.length_take]; omega) | (have := bulkF_mem hb _ (getD_mem (d := default) (by omega)); assumption) | (unfold bulkS at *; omega) | (simp_all; done))) (.skip _ _ .nil) rfl) rfl rfl ?_
 refine Ch.s (.ptr 3000 2) (.pure (.fldPtr _ _ _ rfl fld35_2 rfl)) ?_
 refine Ch.s .junk (.storePtr _ _ _ rfl rfl rfl (.one _ rfl) sz33 (Nat.le_of_ble_eq_true rfl)) ?_
 refine Ch.nil ?_
 refine T_seq ?_
 refine T_region hc ?_
 refine Ch.s (.agg [(.row 6000), (.row 10000), (.row 14000)]) (.pure (.loadPtrA _ _ rfl ag35 sz35 rfl rfl (Nat.le_of_ble_eq_true rfl) rfl)) ?_
 refine Ch.s .junk (.storePtr _ _ _ rfl rfl rfl (.agg _ rfl) sz35 (Nat.le_of_ble_eq_true rfl)) ?_
 refine Ch.nil ?_
 refine T_ret ?_
 refine And.intro (.inr rfl) ?_
 exact Exists.intro [(.agg [(.row 6000), (.row 10000), (.row 14000)])] (Exists.intro [] (Exists.intro [6000, 10000, 14000] (And.intro (.cons (.cellA _ _ rfl rfl ag35 sz35) .nil) (And.intro (.cons (.any _) .nil) (And.intro (.agg (.cons (.row rfl) (.cons (.row rfl) (.cons (.row rfl) .nil))) rfl) (And.intro rfl rfl))))))

theorem sp_laws_eqStateGraph (x y : Sgr) (hb : x.bulk ≤ 1048576) : Sp Tryz.prog 21 [(.agg [(.slice false 2 (x.sigs.map Sgn.d)), (.slice false 1 (x.codes.map D.str)), (.slice false 4 (x.arcs.map Arc.d))]), (.agg [(.slice false 2 (y.sigs.map Sgn.d)), (.slice false 1 (y.codes.map D.str)), (.slice false 4 (y.arcs.map Arc.d))])] [.any, .any] (.bool (decide (x = y))) := by
 refine Sp_intro (lend := true) Tryz.func21 rfl rfl rfl (fun _ => rfl) (fun c hc hX => ?_)
 obtain ⟨hp0, hp1, hp2⟩ := Sgr.parts hb
 have hn0 := bulkF_len hp0
 have hn1 := bulk_len hp1
 have hx1 := bulk_mem hp1
 have hn2 := bulkF_len hp2
 refine T_seq ?_
 refine T_region hc ?_
 refine Ch.s (.ptr 2000 0) (.box 2000 _ _ rfl (.aggD _)) ?_
 refine Ch.s (.ptr 3000 0) (.box 3000 _ _ rfl (.aggD _)) ?_
 refine Ch.s (.d (.bool false)) (.pure (.assign _ rfl rfl)) ?_
 refine Ch.nil ?_
 refine T_seq ?_
 refine T_seq ?_
 refine T_region hc ?_
 refine Ch.s (.ptr 2000 0) (.pure (.fldPtr _ _ _ rfl fld35_0 rfl)) ?_
 refine Ch.s (.d (.slice false 2 (x.sigs.map Sgn.d))) (.pure (.loadPtr1 _ _ rfl ag32 rfl rfl rfl)) ?_
 refine Ch.s (.ptr 3000 0) (.pure (.fldPtr _ _ _ rfl fld35_0 rfl)) ?_
 refine Ch.s (.d (.slice false 2 (y.sigs.map Sgn.d))) (.pure (.loadPtr1 _ _ rfl ag32 rfl rfl rfl)) ?_
 refine Ch.s (.d (.bool (decide (x.sigs = y.sigs)))) (.call 9000 74 _ _ _ en74 rfl (.inl rfl) (.cons (.d _) (.cons (.d _) .nil)) rfl rfl (sp_laws_eqSignalS x.sigs y.sigs (by first | assumption | omega | (rw [List.length_take]; omega) | (have := bulkF_mem hb _ (getD_mem (d := default) (by omega)); assumption) | (unfold bulkS at *; omega) | (simp_all; done))) (.skip _ _ (.skip _ _ .nil)) rfl) ?_
 refine Ch.s (.d (.bool (!(decide (x.sigs = y.sigs))))) (.pure (.not _ _ rfl rfl)) ?_
 refine Ch.nil ?_
 refine T_cond (b := (!(decide (x.sigs = y.sigs)))) rfl (fun h1 => ?_) (fun h1 => ?_)
 ·
  replace h1 := nott h1
  replace h1 := of_decide_eq_false h1
  refine T_seq ?_
  refine T_region hc ?_
  refine Ch.s (.d (.bool false)) (.pure (.assign _ rfl rfl)) ?_
  refine Ch.nil ?_
  refine T_ret ?_
  refine And.intro (.inr rfl) ?_
  exact Exists.intro [(.d (.bool false))] (Exists.intro [] (Exists.intro [] (And.intro (.cons (.tmp 4 rfl) .nil) (And.intro (.cons (.any _) (.cons (.any _) .nil)) (And.intro (Exp.of (congrArg D.bool (by cases x; cases y; simp_all)) (.d _)) (And.intro rfl rfl))))))
 ·
  replace h1 := notf h1
  replace h1 := of_decide_eq_true h1
  refine T_skip ?_
  refine T_seq ?_
  refine T_seq ?_
  refine T_region hc ?_
  refine Ch.s (.ptr 2000 1) (.pure (.fldPtr _ _ _ rfl fld35_1 rfl)) ?_
  refine Ch.s (.d (.slice false 1 (x.codes.map D.str))) (.pure (.loadPtr1 _ _ rfl ag23 rfl rfl rfl)) ?_
  refine Ch.s (.ptr 3000 1) (.pure (.fldPtr _ _ _ rfl fld35_1 rfl)) ?_
  refine Ch.s (.d (.slice false 1 (y.codes.map D.str))) (.pure (.loadPtr1 _ _ rfl ag23 rfl rfl rfl)) ?_
  refine Ch.s (.d (.bool (decide (x.codes = y.codes)))) (.call 15000 29 _ _ _ en29 rfl (.inl rfl) (.cons (.d _) (.cons (.d _) .nil)) rfl rfl (sp_laws_eqStringS x.codes y.codes (by first | omega | assumption | (exact hx _ (getD_mem (by omega))) | (exact hx _ (by assumption)) | (exact Nat.le_trans (hx _ (by assumption)) (by omega)) | (simp only [List.length_append, List.length_take, List.length_drop, List.length_cons, List.length_nil]; omega) | (simp_all; done))) (.skip _ _ (.skip _ _ .nil)) rfl) ?_
  refine Ch.s (.d (.bool (!(decide (x.codes = y.codes))))) (.pure (.not _ _ rfl rfl)) ?_
  refine Ch.nil ?_
  refine T_cond (b := (!(decide (x.codes = y.codes)))) rfl (fun h2 => ?_) (fun h2 => ?_)
  ·
   replace h2 := nott h2
   replace h2 := of_decide_eq_false h2
   refine T_seq ?_
   refine T_region hc ?_
   refine Ch.s (.d (.bool false)) (.pure (.assign _ rfl rfl)) ?_
   refine Ch.nil ?_
   refine T_ret ?_
   refine And.intro (.inr rfl) ?_
   exact Exists.intro [(.d (.bool false))] (Exists.intro [] (Exists.intro [] (And.intro (.cons (.tmp 4 rfl) .nil) (And.intro (.cons (.any _) (.cons (.any _) .nil)) (And.intro (Exp.of (congrArg D.bool (by cases x; cases y; simp_all)) (.d _)) (And.intro rfl rfl))))))
  ·
   replace h2 := notf h2
   replace h2 := of_decide_eq_true h2
   refine T_skip ?_
   refine T_seq ?_
   refine T_seq ?_
   refine T_region hc ?_
   refine Ch.s (.ptr 2000 2) (.pure (.fldPtr _ _ _ rfl fld35_2 rfl)) ?_
   refine Ch.s (.d (.slice false 4 (x.arcs.map Arc.d))) (.pure (.loadPtr1 _ _ rfl ag33 rfl rfl rfl)) ?_
   refine Ch.s (.ptr 3000 2) (.pure (.fldPtr _ _ _ rfl fld35_2 rfl)) ?_
   refine Ch.s (.d (.slice false 4 (y.arcs.map Arc.d))) (.pure (.loadPtr1 _ _ rfl ag33 rfl rfl rfl)) ?_
   refine Ch.s (.d (.bool (decide (x.arcs = y.arcs)))) (.call 21000 75 _ _ _ en75 rfl (.inl rfl) (.cons (.d _) (.cons (.d _) .nil)) rfl rfl (sp_laws_eqArcS x.arcs y.arcs (by first | assumption | omega | (rw [List.length_take]; omega) | (have := bulkF_mem hb _ (getD_mem (d := default) (by omega)); assumption) | (unfold bulkS at *; omega) | (simp_all; done))) (.skip _ _ (.skip _ _ .nil)) rfl) ?_
   refine Ch.s (.d (.bool (!(decide (x.arcs = y.arcs))))) (.pure (.not _ _ rfl rfl)) ?_
   refine Ch.nil ?_
   refine T_cond (b := (!(decide (x.arcs = y.arcs)))) rfl (fun h3 => ?_) (fun h3 => ?_)
   ·
    replace h3 := nott h3
    replace h3 := of_decide_eq_false h3
    refine T_seq ?_
    refine T_region hc ?_
    refine Ch.s (.d (.bool false)) (.pure (.assign _ rfl rfl)) ?_
    refine Ch.nil ?_
    refine T_ret ?_
    refine And.intro (.inr rfl) ?_
    exact Exists.intro [(.d (.bool false))] (Exists.intro [] (Exists.intro [] (And.intro (.cons (.tmp 4 rfl) .nil) (And.intro (.cons (.any _) (.cons (.any _) .nil)) (And.intro (Exp.of (congrArg D.bool (by cases x; cases y; simp_all)) (.d _)) (And.intro rfl rfl))))))
   ·
    replace h3 := notf h3
    replace h3 := of_decide_eq_true h3
    refine T_skip ?_
    refine T_seq ?_
    refine T_region hc ?_
    refine Ch.s (.d (.bool true)) (.pure (.assign _ rfl rfl)) ?_
    refine Ch.nil ?_
    refine T_ret ?_
    refine And.intro (.inr rfl) ?_
    exact Exists.intro [(.d (.bool true))] (Exists.intro [] (Exists.intro [] (And.intro (.cons (.tmp 4 rfl) .nil) (And.intro (.cons (.any _) (.cons (.any _) .nil)) (And.intro (Exp.of (congrArg D.bool (by cases x; cases y; simp_all)) (.d _)) (And.intro rfl rfl))))))

theorem en263 : Enters Tryz.prog 263 := ⟨_, Tryz.func263, by kernel_rfl, rfl⟩

theorem en251 : Enters Tryz.prog 251 := ⟨_, Tryz.func251, by kernel_rfl, rfl⟩

theorem en234 : Enters Tryz.prog 234 := ⟨_, Tryz.func234, by kernel_rfl, rfl⟩

theorem en236 : Enters Tryz.prog 236 := ⟨_, Tryz.func236, by kernel_rfl, rfl⟩

theorem en235 : Enters Tryz.prog 235 := ⟨_, Tryz.func235, by kernel_rfl, rfl⟩

theorem en218 : Enters Tryz.prog 218 := ⟨_, Tryz.func218, by kernel_rfl, rfl⟩

def letB (x : UInt8) : Bool := decide ((97 : UInt8) ≤ x) && decide (x ≤ 122)

def digB (x : UInt8) : Bool := decide ((48 : UInt8) ≤ x) && decide (x ≤ 57)

def nameCh (x : UInt8) (j : Nat) : Bool := letB x || (digB x && !decide ((j : Int) = 0))

def nameB (u : List UInt8) : Bool := allB u.length (fun j => nameCh (u.getD j 0) j) && withinB u.length 1 6

def sigOk (xs : List Sgn) (j : Nat) : Bool := nameB (xs.getD j default).name && (withinB (xs.getD j default).kind 1 3 && !(xs.take j).any fun y => decide (y.name = (xs.getD j default).name))

def sigsB (xs : List Sgn) : Bool := allB xs.length (sigOk xs) && withinB xs.length 1 8

theorem sigsB_len {sg : List Sgn} (h : sigsB sg = true) : withinB (sg.length : Int) 1 8 = true := by
  unfold sigsB at h
  simp only [Bool.and_eq_true] at h
  exact h.2

theorem digB_n (x : UInt8) : digB x = (!decide (x < 48) && !decide (57 < x)) := by
  unfold digB; rw [← decide_not, ← decide_not]; simp only [UInt8.not_lt]

theorem sp_impl_isName (u : List UInt8) (hu : u.length ≤ 1048576) : Sp Tryz.prog 234 [(.str u)] [.any] (.bool (nameB u)) := by
 refine Sp_intro (lend := true) Tryz.func234 rfl rfl rfl (fun _ => rfl) (fun c hc hX => ?_)
 refine T_seq ?_
 refine T_region hc ?_
 refine Ch.s (.d (.bool false)) (.pure (.assign _ rfl rfl)) ?_
 refine Ch.nil ?_
 refine T_seq ?_
 refine T_seq ?_
 refine T_region hc ?_
 refine Ch.s (.d (.int .i64 0)) (.pure (.assign _ rfl rfl)) ?_
 refine Ch.nil ?_
 refine T_block ?_
 refine T_loop (ι := Nat) (fun k => { n := 45, sl := [(0, (.d (.str u))), (3, (.d (.int .i64 ((k : Nat) : Int))))], hp := [], pin := [] }) (fun k => k ≤ u.length ∧ ∀ j, j < k → nameCh (u.getD j 0) j = true) (fun k => u.length - k) ⟨0, ⟨by omega, fun j hj => by omega⟩, (Wk.of rfl rfl (And.intro rfl (And.intro (vI (by first | rfl | omega | (simp; done) | (simp; omega))) trivial)) trivial)⟩ (fun k hp0 => ?_)
 refine T_seq ?_
 refine T_seq ?_
 refine T_region hc ?_
 refine Ch.s (.d (.int .i64 ((k : Nat) : Int))) (.pure (.move _ rfl rfl)) ?_
 refine Ch.s (.d (.str u)) (.pure (.move _ rfl rfl)) ?_
 refine Ch.s (.d (.int .i64 ((u.length : Nat) : Int))) (.pure (.lenStr _ _ rfl Tryz.underlying9 rfl)) ?_
 refine Ch.s (.d (.bool (decide (((k : Nat) : Int) < ((u.length : Nat) : Int))))) (.pure (.int _ _ _ _ _ rfl rfl rfl rfl)) ?_
 refine Ch.nil ?_
 refine T_cond (b := (decide (((k : Nat) : Int) < ((u.length : Nat) : Int)))) rfl (fun h1 => ?_) (fun h1 => ?_)
 ·
  replace h1 := of_decide_eq_true h1
  refine T_skip ?_
  refine T_seq ?_
  refine T_block ?_
  refine T_seq ?_
  refine T_regionD hc (by kernel_rfl) ?_
  refine ChD.s (.d (.str u)) [] (.pure (.move _ rfl rfl)) ?_
  refine ChD.s (.d (.int .i64 ((k : Nat) : Int))) [] (.pure (.move _ rfl rfl)) ?_
  refine ChD.s (.d (.int .u8 ((u.getD k 0).toNat : Int))) [] (.pure (.idxStr _ _ _ (k) rfl Tryz.underlying9 rfl rfl rfl get_strA)) ?_
  refine ChD.s (.d (.bool (decide (97 ≤ ((u.getD k 0) : UInt8))))) [] (.pure (.int _ _ _ _ _ rfl rfl rfl (u8_geq ((u.getD k 0) : UInt8) 97 rfl rfl))) ?_
  refine ChD.s (.d (.bool (decide (97 ≤ ((u.getD k 0) : UInt8))))) [] (.pure (.move _ rfl rfl)) ?_
  cases h2 : (decide (97 ≤ ((u.getD k 0) : UInt8))) with
  | true =>
   replace h2 := of_decide_eq_true h2
   refine ChD.s (.d (.str u)) [] (.pure (.move _ rfl rfl)) ?_
   refine ChD.s (.d (.int .i64 ((k : Nat) : Int))) [] (.pure (.move _ rfl rfl)) ?_
   refine ChD.s (.d (.int .u8 ((u.getD k 0).toNat : Int))) [] (.pure (.idxStr _ _ _ (k) rfl Tryz.underlying9 rfl rfl rfl get_strA)) ?_
   refine ChD.s (.d (.bool (decide (((u.getD k 0) : UInt8) ≤ 122)))) [] (.pure (.int _ _ _ _ _ rfl rfl rfl (u8_leq ((u.getD k 0) : UInt8) 122 rfl rfl))) ?_
   refine ChD.s (.d (.bool (decide (((u.getD k 0) : UInt8) ≤ 122)))) [] (.pure (.pickT _ _ _ rfl rfl rfl)) ?_
   refine ChD.s (.d (.str u)) [] (.pure (.move _ rfl rfl)) ?_
   refine ChD.s (.d (.int .i64 ((k : Nat) : Int))) [] (.pure (.move _ rfl rfl)) ?_
   refine ChD.s (.d (.int .u8 ((u.getD k 0).toNat : Int))) [] (.pure (.idxStr _ _ _ (k) rfl Tryz.underlying9 rfl rfl rfl get_strA)) ?_
   refine ChD.s (.d (.bool (decide (48 ≤ ((u.getD k 0) : UInt8))))) [] (.pure (.int _ _ _ _ _ rfl rfl rfl (u8_geq ((u.getD k 0) : UInt8) 48 rfl rfl))) ?_
   refine ChD.s (.d (.bool (decide (48 ≤ ((u.getD k 0) : UInt8))))) [] (.pure (.move _ rfl rfl)) ?_
   cases h3 : (decide (48 ≤ ((u.getD k 0) : UInt8))) with
   | true =>
    replace h3 := of_decide_eq_true h3
    refine ChD.s (.d (.str u)) [] (.pure (.move _ rfl rfl)) ?_
    refine ChD.s (.d (.int .i64 ((k : Nat) : Int))) [] (.pure (.move _ rfl rfl)) ?_
    refine ChD.s (.d (.int .u8 ((u.getD k 0).toNat : Int))) [] (.pure (.idxStr _ _ _ (k) rfl Tryz.underlying9 rfl rfl rfl get_strA)) ?_
    refine ChD.s (.d (.bool (decide (((u.getD k 0) : UInt8) ≤ 57)))) [] (.pure (.int _ _ _ _ _ rfl rfl rfl (u8_leq ((u.getD k 0) : UInt8) 57 rfl rfl))) ?_
    refine ChD.s (.d (.bool (decide (((u.getD k 0) : UInt8) ≤ 57)))) [] (.pure (.pickT _ _ _ rfl rfl rfl)) ?_
    refine ChD.s (.d (.bool (decide (((u.getD k 0) : UInt8) ≤ 122)))) [] (.pure (.assign _ rfl rfl)) ?_
    refine ChD.s (.d (.bool (decide (((u.getD k 0) : UInt8) ≤ 57)))) [] (.pure (.assign _ rfl rfl)) ?_
    refine ChD.nil (And.intro ?_ (by kernel_rfl))
    refine T_seq ?_
    refine T_region hc ?_
    refine Ch.s (.d (.bool (decide (((u.getD k 0) : UInt8) ≤ 122)))) (.pure (.move _ rfl rfl)) ?_
    refine Ch.s (.d (.bool (!(decide (((u.getD k 0) : UInt8) ≤ 122))))) (.pure (.not _ _ rfl rfl)) ?_
    refine Ch.s (.d (.bool (!(decide (((u.getD k 0) : UInt8) ≤ 122))))) (.pure (.move _ rfl rfl)) ?_
    cases h4 : (decide (((u.getD k 0) : UInt8) ≤ 122)) with
    | true =>
     replace h4 := of_decide_eq_true h4
     refine Ch.skip rfl rfl ?_
     refine Ch.skip rfl rfl ?_
     refine Ch.skip rfl rfl ?_
     refine Ch.skip rfl rfl ?_
     refine Ch.skip rfl rfl ?_
     refine Ch.skip rfl rfl ?_
     refine Ch.s (.d (.bool false)) (.pure (.pickF _ _ _ rfl rfl rfl)) ?_
     refine Ch.nil ?_
     refine T_cond (b := false) rfl (fun h => nomatch h) (fun _ => ?_)
     refine T_skip ?_
     refine T_region hc ?_
     refine Ch.s (.d (.int .i64 ((k : Nat) : Int))) (.pure (.move _ rfl rfl)) ?_
     refine Ch.s (.d (.int .i64 (((k : Nat) : Int) + 1))) (.pure (.int _ _ _ _ _ rfl rfl rfl intV_addA)) ?_
     refine Ch.s (.d (.int .i64 (((k : Nat) : Int) + 1))) (.pure (.assign _ rfl rfl)) ?_
     refine Ch.nil ?_
     refine Exists.intro (k + 1) (And.intro ⟨by omega, upto_succ hp0.2 (by first | (rw [nameCh, letB, digB]; simp only [*, decide_true, decide_false, Bool.and_true, Bool.true_and, Bool.and_false, Bool.false_and, Bool.or_false, Bool.false_or, Bool.or_true, Bool.true_or, Bool.not_true, Bool.not_false, not_false_eq_true]; done) | (rw [nameCh, letB, digB_n]; simp only [*, decide_true, decide_false, Bool.and_true, Bool.true_and, Bool.and_false, Bool.false_and, Bool.or_false, Bool.false_or, Bool.or_true, Bool.true_or, Bool.not_true, Bool.not_false, not_false_eq_true]; done))⟩ (And.intro (by first | omega | (dsimp only; omega)) (Wk.of rfl rfl (And.intro rfl (And.intro (vI (by first | rfl | omega | (simp; done) | (simp; omega))) trivial)) trivial)))
    | false =>
     replace h4 := of_decide_eq_false h4
     refine Ch.s (.d (.bool (decide (((u.getD k 0) : UInt8) ≤ 57)))) (.pure (.move _ rfl rfl)) ?_
     refine Ch.s (.d (.bool (!(decide (((u.getD k 0) : UInt8) ≤ 57))))) (.pure (.not _ _ rfl rfl)) ?_
     refine Ch.s (.d (.bool (!(decide (((u.getD k 0) : UInt8) ≤ 57))))) (.pure (.move _ rfl rfl)) ?_
     cases h5 : (decide (((u.getD k 0) : UInt8) ≤ 57)) with
     | true =>
      replace h5 := of_decide_eq_true h5
      refine Ch.s (.d (.int .i64 ((k : Nat) : Int))) (.pure (.move _ rfl rfl)) ?_
      refine Ch.s (.d (.bool (decide (((k : Nat) : Int) = 0)))) (.pure (.int _ _ _ _ _ rfl rfl rfl rfl)) ?_
      refine Ch.s (.d (.bool (decide (((k : Nat) : Int) = 0)))) (.pure (.pickF _ _ _ rfl rfl rfl)) ?_
      refine Ch.s (.d (.bool (decide (((k : Nat) : Int) = 0)))) (.pure (.pickT _ _ _ rfl rfl rfl)) ?_
      refine Ch.nil ?_
      refine T_cond (b := (decide (((k : Nat) : Int) = 0))) rfl (fun h6 => ?_) (fun h6 => ?_)
      ·
       replace h6 := of_decide_eq_true h6
       refine T_seq ?_
       refine T_region hc ?_
       refine Ch.s (.d (.bool false)) (.pure (.assign _ rfl rfl)) ?_
       refine Ch.nil ?_
       refine T_ret ?_
       refine And.intro (.inr rfl) ?_
       exact Exists.intro [(.d (.bool false))] (Exists.intro [] (Exists.intro [] (And.intro (.cons (.tmp 2 rfl) .nil) (And.intro (.cons (.any _) .nil) (And.intro (Exp.of (congrArg D.bool (by first | (rw [nameB, allB_no k (by omega) (by first | (rw [nameCh, letB, digB]; simp only [*, decide_true, decide_false, Bool.and_true, Bool.true_and, Bool.and_false, Bool.false_and, Bool.or_false, Bool.false_or, Bool.or_true, Bool.true_or, Bool.not_true, Bool.not_false, not_false_eq_true]; done) | (rw [nameCh, letB, digB_n]; simp only [*, decide_true, decide_false, Bool.and_true, Bool.true_and, Bool.and_false, Bool.false_and, Bool.or_false, Bool.false_or, Bool.or_true, Bool.true_or, Bool.not_true, Bool.not_false, not_false_eq_true]; done))]; rfl) | (rw [nameB, allB_of (fun j hj => hp0.2 j (by omega)), Bool.true_and]; done))) (.d _)) (And.intro rfl rfl))))))
      ·
       replace h6 := of_decide_eq_false h6
       refine T_skip ?_
       refine T_region hc ?_
       refine Ch.s (.d (.int .i64 ((k : Nat) : Int))) (.pure (.move _ rfl rfl)) ?_
       refine Ch.s (.d (.int .i64 (((k : Nat) : Int) + 1))) (.pure (.int _ _ _ _ _ rfl rfl rfl intV_addA)) ?_
       refine Ch.s (.d (.int .i64 (((k : Nat) : Int) + 1))) (.pure (.assign _ rfl rfl)) ?_
       refine Ch.nil ?_
       refine Exists.intro (k + 1) (And.intro ⟨by omega, upto_succ hp0.2 (by first | (rw [nameCh, letB, digB]; simp only [*, decide_true, decide_false, Bool.and_true, Bool.true_and, Bool.and_false, Bool.false_and, Bool.or_false, Bool.false_or, Bool.or_true, Bool.true_or, Bool.not_true, Bool.not_false, not_false_eq_true]; done) | (rw [nameCh, letB, digB_n]; simp only [*, decide_true, decide_false, Bool.and_true, Bool.true_and, Bool.and_false, Bool.false_and, Bool.or_false, Bool.false_or, Bool.or_true, Bool.true_or, Bool.not_true, Bool.not_false, not_false_eq_true]; done))⟩ (And.intro (by first | omega | (dsimp only; omega)) (Wk.of rfl rfl (And.intro rfl (And.intro (vI (by first | rfl | omega | (simp; done) | (simp; omega))) trivial)) trivial)))
     | false =>
      replace h5 := of_decide_eq_false h5
      refine Ch.skip rfl rfl ?_
      refine Ch.skip rfl rfl ?_
      refine Ch.s (.d (.bool true)) (.pure (.pickT _ _ _ rfl rfl rfl)) ?_
      refine Ch.s (.d (.bool true)) (.pure (.pickT _ _ _ rfl rfl rfl)) ?_
      refine Ch.nil ?_
      refine T_cond (b := true) rfl (fun _ => ?_) (fun h => nomatch h)
      refine T_seq ?_
      refine T_region hc ?_
      refine Ch.s (.d (.bool false)) (.pure (.assign _ rfl rfl)) ?_
      refine Ch.nil ?_
      refine T_ret ?_
      refine And.intro (.inr rfl) ?_
      exact Exists.intro [(.d (.bool false))] (Exists.intro [] (Exists.intro [] (And.intro (.cons (.tmp 2 rfl) .nil) (And.intro (.cons (.any _) .nil) (And.intro (Exp.of (congrArg D.bool (by first | (rw [nameB, allB_no k (by omega) (by first | (rw [nameCh, letB, digB]; simp only [*, decide_true, decide_false, Bool.and_true, Bool.true_and, Bool.and_false, Bool.false_and, Bool.or_false, Bool.false_or, Bool.or_true, Bool.true_or, Bool.not_true, Bool.not_false, not_false_eq_true]; done) | (rw [nameCh, letB, digB_n]; simp only [*, decide_true, decide_false, Bool.and_true, Bool.true_and, Bool.and_false, Bool.false_and, Bool.or_false, Bool.false_or, Bool.or_true, Bool.true_or, Bool.not_true, Bool.not_false, not_false_eq_true]; done))]; rfl) | (rw [nameB, allB_of (fun j hj => hp0.2 j (by omega)), Bool.true_and]; done))) (.d _)) (And.intro rfl rfl))))))
   | false =>
    replace h3 := of_decide_eq_false h3
    refine ChD.skip rfl rfl ?_
    refine ChD.skip rfl rfl ?_
    refine ChD.skip rfl rfl ?_
    refine ChD.skip rfl rfl ?_
    refine ChD.s (.d (.bool false)) [] (.pure (.pickF _ _ _ rfl rfl rfl)) ?_
    refine ChD.s (.d (.bool (decide (((u.getD k 0) : UInt8) ≤ 122)))) [] (.pure (.assign _ rfl rfl)) ?_
    refine ChD.s (.d (.bool false)) [] (.pure (.assign _ rfl rfl)) ?_
    refine ChD.nil (And.intro ?_ (by kernel_rfl))
    refine T_seq ?_
    refine T_region hc ?_
    refine Ch.s (.d (.bool (decide (((u.getD k 0) : UInt8) ≤ 122)))) (.pure (.move _ rfl rfl)) ?_
    refine Ch.s (.d (.bool (!(decide (((u.getD k 0) : UInt8) ≤ 122))))) (.pure (.not _ _ rfl rfl)) ?_
    refine Ch.s (.d (.bool (!(decide (((u.getD k 0) : UInt8) ≤ 122))))) (.pure (.move _ rfl rfl)) ?_
    cases h7 : (decide (((u.getD k 0) : UInt8) ≤ 122)) with
    | true =>
     replace h7 := of_decide_eq_true h7
     refine Ch.skip rfl rfl ?_
     refine Ch.skip rfl rfl ?_
     refine Ch.skip rfl rfl ?_
     refine Ch.skip rfl rfl ?_
     refine Ch.skip rfl rfl ?_
     refine Ch.skip rfl rfl ?_
     refine Ch.s (.d (.bool false)) (.pure (.pickF _ _ _ rfl rfl rfl)) ?_
     refine Ch.nil ?_
     refine T_cond (b := false) rfl (fun h => nomatch h) (fun _ => ?_)
     refine T_skip ?_
     refine T_region hc ?_
     refine Ch.s (.d (.int .i64 ((k : Nat) : Int))) (.pure (.move _ rfl rfl)) ?_
     refine Ch.s (.d (.int .i64 (((k : Nat) : Int) + 1))) (.pure (.int _ _ _ _ _ rfl rfl rfl intV_addA)) ?_
     refine Ch.s (.d (.int .i64 (((k : Nat) : Int) + 1))) (.pure (.assign _ rfl rfl)) ?_
     refine Ch.nil ?_
     refine Exists.intro (k + 1) (And.intro ⟨by omega, upto_succ hp0.2 (by first | (rw [nameCh, letB, digB]; simp only [*, decide_true, decide_false, Bool.and_true, Bool.true_and, Bool.and_false, Bool.false_and, Bool.or_false, Bool.false_or, Bool.or_true, Bool.true_or, Bool.not_true, Bool.not_false, not_false_eq_true]; done) | (rw [nameCh, letB, digB_n]; simp only [*, decide_true, decide_false, Bool.and_true, Bool.true_and, Bool.and_false, Bool.false_and, Bool.or_false, Bool.false_or, Bool.or_true, Bool.true_or, Bool.not_true, Bool.not_false, not_false_eq_true]; done))⟩ (And.intro (by first | omega | (dsimp only; omega)) (Wk.of rfl rfl (And.intro rfl (And.intro (vI (by first | rfl | omega | (simp; done) | (simp; omega))) trivial)) trivial)))
    | false =>
     replace h7 := of_decide_eq_false h7
     refine Ch.s (.d (.bool false)) (.pure (.move _ rfl rfl)) ?_
     refine Ch.s (.d (.bool true)) (.pure (.not (b := false) _ _ rfl rfl)) ?_
     refine Ch.s (.d (.bool true)) (.pure (.move _ rfl rfl)) ?_
     refine Ch.skip rfl rfl ?_
     refine Ch.skip rfl rfl ?_
     refine Ch.s (.d (.bool true)) (.pure (.pickT _ _ _ rfl rfl rfl)) ?_
     refine Ch.s (.d (.bool true)) (.pure (.pickT _ _ _ rfl rfl rfl)) ?_
     refine Ch.nil ?_
     refine T_cond (b := true) rfl (fun _ => ?_) (fun h => nomatch h)
     refine T_seq ?_
     refine T_region hc ?_
     refine Ch.s (.d (.bool false)) (.pure (.assign _ rfl rfl)) ?_
     refine Ch.nil ?_
     refine T_ret ?_
     refine And.intro (.inr rfl) ?_
     exact Exists.intro [(.d (.bool false))] (Exists.intro [] (Exists.intro [] (And.intro (.cons (.tmp 2 rfl) .nil) (And.intro (.cons (.any _) .nil) (And.intro (Exp.of (congrArg D.bool (by first | (rw [nameB, allB_no k (by omega) (by first | (rw [nameCh, letB, digB]; simp only [*, decide_true, decide_false, Bool.and_true, Bool.true_and, Bool.and_false, Bool.false_and, Bool.or_false, Bool.false_or, Bool.or_true, Bool.true_or, Bool.not_true, Bool.not_false, not_false_eq_true]; done) | (rw [nameCh, letB, digB_n]; simp only [*, decide_true, decide_false, Bool.and_true, Bool.true_and, Bool.and_false, Bool.false_and, Bool.or_false, Bool.false_or, Bool.or_true, Bool.true_or, Bool.not_true, Bool.not_false, not_false_eq_true]; done))]; rfl) | (rw [nameB, allB_of (fun j hj => hp0.2 j (by omega)), Bool.true_and]; done))) (.d _)) (And.intro rfl rfl))))))
  | false =>
   replace h2 := of_decide_eq_false h2
   refine ChD.skip rfl rfl ?_
   refine ChD.skip rfl rfl ?_
   refine ChD.skip rfl rfl ?_
   refine ChD.skip rfl rfl ?_
   refine ChD.s (.d (.bool false)) [] (.pure (.pickF _ _ _ rfl rfl rfl)) ?_
   refine ChD.s (.d (.str u)) [] (.pure (.move _ rfl rfl)) ?_
   refine ChD.s (.d (.int .i64 ((k : Nat) : Int))) [] (.pure (.move _ rfl rfl)) ?_
   refine ChD.s (.d (.int .u8 ((u.getD k 0).toNat : Int))) [] (.pure (.idxStr _ _ _ (k) rfl Tryz.underlying9 rfl rfl rfl get_strA)) ?_
   refine ChD.s (.d (.bool (decide (48 ≤ ((u.getD k 0) : UInt8))))) [] (.pure (.int _ _ _ _ _ rfl rfl rfl (u8_geq ((u.getD k 0) : UInt8) 48 rfl rfl))) ?_
   refine ChD.s (.d (.bool (decide (48 ≤ ((u.getD k 0) : UInt8))))) [] (.pure (.move _ rfl rfl)) ?_
   cases h8 : (decide (48 ≤ ((u.getD k 0) : UInt8))) with
   | true =>
    replace h8 := of_decide_eq_true h8
    refine ChD.s (.d (.str u)) [] (.pure (.move _ rfl rfl)) ?_
    refine ChD.s (.d (.int .i64 ((k : Nat) : Int))) [] (.pure (.move _ rfl rfl)) ?_
    refine ChD.s (.d (.int .u8 ((u.getD k 0).toNat : Int))) [] (.pure (.idxStr _ _ _ (k) rfl Tryz.underlying9 rfl rfl rfl get_strA)) ?_
    refine ChD.s (.d (.bool (decide (((u.getD k 0) : UInt8) ≤ 57)))) [] (.pure (.int _ _ _ _ _ rfl rfl rfl (u8_leq ((u.getD k 0) : UInt8) 57 rfl rfl))) ?_
    refine ChD.s (.d (.bool (decide (((u.getD k 0) : UInt8) ≤ 57)))) [] (.pure (.pickT _ _ _ rfl rfl rfl)) ?_
    refine ChD.s (.d (.bool false)) [] (.pure (.assign _ rfl rfl)) ?_
    refine ChD.s (.d (.bool (decide (((u.getD k 0) : UInt8) ≤ 57)))) [] (.pure (.assign _ rfl rfl)) ?_
    refine ChD.nil (And.intro ?_ (by kernel_rfl))
    refine T_seq ?_
    refine T_region hc ?_
    refine Ch.s (.d (.bool false)) (.pure (.move _ rfl rfl)) ?_
    refine Ch.s (.d (.bool true)) (.pure (.not (b := false) _ _ rfl rfl)) ?_
    refine Ch.s (.d (.bool true)) (.pure (.move _ rfl rfl)) ?_
    refine Ch.s (.d (.bool (decide (((u.getD k 0) : UInt8) ≤ 57)))) (.pure (.move _ rfl rfl)) ?_
    refine Ch.s (.d (.bool (!(decide (((u.getD k 0) : UInt8) ≤ 57))))) (.pure (.not _ _ rfl rfl)) ?_
    refine Ch.s (.d (.bool (!(decide (((u.getD k 0) : UInt8) ≤ 57))))) (.pure (.move _ rfl rfl)) ?_
    cases h9 : (decide (((u.getD k 0) : UInt8) ≤ 57)) with
    | true =>
     replace h9 := of_decide_eq_true h9
     refine Ch.s (.d (.int .i64 ((k : Nat) : Int))) (.pure (.move _ rfl rfl)) ?_
     refine Ch.s (.d (.bool (decide (((k : Nat) : Int) = 0)))) (.pure (.int _ _ _ _ _ rfl rfl rfl rfl)) ?_
     refine Ch.s (.d (.bool (decide (((k : Nat) : Int) = 0)))) (.pure (.pickF _ _ _ rfl rfl rfl)) ?_
     refine Ch.s (.d (.bool (decide (((k : Nat) : Int) = 0)))) (.pure (.pickT _ _ _ rfl rfl rfl)) ?_
     refine Ch.nil ?_
     refine T_cond (b := (decide (((k : Nat) : Int) = 0))) rfl (fun h10 => ?_) (fun h10 => ?_)
     ·
      replace h10 := of_decide_eq_true h10
      refine T_seq ?_
      refine T_region hc ?_
      refine Ch.s (.d (.bool false)) (.pure (.assign _ rfl rfl)) ?_
      refine Ch.nil ?_
      refine T_ret ?_
      refine And.intro (.inr rfl) ?_
      exact Exists.intro [(.d (.bool false))] (Exists.intro [] (Exists.intro [] (And.intro (.cons (.tmp 2 rfl) .nil) (And.intro (.cons (.any _) .nil) (And.intro (Exp.of (congrArg D.bool (by first | (rw [nameB, allB_no k (by omega) (by first | (rw [nameCh, letB, digB]; simp only [*, decide_true, decide_false, Bool.and_true, Bool.true_and, Bool.and_false, Bool.false_and, Bool.or_false, Bool.false_or, Bool.or_true, Bool.true_or, Bool.not_true, Bool.not_false, not_false_eq_true]; done) | (rw [nameCh, letB, digB_n]; simp only [*, decide_true, decide_false, Bool.and_true, Bool.true_and, Bool.and_false, Bool.false_and, Bool.or_false, Bool.false_or, Bool.or_true, Bool.true_or, Bool.not_true, Bool.not_false, not_false_eq_true]; done))]; rfl) | (rw [nameB, allB_of (fun j hj => hp0.2 j (by omega)), Bool.true_and]; done))) (.d _)) (And.intro rfl rfl))))))
     ·
      replace h10 := of_decide_eq_false h10
      refine T_skip ?_
      refine T_region hc ?_
      refine Ch.s (.d (.int .i64 ((k : Nat) : Int))) (.pure (.move _ rfl rfl)) ?_
      refine Ch.s (.d (.int .i64 (((k : Nat) : Int) + 1))) (.pure (.int _ _ _ _ _ rfl rfl rfl intV_addA)) ?_
      refine Ch.s (.d (.int .i64 (((k : Nat) : Int) + 1))) (.pure (.assign _ rfl rfl)) ?_
      refine Ch.nil ?_
      refine Exists.intro (k + 1) (And.intro ⟨by omega, upto_succ hp0.2 (by first | (rw [nameCh, letB, digB]; simp only [*, decide_true, decide_false, Bool.and_true, Bool.true_and, Bool.and_false, Bool.false_and, Bool.or_false, Bool.false_or, Bool.or_true, Bool.true_or, Bool.not_true, Bool.not_false, not_false_eq_true]; done) | (rw [nameCh, letB, digB_n]; simp only [*, decide_true, decide_false, Bool.and_true, Bool.true_and, Bool.and_false, Bool.false_and, Bool.or_false, Bool.false_or, Bool.or_true, Bool.true_or, Bool.not_true, Bool.not_false, not_false_eq_true]; done))⟩ (And.intro (by first | omega | (dsimp only; omega)) (Wk.of rfl rfl (And.intro rfl (And.intro (vI (by first | rfl | omega | (simp; done) | (simp; omega))) trivial)) trivial)))
    | false =>
     replace h9 := of_decide_eq_false h9
     refine Ch.skip rfl rfl ?_
     refine Ch.skip rfl rfl ?_
     refine Ch.s (.d (.bool true)) (.pure (.pickT _ _ _ rfl rfl rfl)) ?_
     refine Ch.s (.d (.bool true)) (.pure (.pickT _ _ _ rfl rfl rfl)) ?_
     refine Ch.nil ?_
     refine T_cond (b := true) rfl (fun _ => ?_) (fun h => nomatch h)
     refine T_seq ?_
     refine T_region hc ?_
     refine Ch.s (.d (.bool false)) (.pure (.assign _ rfl rfl)) ?_
     refine Ch.nil ?_
     refine T_ret ?_
     refine And.intro (.inr rfl) ?_
     exact Exists.intro [(.d (.bool false))] (Exists.intro [] (Exists.intro [] (And.intro (.cons (.tmp 2 rfl) .nil) (And.intro (.cons (.any _) .nil) (And.intro (Exp.of (congrArg D.bool (by first | (rw [nameB, allB_no k (by omega) (by first | (rw [nameCh, letB, digB]; simp only [*, decide_true, decide_false, Bool.and_true, Bool.true_and, Bool.and_false, Bool.false_and, Bool.or_false, Bool.false_or, Bool.or_true, Bool.true_or, Bool.not_true, Bool.not_false, not_false_eq_true]; done) | (rw [nameCh, letB, digB_n]; simp only [*, decide_true, decide_false, Bool.and_true, Bool.true_and, Bool.and_false, Bool.false_and, Bool.or_false, Bool.false_or, Bool.or_true, Bool.true_or, Bool.not_true, Bool.not_false, not_false_eq_true]; done))]; rfl) | (rw [nameB, allB_of (fun j hj => hp0.2 j (by omega)), Bool.true_and]; done))) (.d _)) (And.intro rfl rfl))))))
   | false =>
    replace h8 := of_decide_eq_false h8
    refine ChD.skip rfl rfl ?_
    refine ChD.skip rfl rfl ?_
    refine ChD.skip rfl rfl ?_
    refine ChD.skip rfl rfl ?_
    refine ChD.s (.d (.bool false)) [] (.pure (.pickF _ _ _ rfl rfl rfl)) ?_
    refine ChD.s (.d (.bool false)) [] (.pure (.assign _ rfl rfl)) ?_
    refine ChD.s (.d (.bool false)) [] (.pure (.assign _ rfl rfl)) ?_
    refine ChD.nil (And.intro ?_ (by kernel_rfl))
    refine T_seq ?_
    refine T_region hc ?_
    refine Ch.s (.d (.bool false)) (.pure (.move _ rfl rfl)) ?_
    refine Ch.s (.d (.bool true)) (.pure (.not (b := false) _ _ rfl rfl)) ?_
    refine Ch.s (.d (.bool true)) (.pure (.move _ rfl rfl)) ?_
    refine Ch.s (.d (.bool false)) (.pure (.move _ rfl rfl)) ?_
    refine Ch.s (.d (.bool true)) (.pure (.not (b := false) _ _ rfl rfl)) ?_
    refine Ch.s (.d (.bool true)) (.pure (.move _ rfl rfl)) ?_
    refine Ch.skip rfl rfl ?_
    refine Ch.skip rfl rfl ?_
    refine Ch.s (.d (.bool true)) (.pure (.pickT _ _ _ rfl rfl rfl)) ?_
    refine Ch.s (.d (.bool true)) (.pure (.pickT _ _ _ rfl rfl rfl)) ?_
    refine Ch.nil ?_
    refine T_cond (b := true) rfl (fun _ => ?_) (fun h => nomatch h)
    refine T_seq ?_
    refine T_region hc ?_
    refine Ch.s (.d (.bool false)) (.pure (.assign _ rfl rfl)) ?_
    refine Ch.nil ?_
    refine T_ret ?_
    refine And.intro (.inr rfl) ?_
    exact Exists.intro [(.d (.bool false))] (Exists.intro [] (Exists.intro [] (And.intro (.cons (.tmp 2 rfl) .nil) (And.intro (.cons (.any _) .nil) (And.intro (Exp.of (congrArg D.bool (by first | (rw [nameB, allB_no k (by omega) (by first | (rw [nameCh, letB, digB]; simp only [*, decide_true, decide_false, Bool.and_true, Bool.true_and, Bool.and_false, Bool.false_and, Bool.or_false, Bool.false_or, Bool.or_true, Bool.true_or, Bool.not_true, Bool.not_false, not_false_eq_true]; done) | (rw [nameCh, letB, digB_n]; simp only [*, decide_true, decide_false, Bool.and_true, Bool.true_and, Bool.and_false, Bool.false_and, Bool.or_false, Bool.false_or, Bool.or_true, Bool.true_or, Bool.not_true, Bool.not_false, not_false_eq_true]; done))]; rfl) | (rw [nameB, allB_of (fun j hj => hp0.2 j (by omega)), Bool.true_and]; done))) (.d _)) (And.intro rfl rfl))))))
 ·
  replace h1 := of_decide_eq_false h1
  refine T_exit ?_
  refine T_seq ?_
  refine T_region hc ?_
  refine Ch.s (.d (.str u)) (.pure (.move _ rfl rfl)) ?_
  refine Ch.s (.d (.int .i64 ((u.length : Nat) : Int))) (.pure (.lenStr _ _ rfl Tryz.underlying9 rfl)) ?_
  refine Ch.s (.d (.bool (withinB ((u.length : Nat) : Int) 1 6))) (.call 44000 91 _ _ _ en91 rfl (.inl rfl) (.cons (.d _) (.cons (.d _) (.cons (.d _) .nil))) rfl rfl (sp_impl_within ((u.length : Nat) : Int) 1 6) (.skip _ _ (.skip _ _ (.skip _ _ .nil))) rfl) ?_
  refine Ch.s (.d (.bool (withinB ((u.length : Nat) : Int) 1 6))) (.pure (.assign _ rfl rfl)) ?_
  refine Ch.nil ?_
  refine T_ret ?_
  refine And.intro (.inr rfl) ?_
  exact Exists.intro [(.d (.bool (withinB ((u.length : Nat) : Int) 1 6)))] (Exists.intro [] (Exists.intro [] (And.intro (.cons (.tmp 2 rfl) .nil) (And.intro (.cons (.any _) .nil) (And.intro (Exp.of (congrArg D.bool (by first | (rw [nameB, allB_no k (by omega) (by first | (rw [nameCh, letB, digB]; simp only [*, decide_true, decide_false, Bool.and_true, Bool.true_and, Bool.and_false, Bool.false_and, Bool.or_false, Bool.false_or, Bool.or_true, Bool.true_or, Bool.not_true, Bool.not_false, not_false_eq_true]; done) | (rw [nameCh, letB, digB_n]; simp only [*, decide_true, decide_false, Bool.and_true, Bool.true_and, Bool.and_false, Bool.false_and, Bool.or_false, Bool.false_or, Bool.or_true, Bool.true_or, Bool.not_true, Bool.not_false, not_false_eq_true]; done))]; rfl) | (rw [nameB, allB_of (fun j hj => hp0.2 j (by omega)), Bool.true_and]; done))) (.d _)) (And.intro rfl rfl))))))

end Go.AM
