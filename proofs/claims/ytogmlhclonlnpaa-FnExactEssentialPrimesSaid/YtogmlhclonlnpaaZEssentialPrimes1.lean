/-
  The contracts that the law FnExactEssentialPrimes needs.
-/
import Derived.Test.YtogmlhclonlnpaaAmO
import Derived.Test.YtogmlhclonlnpaaProg
import Derived.KernelRfl
import Derived.Test.YtogmlhclonlnpaaAmP
import Derived.Test.YtogmlhclonlnpaaAmW
import Derived.Test.YtogmlhclonlnpaaAmX
import Derived.Test.YtogmlhclonlnpaaAmY
namespace Go.AM
open Go.Proofs
set_option linter.unusedVariables false
set_option linter.unusedSimpArgs false

def withinB (n lo hi : Int) : Bool := decide (lo ≤ n) && decide (n ≤ hi)

theorem sp_impl_within (n lo hi : Int) : Sp Try.prog 83 [(.int .i64 n), (.int .i64 lo), (.int .i64 hi)] [.any, .any, .any] (.bool (withinB n lo hi)) := by
 refine Sp_intro (lend := true) Try.func83 rfl rfl rfl (fun _ => rfl) (fun c hc hX => ?_)
 refine T_seq ?_
 refine T_region hc ?_
 refine Ch.s (.d (.bool false)) (.pure (.assign _ rfl rfl)) ?_
 refine Ch.nil ?_
 refine T_seq ?_
 refine T_region hc ?_
 refine Ch.s (.d (.int .i64 lo)) (.pure (.move _ rfl rfl)) ?_
 refine Ch.s (.d (.int .i64 n)) (.pure (.move _ rfl rfl)) ?_
 refine Ch.s (.d (.bool (decide (lo ≤ n)))) (.pure (.int _ _ _ _ _ rfl rfl rfl rfl)) ?_
 refine Ch.s (.d (.bool (decide (lo ≤ n)))) (.pure (.move _ rfl rfl)) ?_
 cases h1 : (decide (lo ≤ n)) with
 | true =>
  replace h1 := of_decide_eq_true h1
  refine Ch.s (.d (.int .i64 n)) (.pure (.move _ rfl rfl)) ?_
  refine Ch.s (.d (.int .i64 hi)) (.pure (.move _ rfl rfl)) ?_
  refine Ch.s (.d (.bool (decide (n ≤ hi)))) (.pure (.int _ _ _ _ _ rfl rfl rfl rfl)) ?_
  refine Ch.s (.d (.bool (decide (n ≤ hi)))) (.pure (.pickT _ _ _ rfl rfl rfl)) ?_
  refine Ch.s (.d (.bool (decide (n ≤ hi)))) (.pure (.assign _ rfl rfl)) ?_
  refine Ch.nil ?_
  refine T_ret ?_
  refine And.intro (.inr rfl) ?_
  exact Exists.intro [(.d (.bool (decide (n ≤ hi))))] (Exists.intro [] (Exists.intro [] (And.intro (.cons (.tmp 6 rfl) .nil) (And.intro (.cons (.any _) (.cons (.any _) (.cons (.any _) .nil))) (And.intro (Exp.of (congrArg D.bool (by simp [withinB] <;> omega)) (.d _)) (And.intro rfl rfl))))))
 | false =>
  replace h1 := of_decide_eq_false h1
  refine Ch.skip rfl rfl ?_
  refine Ch.skip rfl rfl ?_
  refine Ch.skip rfl rfl ?_
  refine Ch.s (.d (.bool false)) (.pure (.pickF _ _ _ rfl rfl rfl)) ?_
  refine Ch.s (.d (.bool false)) (.pure (.assign _ rfl rfl)) ?_
  refine Ch.nil ?_
  refine T_ret ?_
  refine And.intro (.inr rfl) ?_
  exact Exists.intro [(.d (.bool false))] (Exists.intro [] (Exists.intro [] (And.intro (.cons (.tmp 6 rfl) .nil) (And.intro (.cons (.any _) (.cons (.any _) (.cons (.any _) .nil))) (And.intro (Exp.of (congrArg D.bool (by simp [withinB] <;> omega)) (.d _)) (And.intro rfl rfl))))))

theorem sp_spec_l1In (n lo hi : Int) : Sp Try.prog 68 [(.int .i64 n), (.int .i64 lo), (.int .i64 hi)] [.any, .any, .any] (.bool (withinB n lo hi)) := by
 refine Sp_intro (lend := true) Try.func68 rfl rfl rfl (fun _ => rfl) (fun c hc hX => ?_)
 refine T_seq ?_
 refine T_region hc ?_
 refine Ch.s (.d (.bool false)) (.pure (.assign _ rfl rfl)) ?_
 refine Ch.nil ?_
 refine T_seq ?_
 refine T_region hc ?_
 refine Ch.s (.d (.int .i64 n)) (.pure (.move _ rfl rfl)) ?_
 refine Ch.s (.d (.int .i64 lo)) (.pure (.move _ rfl rfl)) ?_
 refine Ch.s (.d (.bool (decide (lo ≤ n)))) (.pure (.int _ _ _ _ _ rfl rfl rfl rfl)) ?_
 refine Ch.s (.d (.bool (decide (lo ≤ n)))) (.pure (.move _ rfl rfl)) ?_
 cases h1 : (decide (lo ≤ n)) with
 | true =>
  replace h1 := of_decide_eq_true h1
  refine Ch.s (.d (.int .i64 n)) (.pure (.move _ rfl rfl)) ?_
  refine Ch.s (.d (.int .i64 hi)) (.pure (.move _ rfl rfl)) ?_
  refine Ch.s (.d (.bool (decide (n ≤ hi)))) (.pure (.int _ _ _ _ _ rfl rfl rfl rfl)) ?_
  refine Ch.s (.d (.bool (decide (n ≤ hi)))) (.pure (.pickT _ _ _ rfl rfl rfl)) ?_
  refine Ch.s (.d (.bool (decide (n ≤ hi)))) (.pure (.assign _ rfl rfl)) ?_
  refine Ch.nil ?_
  refine T_ret ?_
  refine And.intro (.inr rfl) ?_
  exact Exists.intro [(.d (.bool (decide (n ≤ hi))))] (Exists.intro [] (Exists.intro [] (And.intro (.cons (.tmp 6 rfl) .nil) (And.intro (.cons (.any _) (.cons (.any _) (.cons (.any _) .nil))) (And.intro (Exp.of (congrArg D.bool (by simp [withinB] <;> omega)) (.d _)) (And.intro rfl rfl))))))
 | false =>
  replace h1 := of_decide_eq_false h1
  refine Ch.skip rfl rfl ?_
  refine Ch.skip rfl rfl ?_
  refine Ch.skip rfl rfl ?_
  refine Ch.s (.d (.bool false)) (.pure (.pickF _ _ _ rfl rfl rfl)) ?_
  refine Ch.s (.d (.bool false)) (.pure (.assign _ rfl rfl)) ?_
  refine Ch.nil ?_
  refine T_ret ?_
  refine And.intro (.inr rfl) ?_
  exact Exists.intro [(.d (.bool false))] (Exists.intro [] (Exists.intro [] (And.intro (.cons (.tmp 6 rfl) .nil) (And.intro (.cons (.any _) (.cons (.any _) (.cons (.any _) .nil))) (And.intro (Exp.of (congrArg D.bool (by simp [withinB] <;> omega)) (.d _)) (And.intro rfl rfl))))))

theorem en83 : Enters Try.prog 83 := ⟨_, Try.func83, by kernel_rfl, rfl⟩

def cubeCh (x : UInt8) : Bool := x == 48 || x == 49 || x == 45

def cubeS (s : List UInt8) : Bool := allB s.length (fun j => cubeCh (s.getD j 0))

def cubeN (s : List UInt8) (n : Int) : Bool := cubeS s && decide ((s.length : Int) = n) && withinB n 1 8

theorem sp_impl_isCube (s : List UInt8) (n : Int) (hs : s.length ≤ 1048576) : Sp Try.prog 175 [(.str s), (.int .i64 n)] [.any, .any] (.bool (cubeN s n)) := by
 refine Sp_intro (lend := true) Try.func175 rfl rfl rfl (fun _ => rfl) (fun c hc hX => ?_)
 refine T_seq ?_
 refine T_region hc ?_
 refine Ch.s (.d (.bool false)) (.pure (.assign _ rfl rfl)) ?_
 refine Ch.nil ?_
 refine T_seq ?_
 refine T_seq ?_
 refine T_region hc ?_
 refine Ch.s (.d (.int .i64 0)) (.pure (.assign _ rfl rfl)) ?_
 refine Ch.nil ?_
 refine T_block ?_
 refine T_loop (ι := Nat) (fun k => { n := 36, sl := [(0, (.d (.str s))), (1, (.d (.int .i64 n))), (5, (.d (.int .i64 ((k : Nat) : Int))))], hp := [], pin := [] }) (fun k => k ≤ s.length ∧ ∀ j, j < k → cubeCh (s.getD j 0) = true) (fun k => s.length - k) ⟨0, ⟨by omega, fun j hj => by omega⟩, (Wk.of rfl rfl (And.intro rfl (And.intro rfl (And.intro (vI (by first | rfl | omega | (simp; done) | (simp; omega))) trivial))) trivial)⟩ (fun k hp0 => ?_)
 refine T_seq ?_
 refine T_seq ?_
 refine T_region hc ?_
 refine Ch.s (.d (.int .i64 ((k : Nat) : Int))) (.pure (.move _ rfl rfl)) ?_
 refine Ch.s (.d (.str s)) (.pure (.move _ rfl rfl)) ?_
 refine Ch.s (.d (.int .i64 ((s.length : Nat) : Int))) (.pure (.lenStr _ _ rfl Try.underlying9 rfl)) ?_
 refine Ch.s (.d (.bool (decide (((k : Nat) : Int) < ((s.length : Nat) : Int))))) (.pure (.int _ _ _ _ _ rfl rfl rfl rfl)) ?_
 refine Ch.nil ?_
 refine T_cond (b := (decide (((k : Nat) : Int) < ((s.length : Nat) : Int)))) rfl (fun h1 => ?_) (fun h1 => ?_)
 ·
  replace h1 := of_decide_eq_true h1
  refine T_skip ?_
  refine T_seq ?_
  refine T_block ?_
  refine T_seq ?_
  refine T_region hc ?_
  refine Ch.s (.d (.str s)) (.pure (.move _ rfl rfl)) ?_
  refine Ch.s (.d (.int .i64 ((k : Nat) : Int))) (.pure (.move _ rfl rfl)) ?_
  refine Ch.s (.d (.int .u8 ((s.getD k 0).toNat : Int))) (.pure (.idxStr _ _ _ (k) rfl Try.underlying9 rfl rfl rfl get_strA)) ?_
  refine Ch.s (.d (.bool (!(decide (((s.getD k 0) : UInt8) = 48))))) (.pure (.int _ _ _ _ _ rfl rfl rfl (u8_neq ((s.getD k 0) : UInt8) 48 rfl rfl))) ?_
  refine Ch.s (.d (.bool (!(decide (((s.getD k 0) : UInt8) = 48))))) (.pure (.move _ rfl rfl)) ?_
  cases h2 : (decide (((s.getD k 0) : UInt8) = 48)) with
  | true =>
   replace h2 := of_decide_eq_true h2
   refine Ch.skip rfl rfl ?_
   refine Ch.skip rfl rfl ?_
   refine Ch.skip rfl rfl ?_
   refine Ch.skip rfl rfl ?_
   refine Ch.s (.d (.bool false)) (.pure (.pickF _ _ _ rfl rfl rfl)) ?_
   refine Ch.s (.d (.bool false)) (.pure (.move _ rfl rfl)) ?_
   refine Ch.skip rfl rfl ?_
   refine Ch.skip rfl rfl ?_
   refine Ch.skip rfl rfl ?_
   refine Ch.skip rfl rfl ?_
   refine Ch.s (.d (.bool false)) (.pure (.pickF _ _ _ rfl rfl rfl)) ?_
   refine Ch.nil ?_
   refine T_cond (b := false) rfl (fun h => nomatch h) (fun _ => ?_)
   refine T_skip ?_
   refine T_region hc ?_
   refine Ch.s (.d (.int .i64 ((k : Nat) : Int))) (.pure (.move _ rfl rfl)) ?_
   refine Ch.s (.d (.int .i64 (((k : Nat) : Int) + 1))) (.pure (.int _ _ _ _ _ rfl rfl rfl intV_addA)) ?_
   refine Ch.s (.d (.int .i64 (((k : Nat) : Int) + 1))) (.pure (.assign _ rfl rfl)) ?_
   refine Ch.nil ?_
   refine Exists.intro (k + 1) (And.intro ⟨by omega, upto_succ hp0.2 (by simp_all [cubeCh])⟩ (And.intro (by first | omega | (dsimp only; omega)) (Wk.of rfl rfl (And.intro rfl (And.intro rfl (And.intro (vI (by first | rfl | omega | (simp; done) | (simp; omega))) trivial))) trivial)))
  | false =>
   replace h2 := of_decide_eq_false h2
   refine Ch.s (.d (.str s)) (.pure (.move _ rfl rfl)) ?_
   refine Ch.s (.d (.int .i64 ((k : Nat) : Int))) (.pure (.move _ rfl rfl)) ?_
   refine Ch.s (.d (.int .u8 ((s.getD k 0).toNat : Int))) (.pure (.idxStr _ _ _ (k) rfl Try.underlying9 rfl rfl rfl get_strA)) ?_
   refine Ch.s (.d (.bool (!(decide (((s.getD k 0) : UInt8) = 49))))) (.pure (.int _ _ _ _ _ rfl rfl rfl (u8_neq ((s.getD k 0) : UInt8) 49 rfl rfl))) ?_
   refine Ch.s (.d (.bool (!(decide (((s.getD k 0) : UInt8) = 49))))) (.pure (.pickT _ _ _ rfl rfl rfl)) ?_
   refine Ch.s (.d (.bool (!(decide (((s.getD k 0) : UInt8) = 49))))) (.pure (.move _ rfl rfl)) ?_
   cases h3 : (decide (((s.getD k 0) : UInt8) = 49)) with
   | true =>
    replace h3 := of_decide_eq_true h3
    refine Ch.skip rfl rfl ?_
    refine Ch.skip rfl rfl ?_
    refine Ch.skip rfl rfl ?_
    refine Ch.skip rfl rfl ?_
    refine Ch.s (.d (.bool false)) (.pure (.pickF _ _ _ rfl rfl rfl)) ?_
    refine Ch.nil ?_
    refine T_cond (b := false) rfl (fun h => nomatch h) (fun _ => ?_)
    refine T_skip ?_
    refine T_region hc ?_
    refine Ch.s (.d (.int .i64 ((k : Nat) : Int))) (.pure (.move _ rfl rfl)) ?_
    refine Ch.s (.d (.int .i64 (((k : Nat) : Int) + 1))) (.pure (.int _ _ _ _ _ rfl rfl rfl intV_addA)) ?_
    refine Ch.s (.d (.int .i64 (((k : Nat) : Int) + 1))) (.pure (.assign _ rfl rfl)) ?_
    refine Ch.nil ?_
    refine Exists.intro (k + 1) (And.intro ⟨by omega, upto_succ hp0.2 (by simp_all [cubeCh])⟩ (And.intro (by first | omega | (dsimp only; omega)) (Wk.of rfl rfl (And.intro rfl (And.intro rfl (And.intro (vI (by first | rfl | omega | (simp; done) | (simp; omega))) trivial))) trivial)))
   | false =>
    replace h3 := of_decide_eq_false h3
    refine Ch.s (.d (.str s)) (.pure (.move _ rfl rfl)) ?_
    refine Ch.s (.d (.int .i64 ((k : Nat) : Int))) (.pure (.move _ rfl rfl)) ?_
    refine Ch.s (.d (.int .u8 ((s.getD k 0).toNat : Int))) (.pure (.idxStr _ _ _ (k) rfl Try.underlying9 rfl rfl rfl get_strA)) ?_
    refine Ch.s (.d (.bool (!(decide (((s.getD k 0) : UInt8) = 45))))) (.pure (.int _ _ _ _ _ rfl rfl rfl (u8_neq ((s.getD k 0) : UInt8) 45 rfl rfl))) ?_
    refine Ch.s (.d (.bool (!(decide (((s.getD k 0) : UInt8) = 45))))) (.pure (.pickT _ _ _ rfl rfl rfl)) ?_
    refine Ch.nil ?_
    refine T_cond (b := (!(decide (((s.getD k 0) : UInt8) = 45)))) rfl (fun h4 => ?_) (fun h4 => ?_)
    ·
     replace h4 := nott h4
     replace h4 := of_decide_eq_false h4
     refine T_seq ?_
     refine T_region hc ?_
     refine Ch.s (.d (.bool false)) (.pure (.assign _ rfl rfl)) ?_
     refine Ch.nil ?_
     refine T_ret ?_
     refine And.intro (.inr rfl) ?_
     exact Exists.intro [(.d (.bool false))] (Exists.intro [] (Exists.intro [] (And.intro (.cons (.tmp 4 rfl) .nil) (And.intro (.cons (.any _) (.cons (.any _) .nil)) (And.intro (Exp.of (congrArg D.bool (by rw [cubeN, cubeS, allB_no k (by omega) (by simp_all [cubeCh])]; rfl)) (.d _)) (And.intro rfl rfl))))))
    ·
     replace h4 := notf h4
     replace h4 := of_decide_eq_true h4
     refine T_skip ?_
     refine T_region hc ?_
     refine Ch.s (.d (.int .i64 ((k : Nat) : Int))) (.pure (.move _ rfl rfl)) ?_
     refine Ch.s (.d (.int .i64 (((k : Nat) : Int) + 1))) (.pure (.int _ _ _ _ _ rfl rfl rfl intV_addA)) ?_
     refine Ch.s (.d (.int .i64 (((k : Nat) : Int) + 1))) (.pure (.assign _ rfl rfl)) ?_
     refine Ch.nil ?_
     refine Exists.intro (k + 1) (And.intro ⟨by omega, upto_succ hp0.2 (by simp_all [cubeCh])⟩ (And.intro (by first | omega | (dsimp only; omega)) (Wk.of rfl rfl (And.intro rfl (And.intro rfl (And.intro (vI (by first | rfl | omega | (simp; done) | (simp; omega))) trivial))) trivial)))
 ·
  replace h1 := of_decide_eq_false h1
  refine T_exit ?_
  refine T_seq ?_
  refine T_region hc ?_
  refine Ch.s (.d (.str s)) (.pure (.move _ rfl rfl)) ?_
  refine Ch.s (.d (.int .i64 ((s.length : Nat) : Int))) (.pure (.lenStr _ _ rfl Try.underlying9 rfl)) ?_
  refine Ch.s (.d (.int .i64 n)) (.pure (.move _ rfl rfl)) ?_
  refine Ch.s (.d (.bool (decide (((s.length : Nat) : Int) = n)))) (.pure (.int _ _ _ _ _ rfl rfl rfl rfl)) ?_
  refine Ch.s (.d (.bool (decide (((s.length : Nat) : Int) = n)))) (.pure (.move _ rfl rfl)) ?_
  cases h5 : (decide (((s.length : Nat) : Int) = n)) with
  | true =>
   replace h5 := of_decide_eq_true h5
   refine Ch.s (.d (.int .i64 n)) (.pure (.move _ rfl rfl)) ?_
   refine Ch.s (.d (.bool (withinB n 1 8))) (.call 34000 83 _ _ _ en83 rfl (.inl rfl) (.cons (.d _) (.cons (.d _) (.cons (.d _) .nil))) rfl rfl (sp_impl_within n 1 8) (.skip _ _ (.skip _ _ (.skip _ _ .nil))) rfl) ?_
   refine Ch.s (.d (.bool (withinB n 1 8))) (.pure (.pickT _ _ _ rfl rfl rfl)) ?_
   refine Ch.s (.d (.bool (withinB n 1 8))) (.pure (.assign _ rfl rfl)) ?_
   refine Ch.nil ?_
   refine T_ret ?_
   refine And.intro (.inr rfl) ?_
   exact Exists.intro [(.d (.bool (withinB n 1 8)))] (Exists.intro [] (Exists.intro [] (And.intro (.cons (.tmp 4 rfl) .nil) (And.intro (.cons (.any _) (.cons (.any _) .nil)) (And.intro (Exp.of (congrArg D.bool (by rw [cubeN, cubeS, allB_of (fun j hj => hp0.2 j (by omega))]; simp_all)) (.d _)) (And.intro rfl rfl))))))
  | false =>
   replace h5 := of_decide_eq_false h5
   refine Ch.skip rfl rfl ?_
   refine Ch.skip rfl rfl ?_
   refine Ch.s (.d (.bool false)) (.pure (.pickF _ _ _ rfl rfl rfl)) ?_
   refine Ch.s (.d (.bool false)) (.pure (.assign _ rfl rfl)) ?_
   refine Ch.nil ?_
   refine T_ret ?_
   refine And.intro (.inr rfl) ?_
   exact Exists.intro [(.d (.bool false))] (Exists.intro [] (Exists.intro [] (And.intro (.cons (.tmp 4 rfl) .nil) (And.intro (.cons (.any _) (.cons (.any _) .nil)) (And.intro (Exp.of (congrArg D.bool (by rw [cubeN, cubeS, allB_of (fun j hj => hp0.2 j (by omega))]; simp_all)) (.d _)) (And.intro rfl rfl))))))

def meetOf (x y : UInt8) : UInt8 := if x = y ∨ y = 45 then x else y

def meetS (a b : List UInt8) (k : Nat) : List UInt8 := tab k fun j => meetOf (a.getD j 0) (b.getD j 0)

@[simp] theorem meetS_length (a b : List UInt8) (k : Nat) : (meetS a b k).length = k := by simp [meetS]

theorem sz9 : SizeIs Try.prog 9 1 := by unfold SizeIs; kernel_rfl

theorem ag9 : AggIs Try.prog 9 false := by unfold AggIs; kernel_rfl

theorem zr9 : (Try.prog.info? 9).bind (·.zero) = some (.string .empty) := by kernel_rfl

theorem zer9 : ∃ i z, Try.prog.info? 9 = some i ∧ i.zero = some z ∧ z.cells = List.toArray [.string .empty] := zero_mk zr9 rfl

theorem sty23 : SlotTy Try.prog 23 9 1 16 := slotTy_mk (by kernel_rfl)

theorem en95 : Enters Try.prog 95 := ⟨_, Try.func95, by kernel_rfl, rfl⟩

theorem sp_laws_szStringS (xs : List (List UInt8)) (left : Int) (h0 : 0 ≤ left) (h0u : left ≤ 1048576) (hn : xs.length ≤ 9223372036854775807) (hx : ∀ x ∈ xs, x.length ≤ 9223372036854775807) : Sp Try.prog 25 [(.slice false 1 (xs.map D.str)), (.int .i64 left)] [.any, .any] (.int .i64 (szS xs left)) := by
 refine Sp_intro (lend := true) Try.func25 rfl rfl rfl (fun _ => rfl) (fun c hc hX => ?_)
 refine T_seq ?_
 refine T_region hc ?_
 refine Ch.s (.d (.int .i64 0)) (.pure (.assign _ rfl rfl)) ?_
 refine Ch.nil ?_
 refine T_seq ?_
 refine T_region hc ?_
 refine Ch.s (.d (.int .i64 left)) (.pure (.move _ rfl rfl)) ?_
 refine Ch.s (.d (.slice false 1 (xs.map D.str))) (.pure (.move _ rfl rfl)) ?_
 refine Ch.s (.d (.int .i64 ((xs.length : Nat) : Int))) (.pure (.len _ _ 9 rfl Try.underlying23 (.sh _ _) (by simp))) ?_
 refine Ch.s (.d (.int .i64 (left - ((xs.length : Nat) : Int)))) (.pure (.int _ _ _ _ _ rfl rfl rfl intV_subA)) ?_
 refine Ch.s (.d (.int .i64 (left - ((xs.length : Nat) : Int)))) (.pure (.assign _ rfl rfl)) ?_
 refine Ch.nil ?_
 refine T_seq ?_
 refine T_seq ?_
 refine T_region hc ?_
 refine Ch.s (.d (.int .i64 (left - ((xs.length : Nat) : Int)))) (.pure (.move _ rfl rfl)) ?_
 refine Ch.s (.d (.bool (decide ((left - ((xs.length : Nat) : Int)) < 0)))) (.pure (.int _ _ _ _ _ rfl rfl rfl rfl)) ?_
 refine Ch.nil ?_
 refine T_cond (b := (decide ((left - ((xs.length : Nat) : Int)) < 0))) rfl (fun h1 => ?_) (fun h1 => ?_)
 ·
  replace h1 := of_decide_eq_true h1
  refine T_seq ?_
  refine T_region hc ?_
  refine Ch.s (.d (.int .i64 (-1))) (.pure (.assign _ rfl rfl)) ?_
  refine Ch.nil ?_
  refine T_ret ?_
  refine And.intro (.inr rfl) ?_
  exact Exists.intro [(.d (.int .i64 (-1)))] (Exists.intro [] (Exists.intro [] (And.intro (.cons (.tmp 4 rfl) .nil) (And.intro (.cons (.any _) (.cons (.any _) .nil)) (And.intro (Exp.of (congrArg (D.int .i64) (by rw [szS, if_neg (by unfold bulkS; omega)])) (.d _)) (And.intro rfl rfl))))))
 ·
  replace h1 := of_decide_eq_false h1
  refine T_skip ?_
  refine T_seq ?_
  refine T_seq ?_
  refine T_region hc ?_
  refine Ch.s (.d (.int .i64 0)) (.pure (.assign _ rfl rfl)) ?_
  refine Ch.nil ?_
  refine T_block ?_
  refine T_loop (ι := Nat) (fun k => { n := 28, sl := [(0, (.d (.slice false 1 (xs.map D.str)))), (1, (.d (.int .i64 (left - xs.length - sumTo xs k)))), (5, (.d (.int .i64 ((k : Nat) : Int))))], hp := [], pin := [] }) (fun k => k ≤ xs.length ∧ 0 ≤ left - xs.length - sumTo xs k) (fun k => xs.length - k) ⟨0, ⟨by omega, by rw [sumTo_zero]; omega⟩, (Wk.of rfl rfl (And.intro rfl (And.intro (vI (by first | (rw [sumTo_zero]; omega) | (rw [sumTo_succ (by omega)]; omega))) (And.intro (vI (by first | rfl | omega | (simp; done) | (simp; omega))) trivial))) trivial)⟩ (fun k hp0 => ?_)
  refine T_seq ?_
  refine T_seq ?_
  refine T_region hc ?_
  refine Ch.s (.d (.int .i64 ((k : Nat) : Int))) (.pure (.move _ rfl rfl)) ?_
  refine Ch.s (.d (.slice false 1 (xs.map D.str))) (.pure (.move _ rfl rfl)) ?_
  refine Ch.s (.d (.int .i64 ((xs.length : Nat) : Int))) (.pure (.len _ _ 9 rfl Try.underlying23 (.sh _ _) (by simp))) ?_
  refine Ch.s (.d (.bool (decide (((k : Nat) : Int) < ((xs.length : Nat) : Int))))) (.pure (.int _ _ _ _ _ rfl rfl rfl rfl)) ?_
  refine Ch.nil ?_
  refine T_cond (b := (decide (((k : Nat) : Int) < ((xs.length : Nat) : Int)))) rfl (fun h2 => ?_) (fun h2 => ?_)
  ·
   replace h2 := of_decide_eq_true h2
   try have hk := hx _ (getD_mem (l := xs) (j := k) (d := default) (by omega))
   refine T_skip ?_
   refine T_seq ?_
   refine T_block ?_
   refine T_seq ?_
   refine T_region hc ?_
   refine Ch.s (.d (.int .i64 (left - xs.length - sumTo xs k))) (.pure (.move _ rfl rfl)) ?_
   refine Ch.s (.d (.slice false 1 (xs.map D.str))) (.pure (.move _ rfl rfl)) ?_
   refine Ch.s (.d (.int .i64 ((k : Nat) : Int))) (.pure (.move _ rfl rfl)) ?_
   refine Ch.s (.d (.ref (.str (xs.getD k default)))) (.pure (.idx _ _ _ 9 (k) rfl Try.underlying23 sz9 rfl rfl rfl get_mapA)) ?_
   refine Ch.s (.d (.str (xs.getD k default))) (.pure (.loadRef1 _ _ rfl ag9 rfl rfl)) ?_
   refine Ch.s (.d (.int .i64 (((xs.getD k default).length : Nat) : Int))) (.pure (.lenStr _ _ rfl Try.underlying9 rfl)) ?_
   refine Ch.s (.d (.int .i64 ((left - xs.length - sumTo xs k) - (((xs.getD k default).length : Nat) : Int)))) (.pure (.int _ _ _ _ _ rfl rfl rfl intV_subA)) ?_
   refine Ch.s (.d (.int .i64 ((left - xs.length - sumTo xs k) - (((xs.getD k default).length : Nat) : Int)))) (.pure (.assign _ rfl rfl)) ?_
   refine Ch.nil ?_
   refine T_seq ?_
   refine T_region hc ?_
   refine Ch.s (.d (.int .i64 ((left - xs.length - sumTo xs k) - (((xs.getD k default).length : Nat) : Int)))) (.pure (.move _ rfl rfl)) ?_
   refine Ch.s (.d (.bool (decide (((left - xs.length - sumTo xs k) - (((xs.getD k default).length : Nat) : Int)) < 0)))) (.pure (.int _ _ _ _ _ rfl rfl rfl rfl)) ?_
   refine Ch.nil ?_
   refine T_cond (b := (decide (((left - xs.length - sumTo xs k) - (((xs.getD k default).length : Nat) : Int)) < 0))) rfl (fun h3 => ?_) (fun h3 => ?_)
   ·
    replace h3 := of_decide_eq_true h3
    refine T_seq ?_
    refine T_region hc ?_
    refine Ch.s (.d (.int .i64 (-1))) (.pure (.assign _ rfl rfl)) ?_
    refine Ch.nil ?_
    refine T_ret ?_
    refine And.intro (.inr rfl) ?_
    exact Exists.intro [(.d (.int .i64 (-1)))] (Exists.intro [] (Exists.intro [] (And.intro (.cons (.tmp 4 rfl) .nil) (And.intro (.cons (.any _) (.cons (.any _) .nil)) (And.intro (Exp.of (congrArg (D.int .i64) (by rw [szS, if_neg (by have h4 := sumTo_le xs (k + 1); rw [sumTo_succ (by omega)] at h4; unfold bulkS; omega)])) (.d _)) (And.intro rfl rfl))))))
   ·
    replace h3 := of_decide_eq_false h3
    refine T_skip ?_
    refine T_region hc ?_
    refine Ch.s (.d (.int .i64 ((k : Nat) : Int))) (.pure (.move _ rfl rfl)) ?_
    refine Ch.s (.d (.int .i64 (((k : Nat) : Int) + 1))) (.pure (.int _ _ _ _ _ rfl rfl rfl intV_addA)) ?_
    refine Ch.s (.d (.int .i64 (((k : Nat) : Int) + 1))) (.pure (.assign _ rfl rfl)) ?_
    refine Ch.nil ?_
    refine Exists.intro (k + 1) (And.intro ⟨by omega, by rw [sumTo_succ (by omega)]; omega⟩ (And.intro (by first | omega | (dsimp only; omega)) (Wk.of rfl rfl (And.intro rfl (And.intro (vI (by first | (rw [sumTo_zero]; omega) | (rw [sumTo_succ (by omega)]; omega))) (And.intro (vI (by first | rfl | omega | (simp; done) | (simp; omega))) trivial))) trivial)))
  ·
   replace h2 := of_decide_eq_false h2
   try have hk := hx _ (getD_mem (l := xs) (j := k) (d := default) (by omega))
   refine T_exit ?_
   refine T_seq ?_
   refine T_region hc ?_
   refine Ch.s (.d (.int .i64 (left - xs.length - sumTo xs k))) (.pure (.move _ rfl rfl)) ?_
   refine Ch.s (.d (.int .i64 (left - xs.length - sumTo xs k))) (.pure (.assign _ rfl rfl)) ?_
   refine Ch.nil ?_
   refine T_ret ?_
   refine And.intro (.inr rfl) ?_
   exact Exists.intro [(.d (.int .i64 (left - xs.length - sumTo xs k)))] (Exists.intro [] (Exists.intro [] (And.intro (.cons (.tmp 4 rfl) .nil) (And.intro (.cons (.any _) (.cons (.any _) .nil)) (And.intro (Exp.of (congrArg (D.int .i64) (by have h4 := sumTo_all (xs := xs) (k := k) (by omega); rw [szS, if_pos (by unfold bulkS; omega)]; unfold bulkS; omega)) (.d _)) (And.intro rfl rfl))))))

theorem sp_laws_toStringS (xs : List (List UInt8)) (hn : xs.length ≤ 1048576) : Sp Try.prog 27 [(.slice false 1 (xs.map D.str))] [.any] (.slice true 1 (xs.map D.str)) := by
 refine Sp_intro (lend := true) Try.func27 rfl rfl rfl (fun _ => rfl) (fun c hc hX => ?_)
 refine T_seq ?_
 refine T_region hc ?_
 refine Ch.s (.c (.slice none 0 0)) (.pure (.assign _ rfl rfl)) ?_
 refine Ch.nil ?_
 refine T_seq ?_
 refine T_region hc ?_
 refine Ch.s (.d (.slice false 1 (xs.map D.str))) (.pure (.move _ rfl rfl)) ?_
 refine Ch.s (.d (.int .i64 ((xs.length : Nat) : Int))) (.pure (.len _ _ 9 rfl Try.underlying23 (.sh _ _) (by simp))) ?_
 refine Ch.s (.row 7000) (.make 7000 _ 9 _ _ (xs.length) (xs.length) rfl sty23 rfl rfl rfl rfl (by first | omega | (simp only [List.length_map, List.length_append, List.length_take, List.length_drop, List.length_cons, List.length_nil]; omega) | (simp; omega) | (simp; done)) (by first | omega | (simp only [List.length_map, List.length_append, List.length_take, List.length_drop, List.length_cons, List.length_nil]; omega) | (simp; omega) | (simp; done)) (by first | omega | (simp only [List.length_map, List.length_append, List.length_take, List.length_drop, List.length_cons, List.length_nil]; omega) | (simp; omega) | (simp; done)) (zeroD_mk (zd := (.str [])) zr9 (by intro S w; rw [DR]; exact ⟨rfl, rfl⟩) rfl)) ?_
 refine Ch.s (.row 7000) (.pure (.assign _ rfl rfl)) ?_
 refine Ch.nil ?_
 refine T_seq ?_
 refine T_seq ?_
 refine T_region hc ?_
 refine Ch.s (.d (.int .i64 0)) (.pure (.assign _ rfl rfl)) ?_
 refine Ch.nil ?_
 refine T_block ?_
 refine T_loop (ι := Nat) (fun k => { n := 22, sl := [(0, (.d (.slice false 1 (xs.map D.str)))), (3, (.row 3)), (4, (.d (.int .i64 ((k : Nat) : Int))))], hp := [(3, (some (.row 1 ((fill xs [] k).map D.str))))], pin := [] }) (fun k => k ≤ xs.length) (fun k => xs.length - k) ⟨0, (by omega), (Wk.ren [(3, 7000)] rfl rfl rfl rfl (And.intro rfl (And.intro rfl (And.intro (vI (by first | rfl | omega | (simp; done) | (simp; omega))) trivial))) (And.intro (oR (by first | (rw [fill_zero, List.map_replicate]; done) | (rw [← fill_set xs [] default (by omega), List.map_set]; done))) trivial))⟩ (fun k hp0 => ?_)
 refine T_seq ?_
 refine T_seq ?_
 refine T_region hc ?_
 refine Ch.s (.d (.int .i64 ((k : Nat) : Int))) (.pure (.move _ rfl rfl)) ?_
 refine Ch.s (.d (.slice false 1 (xs.map D.str))) (.pure (.move _ rfl rfl)) ?_
 refine Ch.s (.d (.int .i64 ((xs.length : Nat) : Int))) (.pure (.len _ _ 9 rfl Try.underlying23 (.sh _ _) (by simp))) ?_
 refine Ch.s (.d (.bool (decide (((k : Nat) : Int) < ((xs.length : Nat) : Int))))) (.pure (.int _ _ _ _ _ rfl rfl rfl rfl)) ?_
 refine Ch.nil ?_
 refine T_cond (b := (decide (((k : Nat) : Int) < ((xs.length : Nat) : Int)))) rfl (fun h1 => ?_) (fun h1 => ?_)
 ·
  replace h1 := of_decide_eq_true h1
  refine T_skip ?_
  refine T_seq ?_
  refine T_block ?_
  refine T_region hc ?_
  refine Ch.s (.row 3) (.pure (.move _ rfl rfl)) ?_
  refine Ch.s (.d (.int .i64 ((k : Nat) : Int))) (.pure (.move _ rfl rfl)) ?_
  refine Ch.s (.d (.slice false 1 (xs.map D.str))) (.pure (.move _ rfl rfl)) ?_
  refine Ch.s (.d (.int .i64 ((k : Nat) : Int))) (.pure (.move _ rfl rfl)) ?_
  refine Ch.s (.d (.ref (.str (xs.getD k default)))) (.pure (.idx _ _ _ 9 (k) rfl Try.underlying23 sz9 rfl rfl rfl get_mapA)) ?_
  refine Ch.s (.d (.str (xs.getD k default))) (.pure (.loadRef1 _ _ rfl ag9 rfl rfl)) ?_
  refine Ch.s (.el 3 1 k 0) (.pure (.idxRow _ _ _ 9 (k) rfl Try.underlying23 sz9 rfl rfl rfl rfl (by first | omega | (simp only [List.length_map, List.length_set]; omega) | (simp; omega)))) ?_
  refine Ch.s .junk (.storeEl (y' := (.str (xs.getD k default))) _ _ _ rfl rfl rfl (.d _) rfl sz9 rfl get_mapA rfl rfl) ?_
  refine Ch.nil ?_
  refine T_region hc ?_
  refine Ch.s (.d (.int .i64 ((k : Nat) : Int))) (.pure (.move _ rfl rfl)) ?_
  refine Ch.s (.d (.int .i64 (((k : Nat) : Int) + 1))) (.pure (.int _ _ _ _ _ rfl rfl rfl intV_addA)) ?_
  refine Ch.s (.d (.int .i64 (((k : Nat) : Int) + 1))) (.pure (.assign _ rfl rfl)) ?_
  refine Ch.nil ?_
  refine Exists.intro (k + 1) (And.intro (by omega) (And.intro (by first | omega | (dsimp only; omega)) (Wk.of rfl rfl (And.intro rfl (And.intro rfl (And.intro (vI (by first | rfl | omega | (simp; done) | (simp; omega))) trivial))) (And.intro (oR (by first | (rw [fill_zero, List.map_replicate]; done) | (rw [← fill_set xs [] default (by omega), List.map_set]; done))) trivial))))
 ·
  replace h1 := of_decide_eq_false h1
  refine T_exit ?_
  refine T_seq ?_
  refine T_region hc ?_
  refine Ch.s (.row 3) (.pure (.move _ rfl rfl)) ?_
  refine Ch.s (.row 3) (.pure (.assign _ rfl rfl)) ?_
  refine Ch.nil ?_
  refine T_ret ?_
  refine And.intro (.inr rfl) ?_
  exact Exists.intro [(.row 3)] (Exists.intro [] (Exists.intro [3] (And.intro (.cons (.tmp 2 rfl) .nil) (And.intro (.cons (.any _) .nil) (And.intro (Exp.of (congrArg (D.slice true 1) (by rw [fill_all xs [] (by omega)])) (.row rfl)) (And.intro rfl rfl))))))

theorem sp_laws_eqStringS (xs ys : List (List UInt8)) (hn : xs.length ≤ 1048576) : Sp Try.prog 29 [(.slice false 1 (xs.map D.str)), (.slice false 1 (ys.map D.str))] [.any, .any] (.bool (decide (xs = ys))) := by
 refine Sp_intro (lend := true) Try.func29 rfl rfl rfl (fun _ => rfl) (fun c hc hX => ?_)
 refine T_seq ?_
 refine T_region hc ?_
 refine Ch.s (.d (.bool false)) (.pure (.assign _ rfl rfl)) ?_
 refine Ch.nil ?_
 refine T_seq ?_
 refine T_seq ?_
 refine T_region hc ?_
 refine Ch.s (.d (.slice false 1 (xs.map D.str))) (.pure (.move _ rfl rfl)) ?_
 refine Ch.s (.d (.int .i64 ((xs.length : Nat) : Int))) (.pure (.len _ _ 9 rfl Try.underlying23 (.sh _ _) (by simp))) ?_
 refine Ch.s (.d (.slice false 1 (ys.map D.str))) (.pure (.move _ rfl rfl)) ?_
 refine Ch.s (.d (.int .i64 ((ys.length : Nat) : Int))) (.pure (.len _ _ 9 rfl Try.underlying23 (.sh _ _) (by simp))) ?_
 refine Ch.s (.d (.bool (!(decide (((xs.length : Nat) : Int) = ((ys.length : Nat) : Int)))))) (.pure (.int _ _ _ _ _ rfl rfl rfl rfl)) ?_
 refine Ch.nil ?_
 refine T_cond (b := (!(decide (((xs.length : Nat) : Int) = ((ys.length : Nat) : Int))))) rfl (fun h1 => ?_) (fun h1 => ?_)
 ·
  replace h1 := nott h1
  replace h1 := of_decide_eq_false h1
  refine T_seq ?_
  refine T_region hc ?_
  refine Ch.s (.d (.bool false)) (.pure (.assign _ rfl rfl)) ?_
  refine Ch.nil ?_
  refine T_ret ?_
  refine And.intro (.inr rfl) ?_
  exact Exists.intro [(.d (.bool false))] (Exists.intro [] (Exists.intro [] (And.intro (.cons (.tmp 4 rfl) .nil) (And.intro (.cons (.any _) (.cons (.any _) .nil)) (And.intro (Exp.of (congrArg D.bool (by exact eqL_len (by omega))) (.d _)) (And.intro rfl rfl))))))
 ·
  replace h1 := notf h1
  replace h1 := of_decide_eq_true h1
  refine T_skip ?_
  refine T_seq ?_
  refine T_seq ?_
  refine T_region hc ?_
  refine Ch.s (.d (.int .i64 0)) (.pure (.assign _ rfl rfl)) ?_
  refine Ch.nil ?_
  refine T_block ?_
  refine T_loop (ι := Nat) (fun k => { n := 26, sl := [(0, (.d (.slice false 1 (xs.map D.str)))), (1, (.d (.slice false 1 (ys.map D.str)))), (5, (.d (.int .i64 ((k : Nat) : Int))))], hp := [], pin := [] }) (fun k => k ≤ xs.length ∧ ∀ j, j < k → xs.getD j default = ys.getD j default) (fun k => xs.length - k) ⟨0, ⟨by omega, fun j hj => by omega⟩, (Wk.of rfl rfl (And.intro rfl (And.intro rfl (And.intro (vI (by first | rfl | omega | (simp; done) | (simp; omega))) trivial))) trivial)⟩ (fun k hp0 => ?_)
  refine T_seq ?_
  refine T_seq ?_
  refine T_region hc ?_
  refine Ch.s (.d (.int .i64 ((k : Nat) : Int))) (.pure (.move _ rfl rfl)) ?_
  refine Ch.s (.d (.slice false 1 (xs.map D.str))) (.pure (.move _ rfl rfl)) ?_
  refine Ch.s (.d (.int .i64 ((xs.length : Nat) : Int))) (.pure (.len _ _ 9 rfl Try.underlying23 (.sh _ _) (by simp))) ?_
  refine Ch.s (.d (.bool (decide (((k : Nat) : Int) < ((xs.length : Nat) : Int))))) (.pure (.int _ _ _ _ _ rfl rfl rfl rfl)) ?_
  refine Ch.nil ?_
  refine T_cond (b := (decide (((k : Nat) : Int) < ((xs.length : Nat) : Int)))) rfl (fun h2 => ?_) (fun h2 => ?_)
  ·
   replace h2 := of_decide_eq_true h2
   refine T_skip ?_
   refine T_seq ?_
   refine T_block ?_
   refine T_seq ?_
   refine T_regionD hc (by kernel_rfl) ?_
   refine ChD.s (.d (.slice false 1 (xs.map D.str))) [] (.pure (.move _ rfl rfl)) ?_
   refine ChD.s (.d (.int .i64 ((k : Nat) : Int))) [] (.pure (.move _ rfl rfl)) ?_
   refine ChD.s (.d (.ref (.str (xs.getD k default)))) [] (.pure (.idx _ _ _ 9 (k) rfl Try.underlying23 sz9 rfl rfl rfl get_mapA)) ?_
   refine ChD.s (.d (.str (xs.getD k default))) [] (.pure (.loadRef1 _ _ rfl ag9 rfl rfl)) ?_
   refine ChD.s (.d (.slice false 1 (ys.map D.str))) [] (.pure (.move _ rfl rfl)) ?_
   refine ChD.s (.d (.int .i64 ((k : Nat) : Int))) [] (.pure (.move _ rfl rfl)) ?_
   refine ChD.s (.d (.ref (.str (ys.getD k default)))) [] (.pure (.idx _ _ _ 9 (k) rfl Try.underlying23 sz9 rfl rfl rfl get_mapA)) ?_
   refine ChD.s (.d (.str (ys.getD k default))) [] (.pure (.loadRef1 _ _ rfl ag9 rfl rfl)) ?_
   refine ChD.s (.d (.bool (!(decide ((xs.getD k default) = (ys.getD k default)))))) [] (.pure (.str _ _ _ _ _ rfl rfl rfl rfl)) ?_
   refine ChD.nil (And.intro ?_ (by kernel_rfl))
   refine T_cond (b := (!(decide ((xs.getD k default) = (ys.getD k default))))) rfl (fun h3 => ?_) (fun h3 => ?_)
   ·
    replace h3 := nott h3
    replace h3 := of_decide_eq_false h3
    refine T_seq ?_
    refine T_region hc ?_
    refine Ch.s (.d (.bool false)) (.pure (.assign _ rfl rfl)) ?_
    refine Ch.nil ?_
    refine T_ret ?_
    refine And.intro (.inr rfl) ?_
    exact Exists.intro [(.d (.bool false))] (Exists.intro [] (Exists.intro [] (And.intro (.cons (.tmp 4 rfl) .nil) (And.intro (.cons (.any _) (.cons (.any _) .nil)) (And.intro (Exp.of (congrArg D.bool (by exact eqL_at default k (by assumption))) (.d _)) (And.intro rfl rfl))))))
   ·
    replace h3 := notf h3
    replace h3 := of_decide_eq_true h3
    refine T_skip ?_
    refine T_region hc ?_
    refine Ch.s (.d (.int .i64 ((k : Nat) : Int))) (.pure (.move _ rfl rfl)) ?_
    refine Ch.s (.d (.int .i64 (((k : Nat) : Int) + 1))) (.pure (.int _ _ _ _ _ rfl rfl rfl intV_addA)) ?_
    refine Ch.s (.d (.int .i64 (((k : Nat) : Int) + 1))) (.pure (.assign _ rfl rfl)) ?_
    refine Ch.nil ?_
    refine Exists.intro (k + 1) (And.intro ⟨by omega, upto_succ hp0.2 (by assumption)⟩ (And.intro (by first | omega | (dsimp only; omega)) (Wk.of rfl rfl (And.intro rfl (And.intro rfl (And.intro (vI (by first | rfl | omega | (simp; done) | (simp; omega))) trivial))) trivial)))
  ·
   replace h2 := of_decide_eq_false h2
   refine T_exit ?_
   refine T_seq ?_
   refine T_region hc ?_
   refine Ch.s (.d (.bool true)) (.pure (.assign _ rfl rfl)) ?_
   refine Ch.nil ?_
   refine T_ret ?_
   refine And.intro (.inr rfl) ?_
   exact Exists.intro [(.d (.bool true))] (Exists.intro [] (Exists.intro [] (And.intro (.cons (.tmp 4 rfl) .nil) (And.intro (.cons (.any _) (.cons (.any _) .nil)) (And.intro (Exp.of (congrArg D.bool (by exact eqL_all default (by omega) (fun j hj => hp0.2 j (by omega)))) (.d _)) (And.intro rfl rfl))))))

theorem sp_IndexFunc_str (xs : List (List UInt8)) (f : FuncId) (caps : List D) (p : List UInt8 → Bool) (hf : Enters Try.prog f) (hp : ∀ x ∈ xs, Sp Try.prog f (D.str x :: caps) (.any :: anys caps) (.bool (p x))) (hn : xs.length ≤ 1048576) : Sp Try.prog 95 [(.slice false 1 (xs.map D.str)), (.fn f caps)] [.any, .any] (.int .i64 (ixF p xs)) := by
 refine Sp_intro (lend := true) Try.func95 rfl rfl rfl (fun _ => rfl) (fun c hc hX => ?_)
 refine T_seq ?_
 refine T_region hc ?_
 refine Ch.s (.d (.int .i64 0)) (.pure (.assign _ rfl rfl)) ?_
 refine Ch.nil ?_
 refine T_seq ?_
 refine T_seq ?_
 refine T_region hc ?_
 refine Ch.s (.d (.slice false 1 (xs.map D.str))) (.pure (.move _ rfl rfl)) ?_
 refine Ch.s (.d (.int .i64 ((xs.length : Nat) : Int))) (.pure (.len _ _ 9 rfl Try.underlying23 (.sh _ _) (by simp))) ?_
 refine Ch.s (.d (.int .i64 0)) (.pure (.move _ rfl rfl)) ?_
 refine Ch.nil ?_
 refine T_block ?_
 refine T_loop (ι := Nat) (fun k => { n := 19, sl := [(0, (.d (.slice false 1 (xs.map D.str)))), (1, (.d (.fn f caps))), (7, (.d (.int .i64 ((xs.length : Nat) : Int)))), (8, (.d (.int .i64 ((k : Nat) : Int))))], hp := [], pin := [] }) (fun k => k ≤ xs.length ∧ ∀ j, j < k → p (xs.getD j default) = false) (fun k => xs.length - k) ⟨0, ⟨by omega, fun j hj => by omega⟩, (Wk.of rfl rfl (And.intro rfl (And.intro rfl (And.intro rfl (And.intro (vI (by first | rfl | omega | (simp; done) | (simp; omega))) trivial)))) trivial)⟩ (fun k hp0 => ?_)
 refine T_seq ?_
 refine T_region hc ?_
 refine Ch.s (.d (.bool (decide (((k : Nat) : Int) < ((xs.length : Nat) : Int))))) (.pure (.int _ _ _ _ _ rfl rfl rfl rfl)) ?_
 refine Ch.nil ?_
 refine T_seq ?_
 refine T_cond (b := (decide (((k : Nat) : Int) < ((xs.length : Nat) : Int)))) rfl (fun h1 => ?_) (fun h1 => ?_)
 ·
  replace h1 := of_decide_eq_true h1
  refine T_skip ?_
  refine T_seq ?_
  refine T_block ?_
  refine T_seq ?_
  refine T_region hc ?_
  refine Ch.s (.d (.int .i64 ((k : Nat) : Int))) (.pure (.move _ rfl rfl)) ?_
  refine Ch.s (.d (.int .i64 ((k : Nat) : Int))) (.pure (.assign _ rfl rfl)) ?_
  refine Ch.nil ?_
  refine T_seq ?_
  refine T_region hc ?_
  refine Ch.s (.d (.fn f caps)) (.pure (.move _ rfl rfl)) ?_
  refine Ch.s (.d (.slice false 1 (xs.map D.str))) (.pure (.move _ rfl rfl)) ?_
  refine Ch.s (.d (.int .i64 ((k : Nat) : Int))) (.pure (.move _ rfl rfl)) ?_
  refine Ch.s (.d (.ref (.str (xs.getD k default)))) (.pure (.idx _ _ _ 9 (k) rfl Try.underlying23 sz9 rfl rfl rfl get_mapA)) ?_
  refine Ch.s (.d (.str (xs.getD k default))) (.pure (.loadRef1 _ _ rfl ag9 rfl rfl)) ?_
  refine Ch.step (v := (.d (.bool (p (xs.getD k default))))) rfl (.callS 16000 f _ #[.tmp 15] _ hf rfl (.inr ⟨caps, rfl, rfl⟩) (.cons (.d _) (exps_ds caps)) rfl (hp _ (getD_mem (by omega))) (.skip _ _ (back_anys caps)) rfl) rfl rfl ?_
  refine Ch.nil ?_
  refine T_cond (b := (p (xs.getD k default))) rfl (fun h2 => ?_) (fun h2 => ?_)
  ·
   refine T_seq ?_
   refine T_region hc ?_
   refine Ch.s (.d (.int .i64 ((k : Nat) : Int))) (.pure (.move _ rfl rfl)) ?_
   refine Ch.s (.d (.int .i64 ((k : Nat) : Int))) (.pure (.assign _ rfl rfl)) ?_
   refine Ch.nil ?_
   refine T_ret ?_
   refine And.intro (.inr rfl) ?_
   exact Exists.intro [(.d (.int .i64 ((k : Nat) : Int)))] (Exists.intro [] (Exists.intro [] (And.intro (.cons (.tmp 4 rfl) .nil) (And.intro (.cons (.any _) (.cons (.any _) .nil)) (And.intro (Exp.of (congrArg (D.int .i64) (by exact (ixF_some (by omega) hp0.2 (by assumption)).symm)) (.d _)) (And.intro rfl rfl))))))
  ·
   refine T_skip ?_
   refine T_region hc ?_
   refine Ch.s (.d (.int .i64 (((k : Nat) : Int) + 1))) (.pure (.int _ _ _ _ _ rfl rfl rfl intV_addA)) ?_
   refine Ch.s (.d (.int .i64 (((k : Nat) : Int) + 1))) (.pure (.move _ rfl rfl)) ?_
   refine Ch.nil ?_
   refine Exists.intro (k + 1) (And.intro ⟨by omega, upto_succ hp0.2 (by assumption)⟩ (And.intro (by first | omega | (dsimp only; omega)) (Wk.of rfl rfl (And.intro rfl (And.intro rfl (And.intro rfl (And.intro (vI (by first | rfl | omega | (simp; done) | (simp; omega))) trivial)))) trivial)))
 ·
  replace h1 := of_decide_eq_false h1
  refine T_exit ?_
  refine T_seq ?_
  refine T_region hc ?_
  refine Ch.s (.d (.int .i64 (-1))) (.pure (.assign _ rfl rfl)) ?_
  refine Ch.nil ?_
  refine T_ret ?_
  refine And.intro (.inr rfl) ?_
  exact Exists.intro [(.d (.int .i64 (-1)))] (Exists.intro [] (Exists.intro [] (And.intro (.cons (.tmp 4 rfl) .nil) (And.intro (.cons (.any _) (.cons (.any _) .nil)) (And.intro (Exp.of (congrArg (D.int .i64) (by exact (ixF_none (fun j hj => hp0.2 j (by omega))).symm)) (.d _)) (And.intro rfl rfl))))))

theorem sp_ContainsFunc_str (xs : List (List UInt8)) (f : FuncId) (caps : List D) (p : List UInt8 → Bool) (hf : Enters Try.prog f) (hp : ∀ x ∈ xs, Sp Try.prog f (D.str x :: caps) (.any :: anys caps) (.bool (p x))) (hn : xs.length ≤ 1048576) : Sp Try.prog 100 [(.slice false 1 (xs.map D.str)), (.fn f caps)] [.any, .any] (.bool (xs.any p)) := by
 refine Sp_intro (lend := true) Try.func100 rfl rfl rfl (fun _ => rfl) (fun c hc hX => ?_)
 refine T_seq ?_
 refine T_region hc ?_
 refine Ch.s (.d (.bool false)) (.pure (.assign _ rfl rfl)) ?_
 refine Ch.nil ?_
 refine T_seq ?_
 refine T_region hc ?_
 refine Ch.s (.d (.slice false 1 (xs.map D.str))) (.pure (.move _ rfl rfl)) ?_
 refine Ch.s (.d (.fn f caps)) (.pure (.move _ rfl rfl)) ?_
 refine Ch.s (.d (.int .i64 (ixF p xs))) (.call 7000 95 _ _ _ en95 rfl (.inl rfl) (.cons (.d _) (.cons (.d _) .nil)) rfl rfl (sp_IndexFunc_str xs f caps p hf hp (by first | omega | assumption | (exact hx _ (getD_mem (by omega))) | (exact hx _ (by assumption)) | (exact Nat.le_trans (hx _ (by assumption)) (by omega)) | (simp only [List.length_append, List.length_take, List.length_drop, List.length_cons, List.length_nil]; omega) | (simp_all; done))) (.skip _ _ (.skip _ _ .nil)) rfl) ?_
 refine Ch.s (.d (.bool (decide (0 ≤ (ixF p xs))))) (.pure (.int _ _ _ _ _ rfl rfl rfl rfl)) ?_
 refine Ch.s (.d (.bool (decide (0 ≤ (ixF p xs))))) (.pure (.assign _ rfl rfl)) ?_
 refine Ch.nil ?_
 refine T_ret ?_
 refine And.intro (.inr rfl) ?_
 exact Exists.intro [(.d (.bool (decide (0 ≤ (ixF p xs)))))] (Exists.intro [] (Exists.intro [] (And.intro (.cons (.tmp 4 rfl) .nil) (And.intro (.cons (.any _) (.cons (.any _) .nil)) (And.intro (Exp.of (congrArg D.bool (by exact ixF_nonneg p xs)) (.d _)) (And.intro rfl rfl))))))

def allOf {τ : Type} [Inhabited τ] (xs : List τ) (q : τ → Bool) : Bool := allB xs.length fun j => q (xs.getD j default)

theorem any_not {τ : Type} [Inhabited τ] (xs : List τ) (q : τ → Bool) : xs.any (fun c => !q c) = !allOf xs q := by
  cases h : allOf xs q with
  | true =>
    rw [Bool.not_true, List.any_eq_false]
    intro x hx
    obtain ⟨j, hj, rfl⟩ := List.mem_iff_getElem.1 hx
    have := allB_true.1 h j hj
    simp [hj] at this
    simp [this]
  | false =>
    rw [Bool.not_false, List.any_eq_true]
    apply Classical.byContradiction
    intro hno
    have : allOf xs q = true := allB_of fun j hj => by
      cases hq : q (xs.getD j default) with
      | true => rfl
      | false => exact absurd ⟨_, getD_mem hj, by rw [hq]; rfl⟩ hno
    rw [h] at this; cases this

def isLit (u : List UInt8) (j : Nat) : Bool := u.getD j 0 != 45

theorem en201 : Enters Try.prog 201 := ⟨_, Try.func201, by kernel_rfl, rfl⟩

theorem en199 : Enters Try.prog 199 := ⟨_, Try.func199, by kernel_rfl, rfl⟩

theorem en191 : Enters Try.prog 191 := ⟨_, Try.func191, by kernel_rfl, rfl⟩

theorem en175 : Enters Try.prog 175 := ⟨_, Try.func175, by kernel_rfl, rfl⟩

theorem en176 : Enters Try.prog 176 := ⟨_, Try.func176, by kernel_rfl, rfl⟩

theorem en53 : Enters Try.prog 53 := ⟨_, Try.func53, by kernel_rfl, rfl⟩

def codeCh (x : UInt8) : Bool := x == 48 || x == 49

def codeN (u : List UInt8) (n : Int) : Bool := allB u.length (fun j => codeCh (u.getD j 0)) && decide ((u.length : Int) = n)

def hasCh (x y : UInt8) : Bool := x == 45 || x == y

def hasB (a b : List UInt8) : Bool := allB a.length fun j => hasCh (a.getD j 0) (b.getD j 0)

def dashB (u : List UInt8) : Bool := decide (0 ≤ Lib.indexByte u 45)

def isCodeB (u : List UInt8) (n : Int) : Bool := cubeN u n && !dashB u

def inB (xs : List (List UInt8)) (u : List UInt8) : Bool := xs.any fun a => hasB a u

theorem dashB_iff (u : List UInt8) : dashB u = true ↔ 45 ∈ u := by
  unfold dashB
  rw [decide_eq_true_iff]
  induction u with
  | nil => exact ⟨fun h => absurd h (by decide), fun h => by cases h⟩
  | cons x u ih =>
    have hge := Lib.indexByte_ge u 45
    rw [Lib.indexByte, List.mem_cons]
    split
    · rename_i h
      have h : x = 45 := by simpa using h
      exact ⟨fun _ => .inl h.symm, fun _ => Int.le_refl 0⟩
    · rename_i h
      have hx : ¬ (45 : UInt8) = x := fun e => h (by rw [e]; simp)
      split
      · rename_i h2
        have h2 : Lib.indexByte u 45 = -1 := by simpa using h2
        rw [h2] at ih
        constructor
        · intro h3; exact absurd h3 (by decide)
        · rintro (h3 | h3)
          · exact absurd h3 hx
          · exact absurd (ih.2 h3) (by decide)
      · rename_i h2
        have h2 : ¬ Lib.indexByte u 45 = -1 := by simpa using h2
        constructor
        · intro h3
          have h4 : 0 ≤ Lib.indexByte u 45 := by generalize Lib.indexByte u 45 = z at *; omega
          exact .inr (ih.1 h4)
        · rintro (h3 | h3)
          · exact absurd h3 hx
          · have h4 := ih.2 h3; generalize Lib.indexByte u 45 = z at *; omega

theorem code_eq (u : List UInt8) (n : Int) : isCodeB u n = (codeN u n && withinB n 1 8) := by
  rw [Bool.eq_iff_iff]
  unfold isCodeB cubeN cubeS codeN
  simp only [Bool.and_eq_true, Bool.not_eq_true', allB_true, ← Bool.not_eq_true, dashB_iff, decide_eq_true_iff]
  have hm : (∃ j, j < u.length ∧ u.getD j 0 = 45) ↔ 45 ∈ u := by
    constructor
    · rintro ⟨j, hj, h⟩; rw [← h]; exact getD_mem hj
    · intro h; obtain ⟨j, hj, h⟩ := List.mem_iff_getElem.1 h; exact ⟨j, hj, by simp [hj, h]⟩
  constructor
  · rintro ⟨⟨⟨h1, h2⟩, h3⟩, h4⟩
    refine ⟨⟨fun j hj => ?_, h2⟩, h3⟩
    have h5 := h1 j hj
    have h6 : ¬ u.getD j 0 = 45 := fun e => h4 (hm.1 ⟨j, hj, e⟩)
    unfold cubeCh at h5
    unfold codeCh
    simp only [Bool.or_eq_true, beq_iff_eq] at h5 ⊢
    exact h5.resolve_right h6
  · rintro ⟨⟨h1, h2⟩, h3⟩
    refine ⟨⟨⟨fun j hj => ?_, h2⟩, h3⟩, fun h => ?_⟩
    · have h5 := h1 j hj
      unfold codeCh at h5
      unfold cubeCh
      simp only [Bool.or_eq_true] at h5 ⊢
      exact .inl h5
    · obtain ⟨j, hj, h6⟩ := hm.2 h
      have h5 := h1 j hj
      rw [h6] at h5
      exact absurd h5 (by decide)

theorem sp_spec_l5Code (u : List UInt8) (n : Int) (hs : u.length ≤ 1048576) : Sp Try.prog 69 [(.str u), (.int .i64 n)] [.any, .any] (.bool (codeN u n)) := by
 refine Sp_intro (lend := true) Try.func69 rfl rfl rfl (fun _ => rfl) (fun c hc hX => ?_)
 refine T_seq ?_
 refine T_region hc ?_
 refine Ch.s (.d (.bool false)) (.pure (.assign _ rfl rfl)) ?_
 refine Ch.nil ?_
 refine T_seq ?_
 refine T_seq ?_
 refine T_region hc ?_
 refine Ch.s (.d (.int .i64 0)) (.pure (.assign _ rfl rfl)) ?_
 refine Ch.nil ?_
 refine T_block ?_
 refine T_loop (ι := Nat) (fun k => { n := 26, sl := [(0, (.d (.str u))), (1, (.d (.int .i64 n))), (5, (.d (.int .i64 ((k : Nat) : Int))))], hp := [], pin := [] }) (fun k => k ≤ u.length ∧ ∀ j, j < k → codeCh (u.getD j 0) = true) (fun k => u.length - k) ⟨0, ⟨by omega, fun j hj => by omega⟩, (Wk.of rfl rfl (And.intro rfl (And.intro rfl (And.intro (vI (by first | rfl | omega | (simp; done) | (simp; omega))) trivial))) trivial)⟩ (fun k hp0 => ?_)
 refine T_seq ?_
 refine T_seq ?_
 refine T_region hc ?_
 refine Ch.s (.d (.int .i64 ((k : Nat) : Int))) (.pure (.move _ rfl rfl)) ?_
 refine Ch.s (.d (.str u)) (.pure (.move _ rfl rfl)) ?_
 refine Ch.s (.d (.int .i64 ((u.length : Nat) : Int))) (.pure (.lenStr _ _ rfl Try.underlying9 rfl)) ?_
 refine Ch.s (.d (.bool (decide (((k : Nat) : Int) < ((u.length : Nat) : Int))))) (.pure (.int _ _ _ _ _ rfl rfl rfl rfl)) ?_
 refine Ch.nil ?_
 refine T_cond (b := (decide (((k : Nat) : Int) < ((u.length : Nat) : Int)))) rfl (fun h1 => ?_) (fun h1 => ?_)
 ·
  replace h1 := of_decide_eq_true h1
  refine T_skip ?_
  refine T_seq ?_
  refine T_block ?_
  refine T_seq ?_
  refine T_region hc ?_
  refine Ch.s (.d (.str u)) (.pure (.move _ rfl rfl)) ?_
  refine Ch.s (.d (.int .i64 ((k : Nat) : Int))) (.pure (.move _ rfl rfl)) ?_
  refine Ch.s (.d (.int .u8 ((u.getD k 0).toNat : Int))) (.pure (.idxStr _ _ _ (k) rfl Try.underlying9 rfl rfl rfl get_strA)) ?_
  refine Ch.s (.d (.bool (!(decide (((u.getD k 0) : UInt8) = 48))))) (.pure (.int _ _ _ _ _ rfl rfl rfl (u8_neq ((u.getD k 0) : UInt8) 48 rfl rfl))) ?_
  refine Ch.s (.d (.bool (!(decide (((u.getD k 0) : UInt8) = 48))))) (.pure (.move _ rfl rfl)) ?_
  cases h2 : (decide (((u.getD k 0) : UInt8) = 48)) with
  | true =>
   replace h2 := of_decide_eq_true h2
   refine Ch.skip rfl rfl ?_
   refine Ch.skip rfl rfl ?_
   refine Ch.skip rfl rfl ?_
   refine Ch.skip rfl rfl ?_
   refine Ch.s (.d (.bool false)) (.pure (.pickF _ _ _ rfl rfl rfl)) ?_
   refine Ch.nil ?_
   refine T_cond (b := false) rfl (fun h => nomatch h) (fun _ => ?_)
   refine T_skip ?_
   refine T_region hc ?_
   refine Ch.s (.d (.int .i64 ((k : Nat) : Int))) (.pure (.move _ rfl rfl)) ?_
   refine Ch.s (.d (.int .i64 (((k : Nat) : Int) + 1))) (.pure (.int _ _ _ _ _ rfl rfl rfl intV_addA)) ?_
   refine Ch.s (.d (.int .i64 (((k : Nat) : Int) + 1))) (.pure (.assign _ rfl rfl)) ?_
   refine Ch.nil ?_
   refine Exists.intro (k + 1) (And.intro ⟨by omega, upto_succ hp0.2 (by simp_all [codeCh])⟩ (And.intro (by first | omega | (dsimp only; omega)) (Wk.of rfl rfl (And.intro rfl (And.intro rfl (And.intro (vI (by first | rfl | omega | (simp; done) | (simp; omega))) trivial))) trivial)))
  | false =>
   replace h2 := of_decide_eq_false h2
   refine Ch.s (.d (.str u)) (.pure (.move _ rfl rfl)) ?_
   refine Ch.s (.d (.int .i64 ((k : Nat) : Int))) (.pure (.move _ rfl rfl)) ?_
   refine Ch.s (.d (.int .u8 ((u.getD k 0).toNat : Int))) (.pure (.idxStr _ _ _ (k) rfl Try.underlying9 rfl rfl rfl get_strA)) ?_
   refine Ch.s (.d (.bool (!(decide (((u.getD k 0) : UInt8) = 49))))) (.pure (.int _ _ _ _ _ rfl rfl rfl (u8_neq ((u.getD k 0) : UInt8) 49 rfl rfl))) ?_
   refine Ch.s (.d (.bool (!(decide (((u.getD k 0) : UInt8) = 49))))) (.pure (.pickT _ _ _ rfl rfl rfl)) ?_
   refine Ch.nil ?_
   refine T_cond (b := (!(decide (((u.getD k 0) : UInt8) = 49)))) rfl (fun h3 => ?_) (fun h3 => ?_)
   ·
    replace h3 := nott h3
    replace h3 := of_decide_eq_false h3
    refine T_seq ?_
    refine T_region hc ?_
    refine Ch.s (.d (.bool false)) (.pure (.assign _ rfl rfl)) ?_
    refine Ch.nil ?_
    refine T_ret ?_
    refine And.intro (.inr rfl) ?_
    exact Exists.intro [(.d (.bool false))] (Exists.intro [] (Exists.intro [] (And.intro (.cons (.tmp 4 rfl) .nil) (And.intro (.cons (.any _) (.cons (.any _) .nil)) (And.intro (Exp.of (congrArg D.bool (by first | (rw [codeN, allB_no k (by omega) (by simp_all [codeCh])]; rfl) | (rw [codeN, allB_of (fun j hj => hp0.2 j (by omega)), Bool.true_and]))) (.d _)) (And.intro rfl rfl))))))
   ·
    replace h3 := notf h3
    replace h3 := of_decide_eq_true h3
    refine T_skip ?_
    refine T_region hc ?_
    refine Ch.s (.d (.int .i64 ((k : Nat) : Int))) (.pure (.move _ rfl rfl)) ?_
    refine Ch.s (.d (.int .i64 (((k : Nat) : Int) + 1))) (.pure (.int _ _ _ _ _ rfl rfl rfl intV_addA)) ?_
    refine Ch.s (.d (.int .i64 (((k : Nat) : Int) + 1))) (.pure (.assign _ rfl rfl)) ?_
    refine Ch.nil ?_
    refine Exists.intro (k + 1) (And.intro ⟨by omega, upto_succ hp0.2 (by simp_all [codeCh])⟩ (And.intro (by first | omega | (dsimp only; omega)) (Wk.of rfl rfl (And.intro rfl (And.intro rfl (And.intro (vI (by first | rfl | omega | (simp; done) | (simp; omega))) trivial))) trivial)))
 ·
  replace h1 := of_decide_eq_false h1
  refine T_exit ?_
  refine T_seq ?_
  refine T_region hc ?_
  refine Ch.s (.d (.str u)) (.pure (.move _ rfl rfl)) ?_
  refine Ch.s (.d (.int .i64 ((u.length : Nat) : Int))) (.pure (.lenStr _ _ rfl Try.underlying9 rfl)) ?_
  refine Ch.s (.d (.int .i64 n)) (.pure (.move _ rfl rfl)) ?_
  refine Ch.s (.d (.bool (decide (((u.length : Nat) : Int) = n)))) (.pure (.int _ _ _ _ _ rfl rfl rfl rfl)) ?_
  refine Ch.s (.d (.bool (decide (((u.length : Nat) : Int) = n)))) (.pure (.assign _ rfl rfl)) ?_
  refine Ch.nil ?_
  refine T_ret ?_
  refine And.intro (.inr rfl) ?_
  exact Exists.intro [(.d (.bool (decide (((u.length : Nat) : Int) = n))))] (Exists.intro [] (Exists.intro [] (And.intro (.cons (.tmp 4 rfl) .nil) (And.intro (.cons (.any _) (.cons (.any _) .nil)) (And.intro (Exp.of (congrArg D.bool (by first | (rw [codeN, allB_no k (by omega) (by simp_all [codeCh])]; rfl) | (rw [codeN, allB_of (fun j hj => hp0.2 j (by omega)), Bool.true_and]))) (.d _)) (And.intro rfl rfl))))))

theorem sp_spec_l13Has (a b : List UInt8) (ha : a.length ≤ 1048576) (hl : a.length ≤ b.length) : Sp Try.prog 53 [(.str a), (.str b)] [.any, .any] (.bool (hasB a b)) := by
 refine Sp_intro (lend := true) Try.func53 rfl rfl rfl (fun _ => rfl) (fun c hc hX => ?_)
 refine T_seq ?_
 refine T_region hc ?_
 refine Ch.s (.d (.bool false)) (.pure (.assign _ rfl rfl)) ?_
 refine Ch.nil ?_
 refine T_seq ?_
 refine T_seq ?_
 refine T_region hc ?_
 refine Ch.s (.d (.int .i64 0)) (.pure (.assign _ rfl rfl)) ?_
 refine Ch.nil ?_
 refine T_block ?_
 refine T_loop (ι := Nat) (fun k => { n := 25, sl := [(0, (.d (.str a))), (1, (.d (.str b))), (5, (.d (.int .i64 ((k : Nat) : Int))))], hp := [], pin := [] }) (fun k => k ≤ a.length ∧ ∀ j, j < k → hasCh (a.getD j 0) (b.getD j 0) = true) (fun k => a.length - k) ⟨0, ⟨by omega, fun j hj => by omega⟩, (Wk.of rfl rfl (And.intro rfl (And.intro rfl (And.intro (vI (by first | rfl | omega | (simp; done) | (simp; omega))) trivial))) trivial)⟩ (fun k hp0 => ?_)
 refine T_seq ?_
 refine T_seq ?_
 refine T_region hc ?_
 refine Ch.s (.d (.int .i64 ((k : Nat) : Int))) (.pure (.move _ rfl rfl)) ?_
 refine Ch.s (.d (.str a)) (.pure (.move _ rfl rfl)) ?_
 refine Ch.s (.d (.int .i64 ((a.length : Nat) : Int))) (.pure (.lenStr _ _ rfl Try.underlying9 rfl)) ?_
 refine Ch.s (.d (.bool (decide (((k : Nat) : Int) < ((a.length : Nat) : Int))))) (.pure (.int _ _ _ _ _ rfl rfl rfl rfl)) ?_
 refine Ch.nil ?_
 refine T_cond (b := (decide (((k : Nat) : Int) < ((a.length : Nat) : Int)))) rfl (fun h1 => ?_) (fun h1 => ?_)
 ·
  replace h1 := of_decide_eq_true h1
  refine T_skip ?_
  refine T_seq ?_
  refine T_block ?_
  refine T_seq ?_
  refine T_regionD hc (by kernel_rfl) ?_
  refine ChD.s (.d (.str a)) [] (.pure (.move _ rfl rfl)) ?_
  refine ChD.s (.d (.int .i64 ((k : Nat) : Int))) [] (.pure (.move _ rfl rfl)) ?_
  refine ChD.s (.d (.int .u8 ((a.getD k 0).toNat : Int))) [] (.pure (.idxStr _ _ _ (k) rfl Try.underlying9 rfl rfl rfl get_strA)) ?_
  refine ChD.s (.d (.bool (!(decide (((a.getD k 0) : UInt8) = 45))))) [] (.pure (.int _ _ _ _ _ rfl rfl rfl (u8_neq ((a.getD k 0) : UInt8) 45 rfl rfl))) ?_
  refine ChD.s (.d (.bool (!(decide (((a.getD k 0) : UInt8) = 45))))) [] (.pure (.move _ rfl rfl)) ?_
  cases h2 : (decide (((a.getD k 0) : UInt8) = 45)) with
  | true =>
   replace h2 := of_decide_eq_true h2
   refine ChD.skip rfl rfl ?_
   refine ChD.skip rfl rfl ?_
   refine ChD.skip rfl rfl ?_
   refine ChD.skip rfl rfl ?_
   refine ChD.skip rfl rfl ?_
   refine ChD.skip rfl rfl ?_
   refine ChD.skip rfl rfl ?_
   refine ChD.s (.d (.bool false)) [] (.pure (.pickF _ _ _ rfl rfl rfl)) ?_
   refine ChD.nil (And.intro ?_ (by kernel_rfl))
   refine T_cond (b := false) rfl (fun h => nomatch h) (fun _ => ?_)
   refine T_skip ?_
   refine T_region hc ?_
   refine Ch.s (.d (.int .i64 ((k : Nat) : Int))) (.pure (.move _ rfl rfl)) ?_
   refine Ch.s (.d (.int .i64 (((k : Nat) : Int) + 1))) (.pure (.int _ _ _ _ _ rfl rfl rfl intV_addA)) ?_
   refine Ch.s (.d (.int .i64 (((k : Nat) : Int) + 1))) (.pure (.assign _ rfl rfl)) ?_
   refine Ch.nil ?_
   refine Exists.intro (k + 1) (And.intro ⟨by omega, upto_succ hp0.2 (by simp_all [hasCh])⟩ (And.intro (by first | omega | (dsimp only; omega)) (Wk.of rfl rfl (And.intro rfl (And.intro rfl (And.intro (vI (by first | rfl | omega | (simp; done) | (simp; omega))) trivial))) trivial)))
  | false =>
   replace h2 := of_decide_eq_false h2
   refine ChD.s (.d (.str a)) [] (.pure (.move _ rfl rfl)) ?_
   refine ChD.s (.d (.int .i64 ((k : Nat) : Int))) [] (.pure (.move _ rfl rfl)) ?_
   refine ChD.s (.d (.int .u8 ((a.getD k 0).toNat : Int))) [] (.pure (.idxStr _ _ _ (k) rfl Try.underlying9 rfl rfl rfl get_strA)) ?_
   refine ChD.s (.d (.str b)) [] (.pure (.move _ rfl rfl)) ?_
   refine ChD.s (.d (.int .i64 ((k : Nat) : Int))) [] (.pure (.move _ rfl rfl)) ?_
   refine ChD.s (.d (.int .u8 ((b.getD k 0).toNat : Int))) [] (.pure (.idxStr _ _ _ (k) rfl Try.underlying9 rfl rfl rfl get_strA)) ?_
   refine ChD.s (.d (.bool (!(decide (((a.getD k 0) : UInt8) = (b.getD k 0)))))) [] (.pure (.int _ _ _ _ _ rfl rfl rfl (u8_neq ((a.getD k 0) : UInt8) (b.getD k 0) rfl rfl))) ?_
   refine ChD.s (.d (.bool (!(decide (((a.getD k 0) : UInt8) = (b.getD k 0)))))) [] (.pure (.pickT _ _ _ rfl rfl rfl)) ?_
   refine ChD.nil (And.intro ?_ (by kernel_rfl))
   refine T_cond (b := (!(decide (((a.getD k 0) : UInt8) = (b.getD k 0))))) rfl (fun h3 => ?_) (fun h3 => ?_)
   ·
    replace h3 := nott h3
    replace h3 := of_decide_eq_false h3
    refine T_seq ?_
    refine T_region hc ?_
    refine Ch.s (.d (.bool false)) (.pure (.assign _ rfl rfl)) ?_
    refine Ch.nil ?_
    refine T_ret ?_
    refine And.intro (.inr rfl) ?_
    exact Exists.intro [(.d (.bool false))] (Exists.intro [] (Exists.intro [] (And.intro (.cons (.tmp 4 rfl) .nil) (And.intro (.cons (.any _) (.cons (.any _) .nil)) (And.intro (Exp.of (congrArg D.bool (by first | (rw [hasB, allB_no k (by omega) (by simp_all [hasCh])]; done) | (rw [hasB, allB_of (fun j hj => hp0.2 j (by omega))]; done))) (.d _)) (And.intro rfl rfl))))))
   ·
    replace h3 := notf h3
    replace h3 := of_decide_eq_true h3
    refine T_skip ?_
    refine T_region hc ?_
    refine Ch.s (.d (.int .i64 ((k : Nat) : Int))) (.pure (.move _ rfl rfl)) ?_
    refine Ch.s (.d (.int .i64 (((k : Nat) : Int) + 1))) (.pure (.int _ _ _ _ _ rfl rfl rfl intV_addA)) ?_
    refine Ch.s (.d (.int .i64 (((k : Nat) : Int) + 1))) (.pure (.assign _ rfl rfl)) ?_
    refine Ch.nil ?_
    refine Exists.intro (k + 1) (And.intro ⟨by omega, upto_succ hp0.2 (by simp_all [hasCh])⟩ (And.intro (by first | omega | (dsimp only; omega)) (Wk.of rfl rfl (And.intro rfl (And.intro rfl (And.intro (vI (by first | rfl | omega | (simp; done) | (simp; omega))) trivial))) trivial)))
 ·
  replace h1 := of_decide_eq_false h1
  refine T_exit ?_
  refine T_seq ?_
  refine T_region hc ?_
  refine Ch.s (.d (.bool true)) (.pure (.assign _ rfl rfl)) ?_
  refine Ch.nil ?_
  refine T_ret ?_
  refine And.intro (.inr rfl) ?_
  exact Exists.intro [(.d (.bool true))] (Exists.intro [] (Exists.intro [] (And.intro (.cons (.tmp 4 rfl) .nil) (And.intro (.cons (.any _) (.cons (.any _) .nil)) (And.intro (Exp.of (congrArg D.bool (by first | (rw [hasB, allB_no k (by omega) (by simp_all [hasCh])]; done) | (rw [hasB, allB_of (fun j hj => hp0.2 j (by omega))]; done))) (.d _)) (And.intro rfl rfl))))))

theorem sp_impl_contains (a b : List UInt8) (ha : a.length ≤ 1048576) (hl : a.length ≤ b.length) : Sp Try.prog 59 [(.str a), (.str b)] [.any, .any] (.bool (hasB a b)) := by
 refine Sp_intro (lend := true) Try.func59 rfl rfl rfl (fun _ => rfl) (fun c hc hX => ?_)
 refine T_seq ?_
 refine T_region hc ?_
 refine Ch.s (.d (.bool false)) (.pure (.assign _ rfl rfl)) ?_
 refine Ch.nil ?_
 refine T_seq ?_
 refine T_seq ?_
 refine T_region hc ?_
 refine Ch.s (.d (.str a)) (.pure (.move _ rfl rfl)) ?_
 refine Ch.s (.d (.int .i64 ((a.length : Nat) : Int))) (.pure (.lenStr _ _ rfl Try.underlying9 rfl)) ?_
 refine Ch.s (.d (.int .i64 0)) (.pure (.move _ rfl rfl)) ?_
 refine Ch.nil ?_
 refine T_block ?_
 refine T_loop (ι := Nat) (fun k => { n := 25, sl := [(0, (.d (.str a))), (1, (.d (.str b))), (7, (.d (.int .i64 ((a.length : Nat) : Int)))), (8, (.d (.int .i64 ((k : Nat) : Int))))], hp := [], pin := [] }) (fun k => k ≤ a.length ∧ ∀ j, j < k → hasCh (a.getD j 0) (b.getD j 0) = true) (fun k => a.length - k) ⟨0, ⟨by omega, fun j hj => by omega⟩, (Wk.of rfl rfl (And.intro rfl (And.intro rfl (And.intro rfl (And.intro (vI (by first | rfl | omega | (simp; done) | (simp; omega))) trivial)))) trivial)⟩ (fun k hp0 => ?_)
 refine T_seq ?_
 refine T_region hc ?_
 refine Ch.s (.d (.bool (decide (((k : Nat) : Int) < ((a.length : Nat) : Int))))) (.pure (.int _ _ _ _ _ rfl rfl rfl rfl)) ?_
 refine Ch.nil ?_
 refine T_seq ?_
 refine T_cond (b := (decide (((k : Nat) : Int) < ((a.length : Nat) : Int)))) rfl (fun h1 => ?_) (fun h1 => ?_)
 ·
  replace h1 := of_decide_eq_true h1
  refine T_skip ?_
  refine T_seq ?_
  refine T_block ?_
  refine T_seq ?_
  refine T_region hc ?_
  refine Ch.s (.d (.int .i64 ((k : Nat) : Int))) (.pure (.move _ rfl rfl)) ?_
  refine Ch.s (.d (.int .i64 ((k : Nat) : Int))) (.pure (.assign _ rfl rfl)) ?_
  refine Ch.nil ?_
  refine T_seq ?_
  refine T_regionD hc (by kernel_rfl) ?_
  refine ChD.s (.d (.str a)) [] (.pure (.move _ rfl rfl)) ?_
  refine ChD.s (.d (.int .i64 ((k : Nat) : Int))) [] (.pure (.move _ rfl rfl)) ?_
  refine ChD.s (.d (.int .u8 ((a.getD k 0).toNat : Int))) [] (.pure (.idxStr _ _ _ (k) rfl Try.underlying9 rfl rfl rfl get_strA)) ?_
  refine ChD.s (.d (.bool (!(decide (((a.getD k 0) : UInt8) = 45))))) [] (.pure (.int _ _ _ _ _ rfl rfl rfl (u8_neq ((a.getD k 0) : UInt8) 45 rfl rfl))) ?_
  refine ChD.s (.d (.bool (!(decide (((a.getD k 0) : UInt8) = 45))))) [] (.pure (.move _ rfl rfl)) ?_
  cases h2 : (decide (((a.getD k 0) : UInt8) = 45)) with
  | true =>
   replace h2 := of_decide_eq_true h2
   refine ChD.skip rfl rfl ?_
   refine ChD.skip rfl rfl ?_
   refine ChD.skip rfl rfl ?_
   refine ChD.skip rfl rfl ?_
   refine ChD.skip rfl rfl ?_
   refine ChD.skip rfl rfl ?_
   refine ChD.skip rfl rfl ?_
   refine ChD.s (.d (.bool false)) [] (.pure (.pickF _ _ _ rfl rfl rfl)) ?_
   refine ChD.nil (And.intro ?_ (by kernel_rfl))
   refine T_cond (b := false) rfl (fun h => nomatch h) (fun _ => ?_)
   refine T_skip ?_
   refine T_region hc ?_
   refine Ch.s (.d (.int .i64 (((k : Nat) : Int) + 1))) (.pure (.int _ _ _ _ _ rfl rfl rfl intV_addA)) ?_
   refine Ch.s (.d (.int .i64 (((k : Nat) : Int) + 1))) (.pure (.move _ rfl rfl)) ?_
   refine Ch.nil ?_
   refine Exists.intro (k + 1) (And.intro ⟨by omega, upto_succ hp0.2 (by simp_all [hasCh])⟩ (And.intro (by first | omega | (dsimp only; omega)) (Wk.of rfl rfl (And.intro rfl (And.intro rfl (And.intro rfl (And.intro (vI (by first | rfl | omega | (simp; done) | (simp; omega))) trivial)))) trivial)))
  | false =>
   replace h2 := of_decide_eq_false h2
   refine ChD.s (.d (.str a)) [] (.pure (.move _ rfl rfl)) ?_
   refine ChD.s (.d (.int .i64 ((k : Nat) : Int))) [] (.pure (.move _ rfl rfl)) ?_
   refine ChD.s (.d (.int .u8 ((a.getD k 0).toNat : Int))) [] (.pure (.idxStr _ _ _ (k) rfl Try.underlying9 rfl rfl rfl get_strA)) ?_
   refine ChD.s (.d (.str b)) [] (.pure (.move _ rfl rfl)) ?_
   refine ChD.s (.d (.int .i64 ((k : Nat) : Int))) [] (.pure (.move _ rfl rfl)) ?_
   refine ChD.s (.d (.int .u8 ((b.getD k 0).toNat : Int))) [] (.pure (.idxStr _ _ _ (k) rfl Try.underlying9 rfl rfl rfl get_strA)) ?_
   refine ChD.s (.d (.bool (!(decide (((a.getD k 0) : UInt8) = (b.getD k 0)))))) [] (.pure (.int _ _ _ _ _ rfl rfl rfl (u8_neq ((a.getD k 0) : UInt8) (b.getD k 0) rfl rfl))) ?_
   refine ChD.s (.d (.bool (!(decide (((a.getD k 0) : UInt8) = (b.getD k 0)))))) [] (.pure (.pickT _ _ _ rfl rfl rfl)) ?_
   refine ChD.nil (And.intro ?_ (by kernel_rfl))
   refine T_cond (b := (!(decide (((a.getD k 0) : UInt8) = (b.getD k 0))))) rfl (fun h3 => ?_) (fun h3 => ?_)
   ·
    replace h3 := nott h3
    replace h3 := of_decide_eq_false h3
    refine T_seq ?_
    refine T_region hc ?_
    refine Ch.s (.d (.bool false)) (.pure (.assign _ rfl rfl)) ?_
    refine Ch.nil ?_
    refine T_ret ?_
    refine And.intro (.inr rfl) ?_
    exact Exists.intro [(.d (.bool false))] (Exists.intro [] (Exists.intro [] (And.intro (.cons (.tmp 4 rfl) .nil) (And.intro (.cons (.any _) (.cons (.any _) .nil)) (And.intro (Exp.of (congrArg D.bool (by first | (rw [hasB, allB_no k (by omega) (by simp_all [hasCh])]; done) | (rw [hasB, allB_of (fun j hj => hp0.2 j (by omega))]; done))) (.d _)) (And.intro rfl rfl))))))
   ·
    replace h3 := notf h3
    replace h3 := of_decide_eq_true h3
    refine T_skip ?_
    refine T_region hc ?_
    refine Ch.s (.d (.int .i64 (((k : Nat) : Int) + 1))) (.pure (.int _ _ _ _ _ rfl rfl rfl intV_addA)) ?_
    refine Ch.s (.d (.int .i64 (((k : Nat) : Int) + 1))) (.pure (.move _ rfl rfl)) ?_
    refine Ch.nil ?_
    refine Exists.intro (k + 1) (And.intro ⟨by omega, upto_succ hp0.2 (by simp_all [hasCh])⟩ (And.intro (by first | omega | (dsimp only; omega)) (Wk.of rfl rfl (And.intro rfl (And.intro rfl (And.intro rfl (And.intro (vI (by first | rfl | omega | (simp; done) | (simp; omega))) trivial)))) trivial)))
 ·
  replace h1 := of_decide_eq_false h1
  refine T_exit ?_
  refine T_seq ?_
  refine T_region hc ?_
  refine Ch.s (.d (.bool true)) (.pure (.assign _ rfl rfl)) ?_
  refine Ch.nil ?_
  refine T_ret ?_
  refine And.intro (.inr rfl) ?_
  exact Exists.intro [(.d (.bool true))] (Exists.intro [] (Exists.intro [] (And.intro (.cons (.tmp 4 rfl) .nil) (And.intro (.cons (.any _) (.cons (.any _) .nil)) (And.intro (Exp.of (congrArg D.bool (by first | (rw [hasB, allB_no k (by omega) (by simp_all [hasCh])]; done) | (rw [hasB, allB_of (fun j hj => hp0.2 j (by omega))]; done))) (.d _)) (And.intro rfl rfl))))))

theorem sp_stringslite_IndexByte (u : List UInt8) (x : UInt8) : Sp Try.prog 201 [(.str u), (.int .u8 (x.toNat : Int))] [.any, .any] (.int .i64 (Lib.indexByte u x)) := by
 refine Sp_intro (lend := true) Try.func201 rfl rfl rfl (fun _ => rfl) (fun c hc hX => ?_)
 refine T_seq ?_
 refine T_region hc ?_
 refine Ch.s (.d (.int .i64 0)) (.pure (.assign _ rfl rfl)) ?_
 refine Ch.nil ?_
 refine T_seq ?_
 refine T_region hc ?_
 refine Ch.s (.d (.str u)) (.pure (.move _ rfl rfl)) ?_
 refine Ch.s (.d (.int .u8 (x.toNat : Int))) (.pure (.move _ rfl rfl)) ?_
 refine Ch.step (v := (.d (.int .i64 (Lib.indexByte u x)))) rfl (.pure (.ext 205 _ _ _ (ext_indexByte Try.func205 (by kernel_rfl) rfl (by kernel_rfl) (by kernel_rfl) u x) rfl rfl rfl)) rfl rfl ?_
 refine Ch.s (.d (.int .i64 (Lib.indexByte u x))) (.pure (.assign _ rfl rfl)) ?_
 refine Ch.nil ?_
 refine T_ret ?_
 refine And.intro (.inr rfl) ?_
 exact Exists.intro [(.d (.int .i64 (Lib.indexByte u x)))] (Exists.intro [] (Exists.intro [] (And.intro (.cons (.tmp 4 rfl) .nil) (And.intro (.cons (.any _) (.cons (.any _) .nil)) (And.intro (.d _) (And.intro rfl rfl))))))

theorem sp_stringslite_Index (u : List UInt8) : Sp Try.prog 199 [(.str u), (.str ([45]))] [.any, .any] (.int .i64 (Lib.indexByte u 45)) := by
 refine Sp_intro (lend := true) Try.func199 rfl rfl rfl (fun _ => rfl) (fun c hc hX => ?_)
 refine T_seq ?_
 refine T_region hc ?_
 refine Ch.s (.d (.int .i64 0)) (.pure (.assign _ rfl rfl)) ?_
 refine Ch.nil ?_
 refine T_seq ?_
 refine T_region hc ?_
 refine Ch.s (.d (.str ([45]))) (.pure (.move _ rfl rfl)) ?_
 refine Ch.s (.d (.int .i64 1)) (.pure (.lenStr (s := ([45])) _ _ rfl Try.underlying9 rfl)) ?_
 refine Ch.s (.d (.int .i64 1)) (.pure (.assign _ rfl rfl)) ?_
 refine Ch.nil ?_
 refine T_seq ?_
 refine T_block ?_
 refine T_seq ?_
 refine T_region hc ?_
 refine Ch.s (.d (.int .i64 1)) (.pure (.move _ rfl rfl)) ?_
 refine Ch.s (.d (.bool false)) (.pure (.int _ _ _ _ _ rfl rfl rfl rfl)) ?_
 refine Ch.s (.d (.bool false)) (.pure (.move _ rfl rfl)) ?_
 refine Ch.s (.d (.str ([45]))) (.pure (.move _ rfl rfl)) ?_
 refine Ch.s (.d (.str u)) (.pure (.move _ rfl rfl)) ?_
 refine Ch.s (.d (.bool (decide (([45]) = u)))) (.pure (.str _ _ _ _ _ rfl rfl rfl rfl)) ?_
 refine Ch.s (.d (.bool (decide (([45]) = u)))) (.pure (.pickF _ _ _ rfl rfl rfl)) ?_
 refine Ch.s (.d (.bool (decide (([45]) = u)))) (.pure (.assign _ rfl rfl)) ?_
 refine Ch.nil ?_
 refine T_cond (b := (decide (([45]) = u))) rfl (fun h1 => ?_) (fun h1 => ?_)
 ·
  replace h1 := of_decide_eq_true h1
  refine T_seq ?_
  refine T_region hc ?_
  refine Ch.s (.d (.int .i64 0)) (.pure (.assign _ rfl rfl)) ?_
  refine Ch.nil ?_
  refine T_ret ?_
  refine And.intro (.inr rfl) ?_
  exact Exists.intro [(.d (.int .i64 0))] (Exists.intro [] (Exists.intro [] (And.intro (.cons (.tmp 4 rfl) .nil) (And.intro (.cons (.any _) (.cons (.any _) .nil)) (And.intro (Exp.of (congrArg (D.int .i64) (by first | rfl | (subst_vars; rfl) | (simp_all; done))) (.d _)) (And.intro rfl rfl))))))
 ·
  replace h1 := of_decide_eq_false h1
  refine T_seq ?_
  refine T_region hc ?_
  refine Ch.s (.d (.int .i64 1)) (.pure (.move _ rfl rfl)) ?_
  refine Ch.s (.d (.bool true)) (.pure (.int _ _ _ _ _ rfl rfl rfl rfl)) ?_
  refine Ch.s (.d (.bool true)) (.pure (.assign _ rfl rfl)) ?_
  refine Ch.nil ?_
  refine T_cond (b := true) rfl (fun _ => ?_) (fun h => nomatch h)
  refine T_seq ?_
  refine T_region hc ?_
  refine Ch.s (.d (.str u)) (.pure (.move _ rfl rfl)) ?_
  refine Ch.s (.d (.str ([45]))) (.pure (.move _ rfl rfl)) ?_
  refine Ch.s (.d (.int .u8 ((45 : UInt8).toNat : Int))) (.pure (.idxStr _ _ _ (0) rfl Try.underlying9 rfl rfl rfl rfl)) ?_
  refine Ch.s (.d (.int .i64 (Lib.indexByte u ((45 : UInt8) : UInt8)))) (.call 30000 201 _ _ _ en201 rfl (.inl rfl) (.cons (.d _) (.cons (.d _) .nil)) rfl rfl (sp_stringslite_IndexByte u ((45 : UInt8) : UInt8)) (.skip _ _ (.skip _ _ .nil)) rfl) ?_
  refine Ch.s (.d (.int .i64 (Lib.indexByte u ((45 : UInt8) : UInt8)))) (.pure (.assign _ rfl rfl)) ?_
  refine Ch.nil ?_
  refine T_ret ?_
  refine And.intro (.inr rfl) ?_
  exact Exists.intro [(.d (.int .i64 (Lib.indexByte u ((45 : UInt8) : UInt8))))] (Exists.intro [] (Exists.intro [] (And.intro (.cons (.tmp 4 rfl) .nil) (And.intro (.cons (.any _) (.cons (.any _) .nil)) (And.intro (Exp.of (congrArg (D.int .i64) (by first | rfl | (subst_vars; rfl) | (simp_all; done))) (.d _)) (And.intro rfl rfl))))))

theorem sp_strings_Index (u : List UInt8) : Sp Try.prog 191 [(.str u), (.str ([45]))] [.any, .any] (.int .i64 (Lib.indexByte u 45)) := by
 refine Sp_intro (lend := true) Try.func191 rfl rfl rfl (fun _ => rfl) (fun c hc hX => ?_)
 refine T_seq ?_
 refine T_region hc ?_
 refine Ch.s (.d (.int .i64 0)) (.pure (.assign _ rfl rfl)) ?_
 refine Ch.nil ?_
 refine T_seq ?_
 refine T_region hc ?_
 refine Ch.s (.d (.str u)) (.pure (.move _ rfl rfl)) ?_
 refine Ch.s (.d (.str ([45]))) (.pure (.move _ rfl rfl)) ?_
 refine Ch.s (.d (.int .i64 (Lib.indexByte u 45))) (.call 7000 199 _ _ _ en199 rfl (.inl rfl) (.cons (.d _) (.cons (.d _) .nil)) rfl rfl (sp_stringslite_Index u) (.skip _ _ (.skip _ _ .nil)) rfl) ?_
 refine Ch.s (.d (.int .i64 (Lib.indexByte u 45))) (.pure (.assign _ rfl rfl)) ?_
 refine Ch.nil ?_
 refine T_ret ?_
 refine And.intro (.inr rfl) ?_
 exact Exists.intro [(.d (.int .i64 (Lib.indexByte u 45)))] (Exists.intro [] (Exists.intro [] (And.intro (.cons (.tmp 4 rfl) .nil) (And.intro (.cons (.any _) (.cons (.any _) .nil)) (And.intro (.d _) (And.intro rfl rfl))))))

theorem sp_strings_Contains (u : List UInt8) : Sp Try.prog 176 [(.str u), (.str ([45]))] [.any, .any] (.bool (dashB u)) := by
 refine Sp_intro (lend := true) Try.func176 rfl rfl rfl (fun _ => rfl) (fun c hc hX => ?_)
 refine T_seq ?_
 refine T_region hc ?_
 refine Ch.s (.d (.bool false)) (.pure (.assign _ rfl rfl)) ?_
 refine Ch.nil ?_
 refine T_seq ?_
 refine T_region hc ?_
 refine Ch.s (.d (.str u)) (.pure (.move _ rfl rfl)) ?_
 refine Ch.s (.d (.str ([45]))) (.pure (.move _ rfl rfl)) ?_
 refine Ch.s (.d (.int .i64 (Lib.indexByte u 45))) (.call 7000 191 _ _ _ en191 rfl (.inl rfl) (.cons (.d _) (.cons (.d _) .nil)) rfl rfl (sp_strings_Index u) (.skip _ _ (.skip _ _ .nil)) rfl) ?_
 refine Ch.s (.d (.bool (decide (0 ≤ (Lib.indexByte u 45))))) (.pure (.int _ _ _ _ _ rfl rfl rfl rfl)) ?_
 refine Ch.s (.d (.bool (decide (0 ≤ (Lib.indexByte u 45))))) (.pure (.assign _ rfl rfl)) ?_
 refine Ch.nil ?_
 refine T_ret ?_
 refine And.intro (.inr rfl) ?_
 exact Exists.intro [(.d (.bool (decide (0 ≤ (Lib.indexByte u 45)))))] (Exists.intro [] (Exists.intro [] (And.intro (.cons (.tmp 4 rfl) .nil) (And.intro (.cons (.any _) (.cons (.any _) .nil)) (And.intro (Exp.of (congrArg D.bool (by rfl)) (.d _)) (And.intro rfl rfl))))))

theorem sp_impl_isCode (u : List UInt8) (n : Int) (hs : u.length ≤ 1048576) : Sp Try.prog 153 [(.str u), (.int .i64 n)] [.any, .any] (.bool (isCodeB u n)) := by
 refine Sp_intro (lend := true) Try.func153 rfl rfl rfl (fun _ => rfl) (fun c hc hX => ?_)
 refine T_seq ?_
 refine T_region hc ?_
 refine Ch.s (.d (.bool false)) (.pure (.assign _ rfl rfl)) ?_
 refine Ch.nil ?_
 refine T_seq ?_
 refine T_region hc ?_
 refine Ch.s (.d (.str u)) (.pure (.move _ rfl rfl)) ?_
 refine Ch.s (.d (.int .i64 n)) (.pure (.move _ rfl rfl)) ?_
 refine Ch.s (.d (.bool (cubeN u n))) (.call 7000 175 _ _ _ en175 rfl (.inl rfl) (.cons (.d _) (.cons (.d _) .nil)) rfl rfl (sp_impl_isCube u n (by first | omega | assumption | (exact hx _ (getD_mem (by omega))) | (exact hx _ (by assumption)) | (exact Nat.le_trans (hx _ (by assumption)) (by omega)) | (simp only [List.length_append, List.length_take, List.length_drop, List.length_cons, List.length_nil]; omega) | (simp_all; done))) (.skip _ _ (.skip _ _ .nil)) rfl) ?_
 refine Ch.s (.d (.bool (cubeN u n))) (.pure (.move _ rfl rfl)) ?_
 cases h1 : (cubeN u n) with
 | true =>
  refine Ch.s (.d (.str u)) (.pure (.move _ rfl rfl)) ?_
  refine Ch.s (.d (.bool (dashB u))) (.call 10000 176 _ _ _ en176 rfl (.inl rfl) (.cons (.d _) (.cons (.d _) .nil)) rfl rfl (sp_strings_Contains u) (.skip _ _ (.skip _ _ .nil)) rfl) ?_
  refine Ch.s (.d (.bool (!(dashB u)))) (.pure (.not _ _ rfl rfl)) ?_
  refine Ch.s (.d (.bool (!(dashB u)))) (.pure (.pickT _ _ _ rfl rfl rfl)) ?_
  refine Ch.s (.d (.bool (!(dashB u)))) (.pure (.assign _ rfl rfl)) ?_
  refine Ch.nil ?_
  refine T_ret ?_
  refine And.intro (.inr rfl) ?_
  exact Exists.intro [(.d (.bool (!(dashB u))))] (Exists.intro [] (Exists.intro [] (And.intro (.cons (.tmp 4 rfl) .nil) (And.intro (.cons (.any _) (.cons (.any _) .nil)) (And.intro (Exp.of (congrArg D.bool (by first | (simp_all; done) | simp_all [isCodeB])) (.d _)) (And.intro rfl rfl))))))
 | false =>
  refine Ch.skip rfl rfl ?_
  refine Ch.skip rfl rfl ?_
  refine Ch.skip rfl rfl ?_
  refine Ch.s (.d (.bool false)) (.pure (.pickF _ _ _ rfl rfl rfl)) ?_
  refine Ch.s (.d (.bool false)) (.pure (.assign _ rfl rfl)) ?_
  refine Ch.nil ?_
  refine T_ret ?_
  refine And.intro (.inr rfl) ?_
  exact Exists.intro [(.d (.bool false))] (Exists.intro [] (Exists.intro [] (And.intro (.cons (.tmp 4 rfl) .nil) (And.intro (.cons (.any _) (.cons (.any _) .nil)) (And.intro (Exp.of (congrArg D.bool (by first | (simp_all; done) | simp_all [isCodeB])) (.d _)) (And.intro rfl rfl))))))

theorem any_yes {τ : Type} {l : List τ} {p : τ → Bool} (d : τ) (k : Nat) (hk : k < l.length) (h : p (l.getD k d) = true) : true = l.any p := (List.any_eq_true.2 ⟨_, getD_mem hk, h⟩).symm

theorem any_no {τ : Type} {l : List τ} {p : τ → Bool} (d : τ) (h : ∀ j, j < l.length → p (l.getD j d) = false) : false = l.any p := by
  symm
  rw [List.any_eq_false]
  intro x hx
  obtain ⟨j, hj, rfl⟩ := List.mem_iff_getElem.1 hx
  have := h j hj
  simp [hj] at this
  simp [this]

theorem sp_spec_l13In (xs : List (List UInt8)) (u : List UInt8) (hn : xs.length ≤ 1048576) (hx : ∀ a ∈ xs, a.length ≤ u.length) (hu : u.length ≤ 1048576) : Sp Try.prog 54 [(.slice false 1 (xs.map D.str)), (.str u)] [.any, .any] (.bool (inB xs u)) := by
 refine Sp_intro (lend := true) Try.func54 rfl rfl rfl (fun _ => rfl) (fun c hc hX => ?_)
 refine T_seq ?_
 refine T_region hc ?_
 refine Ch.s (.d (.bool false)) (.pure (.assign _ rfl rfl)) ?_
 refine Ch.nil ?_
 refine T_seq ?_
 refine T_seq ?_
 refine T_region hc ?_
 refine Ch.s (.d (.slice false 1 (xs.map D.str))) (.pure (.move _ rfl rfl)) ?_
 refine Ch.s (.d (.int .i64 ((xs.length : Nat) : Int))) (.pure (.len _ _ 9 rfl Try.underlying23 (.sh _ _) (by simp))) ?_
 refine Ch.s (.d (.int .i64 0)) (.pure (.move _ rfl rfl)) ?_
 refine Ch.nil ?_
 refine T_block ?_
 refine T_loop (ι := Nat) (fun k => { n := 17, sl := [(1, (.d (.str u))), (7, (.d (.slice false 1 (xs.map D.str)))), (8, (.d (.int .i64 ((xs.length : Nat) : Int)))), (9, (.d (.int .i64 ((k : Nat) : Int))))], hp := [], pin := [] }) (fun k => k ≤ xs.length ∧ ∀ j, j < k → hasB (xs.getD j default) u = false) (fun k => xs.length - k) ⟨0, ⟨by omega, fun j hj => by omega⟩, (Wk.of rfl rfl (And.intro rfl (And.intro rfl (And.intro rfl (And.intro (vI (by first | rfl | omega | (simp; done) | (simp; omega))) trivial)))) trivial)⟩ (fun k hp0 => ?_)
 refine T_seq ?_
 refine T_region hc ?_
 refine Ch.s (.d (.bool (decide (((k : Nat) : Int) < ((xs.length : Nat) : Int))))) (.pure (.int _ _ _ _ _ rfl rfl rfl rfl)) ?_
 refine Ch.nil ?_
 refine T_seq ?_
 refine T_cond (b := (decide (((k : Nat) : Int) < ((xs.length : Nat) : Int)))) rfl (fun h1 => ?_) (fun h1 => ?_)
 ·
  replace h1 := of_decide_eq_true h1
  try have hk := hx _ (getD_mem (l := xs) (j := k) (d := default) (by omega))
  refine T_skip ?_
  refine T_seq ?_
  refine T_block ?_
  refine T_seq ?_
  refine T_region hc ?_
  refine Ch.s (.d (.ref (.str (xs.getD k default)))) (.pure (.idx _ _ _ 9 (k) rfl Try.underlying23 sz9 rfl rfl rfl get_mapA)) ?_
  refine Ch.s (.d (.str (xs.getD k default))) (.pure (.loadRef1 _ _ rfl ag9 rfl rfl)) ?_
  refine Ch.s (.d (.str (xs.getD k default))) (.pure (.assign _ rfl rfl)) ?_
  refine Ch.nil ?_
  refine T_seq ?_
  refine T_region hc ?_
  refine Ch.s (.d (.str (xs.getD k default))) (.pure (.move _ rfl rfl)) ?_
  refine Ch.s (.d (.str u)) (.pure (.move _ rfl rfl)) ?_
  refine Ch.s (.d (.bool (hasB (xs.getD k default) u))) (.call 15000 53 _ _ _ en53 rfl (.inl rfl) (.cons (.d _) (.cons (.d _) .nil)) rfl rfl (sp_spec_l13Has (xs.getD k default) u (by first | omega | assumption | (exact hx _ (getD_mem (by omega))) | (exact hx _ (by assumption)) | (exact Nat.le_trans (hx _ (by assumption)) (by omega)) | (simp only [List.length_append, List.length_take, List.length_drop, List.length_cons, List.length_nil]; omega) | (simp_all; done)) (by first | omega | assumption | (exact hx _ (getD_mem (by omega))) | (exact hx _ (by assumption)) | (exact Nat.le_trans (hx _ (by assumption)) (by omega)) | (simp only [List.length_append, List.length_take, List.length_drop, List.length_cons, List.length_nil]; omega) | (simp_all; done))) (.skip _ _ (.skip _ _ .nil)) rfl) ?_
  refine Ch.nil ?_
  refine T_cond (b := (hasB (xs.getD k default) u)) rfl (fun h2 => ?_) (fun h2 => ?_)
  ·
   refine T_seq ?_
   refine T_region hc ?_
   refine Ch.s (.d (.bool true)) (.pure (.assign _ rfl rfl)) ?_
   refine Ch.nil ?_
   refine T_ret ?_
   refine And.intro (.inr rfl) ?_
   exact Exists.intro [(.d (.bool true))] (Exists.intro [] (Exists.intro [] (And.intro (.cons (.tmp 4 rfl) .nil) (And.intro (.cons (.any _) (.cons (.any _) .nil)) (And.intro (Exp.of (congrArg D.bool (by exact any_yes default k (by omega) (by assumption))) (.d _)) (And.intro rfl rfl))))))
  ·
   refine T_skip ?_
   refine T_region hc ?_
   refine Ch.s (.d (.int .i64 (((k : Nat) : Int) + 1))) (.pure (.int _ _ _ _ _ rfl rfl rfl intV_addA)) ?_
   refine Ch.s (.d (.int .i64 (((k : Nat) : Int) + 1))) (.pure (.move _ rfl rfl)) ?_
   refine Ch.nil ?_
   refine Exists.intro (k + 1) (And.intro ⟨by omega, upto_succ hp0.2 (by assumption)⟩ (And.intro (by first | omega | (dsimp only; omega)) (Wk.of rfl rfl (And.intro rfl (And.intro rfl (And.intro rfl (And.intro (vI (by first | rfl | omega | (simp; done) | (simp; omega))) trivial)))) trivial)))
 ·
  replace h1 := of_decide_eq_false h1
  try have hk := hx _ (getD_mem (l := xs) (j := k) (d := default) (by omega))
  refine T_exit ?_
  refine T_seq ?_
  refine T_region hc ?_
  refine Ch.s (.d (.bool false)) (.pure (.assign _ rfl rfl)) ?_
  refine Ch.nil ?_
  refine T_ret ?_
  refine And.intro (.inr rfl) ?_
  exact Exists.intro [(.d (.bool false))] (Exists.intro [] (Exists.intro [] (And.intro (.cons (.tmp 4 rfl) .nil) (And.intro (.cons (.any _) (.cons (.any _) .nil)) (And.intro (Exp.of (congrArg D.bool (by exact any_no default (fun j hj => hp0.2 j (by omega)))) (.d _)) (And.intro rfl rfl))))))

theorem en154 : Enters Try.prog 154 := ⟨_, Try.func154, by kernel_rfl, rfl⟩

theorem en69 : Enters Try.prog 69 := ⟨_, Try.func69, by kernel_rfl, rfl⟩

theorem en153 : Enters Try.prog 153 := ⟨_, Try.func153, by kernel_rfl, rfl⟩

theorem en68 : Enters Try.prog 68 := ⟨_, Try.func68, by kernel_rfl, rfl⟩

theorem en131 : Enters Try.prog 131 := ⟨_, Try.func131, by kernel_rfl, rfl⟩

theorem en132 : Enters Try.prog 132 := ⟨_, Try.func132, by kernel_rfl, rfl⟩

theorem ag23 : AggIs Try.prog 23 false := by unfold AggIs; kernel_rfl

theorem en102 : Enters Try.prog 102 := ⟨_, Try.func102, by kernel_rfl, rfl⟩

theorem en99 : Enters Try.prog 99 := ⟨_, Try.func99, by kernel_rfl, rfl⟩

theorem en101 : Enters Try.prog 101 := ⟨_, Try.func101, by kernel_rfl, rfl⟩

theorem en100 : Enters Try.prog 100 := ⟨_, Try.func100, by kernel_rfl, rfl⟩

def hasS (xs : List (List UInt8)) (u : List UInt8) : Bool := xs.any fun a => decide (a = u)

def upB (xs : List (List UInt8)) (j : Nat) : Bool := decide (j = 0) || Op.bytesLess (xs.getD (j - 1) default) (xs.getD j default)

def codesB (n : Int) (xs : List (List UInt8)) : Bool := allB xs.length fun j => codeN (xs.getD j default) n && upB xs j

def codesI (n : Int) (xs : List (List UInt8)) : Bool := allB xs.length fun j => isCodeB (xs.getD j default) n && upB xs j

def onoffB (n : Int) (xs ys : List (List UInt8)) : Bool := withinB n 1 8 && (decide ((xs.length : Int) ≤ 64) && (decide ((ys.length : Int) ≤ 256) && (codesB n xs && (codesB n ys && allOf xs (fun u => !hasS ys u)))))

theorem codesI_eq {n : Int} (h : withinB n 1 8 = true) (xs : List (List UInt8)) : codesI n xs = codesB n xs := by
  unfold codesI codesB
  apply allB_congr
  intro j _
  rw [code_eq, h, Bool.and_true]

theorem has_any (xs ys : List (List UInt8)) : (xs.any fun u => hasS ys u) = !allOf xs (fun u => !hasS ys u) := by
  rw [← any_not]; congr 1; funext u; rw [Bool.not_not]

theorem onoff_impl (n : Int) (xs ys : List (List UInt8)) : onoffB n xs ys = (withinB n 1 8 && ((codesI n xs && decide ((xs.length : Int) ≤ 64)) && ((codesI n ys && decide ((ys.length : Int) ≤ 256)) && !(xs.any fun u => hasS ys u)))) := by
  unfold onoffB
  cases hw : withinB n 1 8 with
  | false => rfl
  | true =>
    rw [codesI_eq hw, codesI_eq hw, has_any, Bool.not_not]
    cases codesB n xs <;> cases codesB n ys <;> cases decide ((xs.length : Int) ≤ 64) <;> cases decide ((ys.length : Int) ≤ 256) <;> simp

theorem sp_spec_l1HasS (xs : List (List UInt8)) (u : List UInt8) (hn : xs.length ≤ 1048576) : Sp Try.prog 132 [(.slice false 1 (xs.map D.str)), (.str u)] [.any, .any] (.bool (hasS xs u)) := by
 refine Sp_intro (lend := true) Try.func132 rfl rfl rfl (fun _ => rfl) (fun c hc hX => ?_)
 refine T_seq ?_
 refine T_region hc ?_
 refine Ch.s (.d (.bool false)) (.pure (.assign _ rfl rfl)) ?_
 refine Ch.nil ?_
 refine T_seq ?_
 refine T_seq ?_
 refine T_region hc ?_
 refine Ch.s (.d (.slice false 1 (xs.map D.str))) (.pure (.move _ rfl rfl)) ?_
 refine Ch.s (.d (.int .i64 ((xs.length : Nat) : Int))) (.pure (.len _ _ 9 rfl Try.underlying23 (.sh _ _) (by simp))) ?_
 refine Ch.s (.d (.int .i64 0)) (.pure (.move _ rfl rfl)) ?_
 refine Ch.nil ?_
 refine T_block ?_
 refine T_loop (ι := Nat) (fun k => { n := 17, sl := [(1, (.d (.str u))), (7, (.d (.slice false 1 (xs.map D.str)))), (8, (.d (.int .i64 ((xs.length : Nat) : Int)))), (9, (.d (.int .i64 ((k : Nat) : Int))))], hp := [], pin := [] }) (fun k => k ≤ xs.length ∧ ∀ j, j < k → decide (xs.getD j default = u) = false) (fun k => xs.length - k) ⟨0, ⟨by omega, fun j hj => by omega⟩, (Wk.of rfl rfl (And.intro rfl (And.intro rfl (And.intro rfl (And.intro (vI (by first | rfl | omega | (simp; done) | (simp; omega))) trivial)))) trivial)⟩ (fun k hp0 => ?_)
 refine T_seq ?_
 refine T_region hc ?_
 refine Ch.s (.d (.bool (decide (((k : Nat) : Int) < ((xs.length : Nat) : Int))))) (.pure (.int _ _ _ _ _ rfl rfl rfl rfl)) ?_
 refine Ch.nil ?_
 refine T_seq ?_
 refine T_cond (b := (decide (((k : Nat) : Int) < ((xs.length : Nat) : Int)))) rfl (fun h1 => ?_) (fun h1 => ?_)
 ·
  replace h1 := of_decide_eq_true h1
  refine T_skip ?_
  refine T_seq ?_
  refine T_block ?_
  refine T_seq ?_
  refine T_region hc ?_
  refine Ch.s (.d (.ref (.str (xs.getD k default)))) (.pure (.idx _ _ _ 9 (k) rfl Try.underlying23 sz9 rfl rfl rfl get_mapA)) ?_
  refine Ch.s (.d (.str (xs.getD k default))) (.pure (.loadRef1 _ _ rfl ag9 rfl rfl)) ?_
  refine Ch.s (.d (.str (xs.getD k default))) (.pure (.assign _ rfl rfl)) ?_
  refine Ch.nil ?_
  refine T_seq ?_
  refine T_region hc ?_
  refine Ch.s (.d (.str (xs.getD k default))) (.pure (.move _ rfl rfl)) ?_
  refine Ch.s (.d (.str u)) (.pure (.move _ rfl rfl)) ?_
  refine Ch.s (.d (.bool (decide ((xs.getD k default) = u)))) (.pure (.str _ _ _ _ _ rfl rfl rfl rfl)) ?_
  refine Ch.nil ?_
  refine T_cond (b := (decide ((xs.getD k default) = u))) rfl (fun h2 => ?_) (fun h2 => ?_)
  ·
   replace h2 := of_decide_eq_true h2
   refine T_seq ?_
   refine T_region hc ?_
   refine Ch.s (.d (.bool true)) (.pure (.assign _ rfl rfl)) ?_
   refine Ch.nil ?_
   refine T_ret ?_
   refine And.intro (.inr rfl) ?_
   exact Exists.intro [(.d (.bool true))] (Exists.intro [] (Exists.intro [] (And.intro (.cons (.tmp 4 rfl) .nil) (And.intro (.cons (.any _) (.cons (.any _) .nil)) (And.intro (Exp.of (congrArg D.bool (by exact any_yes default k (by omega) (by simp_all))) (.d _)) (And.intro rfl rfl))))))
  ·
   replace h2 := of_decide_eq_false h2
   refine T_skip ?_
   refine T_region hc ?_
   refine Ch.s (.d (.int .i64 (((k : Nat) : Int) + 1))) (.pure (.int _ _ _ _ _ rfl rfl rfl intV_addA)) ?_
   refine Ch.s (.d (.int .i64 (((k : Nat) : Int) + 1))) (.pure (.move _ rfl rfl)) ?_
   refine Ch.nil ?_
   refine Exists.intro (k + 1) (And.intro ⟨by omega, upto_succ hp0.2 (by first | (simp_all; done) | (exact decide_eq_false (fun e => h2 e.symm)))⟩ (And.intro (by first | omega | (dsimp only; omega)) (Wk.of rfl rfl (And.intro rfl (And.intro rfl (And.intro rfl (And.intro (vI (by first | rfl | omega | (simp; done) | (simp; omega))) trivial)))) trivial)))
 ·
  replace h1 := of_decide_eq_false h1
  refine T_exit ?_
  refine T_seq ?_
  refine T_region hc ?_
  refine Ch.s (.d (.bool false)) (.pure (.assign _ rfl rfl)) ?_
  refine Ch.nil ?_
  refine T_ret ?_
  refine And.intro (.inr rfl) ?_
  exact Exists.intro [(.d (.bool false))] (Exists.intro [] (Exists.intro [] (And.intro (.cons (.tmp 4 rfl) .nil) (And.intro (.cons (.any _) (.cons (.any _) .nil)) (And.intro (Exp.of (congrArg D.bool (by exact any_no default (fun j hj => hp0.2 j (by omega)))) (.d _)) (And.intro rfl rfl))))))

theorem sp_Index_str (xs : List (List UInt8)) (u : List UInt8) (hn : xs.length ≤ 1048576) : Sp Try.prog 154 [(.slice false 1 (xs.map D.str)), (.str u)] [.any, .any] (.int .i64 (ixF (fun a => decide (a = u)) xs)) := by
 refine Sp_intro (lend := true) Try.func154 rfl rfl rfl (fun _ => rfl) (fun c hc hX => ?_)
 refine T_seq ?_
 refine T_region hc ?_
 refine Ch.s (.d (.int .i64 0)) (.pure (.assign _ rfl rfl)) ?_
 refine Ch.nil ?_
 refine T_seq ?_
 refine T_seq ?_
 refine T_region hc ?_
 refine Ch.s (.d (.slice false 1 (xs.map D.str))) (.pure (.move _ rfl rfl)) ?_
 refine Ch.s (.d (.int .i64 ((xs.length : Nat) : Int))) (.pure (.len _ _ 9 rfl Try.underlying23 (.sh _ _) (by simp))) ?_
 refine Ch.s (.d (.int .i64 0)) (.pure (.move _ rfl rfl)) ?_
 refine Ch.nil ?_
 refine T_block ?_
 refine T_loop (ι := Nat) (fun k => { n := 19, sl := [(0, (.d (.slice false 1 (xs.map D.str)))), (1, (.d (.str u))), (7, (.d (.int .i64 ((xs.length : Nat) : Int)))), (8, (.d (.int .i64 ((k : Nat) : Int))))], hp := [], pin := [] }) (fun k => k ≤ xs.length ∧ ∀ j, j < k → decide (xs.getD j default = u) = false) (fun k => xs.length - k) ⟨0, ⟨by omega, fun j hj => by omega⟩, (Wk.of rfl rfl (And.intro rfl (And.intro rfl (And.intro rfl (And.intro (vI (by first | rfl | omega | (simp; done) | (simp; omega))) trivial)))) trivial)⟩ (fun k hp0 => ?_)
 refine T_seq ?_
 refine T_region hc ?_
 refine Ch.s (.d (.bool (decide (((k : Nat) : Int) < ((xs.length : Nat) : Int))))) (.pure (.int _ _ _ _ _ rfl rfl rfl rfl)) ?_
 refine Ch.nil ?_
 refine T_seq ?_
 refine T_cond (b := (decide (((k : Nat) : Int) < ((xs.length : Nat) : Int)))) rfl (fun h1 => ?_) (fun h1 => ?_)
 ·
  replace h1 := of_decide_eq_true h1
  refine T_skip ?_
  refine T_seq ?_
  refine T_block ?_
  refine T_seq ?_
  refine T_region hc ?_
  refine Ch.s (.d (.int .i64 ((k : Nat) : Int))) (.pure (.move _ rfl rfl)) ?_
  refine Ch.s (.d (.int .i64 ((k : Nat) : Int))) (.pure (.assign _ rfl rfl)) ?_
  refine Ch.nil ?_
  refine T_seq ?_
  refine T_region hc ?_
  refine Ch.s (.d (.str u)) (.pure (.move _ rfl rfl)) ?_
  refine Ch.s (.d (.slice false 1 (xs.map D.str))) (.pure (.move _ rfl rfl)) ?_
  refine Ch.s (.d (.int .i64 ((k : Nat) : Int))) (.pure (.move _ rfl rfl)) ?_
  refine Ch.s (.d (.ref (.str (xs.getD k default)))) (.pure (.idx _ _ _ 9 (k) rfl Try.underlying23 sz9 rfl rfl rfl get_mapA)) ?_
  refine Ch.s (.d (.str (xs.getD k default))) (.pure (.loadRef1 _ _ rfl ag9 rfl rfl)) ?_
  refine Ch.s (.d (.bool (decide (u = (xs.getD k default))))) (.pure (.str _ _ _ _ _ rfl rfl rfl rfl)) ?_
  refine Ch.nil ?_
  refine T_cond (b := (decide (u = (xs.getD k default)))) rfl (fun h2 => ?_) (fun h2 => ?_)
  ·
   replace h2 := of_decide_eq_true h2
   refine T_seq ?_
   refine T_region hc ?_
   refine Ch.s (.d (.int .i64 ((k : Nat) : Int))) (.pure (.move _ rfl rfl)) ?_
   refine Ch.s (.d (.int .i64 ((k : Nat) : Int))) (.pure (.assign _ rfl rfl)) ?_
   refine Ch.nil ?_
   refine T_ret ?_
   refine And.intro (.inr rfl) ?_
   exact Exists.intro [(.d (.int .i64 ((k : Nat) : Int)))] (Exists.intro [] (Exists.intro [] (And.intro (.cons (.tmp 4 rfl) .nil) (And.intro (.cons (.any _) (.cons (.any _) .nil)) (And.intro (Exp.of (congrArg (D.int .i64) (by exact (ixF_some (d := default) (by omega) hp0.2 (by simp_all)).symm)) (.d _)) (And.intro rfl rfl))))))
  ·
   replace h2 := of_decide_eq_false h2
   refine T_skip ?_
   refine T_region hc ?_
   refine Ch.s (.d (.int .i64 (((k : Nat) : Int) + 1))) (.pure (.int _ _ _ _ _ rfl rfl rfl intV_addA)) ?_
   refine Ch.s (.d (.int .i64 (((k : Nat) : Int) + 1))) (.pure (.move _ rfl rfl)) ?_
   refine Ch.nil ?_
   refine Exists.intro (k + 1) (And.intro ⟨by omega, upto_succ hp0.2 (by first | (simp_all; done) | (exact decide_eq_false (fun e => h2 e.symm)))⟩ (And.intro (by first | omega | (dsimp only; omega)) (Wk.of rfl rfl (And.intro rfl (And.intro rfl (And.intro rfl (And.intro (vI (by first | rfl | omega | (simp; done) | (simp; omega))) trivial)))) trivial)))
 ·
  replace h1 := of_decide_eq_false h1
  refine T_exit ?_
  refine T_seq ?_
  refine T_region hc ?_
  refine Ch.s (.d (.int .i64 (-1))) (.pure (.assign _ rfl rfl)) ?_
  refine Ch.nil ?_
  refine T_ret ?_
  refine And.intro (.inr rfl) ?_
  exact Exists.intro [(.d (.int .i64 (-1)))] (Exists.intro [] (Exists.intro [] (And.intro (.cons (.tmp 4 rfl) .nil) (And.intro (.cons (.any _) (.cons (.any _) .nil)) (And.intro (Exp.of (congrArg (D.int .i64) (by exact (ixF_none (d := default) (fun j hj => hp0.2 j (by omega))).symm)) (.d _)) (And.intro rfl rfl))))))

theorem sp_Contains_str (xs : List (List UInt8)) (u : List UInt8) (hn : xs.length ≤ 1048576) : Sp Try.prog 102 [(.slice false 1 (xs.map D.str)), (.str u)] [.any, .any] (.bool (hasS xs u)) := by
 refine Sp_intro (lend := true) Try.func102 rfl rfl rfl (fun _ => rfl) (fun c hc hX => ?_)
 refine T_seq ?_
 refine T_region hc ?_
 refine Ch.s (.d (.bool false)) (.pure (.assign _ rfl rfl)) ?_
 refine Ch.nil ?_
 refine T_seq ?_
 refine T_region hc ?_
 refine Ch.s (.d (.slice false 1 (xs.map D.str))) (.pure (.move _ rfl rfl)) ?_
 refine Ch.s (.d (.str u)) (.pure (.move _ rfl rfl)) ?_
 refine Ch.s (.d (.int .i64 (ixF (fun a => decide (a = u)) xs))) (.call 7000 154 _ _ _ en154 rfl (.inl rfl) (.cons (.d _) (.cons (.d _) .nil)) rfl rfl (sp_Index_str xs u (by first | omega | assumption | (exact hx _ (getD_mem (by omega))) | (exact hx _ (by assumption)) | (exact Nat.le_trans (hx _ (by assumption)) (by omega)) | (simp only [List.length_append, List.length_take, List.length_drop, List.length_cons, List.length_nil]; omega) | (simp_all; done))) (.skip _ _ (.skip _ _ .nil)) rfl) ?_
 refine Ch.s (.d (.bool (decide (0 ≤ (ixF (fun a => decide (a = u)) xs))))) (.pure (.int _ _ _ _ _ rfl rfl rfl rfl)) ?_
 refine Ch.s (.d (.bool (decide (0 ≤ (ixF (fun a => decide (a = u)) xs))))) (.pure (.assign _ rfl rfl)) ?_
 refine Ch.nil ?_
 refine T_ret ?_
 refine And.intro (.inr rfl) ?_
 exact Exists.intro [(.d (.bool (decide (0 ≤ (ixF (fun a => decide (a = u)) xs)))))] (Exists.intro [] (Exists.intro [] (And.intro (.cons (.tmp 4 rfl) .nil) (And.intro (.cons (.any _) (.cons (.any _) .nil)) (And.intro (Exp.of (congrArg D.bool (by exact ixF_nonneg _ xs)) (.d _)) (And.intro rfl rfl))))))

theorem sp_spec_l14Codes (n : Int) (xs : List (List UInt8)) (hn : xs.length ≤ 1048576) (hx : ∀ x ∈ xs, x.length ≤ 1048576) : Sp Try.prog 131 [(.int .i64 n), (.slice false 1 (xs.map D.str))] [.any, .any] (.bool (codesB n xs)) := by
 refine Sp_intro (lend := true) Try.func131 rfl rfl rfl (fun _ => rfl) (fun c hc hX => ?_)
 refine T_seq ?_
 refine T_region hc ?_
 refine Ch.s (.d (.bool false)) (.pure (.assign _ rfl rfl)) ?_
 refine Ch.nil ?_
 refine T_seq ?_
 refine T_seq ?_
 refine T_region hc ?_
 refine Ch.s (.d (.slice false 1 (xs.map D.str))) (.pure (.move _ rfl rfl)) ?_
 refine Ch.s (.d (.int .i64 ((xs.length : Nat) : Int))) (.pure (.len _ _ 9 rfl Try.underlying23 (.sh _ _) (by simp))) ?_
 refine Ch.s (.d (.int .i64 0)) (.pure (.move _ rfl rfl)) ?_
 refine Ch.nil ?_
 refine T_block ?_
 refine T_loop (ι := Nat) (fun k => { n := 32, sl := [(0, (.d (.int .i64 n))), (1, (.d (.slice false 1 (xs.map D.str)))), (7, (.d (.slice false 1 (xs.map D.str)))), (8, (.d (.int .i64 ((xs.length : Nat) : Int)))), (9, (.d (.int .i64 ((k : Nat) : Int))))], hp := [], pin := [] }) (fun k => k ≤ xs.length ∧ ∀ j, j < k → (codeN (xs.getD j default) n && upB xs j) = true) (fun k => xs.length - k) ⟨0, ⟨by omega, fun j hj => by omega⟩, (Wk.of rfl rfl (And.intro rfl (And.intro rfl (And.intro rfl (And.intro rfl (And.intro (vI (by first | rfl | omega | (simp; done) | (simp; omega))) trivial))))) trivial)⟩ (fun k hp0 => ?_)
 refine T_seq ?_
 refine T_region hc ?_
 refine Ch.s (.d (.bool (decide (((k : Nat) : Int) < ((xs.length : Nat) : Int))))) (.pure (.int _ _ _ _ _ rfl rfl rfl rfl)) ?_
 refine Ch.nil ?_
 refine T_seq ?_
 refine T_cond (b := (decide (((k : Nat) : Int) < ((xs.length : Nat) : Int)))) rfl (fun h1 => ?_) (fun h1 => ?_)
 ·
  replace h1 := of_decide_eq_true h1
  refine T_skip ?_
  refine T_seq ?_
  refine T_block ?_
  refine T_seq ?_
  refine T_region hc ?_
  refine Ch.s (.d (.int .i64 ((k : Nat) : Int))) (.pure (.move _ rfl rfl)) ?_
  refine Ch.s (.d (.ref (.str (xs.getD k default)))) (.pure (.idx _ _ _ 9 (k) rfl Try.underlying23 sz9 rfl rfl rfl get_mapA)) ?_
  refine Ch.s (.d (.str (xs.getD k default))) (.pure (.loadRef1 _ _ rfl ag9 rfl rfl)) ?_
  refine Ch.s (.d (.int .i64 ((k : Nat) : Int))) (.pure (.assign _ rfl rfl)) ?_
  refine Ch.s (.d (.str (xs.getD k default))) (.pure (.assign _ rfl rfl)) ?_
  refine Ch.nil ?_
  refine T_seq ?_
  refine T_region hc ?_
  refine Ch.s (.d (.str (xs.getD k default))) (.pure (.move _ rfl rfl)) ?_
  refine Ch.s (.d (.int .i64 n)) (.pure (.move _ rfl rfl)) ?_
  refine Ch.s (.d (.bool (codeN (xs.getD k default) n))) (.call 16000 69 _ _ _ en69 rfl (.inl rfl) (.cons (.d _) (.cons (.d _) .nil)) rfl rfl (sp_spec_l5Code (xs.getD k default) n (by first | omega | assumption | (exact hx _ (getD_mem (by omega))) | (exact hx _ (by assumption)) | (exact Nat.le_trans (hx _ (by assumption)) (by omega)) | (simp only [List.length_append, List.length_take, List.length_drop, List.length_cons, List.length_nil]; omega) | (simp_all; done))) (.skip _ _ (.skip _ _ .nil)) rfl) ?_
  refine Ch.s (.d (.bool (!(codeN (xs.getD k default) n)))) (.pure (.not _ _ rfl rfl)) ?_
  refine Ch.s (.d (.bool (!(codeN (xs.getD k default) n)))) (.pure (.move _ rfl rfl)) ?_
  cases h2 : (codeN (xs.getD k default) n) with
  | true =>
   refine Ch.s (.d (.int .i64 ((k : Nat) : Int))) (.pure (.move _ rfl rfl)) ?_
   refine Ch.s (.d (.bool (decide (0 < ((k : Nat) : Int))))) (.pure (.int _ _ _ _ _ rfl rfl rfl rfl)) ?_
   refine Ch.s (.d (.bool (decide (0 < ((k : Nat) : Int))))) (.pure (.move _ rfl rfl)) ?_
   cases h3 : (decide (0 < ((k : Nat) : Int))) with
   | true =>
    replace h3 := of_decide_eq_true h3
    refine Ch.s (.d (.slice false 1 (xs.map D.str))) (.pure (.move _ rfl rfl)) ?_
    refine Ch.s (.d (.int .i64 ((k : Nat) : Int))) (.pure (.move _ rfl rfl)) ?_
    refine Ch.s (.d (.int .i64 (((k : Nat) : Int) - 1))) (.pure (.int _ _ _ _ _ rfl rfl rfl intV_subA)) ?_
    refine Ch.s (.d (.ref (.str (xs.getD (k - 1) default)))) (.pure (.idx _ _ _ 9 ((k - 1)) rfl Try.underlying23 sz9 rfl rfl (by omega) get_mapA)) ?_
    refine Ch.s (.d (.str (xs.getD (k - 1) default))) (.pure (.loadRef1 _ _ rfl ag9 rfl rfl)) ?_
    refine Ch.s (.d (.str (xs.getD k default))) (.pure (.move _ rfl rfl)) ?_
    refine Ch.s (.d (.bool (!(Op.bytesLess (xs.getD (k - 1) default) (xs.getD k default))))) (.pure (.str _ _ _ _ _ rfl rfl rfl rfl)) ?_
    refine Ch.s (.d (.bool (!(Op.bytesLess (xs.getD (k - 1) default) (xs.getD k default))))) (.pure (.pickT _ _ _ rfl rfl rfl)) ?_
    refine Ch.s (.d (.bool (!(Op.bytesLess (xs.getD (k - 1) default) (xs.getD k default))))) (.pure (.pickF _ _ _ rfl rfl rfl)) ?_
    refine Ch.nil ?_
    refine T_cond (b := (!(Op.bytesLess (xs.getD (k - 1) default) (xs.getD k default)))) rfl (fun h4 => ?_) (fun h4 => ?_)
    ·
     replace h4 := nott h4
     refine T_seq ?_
     refine T_region hc ?_
     refine Ch.s (.d (.bool false)) (.pure (.assign _ rfl rfl)) ?_
     refine Ch.nil ?_
     refine T_ret ?_
     refine And.intro (.inr rfl) ?_
     exact Exists.intro [(.d (.bool false))] (Exists.intro [] (Exists.intro [] (And.intro (.cons (.tmp 4 rfl) .nil) (And.intro (.cons (.any _) (.cons (.any _) .nil)) (And.intro (Exp.of (congrArg D.bool (by first | (rw [codesB, allB_no k (by omega) (by first | (simp_all [upB]; done) | (simp_all [upB]; omega))]; done) | (rw [codesB, allB_of (fun j hj => hp0.2 j (by omega))]; done))) (.d _)) (And.intro rfl rfl))))))
    ·
     replace h4 := notf h4
     refine T_skip ?_
     refine T_region hc ?_
     refine Ch.s (.d (.int .i64 (((k : Nat) : Int) + 1))) (.pure (.int _ _ _ _ _ rfl rfl rfl intV_addA)) ?_
     refine Ch.s (.d (.int .i64 (((k : Nat) : Int) + 1))) (.pure (.move _ rfl rfl)) ?_
     refine Ch.nil ?_
     refine Exists.intro (k + 1) (And.intro ⟨by omega, upto_succ hp0.2 (by first | (simp_all [upB]; done) | (simp_all [upB]; omega))⟩ (And.intro (by first | omega | (dsimp only; omega)) (Wk.of rfl rfl (And.intro rfl (And.intro rfl (And.intro rfl (And.intro rfl (And.intro (vI (by first | rfl | omega | (simp; done) | (simp; omega))) trivial))))) trivial)))
   | false =>
    replace h3 := of_decide_eq_false h3
    refine Ch.skip rfl rfl ?_
    refine Ch.skip rfl rfl ?_
    refine Ch.skip rfl rfl ?_
    refine Ch.skip rfl rfl ?_
    refine Ch.skip rfl rfl ?_
    refine Ch.skip rfl rfl ?_
    refine Ch.skip rfl rfl ?_
    refine Ch.s (.d (.bool false)) (.pure (.pickF _ _ _ rfl rfl rfl)) ?_
    refine Ch.s (.d (.bool false)) (.pure (.pickF _ _ _ rfl rfl rfl)) ?_
    refine Ch.nil ?_
    refine T_cond (b := false) rfl (fun h => nomatch h) (fun _ => ?_)
    refine T_skip ?_
    refine T_region hc ?_
    refine Ch.s (.d (.int .i64 (((k : Nat) : Int) + 1))) (.pure (.int _ _ _ _ _ rfl rfl rfl intV_addA)) ?_
    refine Ch.s (.d (.int .i64 (((k : Nat) : Int) + 1))) (.pure (.move _ rfl rfl)) ?_
    refine Ch.nil ?_
    refine Exists.intro (k + 1) (And.intro ⟨by omega, upto_succ hp0.2 (by first | (simp_all [upB]; done) | (simp_all [upB]; omega))⟩ (And.intro (by first | omega | (dsimp only; omega)) (Wk.of rfl rfl (And.intro rfl (And.intro rfl (And.intro rfl (And.intro rfl (And.intro (vI (by first | rfl | omega | (simp; done) | (simp; omega))) trivial))))) trivial)))
  | false =>
   refine Ch.skip rfl rfl ?_
   refine Ch.skip rfl rfl ?_
   refine Ch.skip rfl rfl ?_
   refine Ch.skip rfl rfl ?_
   refine Ch.skip rfl rfl ?_
   refine Ch.skip rfl rfl ?_
   refine Ch.skip rfl rfl ?_
   refine Ch.skip rfl rfl ?_
   refine Ch.skip rfl rfl ?_
   refine Ch.skip rfl rfl ?_
   refine Ch.skip rfl rfl ?_
   refine Ch.s (.d (.bool true)) (.pure (.pickT _ _ _ rfl rfl rfl)) ?_
   refine Ch.nil ?_
   refine T_cond (b := true) rfl (fun _ => ?_) (fun h => nomatch h)
   refine T_seq ?_
   refine T_region hc ?_
   refine Ch.s (.d (.bool false)) (.pure (.assign _ rfl rfl)) ?_
   refine Ch.nil ?_
   refine T_ret ?_
   refine And.intro (.inr rfl) ?_
   exact Exists.intro [(.d (.bool false))] (Exists.intro [] (Exists.intro [] (And.intro (.cons (.tmp 4 rfl) .nil) (And.intro (.cons (.any _) (.cons (.any _) .nil)) (And.intro (Exp.of (congrArg D.bool (by first | (rw [codesB, allB_no k (by omega) (by first | (simp_all [upB]; done) | (simp_all [upB]; omega))]; done) | (rw [codesB, allB_of (fun j hj => hp0.2 j (by omega))]; done))) (.d _)) (And.intro rfl rfl))))))
 ·
  replace h1 := of_decide_eq_false h1
  refine T_exit ?_
  refine T_seq ?_
  refine T_region hc ?_
  refine Ch.s (.d (.bool true)) (.pure (.assign _ rfl rfl)) ?_
  refine Ch.nil ?_
  refine T_ret ?_
  refine And.intro (.inr rfl) ?_
  exact Exists.intro [(.d (.bool true))] (Exists.intro [] (Exists.intro [] (And.intro (.cons (.tmp 4 rfl) .nil) (And.intro (.cons (.any _) (.cons (.any _) .nil)) (And.intro (Exp.of (congrArg D.bool (by first | (rw [codesB, allB_no k (by omega) (by first | (simp_all [upB]; done) | (simp_all [upB]; omega))]; done) | (rw [codesB, allB_of (fun j hj => hp0.2 j (by omega))]; done))) (.d _)) (And.intro rfl rfl))))))

theorem sp_impl_areCodes (n : Int) (xs : List (List UInt8)) (most : Int) (hn : xs.length ≤ 1048576) (hx : ∀ x ∈ xs, x.length ≤ 1048576) : Sp Try.prog 99 [(.int .i64 n), (.slice false 1 (xs.map D.str)), (.int .i64 most)] [.any, .any, .any] (.bool (codesI n xs && decide ((xs.length : Int) ≤ most))) := by
 refine Sp_intro (lend := true) Try.func99 rfl rfl rfl (fun _ => rfl) (fun c hc hX => ?_)
 refine T_seq ?_
 refine T_region hc ?_
 refine Ch.s (.d (.bool false)) (.pure (.assign _ rfl rfl)) ?_
 refine Ch.nil ?_
 refine T_seq ?_
 refine T_seq ?_
 refine T_region hc ?_
 refine Ch.s (.d (.slice false 1 (xs.map D.str))) (.pure (.move _ rfl rfl)) ?_
 refine Ch.s (.d (.int .i64 ((xs.length : Nat) : Int))) (.pure (.len _ _ 9 rfl Try.underlying23 (.sh _ _) (by simp))) ?_
 refine Ch.s (.d (.int .i64 0)) (.pure (.move _ rfl rfl)) ?_
 refine Ch.nil ?_
 refine T_block ?_
 refine T_loop (ι := Nat) (fun k => { n := 38, sl := [(0, (.d (.int .i64 n))), (1, (.d (.slice false 1 (xs.map D.str)))), (2, (.d (.int .i64 most))), (9, (.d (.slice false 1 (xs.map D.str)))), (10, (.d (.int .i64 ((xs.length : Nat) : Int)))), (11, (.d (.int .i64 ((k : Nat) : Int))))], hp := [], pin := [] }) (fun k => k ≤ xs.length ∧ ∀ j, j < k → (isCodeB (xs.getD j default) n && upB xs j) = true) (fun k => xs.length - k) ⟨0, ⟨by omega, fun j hj => by omega⟩, (Wk.of rfl rfl (And.intro rfl (And.intro rfl (And.intro rfl (And.intro rfl (And.intro rfl (And.intro (vI (by first | rfl | omega | (simp; done) | (simp; omega))) trivial)))))) trivial)⟩ (fun k hp0 => ?_)
 refine T_seq ?_
 refine T_region hc ?_
 refine Ch.s (.d (.bool (decide (((k : Nat) : Int) < ((xs.length : Nat) : Int))))) (.pure (.int _ _ _ _ _ rfl rfl rfl rfl)) ?_
 refine Ch.nil ?_
 refine T_seq ?_
 refine T_cond (b := (decide (((k : Nat) : Int) < ((xs.length : Nat) : Int)))) rfl (fun h1 => ?_) (fun h1 => ?_)
 ·
  replace h1 := of_decide_eq_true h1
  refine T_skip ?_
  refine T_seq ?_
  refine T_block ?_
  refine T_seq ?_
  refine T_region hc ?_
  refine Ch.s (.d (.int .i64 ((k : Nat) : Int))) (.pure (.move _ rfl rfl)) ?_
  refine Ch.s (.d (.ref (.str (xs.getD k default)))) (.pure (.idx _ _ _ 9 (k) rfl Try.underlying23 sz9 rfl rfl rfl get_mapA)) ?_
  refine Ch.s (.d (.str (xs.getD k default))) (.pure (.loadRef1 _ _ rfl ag9 rfl rfl)) ?_
  refine Ch.s (.d (.int .i64 ((k : Nat) : Int))) (.pure (.assign _ rfl rfl)) ?_
  refine Ch.s (.d (.str (xs.getD k default))) (.pure (.assign _ rfl rfl)) ?_
  refine Ch.nil ?_
  refine T_seq ?_
  refine T_region hc ?_
  refine Ch.s (.d (.str (xs.getD k default))) (.pure (.move _ rfl rfl)) ?_
  refine Ch.s (.d (.int .i64 n)) (.pure (.move _ rfl rfl)) ?_
  refine Ch.s (.d (.bool (isCodeB (xs.getD k default) n))) (.call 18000 153 _ _ _ en153 rfl (.inl rfl) (.cons (.d _) (.cons (.d _) .nil)) rfl rfl (sp_impl_isCode (xs.getD k default) n (by first | omega | assumption | (exact hx _ (getD_mem (by omega))) | (exact hx _ (by assumption)) | (exact Nat.le_trans (hx _ (by assumption)) (by omega)) | (simp only [List.length_append, List.length_take, List.length_drop, List.length_cons, List.length_nil]; omega) | (simp_all; done))) (.skip _ _ (.skip _ _ .nil)) rfl) ?_
  refine Ch.s (.d (.bool (!(isCodeB (xs.getD k default) n)))) (.pure (.not _ _ rfl rfl)) ?_
  refine Ch.s (.d (.bool (!(isCodeB (xs.getD k default) n)))) (.pure (.move _ rfl rfl)) ?_
  cases h2 : (isCodeB (xs.getD k default) n) with
  | true =>
   refine Ch.s (.d (.int .i64 ((k : Nat) : Int))) (.pure (.move _ rfl rfl)) ?_
   refine Ch.s (.d (.bool (decide (0 < ((k : Nat) : Int))))) (.pure (.int _ _ _ _ _ rfl rfl rfl rfl)) ?_
   refine Ch.s (.d (.bool (decide (0 < ((k : Nat) : Int))))) (.pure (.move _ rfl rfl)) ?_
   cases h3 : (decide (0 < ((k : Nat) : Int))) with
   | true =>
    replace h3 := of_decide_eq_true h3
    refine Ch.s (.d (.slice false 1 (xs.map D.str))) (.pure (.move _ rfl rfl)) ?_
    refine Ch.s (.d (.int .i64 ((k : Nat) : Int))) (.pure (.move _ rfl rfl)) ?_
    refine Ch.s (.d (.int .i64 (((k : Nat) : Int) - 1))) (.pure (.int _ _ _ _ _ rfl rfl rfl intV_subA)) ?_
    refine Ch.s (.d (.ref (.str (xs.getD (k - 1) default)))) (.pure (.idx _ _ _ 9 ((k - 1)) rfl Try.underlying23 sz9 rfl rfl (by omega) get_mapA)) ?_
    refine Ch.s (.d (.str (xs.getD (k - 1) default))) (.pure (.loadRef1 _ _ rfl ag9 rfl rfl)) ?_
    refine Ch.s (.d (.str (xs.getD k default))) (.pure (.move _ rfl rfl)) ?_
    refine Ch.s (.d (.bool (!(Op.bytesLess (xs.getD (k - 1) default) (xs.getD k default))))) (.pure (.str _ _ _ _ _ rfl rfl rfl rfl)) ?_
    refine Ch.s (.d (.bool (!(Op.bytesLess (xs.getD (k - 1) default) (xs.getD k default))))) (.pure (.pickT _ _ _ rfl rfl rfl)) ?_
    refine Ch.s (.d (.bool (!(Op.bytesLess (xs.getD (k - 1) default) (xs.getD k default))))) (.pure (.pickF _ _ _ rfl rfl rfl)) ?_
    refine Ch.nil ?_
    refine T_cond (b := (!(Op.bytesLess (xs.getD (k - 1) default) (xs.getD k default)))) rfl (fun h4 => ?_) (fun h4 => ?_)
    ·
     replace h4 := nott h4
     refine T_seq ?_
     refine T_region hc ?_
     refine Ch.s (.d (.bool false)) (.pure (.assign _ rfl rfl)) ?_
     refine Ch.nil ?_
     refine T_ret ?_
     refine And.intro (.inr rfl) ?_
     exact Exists.intro [(.d (.bool false))] (Exists.intro [] (Exists.intro [] (And.intro (.cons (.tmp 6 rfl) .nil) (And.intro (.cons (.any _) (.cons (.any _) (.cons (.any _) .nil))) (And.intro (Exp.of (congrArg D.bool (by first | (rw [codesI, allB_no k (by omega) (by first | (simp_all [upB]; done) | (simp_all [upB]; omega))]; rfl) | (rw [codesI, allB_of (fun j hj => hp0.2 j (by omega)), Bool.true_and]; done))) (.d _)) (And.intro rfl rfl))))))
    ·
     replace h4 := notf h4
     refine T_skip ?_
     refine T_region hc ?_
     refine Ch.s (.d (.int .i64 (((k : Nat) : Int) + 1))) (.pure (.int _ _ _ _ _ rfl rfl rfl intV_addA)) ?_
     refine Ch.s (.d (.int .i64 (((k : Nat) : Int) + 1))) (.pure (.move _ rfl rfl)) ?_
     refine Ch.nil ?_
     refine Exists.intro (k + 1) (And.intro ⟨by omega, upto_succ hp0.2 (by first | (simp_all [upB]; done) | (simp_all [upB]; omega))⟩ (And.intro (by first | omega | (dsimp only; omega)) (Wk.of rfl rfl (And.intro rfl (And.intro rfl (And.intro rfl (And.intro rfl (And.intro rfl (And.intro (vI (by first | rfl | omega | (simp; done) | (simp; omega))) trivial)))))) trivial)))
   | false =>
    replace h3 := of_decide_eq_false h3
    refine Ch.skip rfl rfl ?_
    refine Ch.skip rfl rfl ?_
    refine Ch.skip rfl rfl ?_
    refine Ch.skip rfl rfl ?_
    refine Ch.skip rfl rfl ?_
    refine Ch.skip rfl rfl ?_
    refine Ch.skip rfl rfl ?_
    refine Ch.s (.d (.bool false)) (.pure (.pickF _ _ _ rfl rfl rfl)) ?_
    refine Ch.s (.d (.bool false)) (.pure (.pickF _ _ _ rfl rfl rfl)) ?_
    refine Ch.nil ?_
    refine T_cond (b := false) rfl (fun h => nomatch h) (fun _ => ?_)
    refine T_skip ?_
    refine T_region hc ?_
    refine Ch.s (.d (.int .i64 (((k : Nat) : Int) + 1))) (.pure (.int _ _ _ _ _ rfl rfl rfl intV_addA)) ?_
    refine Ch.s (.d (.int .i64 (((k : Nat) : Int) + 1))) (.pure (.move _ rfl rfl)) ?_
    refine Ch.nil ?_
    refine Exists.intro (k + 1) (And.intro ⟨by omega, upto_succ hp0.2 (by first | (simp_all [upB]; done) | (simp_all [upB]; omega))⟩ (And.intro (by first | omega | (dsimp only; omega)) (Wk.of rfl rfl (And.intro rfl (And.intro rfl (And.intro rfl (And.intro rfl (And.intro rfl (And.intro (vI (by first | rfl | omega | (simp; done) | (simp; omega))) trivial)))))) trivial)))
  | false =>
   refine Ch.skip rfl rfl ?_
   refine Ch.skip rfl rfl ?_
   refine Ch.skip rfl rfl ?_
   refine Ch.skip rfl rfl ?_
   refine Ch.skip rfl rfl ?_
   refine Ch.skip rfl rfl ?_
   refine Ch.skip rfl rfl ?_
   refine Ch.skip rfl rfl ?_
   refine Ch.skip rfl rfl ?_
   refine Ch.skip rfl rfl ?_
   refine Ch.skip rfl rfl ?_
   refine Ch.s (.d (.bool true)) (.pure (.pickT _ _ _ rfl rfl rfl)) ?_
   refine Ch.nil ?_
   refine T_cond (b := true) rfl (fun _ => ?_) (fun h => nomatch h)
   refine T_seq ?_
   refine T_region hc ?_
   refine Ch.s (.d (.bool false)) (.pure (.assign _ rfl rfl)) ?_
   refine Ch.nil ?_
   refine T_ret ?_
   refine And.intro (.inr rfl) ?_
   exact Exists.intro [(.d (.bool false))] (Exists.intro [] (Exists.intro [] (And.intro (.cons (.tmp 6 rfl) .nil) (And.intro (.cons (.any _) (.cons (.any _) (.cons (.any _) .nil))) (And.intro (Exp.of (congrArg D.bool (by first | (rw [codesI, allB_no k (by omega) (by first | (simp_all [upB]; done) | (simp_all [upB]; omega))]; rfl) | (rw [codesI, allB_of (fun j hj => hp0.2 j (by omega)), Bool.true_and]; done))) (.d _)) (And.intro rfl rfl))))))
 ·
  replace h1 := of_decide_eq_false h1
  refine T_exit ?_
  refine T_seq ?_
  refine T_region hc ?_
  refine Ch.s (.d (.slice false 1 (xs.map D.str))) (.pure (.move _ rfl rfl)) ?_
  refine Ch.s (.d (.int .i64 ((xs.length : Nat) : Int))) (.pure (.len _ _ 9 rfl Try.underlying23 (.sh _ _) (by simp))) ?_
  refine Ch.s (.d (.int .i64 most)) (.pure (.move _ rfl rfl)) ?_
  refine Ch.s (.d (.bool (decide (((xs.length : Nat) : Int) ≤ most)))) (.pure (.int _ _ _ _ _ rfl rfl rfl rfl)) ?_
  refine Ch.s (.d (.bool (decide (((xs.length : Nat) : Int) ≤ most)))) (.pure (.assign _ rfl rfl)) ?_
  refine Ch.nil ?_
  refine T_ret ?_
  refine And.intro (.inr rfl) ?_
  exact Exists.intro [(.d (.bool (decide (((xs.length : Nat) : Int) ≤ most))))] (Exists.intro [] (Exists.intro [] (And.intro (.cons (.tmp 6 rfl) .nil) (And.intro (.cons (.any _) (.cons (.any _) (.cons (.any _) .nil))) (And.intro (Exp.of (congrArg D.bool (by first | (rw [codesI, allB_no k (by omega) (by first | (simp_all [upB]; done) | (simp_all [upB]; omega))]; rfl) | (rw [codesI, allB_of (fun j hj => hp0.2 j (by omega)), Bool.true_and]; done))) (.d _)) (And.intro rfl rfl))))))

theorem sp_spec_l14Sets (n : Int) (xs ys : List (List UInt8)) (hn : xs.length ≤ 1048576) (hx : ∀ x ∈ xs, x.length ≤ 1048576) (hm : ys.length ≤ 1048576) (hy : ∀ x ∈ ys, x.length ≤ 1048576) : Sp Try.prog 92 [(.int .i64 n), (.slice false 1 (xs.map D.str)), (.slice false 1 (ys.map D.str))] [.any, .any, .any] (.bool (onoffB n xs ys)) := by
 refine Sp_intro (lend := true) Try.func92 rfl rfl rfl (fun _ => rfl) (fun c hc hX => ?_)
 refine T_seq ?_
 refine T_region hc ?_
 refine Ch.s (.d (.bool false)) (.pure (.assign _ rfl rfl)) ?_
 refine Ch.nil ?_
 refine T_seq ?_
 refine T_seq ?_
 refine T_region hc ?_
 refine Ch.s (.d (.int .i64 n)) (.pure (.move _ rfl rfl)) ?_
 refine Ch.s (.d (.bool (withinB n 1 8))) (.call 10000 68 _ _ _ en68 rfl (.inl rfl) (.cons (.d _) (.cons (.d _) (.cons (.d _) .nil))) rfl rfl (sp_spec_l1In n 1 8) (.skip _ _ (.skip _ _ (.skip _ _ .nil))) rfl) ?_
 refine Ch.s (.d (.bool (!(withinB n 1 8)))) (.pure (.not _ _ rfl rfl)) ?_
 refine Ch.s (.d (.bool (!(withinB n 1 8)))) (.pure (.move _ rfl rfl)) ?_
 cases h1 : (withinB n 1 8) with
 | true =>
  refine Ch.s (.d (.slice false 1 (xs.map D.str))) (.pure (.move _ rfl rfl)) ?_
  refine Ch.s (.d (.int .i64 ((xs.length : Nat) : Int))) (.pure (.len _ _ 9 rfl Try.underlying23 (.sh _ _) (by simp))) ?_
  refine Ch.s (.d (.bool (decide (64 < ((xs.length : Nat) : Int))))) (.pure (.int _ _ _ _ _ rfl rfl rfl rfl)) ?_
  refine Ch.s (.d (.bool (decide (64 < ((xs.length : Nat) : Int))))) (.pure (.pickF _ _ _ rfl rfl rfl)) ?_
  refine Ch.s (.d (.bool (decide (64 < ((xs.length : Nat) : Int))))) (.pure (.move _ rfl rfl)) ?_
  cases h2 : (decide (64 < ((xs.length : Nat) : Int))) with
  | true =>
   replace h2 := of_decide_eq_true h2
   refine Ch.skip rfl rfl ?_
   refine Ch.skip rfl rfl ?_
   refine Ch.skip rfl rfl ?_
   refine Ch.s (.d (.bool true)) (.pure (.pickT _ _ _ rfl rfl rfl)) ?_
   refine Ch.s (.d (.bool true)) (.pure (.move _ rfl rfl)) ?_
   refine Ch.skip rfl rfl ?_
   refine Ch.skip rfl rfl ?_
   refine Ch.skip rfl rfl ?_
   refine Ch.skip rfl rfl ?_
   refine Ch.s (.d (.bool true)) (.pure (.pickT _ _ _ rfl rfl rfl)) ?_
   refine Ch.s (.d (.bool true)) (.pure (.move _ rfl rfl)) ?_
   refine Ch.skip rfl rfl ?_
   refine Ch.skip rfl rfl ?_
   refine Ch.skip rfl rfl ?_
   refine Ch.skip rfl rfl ?_
   refine Ch.s (.d (.bool true)) (.pure (.pickT _ _ _ rfl rfl rfl)) ?_
   refine Ch.nil ?_
   refine T_cond (b := true) rfl (fun _ => ?_) (fun h => nomatch h)
   refine T_seq ?_
   refine T_region hc ?_
   refine Ch.s (.d (.bool false)) (.pure (.assign _ rfl rfl)) ?_
   refine Ch.nil ?_
   refine T_ret ?_
   refine And.intro (.inr rfl) ?_
   exact Exists.intro [(.d (.bool false))] (Exists.intro [] (Exists.intro [] (And.intro (.cons (.tmp 6 rfl) .nil) (And.intro (.cons (.any _) (.cons (.any _) (.cons (.any _) .nil))) (And.intro (Exp.of (congrArg D.bool (by first | (simp_all [onoffB]; done) | (simp_all [onoffB]; omega) | (rw [onoffB, allOf, allB_no k (by omega) (by simp_all)]; simp; done) | (rw [onoffB, allOf, allB_of (fun j hj => hp0.2 j (by omega))]; first | (simp_all; done) | (simp_all; omega)))) (.d _)) (And.intro rfl rfl))))))
  | false =>
   replace h2 := of_decide_eq_false h2
   refine Ch.s (.d (.slice false 1 (ys.map D.str))) (.pure (.move _ rfl rfl)) ?_
   refine Ch.s (.d (.int .i64 ((ys.length : Nat) : Int))) (.pure (.len _ _ 9 rfl Try.underlying23 (.sh _ _) (by simp))) ?_
   refine Ch.s (.d (.bool (decide (256 < ((ys.length : Nat) : Int))))) (.pure (.int _ _ _ _ _ rfl rfl rfl rfl)) ?_
   refine Ch.s (.d (.bool (decide (256 < ((ys.length : Nat) : Int))))) (.pure (.pickF _ _ _ rfl rfl rfl)) ?_
   refine Ch.s (.d (.bool (decide (256 < ((ys.length : Nat) : Int))))) (.pure (.move _ rfl rfl)) ?_
   cases h3 : (decide (256 < ((ys.length : Nat) : Int))) with
   | true =>
    replace h3 := of_decide_eq_true h3
    refine Ch.skip rfl rfl ?_
    refine Ch.skip rfl rfl ?_
    refine Ch.skip rfl rfl ?_
    refine Ch.skip rfl rfl ?_
    refine Ch.s (.d (.bool true)) (.pure (.pickT _ _ _ rfl rfl rfl)) ?_
    refine Ch.s (.d (.bool true)) (.pure (.move _ rfl rfl)) ?_
    refine Ch.skip rfl rfl ?_
    refine Ch.skip rfl rfl ?_
    refine Ch.skip rfl rfl ?_
    refine Ch.skip rfl rfl ?_
    refine Ch.s (.d (.bool true)) (.pure (.pickT _ _ _ rfl rfl rfl)) ?_
    refine Ch.nil ?_
    refine T_cond (b := true) rfl (fun _ => ?_) (fun h => nomatch h)
    refine T_seq ?_
    refine T_region hc ?_
    refine Ch.s (.d (.bool false)) (.pure (.assign _ rfl rfl)) ?_
    refine Ch.nil ?_
    refine T_ret ?_
    refine And.intro (.inr rfl) ?_
    exact Exists.intro [(.d (.bool false))] (Exists.intro [] (Exists.intro [] (And.intro (.cons (.tmp 6 rfl) .nil) (And.intro (.cons (.any _) (.cons (.any _) (.cons (.any _) .nil))) (And.intro (Exp.of (congrArg D.bool (by first | (simp_all [onoffB]; done) | (simp_all [onoffB]; omega) | (rw [onoffB, allOf, allB_no k (by omega) (by simp_all)]; simp; done) | (rw [onoffB, allOf, allB_of (fun j hj => hp0.2 j (by omega))]; first | (simp_all; done) | (simp_all; omega)))) (.d _)) (And.intro rfl rfl))))))
   | false =>
    replace h3 := of_decide_eq_false h3
    refine Ch.s (.d (.int .i64 n)) (.pure (.move _ rfl rfl)) ?_
    refine Ch.s (.d (.slice false 1 (xs.map D.str))) (.pure (.move _ rfl rfl)) ?_
    refine Ch.s (.d (.bool (codesB n xs))) (.call 25000 131 _ _ _ en131 rfl (.inl rfl) (.cons (.d _) (.cons (.d _) .nil)) rfl rfl (sp_spec_l14Codes n xs (by first | omega | assumption | (exact hx _ (getD_mem (by omega))) | (exact hx _ (by assumption)) | (exact Nat.le_trans (hx _ (by assumption)) (by omega)) | (simp only [List.length_append, List.length_take, List.length_drop, List.length_cons, List.length_nil]; omega) | (simp_all; done)) (by first | omega | assumption | (exact hx _ (getD_mem (by omega))) | (exact hx _ (by assumption)) | (exact Nat.le_trans (hx _ (by assumption)) (by omega)) | (simp only [List.length_append, List.length_take, List.length_drop, List.length_cons, List.length_nil]; omega) | (simp_all; done))) (.skip _ _ (.skip _ _ .nil)) rfl) ?_
    refine Ch.s (.d (.bool (!(codesB n xs)))) (.pure (.not _ _ rfl rfl)) ?_
    refine Ch.s (.d (.bool (!(codesB n xs)))) (.pure (.pickF _ _ _ rfl rfl rfl)) ?_
    refine Ch.s (.d (.bool (!(codesB n xs)))) (.pure (.move _ rfl rfl)) ?_
    cases h4 : (codesB n xs) with
    | true =>
     refine Ch.s (.d (.int .i64 n)) (.pure (.move _ rfl rfl)) ?_
     refine Ch.s (.d (.slice false 1 (ys.map D.str))) (.pure (.move _ rfl rfl)) ?_
     refine Ch.s (.d (.bool (codesB n ys))) (.call 31000 131 _ _ _ en131 rfl (.inl rfl) (.cons (.d _) (.cons (.d _) .nil)) rfl rfl (sp_spec_l14Codes n ys (by first | omega | assumption | (exact hx _ (getD_mem (by omega))) | (exact hx _ (by assumption)) | (exact Nat.le_trans (hx _ (by assumption)) (by omega)) | (simp only [List.length_append, List.length_take, List.length_drop, List.length_cons, List.length_nil]; omega) | (simp_all; done)) (by first | omega | assumption | (exact hx _ (getD_mem (by omega))) | (exact hx _ (by assumption)) | (exact Nat.le_trans (hx _ (by assumption)) (by omega)) | (simp only [List.length_append, List.length_take, List.length_drop, List.length_cons, List.length_nil]; omega) | (simp_all; done))) (.skip _ _ (.skip _ _ .nil)) rfl) ?_
     refine Ch.s (.d (.bool (!(codesB n ys)))) (.pure (.not _ _ rfl rfl)) ?_
     refine Ch.s (.d (.bool (!(codesB n ys)))) (.pure (.pickF _ _ _ rfl rfl rfl)) ?_
     refine Ch.nil ?_
     refine T_cond (b := (!(codesB n ys))) rfl (fun h5 => ?_) (fun h5 => ?_)
     ·
      replace h5 := nott h5
      refine T_seq ?_
      refine T_region hc ?_
      refine Ch.s (.d (.bool false)) (.pure (.assign _ rfl rfl)) ?_
      refine Ch.nil ?_
      refine T_ret ?_
      refine And.intro (.inr rfl) ?_
      exact Exists.intro [(.d (.bool false))] (Exists.intro [] (Exists.intro [] (And.intro (.cons (.tmp 6 rfl) .nil) (And.intro (.cons (.any _) (.cons (.any _) (.cons (.any _) .nil))) (And.intro (Exp.of (congrArg D.bool (by first | (simp_all [onoffB]; done) | (simp_all [onoffB]; omega) | (rw [onoffB, allOf, allB_no k (by omega) (by simp_all)]; simp; done) | (rw [onoffB, allOf, allB_of (fun j hj => hp0.2 j (by omega))]; first | (simp_all; done) | (simp_all; omega)))) (.d _)) (And.intro rfl rfl))))))
     ·
      replace h5 := notf h5
      refine T_skip ?_
      refine T_seq ?_
      refine T_seq ?_
      refine T_region hc ?_
      refine Ch.s (.d (.slice false 1 (xs.map D.str))) (.pure (.move _ rfl rfl)) ?_
      refine Ch.s (.d (.int .i64 ((xs.length : Nat) : Int))) (.pure (.len _ _ 9 rfl Try.underlying23 (.sh _ _) (by simp))) ?_
      refine Ch.s (.d (.int .i64 0)) (.pure (.move _ rfl rfl)) ?_
      refine Ch.nil ?_
      refine T_block ?_
      refine T_loop (ι := Nat) (fun k => { n := 44, sl := [(2, (.d (.slice false 1 (ys.map D.str)))), (34, (.d (.slice false 1 (xs.map D.str)))), (35, (.d (.int .i64 ((xs.length : Nat) : Int)))), (36, (.d (.int .i64 ((k : Nat) : Int))))], hp := [], pin := [] }) (fun k => k ≤ xs.length ∧ ∀ j, j < k → (!hasS ys (xs.getD j default)) = true) (fun k => xs.length - k) ⟨0, ⟨by omega, fun j hj => by omega⟩, (Wk.of rfl rfl (And.intro rfl (And.intro rfl (And.intro rfl (And.intro (vI (by first | rfl | omega | (simp; done) | (simp; omega))) trivial)))) trivial)⟩ (fun k hp0 => ?_)
      refine T_seq ?_
      refine T_region hc ?_
      refine Ch.s (.d (.bool (decide (((k : Nat) : Int) < ((xs.length : Nat) : Int))))) (.pure (.int _ _ _ _ _ rfl rfl rfl rfl)) ?_
      refine Ch.nil ?_
      refine T_seq ?_
      refine T_cond (b := (decide (((k : Nat) : Int) < ((xs.length : Nat) : Int)))) rfl (fun h6 => ?_) (fun h6 => ?_)
      ·
       replace h6 := of_decide_eq_true h6
       refine T_skip ?_
       refine T_seq ?_
       refine T_block ?_
       refine T_seq ?_
       refine T_region hc ?_
       refine Ch.s (.d (.ref (.str (xs.getD k default)))) (.pure (.idx _ _ _ 9 (k) rfl Try.underlying23 sz9 rfl rfl rfl get_mapA)) ?_
       refine Ch.s (.d (.str (xs.getD k default))) (.pure (.loadRef1 _ _ rfl ag9 rfl rfl)) ?_
       refine Ch.s (.d (.str (xs.getD k default))) (.pure (.assign _ rfl rfl)) ?_
       refine Ch.nil ?_
       refine T_seq ?_
       refine T_region hc ?_
       refine Ch.s (.d (.slice false 1 (ys.map D.str))) (.pure (.move _ rfl rfl)) ?_
       refine Ch.s (.d (.str (xs.getD k default))) (.pure (.move _ rfl rfl)) ?_
       refine Ch.s (.d (.bool (hasS ys (xs.getD k default)))) (.call 42000 132 _ _ _ en132 rfl (.inl rfl) (.cons (.d _) (.cons (.d _) .nil)) rfl rfl (sp_spec_l1HasS ys (xs.getD k default) (by first | omega | assumption | (exact hx _ (getD_mem (by omega))) | (exact hx _ (by assumption)) | (exact Nat.le_trans (hx _ (by assumption)) (by omega)) | (simp only [List.length_append, List.length_take, List.length_drop, List.length_cons, List.length_nil]; omega) | (simp_all; done))) (.skip _ _ (.skip _ _ .nil)) rfl) ?_
       refine Ch.nil ?_
       refine T_cond (b := (hasS ys (xs.getD k default))) rfl (fun h7 => ?_) (fun h7 => ?_)
       ·
        refine T_seq ?_
        refine T_region hc ?_
        refine Ch.s (.d (.bool false)) (.pure (.assign _ rfl rfl)) ?_
        refine Ch.nil ?_
        refine T_ret ?_
        refine And.intro (.inr rfl) ?_
        exact Exists.intro [(.d (.bool false))] (Exists.intro [] (Exists.intro [] (And.intro (.cons (.tmp 6 rfl) .nil) (And.intro (.cons (.any _) (.cons (.any _) (.cons (.any _) .nil))) (And.intro (Exp.of (congrArg D.bool (by first | (simp_all [onoffB]; done) | (simp_all [onoffB]; omega) | (rw [onoffB, allOf, allB_no k (by omega) (by simp_all)]; simp; done) | (rw [onoffB, allOf, allB_of (fun j hj => hp0.2 j (by omega))]; first | (simp_all; done) | (simp_all; omega)))) (.d _)) (And.intro rfl rfl))))))
       ·
        refine T_skip ?_
        refine T_region hc ?_
        refine Ch.s (.d (.int .i64 (((k : Nat) : Int) + 1))) (.pure (.int _ _ _ _ _ rfl rfl rfl intV_addA)) ?_
        refine Ch.s (.d (.int .i64 (((k : Nat) : Int) + 1))) (.pure (.move _ rfl rfl)) ?_
        refine Ch.nil ?_
        refine Exists.intro (k + 1) (And.intro ⟨by omega, upto_succ hp0.2 (by simp_all)⟩ (And.intro (by first | omega | (dsimp only; omega)) (Wk.of rfl rfl (And.intro rfl (And.intro rfl (And.intro rfl (And.intro (vI (by first | rfl | omega | (simp; done) | (simp; omega))) trivial)))) trivial)))
      ·
       replace h6 := of_decide_eq_false h6
       refine T_exit ?_
       refine T_seq ?_
       refine T_region hc ?_
       refine Ch.s (.d (.bool true)) (.pure (.assign _ rfl rfl)) ?_
       refine Ch.nil ?_
       refine T_ret ?_
       refine And.intro (.inr rfl) ?_
       exact Exists.intro [(.d (.bool true))] (Exists.intro [] (Exists.intro [] (And.intro (.cons (.tmp 6 rfl) .nil) (And.intro (.cons (.any _) (.cons (.any _) (.cons (.any _) .nil))) (And.intro (Exp.of (congrArg D.bool (by first | (simp_all [onoffB]; done) | (simp_all [onoffB]; omega) | (rw [onoffB, allOf, allB_no k (by omega) (by simp_all)]; simp; done) | (rw [onoffB, allOf, allB_of (fun j hj => hp0.2 j (by omega))]; first | (simp_all; done) | (simp_all; omega)))) (.d _)) (And.intro rfl rfl))))))
    | false =>
     refine Ch.skip rfl rfl ?_
     refine Ch.skip rfl rfl ?_
     refine Ch.skip rfl rfl ?_
     refine Ch.skip rfl rfl ?_
     refine Ch.s (.d (.bool true)) (.pure (.pickT _ _ _ rfl rfl rfl)) ?_
     refine Ch.nil ?_
     refine T_cond (b := true) rfl (fun _ => ?_) (fun h => nomatch h)
     refine T_seq ?_
     refine T_region hc ?_
     refine Ch.s (.d (.bool false)) (.pure (.assign _ rfl rfl)) ?_
     refine Ch.nil ?_
     refine T_ret ?_
     refine And.intro (.inr rfl) ?_
     exact Exists.intro [(.d (.bool false))] (Exists.intro [] (Exists.intro [] (And.intro (.cons (.tmp 6 rfl) .nil) (And.intro (.cons (.any _) (.cons (.any _) (.cons (.any _) .nil))) (And.intro (Exp.of (congrArg D.bool (by first | (simp_all [onoffB]; done) | (simp_all [onoffB]; omega) | (rw [onoffB, allOf, allB_no k (by omega) (by simp_all)]; simp; done) | (rw [onoffB, allOf, allB_of (fun j hj => hp0.2 j (by omega))]; first | (simp_all; done) | (simp_all; omega)))) (.d _)) (And.intro rfl rfl))))))
 | false =>
  refine Ch.skip rfl rfl ?_
  refine Ch.skip rfl rfl ?_
  refine Ch.skip rfl rfl ?_
  refine Ch.s (.d (.bool true)) (.pure (.pickT _ _ _ rfl rfl rfl)) ?_
  refine Ch.s (.d (.bool true)) (.pure (.move _ rfl rfl)) ?_
  refine Ch.skip rfl rfl ?_
  refine Ch.skip rfl rfl ?_
  refine Ch.skip rfl rfl ?_
  refine Ch.s (.d (.bool true)) (.pure (.pickT _ _ _ rfl rfl rfl)) ?_
  refine Ch.s (.d (.bool true)) (.pure (.move _ rfl rfl)) ?_
  refine Ch.skip rfl rfl ?_
  refine Ch.skip rfl rfl ?_
  refine Ch.skip rfl rfl ?_
  refine Ch.skip rfl rfl ?_
  refine Ch.s (.d (.bool true)) (.pure (.pickT _ _ _ rfl rfl rfl)) ?_
  refine Ch.s (.d (.bool true)) (.pure (.move _ rfl rfl)) ?_
  refine Ch.skip rfl rfl ?_
  refine Ch.skip rfl rfl ?_
  refine Ch.skip rfl rfl ?_
  refine Ch.skip rfl rfl ?_
  refine Ch.s (.d (.bool true)) (.pure (.pickT _ _ _ rfl rfl rfl)) ?_
  refine Ch.nil ?_
  refine T_cond (b := true) rfl (fun _ => ?_) (fun h => nomatch h)
  refine T_seq ?_
  refine T_region hc ?_
  refine Ch.s (.d (.bool false)) (.pure (.assign _ rfl rfl)) ?_
  refine Ch.nil ?_
  refine T_ret ?_
  refine And.intro (.inr rfl) ?_
  exact Exists.intro [(.d (.bool false))] (Exists.intro [] (Exists.intro [] (And.intro (.cons (.tmp 6 rfl) .nil) (And.intro (.cons (.any _) (.cons (.any _) (.cons (.any _) .nil))) (And.intro (Exp.of (congrArg D.bool (by first | (simp_all [onoffB]; done) | (simp_all [onoffB]; omega) | (rw [onoffB, allOf, allB_no k (by omega) (by simp_all)]; simp; done) | (rw [onoffB, allOf, allB_of (fun j hj => hp0.2 j (by omega))]; first | (simp_all; done) | (simp_all; omega)))) (.d _)) (And.intro rfl rfl))))))

theorem sp_impl_IsValidOnOff_1 (u : List UInt8) (ys : List (List UInt8)) (hm : ys.length ≤ 1048576) : Sp Try.prog 101 [(.str u), (.ref (.slice false 1 (ys.map D.str)))] [.any, .any] (.bool (hasS ys u)) := by
 refine Sp_intro (lend := true) Try.func101 rfl rfl rfl (fun _ => rfl) (fun c hc hX => ?_)
 refine T_seq ?_
 refine T_region hc ?_
 refine Ch.s (.d (.bool false)) (.pure (.assign _ rfl rfl)) ?_
 refine Ch.nil ?_
 refine T_seq ?_
 refine T_region hc ?_
 refine Ch.s (.d (.slice false 1 (ys.map D.str))) (.pure (.loadRef1 _ _ rfl ag23 rfl rfl)) ?_
 refine Ch.s (.d (.str u)) (.pure (.move _ rfl rfl)) ?_
 refine Ch.s (.d (.bool (hasS ys u))) (.call 6000 102 _ _ _ en102 rfl (.inl rfl) (.cons (.d _) (.cons (.d _) .nil)) rfl rfl (sp_Contains_str ys u (by first | omega | assumption | (exact hx _ (getD_mem (by omega))) | (exact hx _ (by assumption)) | (exact Nat.le_trans (hx _ (by assumption)) (by omega)) | (simp only [List.length_append, List.length_take, List.length_drop, List.length_cons, List.length_nil]; omega) | (simp_all; done))) (.skip _ _ (.skip _ _ .nil)) rfl) ?_
 refine Ch.s (.d (.bool (hasS ys u))) (.pure (.assign _ rfl rfl)) ?_
 refine Ch.nil ?_
 refine T_ret ?_
 refine And.intro (.inr rfl) ?_
 exact Exists.intro [(.d (.bool (hasS ys u)))] (Exists.intro [] (Exists.intro [] (And.intro (.cons (.tmp 3 rfl) .nil) (And.intro (.cons (.any _) (.cons (.any _) .nil)) (And.intro (.d _) (And.intro rfl rfl))))))

theorem sp_impl_IsValidOnOff (n : Int) (xs ys : List (List UInt8)) (hn : xs.length ≤ 1048576) (hx : ∀ x ∈ xs, x.length ≤ 1048576) (hm : ys.length ≤ 1048576) (hy : ∀ x ∈ ys, x.length ≤ 1048576) : Sp Try.prog 64 [(.int .i64 n), (.slice false 1 (xs.map D.str)), (.slice false 1 (ys.map D.str))] [.any, .any, .any] (.bool (onoffB n xs ys)) := by
 refine Sp_intro (lend := true) Try.func64 rfl rfl rfl (fun _ => rfl) (fun c hc hX => ?_)
 refine T_seq ?_
 refine T_region hc ?_
 refine Ch.s (.ptr 5000 0) (.box 5000 _ _ rfl (.one _ rfl)) ?_
 refine Ch.s (.d (.bool false)) (.pure (.assign _ rfl rfl)) ?_
 refine Ch.nil ?_
 refine T_seq ?_
 refine T_region hc ?_
 refine Ch.s (.d (.int .i64 n)) (.pure (.move _ rfl rfl)) ?_
 refine Ch.s (.d (.bool (withinB n 1 8))) (.call 8000 83 _ _ _ en83 rfl (.inl rfl) (.cons (.d _) (.cons (.d _) (.cons (.d _) .nil))) rfl rfl (sp_impl_within n 1 8) (.skip _ _ (.skip _ _ (.skip _ _ .nil))) rfl) ?_
 refine Ch.s (.d (.bool (withinB n 1 8))) (.pure (.move _ rfl rfl)) ?_
 cases h1 : (withinB n 1 8) with
 | true =>
  refine Ch.s (.d (.int .i64 n)) (.pure (.move _ rfl rfl)) ?_
  refine Ch.s (.d (.slice false 1 (xs.map D.str))) (.pure (.move _ rfl rfl)) ?_
  refine Ch.s (.d (.bool (codesI n xs && decide ((xs.length : Int) ≤ 64)))) (.call 12000 99 _ _ _ en99 rfl (.inl rfl) (.cons (.d _) (.cons (.d _) (.cons (.d _) .nil))) rfl rfl (sp_impl_areCodes n xs 64 (by first | omega | assumption | (exact hx _ (getD_mem (by omega))) | (exact hx _ (by assumption)) | (exact Nat.le_trans (hx _ (by assumption)) (by omega)) | (simp only [List.length_append, List.length_take, List.length_drop, List.length_cons, List.length_nil]; omega) | (simp_all; done)) (by first | omega | assumption | (exact hx _ (getD_mem (by omega))) | (exact hx _ (by assumption)) | (exact Nat.le_trans (hx _ (by assumption)) (by omega)) | (simp only [List.length_append, List.length_take, List.length_drop, List.length_cons, List.length_nil]; omega) | (simp_all; done))) (.skip _ _ (.skip _ _ (.skip _ _ .nil))) rfl) ?_
  refine Ch.s (.d (.bool (codesI n xs && decide ((xs.length : Int) ≤ 64)))) (.pure (.pickT _ _ _ rfl rfl rfl)) ?_
  refine Ch.s (.d (.bool (codesI n xs && decide ((xs.length : Int) ≤ 64)))) (.pure (.move _ rfl rfl)) ?_
  cases h2 : (codesI n xs && decide ((xs.length : Int) ≤ 64)) with
  | true =>
   refine Ch.s (.d (.int .i64 n)) (.pure (.move _ rfl rfl)) ?_
   refine Ch.s (.d (.slice false 1 (ys.map D.str))) (.pure (.loadPtr1 _ _ rfl ag23 rfl rfl rfl)) ?_
   refine Ch.s (.d (.bool (codesI n ys && decide ((ys.length : Int) ≤ 256)))) (.call 17000 99 _ _ _ en99 rfl (.inl rfl) (.cons (.d _) (.cons (.d _) (.cons (.d _) .nil))) rfl rfl (sp_impl_areCodes n ys 256 (by first | omega | assumption | (exact hx _ (getD_mem (by omega))) | (exact hx _ (by assumption)) | (exact Nat.le_trans (hx _ (by assumption)) (by omega)) | (simp only [List.length_append, List.length_take, List.length_drop, List.length_cons, List.length_nil]; omega) | (simp_all; done)) (by first | omega | assumption | (exact hx _ (getD_mem (by omega))) | (exact hx _ (by assumption)) | (exact Nat.le_trans (hx _ (by assumption)) (by omega)) | (simp only [List.length_append, List.length_take, List.length_drop, List.length_cons, List.length_nil]; omega) | (simp_all; done))) (.skip _ _ (.skip _ _ (.skip _ _ .nil))) rfl) ?_
   refine Ch.s (.d (.bool (codesI n ys && decide ((ys.length : Int) ≤ 256)))) (.pure (.pickT _ _ _ rfl rfl rfl)) ?_
   refine Ch.s (.d (.bool (codesI n ys && decide ((ys.length : Int) ≤ 256)))) (.pure (.move _ rfl rfl)) ?_
   cases h3 : (codesI n ys && decide ((ys.length : Int) ≤ 256)) with
   | true =>
    refine Ch.s (.d (.slice false 1 (xs.map D.str))) (.pure (.move _ rfl rfl)) ?_
    refine Ch.s (.fn 101 [(.ptr 5000 0)]) (.pure (.func _ _ rfl rfl)) ?_
    refine Ch.s (.d (.bool (xs.any (fun u => hasS ys u)))) (.call 22000 100 _ _ _ en100 rfl (.inl rfl) (.cons (.d _) (.cons (.lend (.fn (.cons (.ptr rfl (.one (.d _) rfl)) .nil))) .nil)) rfl rfl (sp_ContainsFunc_str xs 101 [(.ref (.slice false 1 (ys.map D.str)))] (fun u => hasS ys u) en101 (fun u _ => sp_impl_IsValidOnOff_1 u ys (by first | omega | assumption | (exact hx _ (getD_mem (by omega))) | (exact hx _ (by assumption)) | (exact Nat.le_trans (hx _ (by assumption)) (by omega)) | (simp only [List.length_append, List.length_take, List.length_drop, List.length_cons, List.length_nil]; omega) | (simp_all; done))) (by first | omega | assumption | (exact hx _ (getD_mem (by omega))) | (exact hx _ (by assumption)) | (exact Nat.le_trans (hx _ (by assumption)) (by omega)) | (simp only [List.length_append, List.length_take, List.length_drop, List.length_cons, List.length_nil]; omega) | (simp_all; done))) (.skip _ _ (.skip _ _ .nil)) rfl) ?_
    refine Ch.s (.d (.bool (!(xs.any (fun u => hasS ys u))))) (.pure (.not _ _ rfl rfl)) ?_
    refine Ch.s (.d (.bool (!(xs.any (fun u => hasS ys u))))) (.pure (.pickT _ _ _ rfl rfl rfl)) ?_
    refine Ch.s (.d (.bool (!(xs.any (fun u => hasS ys u))))) (.pure (.assign _ rfl rfl)) ?_
    refine Ch.nil ?_
    refine T_ret ?_
    refine And.intro (.inr rfl) ?_
    exact Exists.intro [(.d (.bool (!(xs.any (fun u => hasS ys u)))))] (Exists.intro [] (Exists.intro [] (And.intro (.cons (.tmp 6 rfl) .nil) (And.intro (.cons (.any _) (.cons (.any _) (.cons (.any _) .nil))) (And.intro (Exp.of (congrArg D.bool (by first | (rw [onoff_impl, h1, h2, h3]; rfl) | (rw [onoff_impl, h1, h2]; rfl) | (rw [onoff_impl, h1]; rfl))) (.d _)) (And.intro rfl rfl))))))
   | false =>
    refine Ch.skip rfl rfl ?_
    refine Ch.skip rfl rfl ?_
    refine Ch.skip rfl rfl ?_
    refine Ch.skip rfl rfl ?_
    refine Ch.s (.d (.bool false)) (.pure (.pickF _ _ _ rfl rfl rfl)) ?_
    refine Ch.s (.d (.bool false)) (.pure (.assign _ rfl rfl)) ?_
    refine Ch.nil ?_
    refine T_ret ?_
    refine And.intro (.inr rfl) ?_
    exact Exists.intro [(.d (.bool false))] (Exists.intro [] (Exists.intro [] (And.intro (.cons (.tmp 6 rfl) .nil) (And.intro (.cons (.any _) (.cons (.any _) (.cons (.any _) .nil))) (And.intro (Exp.of (congrArg D.bool (by first | (rw [onoff_impl, h1, h2, h3]; rfl) | (rw [onoff_impl, h1, h2]; rfl) | (rw [onoff_impl, h1]; rfl))) (.d _)) (And.intro rfl rfl))))))
  | false =>
   refine Ch.skip rfl rfl ?_
   refine Ch.skip rfl rfl ?_
   refine Ch.skip rfl rfl ?_
   refine Ch.s (.d (.bool false)) (.pure (.pickF _ _ _ rfl rfl rfl)) ?_
   refine Ch.s (.d (.bool false)) (.pure (.move _ rfl rfl)) ?_
   refine Ch.skip rfl rfl ?_
   refine Ch.skip rfl rfl ?_
   refine Ch.skip rfl rfl ?_
   refine Ch.skip rfl rfl ?_
   refine Ch.s (.d (.bool false)) (.pure (.pickF _ _ _ rfl rfl rfl)) ?_
   refine Ch.s (.d (.bool false)) (.pure (.assign _ rfl rfl)) ?_
   refine Ch.nil ?_
   refine T_ret ?_
   refine And.intro (.inr rfl) ?_
   exact Exists.intro [(.d (.bool false))] (Exists.intro [] (Exists.intro [] (And.intro (.cons (.tmp 6 rfl) .nil) (And.intro (.cons (.any _) (.cons (.any _) (.cons (.any _) .nil))) (And.intro (Exp.of (congrArg D.bool (by first | (rw [onoff_impl, h1, h2, h3]; rfl) | (rw [onoff_impl, h1, h2]; rfl) | (rw [onoff_impl, h1]; rfl))) (.d _)) (And.intro rfl rfl))))))
 | false =>
  refine Ch.skip rfl rfl ?_
  refine Ch.skip rfl rfl ?_
  refine Ch.skip rfl rfl ?_
  refine Ch.s (.d (.bool false)) (.pure (.pickF _ _ _ rfl rfl rfl)) ?_
  refine Ch.s (.d (.bool false)) (.pure (.move _ rfl rfl)) ?_
  refine Ch.skip rfl rfl ?_
  refine Ch.skip rfl rfl ?_
  refine Ch.skip rfl rfl ?_
  refine Ch.s (.d (.bool false)) (.pure (.pickF _ _ _ rfl rfl rfl)) ?_
  refine Ch.s (.d (.bool false)) (.pure (.move _ rfl rfl)) ?_
  refine Ch.skip rfl rfl ?_
  refine Ch.skip rfl rfl ?_
  refine Ch.skip rfl rfl ?_
  refine Ch.skip rfl rfl ?_
  refine Ch.s (.d (.bool false)) (.pure (.pickF _ _ _ rfl rfl rfl)) ?_
  refine Ch.s (.d (.bool false)) (.pure (.assign _ rfl rfl)) ?_
  refine Ch.nil ?_
  refine T_ret ?_
  refine And.intro (.inr rfl) ?_
  exact Exists.intro [(.d (.bool false))] (Exists.intro [] (Exists.intro [] (And.intro (.cons (.tmp 6 rfl) .nil) (And.intro (.cons (.any _) (.cons (.any _) (.cons (.any _) .nil))) (And.intro (Exp.of (congrArg D.bool (by first | (rw [onoff_impl, h1, h2, h3]; rfl) | (rw [onoff_impl, h1, h2]; rfl) | (rw [onoff_impl, h1]; rfl))) (.d _)) (And.intro rfl rfl))))))

theorem sty102 : SlotTy Try.prog 102 5 1 1 := slotTy_mk (by kernel_rfl)

theorem en62 : Enters Try.prog 62 := ⟨_, Try.func62, by kernel_rfl, rfl⟩

theorem sp_laws_markText (k : Nat) (hk : k ≤ 4194304) : Sp Try.prog 62 [(.int .i64 ((k : Nat) : Int))] [.any] (.str (mtext k)) := by
 refine Sp_intro (lend := true) Try.func62 rfl rfl rfl (fun _ => rfl) (fun c hc hX => ?_)
 refine T_seq ?_
 refine T_region hc ?_
 refine Ch.s (.d (.str [])) (.pure (.assign _ rfl rfl)) ?_
 refine Ch.nil ?_
 refine T_seq ?_
 refine T_seq ?_
 refine T_region hc ?_
 refine Ch.s (.d (.int .i64 ((k : Nat) : Int))) (.pure (.move _ rfl rfl)) ?_
 refine Ch.s (.d (.bool (decide (((k : Nat) : Int) ≤ 0)))) (.pure (.int _ _ _ _ _ rfl rfl rfl rfl)) ?_
 refine Ch.nil ?_
 refine T_cond (b := (decide (((k : Nat) : Int) ≤ 0))) rfl (fun h1 => ?_) (fun h1 => ?_)
 ·
  replace h1 := of_decide_eq_true h1
  refine T_seq ?_
  refine T_region hc ?_
  refine Ch.s (.d (.str [109, 48])) (.pure (.assign _ rfl rfl)) ?_
  refine Ch.nil ?_
  refine T_ret ?_
  refine And.intro (.inr rfl) ?_
  exact Exists.intro [(.d (.str [109, 48]))] (Exists.intro [] (Exists.intro [] (And.intro (.cons (.tmp 2 rfl) .nil) (And.intro (.cons (.any _) .nil) (And.intro (Exp.of (congrArg D.str (by rw [mtext, if_pos (by omega)])) (.d _)) (And.intro rfl rfl))))))
 ·
  replace h1 := of_decide_eq_false h1
  refine T_skip ?_
  refine T_seq ?_
  refine T_region hc ?_
  refine Ch.s (.d (.str [])) (.pure (.assign _ rfl rfl)) ?_
  refine Ch.nil ?_
  refine T_seq ?_
  refine T_block ?_
  refine T_loop (ι := Nat × List UInt8) (fun p => { n := 20, sl := [(0, (.d (.int .i64 ((p.1 : Nat) : Int)))), (3, (.d (.str p.2)))], hp := [], pin := [] }) (fun p => p.1 + p.2.length ≤ k ∧ digs p.1 p.2 = digs k []) (fun p => p.1) ⟨(k, []), ⟨by simp, rfl⟩, (Wk.of rfl rfl (And.intro (vI (by first | rfl | omega | (simp; done) | (simp; omega))) (And.intro (vS (by first | rfl | omega | (simp; done) | (simp; omega))) trivial)) trivial)⟩ (fun p hp0 => ?_)
  refine T_seq ?_
  refine T_seq ?_
  refine T_region hc ?_
  refine Ch.s (.d (.int .i64 ((p.1 : Nat) : Int))) (.pure (.move _ rfl rfl)) ?_
  refine Ch.s (.d (.bool (decide (0 < ((p.1 : Nat) : Int))))) (.pure (.int _ _ _ _ _ rfl rfl rfl rfl)) ?_
  refine Ch.nil ?_
  refine T_cond (b := (decide (0 < ((p.1 : Nat) : Int)))) rfl (fun h2 => ?_) (fun h2 => ?_)
  ·
   replace h2 := of_decide_eq_true h2
   refine T_skip ?_
   refine T_block ?_
   refine T_seq ?_
   refine T_region hc ?_
   refine Ch.s (.d (.int .i64 ((p.1 : Nat) : Int))) (.pure (.move _ rfl rfl)) ?_
   refine Ch.s (.d (.int .i64 ((p.1 % 10 : Nat) : Int))) (.pure (.int _ _ _ _ _ rfl rfl rfl (remN (n := p.1) (d := 10) rfl rfl (by decide)))) ?_
   refine Ch.s (.d (.int .i64 (48 + ((p.1 % 10 : Nat) : Int)))) (.pure (.int _ _ _ _ _ rfl rfl rfl intV_addA)) ?_
   refine Ch.s (.d (.int .u8 ((UInt8.ofNat (48 + p.1 % 10)).toNat : Int))) (.pure (EvP.of (convU8 (n := (48 + p.1 % 10)) (by omega) (by first | omega | (simp only [List.length_map, List.length_append, List.length_take, List.length_drop, List.length_cons, List.length_nil]; omega) | (simp; omega) | (simp; done))) (.convInt _ _ _ rfl (isSome_of Try.underlying3) Try.underlying5 rfl))) ?_
   refine Ch.s (.row 12000) (.slice 12000 _ 5 _ rfl sty102 (xs := [.tmp 11]) rfl rfl (.cons (.d _) .nil) rfl rfl (by decide)) ?_
   refine Ch.s (.d (.str [(UInt8.ofNat (48 + p.1 % 10))])) (.string (l := [(UInt8.ofNat (48 + p.1 % 10))]) _ _ _ _ rfl Try.underlying102 Try.underlying5 Try.underlying9 (by first | exact (.row rfl rfl) | exact (.row rfl rfl))) ?_
   refine Ch.s (.d (.str p.2)) (.pure (.move _ rfl rfl)) ?_
   refine Ch.s (.d (.str ([(UInt8.ofNat (48 + p.1 % 10))] ++ p.2))) (.pure (.str _ _ _ _ _ rfl rfl rfl (strV_add (by first | omega | (simp only [List.length_map, List.length_append, List.length_take, List.length_drop, List.length_cons, List.length_nil]; omega) | (simp; omega) | (simp; done))))) ?_
   refine Ch.s (.d (.str ([(UInt8.ofNat (48 + p.1 % 10))] ++ p.2))) (.pure (.assign _ rfl rfl)) ?_
   refine Ch.nil ?_
   refine T_region hc ?_
   refine Ch.s (.d (.int .i64 ((p.1 : Nat) : Int))) (.pure (.move _ rfl rfl)) ?_
   refine Ch.s (.d (.int .i64 ((p.1 / 10 : Nat) : Int))) (.pure (.int _ _ _ _ _ rfl rfl rfl (quoN (n := p.1) (d := 10) rfl rfl (by decide) (by first | omega | (simp only [List.length_map, List.length_append, List.length_take, List.length_drop, List.length_cons, List.length_nil]; omega) | (simp; omega) | (simp; done))))) ?_
   refine Ch.s (.d (.int .i64 ((p.1 / 10 : Nat) : Int))) (.pure (.assign _ rfl rfl)) ?_
   refine Ch.nil ?_
   refine Exists.intro ((p.1 / 10, [UInt8.ofNat (48 + p.1 % 10)] ++ p.2)) (And.intro ⟨by (have := hp0.1; simp; omega), (digs_step (k := p.1) (by omega) p.2).symm.trans hp0.2⟩ (And.intro (by (simp; omega)) (Wk.of rfl rfl (And.intro (vI (by first | rfl | omega | (simp; done) | (simp; omega))) (And.intro (vS (by first | rfl | omega | (simp; done) | (simp; omega))) trivial)) trivial)))
  ·
   replace h2 := of_decide_eq_false h2
   refine T_exit ?_
   refine T_seq ?_
   refine T_region hc ?_
   refine Ch.s (.d (.str p.2)) (.pure (.move _ rfl rfl)) ?_
   refine Ch.s (.d (.str ([109] ++ p.2))) (.pure (.str _ _ _ _ _ rfl rfl rfl (strV_add (by first | omega | (simp only [List.length_map, List.length_append, List.length_take, List.length_drop, List.length_cons, List.length_nil]; omega) | (simp; omega) | (simp; done))))) ?_
   refine Ch.s (.d (.str ([109] ++ p.2))) (.pure (.assign _ rfl rfl)) ?_
   refine Ch.nil ?_
   refine T_ret ?_
   refine And.intro (.inr rfl) ?_
   exact Exists.intro [(.d (.str ([109] ++ p.2)))] (Exists.intro [] (Exists.intro [] (And.intro (.cons (.tmp 2 rfl) .nil) (And.intro (.cons (.any _) .nil) (And.intro (Exp.of (congrArg D.str (by have hz : p.1 = 0 := (by omega); have h5 := hp0.2; rw [hz, digs_zero] at h5; rw [mtext, if_neg (by omega), h5]; rfl)) (.d _)) (And.intro rfl rfl))))))

theorem sp_laws_markStringS (xs : List (List UInt8)) (k : Nat) (hn : xs.length ≤ 1048576) (hk : k ≤ 3145728) : Sp Try.prog 30 [(.slice true 1 (xs.map D.str)), (.int .i64 ((k : Nat) : Int))] [(.slice true 1 ((marks k xs.length).map D.str)), .any] (.int .i64 ((k + xs.length : Nat) : Int)) := by
 refine Sp_intro (lend := false) Try.func30 rfl rfl rfl (fun h => nomatch h) (fun c hc hX => ?_)
 refine T_seq ?_
 refine T_region hc ?_
 refine Ch.s (.d (.int .i64 0)) (.pure (.assign _ rfl rfl)) ?_
 refine Ch.nil ?_
 refine T_seq ?_
 refine T_seq ?_
 refine T_region hc ?_
 refine Ch.s (.d (.int .i64 0)) (.pure (.assign _ rfl rfl)) ?_
 refine Ch.nil ?_
 refine T_block ?_
 refine T_loop (ι := Nat) (fun m => { n := 20, sl := [(0, (.row 1)), (1, (.d (.int .i64 ((k + m : Nat) : Int)))), (5, (.d (.int .i64 ((m : Nat) : Int))))], hp := [(1, (some (.row 1 ((marked xs k m).map D.str))))], pin := [1] }) (fun m => m ≤ xs.length) (fun m => xs.length - m) ⟨0, (by omega), (Wk.of rfl rfl (And.intro rfl (And.intro (vI (by first | rfl | omega | (simp; done) | (simp; omega))) (And.intro (vI (by first | rfl | omega | (simp; done) | (simp; omega))) trivial))) (And.intro (oR (by first | (rw [marked_zero]; done) | (rw [← marked_set xs k (by omega), List.map_set]; done))) trivial))⟩ (fun m hp0 => ?_)
 have hq := marked_length xs k m
 refine T_seq ?_
 refine T_seq ?_
 refine T_region hc ?_
 refine Ch.s (.d (.int .i64 ((m : Nat) : Int))) (.pure (.move _ rfl rfl)) ?_
 refine Ch.s (.row 1) (.pure (.move _ rfl rfl)) ?_
 refine Ch.s (.d (.int .i64 (((marked xs k m).length : Nat) : Int))) (.pure (.len _ _ 9 rfl Try.underlying23 (.row rfl) (by simp))) ?_
 refine Ch.s (.d (.bool (decide (((m : Nat) : Int) < (((marked xs k m).length : Nat) : Int))))) (.pure (.int _ _ _ _ _ rfl rfl rfl rfl)) ?_
 refine Ch.nil ?_
 refine T_cond (b := (decide (((m : Nat) : Int) < (((marked xs k m).length : Nat) : Int)))) rfl (fun h1 => ?_) (fun h1 => ?_)
 ·
  replace h1 := of_decide_eq_true h1
  refine T_skip ?_
  refine T_seq ?_
  refine T_block ?_
  refine T_seq ?_
  refine T_region hc ?_
  refine Ch.s (.row 1) (.pure (.move _ rfl rfl)) ?_
  refine Ch.s (.d (.int .i64 ((m : Nat) : Int))) (.pure (.move _ rfl rfl)) ?_
  refine Ch.s (.d (.int .i64 ((k + m : Nat) : Int))) (.pure (.move _ rfl rfl)) ?_
  refine Ch.s (.d (.str (mtext (k + m)))) (.call 15000 62 _ _ _ en62 rfl (.inl rfl) (.cons (.d _) .nil) rfl rfl (sp_laws_markText (k + m) (by first | omega | assumption | (exact hx _ (getD_mem (by omega))) | (exact hx _ (by assumption)) | (exact Nat.le_trans (hx _ (by assumption)) (by omega)) | (simp only [List.length_append, List.length_take, List.length_drop, List.length_cons, List.length_nil]; omega) | (simp_all; done))) (.skip _ _ .nil) rfl) ?_
  refine Ch.s (.el 1 1 m 0) (.pure (.idxRow _ _ _ 9 (m) rfl Try.underlying23 sz9 rfl rfl rfl rfl (by first | omega | (simp only [List.length_map, List.length_set]; omega) | (simp; omega)))) ?_
  refine Ch.s .junk (.storeEl (y' := (.str (mtext (k + m)))) _ _ _ rfl rfl rfl (.d _) rfl sz9 rfl get_mapA rfl rfl) ?_
  refine Ch.nil ?_
  refine T_region hc ?_
  refine Ch.s (.d (.int .i64 ((k + m : Nat) : Int))) (.pure (.move _ rfl rfl)) ?_
  refine Ch.s (.d (.int .i64 (((k + m : Nat) : Int) + 1))) (.pure (.int _ _ _ _ _ rfl rfl rfl intV_addA)) ?_
  refine Ch.s (.d (.int .i64 (((k + m : Nat) : Int) + 1))) (.pure (.assign _ rfl rfl)) ?_
  refine Ch.nil ?_
  refine T_region hc ?_
  refine Ch.s (.d (.int .i64 ((m : Nat) : Int))) (.pure (.move _ rfl rfl)) ?_
  refine Ch.s (.d (.int .i64 (((m : Nat) : Int) + 1))) (.pure (.int _ _ _ _ _ rfl rfl rfl intV_addA)) ?_
  refine Ch.s (.d (.int .i64 (((m : Nat) : Int) + 1))) (.pure (.assign _ rfl rfl)) ?_
  refine Ch.nil ?_
  refine Exists.intro (m + 1) (And.intro (by omega) (And.intro (by first | omega | (dsimp only; omega)) (Wk.of rfl rfl (And.intro rfl (And.intro (vI (by first | rfl | omega | (simp; done) | (simp; omega))) (And.intro (vI (by first | rfl | omega | (simp; done) | (simp; omega))) trivial))) (And.intro (oR (by first | (rw [marked_zero]; done) | (rw [← marked_set xs k (by omega), List.map_set]; done))) trivial))))
 ·
  replace h1 := of_decide_eq_false h1
  refine T_exit ?_
  refine T_seq ?_
  refine T_region hc ?_
  refine Ch.s (.d (.int .i64 ((k + m : Nat) : Int))) (.pure (.move _ rfl rfl)) ?_
  refine Ch.s (.d (.int .i64 ((k + m : Nat) : Int))) (.pure (.assign _ rfl rfl)) ?_
  refine Ch.nil ?_
  refine T_ret ?_
  refine And.intro (.inr rfl) ?_
  exact Exists.intro [(.d (.int .i64 ((k + m : Nat) : Int)))] (Exists.intro [1] (Exists.intro [] (And.intro (.cons (.tmp 4 rfl) .nil) (And.intro (.cons (Exp.of (congrArg (D.slice true 1) (by rw [marked_all xs k (by omega)])) (.row rfl)) (.cons (.any _) .nil)) (And.intro (Exp.of (congrArg (D.int .i64) (by omega)) (.d _)) (And.intro rfl rfl))))))

theorem sp_laws_heldStringS (xs : List (List UInt8)) (k : Nat) (hn : xs.length ≤ 1048576) (hk : k ≤ 3145728) : Sp Try.prog 31 [(.slice false 1 (xs.map D.str)), (.int .i64 ((k : Nat) : Int))] [.any, .any] (.int .i64 (heldR xs k)) := by
 refine Sp_intro (lend := true) Try.func31 rfl rfl rfl (fun _ => rfl) (fun c hc hX => ?_)
 refine T_seq ?_
 refine T_region hc ?_
 refine Ch.s (.d (.int .i64 0)) (.pure (.assign _ rfl rfl)) ?_
 refine Ch.nil ?_
 refine T_seq ?_
 refine T_seq ?_
 refine T_region hc ?_
 refine Ch.s (.d (.int .i64 0)) (.pure (.assign _ rfl rfl)) ?_
 refine Ch.nil ?_
 refine T_block ?_
 refine T_loop (ι := Nat) (fun m => { n := 22, sl := [(0, (.d (.slice false 1 (xs.map D.str)))), (1, (.d (.int .i64 ((k + m : Nat) : Int)))), (5, (.d (.int .i64 ((m : Nat) : Int))))], hp := [], pin := [] }) (fun m => m ≤ xs.length ∧ ∀ j, j < m → decide (xs.getD j default = mtext (k + j)) = true) (fun m => xs.length - m) ⟨0, ⟨by omega, fun j hj => by omega⟩, (Wk.of rfl rfl (And.intro rfl (And.intro (vI (by first | rfl | omega | (simp; done) | (simp; omega))) (And.intro (vI (by first | rfl | omega | (simp; done) | (simp; omega))) trivial))) trivial)⟩ (fun m hp0 => ?_)
 refine T_seq ?_
 refine T_seq ?_
 refine T_region hc ?_
 refine Ch.s (.d (.int .i64 ((m : Nat) : Int))) (.pure (.move _ rfl rfl)) ?_
 refine Ch.s (.d (.slice false 1 (xs.map D.str))) (.pure (.move _ rfl rfl)) ?_
 refine Ch.s (.d (.int .i64 ((xs.length : Nat) : Int))) (.pure (.len _ _ 9 rfl Try.underlying23 (.sh _ _) (by simp))) ?_
 refine Ch.s (.d (.bool (decide (((m : Nat) : Int) < ((xs.length : Nat) : Int))))) (.pure (.int _ _ _ _ _ rfl rfl rfl rfl)) ?_
 refine Ch.nil ?_
 refine T_cond (b := (decide (((m : Nat) : Int) < ((xs.length : Nat) : Int)))) rfl (fun h1 => ?_) (fun h1 => ?_)
 ·
  replace h1 := of_decide_eq_true h1
  refine T_skip ?_
  refine T_seq ?_
  refine T_block ?_
  refine T_seq ?_
  refine T_seq ?_
  refine T_regionD hc (by kernel_rfl) ?_
  refine ChD.s (.d (.slice false 1 (xs.map D.str))) [] (.pure (.move _ rfl rfl)) ?_
  refine ChD.s (.d (.int .i64 ((m : Nat) : Int))) [] (.pure (.move _ rfl rfl)) ?_
  refine ChD.s (.d (.ref (.str (xs.getD m default)))) [] (.pure (.idx _ _ _ 9 (m) rfl Try.underlying23 sz9 rfl rfl rfl get_mapA)) ?_
  refine ChD.s (.d (.str (xs.getD m default))) [] (.pure (.loadRef1 _ _ rfl ag9 rfl rfl)) ?_
  refine ChD.s (.d (.int .i64 ((k + m : Nat) : Int))) [] (.pure (.move _ rfl rfl)) ?_
  refine ChD.s (.d (.str (mtext (k + m)))) [] (.call 17000 62 _ _ _ en62 rfl (.inl rfl) (.cons (.d _) .nil) rfl rfl (sp_laws_markText (k + m) (by first | omega | assumption | (exact hx _ (getD_mem (by omega))) | (exact hx _ (by assumption)) | (exact Nat.le_trans (hx _ (by assumption)) (by omega)) | (simp only [List.length_append, List.length_take, List.length_drop, List.length_cons, List.length_nil]; omega) | (simp_all; done))) (.skip _ _ .nil) rfl) ?_
  refine ChD.s (.d (.bool (!(decide ((xs.getD m default) = (mtext (k + m))))))) [] (.pure (.str _ _ _ _ _ rfl rfl rfl rfl)) ?_
  refine ChD.nil (And.intro ?_ (by kernel_rfl))
  refine T_cond (b := (!(decide ((xs.getD m default) = (mtext (k + m)))))) rfl (fun h2 => ?_) (fun h2 => ?_)
  ·
   replace h2 := nott h2
   replace h2 := of_decide_eq_false h2
   refine T_seq ?_
   refine T_region hc ?_
   refine Ch.s (.d (.int .i64 (-1))) (.pure (.assign _ rfl rfl)) ?_
   refine Ch.nil ?_
   refine T_ret ?_
   refine And.intro (.inr rfl) ?_
   exact Exists.intro [(.d (.int .i64 (-1)))] (Exists.intro [] (Exists.intro [] (And.intro (.cons (.tmp 4 rfl) .nil) (And.intro (.cons (.any _) (.cons (.any _) .nil)) (And.intro (Exp.of (congrArg (D.int .i64) (by first | (rw [heldR, heldB, allB_no m (by omega) (by simp_all)]; rfl) | (rw [heldR, heldB, allB_of (fun j hj => hp0.2 j (by omega)), if_pos rfl]; omega))) (.d _)) (And.intro rfl rfl))))))
  ·
   replace h2 := notf h2
   replace h2 := of_decide_eq_true h2
   refine T_skip ?_
   refine T_region hc ?_
   refine Ch.s (.d (.int .i64 ((k + m : Nat) : Int))) (.pure (.move _ rfl rfl)) ?_
   refine Ch.s (.d (.int .i64 (((k + m : Nat) : Int) + 1))) (.pure (.int _ _ _ _ _ rfl rfl rfl intV_addA)) ?_
   refine Ch.s (.d (.int .i64 (((k + m : Nat) : Int) + 1))) (.pure (.assign _ rfl rfl)) ?_
   refine Ch.nil ?_
   refine T_region hc ?_
   refine Ch.s (.d (.int .i64 ((m : Nat) : Int))) (.pure (.move _ rfl rfl)) ?_
   refine Ch.s (.d (.int .i64 (((m : Nat) : Int) + 1))) (.pure (.int _ _ _ _ _ rfl rfl rfl intV_addA)) ?_
   refine Ch.s (.d (.int .i64 (((m : Nat) : Int) + 1))) (.pure (.assign _ rfl rfl)) ?_
   refine Ch.nil ?_
   refine Exists.intro (m + 1) (And.intro ⟨by omega, upto_succ hp0.2 (by simp_all)⟩ (And.intro (by first | omega | (dsimp only; omega)) (Wk.of rfl rfl (And.intro rfl (And.intro (vI (by first | rfl | omega | (simp; done) | (simp; omega))) (And.intro (vI (by first | rfl | omega | (simp; done) | (simp; omega))) trivial))) trivial)))
 ·
  replace h1 := of_decide_eq_false h1
  refine T_exit ?_
  refine T_seq ?_
  refine T_region hc ?_
  refine Ch.s (.d (.int .i64 ((k + m : Nat) : Int))) (.pure (.move _ rfl rfl)) ?_
  refine Ch.s (.d (.int .i64 ((k + m : Nat) : Int))) (.pure (.assign _ rfl rfl)) ?_
  refine Ch.nil ?_
  refine T_ret ?_
  refine And.intro (.inr rfl) ?_
  exact Exists.intro [(.d (.int .i64 ((k + m : Nat) : Int)))] (Exists.intro [] (Exists.intro [] (And.intro (.cons (.tmp 4 rfl) .nil) (And.intro (.cons (.any _) (.cons (.any _) .nil)) (And.intro (Exp.of (congrArg (D.int .i64) (by first | (rw [heldR, heldB, allB_no m (by omega) (by simp_all)]; rfl) | (rw [heldR, heldB, allB_of (fun j hj => hp0.2 j (by omega)), if_pos rfl]; omega))) (.d _)) (And.intro rfl rfl))))))

theorem sp_spec_l5Set (u : List UInt8) (sig : Int) (v : List UInt8) (hu : u.length ≤ 1048576) (hv : v.length ≤ 1048576) (h0 : 0 ≤ sig) (h1s : sig + 1 ≤ u.length) : Sp Try.prog 106 [(.str u), (.int .i64 sig), (.str v)] [.any, .any, .any] (.str (u.take sig.toNat ++ v ++ u.drop (sig + 1).toNat)) := by
 refine Sp_intro (lend := true) Try.func106 rfl rfl rfl (fun _ => rfl) (fun c hc hX => ?_)
 refine T_seq ?_
 refine T_region hc ?_
 refine Ch.s (.d (.str [])) (.pure (.assign _ rfl rfl)) ?_
 refine Ch.nil ?_
 refine T_seq ?_
 refine T_regionD hc (by kernel_rfl) ?_
 refine ChD.s (.d (.str u)) [] (.pure (.move _ rfl rfl)) ?_
 refine ChD.s (.d (.int .i64 sig)) [] (.pure (.move _ rfl rfl)) ?_
 refine ChD.s (.d (.str (u.take ((sig).toNat)))) [] (.pure (.sliceStr _ _ _ _ (0) ((sig).toNat) rfl Try.underlying9 rfl (bndN rfl) (bndS rfl (by omega)) (by first | omega | (simp only [List.length_map, List.length_append, List.length_take, List.length_drop, List.length_cons, List.length_nil]; omega) | (simp; omega) | (simp; done)) (by first | omega | (simp only [List.length_map, List.length_append, List.length_take, List.length_drop, List.length_cons, List.length_nil]; omega) | (simp; omega) | (simp; done)) (by simp))) ?_
 refine ChD.s (.d (.str v)) [] (.pure (.move _ rfl rfl)) ?_
 refine ChD.s (.d (.str ((u.take ((sig).toNat)) ++ v))) [] (.pure (.str _ _ _ _ _ rfl rfl rfl (strV_add (by first | omega | (simp only [List.length_map, List.length_append, List.length_take, List.length_drop, List.length_cons, List.length_nil]; omega) | (simp; omega) | (simp; done))))) ?_
 refine ChD.s (.d (.str u)) [] (.pure (.move _ rfl rfl)) ?_
 refine ChD.s (.d (.int .i64 sig)) [] (.pure (.move _ rfl rfl)) ?_
 refine ChD.s (.d (.int .i64 (sig + 1))) [] (.pure (.int _ _ _ _ _ rfl rfl rfl intV_addA)) ?_
 refine ChD.s (.d (.str (u.drop (((sig + 1)).toNat)))) [] (.pure (.sliceStr _ _ _ _ (((sig + 1)).toNat) (u.length) rfl Try.underlying9 rfl (bndS rfl (by omega)) (bndN rfl) (by first | omega | (simp only [List.length_map, List.length_append, List.length_take, List.length_drop, List.length_cons, List.length_nil]; omega) | (simp; omega) | (simp; done)) (by first | omega | (simp only [List.length_map, List.length_append, List.length_take, List.length_drop, List.length_cons, List.length_nil]; omega) | (simp; omega) | (simp; done)) (by simp))) ?_
 refine ChD.s (.d (.str (((u.take ((sig).toNat)) ++ v) ++ (u.drop (((sig + 1)).toNat))))) [] (.pure (.str _ _ _ _ _ rfl rfl rfl (strV_add (by first | omega | (simp only [List.length_map, List.length_append, List.length_take, List.length_drop, List.length_cons, List.length_nil]; omega) | (simp; omega) | (simp; done))))) ?_
 refine ChD.s (.d (.str (((u.take ((sig).toNat)) ++ v) ++ (u.drop (((sig + 1)).toNat))))) [] (.pure (.assign _ rfl rfl)) ?_
 refine ChD.nil (And.intro ?_ (by kernel_rfl))
 refine T_ret ?_
 refine And.intro (.inr rfl) ?_
 exact Exists.intro [(.d (.str (((u.take ((sig).toNat)) ++ v) ++ (u.drop (((sig + 1)).toNat)))))] (Exists.intro [] (Exists.intro [] (And.intro (.cons (.tmp 6 rfl) .nil) (And.intro (.cons (.any _) (.cons (.any _) (.cons (.any _) .nil))) (And.intro (Exp.of (congrArg D.str (by rfl)) (.d _)) (And.intro rfl rfl))))))

theorem within_two {n lo hi : Int} (h : withinB n lo hi = true) : lo ≤ n ∧ n ≤ hi := by simpa [withinB] using h

def keepTo {τ : Type} (p : τ → Bool) (xs : List τ) (j : Nat) : List τ := (xs.take j).filter fun u => !p u

theorem keepTo_yes {τ : Type} [Inhabited τ] {p : τ → Bool} {xs : List τ} {j : Nat} (hj : j < xs.length) (h : p (xs.getD j default) = false) : keepTo p xs (j + 1) = keepTo p xs j ++ [xs.getD j default] := by
  have hg : xs.getD j default = xs[j] := by simp [hj]
  rw [hg] at h ⊢
  rw [keepTo, keepTo, List.take_succ_eq_append_getElem hj, List.filter_append]; simp [h]

theorem keepTo_no {τ : Type} [Inhabited τ] {p : τ → Bool} {xs : List τ} {j : Nat} (hj : j < xs.length) (h : p (xs.getD j default) = true) : keepTo p xs (j + 1) = keepTo p xs j := by
  have hg : xs.getD j default = xs[j] := by simp [hj]
  rw [hg] at h
  rw [keepTo, keepTo, List.take_succ_eq_append_getElem hj, List.filter_append]; simp [h]

theorem keepTo_none {τ : Type} [Inhabited τ] {p : τ → Bool} {xs : List τ} : ∀ k, k ≤ xs.length → (∀ j, j < k → p (xs.getD j default) = false) → keepTo p xs k = xs.take k
  | 0, _, _ => rfl
  | k + 1, hk, h => by
    rw [keepTo_yes (by omega) (h k (by omega)), keepTo_none k (by omega) (fun j hj => h j (by omega)), List.take_succ_eq_append_getElem (by omega)]
    simp [show k < xs.length by omega]

theorem ixF_first {τ : Type} [Inhabited τ] {p : τ → Bool} {xs : List τ} (h : ¬ ixF p xs = -1) : ∃ k, k < xs.length ∧ ixF p xs = (k : Int) ∧ keepTo p xs (k + 1) = xs.take k := by
  unfold ixF at *
  split at h
  · rename_i ha
    have hk : xs.findIdx p < xs.length := List.findIdx_lt_length_of_exists (by simpa using ha)
    refine ⟨xs.findIdx p, hk, by rw [if_pos ha], ?_⟩
    have h1 : p (xs.getD (xs.findIdx p) default) = true := by
      have := List.findIdx_getElem (w := hk)
      simpa [hk] using this
    rw [keepTo_no hk h1]
    refine keepTo_none _ (by omega) (fun j hj => ?_)
    have := List.not_of_lt_findIdx hj
    simpa [show j < xs.length by omega] using this
  · exact absurd rfl h

structure DelInv {τ : Type} [Inhabited τ] (p : τ → Bool) (xs : List τ) (j : Nat) (R : List τ) : Prop where
  le : j ≤ xs.length
  len : R.length = xs.length
  lt : (keepTo p xs j).length < j
  pre : R.take (keepTo p xs j).length = keepTo p xs j
  post : R.drop j = xs.drop j

theorem DelInv.get {τ : Type} [Inhabited τ] {p : τ → Bool} {xs : List τ} {j : Nat} {R : List τ} (h : DelInv p xs j R) (hj : j < xs.length) : R.getD j default = xs.getD j default := by
  have h1 : (R.drop j)[0]? = (xs.drop j)[0]? := by rw [h.post]
  rw [List.getElem?_drop, List.getElem?_drop, Nat.add_zero] at h1
  rw [List.getD_eq_getElem?_getD, List.getD_eq_getElem?_getD, h1]

theorem DelInv.start {τ : Type} [Inhabited τ] {p : τ → Bool} {xs : List τ} {k : Nat} (hk : k < xs.length) (h : keepTo p xs (k + 1) = xs.take k) : DelInv p xs (k + 1) xs := by
  have hl : (keepTo p xs (k + 1)).length = k := by rw [h]; simp; omega
  exact ⟨by omega, rfl, by omega, by rw [hl, h], rfl⟩

theorem DelInv.skip {τ : Type} [Inhabited τ] {p : τ → Bool} {xs : List τ} {j : Nat} {R : List τ} (h : DelInv p xs j R) (hj : j < xs.length) (hp : p (R.getD j default) = true) : DelInv p xs (j + 1) R ∧ (keepTo p xs j).length = (keepTo p xs (j + 1)).length := by
  rw [h.get hj] at hp
  have hk := keepTo_no hj hp
  refine ⟨⟨by omega, h.len, by rw [hk]; have := h.lt; omega, by rw [hk]; exact h.pre, ?_⟩, by rw [hk]⟩
  rw [← List.drop_drop, ← List.drop_drop, h.post]

theorem DelInv.keep {τ : Type} [Inhabited τ] {p : τ → Bool} {xs : List τ} {j : Nat} {R : List τ} (h : DelInv p xs j R) (hj : j < xs.length) (hp : p (R.getD j default) = false) : DelInv p xs (j + 1) (R.set (keepTo p xs j).length (R.getD j default)) ∧ (keepTo p xs j).length + 1 = (keepTo p xs (j + 1)).length := by
  have hg := h.get hj
  rw [hg] at hp ⊢
  have hk := keepTo_yes hj hp
  have hl : (keepTo p xs (j + 1)).length = (keepTo p xs j).length + 1 := by rw [hk]; simp
  have hlt := h.lt
  have hlen := h.len
  refine ⟨⟨by omega, by simp [h.len], by omega, ?_, ?_⟩, hl.symm⟩
  · rw [hl, hk, List.take_succ_eq_append_getElem (by simp; omega), List.getElem_set_self, List.take_set_of_le (Nat.le_refl _), h.pre]
  · rw [List.drop_set_of_lt (by omega), ← List.drop_drop, ← List.drop_drop, h.post]

theorem DelInv.mem {τ : Type} [Inhabited τ] {p : τ → Bool} {xs : List τ} {j : Nat} {R : List τ} (h : DelInv p xs j R) (hj : j < R.length) : R.getD j default ∈ xs := by
  rw [h.get (by rw [← h.len]; exact hj)]; exact getD_mem (by rw [← h.len]; exact hj)

theorem DelInv.done {τ : Type} [Inhabited τ] {p : τ → Bool} {xs : List τ} {j : Nat} {R : List τ} (h : DelInv p xs j R) (hj : xs.length ≤ j) : R.take (keepTo p xs j).length = xs.filter fun u => !p u := by
  rw [h.pre, keepTo, List.take_of_length_le hj]

theorem ixF_bounds {τ : Type} [Inhabited τ] (p : τ → Bool) (xs : List τ) : -1 ≤ ixF p xs ∧ ixF p xs ≤ xs.length := by
  unfold ixF
  have := List.findIdx_le_length (p := p) (xs := xs)
  split <;> omega

theorem take_cut {τ : Type} {A Z B : List τ} {k : Nat} (h : k ≤ A.length) : (A.take k ++ Z ++ B).take k = A.take k := by
  rw [List.append_assoc, List.take_append_of_le_length (by simp; omega), List.take_of_length_le (by simp; omega)]

theorem ixF_all {τ : Type} [Inhabited τ] {p : τ → Bool} {xs : List τ} (h : ixF p xs = -1) : xs.filter (fun u => !p u) = xs := by
  unfold ixF at h
  split at h
  · omega
  · rename_i ha
    rw [List.filter_eq_self]
    intro u hu
    have : ¬ p u = true := fun hp => ha (List.any_eq_true.2 ⟨u, hu, hp⟩)
    simpa using this

theorem sp_DeleteFunc_str (xs : List (List UInt8)) (f : FuncId) (caps : List D) (p : List UInt8 → Bool) (hf : Enters Try.prog f) (hp : ∀ x ∈ xs, Sp Try.prog f (D.str x :: caps) (.any :: anys caps) (.bool (p x))) (hn : xs.length ≤ 1048576) : Sp Try.prog 56 [(.slice true 1 (xs.map D.str)), (.fn f caps)] [.any, .any] (.slice true 1 ((xs.filter (fun u => !p u)).map D.str)) := by
 refine Sp_intro (lend := false) Try.func56 rfl rfl rfl (fun h => nomatch h) (fun c hc hX => ?_)
 have hixb := ixF_bounds p xs
 refine T_seq ?_
 refine T_region hc ?_
 refine Ch.s (.c (.slice none 0 0)) (.pure (.assign _ rfl rfl)) ?_
 refine Ch.nil ?_
 refine T_seq ?_
 refine T_region hc ?_
 refine Ch.s (.row 1) (.pure (.move _ rfl rfl)) ?_
 refine Ch.s (.d (.fn f caps)) (.pure (.move _ rfl rfl)) ?_
 refine Ch.s (.d (.int .i64 (ixF p xs))) (.call 10000 95 _ _ _ en95 rfl (.inl rfl) (.cons (.lend (.row rfl (frozs_map (fun _ => rfl) _))) (.cons (.d _) .nil)) rfl rfl (sp_IndexFunc_str xs f caps p hf hp (by first | omega | assumption | (exact hx _ (getD_mem (by omega))) | (exact hx _ (by assumption)) | (exact Nat.le_trans (hx _ (by assumption)) (by omega)) | (simp only [List.length_append, List.length_take, List.length_drop, List.length_cons, List.length_nil]; omega) | (simp_all; done))) (.skip _ _ (.skip _ _ .nil)) rfl) ?_
 refine Ch.s (.d (.int .i64 (ixF p xs))) (.pure (.assign _ rfl rfl)) ?_
 refine Ch.nil ?_
 refine T_seq ?_
 refine T_seq ?_
 refine T_region hc ?_
 refine Ch.s (.d (.int .i64 (ixF p xs))) (.pure (.move _ rfl rfl)) ?_
 refine Ch.s (.d (.bool (decide ((ixF p xs) = (-1))))) (.pure (.int _ _ _ _ _ rfl rfl rfl rfl)) ?_
 refine Ch.nil ?_
 refine T_cond (b := (decide ((ixF p xs) = (-1)))) rfl (fun h1 => ?_) (fun h1 => ?_)
 ·
  replace h1 := of_decide_eq_true h1
  refine T_seq ?_
  refine T_region hc ?_
  refine Ch.s (.row 1) (.pure (.move _ rfl rfl)) ?_
  refine Ch.s (.row 1) (.pure (.assign _ rfl rfl)) ?_
  refine Ch.nil ?_
  refine T_ret ?_
  refine And.intro (.inr rfl) ?_
  exact Exists.intro [(.row 1)] (Exists.intro [] (Exists.intro [1] (And.intro (.cons (.tmp 4 rfl) .nil) (And.intro (.cons (.any _) (.cons (.any _) .nil)) (And.intro (Exp.of (congrArg (D.slice true 1) (by first | (rw [ixF_all h1]; done) | (rw [take_cut (by simp; omega), ← List.map_take, hp0.done (by omega)]; done) | skip)) (.row rfl)) (And.intro rfl rfl))))))
 ·
  replace h1 := of_decide_eq_false h1
  refine T_skip ?_
  refine T_seq ?_
  refine T_seq ?_
  refine T_region hc ?_
  refine Ch.s (.d (.int .i64 (ixF p xs))) (.pure (.move _ rfl rfl)) ?_
  refine Ch.s (.d (.int .i64 ((ixF p xs) + 1))) (.pure (.int _ _ _ _ _ rfl rfl rfl intV_addA)) ?_
  refine Ch.s (.d (.int .i64 ((ixF p xs) + 1))) (.pure (.assign _ rfl rfl)) ?_
  refine Ch.nil ?_
  refine T_block ?_
  refine T_loop (ι := Nat × List (List UInt8)) (fun q => { n := 42, sl := [(0, (.row 1)), (1, (.d (.fn f caps))), (5, (.d (.int .i64 (((keepTo p xs q.1).length : Nat) : Int)))), (6, (.d (.int .i64 ((q.1 : Nat) : Int))))], hp := [(1, (some (.row 1 (q.2.map D.str))))], pin := [1] }) (fun q => DelInv p xs q.1 q.2) (fun q => xs.length - q.1) ⟨((ixF p xs).toNat + 1, xs), (by obtain ⟨k0, hk0, hk1, hk2⟩ := ixF_first h1; have e : (ixF p xs).toNat = k0 := (by omega); rw [e]; exact DelInv.start hk0 hk2), (Wk.of rfl rfl (And.intro rfl (And.intro rfl (And.intro (vI (by first | (obtain ⟨k0, hk0, hk1, hk2⟩ := ixF_first h1; have e : (ixF p xs).toNat = k0 := (by omega); dsimp only; rw [e, hk2, hk1, List.length_take, Nat.min_eq_left (by omega)]; done) | (have e := (hp0.keep (by omega) (by assumption)).2; dsimp only; omega) | (have e := (hp0.skip (by omega) (by assumption)).2; dsimp only; omega))) (And.intro (vI (by first | rfl | omega | (simp; done) | (simp; omega))) trivial)))) (And.intro (oR (by first | rfl | (rw [List.map_set]; done))) trivial))⟩ (fun q hp0 => ?_)
  have hq1 := hp0.len; have hq2 := hp0.lt; have hq3 := hp0.le
  refine T_seq ?_
  refine T_seq ?_
  refine T_region hc ?_
  refine Ch.s (.d (.int .i64 ((q.1 : Nat) : Int))) (.pure (.move _ rfl rfl)) ?_
  refine Ch.s (.row 1) (.pure (.move _ rfl rfl)) ?_
  refine Ch.s (.d (.int .i64 ((q.2.length : Nat) : Int))) (.pure (.len _ _ 9 rfl Try.underlying23 (.row rfl) (by simp))) ?_
  refine Ch.s (.d (.bool (decide (((q.1 : Nat) : Int) < ((q.2.length : Nat) : Int))))) (.pure (.int _ _ _ _ _ rfl rfl rfl rfl)) ?_
  refine Ch.nil ?_
  refine T_cond (b := (decide (((q.1 : Nat) : Int) < ((q.2.length : Nat) : Int)))) rfl (fun h2 => ?_) (fun h2 => ?_)
  ·
   replace h2 := of_decide_eq_true h2
   refine T_skip ?_
   refine T_seq ?_
   refine T_block ?_
   refine T_seq ?_
   refine T_region hc ?_
   refine Ch.s (.row 1) (.pure (.move _ rfl rfl)) ?_
   refine Ch.s (.d (.int .i64 ((q.1 : Nat) : Int))) (.pure (.move _ rfl rfl)) ?_
   refine Ch.s (.el 1 1 q.1 0) (.pure (.idxRow _ _ _ 9 (q.1) rfl Try.underlying23 sz9 rfl rfl rfl rfl (by first | omega | (simp only [List.length_map, List.length_set]; omega) | (simp; omega)))) ?_
   refine Ch.s (.d (.str (q.2.getD q.1 default))) (.pure (.loadEl1 _ _ rfl ag9 rfl rfl get_mapA rfl rfl rfl)) ?_
   refine Ch.s (.d (.str (q.2.getD q.1 default))) (.pure (.assign _ rfl rfl)) ?_
   refine Ch.nil ?_
   refine T_seq ?_
   refine T_region hc ?_
   refine Ch.s (.d (.fn f caps)) (.pure (.move _ rfl rfl)) ?_
   refine Ch.s (.d (.str (q.2.getD q.1 default))) (.pure (.move _ rfl rfl)) ?_
   refine Ch.step (v := (.d (.bool (p (q.2.getD q.1 default))))) rfl (.callS 28000 f _ #[.tmp 27] _ hf rfl (.inr ⟨caps, rfl, rfl⟩) (.cons (.d _) (exps_ds caps)) rfl ((by first | exact hp _ (getD_mem (by omega)) | exact hp _ (hp0.mem (by omega)))) (.skip _ _ (back_anys caps)) rfl) rfl rfl ?_
   refine Ch.s (.d (.bool (!(p (q.2.getD q.1 default))))) (.pure (.not _ _ rfl rfl)) ?_
   refine Ch.nil ?_
   refine T_cond (b := (!(p (q.2.getD q.1 default)))) rfl (fun h3 => ?_) (fun h3 => ?_)
   ·
    replace h3 := nott h3
    refine T_seq ?_
    refine T_region hc ?_
    refine Ch.s (.row 1) (.pure (.move _ rfl rfl)) ?_
    refine Ch.s (.d (.int .i64 (((keepTo p xs q.1).length : Nat) : Int))) (.pure (.move _ rfl rfl)) ?_
    refine Ch.s (.d (.str (q.2.getD q.1 default))) (.pure (.move _ rfl rfl)) ?_
    refine Ch.s (.el 1 1 ((keepTo p xs q.1).length) 0) (.pure (.idxRow _ _ _ 9 ((keepTo p xs q.1).length) rfl Try.underlying23 sz9 rfl rfl rfl rfl (by first | omega | (simp only [List.length_map, List.length_set]; omega) | (simp; omega)))) ?_
    refine Ch.s .junk (.storeEl (y' := (.str (q.2.getD q.1 default))) _ _ _ rfl rfl rfl (.d _) rfl sz9 rfl get_mapA rfl rfl) ?_
    refine Ch.nil ?_
    refine T_region hc ?_
    refine Ch.s (.d (.int .i64 (((keepTo p xs q.1).length : Nat) : Int))) (.pure (.move _ rfl rfl)) ?_
    refine Ch.s (.d (.int .i64 ((((keepTo p xs q.1).length : Nat) : Int) + 1))) (.pure (.int _ _ _ _ _ rfl rfl rfl intV_addA)) ?_
    refine Ch.s (.d (.int .i64 ((((keepTo p xs q.1).length : Nat) : Int) + 1))) (.pure (.assign _ rfl rfl)) ?_
    refine Ch.nil ?_
    refine T_region hc ?_
    refine Ch.s (.d (.int .i64 ((q.1 : Nat) : Int))) (.pure (.move _ rfl rfl)) ?_
    refine Ch.s (.d (.int .i64 (((q.1 : Nat) : Int) + 1))) (.pure (.int _ _ _ _ _ rfl rfl rfl intV_addA)) ?_
    refine Ch.s (.d (.int .i64 (((q.1 : Nat) : Int) + 1))) (.pure (.assign _ rfl rfl)) ?_
    refine Ch.nil ?_
    refine Exists.intro ((q.1 + 1, q.2.set (keepTo p xs q.1).length (q.2.getD q.1 default))) (And.intro (by first | exact (hp0.keep (by omega) (by assumption)).1 | exact (hp0.skip (by omega) (by assumption)).1) (And.intro (by first | omega | (dsimp only; omega)) (Wk.of rfl rfl (And.intro rfl (And.intro rfl (And.intro (vI (by first | (obtain ⟨k0, hk0, hk1, hk2⟩ := ixF_first h1; have e : (ixF p xs).toNat = k0 := (by omega); dsimp only; rw [e, hk2, hk1, List.length_take, Nat.min_eq_left (by omega)]; done) | (have e := (hp0.keep (by omega) (by assumption)).2; dsimp only; omega) | (have e := (hp0.skip (by omega) (by assumption)).2; dsimp only; omega))) (And.intro (vI (by first | rfl | omega | (simp; done) | (simp; omega))) trivial)))) (And.intro (oR (by first | rfl | (rw [List.map_set]; done))) trivial))))
   ·
    replace h3 := notf h3
    refine T_skip ?_
    refine T_region hc ?_
    refine Ch.s (.d (.int .i64 ((q.1 : Nat) : Int))) (.pure (.move _ rfl rfl)) ?_
    refine Ch.s (.d (.int .i64 (((q.1 : Nat) : Int) + 1))) (.pure (.int _ _ _ _ _ rfl rfl rfl intV_addA)) ?_
    refine Ch.s (.d (.int .i64 (((q.1 : Nat) : Int) + 1))) (.pure (.assign _ rfl rfl)) ?_
    refine Ch.nil ?_
    refine Exists.intro ((q.1 + 1, q.2)) (And.intro (by first | exact (hp0.keep (by omega) (by assumption)).1 | exact (hp0.skip (by omega) (by assumption)).1) (And.intro (by first | omega | (dsimp only; omega)) (Wk.of rfl rfl (And.intro rfl (And.intro rfl (And.intro (vI (by first | (obtain ⟨k0, hk0, hk1, hk2⟩ := ixF_first h1; have e : (ixF p xs).toNat = k0 := (by omega); dsimp only; rw [e, hk2, hk1, List.length_take, Nat.min_eq_left (by omega)]; done) | (have e := (hp0.keep (by omega) (by assumption)).2; dsimp only; omega) | (have e := (hp0.skip (by omega) (by assumption)).2; dsimp only; omega))) (And.intro (vI (by first | rfl | omega | (simp; done) | (simp; omega))) trivial)))) (And.intro (oR (by first | rfl | (rw [List.map_set]; done))) trivial))))
  ·
   replace h2 := of_decide_eq_false h2
   refine T_exit ?_
   refine T_seq ?_
   refine T_region hc ?_
   refine Ch.s (.row 1) (.pure (.move _ rfl rfl)) ?_
   refine Ch.s (.d (.int .i64 (((keepTo p xs q.1).length : Nat) : Int))) (.pure (.move _ rfl rfl)) ?_
   refine Ch.s (.sub 1 1 ((keepTo p xs q.1).length) q.2.length) (.pure (.subRow _ _ _ _ 9 ((keepTo p xs q.1).length) (q.2.length) rfl Try.underlying23 sz9 rfl rfl (bndS rfl rfl) (bndN (by simp)) (by first | omega | (simp only [List.length_map, List.length_append, List.length_take, List.length_drop, List.length_cons, List.length_nil]; omega) | (simp; omega) | (simp; done)) (by first | omega | (simp only [List.length_map, List.length_append, List.length_take, List.length_drop, List.length_cons, List.length_nil]; omega) | (simp; omega) | (simp; done)))) ?_
   refine Ch.s .junk (.clear _ _ 9 rfl sty23 rfl rfl (by first | omega | (simp only [List.length_map, List.length_append, List.length_take, List.length_drop, List.length_cons, List.length_nil]; omega) | (simp; omega) | (simp; done)) (noUs_map (fun _ => rfl) _) (zeroD_mk (zd := (.str [])) zr9 (by intro S w; rw [DR]; exact ⟨rfl, rfl⟩) rfl)) ?_
   refine Ch.nil ?_
   refine T_seq ?_
   refine T_region hc ?_
   refine Ch.s (.row 1) (.pure (.move _ rfl rfl)) ?_
   refine Ch.s (.d (.int .i64 (((keepTo p xs q.1).length : Nat) : Int))) (.pure (.move _ rfl rfl)) ?_
   refine Ch.s (.row 41000) (.cut 41000 _ _ _ 9 ((keepTo p xs q.1).length) rfl Try.underlying23 sz9 rfl rfl (bndS rfl rfl) (by first | omega | (simp only [List.length_map, List.length_append, List.length_take, List.length_drop, List.length_cons, List.length_nil]; omega) | (simp; omega) | (simp; done)) rfl) ?_
   refine Ch.s (.row 41000) (.pure (.assign _ rfl rfl)) ?_
   refine Ch.nil ?_
   refine T_ret ?_
   refine And.intro (.inr rfl) ?_
   exact Exists.intro [(.row 41000)] (Exists.intro [] (Exists.intro [41000] (And.intro (.cons (.tmp 4 rfl) .nil) (And.intro (.cons (.any _) (.cons (.any _) .nil)) (And.intro (Exp.of (congrArg (D.slice true 1) (by first | (rw [ixF_all h1]; done) | (rw [take_cut (by simp; omega), ← List.map_take, hp0.done (by omega)]; done) | skip)) (.row rfl)) (And.intro rfl rfl))))))

theorem szS_val {xs : List (List UInt8)} {left : Int} (h : (bulkS xs : Int) ≤ left) : szS xs left = left - bulkS xs := by rw [szS, if_pos h]

theorem codesB_len {n : Int} {xs : List (List UInt8)} (h : codesB n xs = true) : ∀ u ∈ xs, (u.length : Int) = n := by
  intro u hu
  obtain ⟨j, hj, rfl⟩ := List.mem_iff_getElem.1 hu
  have h1 := allB_true.1 h j hj
  have e : xs.getD j default = xs[j] := by simp [hj]
  rw [e] at h1
  unfold codeN at h1
  simp only [Bool.and_eq_true, decide_eq_true_iff] at h1
  exact h1.1.2

theorem onoff_parts {n : Int} {xs ys : List (List UInt8)} (h : onoffB n xs ys = true) : (1 ≤ n ∧ n ≤ 8) ∧ xs.length ≤ 64 ∧ ys.length ≤ 256 ∧ (∀ u ∈ xs, (u.length : Int) = n) ∧ (∀ u ∈ ys, (u.length : Int) = n) := by
  unfold onoffB at h
  simp only [Bool.and_eq_true, decide_eq_true_iff] at h
  have h1 := within_two h.1
  exact ⟨h1, by omega, by omega, codesB_len h.2.2.2.1, codesB_len h.2.2.2.2.1⟩

theorem en59 : Enters Try.prog 59 := ⟨_, Try.func59, by kernel_rfl, rfl⟩

theorem en167 : Enters Try.prog 167 := ⟨_, Try.func167, by kernel_rfl, rfl⟩

theorem en106 : Enters Try.prog 106 := ⟨_, Try.func106, by kernel_rfl, rfl⟩

theorem en134 : Enters Try.prog 134 := ⟨_, Try.func134, by kernel_rfl, rfl⟩

theorem en138 : Enters Try.prog 138 := ⟨_, Try.func138, by kernel_rfl, rfl⟩

theorem en133 : Enters Try.prog 133 := ⟨_, Try.func133, by kernel_rfl, rfl⟩

theorem en135 : Enters Try.prog 135 := ⟨_, Try.func135, by kernel_rfl, rfl⟩

theorem en139 : Enters Try.prog 139 := ⟨_, Try.func139, by kernel_rfl, rfl⟩

theorem en136 : Enters Try.prog 136 := ⟨_, Try.func136, by kernel_rfl, rfl⟩

theorem en137 : Enters Try.prog 137 := ⟨_, Try.func137, by kernel_rfl, rfl⟩

theorem en56 : Enters Try.prog 56 := ⟨_, Try.func56, by kernel_rfl, rfl⟩

theorem en92 : Enters Try.prog 92 := ⟨_, Try.func92, by kernel_rfl, rfl⟩

theorem en93 : Enters Try.prog 93 := ⟨_, Try.func93, by kernel_rfl, rfl⟩

theorem en64 : Enters Try.prog 64 := ⟨_, Try.func64, by kernel_rfl, rfl⟩

theorem en94 : Enters Try.prog 94 := ⟨_, Try.func94, by kernel_rfl, rfl⟩

def ftake {τ : Type} (p : τ → Bool) (xs : List τ) (k : Nat) : List τ := (xs.take k).filter p

theorem ftake_yes {τ : Type} [Inhabited τ] {p : τ → Bool} {xs : List τ} {k : Nat} (hk : k < xs.length) (h : p (xs.getD k default) = true) : ftake p xs k ++ [xs.getD k default] = ftake p xs (k + 1) := by
  have hg : xs.getD k default = xs[k] := by simp [hk]
  rw [hg] at h ⊢
  rw [ftake, ftake, List.take_succ_eq_append_getElem hk, List.filter_append]; simp [h]

theorem ftake_no {τ : Type} [Inhabited τ] {p : τ → Bool} {xs : List τ} {k : Nat} (hk : k < xs.length) (h : p (xs.getD k default) = false) : ftake p xs k = ftake p xs (k + 1) := by
  have hg : xs.getD k default = xs[k] := by simp [hk]
  rw [hg] at h
  rw [ftake, ftake, List.take_succ_eq_append_getElem hk, List.filter_append]; simp [h]

theorem ftake_all {τ : Type} {p : τ → Bool} {xs : List τ} {k : Nat} (h : xs.length ≤ k) : ftake p xs k = xs.filter p := by rw [ftake, List.take_of_length_le h]

theorem ftake_le {τ : Type} (p : τ → Bool) (xs : List τ) (k : Nat) : (ftake p xs k).length ≤ k := by
  have h1 := List.length_filter_le p (xs.take k)
  rw [List.length_take] at h1
  unfold ftake; omega

def three (u : List UInt8) : List (List UInt8) := [u ++ [45], u ++ [48], u ++ [49]]

def cubes : Nat → List (List UInt8)
  | 0 => [[]]
  | n + 1 => (cubes n).flatMap three

def cubesMid (k m : Nat) : List (List UInt8) := ((cubes k).take m).flatMap three

theorem cubesMid_all {k m : Nat} (h : (cubes k).length ≤ m) : cubesMid k m = cubes (k + 1) := by rw [cubesMid, List.take_of_length_le h]; rfl

theorem cubesMid_succ {k m : Nat} (h : m < (cubes k).length) : cubesMid k m ++ [(cubes k).getD m default ++ [45], (cubes k).getD m default ++ [48], (cubes k).getD m default ++ [49]] = cubesMid k (m + 1) := by
  rw [cubesMid, cubesMid, List.take_succ_eq_append_getElem h, List.flatMap_append]; simp [three, h]

theorem three_length : ∀ l : List (List UInt8), (l.flatMap three).length = 3 * l.length
  | [] => rfl
  | u :: l => by rw [List.flatMap_cons, List.length_append, three_length l]; simp [three]; omega

theorem cubes_length : ∀ n, (cubes n).length = 3 ^ n
  | 0 => rfl
  | n + 1 => by rw [cubes, three_length, cubes_length n]; omega

theorem cubesMid_length (k m : Nat) (h : m ≤ (cubes k).length) : (cubesMid k m).length = 3 * m := by rw [cubesMid, three_length, List.length_take, Nat.min_eq_left h]

theorem cubes_mem : ∀ n, ∀ u ∈ cubes n, u.length = n
  | 0, u, h => by simp [cubes] at h; simp [h]
  | n + 1, u, h => by
    rw [cubes, List.mem_flatMap] at h
    obtain ⟨v, hv, hu⟩ := h
    have := cubes_mem n v hv
    simp [three] at hu
    rcases hu with rfl | rfl | rfl <;> simp [this]

theorem sp_impl_allCubes (n : Int) (h0 : 0 ≤ n) (hn : n ≤ 8) : Sp Try.prog 136 [(.int .i64 n)] [.any] (.slice true 1 ((cubes n.toNat).map D.str)) := by
 refine Sp_intro (lend := true) Try.func136 rfl rfl rfl (fun _ => rfl) (fun c hc hX => ?_)
 refine T_seq ?_
 refine T_region hc ?_
 refine Ch.s (.c (.slice none 0 0)) (.pure (.assign _ rfl rfl)) ?_
 refine Ch.nil ?_
 refine T_seq ?_
 refine T_region hc ?_
 refine Ch.s (.row 7000) (.slice 7000 _ 9 _ rfl sty23 (xs := [.const (.string { data := #[] })]) rfl rfl (.cons (.d _) .nil) rfl rfl (by decide)) ?_
 refine Ch.s (.row 7000) (.pure (.assign _ rfl rfl)) ?_
 refine Ch.nil ?_
 refine T_seq ?_
 refine T_seq ?_
 refine T_region hc ?_
 refine Ch.s (.d (.int .i64 n)) (.pure (.move _ rfl rfl)) ?_
 refine Ch.s (.d (.int .i64 0)) (.pure (.move _ rfl rfl)) ?_
 refine Ch.nil ?_
 refine T_block ?_
 refine T_loop (ι := Nat) (fun k => { n := 31, sl := [(3, (.row 3)), (8, (.d (.int .i64 n))), (9, (.d (.int .i64 ((k : Nat) : Int))))], hp := [(3, (some (.row 1 ((cubes k).map D.str))))], pin := [] }) (fun k => (k : Int) ≤ n) (fun k => n.toNat - k) ⟨0, (by omega), (Wk.ren [(3, 7000)] rfl rfl rfl rfl (And.intro rfl (And.intro rfl (And.intro (vI (by first | rfl | omega | (simp; done) | (simp; omega))) trivial))) (And.intro (oR (by first | rfl | (rw [cubesMid_all (by omega)]; done))) trivial))⟩ (fun k hp0 => ?_)
 have hl := cubes_length k; have hp3 : 3 ^ k ≤ 3 ^ 8 := Nat.pow_le_pow_right (by omega) (by omega)
 refine T_seq ?_
 refine T_region hc ?_
 refine Ch.s (.d (.bool (decide (((k : Nat) : Int) < n)))) (.pure (.int _ _ _ _ _ rfl rfl rfl rfl)) ?_
 refine Ch.nil ?_
 refine T_seq ?_
 refine T_cond (b := (decide (((k : Nat) : Int) < n))) rfl (fun h1 => ?_) (fun h1 => ?_)
 ·
  replace h1 := of_decide_eq_true h1
  refine T_skip ?_
  refine T_seq ?_
  refine T_block ?_
  refine T_seq ?_
  refine T_region hc ?_
  refine Ch.s (.row 11000) (.slice 11000 _ 9 _ rfl sty23 (xs := []) rfl rfl .nil rfl rfl (by decide)) ?_
  refine Ch.s (.row 11000) (.pure (.assign _ rfl rfl)) ?_
  refine Ch.nil ?_
  refine T_seq ?_
  refine T_seq ?_
  refine T_region hc ?_
  refine Ch.s (.row 3) (.pure (.move _ rfl rfl)) ?_
  refine Ch.s (.d (.int .i64 (((cubes k).length : Nat) : Int))) (.pure (.len _ _ 9 rfl Try.underlying23 (.row rfl) (by simp))) ?_
  refine Ch.s (.d (.int .i64 0)) (.pure (.move _ rfl rfl)) ?_
  refine Ch.nil ?_
  refine T_block ?_
  refine T_loop (ι := Nat) (fun m => { n := 31, sl := [(4, (.row 4)), (8, (.d (.int .i64 n))), (9, (.d (.int .i64 ((k : Nat) : Int)))), (12, (.row 3)), (13, (.d (.int .i64 (((cubes k).length : Nat) : Int)))), (14, (.d (.int .i64 ((m : Nat) : Int))))], hp := [(3, (some (.row 1 ((cubes k).map D.str)))), (4, (some (.row 1 ((cubesMid k m).map D.str))))], pin := [] }) (fun m => m ≤ (cubes k).length) (fun m => (cubes k).length - m) ⟨0, (by omega), (Wk.ren [(4, 11000)] rfl rfl rfl rfl (And.intro rfl (And.intro rfl (And.intro rfl (And.intro rfl (And.intro rfl (And.intro (vI (by first | rfl | omega | (simp; done) | (simp; omega))) trivial)))))) (And.intro rfl (And.intro (oR (by first | rfl | (rw [← cubesMid_succ (by omega), List.map_append]; rfl))) trivial)))⟩ (fun m hp1 => ?_)
  have hm := cubesMid_length k m hp1
  refine T_seq ?_
  refine T_region hc ?_
  refine Ch.s (.d (.bool (decide (((m : Nat) : Int) < (((cubes k).length : Nat) : Int))))) (.pure (.int _ _ _ _ _ rfl rfl rfl rfl)) ?_
  refine Ch.nil ?_
  refine T_seq ?_
  refine T_cond (b := (decide (((m : Nat) : Int) < (((cubes k).length : Nat) : Int)))) rfl (fun h2 => ?_) (fun h2 => ?_)
  ·
   replace h2 := of_decide_eq_true h2
   try have hk := cubes_mem k _ (getD_mem (l := cubes k) (j := m) (d := default) (by omega))
   refine T_skip ?_
   refine T_seq ?_
   refine T_block ?_
   refine T_seq ?_
   refine T_region hc ?_
   refine Ch.s (.el 3 1 m 0) (.pure (.idxRow _ _ _ 9 (m) rfl Try.underlying23 sz9 rfl rfl rfl rfl (by first | omega | (simp only [List.length_map, List.length_set]; omega) | (simp; omega)))) ?_
   refine Ch.s (.d (.str ((cubes k).getD m default))) (.pure (.loadEl1 _ _ rfl ag9 rfl rfl get_mapA rfl rfl rfl)) ?_
   refine Ch.s (.d (.str ((cubes k).getD m default))) (.pure (.assign _ rfl rfl)) ?_
   refine Ch.nil ?_
   refine T_region hc ?_
   refine Ch.s (.row 4) (.pure (.move _ rfl rfl)) ?_
   refine Ch.s (.d (.str ((cubes k).getD m default))) (.pure (.move _ rfl rfl)) ?_
   refine Ch.s (.d (.str (((cubes k).getD m default) ++ [45]))) (.pure (.str _ _ _ _ _ rfl rfl rfl (strV_add (by first | omega | (simp only [List.length_map, List.length_append, List.length_take, List.length_drop, List.length_cons, List.length_nil]; omega) | (simp; omega) | (simp; done))))) ?_
   refine Ch.s (.d (.str ((cubes k).getD m default))) (.pure (.move _ rfl rfl)) ?_
   refine Ch.s (.d (.str (((cubes k).getD m default) ++ [48]))) (.pure (.str _ _ _ _ _ rfl rfl rfl (strV_add (by first | omega | (simp only [List.length_map, List.length_append, List.length_take, List.length_drop, List.length_cons, List.length_nil]; omega) | (simp; omega) | (simp; done))))) ?_
   refine Ch.s (.d (.str ((cubes k).getD m default))) (.pure (.move _ rfl rfl)) ?_
   refine Ch.s (.d (.str (((cubes k).getD m default) ++ [49]))) (.pure (.str _ _ _ _ _ rfl rfl rfl (strV_add (by first | omega | (simp only [List.length_map, List.length_append, List.length_take, List.length_drop, List.length_cons, List.length_nil]; omega) | (simp; omega) | (simp; done))))) ?_
   refine Ch.s (.row 25000) (.slice 25000 _ 9 _ rfl sty23 (xs := [.tmp 20, .tmp 22, .tmp 24]) rfl rfl (.cons (.d _) (.cons (.d _) (.cons (.d _) .nil))) rfl rfl (by decide)) ?_
   refine Ch.step (v := (.row 26000)) rfl (.append 26000 _ _ _ 9 rfl sty23 (by decide) (.rowK rfl) (.inr ⟨_, rfl, rfl⟩) (.row rfl rfl) rfl (by first | omega | (simp only [List.length_append, List.length_map, List.length_cons, List.length_nil]; omega) | (simp; omega) | (simp; done))) rfl rfl ?_
   refine Ch.s (.row 26000) (.pure (.assign _ rfl rfl)) ?_
   refine Ch.nil ?_
   refine T_region hc ?_
   refine Ch.s (.d (.int .i64 (((m : Nat) : Int) + 1))) (.pure (.int _ _ _ _ _ rfl rfl rfl intV_addA)) ?_
   refine Ch.s (.d (.int .i64 (((m : Nat) : Int) + 1))) (.pure (.move _ rfl rfl)) ?_
   refine Ch.nil ?_
   refine Exists.intro (m + 1) (And.intro (by omega) (And.intro (by first | omega | (dsimp only; omega)) (Wk.ren [(4, 26000)] rfl rfl rfl rfl (And.intro rfl (And.intro rfl (And.intro rfl (And.intro rfl (And.intro rfl (And.intro (vI (by first | rfl | omega | (simp; done) | (simp; omega))) trivial)))))) (And.intro rfl (And.intro (oR (by first | rfl | (rw [← cubesMid_succ (by omega), List.map_append]; rfl))) trivial)))))
  ·
   replace h2 := of_decide_eq_false h2
   try have hk := cubes_mem k _ (getD_mem (l := cubes k) (j := m) (d := default) (by omega))
   refine T_exit ?_
   refine T_region hc ?_
   refine Ch.s (.row 4) (.pure (.move _ rfl rfl)) ?_
   refine Ch.s (.row 4) (.pure (.assign _ rfl rfl)) ?_
   refine Ch.nil ?_
   refine T_region hc ?_
   refine Ch.s (.d (.int .i64 (((k : Nat) : Int) + 1))) (.pure (.int _ _ _ _ _ rfl rfl rfl intV_addA)) ?_
   refine Ch.s (.d (.int .i64 (((k : Nat) : Int) + 1))) (.pure (.move _ rfl rfl)) ?_
   refine Ch.nil ?_
   refine Exists.intro (k + 1) (And.intro (by omega) (And.intro (by first | omega | (dsimp only; omega)) (Wk.ren [(3, 4)] rfl rfl rfl rfl (And.intro rfl (And.intro rfl (And.intro (vI (by first | rfl | omega | (simp; done) | (simp; omega))) trivial))) (And.intro (oR (by first | rfl | (rw [cubesMid_all (by omega)]; done))) trivial))))
 ·
  replace h1 := of_decide_eq_false h1
  refine T_exit ?_
  refine T_seq ?_
  refine T_region hc ?_
  refine Ch.s (.row 3) (.pure (.move _ rfl rfl)) ?_
  refine Ch.s (.row 3) (.pure (.assign _ rfl rfl)) ?_
  refine Ch.nil ?_
  refine T_ret ?_
  refine And.intro (.inr rfl) ?_
  exact Exists.intro [(.row 3)] (Exists.intro [] (Exists.intro [3] (And.intro (.cons (.tmp 2 rfl) .nil) (And.intro (.cons (.any _) .nil) (And.intro (Exp.of (congrArg (D.slice true 1) (by rw [show n.toNat = k by omega])) (.row rfl)) (And.intro rfl rfl))))))

theorem sp_spec_l14Cubes (n : Int) (h0 : 0 ≤ n) (hn : n ≤ 8) : Sp Try.prog 133 [(.int .i64 n)] [.any] (.slice true 1 ((cubes n.toNat).map D.str)) := by
 refine Sp_intro (lend := true) Try.func133 rfl rfl rfl (fun _ => rfl) (fun c hc hX => ?_)
 refine T_seq ?_
 refine T_region hc ?_
 refine Ch.s (.c (.slice none 0 0)) (.pure (.assign _ rfl rfl)) ?_
 refine Ch.nil ?_
 refine T_seq ?_
 refine T_region hc ?_
 refine Ch.s (.row 7000) (.slice 7000 _ 9 _ rfl sty23 (xs := [.const (.string { data := #[] })]) rfl rfl (.cons (.d _) .nil) rfl rfl (by decide)) ?_
 refine Ch.s (.row 7000) (.pure (.assign _ rfl rfl)) ?_
 refine Ch.nil ?_
 refine T_seq ?_
 refine T_block ?_
 refine T_loop (ι := Nat) (fun k => { n := 30, sl := [(0, (.d (.int .i64 (n - k)))), (3, (.row 3))], hp := [(3, (some (.row 1 ((cubes k).map D.str))))], pin := [] }) (fun k => (k : Int) ≤ n) (fun k => n.toNat - k) ⟨0, (by omega), (Wk.ren [(3, 7000)] rfl rfl rfl rfl (And.intro (vI (by omega)) (And.intro rfl trivial)) (And.intro (oR (by first | rfl | (rw [cubesMid_all (by omega)]; done))) trivial))⟩ (fun k hp0 => ?_)
 have hl := cubes_length k; have hp3 : 3 ^ k ≤ 3 ^ 8 := Nat.pow_le_pow_right (by omega) (by omega)
 refine T_seq ?_
 refine T_seq ?_
 refine T_region hc ?_
 refine Ch.s (.d (.int .i64 (n - k))) (.pure (.move _ rfl rfl)) ?_
 refine Ch.s (.d (.bool (decide (0 < (n - k))))) (.pure (.int _ _ _ _ _ rfl rfl rfl rfl)) ?_
 refine Ch.nil ?_
 refine T_cond (b := (decide (0 < (n - k)))) rfl (fun h1 => ?_) (fun h1 => ?_)
 ·
  replace h1 := of_decide_eq_true h1
  refine T_skip ?_
  refine T_seq ?_
  refine T_block ?_
  refine T_seq ?_
  refine T_region hc ?_
  refine Ch.s (.c (.slice none 0 0)) (.pure (.assign _ rfl rfl)) ?_
  refine Ch.nil ?_
  refine T_seq ?_
  refine T_seq ?_
  refine T_region hc ?_
  refine Ch.s (.row 3) (.pure (.move _ rfl rfl)) ?_
  refine Ch.s (.d (.int .i64 (((cubes k).length : Nat) : Int))) (.pure (.len _ _ 9 rfl Try.underlying23 (.row rfl) (by simp))) ?_
  refine Ch.s (.d (.int .i64 0)) (.pure (.move _ rfl rfl)) ?_
  refine Ch.nil ?_
  refine T_block ?_
  refine T_loop (ι := Nat) (fun m => { n := 30, sl := [(0, (.d (.int .i64 (n - k)))), (4, (.row 4)), (12, (.row 3)), (13, (.d (.int .i64 (((cubes k).length : Nat) : Int)))), (14, (.d (.int .i64 ((m : Nat) : Int))))], hp := [(3, (some (.row 1 ((cubes k).map D.str)))), (4, (some (.row 1 ((cubesMid k m).map D.str))))], pin := [] }) (fun m => m ≤ (cubes k).length) (fun m => (cubes k).length - m) ⟨0, (by omega), (Wk.trans (Wk.nilrow 4 900004 1 rfl rfl rfl) (Wk.ren [(4, 900004)] rfl rfl rfl rfl (And.intro rfl (And.intro rfl (And.intro rfl (And.intro rfl (And.intro (vI (by first | rfl | omega | (simp; done) | (simp; omega))) trivial))))) (And.intro rfl (And.intro (oR (by first | rfl | (rw [← cubesMid_succ (by omega), List.map_append]; rfl))) trivial))))⟩ (fun m hp1 => ?_)
  have hm := cubesMid_length k m hp1
  refine T_seq ?_
  refine T_region hc ?_
  refine Ch.s (.d (.bool (decide (((m : Nat) : Int) < (((cubes k).length : Nat) : Int))))) (.pure (.int _ _ _ _ _ rfl rfl rfl rfl)) ?_
  refine Ch.nil ?_
  refine T_seq ?_
  refine T_cond (b := (decide (((m : Nat) : Int) < (((cubes k).length : Nat) : Int)))) rfl (fun h2 => ?_) (fun h2 => ?_)
  ·
   replace h2 := of_decide_eq_true h2
   try have hk := cubes_mem k _ (getD_mem (l := cubes k) (j := m) (d := default) (by omega))
   refine T_skip ?_
   refine T_seq ?_
   refine T_block ?_
   refine T_seq ?_
   refine T_region hc ?_
   refine Ch.s (.el 3 1 m 0) (.pure (.idxRow _ _ _ 9 (m) rfl Try.underlying23 sz9 rfl rfl rfl rfl (by first | omega | (simp only [List.length_map, List.length_set]; omega) | (simp; omega)))) ?_
   refine Ch.s (.d (.str ((cubes k).getD m default))) (.pure (.loadEl1 _ _ rfl ag9 rfl rfl get_mapA rfl rfl rfl)) ?_
   refine Ch.s (.d (.str ((cubes k).getD m default))) (.pure (.assign _ rfl rfl)) ?_
   refine Ch.nil ?_
   refine T_region hc ?_
   refine Ch.s (.row 4) (.pure (.move _ rfl rfl)) ?_
   refine Ch.s (.d (.str ((cubes k).getD m default))) (.pure (.move _ rfl rfl)) ?_
   refine Ch.s (.d (.str (((cubes k).getD m default) ++ [45]))) (.pure (.str _ _ _ _ _ rfl rfl rfl (strV_add (by first | omega | (simp only [List.length_map, List.length_append, List.length_take, List.length_drop, List.length_cons, List.length_nil]; omega) | (simp; omega) | (simp; done))))) ?_
   refine Ch.s (.d (.str ((cubes k).getD m default))) (.pure (.move _ rfl rfl)) ?_
   refine Ch.s (.d (.str (((cubes k).getD m default) ++ [48]))) (.pure (.str _ _ _ _ _ rfl rfl rfl (strV_add (by first | omega | (simp only [List.length_map, List.length_append, List.length_take, List.length_drop, List.length_cons, List.length_nil]; omega) | (simp; omega) | (simp; done))))) ?_
   refine Ch.s (.d (.str ((cubes k).getD m default))) (.pure (.move _ rfl rfl)) ?_
   refine Ch.s (.d (.str (((cubes k).getD m default) ++ [49]))) (.pure (.str _ _ _ _ _ rfl rfl rfl (strV_add (by first | omega | (simp only [List.length_map, List.length_append, List.length_take, List.length_drop, List.length_cons, List.length_nil]; omega) | (simp; omega) | (simp; done))))) ?_
   refine Ch.s (.row 25000) (.slice 25000 _ 9 _ rfl sty23 (xs := [.tmp 20, .tmp 22, .tmp 24]) rfl rfl (.cons (.d _) (.cons (.d _) (.cons (.d _) .nil))) rfl rfl (by decide)) ?_
   refine Ch.step (v := (.row 26000)) rfl (.append 26000 _ _ _ 9 rfl sty23 (by decide) (.rowK rfl) (.inr ⟨_, rfl, rfl⟩) (.row rfl rfl) rfl (by first | omega | (simp only [List.length_append, List.length_map, List.length_cons, List.length_nil]; omega) | (simp; omega) | (simp; done))) rfl rfl ?_
   refine Ch.s (.row 26000) (.pure (.assign _ rfl rfl)) ?_
   refine Ch.nil ?_
   refine T_region hc ?_
   refine Ch.s (.d (.int .i64 (((m : Nat) : Int) + 1))) (.pure (.int _ _ _ _ _ rfl rfl rfl intV_addA)) ?_
   refine Ch.s (.d (.int .i64 (((m : Nat) : Int) + 1))) (.pure (.move _ rfl rfl)) ?_
   refine Ch.nil ?_
   refine Exists.intro (m + 1) (And.intro (by omega) (And.intro (by first | omega | (dsimp only; omega)) (Wk.ren [(4, 26000)] rfl rfl rfl rfl (And.intro rfl (And.intro rfl (And.intro rfl (And.intro rfl (And.intro (vI (by first | rfl | omega | (simp; done) | (simp; omega))) trivial))))) (And.intro rfl (And.intro (oR (by first | rfl | (rw [← cubesMid_succ (by omega), List.map_append]; rfl))) trivial)))))
  ·
   replace h2 := of_decide_eq_false h2
   try have hk := cubes_mem k _ (getD_mem (l := cubes k) (j := m) (d := default) (by omega))
   refine T_exit ?_
   refine T_region hc ?_
   refine Ch.s (.row 4) (.pure (.move _ rfl rfl)) ?_
   refine Ch.s (.row 4) (.pure (.assign _ rfl rfl)) ?_
   refine Ch.nil ?_
   refine T_region hc ?_
   refine Ch.s (.d (.int .i64 (n - k))) (.pure (.move _ rfl rfl)) ?_
   refine Ch.s (.d (.int .i64 ((n - k) - 1))) (.pure (.int _ _ _ _ _ rfl rfl rfl intV_subA)) ?_
   refine Ch.s (.d (.int .i64 ((n - k) - 1))) (.pure (.assign _ rfl rfl)) ?_
   refine Ch.nil ?_
   refine Exists.intro (k + 1) (And.intro (by omega) (And.intro (by first | omega | (dsimp only; omega)) (Wk.ren [(3, 4)] rfl rfl rfl rfl (And.intro (vI (by omega)) (And.intro rfl trivial)) (And.intro (oR (by first | rfl | (rw [cubesMid_all (by omega)]; done))) trivial))))
 ·
  replace h1 := of_decide_eq_false h1
  refine T_exit ?_
  refine T_seq ?_
  refine T_region hc ?_
  refine Ch.s (.row 3) (.pure (.move _ rfl rfl)) ?_
  refine Ch.s (.row 3) (.pure (.assign _ rfl rfl)) ?_
  refine Ch.nil ?_
  refine T_ret ?_
  refine And.intro (.inr rfl) ?_
  exact Exists.intro [(.row 3)] (Exists.intro [] (Exists.intro [3] (And.intro (.cons (.tmp 2 rfl) .nil) (And.intro (.cons (.any _) .nil) (And.intro (Exp.of (congrArg (D.slice true 1) (by rw [show n.toNat = k by omega])) (.row rfl)) (And.intro rfl rfl))))))

def anyB (a : List UInt8) (us : List (List UInt8)) : Bool := us.any fun u => hasB a u

def dashAt (a : List UInt8) (j : Nat) : List UInt8 := a.take j ++ [45] ++ a.drop (j + 1)

theorem dashAt_length {a : List UInt8} {j : Nat} (h : j < a.length) : (dashAt a j).length = a.length := by simp [dashAt]; omega

def primeB (a : List UInt8) (off : List (List UInt8)) : Bool := allB a.length fun j => !(isLit a j && !anyB (dashAt a j) off)

def primP (on off : List (List UInt8)) (a : List UInt8) : Bool := anyB a on && (!anyB a off && primeB a off)

def primL (n : Nat) (on off : List (List UInt8)) : List (List UInt8) := (cubes n).filter (primP on off)

theorem sp_spec_l14Any (a : List UInt8) (us : List (List UInt8)) (hn : us.length ≤ 1048576) (ha : a.length ≤ 1048576) (hx : ∀ u ∈ us, a.length ≤ u.length) : Sp Try.prog 134 [(.str a), (.slice false 1 (us.map D.str))] [.any, .any] (.bool (anyB a us)) := by
 refine Sp_intro (lend := true) Try.func134 rfl rfl rfl (fun _ => rfl) (fun c hc hX => ?_)
 refine T_seq ?_
 refine T_region hc ?_
 refine Ch.s (.d (.bool false)) (.pure (.assign _ rfl rfl)) ?_
 refine Ch.nil ?_
 refine T_seq ?_
 refine T_seq ?_
 refine T_region hc ?_
 refine Ch.s (.d (.slice false 1 (us.map D.str))) (.pure (.move _ rfl rfl)) ?_
 refine Ch.s (.d (.int .i64 ((us.length : Nat) : Int))) (.pure (.len _ _ 9 rfl Try.underlying23 (.sh _ _) (by simp))) ?_
 refine Ch.s (.d (.int .i64 0)) (.pure (.move _ rfl rfl)) ?_
 refine Ch.nil ?_
 refine T_block ?_
 refine T_loop (ι := Nat) (fun k => { n := 17, sl := [(0, (.d (.str a))), (7, (.d (.slice false 1 (us.map D.str)))), (8, (.d (.int .i64 ((us.length : Nat) : Int)))), (9, (.d (.int .i64 ((k : Nat) : Int))))], hp := [], pin := [] }) (fun k => k ≤ us.length ∧ ∀ j, j < k → hasB a (us.getD j default) = false) (fun k => us.length - k) ⟨0, ⟨by omega, fun j hj => by omega⟩, (Wk.of rfl rfl (And.intro rfl (And.intro rfl (And.intro rfl (And.intro (vI (by first | rfl | omega | (simp; done) | (simp; omega))) trivial)))) trivial)⟩ (fun k hp0 => ?_)
 refine T_seq ?_
 refine T_region hc ?_
 refine Ch.s (.d (.bool (decide (((k : Nat) : Int) < ((us.length : Nat) : Int))))) (.pure (.int _ _ _ _ _ rfl rfl rfl rfl)) ?_
 refine Ch.nil ?_
 refine T_seq ?_
 refine T_cond (b := (decide (((k : Nat) : Int) < ((us.length : Nat) : Int)))) rfl (fun h1 => ?_) (fun h1 => ?_)
 ·
  replace h1 := of_decide_eq_true h1
  try have hk := hx _ (getD_mem (l := us) (j := k) (d := default) (by omega))
  refine T_skip ?_
  refine T_seq ?_
  refine T_block ?_
  refine T_seq ?_
  refine T_region hc ?_
  refine Ch.s (.d (.ref (.str (us.getD k default)))) (.pure (.idx _ _ _ 9 (k) rfl Try.underlying23 sz9 rfl rfl rfl get_mapA)) ?_
  refine Ch.s (.d (.str (us.getD k default))) (.pure (.loadRef1 _ _ rfl ag9 rfl rfl)) ?_
  refine Ch.s (.d (.str (us.getD k default))) (.pure (.assign _ rfl rfl)) ?_
  refine Ch.nil ?_
  refine T_seq ?_
  refine T_region hc ?_
  refine Ch.s (.d (.str a)) (.pure (.move _ rfl rfl)) ?_
  refine Ch.s (.d (.str (us.getD k default))) (.pure (.move _ rfl rfl)) ?_
  refine Ch.s (.d (.bool (hasB a (us.getD k default)))) (.call 15000 53 _ _ _ en53 rfl (.inl rfl) (.cons (.d _) (.cons (.d _) .nil)) rfl rfl (sp_spec_l13Has a (us.getD k default) (by first | omega | assumption | (exact hx _ (getD_mem (by omega))) | (exact hx _ (by assumption)) | (exact Nat.le_trans (hx _ (by assumption)) (by omega)) | (simp only [List.length_append, List.length_take, List.length_drop, List.length_cons, List.length_nil]; omega) | (simp_all; done)) (by first | omega | assumption | (exact hx _ (getD_mem (by omega))) | (exact hx _ (by assumption)) | (exact Nat.le_trans (hx _ (by assumption)) (by omega)) | (simp only [List.length_append, List.length_take, List.length_drop, List.length_cons, List.length_nil]; omega) | (simp_all; done))) (.skip _ _ (.skip _ _ .nil)) rfl) ?_
  refine Ch.nil ?_
  refine T_cond (b := (hasB a (us.getD k default))) rfl (fun h2 => ?_) (fun h2 => ?_)
  ·
   refine T_seq ?_
   refine T_region hc ?_
   refine Ch.s (.d (.bool true)) (.pure (.assign _ rfl rfl)) ?_
   refine Ch.nil ?_
   refine T_ret ?_
   refine And.intro (.inr rfl) ?_
   exact Exists.intro [(.d (.bool true))] (Exists.intro [] (Exists.intro [] (And.intro (.cons (.tmp 4 rfl) .nil) (And.intro (.cons (.any _) (.cons (.any _) .nil)) (And.intro (Exp.of (congrArg D.bool (by exact any_yes default k (by omega) (by assumption))) (.d _)) (And.intro rfl rfl))))))
  ·
   refine T_skip ?_
   refine T_region hc ?_
   refine Ch.s (.d (.int .i64 (((k : Nat) : Int) + 1))) (.pure (.int _ _ _ _ _ rfl rfl rfl intV_addA)) ?_
   refine Ch.s (.d (.int .i64 (((k : Nat) : Int) + 1))) (.pure (.move _ rfl rfl)) ?_
   refine Ch.nil ?_
   refine Exists.intro (k + 1) (And.intro ⟨by omega, upto_succ hp0.2 (by assumption)⟩ (And.intro (by first | omega | (dsimp only; omega)) (Wk.of rfl rfl (And.intro rfl (And.intro rfl (And.intro rfl (And.intro (vI (by first | rfl | omega | (simp; done) | (simp; omega))) trivial)))) trivial)))
 ·
  replace h1 := of_decide_eq_false h1
  try have hk := hx _ (getD_mem (l := us) (j := k) (d := default) (by omega))
  refine T_exit ?_
  refine T_seq ?_
  refine T_region hc ?_
  refine Ch.s (.d (.bool false)) (.pure (.assign _ rfl rfl)) ?_
  refine Ch.nil ?_
  refine T_ret ?_
  refine And.intro (.inr rfl) ?_
  exact Exists.intro [(.d (.bool false))] (Exists.intro [] (Exists.intro [] (And.intro (.cons (.tmp 4 rfl) .nil) (And.intro (.cons (.any _) (.cons (.any _) .nil)) (And.intro (Exp.of (congrArg D.bool (by exact any_no default (fun j hj => hp0.2 j (by omega)))) (.d _)) (And.intro rfl rfl))))))

theorem sp_impl_avoids_1 (u a : List UInt8) (ha : a.length ≤ 1048576) (hl : a.length ≤ u.length) : Sp Try.prog 167 [(.str u), (.ref (.str a))] [.any, .any] (.bool (hasB a u)) := by
 refine Sp_intro (lend := true) Try.func167 rfl rfl rfl (fun _ => rfl) (fun c hc hX => ?_)
 refine T_seq ?_
 refine T_region hc ?_
 refine Ch.s (.d (.bool false)) (.pure (.assign _ rfl rfl)) ?_
 refine Ch.nil ?_
 refine T_seq ?_
 refine T_region hc ?_
 refine Ch.s (.d (.str a)) (.pure (.loadRef1 _ _ rfl ag9 rfl rfl)) ?_
 refine Ch.s (.d (.str u)) (.pure (.move _ rfl rfl)) ?_
 refine Ch.s (.d (.bool (hasB a u))) (.call 6000 59 _ _ _ en59 rfl (.inl rfl) (.cons (.d _) (.cons (.d _) .nil)) rfl rfl (sp_impl_contains a u (by first | omega | assumption | (exact hx _ (getD_mem (by omega))) | (exact hx _ (by assumption)) | (exact Nat.le_trans (hx _ (by assumption)) (by omega)) | (simp only [List.length_append, List.length_take, List.length_drop, List.length_cons, List.length_nil]; omega) | (simp_all; done)) (by first | omega | assumption | (exact hx _ (getD_mem (by omega))) | (exact hx _ (by assumption)) | (exact Nat.le_trans (hx _ (by assumption)) (by omega)) | (simp only [List.length_append, List.length_take, List.length_drop, List.length_cons, List.length_nil]; omega) | (simp_all; done))) (.skip _ _ (.skip _ _ .nil)) rfl) ?_
 refine Ch.s (.d (.bool (hasB a u))) (.pure (.assign _ rfl rfl)) ?_
 refine Ch.nil ?_
 refine T_ret ?_
 refine And.intro (.inr rfl) ?_
 exact Exists.intro [(.d (.bool (hasB a u)))] (Exists.intro [] (Exists.intro [] (And.intro (.cons (.tmp 3 rfl) .nil) (And.intro (.cons (.any _) (.cons (.any _) .nil)) (And.intro (.d _) (And.intro rfl rfl))))))

theorem sp_impl_avoids (a : List UInt8) (us : List (List UInt8)) (hn : us.length ≤ 1048576) (ha : a.length ≤ 1048576) (hx : ∀ u ∈ us, a.length ≤ u.length) : Sp Try.prog 138 [(.str a), (.slice false 1 (us.map D.str))] [.any, .any] (.bool (!anyB a us)) := by
 refine Sp_intro (lend := true) Try.func138 rfl rfl rfl (fun _ => rfl) (fun c hc hX => ?_)
 refine T_seq ?_
 refine T_region hc ?_
 refine Ch.s (.ptr 2000 0) (.box 2000 _ _ rfl (.one _ rfl)) ?_
 refine Ch.s (.d (.bool false)) (.pure (.assign _ rfl rfl)) ?_
 refine Ch.nil ?_
 refine T_seq ?_
 refine T_region hc ?_
 refine Ch.s (.d (.slice false 1 (us.map D.str))) (.pure (.move _ rfl rfl)) ?_
 refine Ch.s (.fn 167 [(.ptr 2000 0)]) (.pure (.func _ _ rfl rfl)) ?_
 refine Ch.s (.d (.bool (us.any (fun u => hasB a u)))) (.call 7000 100 _ _ _ en100 rfl (.inl rfl) (.cons (.d _) (.cons (.lend (.fn (.cons (.ptr rfl (.one (.d _) rfl)) .nil))) .nil)) rfl rfl (sp_ContainsFunc_str us 167 [(.ref (.str a))] (fun u => hasB a u) en167 (fun u hu => sp_impl_avoids_1 u a (by first | omega | assumption | (exact hx _ (getD_mem (by omega))) | (exact hx _ (by assumption)) | (exact Nat.le_trans (hx _ (by assumption)) (by omega)) | (simp only [List.length_append, List.length_take, List.length_drop, List.length_cons, List.length_nil]; omega) | (simp_all; done)) (hx u hu)) (by first | omega | assumption | (exact hx _ (getD_mem (by omega))) | (exact hx _ (by assumption)) | (exact Nat.le_trans (hx _ (by assumption)) (by omega)) | (simp only [List.length_append, List.length_take, List.length_drop, List.length_cons, List.length_nil]; omega) | (simp_all; done))) (.skip _ _ (.skip _ _ .nil)) rfl) ?_
 refine Ch.s (.d (.bool (!(us.any (fun u => hasB a u))))) (.pure (.not _ _ rfl rfl)) ?_
 refine Ch.s (.d (.bool (!(us.any (fun u => hasB a u))))) (.pure (.assign _ rfl rfl)) ?_
 refine Ch.nil ?_
 refine T_ret ?_
 refine And.intro (.inr rfl) ?_
 exact Exists.intro [(.d (.bool (!(us.any (fun u => hasB a u)))))] (Exists.intro [] (Exists.intro [] (And.intro (.cons (.tmp 4 rfl) .nil) (And.intro (.cons (.any _) (.cons (.any _) .nil)) (And.intro (Exp.of (congrArg D.bool (by rfl)) (.d _)) (And.intro rfl rfl))))))

theorem sp_spec_l14Prime (a : List UInt8) (off : List (List UInt8)) (hn : off.length ≤ 1048576) (ha : a.length ≤ 1048576) (hx : ∀ u ∈ off, a.length ≤ u.length) : Sp Try.prog 135 [(.str a), (.slice false 1 (off.map D.str))] [.any, .any] (.bool (primeB a off)) := by
 refine Sp_intro (lend := true) Try.func135 rfl rfl rfl (fun _ => rfl) (fun c hc hX => ?_)
 refine T_seq ?_
 refine T_region hc ?_
 refine Ch.s (.d (.bool false)) (.pure (.assign _ rfl rfl)) ?_
 refine Ch.nil ?_
 refine T_seq ?_
 refine T_seq ?_
 refine T_region hc ?_
 refine Ch.s (.d (.int .i64 0)) (.pure (.assign _ rfl rfl)) ?_
 refine Ch.nil ?_
 refine T_block ?_
 refine T_loop (ι := Nat) (fun k => { n := 24, sl := [(0, (.d (.str a))), (1, (.d (.slice false 1 (off.map D.str)))), (5, (.d (.int .i64 ((k : Nat) : Int))))], hp := [], pin := [] }) (fun k => k ≤ a.length ∧ ∀ j, j < k → (!(isLit a j && !anyB (dashAt a j) off)) = true) (fun k => a.length - k) ⟨0, ⟨by omega, fun j hj => by omega⟩, (Wk.of rfl rfl (And.intro rfl (And.intro rfl (And.intro (vI (by first | rfl | omega | (simp; done) | (simp; omega))) trivial))) trivial)⟩ (fun k hp0 => ?_)
 refine T_seq ?_
 refine T_seq ?_
 refine T_region hc ?_
 refine Ch.s (.d (.int .i64 ((k : Nat) : Int))) (.pure (.move _ rfl rfl)) ?_
 refine Ch.s (.d (.str a)) (.pure (.move _ rfl rfl)) ?_
 refine Ch.s (.d (.int .i64 ((a.length : Nat) : Int))) (.pure (.lenStr _ _ rfl Try.underlying9 rfl)) ?_
 refine Ch.s (.d (.bool (decide (((k : Nat) : Int) < ((a.length : Nat) : Int))))) (.pure (.int _ _ _ _ _ rfl rfl rfl rfl)) ?_
 refine Ch.nil ?_
 refine T_cond (b := (decide (((k : Nat) : Int) < ((a.length : Nat) : Int)))) rfl (fun h1 => ?_) (fun h1 => ?_)
 ·
  replace h1 := of_decide_eq_true h1
  try have hdl := dashAt_length (a := a) (j := k) (by omega)
  try have hdx : ∀ u ∈ off, (dashAt a k).length ≤ u.length := fun u hu => by (rw [hdl]; exact hx u hu)
  try have hds : (a.take k ++ [45] ++ a.drop (k + 1)).length ≤ 1048576 := by (rw [show (a.take k ++ [45] ++ a.drop (k + 1)).length = a.length from hdl]; exact ha)
  refine T_skip ?_
  refine T_seq ?_
  refine T_block ?_
  refine T_seq ?_
  refine T_region hc ?_
  refine Ch.s (.d (.str a)) (.pure (.move _ rfl rfl)) ?_
  refine Ch.s (.d (.int .i64 ((k : Nat) : Int))) (.pure (.move _ rfl rfl)) ?_
  refine Ch.s (.d (.int .u8 ((a.getD k 0).toNat : Int))) (.pure (.idxStr _ _ _ (k) rfl Try.underlying9 rfl rfl rfl get_strA)) ?_
  refine Ch.s (.d (.bool (!(decide (((a.getD k 0) : UInt8) = 45))))) (.pure (.int _ _ _ _ _ rfl rfl rfl (u8_neq ((a.getD k 0) : UInt8) 45 rfl rfl))) ?_
  refine Ch.s (.d (.bool (!(decide (((a.getD k 0) : UInt8) = 45))))) (.pure (.move _ rfl rfl)) ?_
  cases h2 : (decide (((a.getD k 0) : UInt8) = 45)) with
  | true =>
   replace h2 := of_decide_eq_true h2
   refine Ch.skip rfl rfl ?_
   refine Ch.skip rfl rfl ?_
   refine Ch.skip rfl rfl ?_
   refine Ch.skip rfl rfl ?_
   refine Ch.skip rfl rfl ?_
   refine Ch.skip rfl rfl ?_
   refine Ch.s (.d (.bool false)) (.pure (.pickF _ _ _ rfl rfl rfl)) ?_
   refine Ch.nil ?_
   refine T_cond (b := false) rfl (fun h => nomatch h) (fun _ => ?_)
   refine T_skip ?_
   refine T_region hc ?_
   refine Ch.s (.d (.int .i64 ((k : Nat) : Int))) (.pure (.move _ rfl rfl)) ?_
   refine Ch.s (.d (.int .i64 (((k : Nat) : Int) + 1))) (.pure (.int _ _ _ _ _ rfl rfl rfl intV_addA)) ?_
   refine Ch.s (.d (.int .i64 (((k : Nat) : Int) + 1))) (.pure (.assign _ rfl rfl)) ?_
   refine Ch.nil ?_
   refine Exists.intro (k + 1) (And.intro ⟨by omega, upto_succ hp0.2 (by simp_all [isLit, dashAt])⟩ (And.intro (by first | omega | (dsimp only; omega)) (Wk.of rfl rfl (And.intro rfl (And.intro rfl (And.intro (vI (by first | rfl | omega | (simp; done) | (simp; omega))) trivial))) trivial)))
  | false =>
   replace h2 := of_decide_eq_false h2
   refine Ch.s (.d (.str a)) (.pure (.move _ rfl rfl)) ?_
   refine Ch.s (.d (.int .i64 ((k : Nat) : Int))) (.pure (.move _ rfl rfl)) ?_
   refine Ch.s (.d (.str (dashAt a k))) (.call 19000 106 _ _ _ en106 rfl (.inl rfl) (.cons (.d _) (.cons (.d _) (.cons (.d _) .nil))) rfl rfl (sp_spec_l5Set a ((k : Nat) : Int) ([45]) (by first | omega | assumption | (exact hx _ (getD_mem (by omega))) | (exact hx _ (by assumption)) | (exact Nat.le_trans (hx _ (by assumption)) (by omega)) | (simp only [List.length_append, List.length_take, List.length_drop, List.length_cons, List.length_nil]; omega) | (simp_all; done)) (by first | omega | (simp; done) | assumption) (by first | omega | assumption | (exact hx _ (getD_mem (by omega))) | (exact hx _ (by assumption)) | (exact Nat.le_trans (hx _ (by assumption)) (by omega)) | (simp only [List.length_append, List.length_take, List.length_drop, List.length_cons, List.length_nil]; omega) | (simp_all; done)) (by first | omega | assumption | (exact hx _ (getD_mem (by omega))) | (exact hx _ (by assumption)) | (exact Nat.le_trans (hx _ (by assumption)) (by omega)) | (simp only [List.length_append, List.length_take, List.length_drop, List.length_cons, List.length_nil]; omega) | (simp_all; done))) (.skip _ _ (.skip _ _ (.skip _ _ .nil))) rfl) ?_
   refine Ch.s (.d (.slice false 1 (off.map D.str))) (.pure (.move _ rfl rfl)) ?_
   refine Ch.s (.d (.bool (anyB (dashAt a k) off))) (.call 21000 134 _ _ _ en134 rfl (.inl rfl) (.cons (.d _) (.cons (.d _) .nil)) rfl rfl (sp_spec_l14Any (dashAt a k) off (by first | omega | assumption | (exact hx _ (getD_mem (by omega))) | (exact hx _ (by assumption)) | (exact Nat.le_trans (hx _ (by assumption)) (by omega)) | (simp only [List.length_append, List.length_take, List.length_drop, List.length_cons, List.length_nil]; omega) | (simp_all; done)) (by first | omega | assumption | (exact hx _ (getD_mem (by omega))) | (exact hx _ (by assumption)) | (exact Nat.le_trans (hx _ (by assumption)) (by omega)) | (simp only [List.length_append, List.length_take, List.length_drop, List.length_cons, List.length_nil]; omega) | (simp_all; done)) (by first | omega | assumption | (exact hx _ (getD_mem (by omega))) | (exact hx _ (by assumption)) | (exact Nat.le_trans (hx _ (by assumption)) (by omega)) | (simp only [List.length_append, List.length_take, List.length_drop, List.length_cons, List.length_nil]; omega) | (simp_all; done))) (.skip _ _ (.skip _ _ .nil)) rfl) ?_
   refine Ch.s (.d (.bool (!(anyB (dashAt a k) off)))) (.pure (.not _ _ rfl rfl)) ?_
   refine Ch.s (.d (.bool (!(anyB (dashAt a k) off)))) (.pure (.pickT _ _ _ rfl rfl rfl)) ?_
   refine Ch.nil ?_
   refine T_cond (b := (!(anyB (dashAt a k) off))) rfl (fun h3 => ?_) (fun h3 => ?_)
   ·
    replace h3 := nott h3
    refine T_seq ?_
    refine T_region hc ?_
    refine Ch.s (.d (.bool false)) (.pure (.assign _ rfl rfl)) ?_
    refine Ch.nil ?_
    refine T_ret ?_
    refine And.intro (.inr rfl) ?_
    exact Exists.intro [(.d (.bool false))] (Exists.intro [] (Exists.intro [] (And.intro (.cons (.tmp 4 rfl) .nil) (And.intro (.cons (.any _) (.cons (.any _) .nil)) (And.intro (Exp.of (congrArg D.bool (by first | (rw [primeB, allB_no k (by omega) (by simp_all [isLit, dashAt])]; done) | (rw [primeB, allB_of (fun j hj => hp0.2 j (by omega))]; done))) (.d _)) (And.intro rfl rfl))))))
   ·
    replace h3 := notf h3
    refine T_skip ?_
    refine T_region hc ?_
    refine Ch.s (.d (.int .i64 ((k : Nat) : Int))) (.pure (.move _ rfl rfl)) ?_
    refine Ch.s (.d (.int .i64 (((k : Nat) : Int) + 1))) (.pure (.int _ _ _ _ _ rfl rfl rfl intV_addA)) ?_
    refine Ch.s (.d (.int .i64 (((k : Nat) : Int) + 1))) (.pure (.assign _ rfl rfl)) ?_
    refine Ch.nil ?_
    refine Exists.intro (k + 1) (And.intro ⟨by omega, upto_succ hp0.2 (by simp_all [isLit, dashAt])⟩ (And.intro (by first | omega | (dsimp only; omega)) (Wk.of rfl rfl (And.intro rfl (And.intro rfl (And.intro (vI (by first | rfl | omega | (simp; done) | (simp; omega))) trivial))) trivial)))
 ·
  replace h1 := of_decide_eq_false h1
  try have hdl := dashAt_length (a := a) (j := k) (by omega)
  try have hdx : ∀ u ∈ off, (dashAt a k).length ≤ u.length := fun u hu => by (rw [hdl]; exact hx u hu)
  try have hds : (a.take k ++ [45] ++ a.drop (k + 1)).length ≤ 1048576 := by (rw [show (a.take k ++ [45] ++ a.drop (k + 1)).length = a.length from hdl]; exact ha)
  refine T_exit ?_
  refine T_seq ?_
  refine T_region hc ?_
  refine Ch.s (.d (.bool true)) (.pure (.assign _ rfl rfl)) ?_
  refine Ch.nil ?_
  refine T_ret ?_
  refine And.intro (.inr rfl) ?_
  exact Exists.intro [(.d (.bool true))] (Exists.intro [] (Exists.intro [] (And.intro (.cons (.tmp 4 rfl) .nil) (And.intro (.cons (.any _) (.cons (.any _) .nil)) (And.intro (Exp.of (congrArg D.bool (by first | (rw [primeB, allB_no k (by omega) (by simp_all [isLit, dashAt])]; done) | (rw [primeB, allB_of (fun j hj => hp0.2 j (by omega))]; done))) (.d _)) (And.intro rfl rfl))))))

theorem sp_impl_isPrime (a : List UInt8) (off : List (List UInt8)) (hn : off.length ≤ 1048576) (ha : a.length ≤ 1048576) (hx : ∀ u ∈ off, a.length ≤ u.length) : Sp Try.prog 139 [(.str a), (.slice false 1 (off.map D.str))] [.any, .any] (.bool (primeB a off)) := by
 refine Sp_intro (lend := true) Try.func139 rfl rfl rfl (fun _ => rfl) (fun c hc hX => ?_)
 refine T_seq ?_
 refine T_region hc ?_
 refine Ch.s (.d (.bool false)) (.pure (.assign _ rfl rfl)) ?_
 refine Ch.nil ?_
 refine T_seq ?_
 refine T_seq ?_
 refine T_region hc ?_
 refine Ch.s (.d (.str a)) (.pure (.move _ rfl rfl)) ?_
 refine Ch.s (.d (.int .i64 ((a.length : Nat) : Int))) (.pure (.lenStr _ _ rfl Try.underlying9 rfl)) ?_
 refine Ch.s (.d (.int .i64 0)) (.pure (.move _ rfl rfl)) ?_
 refine Ch.nil ?_
 refine T_block ?_
 refine T_loop (ι := Nat) (fun k => { n := 29, sl := [(0, (.d (.str a))), (1, (.d (.slice false 1 (off.map D.str)))), (7, (.d (.int .i64 ((a.length : Nat) : Int)))), (8, (.d (.int .i64 ((k : Nat) : Int))))], hp := [], pin := [] }) (fun k => k ≤ a.length ∧ ∀ j, j < k → (!(isLit a j && !anyB (dashAt a j) off)) = true) (fun k => a.length - k) ⟨0, ⟨by omega, fun j hj => by omega⟩, (Wk.of rfl rfl (And.intro rfl (And.intro rfl (And.intro rfl (And.intro (vI (by first | rfl | omega | (simp; done) | (simp; omega))) trivial)))) trivial)⟩ (fun k hp0 => ?_)
 refine T_seq ?_
 refine T_region hc ?_
 refine Ch.s (.d (.bool (decide (((k : Nat) : Int) < ((a.length : Nat) : Int))))) (.pure (.int _ _ _ _ _ rfl rfl rfl rfl)) ?_
 refine Ch.nil ?_
 refine T_seq ?_
 refine T_cond (b := (decide (((k : Nat) : Int) < ((a.length : Nat) : Int)))) rfl (fun h1 => ?_) (fun h1 => ?_)
 ·
  replace h1 := of_decide_eq_true h1
  try have hdl := dashAt_length (a := a) (j := k) (by omega)
  try have hdx : ∀ u ∈ off, (dashAt a k).length ≤ u.length := fun u hu => by (rw [hdl]; exact hx u hu)
  try have hds : (a.take k ++ [45] ++ a.drop (k + 1)).length ≤ 1048576 := by (rw [show (a.take k ++ [45] ++ a.drop (k + 1)).length = a.length from hdl]; exact ha)
  refine T_skip ?_
  refine T_seq ?_
  refine T_block ?_
  refine T_seq ?_
  refine T_region hc ?_
  refine Ch.s (.d (.int .i64 ((k : Nat) : Int))) (.pure (.move _ rfl rfl)) ?_
  refine Ch.s (.d (.int .i64 ((k : Nat) : Int))) (.pure (.assign _ rfl rfl)) ?_
  refine Ch.nil ?_
  refine T_seq ?_
  refine T_regionD hc (by kernel_rfl) ?_
  refine ChD.s (.d (.str a)) [] (.pure (.move _ rfl rfl)) ?_
  refine ChD.s (.d (.int .i64 ((k : Nat) : Int))) [] (.pure (.move _ rfl rfl)) ?_
  refine ChD.s (.d (.int .u8 ((a.getD k 0).toNat : Int))) [] (.pure (.idxStr _ _ _ (k) rfl Try.underlying9 rfl rfl rfl get_strA)) ?_
  refine ChD.s (.d (.bool (!(decide (((a.getD k 0) : UInt8) = 45))))) [] (.pure (.int _ _ _ _ _ rfl rfl rfl (u8_neq ((a.getD k 0) : UInt8) 45 rfl rfl))) ?_
  refine ChD.s (.d (.bool (!(decide (((a.getD k 0) : UInt8) = 45))))) [] (.pure (.move _ rfl rfl)) ?_
  cases h2 : (decide (((a.getD k 0) : UInt8) = 45)) with
  | true =>
   replace h2 := of_decide_eq_true h2
   refine ChD.skip rfl rfl ?_
   refine ChD.skip rfl rfl ?_
   refine ChD.skip rfl rfl ?_
   refine ChD.skip rfl rfl ?_
   refine ChD.skip rfl rfl ?_
   refine ChD.skip rfl rfl ?_
   refine ChD.skip rfl rfl ?_
   refine ChD.skip rfl rfl ?_
   refine ChD.skip rfl rfl ?_
   refine ChD.skip rfl rfl ?_
   refine ChD.skip rfl rfl ?_
   refine ChD.s (.d (.bool false)) [] (.pure (.pickF _ _ _ rfl rfl rfl)) ?_
   refine ChD.nil (And.intro ?_ (by kernel_rfl))
   refine T_cond (b := false) rfl (fun h => nomatch h) (fun _ => ?_)
   refine T_skip ?_
   refine T_region hc ?_
   refine Ch.s (.d (.int .i64 (((k : Nat) : Int) + 1))) (.pure (.int _ _ _ _ _ rfl rfl rfl intV_addA)) ?_
   refine Ch.s (.d (.int .i64 (((k : Nat) : Int) + 1))) (.pure (.move _ rfl rfl)) ?_
   refine Ch.nil ?_
   refine Exists.intro (k + 1) (And.intro ⟨by omega, upto_succ hp0.2 (by simp_all [isLit, dashAt])⟩ (And.intro (by first | omega | (dsimp only; omega)) (Wk.of rfl rfl (And.intro rfl (And.intro rfl (And.intro rfl (And.intro (vI (by first | rfl | omega | (simp; done) | (simp; omega))) trivial)))) trivial)))
  | false =>
   replace h2 := of_decide_eq_false h2
   refine ChD.s (.d (.str a)) [] (.pure (.move _ rfl rfl)) ?_
   refine ChD.s (.d (.int .i64 ((k : Nat) : Int))) [] (.pure (.move _ rfl rfl)) ?_
   refine ChD.s (.d (.str (a.take k))) [] (.pure (.sliceStr _ _ _ _ (0) (k) rfl Try.underlying9 rfl (bndN rfl) (bndS rfl rfl) (by first | omega | (simp only [List.length_map, List.length_append, List.length_take, List.length_drop, List.length_cons, List.length_nil]; omega) | (simp; omega) | (simp; done)) (by first | omega | (simp only [List.length_map, List.length_append, List.length_take, List.length_drop, List.length_cons, List.length_nil]; omega) | (simp; omega) | (simp; done)) (by simp))) ?_
   refine ChD.s (.d (.str ((a.take k) ++ [45]))) [] (.pure (.str _ _ _ _ _ rfl rfl rfl (strV_add (by first | omega | (simp only [List.length_map, List.length_append, List.length_take, List.length_drop, List.length_cons, List.length_nil]; omega) | (simp; omega) | (simp; done))))) ?_
   refine ChD.s (.d (.str a)) [] (.pure (.move _ rfl rfl)) ?_
   refine ChD.s (.d (.int .i64 ((k : Nat) : Int))) [] (.pure (.move _ rfl rfl)) ?_
   refine ChD.s (.d (.int .i64 (((k : Nat) : Int) + 1))) [] (.pure (.int _ _ _ _ _ rfl rfl rfl intV_addA)) ?_
   refine ChD.s (.d (.str (a.drop (k + 1)))) [] (.pure (.sliceStr _ _ _ _ ((k + 1)) (a.length) rfl Try.underlying9 rfl (bndS rfl (by omega)) (bndN rfl) (by first | omega | (simp only [List.length_map, List.length_append, List.length_take, List.length_drop, List.length_cons, List.length_nil]; omega) | (simp; omega) | (simp; done)) (by first | omega | (simp only [List.length_map, List.length_append, List.length_take, List.length_drop, List.length_cons, List.length_nil]; omega) | (simp; omega) | (simp; done)) (by simp))) ?_
   refine ChD.s (.d (.str (((a.take k) ++ [45]) ++ (a.drop (k + 1))))) [] (.pure (.str _ _ _ _ _ rfl rfl rfl (strV_add (by first | omega | (simp only [List.length_map, List.length_append, List.length_take, List.length_drop, List.length_cons, List.length_nil]; omega) | (simp; omega) | (simp; done))))) ?_
   refine ChD.s (.d (.slice false 1 (off.map D.str))) [] (.pure (.move _ rfl rfl)) ?_
   refine ChD.s (.d (.bool (!anyB (((a.take k) ++ [45]) ++ (a.drop (k + 1))) off))) [] (.call 26000 138 _ _ _ en138 rfl (.inl rfl) (.cons (.d _) (.cons (.d _) .nil)) rfl rfl (sp_impl_avoids (((a.take k) ++ [45]) ++ (a.drop (k + 1))) off (by first | omega | assumption | (exact hx _ (getD_mem (by omega))) | (exact hx _ (by assumption)) | (exact Nat.le_trans (hx _ (by assumption)) (by omega)) | (simp only [List.length_append, List.length_take, List.length_drop, List.length_cons, List.length_nil]; omega) | (simp_all; done)) (by first | omega | assumption | (exact hx _ (getD_mem (by omega))) | (exact hx _ (by assumption)) | (exact Nat.le_trans (hx _ (by assumption)) (by omega)) | (simp only [List.length_append, List.length_take, List.length_drop, List.length_cons, List.length_nil]; omega) | (simp_all; done)) (by first | omega | assumption | (exact hx _ (getD_mem (by omega))) | (exact hx _ (by assumption)) | (exact Nat.le_trans (hx _ (by assumption)) (by omega)) | (simp only [List.length_append, List.length_take, List.length_drop, List.length_cons, List.length_nil]; omega) | (simp_all; done))) (.skip _ _ (.skip _ _ .nil)) rfl) ?_
   refine ChD.s (.d (.bool (!anyB (((a.take k) ++ [45]) ++ (a.drop (k + 1))) off))) [] (.pure (.pickT _ _ _ rfl rfl rfl)) ?_
   refine ChD.nil (And.intro ?_ (by kernel_rfl))
   refine T_cond (b := (!anyB (((a.take k) ++ [45]) ++ (a.drop (k + 1))) off)) rfl (fun h3 => ?_) (fun h3 => ?_)
   ·
    refine T_seq ?_
    refine T_region hc ?_
    refine Ch.s (.d (.bool false)) (.pure (.assign _ rfl rfl)) ?_
    refine Ch.nil ?_
    refine T_ret ?_
    refine And.intro (.inr rfl) ?_
    exact Exists.intro [(.d (.bool false))] (Exists.intro [] (Exists.intro [] (And.intro (.cons (.tmp 4 rfl) .nil) (And.intro (.cons (.any _) (.cons (.any _) .nil)) (And.intro (Exp.of (congrArg D.bool (by first | (rw [primeB, allB_no k (by omega) (by simp_all [isLit, dashAt])]; done) | (rw [primeB, allB_of (fun j hj => hp0.2 j (by omega))]; done))) (.d _)) (And.intro rfl rfl))))))
   ·
    refine T_skip ?_
    refine T_region hc ?_
    refine Ch.s (.d (.int .i64 (((k : Nat) : Int) + 1))) (.pure (.int _ _ _ _ _ rfl rfl rfl intV_addA)) ?_
    refine Ch.s (.d (.int .i64 (((k : Nat) : Int) + 1))) (.pure (.move _ rfl rfl)) ?_
    refine Ch.nil ?_
    refine Exists.intro (k + 1) (And.intro ⟨by omega, upto_succ hp0.2 (by simp_all [isLit, dashAt])⟩ (And.intro (by first | omega | (dsimp only; omega)) (Wk.of rfl rfl (And.intro rfl (And.intro rfl (And.intro rfl (And.intro (vI (by first | rfl | omega | (simp; done) | (simp; omega))) trivial)))) trivial)))
 ·
  replace h1 := of_decide_eq_false h1
  try have hdl := dashAt_length (a := a) (j := k) (by omega)
  try have hdx : ∀ u ∈ off, (dashAt a k).length ≤ u.length := fun u hu => by (rw [hdl]; exact hx u hu)
  try have hds : (a.take k ++ [45] ++ a.drop (k + 1)).length ≤ 1048576 := by (rw [show (a.take k ++ [45] ++ a.drop (k + 1)).length = a.length from hdl]; exact ha)
  refine T_exit ?_
  refine T_seq ?_
  refine T_region hc ?_
  refine Ch.s (.d (.bool true)) (.pure (.assign _ rfl rfl)) ?_
  refine Ch.nil ?_
  refine T_ret ?_
  refine And.intro (.inr rfl) ?_
  exact Exists.intro [(.d (.bool true))] (Exists.intro [] (Exists.intro [] (And.intro (.cons (.tmp 4 rfl) .nil) (And.intro (.cons (.any _) (.cons (.any _) .nil)) (And.intro (Exp.of (congrArg D.bool (by first | (rw [primeB, allB_no k (by omega) (by simp_all [isLit, dashAt])]; done) | (rw [primeB, allB_of (fun j hj => hp0.2 j (by omega))]; done))) (.d _)) (And.intro rfl rfl))))))

theorem sp_spec_l14Primes (n : Int) (on off : List (List UInt8)) (h0 : 0 ≤ n) (h8 : n ≤ 8) (hn1 : on.length ≤ 1048576) (hn2 : off.length ≤ 1048576) (ho1 : ∀ u ∈ on, (u.length : Int) = n) (ho2 : ∀ u ∈ off, (u.length : Int) = n) : Sp Try.prog 93 [(.int .i64 n), (.slice false 1 (on.map D.str)), (.slice false 1 (off.map D.str))] [.any, .any, .any] (.slice true 1 ((primL n.toNat on off).map D.str)) := by
 refine Sp_intro (lend := true) Try.func93 rfl rfl rfl (fun _ => rfl) (fun c hc hX => ?_)
 have hcl := cubes_length n.toNat; have hp3 : 3 ^ n.toNat ≤ 3 ^ 8 := Nat.pow_le_pow_right (by omega) (by omega)
 refine T_seq ?_
 refine T_region hc ?_
 refine Ch.s (.c (.slice none 0 0)) (.pure (.assign _ rfl rfl)) ?_
 refine Ch.nil ?_
 refine T_seq ?_
 refine T_region hc ?_
 refine Ch.s (.c (.slice none 0 0)) (.pure (.assign _ rfl rfl)) ?_
 refine Ch.nil ?_
 refine T_seq ?_
 refine T_seq ?_
 refine T_region hc ?_
 refine Ch.s (.d (.int .i64 n)) (.pure (.move _ rfl rfl)) ?_
 refine Ch.step (v := (.row 11000)) rfl (.call 11000 133 _ _ _ en133 rfl (.inl rfl) (.cons (.d _) .nil) rfl (sol (solid_row (fun _ => rfl) _) rfl) (sp_spec_l14Cubes n (by first | omega | assumption | (exact hx _ (getD_mem (by omega))) | (exact hx _ (by assumption)) | (exact Nat.le_trans (hx _ (by assumption)) (by omega)) | (simp only [List.length_append, List.length_take, List.length_drop, List.length_cons, List.length_nil]; omega) | (simp_all; done)) (by first | omega | assumption | (exact hx _ (getD_mem (by omega))) | (exact hx _ (by assumption)) | (exact Nat.le_trans (hx _ (by assumption)) (by omega)) | (simp only [List.length_append, List.length_take, List.length_drop, List.length_cons, List.length_nil]; omega) | (simp_all; done))) (.skip _ _ .nil) rfl) rfl rfl ?_
 refine Ch.s (.d (.int .i64 (((cubes n.toNat).length : Nat) : Int))) (.pure (.len _ _ 9 rfl Try.underlying23 (.row rfl) (by simp))) ?_
 refine Ch.s (.d (.int .i64 0)) (.pure (.move _ rfl rfl)) ?_
 refine Ch.nil ?_
 refine T_block ?_
 refine T_loop (ι := Nat) (fun k => { n := 37, sl := [(1, (.d (.slice false 1 (on.map D.str)))), (2, (.d (.slice false 1 (off.map D.str)))), (7, (.row 7)), (11, (.row 11000)), (12, (.d (.int .i64 (((cubes n.toNat).length : Nat) : Int)))), (13, (.d (.int .i64 ((k : Nat) : Int))))], hp := [(7, (some (.row 1 ((ftake (primP on off) (cubes n.toNat) k).map D.str)))), (11000, (some (.row 1 ((cubes n.toNat).map D.str))))], pin := [] }) (fun k => k ≤ (cubes n.toNat).length) (fun k => (cubes n.toNat).length - k) ⟨0, (by omega), (Wk.trans (Wk.nilrow 7 900007 1 rfl rfl rfl) (Wk.ren [(7, 900007)] rfl rfl rfl rfl (And.intro rfl (And.intro rfl (And.intro rfl (And.intro rfl (And.intro rfl (And.intro (vI (by first | rfl | omega | (simp; done) | (simp; omega))) trivial)))))) (And.intro (oR (by first | rfl | (exact push rfl (ftake_yes (by omega) (by rw [primP]; simp_all))) | (exact congrArg (List.map D.str) (ftake_no (by omega) (by rw [primP]; simp_all))))) (And.intro rfl trivial))))⟩ (fun k hp0 => ?_)
 have hq := ftake_le (primP on off) (cubes n.toNat) k
 refine T_seq ?_
 refine T_region hc ?_
 refine Ch.s (.d (.bool (decide (((k : Nat) : Int) < (((cubes n.toNat).length : Nat) : Int))))) (.pure (.int _ _ _ _ _ rfl rfl rfl rfl)) ?_
 refine Ch.nil ?_
 refine T_seq ?_
 refine T_cond (b := (decide (((k : Nat) : Int) < (((cubes n.toNat).length : Nat) : Int)))) rfl (fun h1 => ?_) (fun h1 => ?_)
 ·
  replace h1 := of_decide_eq_true h1
  try have hk := cubes_mem n.toNat _ (getD_mem (l := (cubes n.toNat)) (j := k) (d := default) (by omega))
  try have hk1 : ∀ u ∈ on, ((cubes n.toNat).getD k default).length ≤ u.length := fun u hu => by (have := ho1 u hu; omega)
  try have hk2 : ∀ u ∈ off, ((cubes n.toNat).getD k default).length ≤ u.length := fun u hu => by (have := ho2 u hu; omega)
  refine T_skip ?_
  refine T_seq ?_
  refine T_block ?_
  refine T_seq ?_
  refine T_region hc ?_
  refine Ch.s (.el 11000 1 k 0) (.pure (.idxRow _ _ _ 9 (k) rfl Try.underlying23 sz9 rfl rfl rfl rfl (by first | omega | (simp only [List.length_map, List.length_set]; omega) | (simp; omega)))) ?_
  refine Ch.s (.d (.str ((cubes n.toNat).getD k default))) (.pure (.loadEl1 _ _ rfl ag9 rfl rfl get_mapA rfl rfl rfl)) ?_
  refine Ch.s (.d (.str ((cubes n.toNat).getD k default))) (.pure (.assign _ rfl rfl)) ?_
  refine Ch.nil ?_
  refine T_seq ?_
  refine T_region hc ?_
  refine Ch.s (.d (.str ((cubes n.toNat).getD k default))) (.pure (.move _ rfl rfl)) ?_
  refine Ch.s (.d (.slice false 1 (on.map D.str))) (.pure (.move _ rfl rfl)) ?_
  refine Ch.s (.d (.bool (anyB ((cubes n.toNat).getD k default) on))) (.call 19000 134 _ _ _ en134 rfl (.inl rfl) (.cons (.d _) (.cons (.d _) .nil)) rfl rfl (sp_spec_l14Any ((cubes n.toNat).getD k default) on (by first | omega | assumption | (exact hx _ (getD_mem (by omega))) | (exact hx _ (by assumption)) | (exact Nat.le_trans (hx _ (by assumption)) (by omega)) | (simp only [List.length_append, List.length_take, List.length_drop, List.length_cons, List.length_nil]; omega) | (simp_all; done)) (by first | omega | assumption | (exact hx _ (getD_mem (by omega))) | (exact hx _ (by assumption)) | (exact Nat.le_trans (hx _ (by assumption)) (by omega)) | (simp only [List.length_append, List.length_take, List.length_drop, List.length_cons, List.length_nil]; omega) | (simp_all; done)) (by first | omega | assumption | (exact hx _ (getD_mem (by omega))) | (exact hx _ (by assumption)) | (exact Nat.le_trans (hx _ (by assumption)) (by omega)) | (simp only [List.length_append, List.length_take, List.length_drop, List.length_cons, List.length_nil]; omega) | (simp_all; done))) (.skip _ _ (.skip _ _ .nil)) rfl) ?_
  refine Ch.s (.d (.bool (anyB ((cubes n.toNat).getD k default) on))) (.pure (.move _ rfl rfl)) ?_
  cases h2 : (anyB ((cubes n.toNat).getD k default) on) with
  | true =>
   refine Ch.s (.d (.str ((cubes n.toNat).getD k default))) (.pure (.move _ rfl rfl)) ?_
   refine Ch.s (.d (.slice false 1 (off.map D.str))) (.pure (.move _ rfl rfl)) ?_
   refine Ch.s (.d (.bool (anyB ((cubes n.toNat).getD k default) off))) (.call 23000 134 _ _ _ en134 rfl (.inl rfl) (.cons (.d _) (.cons (.d _) .nil)) rfl rfl (sp_spec_l14Any ((cubes n.toNat).getD k default) off (by first | omega | assumption | (exact hx _ (getD_mem (by omega))) | (exact hx _ (by assumption)) | (exact Nat.le_trans (hx _ (by assumption)) (by omega)) | (simp only [List.length_append, List.length_take, List.length_drop, List.length_cons, List.length_nil]; omega) | (simp_all; done)) (by first | omega | assumption | (exact hx _ (getD_mem (by omega))) | (exact hx _ (by assumption)) | (exact Nat.le_trans (hx _ (by assumption)) (by omega)) | (simp only [List.length_append, List.length_take, List.length_drop, List.length_cons, List.length_nil]; omega) | (simp_all; done)) (by first | omega | assumption | (exact hx _ (getD_mem (by omega))) | (exact hx _ (by assumption)) | (exact Nat.le_trans (hx _ (by assumption)) (by omega)) | (simp only [List.length_append, List.length_take, List.length_drop, List.length_cons, List.length_nil]; omega) | (simp_all; done))) (.skip _ _ (.skip _ _ .nil)) rfl) ?_
   refine Ch.s (.d (.bool (!(anyB ((cubes n.toNat).getD k default) off)))) (.pure (.not _ _ rfl rfl)) ?_
   refine Ch.s (.d (.bool (!(anyB ((cubes n.toNat).getD k default) off)))) (.pure (.pickT _ _ _ rfl rfl rfl)) ?_
   refine Ch.s (.d (.bool (!(anyB ((cubes n.toNat).getD k default) off)))) (.pure (.move _ rfl rfl)) ?_
   cases h3 : (anyB ((cubes n.toNat).getD k default) off) with
   | true =>
    refine Ch.skip rfl rfl ?_
    refine Ch.skip rfl rfl ?_
    refine Ch.skip rfl rfl ?_
    refine Ch.s (.d (.bool false)) (.pure (.pickF _ _ _ rfl rfl rfl)) ?_
    refine Ch.nil ?_
    refine T_cond (b := false) rfl (fun h => nomatch h) (fun _ => ?_)
    refine T_skip ?_
    refine T_region hc ?_
    refine Ch.s (.d (.int .i64 (((k : Nat) : Int) + 1))) (.pure (.int _ _ _ _ _ rfl rfl rfl intV_addA)) ?_
    refine Ch.s (.d (.int .i64 (((k : Nat) : Int) + 1))) (.pure (.move _ rfl rfl)) ?_
    refine Ch.nil ?_
    refine Exists.intro (k + 1) (And.intro (by omega) (And.intro (by first | omega | (dsimp only; omega)) (Wk.of rfl rfl (And.intro rfl (And.intro rfl (And.intro rfl (And.intro rfl (And.intro rfl (And.intro (vI (by first | rfl | omega | (simp; done) | (simp; omega))) trivial)))))) (And.intro (oR (by first | rfl | (exact push rfl (ftake_yes (by omega) (by rw [primP]; simp_all))) | (exact congrArg (List.map D.str) (ftake_no (by omega) (by rw [primP]; simp_all))))) (And.intro rfl trivial)))))
   | false =>
    refine Ch.s (.d (.str ((cubes n.toNat).getD k default))) (.pure (.move _ rfl rfl)) ?_
    refine Ch.s (.d (.slice false 1 (off.map D.str))) (.pure (.move _ rfl rfl)) ?_
    refine Ch.s (.d (.bool (primeB ((cubes n.toNat).getD k default) off))) (.call 29000 135 _ _ _ en135 rfl (.inl rfl) (.cons (.d _) (.cons (.d _) .nil)) rfl rfl (sp_spec_l14Prime ((cubes n.toNat).getD k default) off (by first | omega | assumption | (exact hx _ (getD_mem (by omega))) | (exact hx _ (by assumption)) | (exact Nat.le_trans (hx _ (by assumption)) (by omega)) | (simp only [List.length_append, List.length_take, List.length_drop, List.length_cons, List.length_nil]; omega) | (simp_all; done)) (by first | omega | assumption | (exact hx _ (getD_mem (by omega))) | (exact hx _ (by assumption)) | (exact Nat.le_trans (hx _ (by assumption)) (by omega)) | (simp only [List.length_append, List.length_take, List.length_drop, List.length_cons, List.length_nil]; omega) | (simp_all; done)) (by first | omega | assumption | (exact hx _ (getD_mem (by omega))) | (exact hx _ (by assumption)) | (exact Nat.le_trans (hx _ (by assumption)) (by omega)) | (simp only [List.length_append, List.length_take, List.length_drop, List.length_cons, List.length_nil]; omega) | (simp_all; done))) (.skip _ _ (.skip _ _ .nil)) rfl) ?_
    refine Ch.s (.d (.bool (primeB ((cubes n.toNat).getD k default) off))) (.pure (.pickT _ _ _ rfl rfl rfl)) ?_
    refine Ch.nil ?_
    refine T_cond (b := (primeB ((cubes n.toNat).getD k default) off)) rfl (fun h4 => ?_) (fun h4 => ?_)
    ·
     refine T_region hc ?_
     refine Ch.s (.row 7) (.pure (.move _ rfl rfl)) ?_
     refine Ch.s (.d (.str ((cubes n.toNat).getD k default))) (.pure (.move _ rfl rfl)) ?_
     refine Ch.s (.row 33000) (.slice 33000 _ 9 _ rfl sty23 (xs := [.tmp 32]) rfl rfl (.cons (.d _) .nil) rfl rfl (by decide)) ?_
     refine Ch.step (v := (.row 34000)) rfl (.append 34000 _ _ _ 9 rfl sty23 (by decide) (.rowK rfl) (.inr ⟨_, rfl, rfl⟩) (.row rfl rfl) rfl (by first | omega | (simp only [List.length_append, List.length_map, List.length_cons, List.length_nil]; omega) | (simp; omega) | (simp; done))) rfl rfl ?_
     refine Ch.s (.row 34000) (.pure (.assign _ rfl rfl)) ?_
     refine Ch.nil ?_
     refine T_region hc ?_
     refine Ch.s (.d (.int .i64 (((k : Nat) : Int) + 1))) (.pure (.int _ _ _ _ _ rfl rfl rfl intV_addA)) ?_
     refine Ch.s (.d (.int .i64 (((k : Nat) : Int) + 1))) (.pure (.move _ rfl rfl)) ?_
     refine Ch.nil ?_
     refine Exists.intro (k + 1) (And.intro (by omega) (And.intro (by first | omega | (dsimp only; omega)) (Wk.ren [(7, 34000)] rfl rfl rfl rfl (And.intro rfl (And.intro rfl (And.intro rfl (And.intro rfl (And.intro rfl (And.intro (vI (by first | rfl | omega | (simp; done) | (simp; omega))) trivial)))))) (And.intro (oR (by first | rfl | (exact push rfl (ftake_yes (by omega) (by rw [primP]; simp_all))) | (exact congrArg (List.map D.str) (ftake_no (by omega) (by rw [primP]; simp_all))))) (And.intro rfl trivial)))))
    ·
     refine T_skip ?_
     refine T_region hc ?_
     refine Ch.s (.d (.int .i64 (((k : Nat) : Int) + 1))) (.pure (.int _ _ _ _ _ rfl rfl rfl intV_addA)) ?_
     refine Ch.s (.d (.int .i64 (((k : Nat) : Int) + 1))) (.pure (.move _ rfl rfl)) ?_
     refine Ch.nil ?_
     refine Exists.intro (k + 1) (And.intro (by omega) (And.intro (by first | omega | (dsimp only; omega)) (Wk.of rfl rfl (And.intro rfl (And.intro rfl (And.intro rfl (And.intro rfl (And.intro rfl (And.intro (vI (by first | rfl | omega | (simp; done) | (simp; omega))) trivial)))))) (And.intro (oR (by first | rfl | (exact push rfl (ftake_yes (by omega) (by rw [primP]; simp_all))) | (exact congrArg (List.map D.str) (ftake_no (by omega) (by rw [primP]; simp_all))))) (And.intro rfl trivial)))))
  | false =>
   refine Ch.skip rfl rfl ?_
   refine Ch.skip rfl rfl ?_
   refine Ch.skip rfl rfl ?_
   refine Ch.skip rfl rfl ?_
   refine Ch.s (.d (.bool false)) (.pure (.pickF _ _ _ rfl rfl rfl)) ?_
   refine Ch.s (.d (.bool false)) (.pure (.move _ rfl rfl)) ?_
   refine Ch.skip rfl rfl ?_
   refine Ch.skip rfl rfl ?_
   refine Ch.skip rfl rfl ?_
   refine Ch.s (.d (.bool false)) (.pure (.pickF _ _ _ rfl rfl rfl)) ?_
   refine Ch.nil ?_
   refine T_cond (b := false) rfl (fun h => nomatch h) (fun _ => ?_)
   refine T_skip ?_
   refine T_region hc ?_
   refine Ch.s (.d (.int .i64 (((k : Nat) : Int) + 1))) (.pure (.int _ _ _ _ _ rfl rfl rfl intV_addA)) ?_
   refine Ch.s (.d (.int .i64 (((k : Nat) : Int) + 1))) (.pure (.move _ rfl rfl)) ?_
   refine Ch.nil ?_
   refine Exists.intro (k + 1) (And.intro (by omega) (And.intro (by first | omega | (dsimp only; omega)) (Wk.of rfl rfl (And.intro rfl (And.intro rfl (And.intro rfl (And.intro rfl (And.intro rfl (And.intro (vI (by first | rfl | omega | (simp; done) | (simp; omega))) trivial)))))) (And.intro (oR (by first | rfl | (exact push rfl (ftake_yes (by omega) (by rw [primP]; simp_all))) | (exact congrArg (List.map D.str) (ftake_no (by omega) (by rw [primP]; simp_all))))) (And.intro rfl trivial)))))
 ·
  replace h1 := of_decide_eq_false h1
  try have hk := cubes_mem n.toNat _ (getD_mem (l := (cubes n.toNat)) (j := k) (d := default) (by omega))
  try have hk1 : ∀ u ∈ on, ((cubes n.toNat).getD k default).length ≤ u.length := fun u hu => by (have := ho1 u hu; omega)
  try have hk2 : ∀ u ∈ off, ((cubes n.toNat).getD k default).length ≤ u.length := fun u hu => by (have := ho2 u hu; omega)
  refine T_exit ?_
  refine T_seq ?_
  refine T_region hc ?_
  refine Ch.s (.row 7) (.pure (.move _ rfl rfl)) ?_
  refine Ch.s (.row 7) (.pure (.assign _ rfl rfl)) ?_
  refine Ch.nil ?_
  refine T_ret ?_
  refine And.intro (.inr rfl) ?_
  exact Exists.intro [(.row 7)] (Exists.intro [] (Exists.intro [7] (And.intro (.cons (.tmp 6 rfl) .nil) (And.intro (.cons (.any _) (.cons (.any _) (.cons (.any _) .nil))) (And.intro (Exp.of (congrArg (D.slice true 1) (by rw [ftake_all (by omega)]; rfl)) (.row rfl)) (And.intro rfl rfl))))))

theorem sp_impl_primes_1 (a : List UInt8) (on off : List (List UInt8)) (hn1 : on.length ≤ 1048576) (hn2 : off.length ≤ 1048576) (ha : a.length ≤ 1048576) (hk1 : ∀ u ∈ on, a.length ≤ u.length) (hk2 : ∀ u ∈ off, a.length ≤ u.length) : Sp Try.prog 137 [(.str a), (.ref (.slice false 1 (on.map D.str))), (.ref (.slice false 1 (off.map D.str)))] [.any, .any, .any] (.bool (!primP on off a)) := by
 refine Sp_intro (lend := true) Try.func137 rfl rfl rfl (fun _ => rfl) (fun c hc hX => ?_)
 refine T_seq ?_
 refine T_region hc ?_
 refine Ch.s (.d (.bool false)) (.pure (.assign _ rfl rfl)) ?_
 refine Ch.nil ?_
 refine T_seq ?_
 refine T_region hc ?_
 refine Ch.s (.d (.str a)) (.pure (.move _ rfl rfl)) ?_
 refine Ch.s (.d (.slice false 1 (on.map D.str))) (.pure (.loadRef1 _ _ rfl ag23 rfl rfl)) ?_
 refine Ch.s (.d (.bool (!anyB a on))) (.call 7000 138 _ _ _ en138 rfl (.inl rfl) (.cons (.d _) (.cons (.d _) .nil)) rfl rfl (sp_impl_avoids a on (by first | omega | assumption | (exact hx _ (getD_mem (by omega))) | (exact hx _ (by assumption)) | (exact Nat.le_trans (hx _ (by assumption)) (by omega)) | (simp only [List.length_append, List.length_take, List.length_drop, List.length_cons, List.length_nil]; omega) | (simp_all; done)) (by first | omega | assumption | (exact hx _ (getD_mem (by omega))) | (exact hx _ (by assumption)) | (exact Nat.le_trans (hx _ (by assumption)) (by omega)) | (simp only [List.length_append, List.length_take, List.length_drop, List.length_cons, List.length_nil]; omega) | (simp_all; done)) (by first | omega | assumption | (exact hx _ (getD_mem (by omega))) | (exact hx _ (by assumption)) | (exact Nat.le_trans (hx _ (by assumption)) (by omega)) | (simp only [List.length_append, List.length_take, List.length_drop, List.length_cons, List.length_nil]; omega) | (simp_all; done))) (.skip _ _ (.skip _ _ .nil)) rfl) ?_
 refine Ch.s (.d (.bool (!anyB a on))) (.pure (.move _ rfl rfl)) ?_
 cases h1 : (!anyB a on) with
 | true =>
  refine Ch.skip rfl rfl ?_
  refine Ch.skip rfl rfl ?_
  refine Ch.skip rfl rfl ?_
  refine Ch.skip rfl rfl ?_
  refine Ch.s (.d (.bool true)) (.pure (.pickT _ _ _ rfl rfl rfl)) ?_
  refine Ch.s (.d (.bool true)) (.pure (.move _ rfl rfl)) ?_
  refine Ch.skip rfl rfl ?_
  refine Ch.skip rfl rfl ?_
  refine Ch.skip rfl rfl ?_
  refine Ch.skip rfl rfl ?_
  refine Ch.s (.d (.bool true)) (.pure (.pickT _ _ _ rfl rfl rfl)) ?_
  refine Ch.s (.d (.bool true)) (.pure (.assign _ rfl rfl)) ?_
  refine Ch.nil ?_
  refine T_ret ?_
  refine And.intro (.inr rfl) ?_
  exact Exists.intro [(.d (.bool true))] (Exists.intro [] (Exists.intro [] (And.intro (.cons (.tmp 4 rfl) .nil) (And.intro (.cons (.any _) (.cons (.any _) (.cons (.any _) .nil))) (And.intro (Exp.of (congrArg D.bool (by first | (rw [primP]; simp_all; done) | (unfold primP; simp_all; done))) (.d _)) (And.intro rfl rfl))))))
 | false =>
  refine Ch.s (.d (.str a)) (.pure (.move _ rfl rfl)) ?_
  refine Ch.s (.d (.slice false 1 (off.map D.str))) (.pure (.loadRef1 _ _ rfl ag23 rfl rfl)) ?_
  refine Ch.s (.d (.bool (!anyB a off))) (.call 11000 138 _ _ _ en138 rfl (.inl rfl) (.cons (.d _) (.cons (.d _) .nil)) rfl rfl (sp_impl_avoids a off (by first | omega | assumption | (exact hx _ (getD_mem (by omega))) | (exact hx _ (by assumption)) | (exact Nat.le_trans (hx _ (by assumption)) (by omega)) | (simp only [List.length_append, List.length_take, List.length_drop, List.length_cons, List.length_nil]; omega) | (simp_all; done)) (by first | omega | assumption | (exact hx _ (getD_mem (by omega))) | (exact hx _ (by assumption)) | (exact Nat.le_trans (hx _ (by assumption)) (by omega)) | (simp only [List.length_append, List.length_take, List.length_drop, List.length_cons, List.length_nil]; omega) | (simp_all; done)) (by first | omega | assumption | (exact hx _ (getD_mem (by omega))) | (exact hx _ (by assumption)) | (exact Nat.le_trans (hx _ (by assumption)) (by omega)) | (simp only [List.length_append, List.length_take, List.length_drop, List.length_cons, List.length_nil]; omega) | (simp_all; done))) (.skip _ _ (.skip _ _ .nil)) rfl) ?_
  refine Ch.s (.d (.bool (!(!anyB a off)))) (.pure (.not _ _ rfl rfl)) ?_
  refine Ch.s (.d (.bool (!(!anyB a off)))) (.pure (.pickF _ _ _ rfl rfl rfl)) ?_
  refine Ch.s (.d (.bool (!(!anyB a off)))) (.pure (.move _ rfl rfl)) ?_
  cases h2 : (!anyB a off) with
  | true =>
   refine Ch.s (.d (.str a)) (.pure (.move _ rfl rfl)) ?_
   refine Ch.s (.d (.slice false 1 (off.map D.str))) (.pure (.loadRef1 _ _ rfl ag23 rfl rfl)) ?_
   refine Ch.s (.d (.bool (primeB a off))) (.call 17000 139 _ _ _ en139 rfl (.inl rfl) (.cons (.d _) (.cons (.d _) .nil)) rfl rfl (sp_impl_isPrime a off (by first | omega | assumption | (exact hx _ (getD_mem (by omega))) | (exact hx _ (by assumption)) | (exact Nat.le_trans (hx _ (by assumption)) (by omega)) | (simp only [List.length_append, List.length_take, List.length_drop, List.length_cons, List.length_nil]; omega) | (simp_all; done)) (by first | omega | assumption | (exact hx _ (getD_mem (by omega))) | (exact hx _ (by assumption)) | (exact Nat.le_trans (hx _ (by assumption)) (by omega)) | (simp only [List.length_append, List.length_take, List.length_drop, List.length_cons, List.length_nil]; omega) | (simp_all; done)) (by first | omega | assumption | (exact hx _ (getD_mem (by omega))) | (exact hx _ (by assumption)) | (exact Nat.le_trans (hx _ (by assumption)) (by omega)) | (simp only [List.length_append, List.length_take, List.length_drop, List.length_cons, List.length_nil]; omega) | (simp_all; done))) (.skip _ _ (.skip _ _ .nil)) rfl) ?_
   refine Ch.s (.d (.bool (!(primeB a off)))) (.pure (.not _ _ rfl rfl)) ?_
   refine Ch.s (.d (.bool (!(primeB a off)))) (.pure (.pickF _ _ _ rfl rfl rfl)) ?_
   refine Ch.s (.d (.bool (!(primeB a off)))) (.pure (.assign _ rfl rfl)) ?_
   refine Ch.nil ?_
   refine T_ret ?_
   refine And.intro (.inr rfl) ?_
   exact Exists.intro [(.d (.bool (!(primeB a off))))] (Exists.intro [] (Exists.intro [] (And.intro (.cons (.tmp 4 rfl) .nil) (And.intro (.cons (.any _) (.cons (.any _) (.cons (.any _) .nil))) (And.intro (Exp.of (congrArg D.bool (by first | (rw [primP]; simp_all; done) | (unfold primP; simp_all; done))) (.d _)) (And.intro rfl rfl))))))
  | false =>
   refine Ch.skip rfl rfl ?_
   refine Ch.skip rfl rfl ?_
   refine Ch.skip rfl rfl ?_
   refine Ch.skip rfl rfl ?_
   refine Ch.s (.d (.bool true)) (.pure (.pickT _ _ _ rfl rfl rfl)) ?_
   refine Ch.s (.d (.bool true)) (.pure (.assign _ rfl rfl)) ?_
   refine Ch.nil ?_
   refine T_ret ?_
   refine And.intro (.inr rfl) ?_
   exact Exists.intro [(.d (.bool true))] (Exists.intro [] (Exists.intro [] (And.intro (.cons (.tmp 4 rfl) .nil) (And.intro (.cons (.any _) (.cons (.any _) (.cons (.any _) .nil))) (And.intro (Exp.of (congrArg D.bool (by first | (rw [primP]; simp_all; done) | (unfold primP; simp_all; done))) (.d _)) (And.intro rfl rfl))))))

theorem primL_del (n : Nat) (on off : List (List UInt8)) : (cubes n).filter (fun u => !(fun u => !primP on off u) u) = primL n on off := by
  unfold primL; congr 1; funext u; simp

theorem primL_le (n : Nat) (on off : List (List UInt8)) : (primL n on off).length ≤ 3 ^ n := by
  rw [← cubes_length n]; exact List.length_filter_le _ _

theorem primL_mem {n : Nat} {on off : List (List UInt8)} : ∀ u ∈ primL n on off, u.length = n := fun u hu => cubes_mem n u (List.mem_filter.1 hu).1

def primOk (n : Int) (on off : List (List UInt8)) : Bool := onoffB n on off && decide (((primL n.toNat on off).length : Int) ≤ 60)

def primR (n : Int) (on off : List (List UInt8)) : List (List UInt8) := if primOk n on off then primL n.toNat on off else []

theorem primR_le (n : Int) (on off : List (List UInt8)) : (primR n on off).length ≤ 60 := by
  unfold primR; split
  · rename_i h
    unfold primOk at h
    simp only [Bool.and_eq_true, decide_eq_true_iff] at h
    omega
  · simp

theorem sp_impl_primes (n : Int) (on off : List (List UInt8)) (h0 : 0 ≤ n) (h8 : n ≤ 8) (hn1 : on.length ≤ 1048576) (hn2 : off.length ≤ 1048576) (ho1 : ∀ u ∈ on, (u.length : Int) = n) (ho2 : ∀ u ∈ off, (u.length : Int) = n) : Sp Try.prog 94 [(.int .i64 n), (.slice false 1 (on.map D.str)), (.slice false 1 (off.map D.str))] [.any, .any, .any] (.tup [(.slice true 1 ((primL n.toNat on off).map D.str)), (.bool (decide ((((primL n.toNat on off).length : Nat) : Int) ≤ 60)))]) := by
 refine Sp_intro (lend := true) Try.func94 rfl rfl rfl (fun _ => rfl) (fun c hc hX => ?_)
 have hcl := cubes_length n.toNat; have hp3 : 3 ^ n.toNat ≤ 3 ^ 8 := Nat.pow_le_pow_right (by omega) (by omega)
 refine T_seq ?_
 refine T_region hc ?_
 refine Ch.s (.ptr 4000 0) (.box 4000 _ _ rfl (.one _ rfl)) ?_
 refine Ch.s (.ptr 5000 0) (.box 5000 _ _ rfl (.one _ rfl)) ?_
 refine Ch.s (.c (.slice none 0 0)) (.pure (.assign _ rfl rfl)) ?_
 refine Ch.s (.d (.bool false)) (.pure (.assign _ rfl rfl)) ?_
 refine Ch.nil ?_
 refine T_seq ?_
 refine T_region hc ?_
 refine Ch.s (.d (.int .i64 n)) (.pure (.move _ rfl rfl)) ?_
 refine Ch.step (v := (.row 10000)) rfl (.call 10000 136 _ _ _ en136 rfl (.inl rfl) (.cons (.d _) .nil) rfl (sol (solid_row (fun _ => rfl) _) rfl) (sp_impl_allCubes n (by first | omega | assumption | (exact hx _ (getD_mem (by omega))) | (exact hx _ (by assumption)) | (exact Nat.le_trans (hx _ (by assumption)) (by omega)) | (simp only [List.length_append, List.length_take, List.length_drop, List.length_cons, List.length_nil]; omega) | (simp_all; done)) (by first | omega | assumption | (exact hx _ (getD_mem (by omega))) | (exact hx _ (by assumption)) | (exact Nat.le_trans (hx _ (by assumption)) (by omega)) | (simp only [List.length_append, List.length_take, List.length_drop, List.length_cons, List.length_nil]; omega) | (simp_all; done))) (.skip _ _ .nil) rfl) rfl rfl ?_
 refine Ch.s (.fn 137 [(.ptr 4000 0), (.ptr 5000 0)]) (.pure (.func _ _ rfl rfl)) ?_
 refine Ch.step (v := (.row 12000)) rfl (.call 12000 56 _ _ _ en56 rfl (.inl rfl) (.cons (.row rfl) (.cons (.lend (.fn (.cons (.ptr rfl (.one (.d _) rfl)) (.cons (.ptr rfl (.one (.d _) rfl)) .nil)))) .nil)) rfl (sol (solid_row (fun _ => rfl) _) rfl) (sp_DeleteFunc_str (cubes n.toNat) 137 [(.ref (.slice false 1 (on.map D.str))), (.ref (.slice false 1 (off.map D.str)))] (fun u => !primP on off u) en137 (fun u hu => sp_impl_primes_1 u on off hn1 hn2 (by have h6 := cubes_mem _ u hu; omega) (fun v hv => by (have h6 := cubes_mem _ u hu; have h7 := ho1 v hv; omega)) (fun v hv => by (have h6 := cubes_mem _ u hu; have h7 := ho2 v hv; omega))) (by first | omega | assumption | (exact hx _ (getD_mem (by omega))) | (exact hx _ (by assumption)) | (exact Nat.le_trans (hx _ (by assumption)) (by omega)) | (simp only [List.length_append, List.length_take, List.length_drop, List.length_cons, List.length_nil]; omega) | (simp_all; done))) (.skip _ _ (.skip _ _ .nil)) rfl) rfl rfl ?_
 refine Ch.s (.row 12000) (.pure (.assign _ rfl rfl)) ?_
 refine Ch.nil ?_
 refine T_seq ?_
 refine T_region hc ?_
 refine Ch.s (.row 12000) (.pure (.move _ rfl rfl)) ?_
 refine Ch.s (.row 12000) (.pure (.move _ rfl rfl)) ?_
 refine Ch.s (.d (.int .i64 ((((cubes n.toNat).filter (fun u => !(fun u => !primP on off u) u)).length : Nat) : Int))) (.pure (.len _ _ 9 rfl Try.underlying23 (.row rfl) (by simp))) ?_
 refine Ch.s (.d (.bool (decide (((((cubes n.toNat).filter (fun u => !(fun u => !primP on off u) u)).length : Nat) : Int) ≤ 60)))) (.pure (.int _ _ _ _ _ rfl rfl rfl rfl)) ?_
 refine Ch.s (.row 12000) (.pure (.assign _ rfl rfl)) ?_
 refine Ch.s (.d (.bool (decide (((((cubes n.toNat).filter (fun u => !(fun u => !primP on off u) u)).length : Nat) : Int) ≤ 60)))) (.pure (.assign _ rfl rfl)) ?_
 refine Ch.nil ?_
 refine T_ret ?_
 refine And.intro (.inr rfl) ?_
 exact Exists.intro [(.row 12000), (.d (.bool (decide (((((cubes n.toNat).filter (fun u => !(fun u => !primP on off u) u)).length : Nat) : Int) ≤ 60))))] (Exists.intro [] (Exists.intro [12000] (And.intro (.cons (.tmp 6 rfl) (.cons (.tmp 7 rfl) .nil)) (And.intro (.cons (.any _) (.cons (.any _) (.cons (.any _) .nil))) (And.intro (.tup (.cons (Exp.of (congrArg (D.slice true 1) (by first | rfl | (rw [primL_del]; done))) (.row rfl)) (.cons (Exp.of (congrArg D.bool (by first | rfl | (rw [primL_del]; done))) (.d _)) .nil))) (And.intro rfl rfl))))))

end Go.AM
