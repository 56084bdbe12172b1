/-
  The contracts that the law FnExactFormatRegionCovers needs.
-/
import Derived.Test.YtnmlcebejnlikaaGreatAmO
import Derived.Test.YtnmlcebejnlikaaGreatProg
import Derived.KernelRfl
import Derived.Test.YtnmlcebejnlikaaGreatAmP
import Derived.Test.YtnmlcebejnlikaaGreatAmW
import Derived.Test.YtnmlcebejnlikaaGreatSh
import Derived.Test.YtnmlcebejnlikaaGreatAmX
import Derived.Test.YtnmlcebejnlikaaGreatAmY
import Derived.Test.YtnmlcebejnlikaaGreatAmZ
namespace Go.AM
open Go.Proofs
set_option linter.unusedVariables false
set_option linter.unusedSimpArgs false

def bitN (up : Bool) : UInt8 := if up then 49 else 48

def withinB (n lo hi : Int) : Bool := decide (lo ≤ n) && decide (n ≤ hi)

theorem sp_impl_within (n lo hi : Int) : Sp Tryz.prog 91 [(.int .i64 n), (.int .i64 lo), (.int .i64 hi)] [.any, .any, .any] (.bool (withinB n lo hi)) := by
 refine Sp_intro (lend := true) Tryz.func91 rfl rfl rfl (fun _ => rfl) (fun c hc hX => ?_)
 refine T_seq (T_region hc (Ch.s (.d (.bool false)) pa (Ch.nil (T_seq (T_region hc (Ch.s (.d (.int .i64 lo)) pm (Ch.s (.d (.int .i64 n)) pm ?_)))))))
 refine Ch.s (.d (.bool (decide (lo ≤ n)))) (.pure (.int _ _ _ _ _ rfl rfl rfl rfl)) (Ch.s (.d (.bool (decide (lo ≤ n)))) pm ?_)
 cases h1 : (decide (lo ≤ n)) with
 | true =>
  replace h1 := of_decide_eq_true h1
  refine Ch.s (.d (.int .i64 n)) pm (Ch.s (.d (.int .i64 hi)) pm (Ch.s (.d (.bool (decide (n ≤ hi)))) (.pure (.int _ _ _ _ _ rfl rfl rfl rfl)) (Ch.s (.d (.bool (decide (n ≤ hi)))) (.pure (.pickT _ _ _ rfl rfl rfl)) (Ch.s (.d (.bool (decide (n ≤ hi)))) pa (Ch.nil (T_ret ?_))))))
  exact endR [(.d (.bool (decide (n ≤ hi))))] [] [] (.cons (.tmp 6 rfl) .nil) (.cons (.any _) (.cons (.any _) (.cons (.any _) .nil))) (Exp.of (congrArg D.bool (by simp [withinB] <;> omega)) (.d _)) rfl rfl
 | false =>
  replace h1 := of_decide_eq_false h1
  refine Ch.skip rfl rfl (Ch.skip rfl rfl (Ch.skip rfl rfl (Ch.s (.d (.bool false)) (.pure (.pickF _ _ _ rfl rfl rfl)) (Ch.s (.d (.bool false)) pa (Ch.nil (T_ret ?_))))))
  exact endR [(.d (.bool false))] [] [] (.cons (.tmp 6 rfl) .nil) (.cons (.any _) (.cons (.any _) (.cons (.any _) .nil))) (Exp.of (congrArg D.bool (by simp [withinB] <;> omega)) (.d _)) rfl rfl

theorem sp_spec_l1In (n lo hi : Int) : Sp Tryz.prog 89 [(.int .i64 n), (.int .i64 lo), (.int .i64 hi)] [.any, .any, .any] (.bool (withinB n lo hi)) := by
 refine Sp_intro (lend := true) Tryz.func89 rfl rfl rfl (fun _ => rfl) (fun c hc hX => ?_)
 refine T_seq (T_region hc (Ch.s (.d (.bool false)) pa (Ch.nil (T_seq (T_region hc (Ch.s (.d (.int .i64 n)) pm (Ch.s (.d (.int .i64 lo)) pm ?_)))))))
 refine Ch.s (.d (.bool (decide (lo ≤ n)))) (.pure (.int _ _ _ _ _ rfl rfl rfl rfl)) (Ch.s (.d (.bool (decide (lo ≤ n)))) pm ?_)
 cases h1 : (decide (lo ≤ n)) with
 | true =>
  replace h1 := of_decide_eq_true h1
  refine Ch.s (.d (.int .i64 n)) pm (Ch.s (.d (.int .i64 hi)) pm (Ch.s (.d (.bool (decide (n ≤ hi)))) (.pure (.int _ _ _ _ _ rfl rfl rfl rfl)) (Ch.s (.d (.bool (decide (n ≤ hi)))) (.pure (.pickT _ _ _ rfl rfl rfl)) (Ch.s (.d (.bool (decide (n ≤ hi)))) pa (Ch.nil (T_ret ?_))))))
  exact endR [(.d (.bool (decide (n ≤ hi))))] [] [] (.cons (.tmp 6 rfl) .nil) (.cons (.any _) (.cons (.any _) (.cons (.any _) .nil))) (Exp.of (congrArg D.bool (by simp [withinB] <;> omega)) (.d _)) rfl rfl
 | false =>
  replace h1 := of_decide_eq_false h1
  refine Ch.skip rfl rfl (Ch.skip rfl rfl (Ch.skip rfl rfl (Ch.s (.d (.bool false)) (.pure (.pickF _ _ _ rfl rfl rfl)) (Ch.s (.d (.bool false)) pa (Ch.nil (T_ret ?_))))))
  exact endR [(.d (.bool false))] [] [] (.cons (.tmp 6 rfl) .nil) (.cons (.any _) (.cons (.any _) (.cons (.any _) .nil))) (Exp.of (congrArg D.bool (by simp [withinB] <;> omega)) (.d _)) rfl rfl

theorem en89 : Enters Tryz.prog 89 := ⟨_, Tryz.func89, by kernel_rfl, rfl⟩

theorem en91 : Enters Tryz.prog 91 := ⟨_, Tryz.func91, by kernel_rfl, rfl⟩

def cubeCh (x : UInt8) : Bool := x == 48 || x == 49 || x == 45

def cubeS (s : List UInt8) : Bool := allB s.length (fun j => cubeCh (s.getD j 0))

def cubeB (s : List UInt8) : Bool := cubeS s && withinB s.length 1 8

def cubeN (s : List UInt8) (n : Int) : Bool := cubeS s && decide ((s.length : Int) = n) && withinB n 1 8

theorem sp_spec_l13Cube (s : List UInt8) (hs : s.length ≤ 1048576) : Sp Tryz.prog 125 [(.str s)] [.any] (.bool (cubeB s)) := by
 refine Sp_intro (lend := true) Tryz.func125 rfl rfl rfl (fun _ => rfl) (fun c hc hX => ?_)
 refine T_seq (T_region hc (Ch.s (.d (.bool false)) pa (Ch.nil (T_seq (T_seq (T_region hc (Ch.s (.d (.int .i64 0)) pa ?_)))))))
 refine Ch.nil (T_block ?_)
 refine T_loop (ι := Nat) (fun k => { n := 29, sl := [(0, (.d (.str s))), (3, (.d (.int .i64 ((k : Nat) : Int))))], hp := [], pin := [] }) (fun k => k ≤ s.length ∧ ∀ j, j < k → cubeCh (s.getD j 0) = true) (fun k => s.length - k) ⟨0, ⟨by omega, fun j hj => by omega⟩, (Wk.of rfl rfl (ai rfl (ai (vI (by first | rfl | omega | (simp; done) | (simp; omega))) trivial)) trivial)⟩ (fun k hp0 => ?_)
 refine T_seq (T_seq (T_region hc (Ch.s (.d (.int .i64 ((k : Nat) : Int))) pm (Ch.s (.d (.str s)) pm (Ch.s (.d (.int .i64 ((s.length : Nat) : Int))) (.pure (.lenStr _ _ rfl Tryz.underlying9 rfl)) (Ch.s (.d (.bool (decide (((k : Nat) : Int) < ((s.length : Nat) : Int))))) (.pure (.int _ _ _ _ _ rfl rfl rfl rfl)) (Ch.nil ?_)))))))
 refine T_cond (b := (decide (((k : Nat) : Int) < ((s.length : Nat) : Int)))) rfl (fun h1 => ?_) (fun h1 => ?_)
 ·
  replace h1 := of_decide_eq_true h1
  refine T_skip (T_seq (T_block (T_seq (T_region hc (Ch.s (.d (.str s)) pm (Ch.s (.d (.int .i64 ((k : Nat) : Int))) pm (Ch.s (.d (.int .u8 ((s.getD k 0).toNat : Int))) (.pure (.idxStr _ _ _ (k) rfl Tryz.underlying9 rfl rfl rfl get_strA)) ?_)))))))
  refine Ch.s (.d (.bool (!(decide (((s.getD k 0) : UInt8) = 48))))) (.pure (.int _ _ _ _ _ rfl rfl rfl (u8_neq ((s.getD k 0) : UInt8) 48 rfl rfl))) (Ch.s (.d (.bool (!(decide (((s.getD k 0) : UInt8) = 48))))) pm ?_)
  cases h2 : (decide (((s.getD k 0) : UInt8) = 48)) with
  | true =>
   replace h2 := of_decide_eq_true h2
   refine Ch.skip rfl rfl (Ch.skip rfl rfl (Ch.skip rfl rfl (Ch.skip rfl rfl (Ch.s (.d (.bool false)) (.pure (.pickF _ _ _ rfl rfl rfl)) (Ch.s (.d (.bool false)) pm (Ch.skip rfl rfl (Ch.skip rfl rfl ?_)))))))
   refine Ch.skip rfl rfl (Ch.skip rfl rfl (Ch.s (.d (.bool false)) (.pure (.pickF _ _ _ rfl rfl rfl)) (Ch.nil ?_)))
   refine T_cond (b := false) rfl (fun h => nomatch h) (fun _ => ?_)
   refine T_skip (T_region hc (Ch.s (.d (.int .i64 ((k : Nat) : Int))) pm (Ch.s (.d (.int .i64 (((k : Nat) : Int) + 1))) (.pure (.int _ _ _ _ _ rfl rfl rfl intV_addA)) (Ch.s (.d (.int .i64 (((k : Nat) : Int) + 1))) pa (Ch.nil ?_)))))
   exact nx (k + 1) ⟨by omega, upto_succ hp0.2 (by simp_all [cubeCh])⟩ (Wk.of rfl rfl (ai rfl (ai (vI (by first | rfl | omega | (simp; done) | (simp; omega))) trivial)) trivial)
  | false =>
   replace h2 := of_decide_eq_false h2
   refine Ch.s (.d (.str s)) pm (Ch.s (.d (.int .i64 ((k : Nat) : Int))) pm (Ch.s (.d (.int .u8 ((s.getD k 0).toNat : Int))) (.pure (.idxStr _ _ _ (k) rfl Tryz.underlying9 rfl rfl rfl get_strA)) (Ch.s (.d (.bool (!(decide (((s.getD k 0) : UInt8) = 49))))) (.pure (.int _ _ _ _ _ rfl rfl rfl (u8_neq ((s.getD k 0) : UInt8) 49 rfl rfl))) (Ch.s (.d (.bool (!(decide (((s.getD k 0) : UInt8) = 49))))) (.pure (.pickT _ _ _ rfl rfl rfl)) (Ch.s (.d (.bool (!(decide (((s.getD k 0) : UInt8) = 49))))) pm ?_)))))
   cases h3 : (decide (((s.getD k 0) : UInt8) = 49)) with
   | true =>
    replace h3 := of_decide_eq_true h3
    refine Ch.skip rfl rfl (Ch.skip rfl rfl (Ch.skip rfl rfl (Ch.skip rfl rfl (Ch.s (.d (.bool false)) (.pure (.pickF _ _ _ rfl rfl rfl)) (Ch.nil ?_)))))
    refine T_cond (b := false) rfl (fun h => nomatch h) (fun _ => ?_)
    refine T_skip (T_region hc (Ch.s (.d (.int .i64 ((k : Nat) : Int))) pm (Ch.s (.d (.int .i64 (((k : Nat) : Int) + 1))) (.pure (.int _ _ _ _ _ rfl rfl rfl intV_addA)) (Ch.s (.d (.int .i64 (((k : Nat) : Int) + 1))) pa (Ch.nil ?_)))))
    exact nx (k + 1) ⟨by omega, upto_succ hp0.2 (by simp_all [cubeCh])⟩ (Wk.of rfl rfl (ai rfl (ai (vI (by first | rfl | omega | (simp; done) | (simp; omega))) trivial)) trivial)
   | false =>
    replace h3 := of_decide_eq_false h3
    refine Ch.s (.d (.str s)) pm (Ch.s (.d (.int .i64 ((k : Nat) : Int))) pm (Ch.s (.d (.int .u8 ((s.getD k 0).toNat : Int))) (.pure (.idxStr _ _ _ (k) rfl Tryz.underlying9 rfl rfl rfl get_strA)) (Ch.s (.d (.bool (!(decide (((s.getD k 0) : UInt8) = 45))))) (.pure (.int _ _ _ _ _ rfl rfl rfl (u8_neq ((s.getD k 0) : UInt8) 45 rfl rfl))) (Ch.s (.d (.bool (!(decide (((s.getD k 0) : UInt8) = 45))))) (.pure (.pickT _ _ _ rfl rfl rfl)) (Ch.nil ?_)))))
    refine T_cond (b := (!(decide (((s.getD k 0) : UInt8) = 45)))) rfl (fun h4 => ?_) (fun h4 => ?_)
    ·
     replace h4 := nott h4
     replace h4 := of_decide_eq_false h4
     refine T_seq (T_region hc (Ch.s (.d (.bool false)) pa (Ch.nil (T_ret ?_))))
     exact endR [(.d (.bool false))] [] [] (.cons (.tmp 2 rfl) .nil) (.cons (.any _) .nil) (Exp.of (congrArg D.bool (by rw [cubeB, cubeS, allB_no k (by omega) (by simp_all [cubeCh])]; rfl)) (.d _)) rfl rfl
    ·
     replace h4 := notf h4
     replace h4 := of_decide_eq_true h4
     refine T_skip (T_region hc (Ch.s (.d (.int .i64 ((k : Nat) : Int))) pm (Ch.s (.d (.int .i64 (((k : Nat) : Int) + 1))) (.pure (.int _ _ _ _ _ rfl rfl rfl intV_addA)) (Ch.s (.d (.int .i64 (((k : Nat) : Int) + 1))) pa (Ch.nil ?_)))))
     exact nx (k + 1) ⟨by omega, upto_succ hp0.2 (by simp_all [cubeCh])⟩ (Wk.of rfl rfl (ai rfl (ai (vI (by first | rfl | omega | (simp; done) | (simp; omega))) trivial)) trivial)
 ·
  replace h1 := of_decide_eq_false h1
  refine T_exit (T_seq (T_region hc (Ch.s (.d (.str s)) pm (Ch.s (.d (.int .i64 ((s.length : Nat) : Int))) (.pure (.lenStr _ _ rfl Tryz.underlying9 rfl)) (Ch.s (.d (.bool (withinB ((s.length : Nat) : Int) 1 8))) (.call 28000 89 _ _ _ en89 rfl (.inl rfl) (.cons (.d _) (.cons (.d _) (.cons (.d _) .nil))) rfl rfl (sp_spec_l1In ((s.length : Nat) : Int) 1 8) (.skip _ _ (.skip _ _ (.skip _ _ .nil))) rfl) (Ch.s (.d (.bool (withinB ((s.length : Nat) : Int) 1 8))) pa (Ch.nil ?_)))))))
  refine T_ret ?_
  exact endR [(.d (.bool (withinB ((s.length : Nat) : Int) 1 8)))] [] [] (.cons (.tmp 2 rfl) .nil) (.cons (.any _) .nil) (Exp.of (congrArg D.bool (by rw [cubeB, cubeS, allB_of (fun j hj => hp0.2 j (by omega)), Bool.true_and])) (.d _)) rfl rfl

theorem sp_impl_isCube (s : List UInt8) (n : Int) (hs : s.length ≤ 1048576) : Sp Tryz.prog 127 [(.str s), (.int .i64 n)] [.any, .any] (.bool (cubeN s n)) := by
 refine Sp_intro (lend := true) Tryz.func127 rfl rfl rfl (fun _ => rfl) (fun c hc hX => ?_)
 refine T_seq (T_region hc (Ch.s (.d (.bool false)) pa (Ch.nil (T_seq (T_seq (T_region hc (Ch.s (.d (.int .i64 0)) pa ?_)))))))
 refine Ch.nil (T_block ?_)
 refine T_loop (ι := Nat) (fun k => { n := 36, sl := [(0, (.d (.str s))), (1, (.d (.int .i64 n))), (5, (.d (.int .i64 ((k : Nat) : Int))))], hp := [], pin := [] }) (fun k => k ≤ s.length ∧ ∀ j, j < k → cubeCh (s.getD j 0) = true) (fun k => s.length - k) ⟨0, ⟨by omega, fun j hj => by omega⟩, (Wk.of rfl rfl (ai rfl (ai rfl (ai (vI (by first | rfl | omega | (simp; done) | (simp; omega))) trivial))) trivial)⟩ (fun k hp0 => ?_)
 refine T_seq (T_seq (T_region hc (Ch.s (.d (.int .i64 ((k : Nat) : Int))) pm (Ch.s (.d (.str s)) pm (Ch.s (.d (.int .i64 ((s.length : Nat) : Int))) (.pure (.lenStr _ _ rfl Tryz.underlying9 rfl)) (Ch.s (.d (.bool (decide (((k : Nat) : Int) < ((s.length : Nat) : Int))))) (.pure (.int _ _ _ _ _ rfl rfl rfl rfl)) (Ch.nil ?_)))))))
 refine T_cond (b := (decide (((k : Nat) : Int) < ((s.length : Nat) : Int)))) rfl (fun h1 => ?_) (fun h1 => ?_)
 ·
  replace h1 := of_decide_eq_true h1
  refine T_skip (T_seq (T_block (T_seq (T_region hc (Ch.s (.d (.str s)) pm (Ch.s (.d (.int .i64 ((k : Nat) : Int))) pm (Ch.s (.d (.int .u8 ((s.getD k 0).toNat : Int))) (.pure (.idxStr _ _ _ (k) rfl Tryz.underlying9 rfl rfl rfl get_strA)) ?_)))))))
  refine Ch.s (.d (.bool (!(decide (((s.getD k 0) : UInt8) = 48))))) (.pure (.int _ _ _ _ _ rfl rfl rfl (u8_neq ((s.getD k 0) : UInt8) 48 rfl rfl))) (Ch.s (.d (.bool (!(decide (((s.getD k 0) : UInt8) = 48))))) pm ?_)
  cases h2 : (decide (((s.getD k 0) : UInt8) = 48)) with
  | true =>
   replace h2 := of_decide_eq_true h2
   refine Ch.skip rfl rfl (Ch.skip rfl rfl (Ch.skip rfl rfl (Ch.skip rfl rfl (Ch.s (.d (.bool false)) (.pure (.pickF _ _ _ rfl rfl rfl)) (Ch.s (.d (.bool false)) pm (Ch.skip rfl rfl (Ch.skip rfl rfl ?_)))))))
   refine Ch.skip rfl rfl (Ch.skip rfl rfl (Ch.s (.d (.bool false)) (.pure (.pickF _ _ _ rfl rfl rfl)) (Ch.nil ?_)))
   refine T_cond (b := false) rfl (fun h => nomatch h) (fun _ => ?_)
   refine T_skip (T_region hc (Ch.s (.d (.int .i64 ((k : Nat) : Int))) pm (Ch.s (.d (.int .i64 (((k : Nat) : Int) + 1))) (.pure (.int _ _ _ _ _ rfl rfl rfl intV_addA)) (Ch.s (.d (.int .i64 (((k : Nat) : Int) + 1))) pa (Ch.nil ?_)))))
   exact nx (k + 1) ⟨by omega, upto_succ hp0.2 (by simp_all [cubeCh])⟩ (Wk.of rfl rfl (ai rfl (ai rfl (ai (vI (by first | rfl | omega | (simp; done) | (simp; omega))) trivial))) trivial)
  | false =>
   replace h2 := of_decide_eq_false h2
   refine Ch.s (.d (.str s)) pm (Ch.s (.d (.int .i64 ((k : Nat) : Int))) pm (Ch.s (.d (.int .u8 ((s.getD k 0).toNat : Int))) (.pure (.idxStr _ _ _ (k) rfl Tryz.underlying9 rfl rfl rfl get_strA)) (Ch.s (.d (.bool (!(decide (((s.getD k 0) : UInt8) = 49))))) (.pure (.int _ _ _ _ _ rfl rfl rfl (u8_neq ((s.getD k 0) : UInt8) 49 rfl rfl))) (Ch.s (.d (.bool (!(decide (((s.getD k 0) : UInt8) = 49))))) (.pure (.pickT _ _ _ rfl rfl rfl)) (Ch.s (.d (.bool (!(decide (((s.getD k 0) : UInt8) = 49))))) pm ?_)))))
   cases h3 : (decide (((s.getD k 0) : UInt8) = 49)) with
   | true =>
    replace h3 := of_decide_eq_true h3
    refine Ch.skip rfl rfl (Ch.skip rfl rfl (Ch.skip rfl rfl (Ch.skip rfl rfl (Ch.s (.d (.bool false)) (.pure (.pickF _ _ _ rfl rfl rfl)) (Ch.nil ?_)))))
    refine T_cond (b := false) rfl (fun h => nomatch h) (fun _ => ?_)
    refine T_skip (T_region hc (Ch.s (.d (.int .i64 ((k : Nat) : Int))) pm (Ch.s (.d (.int .i64 (((k : Nat) : Int) + 1))) (.pure (.int _ _ _ _ _ rfl rfl rfl intV_addA)) (Ch.s (.d (.int .i64 (((k : Nat) : Int) + 1))) pa (Ch.nil ?_)))))
    exact nx (k + 1) ⟨by omega, upto_succ hp0.2 (by simp_all [cubeCh])⟩ (Wk.of rfl rfl (ai rfl (ai rfl (ai (vI (by first | rfl | omega | (simp; done) | (simp; omega))) trivial))) trivial)
   | false =>
    replace h3 := of_decide_eq_false h3
    refine Ch.s (.d (.str s)) pm (Ch.s (.d (.int .i64 ((k : Nat) : Int))) pm (Ch.s (.d (.int .u8 ((s.getD k 0).toNat : Int))) (.pure (.idxStr _ _ _ (k) rfl Tryz.underlying9 rfl rfl rfl get_strA)) (Ch.s (.d (.bool (!(decide (((s.getD k 0) : UInt8) = 45))))) (.pure (.int _ _ _ _ _ rfl rfl rfl (u8_neq ((s.getD k 0) : UInt8) 45 rfl rfl))) (Ch.s (.d (.bool (!(decide (((s.getD k 0) : UInt8) = 45))))) (.pure (.pickT _ _ _ rfl rfl rfl)) (Ch.nil ?_)))))
    refine T_cond (b := (!(decide (((s.getD k 0) : UInt8) = 45)))) rfl (fun h4 => ?_) (fun h4 => ?_)
    ·
     replace h4 := nott h4
     replace h4 := of_decide_eq_false h4
     refine T_seq (T_region hc (Ch.s (.d (.bool false)) pa (Ch.nil (T_ret ?_))))
     exact endR [(.d (.bool false))] [] [] (.cons (.tmp 4 rfl) .nil) (.cons (.any _) (.cons (.any _) .nil)) (Exp.of (congrArg D.bool (by rw [cubeN, cubeS, allB_no k (by omega) (by simp_all [cubeCh])]; rfl)) (.d _)) rfl rfl
    ·
     replace h4 := notf h4
     replace h4 := of_decide_eq_true h4
     refine T_skip (T_region hc (Ch.s (.d (.int .i64 ((k : Nat) : Int))) pm (Ch.s (.d (.int .i64 (((k : Nat) : Int) + 1))) (.pure (.int _ _ _ _ _ rfl rfl rfl intV_addA)) (Ch.s (.d (.int .i64 (((k : Nat) : Int) + 1))) pa (Ch.nil ?_)))))
     exact nx (k + 1) ⟨by omega, upto_succ hp0.2 (by simp_all [cubeCh])⟩ (Wk.of rfl rfl (ai rfl (ai rfl (ai (vI (by first | rfl | omega | (simp; done) | (simp; omega))) trivial))) trivial)
 ·
  replace h1 := of_decide_eq_false h1
  refine T_exit (T_seq (T_region hc (Ch.s (.d (.str s)) pm (Ch.s (.d (.int .i64 ((s.length : Nat) : Int))) (.pure (.lenStr _ _ rfl Tryz.underlying9 rfl)) (Ch.s (.d (.int .i64 n)) pm (Ch.s (.d (.bool (decide (((s.length : Nat) : Int) = n)))) (.pure (.int _ _ _ _ _ rfl rfl rfl rfl)) (Ch.s (.d (.bool (decide (((s.length : Nat) : Int) = n)))) pm ?_)))))))
  cases h5 : (decide (((s.length : Nat) : Int) = n)) with
  | true =>
   replace h5 := of_decide_eq_true h5
   refine Ch.s (.d (.int .i64 n)) pm (Ch.s (.d (.bool (withinB n 1 8))) (.call 34000 91 _ _ _ en91 rfl (.inl rfl) (.cons (.d _) (.cons (.d _) (.cons (.d _) .nil))) rfl rfl (sp_impl_within n 1 8) (.skip _ _ (.skip _ _ (.skip _ _ .nil))) rfl) (Ch.s (.d (.bool (withinB n 1 8))) (.pure (.pickT _ _ _ rfl rfl rfl)) (Ch.s (.d (.bool (withinB n 1 8))) pa (Ch.nil (T_ret ?_)))))
   exact endR [(.d (.bool (withinB n 1 8)))] [] [] (.cons (.tmp 4 rfl) .nil) (.cons (.any _) (.cons (.any _) .nil)) (Exp.of (congrArg D.bool (by rw [cubeN, cubeS, allB_of (fun j hj => hp0.2 j (by omega))]; simp_all)) (.d _)) rfl rfl
  | false =>
   replace h5 := of_decide_eq_false h5
   refine Ch.skip rfl rfl (Ch.skip rfl rfl (Ch.s (.d (.bool false)) (.pure (.pickF _ _ _ rfl rfl rfl)) (Ch.s (.d (.bool false)) pa (Ch.nil (T_ret ?_)))))
   exact endR [(.d (.bool false))] [] [] (.cons (.tmp 4 rfl) .nil) (.cons (.any _) (.cons (.any _) .nil)) (Exp.of (congrArg D.bool (by rw [cubeN, cubeS, allB_of (fun j hj => hp0.2 j (by omega))]; simp_all)) (.d _)) rfl rfl

def meetOf (x y : UInt8) : UInt8 := if x = y ∨ y = 45 then x else y

def meetS (a b : List UInt8) (k : Nat) : List UInt8 := tab k fun j => meetOf (a.getD j 0) (b.getD j 0)

@[simp] theorem meetS_length (a b : List UInt8) (k : Nat) : (meetS a b k).length = k := by simp [meetS]

theorem sz9 : SizeIs Tryz.prog 9 1 := by unfold SizeIs; kernel_rfl

theorem ag9 : AggIs Tryz.prog 9 false := by unfold AggIs; kernel_rfl

theorem zr9 : (Tryz.prog.info? 9).bind (·.zero) = some (.string .empty) := by kernel_rfl

theorem sty23 : SlotTy Tryz.prog 23 9 1 16 := slotTy_mk (by kernel_rfl)

theorem en230 : Enters Tryz.prog 230 := ⟨_, Tryz.func230, by kernel_rfl, rfl⟩

theorem sp_laws_szStringS (xs : List (List UInt8)) (left : Int) (h0 : 0 ≤ left) (h0u : left ≤ 1048576) (hn : xs.length ≤ 9223372036854775807) (hx : ∀ x ∈ xs, x.length ≤ 9223372036854775807) : Sp Tryz.prog 67 [(.slice false 1 (xs.map D.str)), (.int .i64 left)] [.any, .any] (.int .i64 (szS xs left)) := by
 refine Sp_intro (lend := true) Tryz.func67 rfl rfl rfl (fun _ => rfl) (fun c hc hX => ?_)
 refine T_seq (T_region hc (Ch.s (.d (.int .i64 0)) pa (Ch.nil (T_seq (T_region hc (Ch.s (.d (.int .i64 left)) pm (Ch.s (.d (.slice false 1 (xs.map D.str))) pm ?_)))))))
 refine Ch.s (.d (.int .i64 ((xs.length : Nat) : Int))) (.pure (.len _ _ 9 rfl Tryz.underlying23 (.sh _ _) (by simp))) (Ch.s (.d (.int .i64 (left - ((xs.length : Nat) : Int)))) (.pure (.int _ _ _ _ _ rfl rfl rfl intV_subA)) (Ch.s (.d (.int .i64 (left - ((xs.length : Nat) : Int)))) pa (Ch.nil (T_seq (T_seq (T_region hc (Ch.s (.d (.int .i64 (left - ((xs.length : Nat) : Int)))) pm ?_)))))))
 refine Ch.s (.d (.bool (decide ((left - ((xs.length : Nat) : Int)) < 0)))) (.pure (.int _ _ _ _ _ rfl rfl rfl rfl)) (Ch.nil ?_)
 refine T_cond (b := (decide ((left - ((xs.length : Nat) : Int)) < 0))) rfl (fun h1 => ?_) (fun h1 => ?_)
 ·
  replace h1 := of_decide_eq_true h1
  refine T_seq (T_region hc (Ch.s (.d (.int .i64 (-1))) pa (Ch.nil (T_ret ?_))))
  exact endR [(.d (.int .i64 (-1)))] [] [] (.cons (.tmp 4 rfl) .nil) (.cons (.any _) (.cons (.any _) .nil)) (Exp.of (congrArg (D.int .i64) (by rw [szS, if_neg (by unfold bulkS; omega)])) (.d _)) rfl rfl
 ·
  replace h1 := of_decide_eq_false h1
  refine T_skip (T_seq (T_seq (T_region hc (Ch.s (.d (.int .i64 0)) pa (Ch.nil (T_block ?_))))))
  refine T_loop (ι := Nat) (fun k => { n := 28, sl := [(0, (.d (.slice false 1 (xs.map D.str)))), (1, (.d (.int .i64 (left - xs.length - sumTo xs k)))), (5, (.d (.int .i64 ((k : Nat) : Int))))], hp := [], pin := [] }) (fun k => k ≤ xs.length ∧ 0 ≤ left - xs.length - sumTo xs k) (fun k => xs.length - k) ⟨0, ⟨by omega, by rw [sumTo_zero]; omega⟩, (Wk.of rfl rfl (ai rfl (ai (vI (by first | (rw [sumTo_zero]; omega) | (rw [sumTo_succ (by omega)]; omega))) (ai (vI (by first | rfl | omega | (simp; done) | (simp; omega))) trivial))) trivial)⟩ (fun k hp0 => ?_)
  refine T_seq (T_seq (T_region hc (Ch.s (.d (.int .i64 ((k : Nat) : Int))) pm (Ch.s (.d (.slice false 1 (xs.map D.str))) pm (Ch.s (.d (.int .i64 ((xs.length : Nat) : Int))) (.pure (.len _ _ 9 rfl Tryz.underlying23 (.sh _ _) (by simp))) (Ch.s (.d (.bool (decide (((k : Nat) : Int) < ((xs.length : Nat) : Int))))) (.pure (.int _ _ _ _ _ rfl rfl rfl rfl)) (Ch.nil ?_)))))))
  refine T_cond (b := (decide (((k : Nat) : Int) < ((xs.length : Nat) : Int)))) rfl (fun h2 => ?_) (fun h2 => ?_)
  ·
   replace h2 := of_decide_eq_true h2
   try have hk := hx _ (getD_mem (l := xs) (j := k) (d := default) (by omega))
   refine T_skip (T_seq (T_block (T_seq (T_region hc (Ch.s (.d (.int .i64 (left - xs.length - sumTo xs k))) pm (Ch.s (.d (.slice false 1 (xs.map D.str))) pm (Ch.s (.d (.int .i64 ((k : Nat) : Int))) pm ?_)))))))
   refine Ch.s (.d (.ref (.str (xs.getD k default)))) (.pure (.idx _ _ _ 9 (k) rfl Tryz.underlying23 sz9 rfl rfl rfl get_mapA)) (Ch.s (.d (.str (xs.getD k default))) (.pure (.loadRef1 _ _ rfl ag9 rfl rfl)) (Ch.s (.d (.int .i64 (((xs.getD k default).length : Nat) : Int))) (.pure (.lenStr _ _ rfl Tryz.underlying9 rfl)) (Ch.s (.d (.int .i64 ((left - xs.length - sumTo xs k) - (((xs.getD k default).length : Nat) : Int)))) (.pure (.int _ _ _ _ _ rfl rfl rfl intV_subA)) (Ch.s (.d (.int .i64 ((left - xs.length - sumTo xs k) - (((xs.getD k default).length : Nat) : Int)))) pa (Ch.nil (T_seq (T_region hc ?_)))))))
   refine Ch.s (.d (.int .i64 ((left - xs.length - sumTo xs k) - (((xs.getD k default).length : Nat) : Int)))) pm (Ch.s (.d (.bool (decide (((left - xs.length - sumTo xs k) - (((xs.getD k default).length : Nat) : Int)) < 0)))) (.pure (.int _ _ _ _ _ rfl rfl rfl rfl)) (Ch.nil ?_))
   refine T_cond (b := (decide (((left - xs.length - sumTo xs k) - (((xs.getD k default).length : Nat) : Int)) < 0))) rfl (fun h3 => ?_) (fun h3 => ?_)
   ·
    replace h3 := of_decide_eq_true h3
    refine T_seq (T_region hc (Ch.s (.d (.int .i64 (-1))) pa (Ch.nil (T_ret ?_))))
    exact endR [(.d (.int .i64 (-1)))] [] [] (.cons (.tmp 4 rfl) .nil) (.cons (.any _) (.cons (.any _) .nil)) (Exp.of (congrArg (D.int .i64) (by rw [szS, if_neg (by have h4 := sumTo_le xs (k + 1); rw [sumTo_succ (by omega)] at h4; unfold bulkS; omega)])) (.d _)) rfl rfl
   ·
    replace h3 := of_decide_eq_false h3
    refine T_skip (T_region hc (Ch.s (.d (.int .i64 ((k : Nat) : Int))) pm (Ch.s (.d (.int .i64 (((k : Nat) : Int) + 1))) (.pure (.int _ _ _ _ _ rfl rfl rfl intV_addA)) (Ch.s (.d (.int .i64 (((k : Nat) : Int) + 1))) pa (Ch.nil ?_)))))
    exact nx (k + 1) ⟨by omega, by rw [sumTo_succ (by omega)]; omega⟩ (Wk.of rfl rfl (ai rfl (ai (vI (by first | (rw [sumTo_zero]; omega) | (rw [sumTo_succ (by omega)]; omega))) (ai (vI (by first | rfl | omega | (simp; done) | (simp; omega))) trivial))) trivial)
  ·
   replace h2 := of_decide_eq_false h2
   try have hk := hx _ (getD_mem (l := xs) (j := k) (d := default) (by omega))
   refine T_exit (T_seq (T_region hc (Ch.s (.d (.int .i64 (left - xs.length - sumTo xs k))) pm (Ch.s (.d (.int .i64 (left - xs.length - sumTo xs k))) pa (Ch.nil (T_ret ?_))))))
   exact endR [(.d (.int .i64 (left - xs.length - sumTo xs k)))] [] [] (.cons (.tmp 4 rfl) .nil) (.cons (.any _) (.cons (.any _) .nil)) (Exp.of (congrArg (D.int .i64) (by have h4 := sumTo_all (xs := xs) (k := k) (by omega); rw [szS, if_pos (by unfold bulkS; omega)]; unfold bulkS; omega)) (.d _)) rfl rfl

theorem sp_laws_toStringS (xs : List (List UInt8)) (hn : xs.length ≤ 1048576) : Sp Tryz.prog 71 [(.slice false 1 (xs.map D.str))] [.any] (.slice true 1 (xs.map D.str)) := by
 refine Sp_intro (lend := true) Tryz.func71 rfl rfl rfl (fun _ => rfl) (fun c hc hX => ?_)
 refine T_seq (T_region hc (Ch.s (.c (.slice none 0 0)) pa (Ch.nil (T_seq (T_region hc (Ch.s (.d (.slice false 1 (xs.map D.str))) pm (Ch.s (.d (.int .i64 ((xs.length : Nat) : Int))) (.pure (.len _ _ 9 rfl Tryz.underlying23 (.sh _ _) (by simp))) ?_)))))))
 refine Ch.s (.row 7000) (.make 7000 _ 9 _ _ (xs.length) (xs.length) rfl sty23 rfl rfl rfl rfl (by first | omega | (simp only [List.length_map, List.length_append, List.length_take, List.length_drop, List.length_cons, List.length_nil]; omega) | (simp; omega) | (simp; done)) (by first | omega | (simp only [List.length_map, List.length_append, List.length_take, List.length_drop, List.length_cons, List.length_nil]; omega) | (simp; omega) | (simp; done)) (by first | omega | (simp only [List.length_map, List.length_append, List.length_take, List.length_drop, List.length_cons, List.length_nil]; omega) | (simp; omega) | (simp; done)) (zeroD_mk (zd := (.str [])) zr9 (by intro S w; rw [DR]; exact ⟨rfl, rfl⟩) rfl)) (Ch.s (.row 7000) pa (Ch.nil (T_seq (T_seq (T_region hc (Ch.s (.d (.int .i64 0)) pa (Ch.nil ?_)))))))
 refine T_block ?_
 refine T_loop (ι := Nat) (fun k => { n := 22, sl := [(0, (.d (.slice false 1 (xs.map D.str)))), (3, (.row 3)), (4, (.d (.int .i64 ((k : Nat) : Int))))], hp := [(3, (some (.row 1 ((fill xs [] k).map D.str))))], pin := [] }) (fun k => k ≤ xs.length) (fun k => xs.length - k) ⟨0, (by omega), (Wk.ren [(3, 7000)] rfl rfl rfl rfl (ai rfl (ai rfl (ai (vI (by first | rfl | omega | (simp; done) | (simp; omega))) trivial))) (ai (oR (by first | (rw [fill_zero, List.map_replicate]; done) | (rw [← fill_set xs [] default (by omega), List.map_set]; done))) trivial))⟩ (fun k hp0 => ?_)
 refine T_seq (T_seq (T_region hc (Ch.s (.d (.int .i64 ((k : Nat) : Int))) pm (Ch.s (.d (.slice false 1 (xs.map D.str))) pm (Ch.s (.d (.int .i64 ((xs.length : Nat) : Int))) (.pure (.len _ _ 9 rfl Tryz.underlying23 (.sh _ _) (by simp))) (Ch.s (.d (.bool (decide (((k : Nat) : Int) < ((xs.length : Nat) : Int))))) (.pure (.int _ _ _ _ _ rfl rfl rfl rfl)) (Ch.nil ?_)))))))
 refine T_cond (b := (decide (((k : Nat) : Int) < ((xs.length : Nat) : Int)))) rfl (fun h1 => ?_) (fun h1 => ?_)
 ·
  replace h1 := of_decide_eq_true h1
  refine T_skip (T_seq (T_block (T_region hc (Ch.s (.row 3) pm (Ch.s (.d (.int .i64 ((k : Nat) : Int))) pm (Ch.s (.d (.slice false 1 (xs.map D.str))) pm (Ch.s (.d (.int .i64 ((k : Nat) : Int))) pm ?_)))))))
  refine Ch.s (.d (.ref (.str (xs.getD k default)))) (.pure (.idx _ _ _ 9 (k) rfl Tryz.underlying23 sz9 rfl rfl rfl get_mapA)) (Ch.s (.d (.str (xs.getD k default))) (.pure (.loadRef1 _ _ rfl ag9 rfl rfl)) (Ch.s (.el 3 1 k 0) (.pure (.idxRow _ _ _ 9 (k) rfl Tryz.underlying23 sz9 rfl rfl rfl rfl (by first | omega | (simp only [List.length_map, List.length_set]; omega) | (simp; omega)))) (Ch.s .junk (.storeEl (y' := (.str (xs.getD k default))) _ _ _ rfl rfl rfl (.d _) rfl sz9 rfl get_mapA rfl rfl) (Ch.nil (T_region hc (Ch.s (.d (.int .i64 ((k : Nat) : Int))) pm (Ch.s (.d (.int .i64 (((k : Nat) : Int) + 1))) (.pure (.int _ _ _ _ _ rfl rfl rfl intV_addA)) ?_)))))))
  refine Ch.s (.d (.int .i64 (((k : Nat) : Int) + 1))) pa (Ch.nil ?_)
  exact nx (k + 1) (by omega) (Wk.of rfl rfl (ai rfl (ai rfl (ai (vI (by first | rfl | omega | (simp; done) | (simp; omega))) trivial))) (ai (oR (by first | (rw [fill_zero, List.map_replicate]; done) | (rw [← fill_set xs [] default (by omega), List.map_set]; done))) trivial))
 ·
  replace h1 := of_decide_eq_false h1
  refine T_exit (T_seq (T_region hc (Ch.s (.row 3) pm (Ch.s (.row 3) pa (Ch.nil (T_ret ?_))))))
  exact endR [(.row 3)] [] [3] (.cons (.tmp 2 rfl) .nil) (.cons (.any _) .nil) (Exp.of (congrArg (D.slice true 1) (by rw [fill_all xs [] (by omega)])) (.row rfl)) rfl rfl

theorem sp_laws_eqStringS (xs ys : List (List UInt8)) (hn : xs.length ≤ 1048576) : Sp Tryz.prog 29 [(.slice false 1 (xs.map D.str)), (.slice false 1 (ys.map D.str))] [.any, .any] (.bool (decide (xs = ys))) := by
 refine Sp_intro (lend := true) Tryz.func29 rfl rfl rfl (fun _ => rfl) (fun c hc hX => ?_)
 refine T_seq (T_region hc (Ch.s (.d (.bool false)) pa (Ch.nil (T_seq (T_seq (T_region hc (Ch.s (.d (.slice false 1 (xs.map D.str))) pm ?_)))))))
 refine Ch.s (.d (.int .i64 ((xs.length : Nat) : Int))) (.pure (.len _ _ 9 rfl Tryz.underlying23 (.sh _ _) (by simp))) (Ch.s (.d (.slice false 1 (ys.map D.str))) pm (Ch.s (.d (.int .i64 ((ys.length : Nat) : Int))) (.pure (.len _ _ 9 rfl Tryz.underlying23 (.sh _ _) (by simp))) (Ch.s (.d (.bool (!(decide (((xs.length : Nat) : Int) = ((ys.length : Nat) : Int)))))) (.pure (.int _ _ _ _ _ rfl rfl rfl rfl)) (Ch.nil ?_))))
 refine T_cond (b := (!(decide (((xs.length : Nat) : Int) = ((ys.length : Nat) : Int))))) rfl (fun h1 => ?_) (fun h1 => ?_)
 ·
  replace h1 := nott h1
  replace h1 := of_decide_eq_false h1
  refine T_seq (T_region hc (Ch.s (.d (.bool false)) pa (Ch.nil (T_ret ?_))))
  exact endR [(.d (.bool false))] [] [] (.cons (.tmp 4 rfl) .nil) (.cons (.any _) (.cons (.any _) .nil)) (Exp.of (congrArg D.bool (by exact eqL_len (by omega))) (.d _)) rfl rfl
 ·
  replace h1 := notf h1
  replace h1 := of_decide_eq_true h1
  refine T_skip (T_seq (T_seq (T_region hc (Ch.s (.d (.int .i64 0)) pa (Ch.nil (T_block ?_))))))
  refine T_loop (ι := Nat) (fun k => { n := 26, sl := [(0, (.d (.slice false 1 (xs.map D.str)))), (1, (.d (.slice false 1 (ys.map D.str)))), (5, (.d (.int .i64 ((k : Nat) : Int))))], hp := [], pin := [] }) (fun k => k ≤ xs.length ∧ ∀ j, j < k → xs.getD j default = ys.getD j default) (fun k => xs.length - k) ⟨0, ⟨by omega, fun j hj => by omega⟩, (Wk.of rfl rfl (ai rfl (ai rfl (ai (vI (by first | rfl | omega | (simp; done) | (simp; omega))) trivial))) trivial)⟩ (fun k hp0 => ?_)
  refine T_seq (T_seq (T_region hc (Ch.s (.d (.int .i64 ((k : Nat) : Int))) pm (Ch.s (.d (.slice false 1 (xs.map D.str))) pm (Ch.s (.d (.int .i64 ((xs.length : Nat) : Int))) (.pure (.len _ _ 9 rfl Tryz.underlying23 (.sh _ _) (by simp))) (Ch.s (.d (.bool (decide (((k : Nat) : Int) < ((xs.length : Nat) : Int))))) (.pure (.int _ _ _ _ _ rfl rfl rfl rfl)) (Ch.nil ?_)))))))
  refine T_cond (b := (decide (((k : Nat) : Int) < ((xs.length : Nat) : Int)))) rfl (fun h2 => ?_) (fun h2 => ?_)
  ·
   replace h2 := of_decide_eq_true h2
   refine T_skip (T_seq (T_block (T_seq ?_)))
   refine T_regionD hc (by kernel_rfl) ?_
   refine ChD.s (.d (.slice false 1 (xs.map D.str))) [] pm (ChD.s (.d (.int .i64 ((k : Nat) : Int))) [] pm (ChD.s (.d (.ref (.str (xs.getD k default)))) [] (.pure (.idx _ _ _ 9 (k) rfl Tryz.underlying23 sz9 rfl rfl rfl get_mapA)) (ChD.s (.d (.str (xs.getD k default))) [] (.pure (.loadRef1 _ _ rfl ag9 rfl rfl)) (ChD.s (.d (.slice false 1 (ys.map D.str))) [] pm (ChD.s (.d (.int .i64 ((k : Nat) : Int))) [] pm (ChD.s (.d (.ref (.str (ys.getD k default)))) [] (.pure (.idx _ _ _ 9 (k) rfl Tryz.underlying23 sz9 rfl rfl rfl get_mapA)) (ChD.s (.d (.str (ys.getD k default))) [] (.pure (.loadRef1 _ _ rfl ag9 rfl rfl)) ?_)))))))
   refine ChD.s (.d (.bool (!(decide ((xs.getD k default) = (ys.getD k default)))))) [] (.pure (.str _ _ _ _ _ rfl rfl rfl rfl)) ?_
   refine ChD.nil (And.intro ?_ (by kernel_rfl))
   refine T_cond (b := (!(decide ((xs.getD k default) = (ys.getD k default))))) rfl (fun h3 => ?_) (fun h3 => ?_)
   ·
    replace h3 := nott h3
    replace h3 := of_decide_eq_false h3
    refine T_seq (T_region hc (Ch.s (.d (.bool false)) pa (Ch.nil (T_ret ?_))))
    exact endR [(.d (.bool false))] [] [] (.cons (.tmp 4 rfl) .nil) (.cons (.any _) (.cons (.any _) .nil)) (Exp.of (congrArg D.bool (by exact eqL_at default k (by assumption))) (.d _)) rfl rfl
   ·
    replace h3 := notf h3
    replace h3 := of_decide_eq_true h3
    refine T_skip (T_region hc (Ch.s (.d (.int .i64 ((k : Nat) : Int))) pm (Ch.s (.d (.int .i64 (((k : Nat) : Int) + 1))) (.pure (.int _ _ _ _ _ rfl rfl rfl intV_addA)) (Ch.s (.d (.int .i64 (((k : Nat) : Int) + 1))) pa (Ch.nil ?_)))))
    exact nx (k + 1) ⟨by omega, upto_succ hp0.2 (by assumption)⟩ (Wk.of rfl rfl (ai rfl (ai rfl (ai (vI (by first | rfl | omega | (simp; done) | (simp; omega))) trivial))) trivial)
  ·
   replace h2 := of_decide_eq_false h2
   refine T_exit (T_seq (T_region hc (Ch.s (.d (.bool true)) pa (Ch.nil (T_ret ?_)))))
   exact endR [(.d (.bool true))] [] [] (.cons (.tmp 4 rfl) .nil) (.cons (.any _) (.cons (.any _) .nil)) (Exp.of (congrArg D.bool (by exact eqL_all default (by omega) (fun j hj => hp0.2 j (by omega)))) (.d _)) rfl rfl

theorem sp_IndexFunc_str (xs : List (List UInt8)) (f : FuncId) (caps : List D) (p : List UInt8 → Bool) (hf : Enters Tryz.prog f) (hp : ∀ x ∈ xs, Sp Tryz.prog f (D.str x :: caps) (.any :: anys caps) (.bool (p x))) (hn : xs.length ≤ 1048576) : Sp Tryz.prog 230 [(.slice false 1 (xs.map D.str)), (.fn f caps)] [.any, .any] (.int .i64 (ixF p xs)) := by
 refine Sp_intro (lend := true) Tryz.func230 rfl rfl rfl (fun _ => rfl) (fun c hc hX => ?_)
 refine T_seq (T_region hc (Ch.s (.d (.int .i64 0)) pa (Ch.nil (T_seq (T_seq (T_region hc (Ch.s (.d (.slice false 1 (xs.map D.str))) pm ?_)))))))
 refine Ch.s (.d (.int .i64 ((xs.length : Nat) : Int))) (.pure (.len _ _ 9 rfl Tryz.underlying23 (.sh _ _) (by simp))) (Ch.s (.d (.int .i64 0)) pm (Ch.nil (T_block ?_)))
 refine T_loop (ι := Nat) (fun k => { n := 19, sl := [(0, (.d (.slice false 1 (xs.map D.str)))), (1, (.d (.fn f caps))), (7, (.d (.int .i64 ((xs.length : Nat) : Int)))), (8, (.d (.int .i64 ((k : Nat) : Int))))], hp := [], pin := [] }) (fun k => k ≤ xs.length ∧ ∀ j, j < k → p (xs.getD j default) = false) (fun k => xs.length - k) ⟨0, ⟨by omega, fun j hj => by omega⟩, (Wk.of rfl rfl (ai rfl (ai rfl (ai rfl (ai (vI (by first | rfl | omega | (simp; done) | (simp; omega))) trivial)))) trivial)⟩ (fun k hp0 => ?_)
 refine T_seq (T_region hc (Ch.s (.d (.bool (decide (((k : Nat) : Int) < ((xs.length : Nat) : Int))))) (.pure (.int _ _ _ _ _ rfl rfl rfl rfl)) (Ch.nil (T_seq ?_))))
 refine T_cond (b := (decide (((k : Nat) : Int) < ((xs.length : Nat) : Int)))) rfl (fun h1 => ?_) (fun h1 => ?_)
 ·
  replace h1 := of_decide_eq_true h1
  refine T_skip (T_seq (T_block (T_seq (T_region hc (Ch.s (.d (.int .i64 ((k : Nat) : Int))) pm (Ch.s (.d (.int .i64 ((k : Nat) : Int))) pa (Ch.nil ?_)))))))
  refine T_seq (T_region hc (Ch.s (.d (.fn f caps)) pm (Ch.s (.d (.slice false 1 (xs.map D.str))) pm (Ch.s (.d (.int .i64 ((k : Nat) : Int))) pm (Ch.s (.d (.ref (.str (xs.getD k default)))) (.pure (.idx _ _ _ 9 (k) rfl Tryz.underlying23 sz9 rfl rfl rfl get_mapA)) (Ch.s (.d (.str (xs.getD k default))) (.pure (.loadRef1 _ _ rfl ag9 rfl rfl)) ?_))))))
  refine Ch.step (v := (.d (.bool (p (xs.getD k default))))) rfl (.callS 16000 f _ #[.tmp 15] _ hf rfl (.inr ⟨caps, rfl, rfl⟩) (.cons (.d _) (exps_ds caps)) rfl (hp _ (getD_mem (by omega))) (.skip _ _ (back_anys caps)) rfl) rfl rfl ?_
  refine Ch.nil ?_
  refine T_cond (b := (p (xs.getD k default))) rfl (fun h2 => ?_) (fun h2 => ?_)
  ·
   refine T_seq (T_region hc (Ch.s (.d (.int .i64 ((k : Nat) : Int))) pm (Ch.s (.d (.int .i64 ((k : Nat) : Int))) pa (Ch.nil (T_ret ?_)))))
   exact endR [(.d (.int .i64 ((k : Nat) : Int)))] [] [] (.cons (.tmp 4 rfl) .nil) (.cons (.any _) (.cons (.any _) .nil)) (Exp.of (congrArg (D.int .i64) (by exact (ixF_some (by omega) hp0.2 (by assumption)).symm)) (.d _)) rfl rfl
  ·
   refine T_skip (T_region hc (Ch.s (.d (.int .i64 (((k : Nat) : Int) + 1))) (.pure (.int _ _ _ _ _ rfl rfl rfl intV_addA)) (Ch.s (.d (.int .i64 (((k : Nat) : Int) + 1))) pm (Ch.nil ?_))))
   exact nx (k + 1) ⟨by omega, upto_succ hp0.2 (by assumption)⟩ (Wk.of rfl rfl (ai rfl (ai rfl (ai rfl (ai (vI (by first | rfl | omega | (simp; done) | (simp; omega))) trivial)))) trivial)
 ·
  replace h1 := of_decide_eq_false h1
  refine T_exit (T_seq (T_region hc (Ch.s (.d (.int .i64 (-1))) pa (Ch.nil (T_ret ?_)))))
  exact endR [(.d (.int .i64 (-1)))] [] [] (.cons (.tmp 4 rfl) .nil) (.cons (.any _) (.cons (.any _) .nil)) (Exp.of (congrArg (D.int .i64) (by exact (ixF_none (fun j hj => hp0.2 j (by omega))).symm)) (.d _)) rfl rfl

theorem sp_ContainsFunc_str (xs : List (List UInt8)) (f : FuncId) (caps : List D) (p : List UInt8 → Bool) (hf : Enters Tryz.prog f) (hp : ∀ x ∈ xs, Sp Tryz.prog f (D.str x :: caps) (.any :: anys caps) (.bool (p x))) (hn : xs.length ≤ 1048576) : Sp Tryz.prog 178 [(.slice false 1 (xs.map D.str)), (.fn f caps)] [.any, .any] (.bool (xs.any p)) := by
 refine Sp_intro (lend := true) Tryz.func178 rfl rfl rfl (fun _ => rfl) (fun c hc hX => ?_)
 refine T_seq (T_region hc (Ch.s (.d (.bool false)) pa (Ch.nil (T_seq (T_region hc (Ch.s (.d (.slice false 1 (xs.map D.str))) pm (Ch.s (.d (.fn f caps)) pm ?_)))))))
 refine Ch.s (.d (.int .i64 (ixF p xs))) (.call 7000 230 _ _ _ en230 rfl (.inl rfl) (.cons (.d _) (.cons (.d _) .nil)) rfl rfl (sp_IndexFunc_str xs f caps p hf hp (by first | omega | assumption | (exact hx _ (getD_mem (by omega))) | (exact hx _ (by assumption)) | (exact Nat.le_trans (hx _ (by assumption)) (by omega)) | (simp only [List.length_append, List.length_take, List.length_drop, List.length_cons, List.length_nil]; omega) | (simp_all; done))) (.skip _ _ (.skip _ _ .nil)) rfl) (Ch.s (.d (.bool (decide (0 ≤ (ixF p xs))))) (.pure (.int _ _ _ _ _ rfl rfl rfl rfl)) (Ch.s (.d (.bool (decide (0 ≤ (ixF p xs))))) pa (Ch.nil (T_ret ?_))))
 exact endR [(.d (.bool (decide (0 ≤ (ixF p xs)))))] [] [] (.cons (.tmp 4 rfl) .nil) (.cons (.any _) (.cons (.any _) .nil)) (Exp.of (congrArg D.bool (by exact ixF_nonneg p xs)) (.d _)) rfl rfl

theorem en125 : Enters Tryz.prog 125 := ⟨_, Tryz.func125, by kernel_rfl, rfl⟩

theorem ag3 : AggIs Tryz.prog 3 false := by unfold AggIs; kernel_rfl

theorem en127 : Enters Tryz.prog 127 := ⟨_, Tryz.func127, by kernel_rfl, rfl⟩

theorem en179 : Enters Tryz.prog 179 := ⟨_, Tryz.func179, by kernel_rfl, rfl⟩

theorem en178 : Enters Tryz.prog 178 := ⟨_, Tryz.func178, by kernel_rfl, rfl⟩

def okCube (n : Int) (c : List UInt8) : Bool := cubeB c && decide ((c.length : Int) = n)

def allOf {τ : Type} [Inhabited τ] (xs : List τ) (q : τ → Bool) : Bool := allB xs.length fun j => q (xs.getD j default)

def goodB (n : Int) (xs : List (List UInt8)) : Bool := allOf xs (okCube n) && (withinB n 1 8 && decide ((xs.length : Int) ≤ 60))

theorem any_not {τ : Type} [Inhabited τ] (xs : List τ) (q : τ → Bool) : xs.any (fun c => !q c) = !allOf xs q := by
 cases h : allOf xs q with
 | true =>
  rw [Bool.not_true, List.any_eq_false]
  intro x hx
  obtain ⟨j, hj, rfl⟩ := List.mem_iff_getElem.1 hx
  have := allB_true.1 h j hj
  simp [hj] at this
  simp [this]
 | false =>
  rw [Bool.not_false, List.any_eq_true]
  apply Classical.byContradiction
  intro hno
  have : allOf xs q = true := allB_of fun j hj => by
   cases hq : q (xs.getD j default) with
   | true => rfl
   | false => exact absurd ⟨_, getD_mem hj, by rw [hq]; rfl⟩ hno
  rw [h] at this; cases this

theorem okCube_eq (n : Int) (c : List UInt8) : okCube n c = cubeN c n := by
  unfold okCube cubeN cubeB
  by_cases h : (c.length : Int) = n
  · rw [h]; simp
  · simp [h]

theorem good_any (n : Int) (xs : List (List UInt8)) : (xs.any fun c => !cubeN c n) = !allOf xs (okCube n) := by
 rw [← any_not]; congr 1; funext c; rw [okCube_eq]

theorem sp_spec_l13Good (n : Int) (xs : List (List UInt8)) (hn : xs.length ≤ 1048576) (hx : ∀ x ∈ xs, x.length ≤ 1048576) : Sp Tryz.prog 107 [(.int .i64 n), (.slice false 1 (xs.map D.str))] [.any, .any] (.bool (goodB n xs)) := by
 refine Sp_intro (lend := true) Tryz.func107 rfl rfl rfl (fun _ => rfl) (fun c hc hX => ?_)
 refine T_seq (T_region hc (Ch.s (.d (.bool false)) pa (Ch.nil (T_seq (T_seq (T_region hc (Ch.s (.d (.slice false 1 (xs.map D.str))) pm ?_)))))))
 refine Ch.s (.d (.int .i64 ((xs.length : Nat) : Int))) (.pure (.len _ _ 9 rfl Tryz.underlying23 (.sh _ _) (by simp))) (Ch.s (.d (.int .i64 0)) pm (Ch.nil (T_block ?_)))
 refine T_loop (ι := Nat) (fun k => { n := 30, sl := [(0, (.d (.int .i64 n))), (1, (.d (.slice false 1 (xs.map D.str)))), (7, (.d (.slice false 1 (xs.map D.str)))), (8, (.d (.int .i64 ((xs.length : Nat) : Int)))), (9, (.d (.int .i64 ((k : Nat) : Int))))], hp := [], pin := [] }) (fun k => k ≤ xs.length ∧ ∀ j, j < k → okCube n (xs.getD j default) = true) (fun k => xs.length - k) ⟨0, ⟨by omega, fun j hj => by omega⟩, (Wk.of rfl rfl (ai rfl (ai rfl (ai rfl (ai rfl (ai (vI (by first | rfl | omega | (simp; done) | (simp; omega))) trivial))))) trivial)⟩ (fun k hp0 => ?_)
 refine T_seq (T_region hc (Ch.s (.d (.bool (decide (((k : Nat) : Int) < ((xs.length : Nat) : Int))))) (.pure (.int _ _ _ _ _ rfl rfl rfl rfl)) (Ch.nil (T_seq ?_))))
 refine T_cond (b := (decide (((k : Nat) : Int) < ((xs.length : Nat) : Int)))) rfl (fun h1 => ?_) (fun h1 => ?_)
 ·
  replace h1 := of_decide_eq_true h1
  refine T_skip (T_seq (T_block (T_seq (T_region hc (Ch.s (.d (.ref (.str (xs.getD k default)))) (.pure (.idx _ _ _ 9 (k) rfl Tryz.underlying23 sz9 rfl rfl rfl get_mapA)) (Ch.s (.d (.str (xs.getD k default))) (.pure (.loadRef1 _ _ rfl ag9 rfl rfl)) (Ch.s (.d (.str (xs.getD k default))) pa ?_)))))))
  refine Ch.nil (T_seq (T_region hc (Ch.s (.d (.str (xs.getD k default))) pm (Ch.s (.d (.bool (cubeB (xs.getD k default)))) (.call 14000 125 _ _ _ en125 rfl (.inl rfl) (.cons (.d _) .nil) rfl rfl (sp_spec_l13Cube (xs.getD k default) (by first | omega | assumption | (exact hx _ (getD_mem (by omega))) | (exact hx _ (by assumption)) | (exact Nat.le_trans (hx _ (by assumption)) (by omega)) | (simp only [List.length_append, List.length_take, List.length_drop, List.length_cons, List.length_nil]; omega) | (simp_all; done))) (.skip _ _ .nil) rfl) (Ch.s (.d (.bool (!(cubeB (xs.getD k default))))) (.pure (.not _ _ rfl rfl)) (Ch.s (.d (.bool (!(cubeB (xs.getD k default))))) pm ?_))))))
  cases h2 : (cubeB (xs.getD k default)) with
  | true =>
   refine Ch.s (.d (.str (xs.getD k default))) pm (Ch.s (.d (.int .i64 (((xs.getD k default).length : Nat) : Int))) (.pure (.lenStr _ _ rfl Tryz.underlying9 rfl)) (Ch.s (.d (.int .i64 n)) pm (Ch.s (.d (.bool (!(decide ((((xs.getD k default).length : Nat) : Int) = n))))) (.pure (.int _ _ _ _ _ rfl rfl rfl rfl)) (Ch.s (.d (.bool (!(decide ((((xs.getD k default).length : Nat) : Int) = n))))) (.pure (.pickF _ _ _ rfl rfl rfl)) (Ch.nil ?_)))))
   refine T_cond (b := (!(decide ((((xs.getD k default).length : Nat) : Int) = n)))) rfl (fun h3 => ?_) (fun h3 => ?_)
   ·
    replace h3 := nott h3
    replace h3 := of_decide_eq_false h3
    refine T_seq (T_region hc (Ch.s (.d (.bool false)) pa (Ch.nil (T_ret ?_))))
    exact endR [(.d (.bool false))] [] [] (.cons (.tmp 4 rfl) .nil) (.cons (.any _) (.cons (.any _) .nil)) (Exp.of (congrArg D.bool (by first | (rw [goodB, allOf, allB_no k (by omega) (by simp_all [okCube])]; rfl) | (rw [goodB, allOf, allB_of (fun j hj => hp0.2 j (by omega))]; simp_all))) (.d _)) rfl rfl
   ·
    replace h3 := notf h3
    replace h3 := of_decide_eq_true h3
    refine T_skip (T_region hc (Ch.s (.d (.int .i64 (((k : Nat) : Int) + 1))) (.pure (.int _ _ _ _ _ rfl rfl rfl intV_addA)) (Ch.s (.d (.int .i64 (((k : Nat) : Int) + 1))) pm (Ch.nil ?_))))
    exact nx (k + 1) ⟨by omega, upto_succ hp0.2 (by simp_all [okCube])⟩ (Wk.of rfl rfl (ai rfl (ai rfl (ai rfl (ai rfl (ai (vI (by first | rfl | omega | (simp; done) | (simp; omega))) trivial))))) trivial)
  | false =>
   refine Ch.skip rfl rfl (Ch.skip rfl rfl (Ch.skip rfl rfl (Ch.skip rfl rfl (Ch.s (.d (.bool true)) (.pure (.pickT _ _ _ rfl rfl rfl)) (Ch.nil ?_)))))
   refine T_cond (b := true) rfl (fun _ => ?_) (fun h => nomatch h)
   refine T_seq (T_region hc (Ch.s (.d (.bool false)) pa (Ch.nil (T_ret ?_))))
   exact endR [(.d (.bool false))] [] [] (.cons (.tmp 4 rfl) .nil) (.cons (.any _) (.cons (.any _) .nil)) (Exp.of (congrArg D.bool (by first | (rw [goodB, allOf, allB_no k (by omega) (by simp_all [okCube])]; rfl) | (rw [goodB, allOf, allB_of (fun j hj => hp0.2 j (by omega))]; simp_all))) (.d _)) rfl rfl
 ·
  replace h1 := of_decide_eq_false h1
  refine T_exit (T_seq (T_region hc (Ch.s (.d (.int .i64 n)) pm (Ch.s (.d (.bool (withinB n 1 8))) (.call 24000 89 _ _ _ en89 rfl (.inl rfl) (.cons (.d _) (.cons (.d _) (.cons (.d _) .nil))) rfl rfl (sp_spec_l1In n 1 8) (.skip _ _ (.skip _ _ (.skip _ _ .nil))) rfl) (Ch.s (.d (.bool (withinB n 1 8))) pm ?_)))))
  cases h4 : (withinB n 1 8) with
  | true =>
   refine Ch.s (.d (.slice false 1 (xs.map D.str))) pm (Ch.s (.d (.int .i64 ((xs.length : Nat) : Int))) (.pure (.len _ _ 9 rfl Tryz.underlying23 (.sh _ _) (by simp))) (Ch.s (.d (.bool (decide (((xs.length : Nat) : Int) ≤ 60)))) (.pure (.int _ _ _ _ _ rfl rfl rfl rfl)) (Ch.s (.d (.bool (decide (((xs.length : Nat) : Int) ≤ 60)))) (.pure (.pickT _ _ _ rfl rfl rfl)) (Ch.s (.d (.bool (decide (((xs.length : Nat) : Int) ≤ 60)))) pa (Ch.nil (T_ret ?_))))))
   exact endR [(.d (.bool (decide (((xs.length : Nat) : Int) ≤ 60))))] [] [] (.cons (.tmp 4 rfl) .nil) (.cons (.any _) (.cons (.any _) .nil)) (Exp.of (congrArg D.bool (by first | (rw [goodB, allOf, allB_no k (by omega) (by simp_all [okCube])]; rfl) | (rw [goodB, allOf, allB_of (fun j hj => hp0.2 j (by omega))]; simp_all))) (.d _)) rfl rfl
  | false =>
   refine Ch.skip rfl rfl (Ch.skip rfl rfl (Ch.skip rfl rfl (Ch.s (.d (.bool false)) (.pure (.pickF _ _ _ rfl rfl rfl)) (Ch.s (.d (.bool false)) pa (Ch.nil (T_ret ?_))))))
   exact endR [(.d (.bool false))] [] [] (.cons (.tmp 4 rfl) .nil) (.cons (.any _) (.cons (.any _) .nil)) (Exp.of (congrArg D.bool (by first | (rw [goodB, allOf, allB_no k (by omega) (by simp_all [okCube])]; rfl) | (rw [goodB, allOf, allB_of (fun j hj => hp0.2 j (by omega))]; simp_all))) (.d _)) rfl rfl

theorem sp_impl_IsValidCover_1 (u : List UInt8) (n : Int) (hs : u.length ≤ 1048576) : Sp Tryz.prog 179 [(.str u), (.ref (.int .i64 n))] [.any, .any] (.bool (!cubeN u n)) := by
 refine Sp_intro (lend := true) Tryz.func179 rfl rfl rfl (fun _ => rfl) (fun c hc hX => ?_)
 refine T_seq (T_region hc (Ch.s (.d (.bool false)) pa (Ch.nil (T_seq (T_region hc (Ch.s (.d (.str u)) pm (Ch.s (.d (.int .i64 n)) (.pure (.loadRef1 _ _ rfl ag3 rfl rfl)) ?_)))))))
 refine Ch.s (.d (.bool (cubeN u n))) (.call 6000 127 _ _ _ en127 rfl (.inl rfl) (.cons (.d _) (.cons (.d _) .nil)) rfl rfl (sp_impl_isCube u n (by first | omega | assumption | (exact hx _ (getD_mem (by omega))) | (exact hx _ (by assumption)) | (exact Nat.le_trans (hx _ (by assumption)) (by omega)) | (simp only [List.length_append, List.length_take, List.length_drop, List.length_cons, List.length_nil]; omega) | (simp_all; done))) (.skip _ _ (.skip _ _ .nil)) rfl) (Ch.s (.d (.bool (!(cubeN u n)))) (.pure (.not _ _ rfl rfl)) (Ch.s (.d (.bool (!(cubeN u n)))) pa (Ch.nil (T_ret ?_))))
 exact endR [(.d (.bool (!(cubeN u n))))] [] [] (.cons (.tmp 3 rfl) .nil) (.cons (.any _) (.cons (.any _) .nil)) (Exp.of (congrArg D.bool (by rfl)) (.d _)) rfl rfl

theorem sp_impl_IsValidCover (n : Int) (xs : List (List UInt8)) (hn : xs.length ≤ 1048576) (hx : ∀ x ∈ xs, x.length ≤ 1048576) : Sp Tryz.prog 113 [(.int .i64 n), (.slice false 1 (xs.map D.str))] [.any, .any] (.bool (goodB n xs)) := by
 refine Sp_intro (lend := true) Tryz.func113 rfl rfl rfl (fun _ => rfl) (fun c hc hX => ?_)
 refine T_seq (T_region hc (Ch.s (.ptr 2000 0) (.box 2000 _ _ rfl (.one _ rfl)) (Ch.s (.d (.bool false)) pa (Ch.nil (T_seq (T_region hc (Ch.s (.d (.int .i64 n)) (.pure (.loadPtr1 _ _ rfl ag3 rfl rfl rfl)) ?_)))))))
 refine Ch.s (.d (.bool (withinB n 1 8))) (.call 6000 91 _ _ _ en91 rfl (.inl rfl) (.cons (.d _) (.cons (.d _) (.cons (.d _) .nil))) rfl rfl (sp_impl_within n 1 8) (.skip _ _ (.skip _ _ (.skip _ _ .nil))) rfl) (Ch.s (.d (.bool (withinB n 1 8))) pm ?_)
 cases h1 : (withinB n 1 8) with
 | true =>
  refine Ch.s (.d (.slice false 1 (xs.map D.str))) pm (Ch.s (.d (.int .i64 ((xs.length : Nat) : Int))) (.pure (.len _ _ 9 rfl Tryz.underlying23 (.sh _ _) (by simp))) (Ch.s (.d (.bool (decide (((xs.length : Nat) : Int) ≤ 60)))) (.pure (.int _ _ _ _ _ rfl rfl rfl rfl)) (Ch.s (.d (.bool (decide (((xs.length : Nat) : Int) ≤ 60)))) (.pure (.pickT _ _ _ rfl rfl rfl)) (Ch.s (.d (.bool (decide (((xs.length : Nat) : Int) ≤ 60)))) pm ?_))))
  cases h2 : (decide (((xs.length : Nat) : Int) ≤ 60)) with
  | true =>
   replace h2 := of_decide_eq_true h2
   refine Ch.s (.d (.slice false 1 (xs.map D.str))) pm (Ch.s (.fn 179 [(.ptr 2000 0)]) (.pure (.func _ _ rfl rfl)) (Ch.s (.d (.bool (xs.any (fun c => !cubeN c n)))) (.call 15000 178 _ _ _ en178 rfl (.inl rfl) (.cons (.d _) (.cons (.lend (.fn (.cons (.ptr rfl (.one (.d _) rfl)) .nil))) .nil)) rfl rfl (sp_ContainsFunc_str xs 179 [(.ref (.int .i64 n))] (fun c => !cubeN c n) en179 (fun c hc => sp_impl_IsValidCover_1 c n (by first | omega | assumption | (exact hx _ (getD_mem (by omega))) | (exact hx _ (by assumption)) | (exact Nat.le_trans (hx _ (by assumption)) (by omega)) | (simp only [List.length_append, List.length_take, List.length_drop, List.length_cons, List.length_nil]; omega) | (simp_all; done))) (by first | omega | assumption | (exact hx _ (getD_mem (by omega))) | (exact hx _ (by assumption)) | (exact Nat.le_trans (hx _ (by assumption)) (by omega)) | (simp only [List.length_append, List.length_take, List.length_drop, List.length_cons, List.length_nil]; omega) | (simp_all; done))) (.skip _ _ (.skip _ _ .nil)) rfl) (Ch.s (.d (.bool (!(xs.any (fun c => !cubeN c n))))) (.pure (.not _ _ rfl rfl)) (Ch.s (.d (.bool (!(xs.any (fun c => !cubeN c n))))) (.pure (.pickT _ _ _ rfl rfl rfl)) (Ch.s (.d (.bool (!(xs.any (fun c => !cubeN c n))))) pa (Ch.nil (T_ret ?_)))))))
   exact endR [(.d (.bool (!(xs.any (fun c => !cubeN c n)))))] [] [] (.cons (.tmp 4 rfl) .nil) (.cons (.any _) (.cons (.any _) .nil)) (Exp.of (congrArg D.bool (by simp_all [goodB, good_any])) (.d _)) rfl rfl
  | false =>
   replace h2 := of_decide_eq_false h2
   refine Ch.skip rfl rfl (Ch.skip rfl rfl (Ch.skip rfl rfl (Ch.skip rfl rfl (Ch.s (.d (.bool false)) (.pure (.pickF _ _ _ rfl rfl rfl)) (Ch.s (.d (.bool false)) pa (Ch.nil (T_ret ?_)))))))
   exact endR [(.d (.bool false))] [] [] (.cons (.tmp 4 rfl) .nil) (.cons (.any _) (.cons (.any _) .nil)) (Exp.of (congrArg D.bool (by simp_all [goodB, good_any])) (.d _)) rfl rfl
 | false =>
  refine Ch.skip rfl rfl (Ch.skip rfl rfl (Ch.skip rfl rfl (Ch.s (.d (.bool false)) (.pure (.pickF _ _ _ rfl rfl rfl)) (Ch.s (.d (.bool false)) pm (Ch.skip rfl rfl (Ch.skip rfl rfl (Ch.skip rfl rfl ?_)))))))
  refine Ch.skip rfl rfl (Ch.s (.d (.bool false)) (.pure (.pickF _ _ _ rfl rfl rfl)) (Ch.s (.d (.bool false)) pa (Ch.nil (T_ret ?_))))
  exact endR [(.d (.bool false))] [] [] (.cons (.tmp 4 rfl) .nil) (.cons (.any _) (.cons (.any _) .nil)) (Exp.of (congrArg D.bool (by simp_all [goodB, good_any])) (.d _)) rfl rfl

def isLit (u : List UInt8) (j : Nat) : Bool := u.getD j 0 != 45

def codeCh (x : UInt8) : Bool := x == 48 || x == 49

def codeN (u : List UInt8) (n : Int) : Bool := allB u.length (fun j => codeCh (u.getD j 0)) && decide ((u.length : Int) = n)

theorem sp_spec_l5Code (u : List UInt8) (n : Int) (hs : u.length ≤ 1048576) : Sp Tryz.prog 163 [(.str u), (.int .i64 n)] [.any, .any] (.bool (codeN u n)) := by
 refine Sp_intro (lend := true) Tryz.func163 rfl rfl rfl (fun _ => rfl) (fun c hc hX => ?_)
 refine T_seq (T_region hc (Ch.s (.d (.bool false)) pa (Ch.nil (T_seq (T_seq (T_region hc (Ch.s (.d (.int .i64 0)) pa ?_)))))))
 refine Ch.nil (T_block ?_)
 refine T_loop (ι := Nat) (fun k => { n := 26, sl := [(0, (.d (.str u))), (1, (.d (.int .i64 n))), (5, (.d (.int .i64 ((k : Nat) : Int))))], hp := [], pin := [] }) (fun k => k ≤ u.length ∧ ∀ j, j < k → codeCh (u.getD j 0) = true) (fun k => u.length - k) ⟨0, ⟨by omega, fun j hj => by omega⟩, (Wk.of rfl rfl (ai rfl (ai rfl (ai (vI (by first | rfl | omega | (simp; done) | (simp; omega))) trivial))) trivial)⟩ (fun k hp0 => ?_)
 refine T_seq (T_seq (T_region hc (Ch.s (.d (.int .i64 ((k : Nat) : Int))) pm (Ch.s (.d (.str u)) pm (Ch.s (.d (.int .i64 ((u.length : Nat) : Int))) (.pure (.lenStr _ _ rfl Tryz.underlying9 rfl)) (Ch.s (.d (.bool (decide (((k : Nat) : Int) < ((u.length : Nat) : Int))))) (.pure (.int _ _ _ _ _ rfl rfl rfl rfl)) (Ch.nil ?_)))))))
 refine T_cond (b := (decide (((k : Nat) : Int) < ((u.length : Nat) : Int)))) rfl (fun h1 => ?_) (fun h1 => ?_)
 ·
  replace h1 := of_decide_eq_true h1
  refine T_skip (T_seq (T_block (T_seq (T_region hc (Ch.s (.d (.str u)) pm (Ch.s (.d (.int .i64 ((k : Nat) : Int))) pm (Ch.s (.d (.int .u8 ((u.getD k 0).toNat : Int))) (.pure (.idxStr _ _ _ (k) rfl Tryz.underlying9 rfl rfl rfl get_strA)) ?_)))))))
  refine Ch.s (.d (.bool (!(decide (((u.getD k 0) : UInt8) = 48))))) (.pure (.int _ _ _ _ _ rfl rfl rfl (u8_neq ((u.getD k 0) : UInt8) 48 rfl rfl))) (Ch.s (.d (.bool (!(decide (((u.getD k 0) : UInt8) = 48))))) pm ?_)
  cases h2 : (decide (((u.getD k 0) : UInt8) = 48)) with
  | true =>
   replace h2 := of_decide_eq_true h2
   refine Ch.skip rfl rfl (Ch.skip rfl rfl (Ch.skip rfl rfl (Ch.skip rfl rfl (Ch.s (.d (.bool false)) (.pure (.pickF _ _ _ rfl rfl rfl)) (Ch.nil ?_)))))
   refine T_cond (b := false) rfl (fun h => nomatch h) (fun _ => ?_)
   refine T_skip (T_region hc (Ch.s (.d (.int .i64 ((k : Nat) : Int))) pm (Ch.s (.d (.int .i64 (((k : Nat) : Int) + 1))) (.pure (.int _ _ _ _ _ rfl rfl rfl intV_addA)) (Ch.s (.d (.int .i64 (((k : Nat) : Int) + 1))) pa (Ch.nil ?_)))))
   exact nx (k + 1) ⟨by omega, upto_succ hp0.2 (by simp_all [codeCh])⟩ (Wk.of rfl rfl (ai rfl (ai rfl (ai (vI (by first | rfl | omega | (simp; done) | (simp; omega))) trivial))) trivial)
  | false =>
   replace h2 := of_decide_eq_false h2
   refine Ch.s (.d (.str u)) pm (Ch.s (.d (.int .i64 ((k : Nat) : Int))) pm (Ch.s (.d (.int .u8 ((u.getD k 0).toNat : Int))) (.pure (.idxStr _ _ _ (k) rfl Tryz.underlying9 rfl rfl rfl get_strA)) (Ch.s (.d (.bool (!(decide (((u.getD k 0) : UInt8) = 49))))) (.pure (.int _ _ _ _ _ rfl rfl rfl (u8_neq ((u.getD k 0) : UInt8) 49 rfl rfl))) (Ch.s (.d (.bool (!(decide (((u.getD k 0) : UInt8) = 49))))) (.pure (.pickT _ _ _ rfl rfl rfl)) (Ch.nil ?_)))))
   refine T_cond (b := (!(decide (((u.getD k 0) : UInt8) = 49)))) rfl (fun h3 => ?_) (fun h3 => ?_)
   ·
    replace h3 := nott h3
    replace h3 := of_decide_eq_false h3
    refine T_seq (T_region hc (Ch.s (.d (.bool false)) pa (Ch.nil (T_ret ?_))))
    exact endR [(.d (.bool false))] [] [] (.cons (.tmp 4 rfl) .nil) (.cons (.any _) (.cons (.any _) .nil)) (Exp.of (congrArg D.bool (by first | (rw [codeN, allB_no k (by omega) (by simp_all [codeCh])]; rfl) | (rw [codeN, allB_of (fun j hj => hp0.2 j (by omega)), Bool.true_and]))) (.d _)) rfl rfl
   ·
    replace h3 := notf h3
    replace h3 := of_decide_eq_true h3
    refine T_skip (T_region hc (Ch.s (.d (.int .i64 ((k : Nat) : Int))) pm (Ch.s (.d (.int .i64 (((k : Nat) : Int) + 1))) (.pure (.int _ _ _ _ _ rfl rfl rfl intV_addA)) (Ch.s (.d (.int .i64 (((k : Nat) : Int) + 1))) pa (Ch.nil ?_)))))
    exact nx (k + 1) ⟨by omega, upto_succ hp0.2 (by simp_all [codeCh])⟩ (Wk.of rfl rfl (ai rfl (ai rfl (ai (vI (by first | rfl | omega | (simp; done) | (simp; omega))) trivial))) trivial)
 ·
  replace h1 := of_decide_eq_false h1
  refine T_exit (T_seq (T_region hc (Ch.s (.d (.str u)) pm (Ch.s (.d (.int .i64 ((u.length : Nat) : Int))) (.pure (.lenStr _ _ rfl Tryz.underlying9 rfl)) (Ch.s (.d (.int .i64 n)) pm (Ch.s (.d (.bool (decide (((u.length : Nat) : Int) = n)))) (.pure (.int _ _ _ _ _ rfl rfl rfl rfl)) (Ch.s (.d (.bool (decide (((u.length : Nat) : Int) = n)))) pa ?_)))))))
  refine Ch.nil (T_ret ?_)
  exact endR [(.d (.bool (decide (((u.length : Nat) : Int) = n))))] [] [] (.cons (.tmp 4 rfl) .nil) (.cons (.any _) (.cons (.any _) .nil)) (Exp.of (congrArg D.bool (by first | (rw [codeN, allB_no k (by omega) (by simp_all [codeCh])]; rfl) | (rw [codeN, allB_of (fun j hj => hp0.2 j (by omega)), Bool.true_and]))) (.d _)) rfl rfl

theorem any_yes {τ : Type} {l : List τ} {p : τ → Bool} (d : τ) (k : Nat) (hk : k < l.length) (h : p (l.getD k d) = true) : true = l.any p := (List.any_eq_true.2 ⟨_, getD_mem hk, h⟩).symm

theorem any_no {τ : Type} {l : List τ} {p : τ → Bool} (d : τ) (h : ∀ j, j < l.length → p (l.getD j d) = false) : false = l.any p := by
 symm
 rw [List.any_eq_false]
 intro x hx
 obtain ⟨j, hj, rfl⟩ := List.mem_iff_getElem.1 hx
 have := h j hj
 simp [hj] at this
 simp [this]

theorem en163 : Enters Tryz.prog 163 := ⟨_, Tryz.func163, by kernel_rfl, rfl⟩

theorem ag23 : AggIs Tryz.prog 23 false := by unfold AggIs; kernel_rfl

theorem sp_spec_l5Bit (up : Bool) : Sp Tryz.prog 214 [(.bool (up))] [.any] (.str ([bitN up])) := by
 refine Sp_intro (lend := true) Tryz.func214 rfl rfl rfl (fun _ => rfl) (fun c hc hX => ?_)
 refine T_seq (T_region hc (Ch.s (.d (.str [])) pa (Ch.nil (T_seq (T_seq (T_region hc (Ch.s (.d (.bool (up))) pm ?_)))))))
 refine Ch.nil ?_
 refine T_cond (b := (up)) rfl (fun h1 => ?_) (fun h1 => ?_)
 ·
  refine T_seq (T_region hc (Ch.s (.d (.str [49])) pa (Ch.nil (T_ret ?_))))
  exact endR [(.d (.str [49]))] [] [] (.cons (.tmp 2 rfl) .nil) (.cons (.any _) .nil) (Exp.of (congrArg D.str (by subst_vars; rfl)) (.d _)) rfl rfl
 ·
  refine T_skip (T_seq (T_region hc (Ch.s (.d (.str [48])) pa (Ch.nil (T_ret ?_)))))
  exact endR [(.d (.str [48]))] [] [] (.cons (.tmp 2 rfl) .nil) (.cons (.any _) .nil) (Exp.of (congrArg D.str (by subst_vars; rfl)) (.d _)) rfl rfl

theorem sp_spec_l5Set (u : List UInt8) (sig : Int) (v : List UInt8) (hu : u.length ≤ 1048576) (hv : v.length ≤ 1048576) (h0 : 0 ≤ sig) (h1s : sig + 1 ≤ u.length) : Sp Tryz.prog 220 [(.str u), (.int .i64 sig), (.str v)] [.any, .any, .any] (.str (u.take sig.toNat ++ v ++ u.drop (sig + 1).toNat)) := by
 refine Sp_intro (lend := true) Tryz.func220 rfl rfl rfl (fun _ => rfl) (fun c hc hX => ?_)
 refine T_seq (T_region hc (Ch.s (.d (.str [])) pa (Ch.nil (T_seq ?_))))
 refine T_regionD hc (by kernel_rfl) ?_
 refine ChD.s (.d (.str u)) [] pm (ChD.s (.d (.int .i64 sig)) [] pm (ChD.s (.d (.str (u.take ((sig).toNat)))) [] (.pure (.sliceStr _ _ _ _ (0) ((sig).toNat) rfl Tryz.underlying9 rfl (bndN rfl) (bndS rfl (by omega)) (by first | omega | (simp only [List.length_map, List.length_append, List.length_take, List.length_drop, List.length_cons, List.length_nil]; omega) | (simp; omega) | (simp; done)) (by first | omega | (simp only [List.length_map, List.length_append, List.length_take, List.length_drop, List.length_cons, List.length_nil]; omega) | (simp; omega) | (simp; done)) (by simp))) (ChD.s (.d (.str v)) [] pm (ChD.s (.d (.str ((u.take ((sig).toNat)) ++ v))) [] (.pure (.str _ _ _ _ _ rfl rfl rfl (strV_add (by first | omega | (simp only [List.length_map, List.length_append, List.length_take, List.length_drop, List.length_cons, List.length_nil]; omega) | (simp; omega) | (simp; done))))) (ChD.s (.d (.str u)) [] pm (ChD.s (.d (.int .i64 sig)) [] pm (ChD.s (.d (.int .i64 (sig + 1))) [] (.pure (.int _ _ _ _ _ rfl rfl rfl intV_addA)) ?_)))))))
 refine ChD.s (.d (.str (u.drop (((sig + 1)).toNat)))) [] (.pure (.sliceStr _ _ _ _ (((sig + 1)).toNat) (u.length) rfl Tryz.underlying9 rfl (bndS rfl (by omega)) (bndN rfl) (by first | omega | (simp only [List.length_map, List.length_append, List.length_take, List.length_drop, List.length_cons, List.length_nil]; omega) | (simp; omega) | (simp; done)) (by first | omega | (simp only [List.length_map, List.length_append, List.length_take, List.length_drop, List.length_cons, List.length_nil]; omega) | (simp; omega) | (simp; done)) (by simp))) (ChD.s (.d (.str (((u.take ((sig).toNat)) ++ v) ++ (u.drop (((sig + 1)).toNat))))) [] (.pure (.str _ _ _ _ _ rfl rfl rfl (strV_add (by first | omega | (simp only [List.length_map, List.length_append, List.length_take, List.length_drop, List.length_cons, List.length_nil]; omega) | (simp; omega) | (simp; done))))) (ChD.s (.d (.str (((u.take ((sig).toNat)) ++ v) ++ (u.drop (((sig + 1)).toNat))))) [] pa ?_))
 refine ChD.nil (And.intro ?_ (by kernel_rfl))
 refine T_ret ?_
 exact endR [(.d (.str (((u.take ((sig).toNat)) ++ v) ++ (u.drop (((sig + 1)).toNat)))))] [] [] (.cons (.tmp 6 rfl) .nil) (.cons (.any _) (.cons (.any _) (.cons (.any _) .nil))) (Exp.of (congrArg D.str (by rfl)) (.d _)) rfl rfl

theorem within_two {n lo hi : Int} (h : withinB n lo hi = true) : lo ≤ n ∧ n ≤ hi := by simpa [withinB] using h

theorem sz3 : SizeIs Tryz.prog 3 1 := by unfold SizeIs; kernel_rfl

theorem sz23 : SizeIs Tryz.prog 23 1 := by unfold SizeIs; kernel_rfl

theorem en29 : Enters Tryz.prog 29 := ⟨_, Tryz.func29, by kernel_rfl, rfl⟩

def keepTo {τ : Type} (p : τ → Bool) (xs : List τ) (j : Nat) : List τ := (xs.take j).filter fun u => !p u

theorem keepTo_yes {τ : Type} [Inhabited τ] {p : τ → Bool} {xs : List τ} {j : Nat} (hj : j < xs.length) (h : p (xs.getD j default) = false) : keepTo p xs (j + 1) = keepTo p xs j ++ [xs.getD j default] := by
 have hg : xs.getD j default = xs[j] := by simp [hj]
 rw [hg] at h ⊢
 rw [keepTo, keepTo, List.take_succ_eq_append_getElem hj, List.filter_append]; simp [h]

theorem keepTo_no {τ : Type} [Inhabited τ] {p : τ → Bool} {xs : List τ} {j : Nat} (hj : j < xs.length) (h : p (xs.getD j default) = true) : keepTo p xs (j + 1) = keepTo p xs j := by
 have hg : xs.getD j default = xs[j] := by simp [hj]
 rw [hg] at h
 rw [keepTo, keepTo, List.take_succ_eq_append_getElem hj, List.filter_append]; simp [h]

theorem keepTo_none {τ : Type} [Inhabited τ] {p : τ → Bool} {xs : List τ} : ∀ k, k ≤ xs.length → (∀ j, j < k → p (xs.getD j default) = false) → keepTo p xs k = xs.take k
 | 0, _, _ => rfl
 | k + 1, hk, h => by
  rw [keepTo_yes (by omega) (h k (by omega)), keepTo_none k (by omega) (fun j hj => h j (by omega)), List.take_succ_eq_append_getElem (by omega)]
  simp [show k < xs.length by omega]

theorem ixF_first {τ : Type} [Inhabited τ] {p : τ → Bool} {xs : List τ} (h : ¬ ixF p xs = -1) : ∃ k, k < xs.length ∧ ixF p xs = (k : Int) ∧ keepTo p xs (k + 1) = xs.take k := by
  unfold ixF at *
  split at h
  · rename_i ha
    have hk : xs.findIdx p < xs.length := List.findIdx_lt_length_of_exists (by simpa using ha)
    refine ⟨xs.findIdx p, hk, by rw [if_pos ha], ?_⟩
    have h1 : p (xs.getD (xs.findIdx p) default) = true := by
      have := List.findIdx_getElem (w := hk)
      simpa [hk] using this
    rw [keepTo_no hk h1]
    refine keepTo_none _ (by omega) (fun j hj => ?_)
    have := List.not_of_lt_findIdx hj
    simpa [show j < xs.length by omega] using this
  · exact absurd rfl h

theorem ixF_bounds {τ : Type} [Inhabited τ] (p : τ → Bool) (xs : List τ) : -1 ≤ ixF p xs ∧ ixF p xs ≤ xs.length := by
  unfold ixF
  have := List.findIdx_le_length (p := p) (xs := xs)
  split <;> omega

theorem take_cut {τ : Type} {A Z B : List τ} {k : Nat} (h : k ≤ A.length) : (A.take k ++ Z ++ B).take k = A.take k := by
 rw [List.append_assoc, List.take_append_of_le_length (by simp; omega), List.take_of_length_le (by simp; omega)]

theorem ixF_all {τ : Type} [Inhabited τ] {p : τ → Bool} {xs : List τ} (h : ixF p xs = -1) : xs.filter (fun u => !p u) = xs := by
  unfold ixF at h
  split at h
  · omega
  · rename_i ha
    rw [List.filter_eq_self]
    intro u hu
    have : ¬ p u = true := fun hp => ha (List.any_eq_true.2 ⟨u, hu, hp⟩)
    simpa using this

def both (u : List UInt8) : List (List UInt8) := [u ++ [48], u ++ [49]]

def codes : Nat → List (List UInt8)
 | 0 => [[]]
 | n + 1 => (codes n).flatMap both

theorem shl1 {b : Int} {n : Nat} (h : b = (n : Int)) (hn : n ≤ 62) : shiftV .shl .i64 1 b = some (.int .i64 ((2 ^ n : Nat) : Int)) := by
 subst h
 rw [shiftV, if_neg (by omega)]
 have h1 : min (n : Int).toNat IntKind.i64.bits = n := by
  have : IntKind.i64.bits = 64 := rfl
  rw [this, Int.toNat_natCast]; omega
 have h2 : 2 ^ n ≤ 2 ^ 62 := Nat.pow_le_pow_right (by omega) hn
 rw [h1, Int.one_mul, show (2 : Int) ^ n = ((2 ^ n : Nat) : Int) by simp]
 generalize 2 ^ n = m at h2
 rw [IntWalk.i64_in _ (by omega)]

theorem en220 : Enters Tryz.prog 220 := ⟨_, Tryz.func220, by kernel_rfl, rfl⟩

def three (u : List UInt8) : List (List UInt8) := [u ++ [45], u ++ [48], u ++ [49]]

def cubes : Nat → List (List UInt8)
 | 0 => [[]]
 | n + 1 => (cubes n).flatMap three

theorem en181 : Enters Tryz.prog 181 := ⟨_, Tryz.func181, by kernel_rfl, rfl⟩

theorem sp_Join (xs : List (List UInt8)) (sep : List UInt8) (hn : xs.length ≤ 1048576) (hl : (Lib.join xs sep).length ≤ 140737488355328) : Sp Tryz.prog 181 [.slice false 1 (xs.map D.str), .str sep] [.any, .any] (.str (Lib.join xs sep)) :=
 sp_join Go.Proofs.Tryz.strings_Join_none Go.Proofs.Tryz.strings_Join xs sep (by omega) hl

theorem fld151_0 : FieldIs Tryz.prog 151 0 0 1 false := FieldIs.mk Tryz.underlying151 rfl rfl sz9 ag9 rfl

theorem sz151 : SizeIs Tryz.prog 151 2 := by unfold SizeIs; kernel_rfl

theorem ag151 : AggIs Tryz.prog 151 true := by unfold AggIs; kernel_rfl

theorem en133 : Enters Tryz.prog 133 := ⟨_, Tryz.func133, by kernel_rfl, rfl⟩

theorem zr154 : (Tryz.prog.info? 154).bind (·.zero) = some (.agg #[.string .empty, .int .i64 0]) := by kernel_rfl

theorem zer154 : ∃ i z, Tryz.prog.info? 154 = some i ∧ i.zero = some z ∧ z.cells = List.toArray [.string .empty, .int .i64 0] := zero_mk zr154 rfl

theorem fld154_0 : FieldIs Tryz.prog 154 0 0 1 false := FieldIs.mk Tryz.underlying154 rfl rfl sz9 ag9 rfl

theorem fld151_1 : FieldIs Tryz.prog 151 1 1 1 false := FieldIs.mk Tryz.underlying151 rfl rfl sz3 ag3 rfl

theorem fld154_1 : FieldIs Tryz.prog 154 1 1 1 false := FieldIs.mk Tryz.underlying154 rfl rfl sz3 ag3 rfl

theorem ag154 : AggIs Tryz.prog 154 true := by unfold AggIs; kernel_rfl

theorem sz154 : SizeIs Tryz.prog 154 2 := by unfold SizeIs; kernel_rfl

theorem sty32 : SlotTy Tryz.prog 32 154 2 24 := slotTy_mk (by kernel_rfl)

theorem en137 : Enters Tryz.prog 137 := ⟨_, Tryz.func137, by kernel_rfl, rfl⟩

theorem en144 : Enters Tryz.prog 144 := ⟨_, Tryz.func144, by kernel_rfl, rfl⟩

theorem zr125 : (Tryz.prog.info? 125).bind (·.zero) = some (.agg #[.int .i64 0, .int .i64 0, .bool false, .int .i64 0]) := by kernel_rfl

theorem zer125 : ∃ i z, Tryz.prog.info? 125 = some i ∧ i.zero = some z ∧ z.cells = List.toArray [.int .i64 0, .int .i64 0, .bool false, .int .i64 0] := zero_mk zr125 rfl

theorem fld157_0 : FieldIs Tryz.prog 157 0 0 1 false := FieldIs.mk Tryz.underlying157 rfl rfl sz3 ag3 rfl

theorem fld125_0 : FieldIs Tryz.prog 125 0 0 1 false := FieldIs.mk Tryz.underlying125 rfl rfl sz3 ag3 rfl

theorem fld157_1 : FieldIs Tryz.prog 157 1 1 1 false := FieldIs.mk Tryz.underlying157 rfl rfl sz3 ag3 rfl

theorem fld125_1 : FieldIs Tryz.prog 125 1 1 1 false := FieldIs.mk Tryz.underlying125 rfl rfl sz3 ag3 rfl

theorem sz4 : SizeIs Tryz.prog 4 1 := by unfold SizeIs; kernel_rfl

theorem ag4 : AggIs Tryz.prog 4 false := by unfold AggIs; kernel_rfl

theorem fld157_2 : FieldIs Tryz.prog 157 2 2 1 false := FieldIs.mk Tryz.underlying157 rfl rfl sz4 ag4 rfl

theorem fld125_2 : FieldIs Tryz.prog 125 2 2 1 false := FieldIs.mk Tryz.underlying125 rfl rfl sz4 ag4 rfl

theorem fld157_3 : FieldIs Tryz.prog 157 3 3 1 false := FieldIs.mk Tryz.underlying157 rfl rfl sz3 ag3 rfl

theorem fld125_3 : FieldIs Tryz.prog 125 3 3 1 false := FieldIs.mk Tryz.underlying125 rfl rfl sz3 ag3 rfl

theorem ag125 : AggIs Tryz.prog 125 true := by unfold AggIs; kernel_rfl

theorem sz125 : SizeIs Tryz.prog 125 4 := by unfold SizeIs; kernel_rfl

theorem sty33 : SlotTy Tryz.prog 33 125 4 32 := slotTy_mk (by kernel_rfl)

theorem sz157 : SizeIs Tryz.prog 157 4 := by unfold SizeIs; kernel_rfl

theorem ag157 : AggIs Tryz.prog 157 true := by unfold AggIs; kernel_rfl

theorem en138 : Enters Tryz.prog 138 := ⟨_, Tryz.func138, by kernel_rfl, rfl⟩

theorem en145 : Enters Tryz.prog 145 := ⟨_, Tryz.func145, by kernel_rfl, rfl⟩

theorem sz32 : SizeIs Tryz.prog 32 1 := by unfold SizeIs; kernel_rfl

theorem ag32 : AggIs Tryz.prog 32 false := by unfold AggIs; kernel_rfl

theorem en74 : Enters Tryz.prog 74 := ⟨_, Tryz.func74, by kernel_rfl, rfl⟩

theorem sz22 : SizeIs Tryz.prog 22 1 := by unfold SizeIs; kernel_rfl

theorem ag22 : AggIs Tryz.prog 22 false := by unfold AggIs; kernel_rfl

theorem fld26_0 : FieldIs Tryz.prog 26 0 0 1 false := FieldIs.mk Tryz.underlying26 rfl rfl sz22 ag22 rfl

theorem en66 : Enters Tryz.prog 66 := ⟨_, Tryz.func66, by kernel_rfl, rfl⟩

theorem fld26_1 : FieldIs Tryz.prog 26 1 1 1 false := FieldIs.mk Tryz.underlying26 rfl rfl sz23 ag23 rfl

theorem en67 : Enters Tryz.prog 67 := ⟨_, Tryz.func67, by kernel_rfl, rfl⟩

theorem sz24 : SizeIs Tryz.prog 24 1 := by unfold SizeIs; kernel_rfl

theorem ag24 : AggIs Tryz.prog 24 false := by unfold AggIs; kernel_rfl

theorem fld26_2 : FieldIs Tryz.prog 26 2 2 1 false := FieldIs.mk Tryz.underlying26 rfl rfl sz24 ag24 rfl

theorem en68 : Enters Tryz.prog 68 := ⟨_, Tryz.func68, by kernel_rfl, rfl⟩

theorem zr35 : (Tryz.prog.info? 35).bind (·.zero) = some (.agg #[.slice none 0 0, .slice none 0 0, .slice none 0 0]) := by kernel_rfl

theorem zer35 : ∃ i z, Tryz.prog.info? 35 = some i ∧ i.zero = some z ∧ z.cells = List.toArray [.slice none 0 0, .slice none 0 0, .slice none 0 0] := zero_mk zr35 rfl

theorem en70 : Enters Tryz.prog 70 := ⟨_, Tryz.func70, by kernel_rfl, rfl⟩

theorem fld35_0 : FieldIs Tryz.prog 35 0 0 1 false := FieldIs.mk Tryz.underlying35 rfl rfl sz32 ag32 rfl

theorem en71 : Enters Tryz.prog 71 := ⟨_, Tryz.func71, by kernel_rfl, rfl⟩

theorem fld35_1 : FieldIs Tryz.prog 35 1 1 1 false := FieldIs.mk Tryz.underlying35 rfl rfl sz23 ag23 rfl

theorem en72 : Enters Tryz.prog 72 := ⟨_, Tryz.func72, by kernel_rfl, rfl⟩

theorem sz33 : SizeIs Tryz.prog 33 1 := by unfold SizeIs; kernel_rfl

theorem ag33 : AggIs Tryz.prog 33 false := by unfold AggIs; kernel_rfl

theorem fld35_2 : FieldIs Tryz.prog 35 2 2 1 false := FieldIs.mk Tryz.underlying35 rfl rfl sz33 ag33 rfl

theorem ag35 : AggIs Tryz.prog 35 true := by unfold AggIs; kernel_rfl

theorem sz35 : SizeIs Tryz.prog 35 3 := by unfold SizeIs; kernel_rfl

theorem en75 : Enters Tryz.prog 75 := ⟨_, Tryz.func75, by kernel_rfl, rfl⟩

theorem fld119_2 : FieldIs Tryz.prog 119 2 2 1 false := FieldIs.mk Tryz.underlying119 rfl rfl sz23 ag23 rfl

theorem zr121 : (Tryz.prog.info? 121).bind (·.zero) = some (.agg #[.int .i64 0, .bool false, .slice none 0 0]) := by kernel_rfl

theorem zer121 : ∃ i z, Tryz.prog.info? 121 = some i ∧ i.zero = some z ∧ z.cells = List.toArray [.int .i64 0, .bool false, .slice none 0 0] := zero_mk zr121 rfl

theorem fld119_0 : FieldIs Tryz.prog 119 0 0 1 false := FieldIs.mk Tryz.underlying119 rfl rfl sz3 ag3 rfl

theorem fld121_0 : FieldIs Tryz.prog 121 0 0 1 false := FieldIs.mk Tryz.underlying121 rfl rfl sz3 ag3 rfl

theorem fld119_1 : FieldIs Tryz.prog 119 1 1 1 false := FieldIs.mk Tryz.underlying119 rfl rfl sz4 ag4 rfl

theorem fld121_1 : FieldIs Tryz.prog 121 1 1 1 false := FieldIs.mk Tryz.underlying121 rfl rfl sz4 ag4 rfl

theorem fld121_2 : FieldIs Tryz.prog 121 2 2 1 false := FieldIs.mk Tryz.underlying121 rfl rfl sz23 ag23 rfl

theorem ag121 : AggIs Tryz.prog 121 true := by unfold AggIs; kernel_rfl

theorem sz121 : SizeIs Tryz.prog 121 3 := by unfold SizeIs; kernel_rfl

theorem froz_c {x y : D} {xs ys : List D} (h : x.froz = y) (h2 : frozs xs = ys) : frozs (x :: xs) = y :: ys := by rw [frozs, h, h2]

theorem slice_froz {u : Bool} {sz : Nat} {xs ys : List D} (h : frozs xs = ys) : (D.slice u sz xs).froz = D.slice false sz ys := by rw [D.froz, h]

theorem frozs_to {τ : Type} {f g : τ → D} (h : ∀ x, (f x).froz = g x) (l : List τ) : frozs (l.map f) = l.map g := by
 rw [frozs_eq, List.map_map]; congr 1; funext x; exact h x

def intsD (l : List Int) : D := .slice false 1 (l.map fun n => D.int .i64 n)

def intsU (l : List Int) : D := .slice true 1 (l.map fun n => D.int .i64 n)

theorem intsU_fz (l : List Int) : (intsU l).froz = intsD l := slice_froz (frozs_map (fun _ => rfl) _)

def sumF {τ : Type} (f : τ → Nat) (xs : List τ) (k : Nat) : Nat := ((xs.take k).map f).sum

def bulkF {τ : Type} (f : τ → Nat) (xs : List τ) : Nat := xs.length + (xs.map f).sum

theorem sumF_zero {τ : Type} (f : τ → Nat) (xs : List τ) : sumF f xs 0 = 0 := rfl

theorem sumF_succ {τ : Type} [Inhabited τ] (f : τ → Nat) {xs : List τ} {k : Nat} (h : k < xs.length) : sumF f xs (k + 1) = sumF f xs k + f (xs.getD k default) := by
 have hg : xs.getD k default = xs[k] := by simp [h]
 unfold sumF
 rw [hg, List.take_succ_eq_append_getElem h, List.map_append, List.sum_append]
 simp only [List.map_cons, List.map_nil, List.sum_cons, List.sum_nil, Nat.add_zero]

theorem sumF_all {τ : Type} (f : τ → Nat) {xs : List τ} {k : Nat} (h : xs.length ≤ k) : sumF f xs k = (xs.map f).sum := by rw [sumF, List.take_of_length_le h]

theorem sumF_le {τ : Type} (f : τ → Nat) (xs : List τ) (k : Nat) : sumF f xs k ≤ (xs.map f).sum := by
 conv => rhs; rw [← List.take_append_drop k xs, List.map_append, List.sum_append]
 unfold sumF; omega

theorem le_sumL {x : Nat} : ∀ {l : List Nat}, x ∈ l → x ≤ l.sum
  | y :: l, h => by
    rw [List.sum_cons]
    rcases List.mem_cons.1 h with rfl | h
    · omega
    · have := le_sumL h; omega

theorem sum_zero {τ : Type} {f : τ → Nat} (h : ∀ x, f x = 0) : ∀ xs : List τ, (xs.map f).sum = 0
 | [] => rfl
 | x :: xs => by rw [List.map_cons, List.sum_cons, h x, sum_zero h xs]

theorem bulkF_len {τ : Type} {f : τ → Nat} {xs : List τ} {n : Nat} (h : bulkF f xs ≤ n) : xs.length ≤ n := by unfold bulkF at h; omega

theorem bulkF_mem {τ : Type} {f : τ → Nat} {xs : List τ} {n : Nat} (h : bulkF f xs ≤ n) : ∀ x ∈ xs, f x ≤ n := by
 intro x hx
 have : f x ≤ (xs.map f).sum := le_sumL (List.mem_map.2 ⟨x, hx, rfl⟩)
 unfold bulkF at h; omega

def szR (t : Nat) (left : Int) : Int := if (t : Int) ≤ left then left - t else -1

theorem szR_cases (t : Nat) (left : Int) : ((t : Int) ≤ left ∧ szR t left = left - t) ∨ (left < t ∧ szR t left = -1) := by
  unfold szR; split
  · exact .inl ⟨by assumption, rfl⟩
  · exact .inr ⟨by omega, rfl⟩

theorem szR_ok {t : Nat} {left : Int} (h : ¬ szR t left < 0) (h0 : 0 ≤ left) : t ≤ left.toNat ∧ szR t left = left - t := by
  rcases szR_cases t left with ⟨h1, h2⟩ | ⟨h1, h2⟩
  · exact ⟨by omega, h2⟩
  · exact absurd h2 (by omega)

theorem szS_cases (xs : List (List UInt8)) (left : Int) : ((bulkS xs : Int) ≤ left ∧ szS xs left = left - bulkS xs) ∨ (left < bulkS xs ∧ szS xs left = -1) := szR_cases (bulkS xs) left

theorem dr_int {S w k n} : DR S w (.int k n) (.int k n) [] := by rw [DR]; exact ⟨rfl, rfl⟩

theorem dr_bool {S w b} : DR S w (.bool b) (.bool b) [] := by rw [DR]; exact ⟨rfl, rfl⟩

theorem dr_str0 {S w} : DR S w (.str []) (.string .empty) [] := by rw [DR]; exact ⟨rfl, rfl⟩

theorem dr_agg {S w ds vs} (h : (ds.all D.one) = true) (hd : DRs S w ds vs []) : DR S w (.agg ds) (.agg vs.toArray) [] := by
 rw [DR]; exact ⟨fun c hc => List.all_eq_true.1 h c hc, vs, rfl, hd⟩

theorem drs_nil {S w} : DRs S w [] [] [] := by rw [DRs]; exact ⟨rfl, rfl⟩

theorem drs_cons {S w d v ds vs} (h : DR S w d v []) (h2 : DRs S w ds vs []) : DRs S w (d :: ds) (v :: vs) [] := by
 rw [DRs]; exact ⟨v, vs, [], [], rfl, rfl, h, h2⟩

theorem get_set {τ : Type} {l : List τ} {j : Nat} {y : τ} (h : j < l.length) : (l.set j y)[j]? = some y := by simp [h]

theorem get_fill {τ : Type} {l : List τ} {z : τ} {k : Nat} (h : k < l.length) : (fill l z k)[k]? = some z := by
 have e : (l.take k).length = k := by simp; omega
 unfold fill
 rw [List.getElem?_append_right (by omega), e, Nat.sub_self, List.getElem?_replicate, if_pos (by omega)]

theorem set_back {τ : Type} {f : τ → D} [Inhabited τ] {l : List τ} {j : Nat} {a : D} (h : j < l.length) : ((l.map f).set j a).set j (f (l.getD j default)) = l.map f := by
  rw [List.set_set]
  apply List.ext_getElem
  · simp
  · intro q h1 h2
    rw [List.getElem_set]
    split
    · rename_i e; subst e; simp [h]
    · rfl

theorem set_hole {τ : Type} {f : τ → D} {l : List τ} {j : Nat} {a : D} {y : τ} : ((l.map f).set j a).set j (f y) = (l.set j y).map f := by
 rw [List.set_set, List.map_set]

theorem fill_setD {τ : Type} {f : τ → D} [Inhabited τ] {l : List τ} {z : D} {k : Nat} (h : k < l.length) : (fill (l.map f) z k).set k (f (l.getD k default)) = fill (l.map f) z (k + 1) := by
 have := fill_set (l.map f) z default (k := k) (by simpa using h)
 rw [← this]; congr 1; simp [h]

structure Sgn where
 name : List UInt8
 kind : Int
 deriving DecidableEq, Inhabited

def Sgn.d (x : Sgn) : D := (.agg [(.str x.name), (.int .i64 x.kind)])

def Sgn.bulk (x : Sgn) : Nat := x.name.length

def Sgn.wide (x : Sgn) : Prop := (x.name.length ≤ 9223372036854775807)

theorem Sgn.parts {x : Sgn} {n : Nat} (h : x.bulk ≤ n) : (x.name.length ≤ n) := by unfold Sgn.bulk at h; omega

structure Lab where
 sig : Int
 up : Bool
 deriving DecidableEq, Inhabited

def Lab.d (x : Lab) : D := (.agg [(.int .i64 x.sig), (.bool (x.up))])

def Lab.bulk (x : Lab) : Nat := 0

def Lab.wide (x : Lab) : Prop := True

theorem Lab.eqv (x y : Lab) : ((decide (x.sig = y.sig) && (decide (x.up = y.up) && true))) = decide (x = y) := by cases x; cases y; simp

structure Arc where
 src : Int
 sig : Int
 up : Bool
 dst : Int
 deriving DecidableEq, Inhabited

def Arc.d (x : Arc) : D := (.agg [(.int .i64 x.src), (.int .i64 x.sig), (.bool (x.up)), (.int .i64 x.dst)])

def Arc.bulk (x : Arc) : Nat := 0

def Arc.wide (x : Arc) : Prop := True

structure Sgr where
 sigs : List (Sgn)
 codes : List (List UInt8)
 arcs : List (Arc)
 deriving DecidableEq, Inhabited

def Sgr.d (x : Sgr) : D := (.agg [(.slice false 2 (x.sigs.map Sgn.d)), (.slice false 1 (x.codes.map D.str)), (.slice false 4 (x.arcs.map Arc.d))])

def Sgr.u (x : Sgr) : D := (.agg [(.slice true 2 (x.sigs.map Sgn.d)), (.slice true 1 (x.codes.map D.str)), (.slice true 4 (x.arcs.map Arc.d))])

theorem Sgr.sol (x : Sgr) : (Sgr.u x).solid = true := by unfold Sgr.u; rw [D.solid]; exact (solids_c (solid_row (fun _ => rfl) _) (solids_c (solid_row (fun _ => rfl) _) (solids_c (solid_row (fun _ => rfl) _) rfl)))

def Sgr.bulk (x : Sgr) : Nat := bulkF Sgn.bulk x.sigs + bulkS x.codes + bulkF Arc.bulk x.arcs

def Sgr.wide (x : Sgr) : Prop := (x.sigs.length ≤ 9223372036854775807 ∧ ∀ y ∈ x.sigs, Sgn.wide y) ∧ (x.codes.length ≤ 9223372036854775807 ∧ ∀ y ∈ x.codes, y.length ≤ 9223372036854775807) ∧ (x.arcs.length ≤ 9223372036854775807 ∧ ∀ y ∈ x.arcs, Arc.wide y)

theorem Sgr.parts {x : Sgr} {n : Nat} (h : x.bulk ≤ n) : (bulkF Sgn.bulk x.sigs ≤ n) ∧ (bulkS x.codes ≤ n) ∧ (bulkF Arc.bulk x.arcs ≤ n) := by unfold Sgr.bulk at h; omega

structure Rcv where
 sig : Int
 up : Bool
 cubes : List (List UInt8)
 deriving DecidableEq, Inhabited

def Rcv.d (x : Rcv) : D := (.agg [(.int .i64 x.sig), (.bool (x.up)), (.slice false 1 (x.cubes.map D.str))])

def Rcv.u (x : Rcv) : D := (.agg [(.int .i64 x.sig), (.bool (x.up)), (.slice true 1 (x.cubes.map D.str))])

theorem Rcv.fz (x : Rcv) : (Rcv.u x).froz = Rcv.d x := congrArg D.agg (froz_c rfl (froz_c rfl (froz_c (slice_froz (frozs_map (fun _ => rfl) _)) rfl)))

theorem Rcv.sol (x : Rcv) : (Rcv.u x).solid = true := by unfold Rcv.u; rw [D.solid]; exact (solids_c rfl (solids_c rfl (solids_c (solid_row (fun _ => rfl) _) rfl)))

def Rcv.bulk (x : Rcv) : Nat := bulkS x.cubes

def Rcv.wide (x : Rcv) : Prop := (x.cubes.length ≤ 9223372036854775807 ∧ ∀ y ∈ x.cubes, y.length ≤ 9223372036854775807)

theorem Rcv.parts {x : Rcv} {n : Nat} (h : x.bulk ≤ n) : (bulkS x.cubes ≤ n) := by unfold Rcv.bulk at h; omega

structure Stp where
 src : Int
 dst : Int
 deriving DecidableEq, Inhabited

def Stp.d (x : Stp) : D := (.agg [(.int .i64 x.src), (.int .i64 x.dst)])

def Stp.bulk (x : Stp) : Nat := 0

def Stp.wide (x : Stp) : Prop := True

structure Pvi where
 st : Int
 sig : Int
 arc : Int
 deriving DecidableEq, Inhabited

def Pvi.d (x : Pvi) : D := (.agg [(.int .i64 x.st), (.int .i64 x.sig), (.int .i64 x.arc)])

def Pvi.bulk (x : Pvi) : Nat := 0

def Pvi.wide (x : Pvi) : Prop := True

theorem sp_laws_szSignal (x : Sgn) (left : Int) (h0 : 0 ≤ left) (h0u : left ≤ 1048576) (hw : x.wide) : Sp Tryz.prog 133 [(.agg [(.str x.name), (.int .i64 x.kind)]), (.int .i64 left)] [.any, .any] (.int .i64 (szR x.bulk left)) := by
 refine Sp_intro (lend := true) Tryz.func133 rfl rfl rfl (fun _ => rfl) (fun c hc hX => ?_)
 have ef := szR_cases (x.name.length) left
 unfold Sgn.wide at hw
 refine T_seq (T_region hc (Ch.s (.ptr 2000 0) (.box 2000 _ _ rfl (.aggD _)) (Ch.s (.d (.int .i64 0)) pa (Ch.nil (T_seq (T_region hc (Ch.s (.d (.int .i64 left)) pm ?_)))))))
 refine Ch.s (.ptr 2000 0) (.pure (.fldPtr _ _ _ rfl fld151_0 rfl)) (Ch.s (.d (.str x.name)) (.pure (.loadPtr1 _ _ rfl ag9 rfl rfl rfl)) (Ch.s (.d (.int .i64 ((x.name.length : Nat) : Int))) (.pure (.lenStr _ _ rfl Tryz.underlying9 rfl)) (Ch.s (.d (.int .i64 (left - ((x.name.length : Nat) : Int)))) (.pure (.int _ _ _ _ _ rfl rfl rfl intV_subA)) (Ch.s (.d (.int .i64 (left - ((x.name.length : Nat) : Int)))) pa (Ch.nil (T_seq (T_seq ?_)))))))
 refine T_region hc (Ch.s (.d (.int .i64 (left - ((x.name.length : Nat) : Int)))) pm (Ch.s (.d (.bool (decide ((left - ((x.name.length : Nat) : Int)) < 0)))) (.pure (.int _ _ _ _ _ rfl rfl rfl rfl)) (Ch.nil ?_)))
 refine T_cond (b := (decide ((left - ((x.name.length : Nat) : Int)) < 0))) rfl (fun h1 => ?_) (fun h1 => ?_)
 ·
  replace h1 := of_decide_eq_true h1
  refine T_seq (T_region hc (Ch.s (.d (.int .i64 (-1))) pa (Ch.nil (T_ret ?_))))
  exact endR [(.d (.int .i64 (-1)))] [] [] (.cons (.tmp 4 rfl) .nil) (.cons (.any _) (.cons (.any _) .nil)) (Exp.of (congrArg (D.int .i64) (by show _ = szR (x.name.length) left; omega)) (.d _)) rfl rfl
 ·
  replace h1 := of_decide_eq_false h1
  refine T_skip (T_seq (T_region hc (Ch.s (.d (.int .i64 (left - ((x.name.length : Nat) : Int)))) pm (Ch.s (.d (.int .i64 (left - ((x.name.length : Nat) : Int)))) pa (Ch.nil (T_ret ?_))))))
  exact endR [(.d (.int .i64 (left - ((x.name.length : Nat) : Int))))] [] [] (.cons (.tmp 4 rfl) .nil) (.cons (.any _) (.cons (.any _) .nil)) (Exp.of (congrArg (D.int .i64) (by show _ = szR (x.name.length) left; omega)) (.d _)) rfl rfl

theorem sp_laws_szSignalS (xs : List (Sgn)) (left : Int) (h0 : 0 ≤ left) (h0u : left ≤ 1048576) (hn : xs.length ≤ 9223372036854775807) (hx : ∀ y ∈ xs, Sgn.wide y) : Sp Tryz.prog 66 [(.slice false 2 (xs.map Sgn.d)), (.int .i64 left)] [.any, .any] (.int .i64 (szR (bulkF Sgn.bulk xs) left)) := by
 refine Sp_intro (lend := true) Tryz.func66 rfl rfl rfl (fun _ => rfl) (fun c hc hX => ?_)
 refine T_seq (T_region hc (Ch.s (.d (.int .i64 0)) pa (Ch.nil (T_seq (T_region hc (Ch.s (.d (.int .i64 left)) pm (Ch.s (.d (.slice false 2 (xs.map Sgn.d))) pm ?_)))))))
 refine Ch.s (.d (.int .i64 ((xs.length : Nat) : Int))) (.pure (.len _ _ 151 rfl Tryz.underlying22 (.sh _ _) (by simp))) (Ch.s (.d (.int .i64 (left - ((xs.length : Nat) : Int)))) (.pure (.int _ _ _ _ _ rfl rfl rfl intV_subA)) (Ch.s (.d (.int .i64 (left - ((xs.length : Nat) : Int)))) pa (Ch.nil (T_seq (T_seq (T_region hc (Ch.s (.d (.int .i64 (left - ((xs.length : Nat) : Int)))) pm ?_)))))))
 refine Ch.s (.d (.bool (decide ((left - ((xs.length : Nat) : Int)) < 0)))) (.pure (.int _ _ _ _ _ rfl rfl rfl rfl)) (Ch.nil ?_)
 refine T_cond (b := (decide ((left - ((xs.length : Nat) : Int)) < 0))) rfl (fun h1 => ?_) (fun h1 => ?_)
 ·
  replace h1 := of_decide_eq_true h1
  refine T_seq (T_region hc (Ch.s (.d (.int .i64 (-1))) pa (Ch.nil (T_ret ?_))))
  exact endR [(.d (.int .i64 (-1)))] [] [] (.cons (.tmp 4 rfl) .nil) (.cons (.any _) (.cons (.any _) .nil)) (Exp.of (congrArg (D.int .i64) (by first | (have hal := sumF_all Sgn.bulk (xs := xs) (k := k) (by omega); rw [szR, bulkF]; split <;> omega) | (rw [szR, bulkF]; split <;> omega))) (.d _)) rfl rfl
 ·
  replace h1 := of_decide_eq_false h1
  refine T_skip (T_seq (T_seq (T_region hc (Ch.s (.d (.int .i64 0)) pa (Ch.nil (T_block ?_))))))
  refine T_loop (ι := Nat) (fun k => { n := 27, sl := [(0, (.d (.slice false 2 (xs.map Sgn.d)))), (1, (.d (.int .i64 (left - xs.length - sumF Sgn.bulk xs k)))), (5, (.d (.int .i64 ((k : Nat) : Int))))], hp := [], pin := [] }) (fun k => k ≤ xs.length ∧ 0 ≤ left - xs.length - sumF Sgn.bulk xs k) (fun k => xs.length - k) ⟨0, ⟨by omega, by rw [sumF_zero]; omega⟩, (Wk.of rfl rfl (ai rfl (ai (vI (by first | (rw [sumF_zero]; omega) | (rw [sumF_succ _ (by omega)]; omega))) (ai (vI (by first | rfl | omega | (simp; done) | (simp; omega))) trivial))) trivial)⟩ (fun k hp0 => ?_)
  have hsl := sumF_le Sgn.bulk xs k; have hsc := szR_cases (Sgn.bulk (xs.getD k default)) (left - xs.length - sumF Sgn.bulk xs k)
  refine T_seq (T_seq (T_region hc (Ch.s (.d (.int .i64 ((k : Nat) : Int))) pm (Ch.s (.d (.slice false 2 (xs.map Sgn.d))) pm (Ch.s (.d (.int .i64 ((xs.length : Nat) : Int))) (.pure (.len _ _ 151 rfl Tryz.underlying22 (.sh _ _) (by simp))) (Ch.s (.d (.bool (decide (((k : Nat) : Int) < ((xs.length : Nat) : Int))))) (.pure (.int _ _ _ _ _ rfl rfl rfl rfl)) (Ch.nil ?_)))))))
  refine T_cond (b := (decide (((k : Nat) : Int) < ((xs.length : Nat) : Int)))) rfl (fun h2 => ?_) (fun h2 => ?_)
  ·
   replace h2 := of_decide_eq_true h2
   try have hk := hx _ (getD_mem (l := xs) (j := k) (d := default) (by omega))
   try have hs1 := sumF_succ Sgn.bulk (xs := xs) (k := k) (by omega)
   try have hs2 := sumF_le Sgn.bulk xs (k + 1)
   refine T_skip (T_seq (T_block (T_seq (T_region hc (Ch.s (.d (.slice false 2 (xs.map Sgn.d))) pm (Ch.s (.d (.int .i64 ((k : Nat) : Int))) pm (Ch.s (.d (.ref (.agg [(.str ((xs.getD k default).name)), (.int .i64 ((xs.getD k default).kind))]))) (.pure (.idx _ _ _ 151 (k) rfl Tryz.underlying22 sz151 rfl rfl rfl get_mapA)) ?_)))))))
   refine Ch.s (.d (.agg [(.str ((xs.getD k default).name)), (.int .i64 ((xs.getD k default).kind))])) (.pure (.loadRefA _ _ rfl ag151 sz151 rfl)) (Ch.s (.d (.int .i64 (left - xs.length - sumF Sgn.bulk xs k))) pm (Ch.s (.d (.int .i64 (szR (xs.getD k default).bulk (left - xs.length - sumF Sgn.bulk xs k)))) (.call 23000 133 _ _ _ en133 rfl (.inl rfl) (.cons (.d _) (.cons (.d _) .nil)) rfl rfl (sp_laws_szSignal (xs.getD k default) (left - xs.length - sumF Sgn.bulk xs k) (by first | omega | assumption | (exact hx _ (getD_mem (by omega))) | (exact hx _ (by assumption)) | (exact Nat.le_trans (hx _ (by assumption)) (by omega)) | (simp only [List.length_append, List.length_take, List.length_drop, List.length_cons, List.length_nil]; omega) | (simp_all; done)) (by first | omega | assumption | (exact hx _ (getD_mem (by omega))) | (exact hx _ (by assumption)) | (exact Nat.le_trans (hx _ (by assumption)) (by omega)) | (simp only [List.length_append, List.length_take, List.length_drop, List.length_cons, List.length_nil]; omega) | (simp_all; done)) (by first | assumption | omega | trivial | (simp_all; done) | (exact fun _ _ => trivial) | (exact hx _ (by assumption)) | (refine ⟨?_, ?_⟩ <;> first | assumption | omega))) (.skip _ _ (.skip _ _ .nil)) rfl) (Ch.s (.d (.int .i64 (szR (xs.getD k default).bulk (left - xs.length - sumF Sgn.bulk xs k)))) pa (Ch.nil (T_seq (T_region hc (Ch.s (.d (.int .i64 (szR (xs.getD k default).bulk (left - xs.length - sumF Sgn.bulk xs k)))) pm ?_)))))))
   refine Ch.s (.d (.bool (decide ((szR (xs.getD k default).bulk (left - xs.length - sumF Sgn.bulk xs k)) < 0)))) (.pure (.int _ _ _ _ _ rfl rfl rfl rfl)) (Ch.nil ?_)
   refine T_cond (b := (decide ((szR (xs.getD k default).bulk (left - xs.length - sumF Sgn.bulk xs k)) < 0))) rfl (fun h3 => ?_) (fun h3 => ?_)
   ·
    replace h3 := of_decide_eq_true h3
    refine T_seq (T_region hc (Ch.s (.d (.int .i64 (-1))) pa (Ch.nil (T_ret ?_))))
    exact endR [(.d (.int .i64 (-1)))] [] [] (.cons (.tmp 4 rfl) .nil) (.cons (.any _) (.cons (.any _) .nil)) (Exp.of (congrArg (D.int .i64) (by first | (have hal := sumF_all Sgn.bulk (xs := xs) (k := k) (by omega); rw [szR, bulkF]; split <;> omega) | (rw [szR, bulkF]; split <;> omega))) (.d _)) rfl rfl
   ·
    replace h3 := of_decide_eq_false h3
    refine T_skip (T_region hc (Ch.s (.d (.int .i64 ((k : Nat) : Int))) pm (Ch.s (.d (.int .i64 (((k : Nat) : Int) + 1))) (.pure (.int _ _ _ _ _ rfl rfl rfl intV_addA)) (Ch.s (.d (.int .i64 (((k : Nat) : Int) + 1))) pa (Ch.nil ?_)))))
    exact nx (k + 1) ⟨by omega, by rw [sumF_succ _ (by omega)]; omega⟩ (Wk.of rfl rfl (ai rfl (ai (vI (by first | (rw [sumF_zero]; omega) | (rw [sumF_succ _ (by omega)]; omega))) (ai (vI (by first | rfl | omega | (simp; done) | (simp; omega))) trivial))) trivial)
  ·
   replace h2 := of_decide_eq_false h2
   try have hk := hx _ (getD_mem (l := xs) (j := k) (d := default) (by omega))
   try have hs1 := sumF_succ Sgn.bulk (xs := xs) (k := k) (by omega)
   try have hs2 := sumF_le Sgn.bulk xs (k + 1)
   refine T_exit (T_seq (T_region hc (Ch.s (.d (.int .i64 (left - xs.length - sumF Sgn.bulk xs k))) pm (Ch.s (.d (.int .i64 (left - xs.length - sumF Sgn.bulk xs k))) pa (Ch.nil (T_ret ?_))))))
   exact endR [(.d (.int .i64 (left - xs.length - sumF Sgn.bulk xs k)))] [] [] (.cons (.tmp 4 rfl) .nil) (.cons (.any _) (.cons (.any _) .nil)) (Exp.of (congrArg (D.int .i64) (by first | (have hal := sumF_all Sgn.bulk (xs := xs) (k := k) (by omega); rw [szR, bulkF]; split <;> omega) | (rw [szR, bulkF]; split <;> omega))) (.d _)) rfl rfl

theorem sp_laws_toSignal (x : Sgn) (hb : x.bulk ≤ 1048576) : Sp Tryz.prog 137 [(.agg [(.str x.name), (.int .i64 x.kind)])] [.any] (.agg [(.str x.name), (.int .i64 x.kind)]) := by
 refine Sp_intro (lend := true) Tryz.func137 rfl rfl rfl (fun _ => rfl) (fun c hc hX => ?_)
 have hp0 := Sgn.parts hb
 refine T_seq (T_region hc (Ch.s (.ptr 1000 0) (.box 1000 _ _ rfl (.aggD _)) (Ch.s (.ptr 2000 0) (.alloc 2000 _ rfl zer154) (Ch.nil (T_seq (T_region hc (Ch.s (.ptr 3000 0) (.alloc 3000 _ rfl zer154) ?_)))))))
 refine Ch.nil (T_seq (T_region hc (Ch.s (.ptr 1000 0) (.pure (.fldPtr _ _ _ rfl fld151_0 rfl)) (Ch.s (.d (.str x.name)) (.pure (.loadPtr1 _ _ rfl ag9 rfl rfl rfl)) (Ch.s (.ptr 3000 0) (.pure (.fldPtr _ _ _ rfl fld154_0 rfl)) (Ch.s .junk (.storePtr _ _ _ rfl rfl rfl (.one _ rfl) sz9 (Nat.le_of_ble_eq_true rfl)) (Ch.nil ?_)))))))
 refine T_seq (T_region hc (Ch.s (.ptr 1000 1) (.pure (.fldPtr _ _ _ rfl fld151_1 rfl)) (Ch.s (.d (.int .i64 x.kind)) (.pure (.loadPtr1 _ _ rfl ag3 rfl rfl rfl)) (Ch.s (.ptr 3000 1) (.pure (.fldPtr _ _ _ rfl fld154_1 rfl)) (Ch.s .junk (.storePtr _ _ _ rfl rfl rfl (.one _ rfl) sz3 (Nat.le_of_ble_eq_true rfl)) (Ch.nil (T_seq ?_)))))))
 refine T_region hc (Ch.s (.agg [(.d (.str x.name)), (.d (.int .i64 x.kind))]) (.pure (.loadPtrA _ _ rfl ag154 sz154 rfl rfl (Nat.le_of_ble_eq_true rfl) rfl)) (Ch.s .junk (.storePtr _ _ _ rfl rfl rfl (.agg _ rfl) sz154 (Nat.le_of_ble_eq_true rfl)) (Ch.nil (T_ret ?_))))
 exact endR [(.agg [(.d (.str x.name)), (.d (.int .i64 x.kind))])] [] [] (.cons (.cellA _ _ rfl rfl ag154 sz154) .nil) (.cons (.any _) .nil) (.agg (.cons (.d _) (.cons (.d _) .nil)) rfl) rfl rfl

theorem sp_laws_toSignalS (xs : List (Sgn)) (hb : bulkF Sgn.bulk xs ≤ 1048576) : Sp Tryz.prog 70 [(.slice false 2 (xs.map Sgn.d))] [.any] (.slice true 2 (xs.map Sgn.d)) := by
 refine Sp_intro (lend := true) Tryz.func70 rfl rfl rfl (fun _ => rfl) (fun c hc hX => ?_)
 have hn := bulkF_len hb
 refine T_seq (T_region hc (Ch.s (.c (.slice none 0 0)) pa (Ch.nil (T_seq (T_region hc (Ch.s (.d (.slice false 2 (xs.map Sgn.d))) pm (Ch.s (.d (.int .i64 ((xs.length : Nat) : Int))) (.pure (.len _ _ 151 rfl Tryz.underlying22 (.sh _ _) (by simp))) ?_)))))))
 refine Ch.s (.row 7000) (.make 7000 _ 154 _ _ (xs.length) (xs.length) rfl sty32 rfl rfl rfl rfl (by first | omega | (simp only [List.length_map, List.length_append, List.length_take, List.length_drop, List.length_cons, List.length_nil]; omega) | (simp; omega) | (simp; done)) (by first | omega | (simp only [List.length_map, List.length_append, List.length_take, List.length_drop, List.length_cons, List.length_nil]; omega) | (simp; omega) | (simp; done)) (by first | omega | (simp only [List.length_map, List.length_append, List.length_take, List.length_drop, List.length_cons, List.length_nil]; omega) | (simp; omega) | (simp; done)) (zeroD_mk (zd := (.agg [(.str []), (.int .i64 0)])) zr154 (by intro S w; exact dr_agg rfl (drs_cons dr_str0 (drs_cons dr_int drs_nil))) rfl)) (Ch.s (.row 7000) pa (Ch.nil (T_seq (T_seq (T_region hc (Ch.s (.d (.int .i64 0)) pa (Ch.nil ?_)))))))
 refine T_block ?_
 refine T_loop (ι := Nat) (fun k => { n := 23, sl := [(0, (.d (.slice false 2 (xs.map Sgn.d)))), (3, (.row 3)), (4, (.d (.int .i64 ((k : Nat) : Int))))], hp := [(3, (some (.row 2 ((fill xs default k).map Sgn.d))))], pin := [] }) (fun k => k ≤ xs.length) (fun k => xs.length - k) ⟨0, (by omega), (Wk.ren [(3, 7000)] rfl rfl rfl rfl (ai rfl (ai rfl (ai (vI (by first | rfl | omega | (simp; done) | (simp; omega))) trivial))) (ai (oR (by first | (rw [fill_zero, List.map_replicate]; rfl) | (rw [← fill_set xs default default (by omega), List.map_set]; rfl))) trivial))⟩ (fun k hp0 => ?_)
 refine T_seq (T_seq (T_region hc (Ch.s (.d (.int .i64 ((k : Nat) : Int))) pm (Ch.s (.d (.slice false 2 (xs.map Sgn.d))) pm (Ch.s (.d (.int .i64 ((xs.length : Nat) : Int))) (.pure (.len _ _ 151 rfl Tryz.underlying22 (.sh _ _) (by simp))) (Ch.s (.d (.bool (decide (((k : Nat) : Int) < ((xs.length : Nat) : Int))))) (.pure (.int _ _ _ _ _ rfl rfl rfl rfl)) (Ch.nil ?_)))))))
 refine T_cond (b := (decide (((k : Nat) : Int) < ((xs.length : Nat) : Int)))) rfl (fun h1 => ?_) (fun h1 => ?_)
 ·
  replace h1 := of_decide_eq_true h1
  try have hk := bulkF_mem hb _ (getD_mem (l := xs) (j := k) (d := default) (by omega))
  refine T_skip (T_seq (T_block (T_region hc (Ch.s (.row 3) pm (Ch.s (.d (.int .i64 ((k : Nat) : Int))) pm (Ch.s (.d (.slice false 2 (xs.map Sgn.d))) pm (Ch.s (.d (.int .i64 ((k : Nat) : Int))) pm ?_)))))))
  refine Ch.s (.d (.ref (.agg [(.str ((xs.getD k default).name)), (.int .i64 ((xs.getD k default).kind))]))) (.pure (.idx _ _ _ 151 (k) rfl Tryz.underlying22 sz151 rfl rfl rfl get_mapA)) (Ch.s (.d (.agg [(.str ((xs.getD k default).name)), (.int .i64 ((xs.getD k default).kind))])) (.pure (.loadRefA _ _ rfl ag151 sz151 rfl)) (Ch.s (.d (.agg [(.str ((xs.getD k default).name)), (.int .i64 ((xs.getD k default).kind))])) (.call 20000 137 _ _ _ en137 rfl (.inl rfl) (.cons (.d _) .nil) rfl rfl (sp_laws_toSignal (xs.getD k default) (by first | assumption | omega | (rw [List.length_take]; omega) | (have := bulkF_mem hb _ (getD_mem (d := default) (by omega)); assumption) | (unfold bulkS at *; omega) | (simp_all; done))) (.skip _ _ .nil) rfl) (Ch.s (.el 3 2 k 0) (.pure (.idxRow _ _ _ 154 (k) rfl Tryz.underlying32 sz154 rfl rfl rfl rfl (by first | omega | (simp only [List.length_map, List.length_set]; omega) | (simp; omega)))) (Ch.s .junk (.storeEl (y' := (.agg [(.str ((xs.getD k default).name)), (.int .i64 ((xs.getD k default).kind))])) _ _ _ rfl rfl rfl (.d _) rfl sz154 rfl get_mapA rfl rfl) (Ch.nil (T_region hc (Ch.s (.d (.int .i64 ((k : Nat) : Int))) pm ?_)))))))
  refine Ch.s (.d (.int .i64 (((k : Nat) : Int) + 1))) (.pure (.int _ _ _ _ _ rfl rfl rfl intV_addA)) (Ch.s (.d (.int .i64 (((k : Nat) : Int) + 1))) pa (Ch.nil ?_))
  exact nx (k + 1) (by omega) (Wk.of rfl rfl (ai rfl (ai rfl (ai (vI (by first | rfl | omega | (simp; done) | (simp; omega))) trivial))) (ai (oR (by first | (rw [fill_zero, List.map_replicate]; rfl) | (rw [← fill_set xs default default (by omega), List.map_set]; rfl))) trivial))
 ·
  replace h1 := of_decide_eq_false h1
  try have hk := bulkF_mem hb _ (getD_mem (l := xs) (j := k) (d := default) (by omega))
  refine T_exit (T_seq (T_region hc (Ch.s (.row 3) pm (Ch.s (.row 3) pa (Ch.nil (T_ret ?_))))))
  exact endR [(.row 3)] [] [3] (.cons (.tmp 2 rfl) .nil) (.cons (.any _) .nil) (Exp.of (congrArg (D.slice true 2) (by rw [fill_all xs default (by omega)])) (.row rfl)) rfl rfl

theorem sp_laws_eqSignal (x y : Sgn) (hb : x.bulk ≤ 1048576) : Sp Tryz.prog 144 [(.agg [(.str x.name), (.int .i64 x.kind)]), (.agg [(.str y.name), (.int .i64 y.kind)])] [.any, .any] (.bool (decide (x = y))) := by
 refine Sp_intro (lend := true) Tryz.func144 rfl rfl rfl (fun _ => rfl) (fun c hc hX => ?_)
 have hp0 := Sgn.parts hb
 refine T_seq (T_region hc (Ch.s (.ptr 2000 0) (.box 2000 _ _ rfl (.aggD _)) (Ch.s (.ptr 3000 0) (.box 3000 _ _ rfl (.aggD _)) (Ch.s (.d (.bool false)) pa (Ch.nil (T_seq (T_seq ?_)))))))
 refine T_region hc (Ch.s (.ptr 2000 0) (.pure (.fldPtr _ _ _ rfl fld154_0 rfl)) (Ch.s (.d (.str x.name)) (.pure (.loadPtr1 _ _ rfl ag9 rfl rfl rfl)) (Ch.s (.ptr 3000 0) (.pure (.fldPtr _ _ _ rfl fld154_0 rfl)) (Ch.s (.d (.str y.name)) (.pure (.loadPtr1 _ _ rfl ag9 rfl rfl rfl)) (Ch.s (.d (.bool (!(decide (x.name = y.name))))) (.pure (.str _ _ _ _ _ rfl rfl rfl rfl)) (Ch.nil ?_))))))
 refine T_cond (b := (!(decide (x.name = y.name)))) rfl (fun h1 => ?_) (fun h1 => ?_)
 ·
  replace h1 := nott h1
  replace h1 := of_decide_eq_false h1
  refine T_seq (T_region hc (Ch.s (.d (.bool false)) pa (Ch.nil (T_ret ?_))))
  exact endR [(.d (.bool false))] [] [] (.cons (.tmp 4 rfl) .nil) (.cons (.any _) (.cons (.any _) .nil)) (Exp.of (congrArg D.bool (by cases x; cases y; simp_all)) (.d _)) rfl rfl
 ·
  replace h1 := notf h1
  replace h1 := of_decide_eq_true h1
  refine T_skip (T_seq (T_seq (T_region hc (Ch.s (.ptr 2000 1) (.pure (.fldPtr _ _ _ rfl fld154_1 rfl)) (Ch.s (.d (.int .i64 x.kind)) (.pure (.loadPtr1 _ _ rfl ag3 rfl rfl rfl)) (Ch.s (.ptr 3000 1) (.pure (.fldPtr _ _ _ rfl fld154_1 rfl)) (Ch.s (.d (.int .i64 y.kind)) (.pure (.loadPtr1 _ _ rfl ag3 rfl rfl rfl)) ?_)))))))
  refine Ch.s (.d (.bool (!(decide (x.kind = y.kind))))) (.pure (.int _ _ _ _ _ rfl rfl rfl rfl)) (Ch.nil ?_)
  refine T_cond (b := (!(decide (x.kind = y.kind)))) rfl (fun h2 => ?_) (fun h2 => ?_)
  ·
   replace h2 := nott h2
   replace h2 := of_decide_eq_false h2
   refine T_seq (T_region hc (Ch.s (.d (.bool false)) pa (Ch.nil (T_ret ?_))))
   exact endR [(.d (.bool false))] [] [] (.cons (.tmp 4 rfl) .nil) (.cons (.any _) (.cons (.any _) .nil)) (Exp.of (congrArg D.bool (by cases x; cases y; simp_all)) (.d _)) rfl rfl
  ·
   replace h2 := notf h2
   replace h2 := of_decide_eq_true h2
   refine T_skip (T_seq (T_region hc (Ch.s (.d (.bool true)) pa (Ch.nil (T_ret ?_)))))
   exact endR [(.d (.bool true))] [] [] (.cons (.tmp 4 rfl) .nil) (.cons (.any _) (.cons (.any _) .nil)) (Exp.of (congrArg D.bool (by cases x; cases y; simp_all)) (.d _)) rfl rfl

theorem sp_laws_eqSignalS (xs ys : List (Sgn)) (hb : bulkF Sgn.bulk xs ≤ 1048576) : Sp Tryz.prog 74 [(.slice false 2 (xs.map Sgn.d)), (.slice false 2 (ys.map Sgn.d))] [.any, .any] (.bool (decide (xs = ys))) := by
 refine Sp_intro (lend := true) Tryz.func74 rfl rfl rfl (fun _ => rfl) (fun c hc hX => ?_)
 have hn := bulkF_len hb
 refine T_seq (T_region hc (Ch.s (.d (.bool false)) pa (Ch.nil (T_seq (T_seq (T_region hc (Ch.s (.d (.slice false 2 (xs.map Sgn.d))) pm ?_)))))))
 refine Ch.s (.d (.int .i64 ((xs.length : Nat) : Int))) (.pure (.len _ _ 154 rfl Tryz.underlying32 (.sh _ _) (by simp))) (Ch.s (.d (.slice false 2 (ys.map Sgn.d))) pm (Ch.s (.d (.int .i64 ((ys.length : Nat) : Int))) (.pure (.len _ _ 154 rfl Tryz.underlying32 (.sh _ _) (by simp))) (Ch.s (.d (.bool (!(decide (((xs.length : Nat) : Int) = ((ys.length : Nat) : Int)))))) (.pure (.int _ _ _ _ _ rfl rfl rfl rfl)) (Ch.nil ?_))))
 refine T_cond (b := (!(decide (((xs.length : Nat) : Int) = ((ys.length : Nat) : Int))))) rfl (fun h1 => ?_) (fun h1 => ?_)
 ·
  replace h1 := nott h1
  replace h1 := of_decide_eq_false h1
  refine T_seq (T_region hc (Ch.s (.d (.bool false)) pa (Ch.nil (T_ret ?_))))
  exact endR [(.d (.bool false))] [] [] (.cons (.tmp 4 rfl) .nil) (.cons (.any _) (.cons (.any _) .nil)) (Exp.of (congrArg D.bool (by exact eqL_len (by omega))) (.d _)) rfl rfl
 ·
  replace h1 := notf h1
  replace h1 := of_decide_eq_true h1
  refine T_skip (T_seq (T_seq (T_region hc (Ch.s (.d (.int .i64 0)) pa (Ch.nil (T_block ?_))))))
  refine T_loop (ι := Nat) (fun k => { n := 27, sl := [(0, (.d (.slice false 2 (xs.map Sgn.d)))), (1, (.d (.slice false 2 (ys.map Sgn.d)))), (5, (.d (.int .i64 ((k : Nat) : Int))))], hp := [], pin := [] }) (fun k => k ≤ xs.length ∧ ∀ j, j < k → xs.getD j default = ys.getD j default) (fun k => xs.length - k) ⟨0, ⟨by omega, fun j hj => by omega⟩, (Wk.of rfl rfl (ai rfl (ai rfl (ai (vI (by first | rfl | omega | (simp; done) | (simp; omega))) trivial))) trivial)⟩ (fun k hp0 => ?_)
  refine T_seq (T_seq (T_region hc (Ch.s (.d (.int .i64 ((k : Nat) : Int))) pm (Ch.s (.d (.slice false 2 (xs.map Sgn.d))) pm (Ch.s (.d (.int .i64 ((xs.length : Nat) : Int))) (.pure (.len _ _ 154 rfl Tryz.underlying32 (.sh _ _) (by simp))) (Ch.s (.d (.bool (decide (((k : Nat) : Int) < ((xs.length : Nat) : Int))))) (.pure (.int _ _ _ _ _ rfl rfl rfl rfl)) (Ch.nil ?_)))))))
  refine T_cond (b := (decide (((k : Nat) : Int) < ((xs.length : Nat) : Int)))) rfl (fun h2 => ?_) (fun h2 => ?_)
  ·
   replace h2 := of_decide_eq_true h2
   try have hk := bulkF_mem hb _ (getD_mem (l := xs) (j := k) (d := default) (by omega))
   refine T_skip (T_seq (T_block (T_seq ?_)))
   refine T_regionD hc (by kernel_rfl) ?_
   refine ChD.s (.d (.slice false 2 (xs.map Sgn.d))) [] pm (ChD.s (.d (.int .i64 ((k : Nat) : Int))) [] pm (ChD.s (.d (.ref (.agg [(.str ((xs.getD k default).name)), (.int .i64 ((xs.getD k default).kind))]))) [] (.pure (.idx _ _ _ 154 (k) rfl Tryz.underlying32 sz154 rfl rfl rfl get_mapA)) (ChD.s (.d (.agg [(.str ((xs.getD k default).name)), (.int .i64 ((xs.getD k default).kind))])) [] (.pure (.loadRefA _ _ rfl ag154 sz154 rfl)) (ChD.s (.d (.slice false 2 (ys.map Sgn.d))) [] pm (ChD.s (.d (.int .i64 ((k : Nat) : Int))) [] pm (ChD.s (.d (.ref (.agg [(.str ((ys.getD k default).name)), (.int .i64 ((ys.getD k default).kind))]))) [] (.pure (.idx _ _ _ 154 (k) rfl Tryz.underlying32 sz154 rfl rfl rfl get_mapA)) (ChD.s (.d (.agg [(.str ((ys.getD k default).name)), (.int .i64 ((ys.getD k default).kind))])) [] (.pure (.loadRefA _ _ rfl ag154 sz154 rfl)) ?_)))))))
   refine ChD.s (.d (.bool (decide ((xs.getD k default) = (ys.getD k default))))) [] (.call 25000 144 _ _ _ en144 rfl (.inl rfl) (.cons (.d _) (.cons (.d _) .nil)) rfl rfl (sp_laws_eqSignal (xs.getD k default) (ys.getD k default) (by first | assumption | omega | (rw [List.length_take]; omega) | (have := bulkF_mem hb _ (getD_mem (d := default) (by omega)); assumption) | (unfold bulkS at *; omega) | (simp_all; done))) (.skip _ _ (.skip _ _ .nil)) rfl) (ChD.s (.d (.bool (!(decide ((xs.getD k default) = (ys.getD k default)))))) [] (.pure (.not _ _ rfl rfl)) ?_)
   refine ChD.nil (And.intro ?_ (by kernel_rfl))
   refine T_cond (b := (!(decide ((xs.getD k default) = (ys.getD k default))))) rfl (fun h3 => ?_) (fun h3 => ?_)
   ·
    replace h3 := nott h3
    replace h3 := of_decide_eq_false h3
    refine T_seq (T_region hc (Ch.s (.d (.bool false)) pa (Ch.nil (T_ret ?_))))
    exact endR [(.d (.bool false))] [] [] (.cons (.tmp 4 rfl) .nil) (.cons (.any _) (.cons (.any _) .nil)) (Exp.of (congrArg D.bool (by exact eqL_at default k (by assumption))) (.d _)) rfl rfl
   ·
    replace h3 := notf h3
    replace h3 := of_decide_eq_true h3
    refine T_skip (T_region hc (Ch.s (.d (.int .i64 ((k : Nat) : Int))) pm (Ch.s (.d (.int .i64 (((k : Nat) : Int) + 1))) (.pure (.int _ _ _ _ _ rfl rfl rfl intV_addA)) (Ch.s (.d (.int .i64 (((k : Nat) : Int) + 1))) pa (Ch.nil ?_)))))
    exact nx (k + 1) ⟨by omega, upto_succ hp0.2 (by assumption)⟩ (Wk.of rfl rfl (ai rfl (ai rfl (ai (vI (by first | rfl | omega | (simp; done) | (simp; omega))) trivial))) trivial)
  ·
   replace h2 := of_decide_eq_false h2
   try have hk := bulkF_mem hb _ (getD_mem (l := xs) (j := k) (d := default) (by omega))
   refine T_exit (T_seq (T_region hc (Ch.s (.d (.bool true)) pa (Ch.nil (T_ret ?_)))))
   exact endR [(.d (.bool true))] [] [] (.cons (.tmp 4 rfl) .nil) (.cons (.any _) (.cons (.any _) .nil)) (Exp.of (congrArg D.bool (by exact eqL_all default (by omega) (fun j hj => hp0.2 j (by omega)))) (.d _)) rfl rfl

theorem sp_laws_szArcS (xs : List (Arc)) (left : Int) (h0 : 0 ≤ left) (h0u : left ≤ 1048576) (hn : xs.length ≤ 9223372036854775807) (hx : ∀ y ∈ xs, Arc.wide y) : Sp Tryz.prog 68 [(.slice false 4 (xs.map Arc.d)), (.int .i64 left)] [.any, .any] (.int .i64 (szR (bulkF Arc.bulk xs) left)) := by
 refine Sp_intro (lend := true) Tryz.func68 rfl rfl rfl (fun _ => rfl) (fun c hc hX => ?_)
 have hz : (xs.map Arc.bulk).sum = 0 := sum_zero (fun _ => rfl) xs
 refine T_seq (T_region hc (Ch.s (.d (.int .i64 0)) pa (Ch.nil (T_seq (T_region hc (Ch.s (.d (.int .i64 left)) pm (Ch.s (.d (.slice false 4 (xs.map Arc.d))) pm ?_)))))))
 refine Ch.s (.d (.int .i64 ((xs.length : Nat) : Int))) (.pure (.len _ _ 157 rfl Tryz.underlying24 (.sh _ _) (by simp))) (Ch.s (.d (.int .i64 (left - ((xs.length : Nat) : Int)))) (.pure (.int _ _ _ _ _ rfl rfl rfl intV_subA)) (Ch.s (.d (.int .i64 (left - ((xs.length : Nat) : Int)))) pa (Ch.nil (T_seq (T_seq (T_region hc (Ch.s (.d (.int .i64 (left - ((xs.length : Nat) : Int)))) pm ?_)))))))
 refine Ch.s (.d (.bool (decide ((left - ((xs.length : Nat) : Int)) < 0)))) (.pure (.int _ _ _ _ _ rfl rfl rfl rfl)) (Ch.nil ?_)
 refine T_cond (b := (decide ((left - ((xs.length : Nat) : Int)) < 0))) rfl (fun h1 => ?_) (fun h1 => ?_)
 ·
  replace h1 := of_decide_eq_true h1
  refine T_seq (T_region hc (Ch.s (.d (.int .i64 (-1))) pa (Ch.nil (T_ret ?_))))
  exact endR [(.d (.int .i64 (-1)))] [] [] (.cons (.tmp 4 rfl) .nil) (.cons (.any _) (.cons (.any _) .nil)) (Exp.of (congrArg (D.int .i64) (by rw [szR, bulkF, hz]; split <;> omega)) (.d _)) rfl rfl
 ·
  replace h1 := of_decide_eq_false h1
  refine T_skip (T_seq (T_region hc (Ch.s (.d (.int .i64 (left - ((xs.length : Nat) : Int)))) pm (Ch.s (.d (.int .i64 (left - ((xs.length : Nat) : Int)))) pa (Ch.nil (T_ret ?_))))))
  exact endR [(.d (.int .i64 (left - ((xs.length : Nat) : Int))))] [] [] (.cons (.tmp 4 rfl) .nil) (.cons (.any _) (.cons (.any _) .nil)) (Exp.of (congrArg (D.int .i64) (by rw [szR, bulkF, hz]; split <;> omega)) (.d _)) rfl rfl

theorem sp_laws_toArc (x : Arc) (hb : x.bulk ≤ 1048576) : Sp Tryz.prog 138 [(.agg [(.int .i64 x.src), (.int .i64 x.sig), (.bool (x.up)), (.int .i64 x.dst)])] [.any] (.agg [(.int .i64 x.src), (.int .i64 x.sig), (.bool (x.up)), (.int .i64 x.dst)]) := by
 refine Sp_intro (lend := true) Tryz.func138 rfl rfl rfl (fun _ => rfl) (fun c hc hX => ?_)
 refine T_seq (T_region hc (Ch.s (.ptr 1000 0) (.box 1000 _ _ rfl (.aggD _)) (Ch.s (.ptr 2000 0) (.alloc 2000 _ rfl zer125) (Ch.nil (T_seq (T_region hc (Ch.s (.ptr 3000 0) (.alloc 3000 _ rfl zer125) ?_)))))))
 refine Ch.nil (T_seq (T_region hc (Ch.s (.ptr 1000 0) (.pure (.fldPtr _ _ _ rfl fld157_0 rfl)) (Ch.s (.d (.int .i64 x.src)) (.pure (.loadPtr1 _ _ rfl ag3 rfl rfl rfl)) (Ch.s (.ptr 3000 0) (.pure (.fldPtr _ _ _ rfl fld125_0 rfl)) (Ch.s .junk (.storePtr _ _ _ rfl rfl rfl (.one _ rfl) sz3 (Nat.le_of_ble_eq_true rfl)) (Ch.nil ?_)))))))
 refine T_seq (T_region hc (Ch.s (.ptr 1000 1) (.pure (.fldPtr _ _ _ rfl fld157_1 rfl)) (Ch.s (.d (.int .i64 x.sig)) (.pure (.loadPtr1 _ _ rfl ag3 rfl rfl rfl)) (Ch.s (.ptr 3000 1) (.pure (.fldPtr _ _ _ rfl fld125_1 rfl)) (Ch.s .junk (.storePtr _ _ _ rfl rfl rfl (.one _ rfl) sz3 (Nat.le_of_ble_eq_true rfl)) (Ch.nil (T_seq ?_)))))))
 refine T_region hc (Ch.s (.ptr 1000 2) (.pure (.fldPtr _ _ _ rfl fld157_2 rfl)) (Ch.s (.d (.bool (x.up))) (.pure (.loadPtr1 _ _ rfl ag4 rfl rfl rfl)) (Ch.s (.ptr 3000 2) (.pure (.fldPtr _ _ _ rfl fld125_2 rfl)) (Ch.s .junk (.storePtr _ _ _ rfl rfl rfl (.one _ rfl) sz4 (Nat.le_of_ble_eq_true rfl)) (Ch.nil (T_seq (T_region hc ?_)))))))
 refine Ch.s (.ptr 1000 3) (.pure (.fldPtr _ _ _ rfl fld157_3 rfl)) (Ch.s (.d (.int .i64 x.dst)) (.pure (.loadPtr1 _ _ rfl ag3 rfl rfl rfl)) (Ch.s (.ptr 3000 3) (.pure (.fldPtr _ _ _ rfl fld125_3 rfl)) (Ch.s .junk (.storePtr _ _ _ rfl rfl rfl (.one _ rfl) sz3 (Nat.le_of_ble_eq_true rfl)) (Ch.nil (T_seq (T_region hc (Ch.s (.agg [(.d (.int .i64 x.src)), (.d (.int .i64 x.sig)), (.d (.bool (x.up))), (.d (.int .i64 x.dst))]) (.pure (.loadPtrA _ _ rfl ag125 sz125 rfl rfl (Nat.le_of_ble_eq_true rfl) rfl)) ?_)))))))
 refine Ch.s .junk (.storePtr _ _ _ rfl rfl rfl (.agg _ rfl) sz125 (Nat.le_of_ble_eq_true rfl)) (Ch.nil (T_ret ?_))
 exact endR [(.agg [(.d (.int .i64 x.src)), (.d (.int .i64 x.sig)), (.d (.bool (x.up))), (.d (.int .i64 x.dst))])] [] [] (.cons (.cellA _ _ rfl rfl ag125 sz125) .nil) (.cons (.any _) .nil) (.agg (.cons (.d _) (.cons (.d _) (.cons (.d _) (.cons (.d _) .nil)))) rfl) rfl rfl

theorem sp_laws_toArcS (xs : List (Arc)) (hb : bulkF Arc.bulk xs ≤ 1048576) : Sp Tryz.prog 72 [(.slice false 4 (xs.map Arc.d))] [.any] (.slice true 4 (xs.map Arc.d)) := by
 refine Sp_intro (lend := true) Tryz.func72 rfl rfl rfl (fun _ => rfl) (fun c hc hX => ?_)
 have hn := bulkF_len hb
 refine T_seq (T_region hc (Ch.s (.c (.slice none 0 0)) pa (Ch.nil (T_seq (T_region hc (Ch.s (.d (.slice false 4 (xs.map Arc.d))) pm (Ch.s (.d (.int .i64 ((xs.length : Nat) : Int))) (.pure (.len _ _ 157 rfl Tryz.underlying24 (.sh _ _) (by simp))) ?_)))))))
 refine Ch.s (.row 7000) (.make 7000 _ 125 _ _ (xs.length) (xs.length) rfl sty33 rfl rfl rfl rfl (by first | omega | (simp only [List.length_map, List.length_append, List.length_take, List.length_drop, List.length_cons, List.length_nil]; omega) | (simp; omega) | (simp; done)) (by first | omega | (simp only [List.length_map, List.length_append, List.length_take, List.length_drop, List.length_cons, List.length_nil]; omega) | (simp; omega) | (simp; done)) (by first | omega | (simp only [List.length_map, List.length_append, List.length_take, List.length_drop, List.length_cons, List.length_nil]; omega) | (simp; omega) | (simp; done)) (zeroD_mk (zd := (.agg [(.int .i64 0), (.int .i64 0), (.bool false), (.int .i64 0)])) zr125 (by intro S w; exact dr_agg rfl (drs_cons dr_int (drs_cons dr_int (drs_cons dr_bool (drs_cons dr_int drs_nil))))) rfl)) (Ch.s (.row 7000) pa (Ch.nil (T_seq (T_seq (T_region hc (Ch.s (.d (.int .i64 0)) pa (Ch.nil ?_)))))))
 refine T_block ?_
 refine T_loop (ι := Nat) (fun k => { n := 23, sl := [(0, (.d (.slice false 4 (xs.map Arc.d)))), (3, (.row 3)), (4, (.d (.int .i64 ((k : Nat) : Int))))], hp := [(3, (some (.row 4 ((fill xs default k).map Arc.d))))], pin := [] }) (fun k => k ≤ xs.length) (fun k => xs.length - k) ⟨0, (by omega), (Wk.ren [(3, 7000)] rfl rfl rfl rfl (ai rfl (ai rfl (ai (vI (by first | rfl | omega | (simp; done) | (simp; omega))) trivial))) (ai (oR (by first | (rw [fill_zero, List.map_replicate]; rfl) | (rw [← fill_set xs default default (by omega), List.map_set]; rfl))) trivial))⟩ (fun k hp0 => ?_)
 refine T_seq (T_seq (T_region hc (Ch.s (.d (.int .i64 ((k : Nat) : Int))) pm (Ch.s (.d (.slice false 4 (xs.map Arc.d))) pm (Ch.s (.d (.int .i64 ((xs.length : Nat) : Int))) (.pure (.len _ _ 157 rfl Tryz.underlying24 (.sh _ _) (by simp))) (Ch.s (.d (.bool (decide (((k : Nat) : Int) < ((xs.length : Nat) : Int))))) (.pure (.int _ _ _ _ _ rfl rfl rfl rfl)) (Ch.nil ?_)))))))
 refine T_cond (b := (decide (((k : Nat) : Int) < ((xs.length : Nat) : Int)))) rfl (fun h1 => ?_) (fun h1 => ?_)
 ·
  replace h1 := of_decide_eq_true h1
  try have hk := bulkF_mem hb _ (getD_mem (l := xs) (j := k) (d := default) (by omega))
  refine T_skip (T_seq (T_block (T_region hc (Ch.s (.row 3) pm (Ch.s (.d (.int .i64 ((k : Nat) : Int))) pm (Ch.s (.d (.slice false 4 (xs.map Arc.d))) pm (Ch.s (.d (.int .i64 ((k : Nat) : Int))) pm ?_)))))))
  refine Ch.s (.d (.ref (.agg [(.int .i64 ((xs.getD k default).src)), (.int .i64 ((xs.getD k default).sig)), (.bool ((xs.getD k default).up)), (.int .i64 ((xs.getD k default).dst))]))) (.pure (.idx _ _ _ 157 (k) rfl Tryz.underlying24 sz157 rfl rfl rfl get_mapA)) (Ch.s (.d (.agg [(.int .i64 ((xs.getD k default).src)), (.int .i64 ((xs.getD k default).sig)), (.bool ((xs.getD k default).up)), (.int .i64 ((xs.getD k default).dst))])) (.pure (.loadRefA _ _ rfl ag157 sz157 rfl)) (Ch.s (.d (.agg [(.int .i64 ((xs.getD k default).src)), (.int .i64 ((xs.getD k default).sig)), (.bool ((xs.getD k default).up)), (.int .i64 ((xs.getD k default).dst))])) (.call 20000 138 _ _ _ en138 rfl (.inl rfl) (.cons (.d _) .nil) rfl rfl (sp_laws_toArc (xs.getD k default) (by first | assumption | omega | (rw [List.length_take]; omega) | (have := bulkF_mem hb _ (getD_mem (d := default) (by omega)); assumption) | (unfold bulkS at *; omega) | (simp_all; done))) (.skip _ _ .nil) rfl) (Ch.s (.el 3 4 k 0) (.pure (.idxRow _ _ _ 125 (k) rfl Tryz.underlying33 sz125 rfl rfl rfl rfl (by first | omega | (simp only [List.length_map, List.length_set]; omega) | (simp; omega)))) (Ch.s .junk (.storeEl (y' := (.agg [(.int .i64 ((xs.getD k default).src)), (.int .i64 ((xs.getD k default).sig)), (.bool ((xs.getD k default).up)), (.int .i64 ((xs.getD k default).dst))])) _ _ _ rfl rfl rfl (.d _) rfl sz125 rfl get_mapA rfl rfl) (Ch.nil (T_region hc (Ch.s (.d (.int .i64 ((k : Nat) : Int))) pm ?_)))))))
  refine Ch.s (.d (.int .i64 (((k : Nat) : Int) + 1))) (.pure (.int _ _ _ _ _ rfl rfl rfl intV_addA)) (Ch.s (.d (.int .i64 (((k : Nat) : Int) + 1))) pa (Ch.nil ?_))
  exact nx (k + 1) (by omega) (Wk.of rfl rfl (ai rfl (ai rfl (ai (vI (by first | rfl | omega | (simp; done) | (simp; omega))) trivial))) (ai (oR (by first | (rw [fill_zero, List.map_replicate]; rfl) | (rw [← fill_set xs default default (by omega), List.map_set]; rfl))) trivial))
 ·
  replace h1 := of_decide_eq_false h1
  try have hk := bulkF_mem hb _ (getD_mem (l := xs) (j := k) (d := default) (by omega))
  refine T_exit (T_seq (T_region hc (Ch.s (.row 3) pm (Ch.s (.row 3) pa (Ch.nil (T_ret ?_))))))
  exact endR [(.row 3)] [] [3] (.cons (.tmp 2 rfl) .nil) (.cons (.any _) .nil) (Exp.of (congrArg (D.slice true 4) (by rw [fill_all xs default (by omega)])) (.row rfl)) rfl rfl

theorem sp_laws_eqArc (x y : Arc) (hb : x.bulk ≤ 1048576) : Sp Tryz.prog 145 [(.agg [(.int .i64 x.src), (.int .i64 x.sig), (.bool (x.up)), (.int .i64 x.dst)]), (.agg [(.int .i64 y.src), (.int .i64 y.sig), (.bool (y.up)), (.int .i64 y.dst)])] [.any, .any] (.bool (decide (x = y))) := by
 refine Sp_intro (lend := true) Tryz.func145 rfl rfl rfl (fun _ => rfl) (fun c hc hX => ?_)
 refine T_seq (T_region hc (Ch.s (.ptr 2000 0) (.box 2000 _ _ rfl (.aggD _)) (Ch.s (.ptr 3000 0) (.box 3000 _ _ rfl (.aggD _)) (Ch.s (.d (.bool false)) pa (Ch.nil (T_seq (T_seq ?_)))))))
 refine T_region hc (Ch.s (.ptr 2000 0) (.pure (.fldPtr _ _ _ rfl fld125_0 rfl)) (Ch.s (.d (.int .i64 x.src)) (.pure (.loadPtr1 _ _ rfl ag3 rfl rfl rfl)) (Ch.s (.ptr 3000 0) (.pure (.fldPtr _ _ _ rfl fld125_0 rfl)) (Ch.s (.d (.int .i64 y.src)) (.pure (.loadPtr1 _ _ rfl ag3 rfl rfl rfl)) (Ch.s (.d (.bool (!(decide (x.src = y.src))))) (.pure (.int _ _ _ _ _ rfl rfl rfl rfl)) (Ch.nil ?_))))))
 refine T_cond (b := (!(decide (x.src = y.src)))) rfl (fun h1 => ?_) (fun h1 => ?_)
 ·
  replace h1 := nott h1
  replace h1 := of_decide_eq_false h1
  refine T_seq (T_region hc (Ch.s (.d (.bool false)) pa (Ch.nil (T_ret ?_))))
  exact endR [(.d (.bool false))] [] [] (.cons (.tmp 4 rfl) .nil) (.cons (.any _) (.cons (.any _) .nil)) (Exp.of (congrArg D.bool (by cases x; cases y; simp_all)) (.d _)) rfl rfl
 ·
  replace h1 := notf h1
  replace h1 := of_decide_eq_true h1
  refine T_skip (T_seq (T_seq (T_region hc (Ch.s (.ptr 2000 1) (.pure (.fldPtr _ _ _ rfl fld125_1 rfl)) (Ch.s (.d (.int .i64 x.sig)) (.pure (.loadPtr1 _ _ rfl ag3 rfl rfl rfl)) (Ch.s (.ptr 3000 1) (.pure (.fldPtr _ _ _ rfl fld125_1 rfl)) (Ch.s (.d (.int .i64 y.sig)) (.pure (.loadPtr1 _ _ rfl ag3 rfl rfl rfl)) ?_)))))))
  refine Ch.s (.d (.bool (!(decide (x.sig = y.sig))))) (.pure (.int _ _ _ _ _ rfl rfl rfl rfl)) (Ch.nil ?_)
  refine T_cond (b := (!(decide (x.sig = y.sig)))) rfl (fun h2 => ?_) (fun h2 => ?_)
  ·
   replace h2 := nott h2
   replace h2 := of_decide_eq_false h2
   refine T_seq (T_region hc (Ch.s (.d (.bool false)) pa (Ch.nil (T_ret ?_))))
   exact endR [(.d (.bool false))] [] [] (.cons (.tmp 4 rfl) .nil) (.cons (.any _) (.cons (.any _) .nil)) (Exp.of (congrArg D.bool (by cases x; cases y; simp_all)) (.d _)) rfl rfl
  ·
   replace h2 := notf h2
   replace h2 := of_decide_eq_true h2
   refine T_skip (T_seq (T_seq (T_region hc (Ch.s (.ptr 2000 2) (.pure (.fldPtr _ _ _ rfl fld125_2 rfl)) (Ch.s (.d (.bool (x.up))) (.pure (.loadPtr1 _ _ rfl ag4 rfl rfl rfl)) (Ch.s (.ptr 3000 2) (.pure (.fldPtr _ _ _ rfl fld125_2 rfl)) (Ch.s (.d (.bool (y.up))) (.pure (.loadPtr1 _ _ rfl ag4 rfl rfl rfl)) ?_)))))))
   refine Ch.s (.d (.bool (!(decide ((x.up) = (y.up)))))) (.pure (.neB _ _ _ _ rfl Tryz.underlying4 rfl rfl)) (Ch.nil ?_)
   refine T_cond (b := (!(decide ((x.up) = (y.up))))) rfl (fun h3 => ?_) (fun h3 => ?_)
   ·
    replace h3 := nott h3
    replace h3 := of_decide_eq_false h3
    refine T_seq (T_region hc (Ch.s (.d (.bool false)) pa (Ch.nil (T_ret ?_))))
    exact endR [(.d (.bool false))] [] [] (.cons (.tmp 4 rfl) .nil) (.cons (.any _) (.cons (.any _) .nil)) (Exp.of (congrArg D.bool (by cases x; cases y; simp_all)) (.d _)) rfl rfl
   ·
    replace h3 := notf h3
    replace h3 := of_decide_eq_true h3
    refine T_skip (T_seq (T_seq (T_region hc (Ch.s (.ptr 2000 3) (.pure (.fldPtr _ _ _ rfl fld125_3 rfl)) (Ch.s (.d (.int .i64 x.dst)) (.pure (.loadPtr1 _ _ rfl ag3 rfl rfl rfl)) (Ch.s (.ptr 3000 3) (.pure (.fldPtr _ _ _ rfl fld125_3 rfl)) (Ch.s (.d (.int .i64 y.dst)) (.pure (.loadPtr1 _ _ rfl ag3 rfl rfl rfl)) ?_)))))))
    refine Ch.s (.d (.bool (!(decide (x.dst = y.dst))))) (.pure (.int _ _ _ _ _ rfl rfl rfl rfl)) (Ch.nil ?_)
    refine T_cond (b := (!(decide (x.dst = y.dst)))) rfl (fun h4 => ?_) (fun h4 => ?_)
    ·
     replace h4 := nott h4
     replace h4 := of_decide_eq_false h4
     refine T_seq (T_region hc (Ch.s (.d (.bool false)) pa (Ch.nil (T_ret ?_))))
     exact endR [(.d (.bool false))] [] [] (.cons (.tmp 4 rfl) .nil) (.cons (.any _) (.cons (.any _) .nil)) (Exp.of (congrArg D.bool (by cases x; cases y; simp_all)) (.d _)) rfl rfl
    ·
     replace h4 := notf h4
     replace h4 := of_decide_eq_true h4
     refine T_skip (T_seq (T_region hc (Ch.s (.d (.bool true)) pa (Ch.nil (T_ret ?_)))))
     exact endR [(.d (.bool true))] [] [] (.cons (.tmp 4 rfl) .nil) (.cons (.any _) (.cons (.any _) .nil)) (Exp.of (congrArg D.bool (by cases x; cases y; simp_all)) (.d _)) rfl rfl

theorem sp_laws_eqArcS (xs ys : List (Arc)) (hb : bulkF Arc.bulk xs ≤ 1048576) : Sp Tryz.prog 75 [(.slice false 4 (xs.map Arc.d)), (.slice false 4 (ys.map Arc.d))] [.any, .any] (.bool (decide (xs = ys))) := by
 refine Sp_intro (lend := true) Tryz.func75 rfl rfl rfl (fun _ => rfl) (fun c hc hX => ?_)
 have hn := bulkF_len hb
 refine T_seq (T_region hc (Ch.s (.d (.bool false)) pa (Ch.nil (T_seq (T_seq (T_region hc (Ch.s (.d (.slice false 4 (xs.map Arc.d))) pm ?_)))))))
 refine Ch.s (.d (.int .i64 ((xs.length : Nat) : Int))) (.pure (.len _ _ 125 rfl Tryz.underlying33 (.sh _ _) (by simp))) (Ch.s (.d (.slice false 4 (ys.map Arc.d))) pm (Ch.s (.d (.int .i64 ((ys.length : Nat) : Int))) (.pure (.len _ _ 125 rfl Tryz.underlying33 (.sh _ _) (by simp))) (Ch.s (.d (.bool (!(decide (((xs.length : Nat) : Int) = ((ys.length : Nat) : Int)))))) (.pure (.int _ _ _ _ _ rfl rfl rfl rfl)) (Ch.nil ?_))))
 refine T_cond (b := (!(decide (((xs.length : Nat) : Int) = ((ys.length : Nat) : Int))))) rfl (fun h1 => ?_) (fun h1 => ?_)
 ·
  replace h1 := nott h1
  replace h1 := of_decide_eq_false h1
  refine T_seq (T_region hc (Ch.s (.d (.bool false)) pa (Ch.nil (T_ret ?_))))
  exact endR [(.d (.bool false))] [] [] (.cons (.tmp 4 rfl) .nil) (.cons (.any _) (.cons (.any _) .nil)) (Exp.of (congrArg D.bool (by exact eqL_len (by omega))) (.d _)) rfl rfl
 ·
  replace h1 := notf h1
  replace h1 := of_decide_eq_true h1
  refine T_skip (T_seq (T_seq (T_region hc (Ch.s (.d (.int .i64 0)) pa (Ch.nil (T_block ?_))))))
  refine T_loop (ι := Nat) (fun k => { n := 27, sl := [(0, (.d (.slice false 4 (xs.map Arc.d)))), (1, (.d (.slice false 4 (ys.map Arc.d)))), (5, (.d (.int .i64 ((k : Nat) : Int))))], hp := [], pin := [] }) (fun k => k ≤ xs.length ∧ ∀ j, j < k → xs.getD j default = ys.getD j default) (fun k => xs.length - k) ⟨0, ⟨by omega, fun j hj => by omega⟩, (Wk.of rfl rfl (ai rfl (ai rfl (ai (vI (by first | rfl | omega | (simp; done) | (simp; omega))) trivial))) trivial)⟩ (fun k hp0 => ?_)
  refine T_seq (T_seq (T_region hc (Ch.s (.d (.int .i64 ((k : Nat) : Int))) pm (Ch.s (.d (.slice false 4 (xs.map Arc.d))) pm (Ch.s (.d (.int .i64 ((xs.length : Nat) : Int))) (.pure (.len _ _ 125 rfl Tryz.underlying33 (.sh _ _) (by simp))) (Ch.s (.d (.bool (decide (((k : Nat) : Int) < ((xs.length : Nat) : Int))))) (.pure (.int _ _ _ _ _ rfl rfl rfl rfl)) (Ch.nil ?_)))))))
  refine T_cond (b := (decide (((k : Nat) : Int) < ((xs.length : Nat) : Int)))) rfl (fun h2 => ?_) (fun h2 => ?_)
  ·
   replace h2 := of_decide_eq_true h2
   try have hk := bulkF_mem hb _ (getD_mem (l := xs) (j := k) (d := default) (by omega))
   refine T_skip (T_seq (T_block (T_seq ?_)))
   refine T_regionD hc (by kernel_rfl) ?_
   refine ChD.s (.d (.slice false 4 (xs.map Arc.d))) [] pm (ChD.s (.d (.int .i64 ((k : Nat) : Int))) [] pm (ChD.s (.d (.ref (.agg [(.int .i64 ((xs.getD k default).src)), (.int .i64 ((xs.getD k default).sig)), (.bool ((xs.getD k default).up)), (.int .i64 ((xs.getD k default).dst))]))) [] (.pure (.idx _ _ _ 125 (k) rfl Tryz.underlying33 sz125 rfl rfl rfl get_mapA)) (ChD.s (.d (.agg [(.int .i64 ((xs.getD k default).src)), (.int .i64 ((xs.getD k default).sig)), (.bool ((xs.getD k default).up)), (.int .i64 ((xs.getD k default).dst))])) [] (.pure (.loadRefA _ _ rfl ag125 sz125 rfl)) (ChD.s (.d (.slice false 4 (ys.map Arc.d))) [] pm (ChD.s (.d (.int .i64 ((k : Nat) : Int))) [] pm (ChD.s (.d (.ref (.agg [(.int .i64 ((ys.getD k default).src)), (.int .i64 ((ys.getD k default).sig)), (.bool ((ys.getD k default).up)), (.int .i64 ((ys.getD k default).dst))]))) [] (.pure (.idx _ _ _ 125 (k) rfl Tryz.underlying33 sz125 rfl rfl rfl get_mapA)) (ChD.s (.d (.agg [(.int .i64 ((ys.getD k default).src)), (.int .i64 ((ys.getD k default).sig)), (.bool ((ys.getD k default).up)), (.int .i64 ((ys.getD k default).dst))])) [] (.pure (.loadRefA _ _ rfl ag125 sz125 rfl)) ?_)))))))
   refine ChD.s (.d (.bool (decide ((xs.getD k default) = (ys.getD k default))))) [] (.call 25000 145 _ _ _ en145 rfl (.inl rfl) (.cons (.d _) (.cons (.d _) .nil)) rfl rfl (sp_laws_eqArc (xs.getD k default) (ys.getD k default) (by first | assumption | omega | (rw [List.length_take]; omega) | (have := bulkF_mem hb _ (getD_mem (d := default) (by omega)); assumption) | (unfold bulkS at *; omega) | (simp_all; done))) (.skip _ _ (.skip _ _ .nil)) rfl) (ChD.s (.d (.bool (!(decide ((xs.getD k default) = (ys.getD k default)))))) [] (.pure (.not _ _ rfl rfl)) ?_)
   refine ChD.nil (And.intro ?_ (by kernel_rfl))
   refine T_cond (b := (!(decide ((xs.getD k default) = (ys.getD k default))))) rfl (fun h3 => ?_) (fun h3 => ?_)
   ·
    replace h3 := nott h3
    replace h3 := of_decide_eq_false h3
    refine T_seq (T_region hc (Ch.s (.d (.bool false)) pa (Ch.nil (T_ret ?_))))
    exact endR [(.d (.bool false))] [] [] (.cons (.tmp 4 rfl) .nil) (.cons (.any _) (.cons (.any _) .nil)) (Exp.of (congrArg D.bool (by exact eqL_at default k (by assumption))) (.d _)) rfl rfl
   ·
    replace h3 := notf h3
    replace h3 := of_decide_eq_true h3
    refine T_skip (T_region hc (Ch.s (.d (.int .i64 ((k : Nat) : Int))) pm (Ch.s (.d (.int .i64 (((k : Nat) : Int) + 1))) (.pure (.int _ _ _ _ _ rfl rfl rfl intV_addA)) (Ch.s (.d (.int .i64 (((k : Nat) : Int) + 1))) pa (Ch.nil ?_)))))
    exact nx (k + 1) ⟨by omega, upto_succ hp0.2 (by assumption)⟩ (Wk.of rfl rfl (ai rfl (ai rfl (ai (vI (by first | rfl | omega | (simp; done) | (simp; omega))) trivial))) trivial)
  ·
   replace h2 := of_decide_eq_false h2
   try have hk := bulkF_mem hb _ (getD_mem (l := xs) (j := k) (d := default) (by omega))
   refine T_exit (T_seq (T_region hc (Ch.s (.d (.bool true)) pa (Ch.nil (T_ret ?_)))))
   exact endR [(.d (.bool true))] [] [] (.cons (.tmp 4 rfl) .nil) (.cons (.any _) (.cons (.any _) .nil)) (Exp.of (congrArg D.bool (by exact eqL_all default (by omega) (fun j hj => hp0.2 j (by omega)))) (.d _)) rfl rfl

theorem sp_laws_szStateGraph (x : Sgr) (left : Int) (h0 : 0 ≤ left) (h0u : left ≤ 1048576) (hw : x.wide) : Sp Tryz.prog 16 [(.agg [(.slice false 2 (x.sigs.map Sgn.d)), (.slice false 1 (x.codes.map D.str)), (.slice false 4 (x.arcs.map Arc.d))]), (.int .i64 left)] [.any, .any] (.int .i64 (szR x.bulk left)) := by
 refine Sp_intro (lend := true) Tryz.func16 rfl rfl rfl (fun _ => rfl) (fun c hc hX => ?_)
 have e0 := szR_cases (bulkF Sgn.bulk x.sigs) left
 have e1 := szS_cases x.codes (szR (bulkF Sgn.bulk x.sigs) left)
 have e2 := szR_cases (bulkF Arc.bulk x.arcs) (szS x.codes (szR (bulkF Sgn.bulk x.sigs) left))
 have ef := szR_cases (bulkF Sgn.bulk x.sigs + bulkS x.codes + bulkF Arc.bulk x.arcs) left
 unfold Sgr.wide at hw
 refine T_seq (T_region hc (Ch.s (.ptr 2000 0) (.box 2000 _ _ rfl (.aggD _)) (Ch.s (.d (.int .i64 0)) pa (Ch.nil (T_seq (T_region hc (Ch.s (.ptr 2000 0) (.pure (.fldPtr _ _ _ rfl fld26_0 rfl)) ?_)))))))
 refine Ch.s (.d (.slice false 2 (x.sigs.map Sgn.d))) (.pure (.loadPtr1 _ _ rfl ag22 rfl rfl rfl)) (Ch.s (.d (.int .i64 left)) pm (Ch.s (.d (.int .i64 (szR (bulkF Sgn.bulk x.sigs) left))) (.call 8000 66 _ _ _ en66 rfl (.inl rfl) (.cons (.d _) (.cons (.d _) .nil)) rfl rfl (sp_laws_szSignalS x.sigs left (by first | omega | assumption | (exact hx _ (getD_mem (by omega))) | (exact hx _ (by assumption)) | (exact Nat.le_trans (hx _ (by assumption)) (by omega)) | (simp only [List.length_append, List.length_take, List.length_drop, List.length_cons, List.length_nil]; omega) | (simp_all; done)) (by first | omega | assumption | (exact hx _ (getD_mem (by omega))) | (exact hx _ (by assumption)) | (exact Nat.le_trans (hx _ (by assumption)) (by omega)) | (simp only [List.length_append, List.length_take, List.length_drop, List.length_cons, List.length_nil]; omega) | (simp_all; done)) (by first | assumption | omega | trivial | (simp_all; done) | (exact fun _ _ => trivial) | (exact hx _ (by assumption)) | (refine ⟨?_, ?_⟩ <;> first | assumption | omega)) (by first | assumption | omega | trivial | (simp_all; done) | (exact fun _ _ => trivial) | (exact hx _ (by assumption)) | (refine ⟨?_, ?_⟩ <;> first | assumption | omega))) (.skip _ _ (.skip _ _ .nil)) rfl) (Ch.s (.d (.int .i64 (szR (bulkF Sgn.bulk x.sigs) left))) pa (Ch.nil (T_seq (T_seq (T_region hc ?_)))))))
 refine Ch.s (.d (.int .i64 (szR (bulkF Sgn.bulk x.sigs) left))) pm (Ch.s (.d (.bool (decide ((szR (bulkF Sgn.bulk x.sigs) left) < 0)))) (.pure (.int _ _ _ _ _ rfl rfl rfl rfl)) (Ch.nil ?_))
 refine T_cond (b := (decide ((szR (bulkF Sgn.bulk x.sigs) left) < 0))) rfl (fun h1 => ?_) (fun h1 => ?_)
 ·
  replace h1 := of_decide_eq_true h1
  refine T_seq (T_region hc (Ch.s (.d (.int .i64 (-1))) pa (Ch.nil (T_ret ?_))))
  exact endR [(.d (.int .i64 (-1)))] [] [] (.cons (.tmp 4 rfl) .nil) (.cons (.any _) (.cons (.any _) .nil)) (Exp.of (congrArg (D.int .i64) (by show _ = szR (bulkF Sgn.bulk x.sigs + bulkS x.codes + bulkF Arc.bulk x.arcs) left; omega)) (.d _)) rfl rfl
 ·
  replace h1 := of_decide_eq_false h1
  refine T_skip (T_seq (T_region hc (Ch.s (.ptr 2000 1) (.pure (.fldPtr _ _ _ rfl fld26_1 rfl)) (Ch.s (.d (.slice false 1 (x.codes.map D.str))) (.pure (.loadPtr1 _ _ rfl ag23 rfl rfl rfl)) (Ch.s (.d (.int .i64 (szR (bulkF Sgn.bulk x.sigs) left))) pm (Ch.s (.d (.int .i64 (szS x.codes (szR (bulkF Sgn.bulk x.sigs) left)))) (.call 14000 67 _ _ _ en67 rfl (.inl rfl) (.cons (.d _) (.cons (.d _) .nil)) rfl rfl (sp_laws_szStringS x.codes (szR (bulkF Sgn.bulk x.sigs) left) (by first | omega | assumption | (exact hx _ (getD_mem (by omega))) | (exact hx _ (by assumption)) | (exact Nat.le_trans (hx _ (by assumption)) (by omega)) | (simp only [List.length_append, List.length_take, List.length_drop, List.length_cons, List.length_nil]; omega) | (simp_all; done)) (by first | omega | assumption | (exact hx _ (getD_mem (by omega))) | (exact hx _ (by assumption)) | (exact Nat.le_trans (hx _ (by assumption)) (by omega)) | (simp only [List.length_append, List.length_take, List.length_drop, List.length_cons, List.length_nil]; omega) | (simp_all; done)) (by first | omega | assumption | (exact hx _ (getD_mem (by omega))) | (exact hx _ (by assumption)) | (exact Nat.le_trans (hx _ (by assumption)) (by omega)) | (simp only [List.length_append, List.length_take, List.length_drop, List.length_cons, List.length_nil]; omega) | (simp_all; done)) (by first | omega | assumption | (exact hx _ (getD_mem (by omega))) | (exact hx _ (by assumption)) | (exact Nat.le_trans (hx _ (by assumption)) (by omega)) | (simp only [List.length_append, List.length_take, List.length_drop, List.length_cons, List.length_nil]; omega) | (simp_all; done))) (.skip _ _ (.skip _ _ .nil)) rfl) (Ch.s (.d (.int .i64 (szS x.codes (szR (bulkF Sgn.bulk x.sigs) left)))) pa ?_)))))))
  refine Ch.nil (T_seq (T_seq (T_region hc (Ch.s (.d (.int .i64 (szS x.codes (szR (bulkF Sgn.bulk x.sigs) left)))) pm (Ch.s (.d (.bool (decide ((szS x.codes (szR (bulkF Sgn.bulk x.sigs) left)) < 0)))) (.pure (.int _ _ _ _ _ rfl rfl rfl rfl)) (Ch.nil ?_))))))
  refine T_cond (b := (decide ((szS x.codes (szR (bulkF Sgn.bulk x.sigs) left)) < 0))) rfl (fun h2 => ?_) (fun h2 => ?_)
  ·
   replace h2 := of_decide_eq_true h2
   refine T_seq (T_region hc (Ch.s (.d (.int .i64 (-1))) pa (Ch.nil (T_ret ?_))))
   exact endR [(.d (.int .i64 (-1)))] [] [] (.cons (.tmp 4 rfl) .nil) (.cons (.any _) (.cons (.any _) .nil)) (Exp.of (congrArg (D.int .i64) (by show _ = szR (bulkF Sgn.bulk x.sigs + bulkS x.codes + bulkF Arc.bulk x.arcs) left; omega)) (.d _)) rfl rfl
  ·
   replace h2 := of_decide_eq_false h2
   refine T_skip (T_seq (T_region hc (Ch.s (.ptr 2000 2) (.pure (.fldPtr _ _ _ rfl fld26_2 rfl)) (Ch.s (.d (.slice false 4 (x.arcs.map Arc.d))) (.pure (.loadPtr1 _ _ rfl ag24 rfl rfl rfl)) (Ch.s (.d (.int .i64 (szS x.codes (szR (bulkF Sgn.bulk x.sigs) left)))) pm (Ch.s (.d (.int .i64 (szR (bulkF Arc.bulk x.arcs) (szS x.codes (szR (bulkF Sgn.bulk x.sigs) left))))) (.call 20000 68 _ _ _ en68 rfl (.inl rfl) (.cons (.d _) (.cons (.d _) .nil)) rfl rfl (sp_laws_szArcS x.arcs (szS x.codes (szR (bulkF Sgn.bulk x.sigs) left)) (by first | omega | assumption | (exact hx _ (getD_mem (by omega))) | (exact hx _ (by assumption)) | (exact Nat.le_trans (hx _ (by assumption)) (by omega)) | (simp only [List.length_append, List.length_take, List.length_drop, List.length_cons, List.length_nil]; omega) | (simp_all; done)) (by first | omega | assumption | (exact hx _ (getD_mem (by omega))) | (exact hx _ (by assumption)) | (exact Nat.le_trans (hx _ (by assumption)) (by omega)) | (simp only [List.length_append, List.length_take, List.length_drop, List.length_cons, List.length_nil]; omega) | (simp_all; done)) (by first | assumption | omega | trivial | (simp_all; done) | (exact fun _ _ => trivial) | (exact hx _ (by assumption)) | (refine ⟨?_, ?_⟩ <;> first | assumption | omega)) (by first | assumption | omega | trivial | (simp_all; done) | (exact fun _ _ => trivial) | (exact hx _ (by assumption)) | (refine ⟨?_, ?_⟩ <;> first | assumption | omega))) (.skip _ _ (.skip _ _ .nil)) rfl) (Ch.s (.d (.int .i64 (szR (bulkF Arc.bulk x.arcs) (szS x.codes (szR (bulkF Sgn.bulk x.sigs) left))))) pa ?_)))))))
   refine Ch.nil (T_seq (T_seq (T_region hc (Ch.s (.d (.int .i64 (szR (bulkF Arc.bulk x.arcs) (szS x.codes (szR (bulkF Sgn.bulk x.sigs) left))))) pm (Ch.s (.d (.bool (decide ((szR (bulkF Arc.bulk x.arcs) (szS x.codes (szR (bulkF Sgn.bulk x.sigs) left))) < 0)))) (.pure (.int _ _ _ _ _ rfl rfl rfl rfl)) (Ch.nil ?_))))))
   refine T_cond (b := (decide ((szR (bulkF Arc.bulk x.arcs) (szS x.codes (szR (bulkF Sgn.bulk x.sigs) left))) < 0))) rfl (fun h3 => ?_) (fun h3 => ?_)
   ·
    replace h3 := of_decide_eq_true h3
    refine T_seq (T_region hc (Ch.s (.d (.int .i64 (-1))) pa (Ch.nil (T_ret ?_))))
    exact endR [(.d (.int .i64 (-1)))] [] [] (.cons (.tmp 4 rfl) .nil) (.cons (.any _) (.cons (.any _) .nil)) (Exp.of (congrArg (D.int .i64) (by show _ = szR (bulkF Sgn.bulk x.sigs + bulkS x.codes + bulkF Arc.bulk x.arcs) left; omega)) (.d _)) rfl rfl
   ·
    replace h3 := of_decide_eq_false h3
    refine T_skip (T_seq (T_region hc (Ch.s (.d (.int .i64 (szR (bulkF Arc.bulk x.arcs) (szS x.codes (szR (bulkF Sgn.bulk x.sigs) left))))) pm (Ch.s (.d (.int .i64 (szR (bulkF Arc.bulk x.arcs) (szS x.codes (szR (bulkF Sgn.bulk x.sigs) left))))) pa (Ch.nil (T_ret ?_))))))
    exact endR [(.d (.int .i64 (szR (bulkF Arc.bulk x.arcs) (szS x.codes (szR (bulkF Sgn.bulk x.sigs) left)))))] [] [] (.cons (.tmp 4 rfl) .nil) (.cons (.any _) (.cons (.any _) .nil)) (Exp.of (congrArg (D.int .i64) (by show _ = szR (bulkF Sgn.bulk x.sigs + bulkS x.codes + bulkF Arc.bulk x.arcs) left; omega)) (.d _)) rfl rfl

theorem sp_laws_toStateGraph (x : Sgr) (hb : x.bulk ≤ 1048576) : Sp Tryz.prog 18 [(.agg [(.slice false 2 (x.sigs.map Sgn.d)), (.slice false 1 (x.codes.map D.str)), (.slice false 4 (x.arcs.map Arc.d))])] [.any] (.agg [(.slice true 2 (x.sigs.map Sgn.d)), (.slice true 1 (x.codes.map D.str)), (.slice true 4 (x.arcs.map Arc.d))]) := by
 refine Sp_intro (lend := true) Tryz.func18 rfl rfl rfl (fun _ => rfl) (fun c hc hX => ?_)
 obtain ⟨hp0, hp1, hp2⟩ := Sgr.parts hb
 have hn0 := bulkF_len hp0
 have hn1 := bulk_len hp1
 have hx1 := bulk_mem hp1
 have hn2 := bulkF_len hp2
 refine T_seq (T_region hc (Ch.s (.ptr 1000 0) (.box 1000 _ _ rfl (.aggD _)) (Ch.s (.ptr 2000 0) (.alloc 2000 _ rfl zer35) (Ch.nil (T_seq (T_region hc (Ch.s (.ptr 3000 0) (.alloc 3000 _ rfl zer35) ?_)))))))
 refine Ch.nil (T_seq (T_region hc (Ch.s (.ptr 1000 0) (.pure (.fldPtr _ _ _ rfl fld26_0 rfl)) (Ch.s (.d (.slice false 2 (x.sigs.map Sgn.d))) (.pure (.loadPtr1 _ _ rfl ag22 rfl rfl rfl)) ?_))))
 refine Ch.step (v := (.row 6000)) rfl (.call 6000 70 _ _ _ en70 rfl (.inl rfl) (.cons (.d _) .nil) rfl (sol (solid_row (fun _ => rfl) _) rfl) (sp_laws_toSignalS x.sigs (by first | assumption | omega | (rw [List.length_take]; omega) | (have := bulkF_mem hb _ (getD_mem (d := default) (by omega)); assumption) | (unfold bulkS at *; omega) | (simp_all; done))) (.skip _ _ .nil) rfl) rfl rfl ?_
 refine Ch.s (.ptr 3000 0) (.pure (.fldPtr _ _ _ rfl fld35_0 rfl)) (Ch.s .junk (.storePtr _ _ _ rfl rfl rfl (.one _ rfl) sz32 (Nat.le_of_ble_eq_true rfl)) (Ch.nil (T_seq (T_region hc (Ch.s (.ptr 1000 1) (.pure (.fldPtr _ _ _ rfl fld26_1 rfl)) (Ch.s (.d (.slice false 1 (x.codes.map D.str))) (.pure (.loadPtr1 _ _ rfl ag23 rfl rfl rfl)) ?_))))))
 refine Ch.step (v := (.row 10000)) rfl (.call 10000 71 _ _ _ en71 rfl (.inl rfl) (.cons (.d _) .nil) rfl (sol (solid_row (fun _ => rfl) _) rfl) (sp_laws_toStringS x.codes (by first | omega | assumption | (exact hx _ (getD_mem (by omega))) | (exact hx _ (by assumption)) | (exact Nat.le_trans (hx _ (by assumption)) (by omega)) | (simp only [List.length_append, List.length_take, List.length_drop, List.length_cons, List.length_nil]; omega) | (simp_all; done))) (.skip _ _ .nil) rfl) rfl rfl ?_
 refine Ch.s (.ptr 3000 1) (.pure (.fldPtr _ _ _ rfl fld35_1 rfl)) (Ch.s .junk (.storePtr _ _ _ rfl rfl rfl (.one _ rfl) sz23 (Nat.le_of_ble_eq_true rfl)) (Ch.nil (T_seq (T_region hc (Ch.s (.ptr 1000 2) (.pure (.fldPtr _ _ _ rfl fld26_2 rfl)) (Ch.s (.d (.slice false 4 (x.arcs.map Arc.d))) (.pure (.loadPtr1 _ _ rfl ag24 rfl rfl rfl)) ?_))))))
 refine Ch.step (v := (.row 14000)) rfl (.call 14000 72 _ _ _ en72 rfl (.inl rfl) (.cons (.d _) .nil) rfl (sol (solid_row (fun _ => rfl) _) rfl) (sp_laws_toArcS x.arcs (by first | assumption | omega | (rw [List.length_take]; omega) | (have := bulkF_mem hb _ (getD_mem (d := default) (by omega)); assumption) | (unfold bulkS at *; omega) | (simp_all; done))) (.skip _ _ .nil) rfl) rfl rfl ?_
 refine Ch.s (.ptr 3000 2) (.pure (.fldPtr _ _ _ rfl fld35_2 rfl)) (Ch.s .junk (.storePtr _ _ _ rfl rfl rfl (.one _ rfl) sz33 (Nat.le_of_ble_eq_true rfl)) (Ch.nil (T_seq (T_region hc (Ch.s (.agg [(.row 6000), (.row 10000), (.row 14000)]) (.pure (.loadPtrA _ _ rfl ag35 sz35 rfl rfl (Nat.le_of_ble_eq_true rfl) rfl)) (Ch.s .junk (.storePtr _ _ _ rfl rfl rfl (.agg _ rfl) sz35 (Nat.le_of_ble_eq_true rfl)) (Ch.nil ?_)))))))
 refine T_ret ?_
 exact endR [(.agg [(.row 6000), (.row 10000), (.row 14000)])] [] [6000, 10000, 14000] (.cons (.cellA _ _ rfl rfl ag35 sz35) .nil) (.cons (.any _) .nil) (.agg (.cons (.row rfl) (.cons (.row rfl) (.cons (.row rfl) .nil))) rfl) rfl rfl

theorem sp_laws_eqStateGraph (x y : Sgr) (hb : x.bulk ≤ 1048576) : Sp Tryz.prog 21 [(.agg [(.slice false 2 (x.sigs.map Sgn.d)), (.slice false 1 (x.codes.map D.str)), (.slice false 4 (x.arcs.map Arc.d))]), (.agg [(.slice false 2 (y.sigs.map Sgn.d)), (.slice false 1 (y.codes.map D.str)), (.slice false 4 (y.arcs.map Arc.d))])] [.any, .any] (.bool (decide (x = y))) := by
 refine Sp_intro (lend := true) Tryz.func21 rfl rfl rfl (fun _ => rfl) (fun c hc hX => ?_)
 obtain ⟨hp0, hp1, hp2⟩ := Sgr.parts hb
 have hn0 := bulkF_len hp0
 have hn1 := bulk_len hp1
 have hx1 := bulk_mem hp1
 have hn2 := bulkF_len hp2
 refine T_seq (T_region hc (Ch.s (.ptr 2000 0) (.box 2000 _ _ rfl (.aggD _)) (Ch.s (.ptr 3000 0) (.box 3000 _ _ rfl (.aggD _)) (Ch.s (.d (.bool false)) pa (Ch.nil (T_seq (T_seq ?_)))))))
 refine T_region hc (Ch.s (.ptr 2000 0) (.pure (.fldPtr _ _ _ rfl fld35_0 rfl)) (Ch.s (.d (.slice false 2 (x.sigs.map Sgn.d))) (.pure (.loadPtr1 _ _ rfl ag32 rfl rfl rfl)) (Ch.s (.ptr 3000 0) (.pure (.fldPtr _ _ _ rfl fld35_0 rfl)) (Ch.s (.d (.slice false 2 (y.sigs.map Sgn.d))) (.pure (.loadPtr1 _ _ rfl ag32 rfl rfl rfl)) (Ch.s (.d (.bool (decide (x.sigs = y.sigs)))) (.call 9000 74 _ _ _ en74 rfl (.inl rfl) (.cons (.d _) (.cons (.d _) .nil)) rfl rfl (sp_laws_eqSignalS x.sigs y.sigs (by first | assumption | omega | (rw [List.length_take]; omega) | (have := bulkF_mem hb _ (getD_mem (d := default) (by omega)); assumption) | (unfold bulkS at *; omega) | (simp_all; done))) (.skip _ _ (.skip _ _ .nil)) rfl) (Ch.s (.d (.bool (!(decide (x.sigs = y.sigs))))) (.pure (.not _ _ rfl rfl)) (Ch.nil ?_)))))))
 refine T_cond (b := (!(decide (x.sigs = y.sigs)))) rfl (fun h1 => ?_) (fun h1 => ?_)
 ·
  replace h1 := nott h1
  replace h1 := of_decide_eq_false h1
  refine T_seq (T_region hc (Ch.s (.d (.bool false)) pa (Ch.nil (T_ret ?_))))
  exact endR [(.d (.bool false))] [] [] (.cons (.tmp 4 rfl) .nil) (.cons (.any _) (.cons (.any _) .nil)) (Exp.of (congrArg D.bool (by cases x; cases y; simp_all)) (.d _)) rfl rfl
 ·
  replace h1 := notf h1
  replace h1 := of_decide_eq_true h1
  refine T_skip (T_seq (T_seq (T_region hc (Ch.s (.ptr 2000 1) (.pure (.fldPtr _ _ _ rfl fld35_1 rfl)) (Ch.s (.d (.slice false 1 (x.codes.map D.str))) (.pure (.loadPtr1 _ _ rfl ag23 rfl rfl rfl)) (Ch.s (.ptr 3000 1) (.pure (.fldPtr _ _ _ rfl fld35_1 rfl)) (Ch.s (.d (.slice false 1 (y.codes.map D.str))) (.pure (.loadPtr1 _ _ rfl ag23 rfl rfl rfl)) ?_)))))))
  refine Ch.s (.d (.bool (decide (x.codes = y.codes)))) (.call 15000 29 _ _ _ en29 rfl (.inl rfl) (.cons (.d _) (.cons (.d _) .nil)) rfl rfl (sp_laws_eqStringS x.codes y.codes (by first | omega | assumption | (exact hx _ (getD_mem (by omega))) | (exact hx _ (by assumption)) | (exact Nat.le_trans (hx _ (by assumption)) (by omega)) | (simp only [List.length_append, List.length_take, List.length_drop, List.length_cons, List.length_nil]; omega) | (simp_all; done))) (.skip _ _ (.skip _ _ .nil)) rfl) (Ch.s (.d (.bool (!(decide (x.codes = y.codes))))) (.pure (.not _ _ rfl rfl)) (Ch.nil ?_))
  refine T_cond (b := (!(decide (x.codes = y.codes)))) rfl (fun h2 => ?_) (fun h2 => ?_)
  ·
   replace h2 := nott h2
   replace h2 := of_decide_eq_false h2
   refine T_seq (T_region hc (Ch.s (.d (.bool false)) pa (Ch.nil (T_ret ?_))))
   exact endR [(.d (.bool false))] [] [] (.cons (.tmp 4 rfl) .nil) (.cons (.any _) (.cons (.any _) .nil)) (Exp.of (congrArg D.bool (by cases x; cases y; simp_all)) (.d _)) rfl rfl
  ·
   replace h2 := notf h2
   replace h2 := of_decide_eq_true h2
   refine T_skip (T_seq (T_seq (T_region hc (Ch.s (.ptr 2000 2) (.pure (.fldPtr _ _ _ rfl fld35_2 rfl)) (Ch.s (.d (.slice false 4 (x.arcs.map Arc.d))) (.pure (.loadPtr1 _ _ rfl ag33 rfl rfl rfl)) (Ch.s (.ptr 3000 2) (.pure (.fldPtr _ _ _ rfl fld35_2 rfl)) (Ch.s (.d (.slice false 4 (y.arcs.map Arc.d))) (.pure (.loadPtr1 _ _ rfl ag33 rfl rfl rfl)) ?_)))))))
   refine Ch.s (.d (.bool (decide (x.arcs = y.arcs)))) (.call 21000 75 _ _ _ en75 rfl (.inl rfl) (.cons (.d _) (.cons (.d _) .nil)) rfl rfl (sp_laws_eqArcS x.arcs y.arcs (by first | assumption | omega | (rw [List.length_take]; omega) | (have := bulkF_mem hb _ (getD_mem (d := default) (by omega)); assumption) | (unfold bulkS at *; omega) | (simp_all; done))) (.skip _ _ (.skip _ _ .nil)) rfl) (Ch.s (.d (.bool (!(decide (x.arcs = y.arcs))))) (.pure (.not _ _ rfl rfl)) (Ch.nil ?_))
   refine T_cond (b := (!(decide (x.arcs = y.arcs)))) rfl (fun h3 => ?_) (fun h3 => ?_)
   ·
    replace h3 := nott h3
    replace h3 := of_decide_eq_false h3
    refine T_seq (T_region hc (Ch.s (.d (.bool false)) pa (Ch.nil (T_ret ?_))))
    exact endR [(.d (.bool false))] [] [] (.cons (.tmp 4 rfl) .nil) (.cons (.any _) (.cons (.any _) .nil)) (Exp.of (congrArg D.bool (by cases x; cases y; simp_all)) (.d _)) rfl rfl
   ·
    replace h3 := notf h3
    replace h3 := of_decide_eq_true h3
    refine T_skip (T_seq (T_region hc (Ch.s (.d (.bool true)) pa (Ch.nil (T_ret ?_)))))
    exact endR [(.d (.bool true))] [] [] (.cons (.tmp 4 rfl) .nil) (.cons (.any _) (.cons (.any _) .nil)) (Exp.of (congrArg D.bool (by cases x; cases y; simp_all)) (.d _)) rfl rfl

theorem sp_laws_szRegionCovers (x : Rcv) (left : Int) (h0 : 0 ≤ left) (h0u : left ≤ 1048576) (hw : x.wide) : Sp Tryz.prog 105 [(.agg [(.int .i64 x.sig), (.bool (x.up)), (.slice false 1 (x.cubes.map D.str))]), (.int .i64 left)] [.any, .any] (.int .i64 (szR x.bulk left)) := by
 refine Sp_intro (lend := true) Tryz.func105 rfl rfl rfl (fun _ => rfl) (fun c hc hX => ?_)
 have e2 := szS_cases x.cubes left
 have ef := szR_cases (bulkS x.cubes) left
 unfold Rcv.wide at hw
 refine T_seq (T_region hc (Ch.s (.ptr 2000 0) (.box 2000 _ _ rfl (.aggD _)) (Ch.s (.d (.int .i64 0)) pa (Ch.nil (T_seq (T_region hc (Ch.s (.ptr 2000 2) (.pure (.fldPtr _ _ _ rfl fld119_2 rfl)) ?_)))))))
 refine Ch.s (.d (.slice false 1 (x.cubes.map D.str))) (.pure (.loadPtr1 _ _ rfl ag23 rfl rfl rfl)) (Ch.s (.d (.int .i64 left)) pm (Ch.s (.d (.int .i64 (szS x.cubes left))) (.call 8000 67 _ _ _ en67 rfl (.inl rfl) (.cons (.d _) (.cons (.d _) .nil)) rfl rfl (sp_laws_szStringS x.cubes left (by first | omega | assumption | (exact hx _ (getD_mem (by omega))) | (exact hx _ (by assumption)) | (exact Nat.le_trans (hx _ (by assumption)) (by omega)) | (simp only [List.length_append, List.length_take, List.length_drop, List.length_cons, List.length_nil]; omega) | (simp_all; done)) (by first | omega | assumption | (exact hx _ (getD_mem (by omega))) | (exact hx _ (by assumption)) | (exact Nat.le_trans (hx _ (by assumption)) (by omega)) | (simp only [List.length_append, List.length_take, List.length_drop, List.length_cons, List.length_nil]; omega) | (simp_all; done)) (by first | omega | assumption | (exact hx _ (getD_mem (by omega))) | (exact hx _ (by assumption)) | (exact Nat.le_trans (hx _ (by assumption)) (by omega)) | (simp only [List.length_append, List.length_take, List.length_drop, List.length_cons, List.length_nil]; omega) | (simp_all; done)) (by first | omega | assumption | (exact hx _ (getD_mem (by omega))) | (exact hx _ (by assumption)) | (exact Nat.le_trans (hx _ (by assumption)) (by omega)) | (simp only [List.length_append, List.length_take, List.length_drop, List.length_cons, List.length_nil]; omega) | (simp_all; done))) (.skip _ _ (.skip _ _ .nil)) rfl) (Ch.s (.d (.int .i64 (szS x.cubes left))) pa (Ch.nil (T_seq (T_seq (T_region hc ?_)))))))
 refine Ch.s (.d (.int .i64 (szS x.cubes left))) pm (Ch.s (.d (.bool (decide ((szS x.cubes left) < 0)))) (.pure (.int _ _ _ _ _ rfl rfl rfl rfl)) (Ch.nil ?_))
 refine T_cond (b := (decide ((szS x.cubes left) < 0))) rfl (fun h1 => ?_) (fun h1 => ?_)
 ·
  replace h1 := of_decide_eq_true h1
  refine T_seq (T_region hc (Ch.s (.d (.int .i64 (-1))) pa (Ch.nil (T_ret ?_))))
  exact endR [(.d (.int .i64 (-1)))] [] [] (.cons (.tmp 4 rfl) .nil) (.cons (.any _) (.cons (.any _) .nil)) (Exp.of (congrArg (D.int .i64) (by show _ = szR (bulkS x.cubes) left; omega)) (.d _)) rfl rfl
 ·
  replace h1 := of_decide_eq_false h1
  refine T_skip (T_seq (T_region hc (Ch.s (.d (.int .i64 (szS x.cubes left))) pm (Ch.s (.d (.int .i64 (szS x.cubes left))) pa (Ch.nil (T_ret ?_))))))
  exact endR [(.d (.int .i64 (szS x.cubes left)))] [] [] (.cons (.tmp 4 rfl) .nil) (.cons (.any _) (.cons (.any _) .nil)) (Exp.of (congrArg (D.int .i64) (by show _ = szR (bulkS x.cubes) left; omega)) (.d _)) rfl rfl

theorem sp_laws_toRegionCovers (x : Rcv) (hb : x.bulk ≤ 1048576) : Sp Tryz.prog 110 [(.agg [(.int .i64 x.sig), (.bool (x.up)), (.slice false 1 (x.cubes.map D.str))])] [.any] (.agg [(.int .i64 x.sig), (.bool (x.up)), (.slice true 1 (x.cubes.map D.str))]) := by
 refine Sp_intro (lend := true) Tryz.func110 rfl rfl rfl (fun _ => rfl) (fun c hc hX => ?_)
 have hp0 := Rcv.parts hb
 have hn0 := bulk_len hp0
 have hx0 := bulk_mem hp0
 refine T_seq (T_region hc (Ch.s (.ptr 1000 0) (.box 1000 _ _ rfl (.aggD _)) (Ch.s (.ptr 2000 0) (.alloc 2000 _ rfl zer121) (Ch.nil (T_seq (T_region hc (Ch.s (.ptr 3000 0) (.alloc 3000 _ rfl zer121) ?_)))))))
 refine Ch.nil (T_seq (T_region hc (Ch.s (.ptr 1000 0) (.pure (.fldPtr _ _ _ rfl fld119_0 rfl)) (Ch.s (.d (.int .i64 x.sig)) (.pure (.loadPtr1 _ _ rfl ag3 rfl rfl rfl)) (Ch.s (.ptr 3000 0) (.pure (.fldPtr _ _ _ rfl fld121_0 rfl)) (Ch.s .junk (.storePtr _ _ _ rfl rfl rfl (.one _ rfl) sz3 (Nat.le_of_ble_eq_true rfl)) (Ch.nil ?_)))))))
 refine T_seq (T_region hc (Ch.s (.ptr 1000 1) (.pure (.fldPtr _ _ _ rfl fld119_1 rfl)) (Ch.s (.d (.bool (x.up))) (.pure (.loadPtr1 _ _ rfl ag4 rfl rfl rfl)) (Ch.s (.ptr 3000 1) (.pure (.fldPtr _ _ _ rfl fld121_1 rfl)) (Ch.s .junk (.storePtr _ _ _ rfl rfl rfl (.one _ rfl) sz4 (Nat.le_of_ble_eq_true rfl)) (Ch.nil (T_seq ?_)))))))
 refine T_region hc (Ch.s (.ptr 1000 2) (.pure (.fldPtr _ _ _ rfl fld119_2 rfl)) (Ch.s (.d (.slice false 1 (x.cubes.map D.str))) (.pure (.loadPtr1 _ _ rfl ag23 rfl rfl rfl)) ?_))
 refine Ch.step (v := (.row 12000)) rfl (.call 12000 71 _ _ _ en71 rfl (.inl rfl) (.cons (.d _) .nil) rfl (sol (solid_row (fun _ => rfl) _) rfl) (sp_laws_toStringS x.cubes (by first | omega | assumption | (exact hx _ (getD_mem (by omega))) | (exact hx _ (by assumption)) | (exact Nat.le_trans (hx _ (by assumption)) (by omega)) | (simp only [List.length_append, List.length_take, List.length_drop, List.length_cons, List.length_nil]; omega) | (simp_all; done))) (.skip _ _ .nil) rfl) rfl rfl ?_
 refine Ch.s (.ptr 3000 2) (.pure (.fldPtr _ _ _ rfl fld121_2 rfl)) (Ch.s .junk (.storePtr _ _ _ rfl rfl rfl (.one _ rfl) sz23 (Nat.le_of_ble_eq_true rfl)) (Ch.nil (T_seq (T_region hc (Ch.s (.agg [(.d (.int .i64 x.sig)), (.d (.bool (x.up))), (.row 12000)]) (.pure (.loadPtrA _ _ rfl ag121 sz121 rfl rfl (Nat.le_of_ble_eq_true rfl) rfl)) (Ch.s .junk (.storePtr _ _ _ rfl rfl rfl (.agg _ rfl) sz121 (Nat.le_of_ble_eq_true rfl)) (Ch.nil ?_)))))))
 refine T_ret ?_
 exact endR [(.agg [(.d (.int .i64 x.sig)), (.d (.bool (x.up))), (.row 12000)])] [] [12000] (.cons (.cellA _ _ rfl rfl ag121 sz121) .nil) (.cons (.any _) .nil) (.agg (.cons (.d _) (.cons (.d _) (.cons (.row rfl) .nil))) rfl) rfl rfl

theorem sp_laws_eqRegionCovers (x y : Rcv) (hb : x.bulk ≤ 1048576) : Sp Tryz.prog 116 [(.agg [(.int .i64 x.sig), (.bool (x.up)), (.slice false 1 (x.cubes.map D.str))]), (.agg [(.int .i64 y.sig), (.bool (y.up)), (.slice false 1 (y.cubes.map D.str))])] [.any, .any] (.bool (decide (x = y))) := by
 refine Sp_intro (lend := true) Tryz.func116 rfl rfl rfl (fun _ => rfl) (fun c hc hX => ?_)
 have hp0 := Rcv.parts hb
 have hn0 := bulk_len hp0
 have hx0 := bulk_mem hp0
 refine T_seq (T_region hc (Ch.s (.ptr 2000 0) (.box 2000 _ _ rfl (.aggD _)) (Ch.s (.ptr 3000 0) (.box 3000 _ _ rfl (.aggD _)) (Ch.s (.d (.bool false)) pa (Ch.nil (T_seq (T_seq ?_)))))))
 refine T_region hc (Ch.s (.ptr 2000 0) (.pure (.fldPtr _ _ _ rfl fld121_0 rfl)) (Ch.s (.d (.int .i64 x.sig)) (.pure (.loadPtr1 _ _ rfl ag3 rfl rfl rfl)) (Ch.s (.ptr 3000 0) (.pure (.fldPtr _ _ _ rfl fld121_0 rfl)) (Ch.s (.d (.int .i64 y.sig)) (.pure (.loadPtr1 _ _ rfl ag3 rfl rfl rfl)) (Ch.s (.d (.bool (!(decide (x.sig = y.sig))))) (.pure (.int _ _ _ _ _ rfl rfl rfl rfl)) (Ch.nil ?_))))))
 refine T_cond (b := (!(decide (x.sig = y.sig)))) rfl (fun h1 => ?_) (fun h1 => ?_)
 ·
  replace h1 := nott h1
  replace h1 := of_decide_eq_false h1
  refine T_seq (T_region hc (Ch.s (.d (.bool false)) pa (Ch.nil (T_ret ?_))))
  exact endR [(.d (.bool false))] [] [] (.cons (.tmp 4 rfl) .nil) (.cons (.any _) (.cons (.any _) .nil)) (Exp.of (congrArg D.bool (by cases x; cases y; simp_all)) (.d _)) rfl rfl
 ·
  replace h1 := notf h1
  replace h1 := of_decide_eq_true h1
  refine T_skip (T_seq (T_seq (T_region hc (Ch.s (.ptr 2000 1) (.pure (.fldPtr _ _ _ rfl fld121_1 rfl)) (Ch.s (.d (.bool (x.up))) (.pure (.loadPtr1 _ _ rfl ag4 rfl rfl rfl)) (Ch.s (.ptr 3000 1) (.pure (.fldPtr _ _ _ rfl fld121_1 rfl)) (Ch.s (.d (.bool (y.up))) (.pure (.loadPtr1 _ _ rfl ag4 rfl rfl rfl)) ?_)))))))
  refine Ch.s (.d (.bool (!(decide ((x.up) = (y.up)))))) (.pure (.neB _ _ _ _ rfl Tryz.underlying4 rfl rfl)) (Ch.nil ?_)
  refine T_cond (b := (!(decide ((x.up) = (y.up))))) rfl (fun h2 => ?_) (fun h2 => ?_)
  ·
   replace h2 := nott h2
   replace h2 := of_decide_eq_false h2
   refine T_seq (T_region hc (Ch.s (.d (.bool false)) pa (Ch.nil (T_ret ?_))))
   exact endR [(.d (.bool false))] [] [] (.cons (.tmp 4 rfl) .nil) (.cons (.any _) (.cons (.any _) .nil)) (Exp.of (congrArg D.bool (by cases x; cases y; simp_all)) (.d _)) rfl rfl
  ·
   replace h2 := notf h2
   replace h2 := of_decide_eq_true h2
   refine T_skip (T_seq (T_seq (T_region hc (Ch.s (.ptr 2000 2) (.pure (.fldPtr _ _ _ rfl fld121_2 rfl)) (Ch.s (.d (.slice false 1 (x.cubes.map D.str))) (.pure (.loadPtr1 _ _ rfl ag23 rfl rfl rfl)) (Ch.s (.ptr 3000 2) (.pure (.fldPtr _ _ _ rfl fld121_2 rfl)) (Ch.s (.d (.slice false 1 (y.cubes.map D.str))) (.pure (.loadPtr1 _ _ rfl ag23 rfl rfl rfl)) ?_)))))))
   refine Ch.s (.d (.bool (decide (x.cubes = y.cubes)))) (.call 19000 29 _ _ _ en29 rfl (.inl rfl) (.cons (.d _) (.cons (.d _) .nil)) rfl rfl (sp_laws_eqStringS x.cubes y.cubes (by first | omega | assumption | (exact hx _ (getD_mem (by omega))) | (exact hx _ (by assumption)) | (exact Nat.le_trans (hx _ (by assumption)) (by omega)) | (simp only [List.length_append, List.length_take, List.length_drop, List.length_cons, List.length_nil]; omega) | (simp_all; done))) (.skip _ _ (.skip _ _ .nil)) rfl) (Ch.s (.d (.bool (!(decide (x.cubes = y.cubes))))) (.pure (.not _ _ rfl rfl)) (Ch.nil ?_))
   refine T_cond (b := (!(decide (x.cubes = y.cubes)))) rfl (fun h3 => ?_) (fun h3 => ?_)
   ·
    replace h3 := nott h3
    replace h3 := of_decide_eq_false h3
    refine T_seq (T_region hc (Ch.s (.d (.bool false)) pa (Ch.nil (T_ret ?_))))
    exact endR [(.d (.bool false))] [] [] (.cons (.tmp 4 rfl) .nil) (.cons (.any _) (.cons (.any _) .nil)) (Exp.of (congrArg D.bool (by cases x; cases y; simp_all)) (.d _)) rfl rfl
   ·
    replace h3 := notf h3
    replace h3 := of_decide_eq_true h3
    refine T_skip (T_seq (T_region hc (Ch.s (.d (.bool true)) pa (Ch.nil (T_ret ?_)))))
    exact endR [(.d (.bool true))] [] [] (.cons (.tmp 4 rfl) .nil) (.cons (.any _) (.cons (.any _) .nil)) (Exp.of (congrArg D.bool (by cases x; cases y; simp_all)) (.d _)) rfl rfl

theorem en263 : Enters Tryz.prog 263 := ⟨_, Tryz.func263, by kernel_rfl, rfl⟩

theorem en251 : Enters Tryz.prog 251 := ⟨_, Tryz.func251, by kernel_rfl, rfl⟩

theorem en234 : Enters Tryz.prog 234 := ⟨_, Tryz.func234, by kernel_rfl, rfl⟩

theorem en236 : Enters Tryz.prog 236 := ⟨_, Tryz.func236, by kernel_rfl, rfl⟩

theorem en235 : Enters Tryz.prog 235 := ⟨_, Tryz.func235, by kernel_rfl, rfl⟩

theorem en218 : Enters Tryz.prog 218 := ⟨_, Tryz.func218, by kernel_rfl, rfl⟩

def letB (x : UInt8) : Bool := decide ((97 : UInt8) ≤ x) && decide (x ≤ 122)

def digB (x : UInt8) : Bool := decide ((48 : UInt8) ≤ x) && decide (x ≤ 57)

def nameCh (x : UInt8) (j : Nat) : Bool := letB x || (digB x && !decide ((j : Int) = 0))

def nameB (u : List UInt8) : Bool := allB u.length (fun j => nameCh (u.getD j 0) j) && withinB u.length 1 6

def sigOk (xs : List Sgn) (j : Nat) : Bool := nameB (xs.getD j default).name && (withinB (xs.getD j default).kind 1 3 && !(xs.take j).any fun y => decide (y.name = (xs.getD j default).name))

def sigsB (xs : List Sgn) : Bool := allB xs.length (sigOk xs) && withinB xs.length 1 8

theorem sigsB_len {sg : List Sgn} (h : sigsB sg = true) : withinB (sg.length : Int) 1 8 = true := by
 unfold sigsB at h
 simp only [Bool.and_eq_true] at h
 exact h.2

theorem digB_n (x : UInt8) : digB x = (!decide (x < 48) && !decide (57 < x)) := by
 unfold digB; rw [← decide_not, ← decide_not]; simp only [UInt8.not_lt]

theorem sp_impl_isName (u : List UInt8) (hu : u.length ≤ 1048576) : Sp Tryz.prog 234 [(.str u)] [.any] (.bool (nameB u)) := by
 refine Sp_intro (lend := true) Tryz.func234 rfl rfl rfl (fun _ => rfl) (fun c hc hX => ?_)
 refine T_seq (T_region hc (Ch.s (.d (.bool false)) pa (Ch.nil (T_seq (T_seq (T_region hc (Ch.s (.d (.int .i64 0)) pa ?_)))))))
 refine Ch.nil (T_block ?_)
 refine T_loop (ι := Nat) (fun k => { n := 45, sl := [(0, (.d (.str u))), (3, (.d (.int .i64 ((k : Nat) : Int))))], hp := [], pin := [] }) (fun k => k ≤ u.length ∧ ∀ j, j < k → nameCh (u.getD j 0) j = true) (fun k => u.length - k) ⟨0, ⟨by omega, fun j hj => by omega⟩, (Wk.of rfl rfl (ai rfl (ai (vI (by first | rfl | omega | (simp; done) | (simp; omega))) trivial)) trivial)⟩ (fun k hp0 => ?_)
 refine T_seq (T_seq (T_region hc (Ch.s (.d (.int .i64 ((k : Nat) : Int))) pm (Ch.s (.d (.str u)) pm (Ch.s (.d (.int .i64 ((u.length : Nat) : Int))) (.pure (.lenStr _ _ rfl Tryz.underlying9 rfl)) (Ch.s (.d (.bool (decide (((k : Nat) : Int) < ((u.length : Nat) : Int))))) (.pure (.int _ _ _ _ _ rfl rfl rfl rfl)) (Ch.nil ?_)))))))
 refine T_cond (b := (decide (((k : Nat) : Int) < ((u.length : Nat) : Int)))) rfl (fun h1 => ?_) (fun h1 => ?_)
 ·
  replace h1 := of_decide_eq_true h1
  refine T_skip (T_seq (T_block (T_seq ?_)))
  refine T_regionD hc (by kernel_rfl) ?_
  refine ChD.s (.d (.str u)) [] pm (ChD.s (.d (.int .i64 ((k : Nat) : Int))) [] pm (ChD.s (.d (.int .u8 ((u.getD k 0).toNat : Int))) [] (.pure (.idxStr _ _ _ (k) rfl Tryz.underlying9 rfl rfl rfl get_strA)) (ChD.s (.d (.bool (decide (97 ≤ ((u.getD k 0) : UInt8))))) [] (.pure (.int _ _ _ _ _ rfl rfl rfl (u8_geq ((u.getD k 0) : UInt8) 97 rfl rfl))) (ChD.s (.d (.bool (decide (97 ≤ ((u.getD k 0) : UInt8))))) [] pm ?_))))
  cases h2 : (decide (97 ≤ ((u.getD k 0) : UInt8))) with
  | true =>
   replace h2 := of_decide_eq_true h2
   refine ChD.s (.d (.str u)) [] pm (ChD.s (.d (.int .i64 ((k : Nat) : Int))) [] pm (ChD.s (.d (.int .u8 ((u.getD k 0).toNat : Int))) [] (.pure (.idxStr _ _ _ (k) rfl Tryz.underlying9 rfl rfl rfl get_strA)) (ChD.s (.d (.bool (decide (((u.getD k 0) : UInt8) ≤ 122)))) [] (.pure (.int _ _ _ _ _ rfl rfl rfl (u8_leq ((u.getD k 0) : UInt8) 122 rfl rfl))) (ChD.s (.d (.bool (decide (((u.getD k 0) : UInt8) ≤ 122)))) [] (.pure (.pickT _ _ _ rfl rfl rfl)) (ChD.s (.d (.str u)) [] pm (ChD.s (.d (.int .i64 ((k : Nat) : Int))) [] pm (ChD.s (.d (.int .u8 ((u.getD k 0).toNat : Int))) [] (.pure (.idxStr _ _ _ (k) rfl Tryz.underlying9 rfl rfl rfl get_strA)) ?_)))))))
   refine ChD.s (.d (.bool (decide (48 ≤ ((u.getD k 0) : UInt8))))) [] (.pure (.int _ _ _ _ _ rfl rfl rfl (u8_geq ((u.getD k 0) : UInt8) 48 rfl rfl))) (ChD.s (.d (.bool (decide (48 ≤ ((u.getD k 0) : UInt8))))) [] pm ?_)
   cases h3 : (decide (48 ≤ ((u.getD k 0) : UInt8))) with
   | true =>
    replace h3 := of_decide_eq_true h3
    refine ChD.s (.d (.str u)) [] pm (ChD.s (.d (.int .i64 ((k : Nat) : Int))) [] pm (ChD.s (.d (.int .u8 ((u.getD k 0).toNat : Int))) [] (.pure (.idxStr _ _ _ (k) rfl Tryz.underlying9 rfl rfl rfl get_strA)) (ChD.s (.d (.bool (decide (((u.getD k 0) : UInt8) ≤ 57)))) [] (.pure (.int _ _ _ _ _ rfl rfl rfl (u8_leq ((u.getD k 0) : UInt8) 57 rfl rfl))) (ChD.s (.d (.bool (decide (((u.getD k 0) : UInt8) ≤ 57)))) [] (.pure (.pickT _ _ _ rfl rfl rfl)) (ChD.s (.d (.bool (decide (((u.getD k 0) : UInt8) ≤ 122)))) [] pa (ChD.s (.d (.bool (decide (((u.getD k 0) : UInt8) ≤ 57)))) [] pa ?_))))))
    refine ChD.nil (And.intro ?_ (by kernel_rfl))
    refine T_seq (T_region hc (Ch.s (.d (.bool (decide (((u.getD k 0) : UInt8) ≤ 122)))) pm (Ch.s (.d (.bool (!(decide (((u.getD k 0) : UInt8) ≤ 122))))) (.pure (.not _ _ rfl rfl)) (Ch.s (.d (.bool (!(decide (((u.getD k 0) : UInt8) ≤ 122))))) pm ?_))))
    cases h4 : (decide (((u.getD k 0) : UInt8) ≤ 122)) with
    | true =>
     replace h4 := of_decide_eq_true h4
     refine Ch.skip rfl rfl (Ch.skip rfl rfl (Ch.skip rfl rfl (Ch.skip rfl rfl (Ch.skip rfl rfl (Ch.skip rfl rfl (Ch.s (.d (.bool false)) (.pure (.pickF _ _ _ rfl rfl rfl)) (Ch.nil ?_)))))))
     refine T_cond (b := false) rfl (fun h => nomatch h) (fun _ => ?_)
     refine T_skip (T_region hc (Ch.s (.d (.int .i64 ((k : Nat) : Int))) pm (Ch.s (.d (.int .i64 (((k : Nat) : Int) + 1))) (.pure (.int _ _ _ _ _ rfl rfl rfl intV_addA)) (Ch.s (.d (.int .i64 (((k : Nat) : Int) + 1))) pa (Ch.nil ?_)))))
     exact nx (k + 1) ⟨by omega, upto_succ hp0.2 (by first | (rw [nameCh, letB, digB]; simp only [*, decide_true, decide_false, Bool.and_true, Bool.true_and, Bool.and_false, Bool.false_and, Bool.or_false, Bool.false_or, Bool.or_true, Bool.true_or, Bool.not_true, Bool.not_false, not_false_eq_true]; done) | (rw [nameCh, letB, digB_n]; simp only [*, decide_true, decide_false, Bool.and_true, Bool.true_and, Bool.and_false, Bool.false_and, Bool.or_false, Bool.false_or, Bool.or_true, Bool.true_or, Bool.not_true, Bool.not_false, not_false_eq_true]; done))⟩ (Wk.of rfl rfl (ai rfl (ai (vI (by first | rfl | omega | (simp; done) | (simp; omega))) trivial)) trivial)
    | false =>
     replace h4 := of_decide_eq_false h4
     refine Ch.s (.d (.bool (decide (((u.getD k 0) : UInt8) ≤ 57)))) pm (Ch.s (.d (.bool (!(decide (((u.getD k 0) : UInt8) ≤ 57))))) (.pure (.not _ _ rfl rfl)) (Ch.s (.d (.bool (!(decide (((u.getD k 0) : UInt8) ≤ 57))))) pm ?_))
     cases h5 : (decide (((u.getD k 0) : UInt8) ≤ 57)) with
     | true =>
      replace h5 := of_decide_eq_true h5
      refine Ch.s (.d (.int .i64 ((k : Nat) : Int))) pm (Ch.s (.d (.bool (decide (((k : Nat) : Int) = 0)))) (.pure (.int _ _ _ _ _ rfl rfl rfl rfl)) (Ch.s (.d (.bool (decide (((k : Nat) : Int) = 0)))) (.pure (.pickF _ _ _ rfl rfl rfl)) (Ch.s (.d (.bool (decide (((k : Nat) : Int) = 0)))) (.pure (.pickT _ _ _ rfl rfl rfl)) (Ch.nil ?_))))
      refine T_cond (b := (decide (((k : Nat) : Int) = 0))) rfl (fun h6 => ?_) (fun h6 => ?_)
      ·
       replace h6 := of_decide_eq_true h6
       refine T_seq (T_region hc (Ch.s (.d (.bool false)) pa (Ch.nil (T_ret ?_))))
       exact endR [(.d (.bool false))] [] [] (.cons (.tmp 2 rfl) .nil) (.cons (.any _) .nil) (Exp.of (congrArg D.bool (by first | (rw [nameB, allB_no k (by omega) (by first | (rw [nameCh, letB, digB]; simp only [*, decide_true, decide_false, Bool.and_true, Bool.true_and, Bool.and_false, Bool.false_and, Bool.or_false, Bool.false_or, Bool.or_true, Bool.true_or, Bool.not_true, Bool.not_false, not_false_eq_true]; done) | (rw [nameCh, letB, digB_n]; simp only [*, decide_true, decide_false, Bool.and_true, Bool.true_and, Bool.and_false, Bool.false_and, Bool.or_false, Bool.false_or, Bool.or_true, Bool.true_or, Bool.not_true, Bool.not_false, not_false_eq_true]; done))]; rfl) | (rw [nameB, allB_of (fun j hj => hp0.2 j (by omega)), Bool.true_and]; done))) (.d _)) rfl rfl
      ·
       replace h6 := of_decide_eq_false h6
       refine T_skip (T_region hc (Ch.s (.d (.int .i64 ((k : Nat) : Int))) pm (Ch.s (.d (.int .i64 (((k : Nat) : Int) + 1))) (.pure (.int _ _ _ _ _ rfl rfl rfl intV_addA)) (Ch.s (.d (.int .i64 (((k : Nat) : Int) + 1))) pa (Ch.nil ?_)))))
       exact nx (k + 1) ⟨by omega, upto_succ hp0.2 (by first | (rw [nameCh, letB, digB]; simp only [*, decide_true, decide_false, Bool.and_true, Bool.true_and, Bool.and_false, Bool.false_and, Bool.or_false, Bool.false_or, Bool.or_true, Bool.true_or, Bool.not_true, Bool.not_false, not_false_eq_true]; done) | (rw [nameCh, letB, digB_n]; simp only [*, decide_true, decide_false, Bool.and_true, Bool.true_and, Bool.and_false, Bool.false_and, Bool.or_false, Bool.false_or, Bool.or_true, Bool.true_or, Bool.not_true, Bool.not_false, not_false_eq_true]; done))⟩ (Wk.of rfl rfl (ai rfl (ai (vI (by first | rfl | omega | (simp; done) | (simp; omega))) trivial)) trivial)
     | false =>
      replace h5 := of_decide_eq_false h5
      refine Ch.skip rfl rfl (Ch.skip rfl rfl (Ch.s (.d (.bool true)) (.pure (.pickT _ _ _ rfl rfl rfl)) (Ch.s (.d (.bool true)) (.pure (.pickT _ _ _ rfl rfl rfl)) (Ch.nil ?_))))
      refine T_cond (b := true) rfl (fun _ => ?_) (fun h => nomatch h)
      refine T_seq (T_region hc (Ch.s (.d (.bool false)) pa (Ch.nil (T_ret ?_))))
      exact endR [(.d (.bool false))] [] [] (.cons (.tmp 2 rfl) .nil) (.cons (.any _) .nil) (Exp.of (congrArg D.bool (by first | (rw [nameB, allB_no k (by omega) (by first | (rw [nameCh, letB, digB]; simp only [*, decide_true, decide_false, Bool.and_true, Bool.true_and, Bool.and_false, Bool.false_and, Bool.or_false, Bool.false_or, Bool.or_true, Bool.true_or, Bool.not_true, Bool.not_false, not_false_eq_true]; done) | (rw [nameCh, letB, digB_n]; simp only [*, decide_true, decide_false, Bool.and_true, Bool.true_and, Bool.and_false, Bool.false_and, Bool.or_false, Bool.false_or, Bool.or_true, Bool.true_or, Bool.not_true, Bool.not_false, not_false_eq_true]; done))]; rfl) | (rw [nameB, allB_of (fun j hj => hp0.2 j (by omega)), Bool.true_and]; done))) (.d _)) rfl rfl
   | false =>
    replace h3 := of_decide_eq_false h3
    refine ChD.skip rfl rfl (ChD.skip rfl rfl (ChD.skip rfl rfl (ChD.skip rfl rfl (ChD.s (.d (.bool false)) [] (.pure (.pickF _ _ _ rfl rfl rfl)) (ChD.s (.d (.bool (decide (((u.getD k 0) : UInt8) ≤ 122)))) [] pa (ChD.s (.d (.bool false)) [] pa ?_))))))
    refine ChD.nil (And.intro ?_ (by kernel_rfl))
    refine T_seq (T_region hc (Ch.s (.d (.bool (decide (((u.getD k 0) : UInt8) ≤ 122)))) pm (Ch.s (.d (.bool (!(decide (((u.getD k 0) : UInt8) ≤ 122))))) (.pure (.not _ _ rfl rfl)) (Ch.s (.d (.bool (!(decide (((u.getD k 0) : UInt8) ≤ 122))))) pm ?_))))
    cases h7 : (decide (((u.getD k 0) : UInt8) ≤ 122)) with
    | true =>
     replace h7 := of_decide_eq_true h7
     refine Ch.skip rfl rfl (Ch.skip rfl rfl (Ch.skip rfl rfl (Ch.skip rfl rfl (Ch.skip rfl rfl (Ch.skip rfl rfl (Ch.s (.d (.bool false)) (.pure (.pickF _ _ _ rfl rfl rfl)) (Ch.nil ?_)))))))
     refine T_cond (b := false) rfl (fun h => nomatch h) (fun _ => ?_)
     refine T_skip (T_region hc (Ch.s (.d (.int .i64 ((k : Nat) : Int))) pm (Ch.s (.d (.int .i64 (((k : Nat) : Int) + 1))) (.pure (.int _ _ _ _ _ rfl rfl rfl intV_addA)) (Ch.s (.d (.int .i64 (((k : Nat) : Int) + 1))) pa (Ch.nil ?_)))))
     exact nx (k + 1) ⟨by omega, upto_succ hp0.2 (by first | (rw [nameCh, letB, digB]; simp only [*, decide_true, decide_false, Bool.and_true, Bool.true_and, Bool.and_false, Bool.false_and, Bool.or_false, Bool.false_or, Bool.or_true, Bool.true_or, Bool.not_true, Bool.not_false, not_false_eq_true]; done) | (rw [nameCh, letB, digB_n]; simp only [*, decide_true, decide_false, Bool.and_true, Bool.true_and, Bool.and_false, Bool.false_and, Bool.or_false, Bool.false_or, Bool.or_true, Bool.true_or, Bool.not_true, Bool.not_false, not_false_eq_true]; done))⟩ (Wk.of rfl rfl (ai rfl (ai (vI (by first | rfl | omega | (simp; done) | (simp; omega))) trivial)) trivial)
    | false =>
     replace h7 := of_decide_eq_false h7
     refine Ch.s (.d (.bool false)) pm (Ch.s (.d (.bool true)) (.pure (.not (b := false) _ _ rfl rfl)) (Ch.s (.d (.bool true)) pm (Ch.skip rfl rfl (Ch.skip rfl rfl (Ch.s (.d (.bool true)) (.pure (.pickT _ _ _ rfl rfl rfl)) (Ch.s (.d (.bool true)) (.pure (.pickT _ _ _ rfl rfl rfl)) (Ch.nil ?_)))))))
     refine T_cond (b := true) rfl (fun _ => ?_) (fun h => nomatch h)
     refine T_seq (T_region hc (Ch.s (.d (.bool false)) pa (Ch.nil (T_ret ?_))))
     exact endR [(.d (.bool false))] [] [] (.cons (.tmp 2 rfl) .nil) (.cons (.any _) .nil) (Exp.of (congrArg D.bool (by first | (rw [nameB, allB_no k (by omega) (by first | (rw [nameCh, letB, digB]; simp only [*, decide_true, decide_false, Bool.and_true, Bool.true_and, Bool.and_false, Bool.false_and, Bool.or_false, Bool.false_or, Bool.or_true, Bool.true_or, Bool.not_true, Bool.not_false, not_false_eq_true]; done) | (rw [nameCh, letB, digB_n]; simp only [*, decide_true, decide_false, Bool.and_true, Bool.true_and, Bool.and_false, Bool.false_and, Bool.or_false, Bool.false_or, Bool.or_true, Bool.true_or, Bool.not_true, Bool.not_false, not_false_eq_true]; done))]; rfl) | (rw [nameB, allB_of (fun j hj => hp0.2 j (by omega)), Bool.true_and]; done))) (.d _)) rfl rfl
  | false =>
   replace h2 := of_decide_eq_false h2
   refine ChD.skip rfl rfl (ChD.skip rfl rfl (ChD.skip rfl rfl (ChD.skip rfl rfl (ChD.s (.d (.bool false)) [] (.pure (.pickF _ _ _ rfl rfl rfl)) (ChD.s (.d (.str u)) [] pm (ChD.s (.d (.int .i64 ((k : Nat) : Int))) [] pm (ChD.s (.d (.int .u8 ((u.getD k 0).toNat : Int))) [] (.pure (.idxStr _ _ _ (k) rfl Tryz.underlying9 rfl rfl rfl get_strA)) ?_)))))))
   refine ChD.s (.d (.bool (decide (48 ≤ ((u.getD k 0) : UInt8))))) [] (.pure (.int _ _ _ _ _ rfl rfl rfl (u8_geq ((u.getD k 0) : UInt8) 48 rfl rfl))) (ChD.s (.d (.bool (decide (48 ≤ ((u.getD k 0) : UInt8))))) [] pm ?_)
   cases h8 : (decide (48 ≤ ((u.getD k 0) : UInt8))) with
   | true =>
    replace h8 := of_decide_eq_true h8
    refine ChD.s (.d (.str u)) [] pm (ChD.s (.d (.int .i64 ((k : Nat) : Int))) [] pm (ChD.s (.d (.int .u8 ((u.getD k 0).toNat : Int))) [] (.pure (.idxStr _ _ _ (k) rfl Tryz.underlying9 rfl rfl rfl get_strA)) (ChD.s (.d (.bool (decide (((u.getD k 0) : UInt8) ≤ 57)))) [] (.pure (.int _ _ _ _ _ rfl rfl rfl (u8_leq ((u.getD k 0) : UInt8) 57 rfl rfl))) (ChD.s (.d (.bool (decide (((u.getD k 0) : UInt8) ≤ 57)))) [] (.pure (.pickT _ _ _ rfl rfl rfl)) (ChD.s (.d (.bool false)) [] pa (ChD.s (.d (.bool (decide (((u.getD k 0) : UInt8) ≤ 57)))) [] pa ?_))))))
    refine ChD.nil (And.intro ?_ (by kernel_rfl))
    refine T_seq (T_region hc (Ch.s (.d (.bool false)) pm (Ch.s (.d (.bool true)) (.pure (.not (b := false) _ _ rfl rfl)) (Ch.s (.d (.bool true)) pm (Ch.s (.d (.bool (decide (((u.getD k 0) : UInt8) ≤ 57)))) pm (Ch.s (.d (.bool (!(decide (((u.getD k 0) : UInt8) ≤ 57))))) (.pure (.not _ _ rfl rfl)) (Ch.s (.d (.bool (!(decide (((u.getD k 0) : UInt8) ≤ 57))))) pm ?_)))))))
    cases h9 : (decide (((u.getD k 0) : UInt8) ≤ 57)) with
    | true =>
     replace h9 := of_decide_eq_true h9
     refine Ch.s (.d (.int .i64 ((k : Nat) : Int))) pm (Ch.s (.d (.bool (decide (((k : Nat) : Int) = 0)))) (.pure (.int _ _ _ _ _ rfl rfl rfl rfl)) (Ch.s (.d (.bool (decide (((k : Nat) : Int) = 0)))) (.pure (.pickF _ _ _ rfl rfl rfl)) (Ch.s (.d (.bool (decide (((k : Nat) : Int) = 0)))) (.pure (.pickT _ _ _ rfl rfl rfl)) (Ch.nil ?_))))
     refine T_cond (b := (decide (((k : Nat) : Int) = 0))) rfl (fun h10 => ?_) (fun h10 => ?_)
     ·
      replace h10 := of_decide_eq_true h10
      refine T_seq (T_region hc (Ch.s (.d (.bool false)) pa (Ch.nil (T_ret ?_))))
      exact endR [(.d (.bool false))] [] [] (.cons (.tmp 2 rfl) .nil) (.cons (.any _) .nil) (Exp.of (congrArg D.bool (by first | (rw [nameB, allB_no k (by omega) (by first | (rw [nameCh, letB, digB]; simp only [*, decide_true, decide_false, Bool.and_true, Bool.true_and, Bool.and_false, Bool.false_and, Bool.or_false, Bool.false_or, Bool.or_true, Bool.true_or, Bool.not_true, Bool.not_false, not_false_eq_true]; done) | (rw [nameCh, letB, digB_n]; simp only [*, decide_true, decide_false, Bool.and_true, Bool.true_and, Bool.and_false, Bool.false_and, Bool.or_false, Bool.false_or, Bool.or_true, Bool.true_or, Bool.not_true, Bool.not_false, not_false_eq_true]; done))]; rfl) | (rw [nameB, allB_of (fun j hj => hp0.2 j (by omega)), Bool.true_and]; done))) (.d _)) rfl rfl
     ·
      replace h10 := of_decide_eq_false h10
      refine T_skip (T_region hc (Ch.s (.d (.int .i64 ((k : Nat) : Int))) pm (Ch.s (.d (.int .i64 (((k : Nat) : Int) + 1))) (.pure (.int _ _ _ _ _ rfl rfl rfl intV_addA)) (Ch.s (.d (.int .i64 (((k : Nat) : Int) + 1))) pa (Ch.nil ?_)))))
      exact nx (k + 1) ⟨by omega, upto_succ hp0.2 (by first | (rw [nameCh, letB, digB]; simp only [*, decide_true, decide_false, Bool.and_true, Bool.true_and, Bool.and_false, Bool.false_and, Bool.or_false, Bool.false_or, Bool.or_true, Bool.true_or, Bool.not_true, Bool.not_false, not_false_eq_true]; done) | (rw [nameCh, letB, digB_n]; simp only [*, decide_true, decide_false, Bool.and_true, Bool.true_and, Bool.and_false, Bool.false_and, Bool.or_false, Bool.false_or, Bool.or_true, Bool.true_or, Bool.not_true, Bool.not_false, not_false_eq_true]; done))⟩ (Wk.of rfl rfl (ai rfl (ai (vI (by first | rfl | omega | (simp; done) | (simp; omega))) trivial)) trivial)
    | false =>
     replace h9 := of_decide_eq_false h9
     refine Ch.skip rfl rfl (Ch.skip rfl rfl (Ch.s (.d (.bool true)) (.pure (.pickT _ _ _ rfl rfl rfl)) (Ch.s (.d (.bool true)) (.pure (.pickT _ _ _ rfl rfl rfl)) (Ch.nil ?_))))
     refine T_cond (b := true) rfl (fun _ => ?_) (fun h => nomatch h)
     refine T_seq (T_region hc (Ch.s (.d (.bool false)) pa (Ch.nil (T_ret ?_))))
     exact endR [(.d (.bool false))] [] [] (.cons (.tmp 2 rfl) .nil) (.cons (.any _) .nil) (Exp.of (congrArg D.bool (by first | (rw [nameB, allB_no k (by omega) (by first | (rw [nameCh, letB, digB]; simp only [*, decide_true, decide_false, Bool.and_true, Bool.true_and, Bool.and_false, Bool.false_and, Bool.or_false, Bool.false_or, Bool.or_true, Bool.true_or, Bool.not_true, Bool.not_false, not_false_eq_true]; done) | (rw [nameCh, letB, digB_n]; simp only [*, decide_true, decide_false, Bool.and_true, Bool.true_and, Bool.and_false, Bool.false_and, Bool.or_false, Bool.false_or, Bool.or_true, Bool.true_or, Bool.not_true, Bool.not_false, not_false_eq_true]; done))]; rfl) | (rw [nameB, allB_of (fun j hj => hp0.2 j (by omega)), Bool.true_and]; done))) (.d _)) rfl rfl
   | false =>
    replace h8 := of_decide_eq_false h8
    refine ChD.skip rfl rfl (ChD.skip rfl rfl (ChD.skip rfl rfl (ChD.skip rfl rfl (ChD.s (.d (.bool false)) [] (.pure (.pickF _ _ _ rfl rfl rfl)) (ChD.s (.d (.bool false)) [] pa (ChD.s (.d (.bool false)) [] pa ?_))))))
    refine ChD.nil (And.intro ?_ (by kernel_rfl))
    refine T_seq (T_region hc (Ch.s (.d (.bool false)) pm (Ch.s (.d (.bool true)) (.pure (.not (b := false) _ _ rfl rfl)) (Ch.s (.d (.bool true)) pm (Ch.s (.d (.bool false)) pm (Ch.s (.d (.bool true)) (.pure (.not (b := false) _ _ rfl rfl)) (Ch.s (.d (.bool true)) pm ?_)))))))
    refine Ch.skip rfl rfl (Ch.skip rfl rfl (Ch.s (.d (.bool true)) (.pure (.pickT _ _ _ rfl rfl rfl)) (Ch.s (.d (.bool true)) (.pure (.pickT _ _ _ rfl rfl rfl)) (Ch.nil ?_))))
    refine T_cond (b := true) rfl (fun _ => ?_) (fun h => nomatch h)
    refine T_seq (T_region hc (Ch.s (.d (.bool false)) pa (Ch.nil (T_ret ?_))))
    exact endR [(.d (.bool false))] [] [] (.cons (.tmp 2 rfl) .nil) (.cons (.any _) .nil) (Exp.of (congrArg D.bool (by first | (rw [nameB, allB_no k (by omega) (by first | (rw [nameCh, letB, digB]; simp only [*, decide_true, decide_false, Bool.and_true, Bool.true_and, Bool.and_false, Bool.false_and, Bool.or_false, Bool.false_or, Bool.or_true, Bool.true_or, Bool.not_true, Bool.not_false, not_false_eq_true]; done) | (rw [nameCh, letB, digB_n]; simp only [*, decide_true, decide_false, Bool.and_true, Bool.true_and, Bool.and_false, Bool.false_and, Bool.or_false, Bool.false_or, Bool.or_true, Bool.true_or, Bool.not_true, Bool.not_false, not_false_eq_true]; done))]; rfl) | (rw [nameB, allB_of (fun j hj => hp0.2 j (by omega)), Bool.true_and]; done))) (.d _)) rfl rfl
 ·
  replace h1 := of_decide_eq_false h1
  refine T_exit (T_seq (T_region hc (Ch.s (.d (.str u)) pm (Ch.s (.d (.int .i64 ((u.length : Nat) : Int))) (.pure (.lenStr _ _ rfl Tryz.underlying9 rfl)) (Ch.s (.d (.bool (withinB ((u.length : Nat) : Int) 1 6))) (.call 44000 91 _ _ _ en91 rfl (.inl rfl) (.cons (.d _) (.cons (.d _) (.cons (.d _) .nil))) rfl rfl (sp_impl_within ((u.length : Nat) : Int) 1 6) (.skip _ _ (.skip _ _ (.skip _ _ .nil))) rfl) (Ch.s (.d (.bool (withinB ((u.length : Nat) : Int) 1 6))) pa (Ch.nil ?_)))))))
  refine T_ret ?_
  exact endR [(.d (.bool (withinB ((u.length : Nat) : Int) 1 6)))] [] [] (.cons (.tmp 2 rfl) .nil) (.cons (.any _) .nil) (Exp.of (congrArg D.bool (by first | (rw [nameB, allB_no k (by omega) (by first | (rw [nameCh, letB, digB]; simp only [*, decide_true, decide_false, Bool.and_true, Bool.true_and, Bool.and_false, Bool.false_and, Bool.or_false, Bool.false_or, Bool.or_true, Bool.true_or, Bool.not_true, Bool.not_false, not_false_eq_true]; done) | (rw [nameCh, letB, digB_n]; simp only [*, decide_true, decide_false, Bool.and_true, Bool.true_and, Bool.and_false, Bool.false_and, Bool.or_false, Bool.false_or, Bool.or_true, Bool.true_or, Bool.not_true, Bool.not_false, not_false_eq_true]; done))]; rfl) | (rw [nameB, allB_of (fun j hj => hp0.2 j (by omega)), Bool.true_and]; done))) (.d _)) rfl rfl

theorem sp_spec_l2Name (u : List UInt8) (hu : u.length ≤ 1048576) : Sp Tryz.prog 218 [(.str u)] [.any] (.bool (nameB u)) := by
 refine Sp_intro (lend := true) Tryz.func218 rfl rfl rfl (fun _ => rfl) (fun c hc hX => ?_)
 refine T_seq (T_region hc (Ch.s (.d (.bool false)) pa (Ch.nil (T_seq (T_seq (T_region hc (Ch.s (.d (.int .i64 0)) pa ?_)))))))
 refine Ch.nil (T_block ?_)
 refine T_loop (ι := Nat) (fun k => { n := 42, sl := [(0, (.d (.str u))), (3, (.d (.int .i64 ((k : Nat) : Int))))], hp := [], pin := [] }) (fun k => k ≤ u.length ∧ ∀ j, j < k → nameCh (u.getD j 0) j = true) (fun k => u.length - k) ⟨0, ⟨by omega, fun j hj => by omega⟩, (Wk.of rfl rfl (ai rfl (ai (vI (by first | rfl | omega | (simp; done) | (simp; omega))) trivial)) trivial)⟩ (fun k hp0 => ?_)
 refine T_seq (T_seq (T_region hc (Ch.s (.d (.int .i64 ((k : Nat) : Int))) pm (Ch.s (.d (.str u)) pm (Ch.s (.d (.int .i64 ((u.length : Nat) : Int))) (.pure (.lenStr _ _ rfl Tryz.underlying9 rfl)) (Ch.s (.d (.bool (decide (((k : Nat) : Int) < ((u.length : Nat) : Int))))) (.pure (.int _ _ _ _ _ rfl rfl rfl rfl)) (Ch.nil ?_)))))))
 refine T_cond (b := (decide (((k : Nat) : Int) < ((u.length : Nat) : Int)))) rfl (fun h1 => ?_) (fun h1 => ?_)
 ·
  replace h1 := of_decide_eq_true h1
  refine T_skip (T_seq (T_block (T_seq (T_region hc (Ch.s (.d (.str u)) pm (Ch.s (.d (.int .i64 ((k : Nat) : Int))) pm (Ch.s (.d (.int .u8 ((u.getD k 0).toNat : Int))) (.pure (.idxStr _ _ _ (k) rfl Tryz.underlying9 rfl rfl rfl get_strA)) ?_)))))))
  refine Ch.s (.d (.bool (decide (97 ≤ ((u.getD k 0) : UInt8))))) (.pure (.int _ _ _ _ _ rfl rfl rfl (u8_geq ((u.getD k 0) : UInt8) 97 rfl rfl))) (Ch.s (.d (.bool (decide (97 ≤ ((u.getD k 0) : UInt8))))) pm ?_)
  cases h2 : (decide (97 ≤ ((u.getD k 0) : UInt8))) with
  | true =>
   replace h2 := of_decide_eq_true h2
   refine Ch.s (.d (.str u)) pm (Ch.s (.d (.int .i64 ((k : Nat) : Int))) pm (Ch.s (.d (.int .u8 ((u.getD k 0).toNat : Int))) (.pure (.idxStr _ _ _ (k) rfl Tryz.underlying9 rfl rfl rfl get_strA)) (Ch.s (.d (.bool (decide (((u.getD k 0) : UInt8) ≤ 122)))) (.pure (.int _ _ _ _ _ rfl rfl rfl (u8_leq ((u.getD k 0) : UInt8) 122 rfl rfl))) (Ch.s (.d (.bool (decide (((u.getD k 0) : UInt8) ≤ 122)))) (.pure (.pickT _ _ _ rfl rfl rfl)) (Ch.s (.d (.bool (decide (((u.getD k 0) : UInt8) ≤ 122)))) pa (Ch.nil (T_seq ?_)))))))
   refine T_region hc (Ch.s (.d (.bool (decide (((u.getD k 0) : UInt8) ≤ 122)))) pm (Ch.s (.d (.bool (!(decide (((u.getD k 0) : UInt8) ≤ 122))))) (.pure (.not _ _ rfl rfl)) (Ch.s (.d (.bool (!(decide (((u.getD k 0) : UInt8) ≤ 122))))) pm ?_)))
   cases h3 : (decide (((u.getD k 0) : UInt8) ≤ 122)) with
   | true =>
    replace h3 := of_decide_eq_true h3
    refine Ch.skip rfl rfl (Ch.skip rfl rfl (Ch.skip rfl rfl (Ch.skip rfl rfl (Ch.skip rfl rfl (Ch.skip rfl rfl (Ch.skip rfl rfl (Ch.skip rfl rfl ?_)))))))
    refine Ch.skip rfl rfl (Ch.skip rfl rfl (Ch.skip rfl rfl (Ch.skip rfl rfl (Ch.skip rfl rfl (Ch.skip rfl rfl (Ch.s (.d (.bool false)) (.pure (.pickF _ _ _ rfl rfl rfl)) (Ch.nil ?_)))))))
    refine T_cond (b := false) rfl (fun h => nomatch h) (fun _ => ?_)
    refine T_skip (T_region hc (Ch.s (.d (.int .i64 ((k : Nat) : Int))) pm (Ch.s (.d (.int .i64 (((k : Nat) : Int) + 1))) (.pure (.int _ _ _ _ _ rfl rfl rfl intV_addA)) (Ch.s (.d (.int .i64 (((k : Nat) : Int) + 1))) pa (Ch.nil ?_)))))
    exact nx (k + 1) ⟨by omega, upto_succ hp0.2 (by first | (rw [nameCh, letB, digB]; simp only [*, decide_true, decide_false, Bool.and_true, Bool.true_and, Bool.and_false, Bool.false_and, Bool.or_false, Bool.false_or, Bool.or_true, Bool.true_or, Bool.not_true, Bool.not_false, not_false_eq_true]; done) | (rw [nameCh, letB, digB_n]; simp only [*, decide_true, decide_false, Bool.and_true, Bool.true_and, Bool.and_false, Bool.false_and, Bool.or_false, Bool.false_or, Bool.or_true, Bool.true_or, Bool.not_true, Bool.not_false, not_false_eq_true]; done))⟩ (Wk.of rfl rfl (ai rfl (ai (vI (by first | rfl | omega | (simp; done) | (simp; omega))) trivial)) trivial)
   | false =>
    replace h3 := of_decide_eq_false h3
    refine Ch.s (.d (.int .i64 ((k : Nat) : Int))) pm (Ch.s (.d (.bool (decide (((k : Nat) : Int) = 0)))) (.pure (.int _ _ _ _ _ rfl rfl rfl rfl)) (Ch.s (.d (.bool (decide (((k : Nat) : Int) = 0)))) pm ?_))
    cases h4 : (decide (((k : Nat) : Int) = 0)) with
    | true =>
     replace h4 := of_decide_eq_true h4
     refine Ch.skip rfl rfl (Ch.skip rfl rfl (Ch.skip rfl rfl (Ch.skip rfl rfl (Ch.s (.d (.bool true)) (.pure (.pickT _ _ _ rfl rfl rfl)) (Ch.s (.d (.bool true)) pm (Ch.skip rfl rfl (Ch.skip rfl rfl ?_)))))))
     refine Ch.skip rfl rfl (Ch.skip rfl rfl (Ch.s (.d (.bool true)) (.pure (.pickT _ _ _ rfl rfl rfl)) (Ch.s (.d (.bool true)) (.pure (.pickT _ _ _ rfl rfl rfl)) (Ch.nil ?_))))
     refine T_cond (b := true) rfl (fun _ => ?_) (fun h => nomatch h)
     refine T_seq (T_region hc (Ch.s (.d (.bool false)) pa (Ch.nil (T_ret ?_))))
     exact endR [(.d (.bool false))] [] [] (.cons (.tmp 2 rfl) .nil) (.cons (.any _) .nil) (Exp.of (congrArg D.bool (by first | (rw [nameB, allB_no k (by omega) (by first | (rw [nameCh, letB, digB]; simp only [*, decide_true, decide_false, Bool.and_true, Bool.true_and, Bool.and_false, Bool.false_and, Bool.or_false, Bool.false_or, Bool.or_true, Bool.true_or, Bool.not_true, Bool.not_false, not_false_eq_true]; done) | (rw [nameCh, letB, digB_n]; simp only [*, decide_true, decide_false, Bool.and_true, Bool.true_and, Bool.and_false, Bool.false_and, Bool.or_false, Bool.false_or, Bool.or_true, Bool.true_or, Bool.not_true, Bool.not_false, not_false_eq_true]; done))]; rfl) | (rw [nameB, allB_of (fun j hj => hp0.2 j (by omega)), Bool.true_and]; done))) (.d _)) rfl rfl
    | false =>
     replace h4 := of_decide_eq_false h4
     refine Ch.s (.d (.str u)) pm (Ch.s (.d (.int .i64 ((k : Nat) : Int))) pm (Ch.s (.d (.int .u8 ((u.getD k 0).toNat : Int))) (.pure (.idxStr _ _ _ (k) rfl Tryz.underlying9 rfl rfl rfl get_strA)) (Ch.s (.d (.bool (decide (((u.getD k 0) : UInt8) < 48)))) (.pure (.int _ _ _ _ _ rfl rfl rfl (u8_lss ((u.getD k 0) : UInt8) 48 rfl rfl))) (Ch.s (.d (.bool (decide (((u.getD k 0) : UInt8) < 48)))) (.pure (.pickF _ _ _ rfl rfl rfl)) (Ch.s (.d (.bool (decide (((u.getD k 0) : UInt8) < 48)))) pm ?_)))))
     cases h5 : (decide (((u.getD k 0) : UInt8) < 48)) with
     | true =>
      replace h5 := of_decide_eq_true h5
      refine Ch.skip rfl rfl (Ch.skip rfl rfl (Ch.skip rfl rfl (Ch.skip rfl rfl (Ch.s (.d (.bool true)) (.pure (.pickT _ _ _ rfl rfl rfl)) (Ch.s (.d (.bool true)) (.pure (.pickT _ _ _ rfl rfl rfl)) (Ch.nil ?_))))))
      refine T_cond (b := true) rfl (fun _ => ?_) (fun h => nomatch h)
      refine T_seq (T_region hc (Ch.s (.d (.bool false)) pa (Ch.nil (T_ret ?_))))
      exact endR [(.d (.bool false))] [] [] (.cons (.tmp 2 rfl) .nil) (.cons (.any _) .nil) (Exp.of (congrArg D.bool (by first | (rw [nameB, allB_no k (by omega) (by first | (rw [nameCh, letB, digB]; simp only [*, decide_true, decide_false, Bool.and_true, Bool.true_and, Bool.and_false, Bool.false_and, Bool.or_false, Bool.false_or, Bool.or_true, Bool.true_or, Bool.not_true, Bool.not_false, not_false_eq_true]; done) | (rw [nameCh, letB, digB_n]; simp only [*, decide_true, decide_false, Bool.and_true, Bool.true_and, Bool.and_false, Bool.false_and, Bool.or_false, Bool.false_or, Bool.or_true, Bool.true_or, Bool.not_true, Bool.not_false, not_false_eq_true]; done))]; rfl) | (rw [nameB, allB_of (fun j hj => hp0.2 j (by omega)), Bool.true_and]; done))) (.d _)) rfl rfl
     | false =>
      replace h5 := of_decide_eq_false h5
      refine Ch.s (.d (.str u)) pm (Ch.s (.d (.int .i64 ((k : Nat) : Int))) pm (Ch.s (.d (.int .u8 ((u.getD k 0).toNat : Int))) (.pure (.idxStr _ _ _ (k) rfl Tryz.underlying9 rfl rfl rfl get_strA)) (Ch.s (.d (.bool (decide (57 < ((u.getD k 0) : UInt8))))) (.pure (.int _ _ _ _ _ rfl rfl rfl (u8_gtr ((u.getD k 0) : UInt8) 57 rfl rfl))) (Ch.s (.d (.bool (decide (57 < ((u.getD k 0) : UInt8))))) (.pure (.pickF _ _ _ rfl rfl rfl)) (Ch.s (.d (.bool (decide (57 < ((u.getD k 0) : UInt8))))) (.pure (.pickT _ _ _ rfl rfl rfl)) (Ch.nil ?_))))))
      refine T_cond (b := (decide (57 < ((u.getD k 0) : UInt8)))) rfl (fun h6 => ?_) (fun h6 => ?_)
      ·
       replace h6 := of_decide_eq_true h6
       refine T_seq (T_region hc (Ch.s (.d (.bool false)) pa (Ch.nil (T_ret ?_))))
       exact endR [(.d (.bool false))] [] [] (.cons (.tmp 2 rfl) .nil) (.cons (.any _) .nil) (Exp.of (congrArg D.bool (by first | (rw [nameB, allB_no k (by omega) (by first | (rw [nameCh, letB, digB]; simp only [*, decide_true, decide_false, Bool.and_true, Bool.true_and, Bool.and_false, Bool.false_and, Bool.or_false, Bool.false_or, Bool.or_true, Bool.true_or, Bool.not_true, Bool.not_false, not_false_eq_true]; done) | (rw [nameCh, letB, digB_n]; simp only [*, decide_true, decide_false, Bool.and_true, Bool.true_and, Bool.and_false, Bool.false_and, Bool.or_false, Bool.false_or, Bool.or_true, Bool.true_or, Bool.not_true, Bool.not_false, not_false_eq_true]; done))]; rfl) | (rw [nameB, allB_of (fun j hj => hp0.2 j (by omega)), Bool.true_and]; done))) (.d _)) rfl rfl
      ·
       replace h6 := of_decide_eq_false h6
       refine T_skip (T_region hc (Ch.s (.d (.int .i64 ((k : Nat) : Int))) pm (Ch.s (.d (.int .i64 (((k : Nat) : Int) + 1))) (.pure (.int _ _ _ _ _ rfl rfl rfl intV_addA)) (Ch.s (.d (.int .i64 (((k : Nat) : Int) + 1))) pa (Ch.nil ?_)))))
       exact nx (k + 1) ⟨by omega, upto_succ hp0.2 (by first | (rw [nameCh, letB, digB]; simp only [*, decide_true, decide_false, Bool.and_true, Bool.true_and, Bool.and_false, Bool.false_and, Bool.or_false, Bool.false_or, Bool.or_true, Bool.true_or, Bool.not_true, Bool.not_false, not_false_eq_true]; done) | (rw [nameCh, letB, digB_n]; simp only [*, decide_true, decide_false, Bool.and_true, Bool.true_and, Bool.and_false, Bool.false_and, Bool.or_false, Bool.false_or, Bool.or_true, Bool.true_or, Bool.not_true, Bool.not_false, not_false_eq_true]; done))⟩ (Wk.of rfl rfl (ai rfl (ai (vI (by first | rfl | omega | (simp; done) | (simp; omega))) trivial)) trivial)
  | false =>
   replace h2 := of_decide_eq_false h2
   refine Ch.skip rfl rfl (Ch.skip rfl rfl (Ch.skip rfl rfl (Ch.skip rfl rfl (Ch.s (.d (.bool false)) (.pure (.pickF _ _ _ rfl rfl rfl)) (Ch.s (.d (.bool false)) pa (Ch.nil (T_seq ?_)))))))
   refine T_region hc (Ch.s (.d (.bool false)) pm (Ch.s (.d (.bool true)) (.pure (.not (b := false) _ _ rfl rfl)) (Ch.s (.d (.bool true)) pm (Ch.s (.d (.int .i64 ((k : Nat) : Int))) pm (Ch.s (.d (.bool (decide (((k : Nat) : Int) = 0)))) (.pure (.int _ _ _ _ _ rfl rfl rfl rfl)) (Ch.s (.d (.bool (decide (((k : Nat) : Int) = 0)))) pm ?_))))))
   cases h7 : (decide (((k : Nat) : Int) = 0)) with
   | true =>
    replace h7 := of_decide_eq_true h7
    refine Ch.skip rfl rfl (Ch.skip rfl rfl (Ch.skip rfl rfl (Ch.skip rfl rfl (Ch.s (.d (.bool true)) (.pure (.pickT _ _ _ rfl rfl rfl)) (Ch.s (.d (.bool true)) pm (Ch.skip rfl rfl (Ch.skip rfl rfl ?_)))))))
    refine Ch.skip rfl rfl (Ch.skip rfl rfl (Ch.s (.d (.bool true)) (.pure (.pickT _ _ _ rfl rfl rfl)) (Ch.s (.d (.bool true)) (.pure (.pickT _ _ _ rfl rfl rfl)) (Ch.nil ?_))))
    refine T_cond (b := true) rfl (fun _ => ?_) (fun h => nomatch h)
    refine T_seq (T_region hc (Ch.s (.d (.bool false)) pa (Ch.nil (T_ret ?_))))
    exact endR [(.d (.bool false))] [] [] (.cons (.tmp 2 rfl) .nil) (.cons (.any _) .nil) (Exp.of (congrArg D.bool (by first | (rw [nameB, allB_no k (by omega) (by first | (rw [nameCh, letB, digB]; simp only [*, decide_true, decide_false, Bool.and_true, Bool.true_and, Bool.and_false, Bool.false_and, Bool.or_false, Bool.false_or, Bool.or_true, Bool.true_or, Bool.not_true, Bool.not_false, not_false_eq_true]; done) | (rw [nameCh, letB, digB_n]; simp only [*, decide_true, decide_false, Bool.and_true, Bool.true_and, Bool.and_false, Bool.false_and, Bool.or_false, Bool.false_or, Bool.or_true, Bool.true_or, Bool.not_true, Bool.not_false, not_false_eq_true]; done))]; rfl) | (rw [nameB, allB_of (fun j hj => hp0.2 j (by omega)), Bool.true_and]; done))) (.d _)) rfl rfl
   | false =>
    replace h7 := of_decide_eq_false h7
    refine Ch.s (.d (.str u)) pm (Ch.s (.d (.int .i64 ((k : Nat) : Int))) pm (Ch.s (.d (.int .u8 ((u.getD k 0).toNat : Int))) (.pure (.idxStr _ _ _ (k) rfl Tryz.underlying9 rfl rfl rfl get_strA)) (Ch.s (.d (.bool (decide (((u.getD k 0) : UInt8) < 48)))) (.pure (.int _ _ _ _ _ rfl rfl rfl (u8_lss ((u.getD k 0) : UInt8) 48 rfl rfl))) (Ch.s (.d (.bool (decide (((u.getD k 0) : UInt8) < 48)))) (.pure (.pickF _ _ _ rfl rfl rfl)) (Ch.s (.d (.bool (decide (((u.getD k 0) : UInt8) < 48)))) pm ?_)))))
    cases h8 : (decide (((u.getD k 0) : UInt8) < 48)) with
    | true =>
     replace h8 := of_decide_eq_true h8
     refine Ch.skip rfl rfl (Ch.skip rfl rfl (Ch.skip rfl rfl (Ch.skip rfl rfl (Ch.s (.d (.bool true)) (.pure (.pickT _ _ _ rfl rfl rfl)) (Ch.s (.d (.bool true)) (.pure (.pickT _ _ _ rfl rfl rfl)) (Ch.nil ?_))))))
     refine T_cond (b := true) rfl (fun _ => ?_) (fun h => nomatch h)
     refine T_seq (T_region hc (Ch.s (.d (.bool false)) pa (Ch.nil (T_ret ?_))))
     exact endR [(.d (.bool false))] [] [] (.cons (.tmp 2 rfl) .nil) (.cons (.any _) .nil) (Exp.of (congrArg D.bool (by first | (rw [nameB, allB_no k (by omega) (by first | (rw [nameCh, letB, digB]; simp only [*, decide_true, decide_false, Bool.and_true, Bool.true_and, Bool.and_false, Bool.false_and, Bool.or_false, Bool.false_or, Bool.or_true, Bool.true_or, Bool.not_true, Bool.not_false, not_false_eq_true]; done) | (rw [nameCh, letB, digB_n]; simp only [*, decide_true, decide_false, Bool.and_true, Bool.true_and, Bool.and_false, Bool.false_and, Bool.or_false, Bool.false_or, Bool.or_true, Bool.true_or, Bool.not_true, Bool.not_false, not_false_eq_true]; done))]; rfl) | (rw [nameB, allB_of (fun j hj => hp0.2 j (by omega)), Bool.true_and]; done))) (.d _)) rfl rfl
    | false =>
     replace h8 := of_decide_eq_false h8
     refine Ch.s (.d (.str u)) pm (Ch.s (.d (.int .i64 ((k : Nat) : Int))) pm (Ch.s (.d (.int .u8 ((u.getD k 0).toNat : Int))) (.pure (.idxStr _ _ _ (k) rfl Tryz.underlying9 rfl rfl rfl get_strA)) (Ch.s (.d (.bool (decide (57 < ((u.getD k 0) : UInt8))))) (.pure (.int _ _ _ _ _ rfl rfl rfl (u8_gtr ((u.getD k 0) : UInt8) 57 rfl rfl))) (Ch.s (.d (.bool (decide (57 < ((u.getD k 0) : UInt8))))) (.pure (.pickF _ _ _ rfl rfl rfl)) (Ch.s (.d (.bool (decide (57 < ((u.getD k 0) : UInt8))))) (.pure (.pickT _ _ _ rfl rfl rfl)) (Ch.nil ?_))))))
     refine T_cond (b := (decide (57 < ((u.getD k 0) : UInt8)))) rfl (fun h9 => ?_) (fun h9 => ?_)
     ·
      replace h9 := of_decide_eq_true h9
      refine T_seq (T_region hc (Ch.s (.d (.bool false)) pa (Ch.nil (T_ret ?_))))
      exact endR [(.d (.bool false))] [] [] (.cons (.tmp 2 rfl) .nil) (.cons (.any _) .nil) (Exp.of (congrArg D.bool (by first | (rw [nameB, allB_no k (by omega) (by first | (rw [nameCh, letB, digB]; simp only [*, decide_true, decide_false, Bool.and_true, Bool.true_and, Bool.and_false, Bool.false_and, Bool.or_false, Bool.false_or, Bool.or_true, Bool.true_or, Bool.not_true, Bool.not_false, not_false_eq_true]; done) | (rw [nameCh, letB, digB_n]; simp only [*, decide_true, decide_false, Bool.and_true, Bool.true_and, Bool.and_false, Bool.false_and, Bool.or_false, Bool.false_or, Bool.or_true, Bool.true_or, Bool.not_true, Bool.not_false, not_false_eq_true]; done))]; rfl) | (rw [nameB, allB_of (fun j hj => hp0.2 j (by omega)), Bool.true_and]; done))) (.d _)) rfl rfl
     ·
      replace h9 := of_decide_eq_false h9
      refine T_skip (T_region hc (Ch.s (.d (.int .i64 ((k : Nat) : Int))) pm (Ch.s (.d (.int .i64 (((k : Nat) : Int) + 1))) (.pure (.int _ _ _ _ _ rfl rfl rfl intV_addA)) (Ch.s (.d (.int .i64 (((k : Nat) : Int) + 1))) pa (Ch.nil ?_)))))
      exact nx (k + 1) ⟨by omega, upto_succ hp0.2 (by first | (rw [nameCh, letB, digB]; simp only [*, decide_true, decide_false, Bool.and_true, Bool.true_and, Bool.and_false, Bool.false_and, Bool.or_false, Bool.false_or, Bool.or_true, Bool.true_or, Bool.not_true, Bool.not_false, not_false_eq_true]; done) | (rw [nameCh, letB, digB_n]; simp only [*, decide_true, decide_false, Bool.and_true, Bool.true_and, Bool.and_false, Bool.false_and, Bool.or_false, Bool.false_or, Bool.or_true, Bool.true_or, Bool.not_true, Bool.not_false, not_false_eq_true]; done))⟩ (Wk.of rfl rfl (ai rfl (ai (vI (by first | rfl | omega | (simp; done) | (simp; omega))) trivial)) trivial)
 ·
  replace h1 := of_decide_eq_false h1
  refine T_exit (T_seq (T_region hc (Ch.s (.d (.str u)) pm (Ch.s (.d (.int .i64 ((u.length : Nat) : Int))) (.pure (.lenStr _ _ rfl Tryz.underlying9 rfl)) (Ch.s (.d (.bool (withinB ((u.length : Nat) : Int) 1 6))) (.call 41000 89 _ _ _ en89 rfl (.inl rfl) (.cons (.d _) (.cons (.d _) (.cons (.d _) .nil))) rfl rfl (sp_spec_l1In ((u.length : Nat) : Int) 1 6) (.skip _ _ (.skip _ _ (.skip _ _ .nil))) rfl) (Ch.s (.d (.bool (withinB ((u.length : Nat) : Int) 1 6))) pa (Ch.nil ?_)))))))
  refine T_ret ?_
  exact endR [(.d (.bool (withinB ((u.length : Nat) : Int) 1 6)))] [] [] (.cons (.tmp 2 rfl) .nil) (.cons (.any _) .nil) (Exp.of (congrArg D.bool (by first | (rw [nameB, allB_no k (by omega) (by first | (rw [nameCh, letB, digB]; simp only [*, decide_true, decide_false, Bool.and_true, Bool.true_and, Bool.and_false, Bool.false_and, Bool.or_false, Bool.false_or, Bool.or_true, Bool.true_or, Bool.not_true, Bool.not_false, not_false_eq_true]; done) | (rw [nameCh, letB, digB_n]; simp only [*, decide_true, decide_false, Bool.and_true, Bool.true_and, Bool.and_false, Bool.false_and, Bool.or_false, Bool.false_or, Bool.or_true, Bool.true_or, Bool.not_true, Bool.not_false, not_false_eq_true]; done))]; rfl) | (rw [nameB, allB_of (fun j hj => hp0.2 j (by omega)), Bool.true_and]; done))) (.d _)) rfl rfl

theorem sp_IndexFunc_sgn (xs : List Sgn) (f : FuncId) (caps : List D) (p : Sgn → Bool) (hf : Enters Tryz.prog f) (hp : ∀ x ∈ xs, Sp Tryz.prog f (Sgn.d x :: caps) (.any :: anys caps) (.bool (p x))) (hn : xs.length ≤ 1048576) : Sp Tryz.prog 263 [(.slice false 2 (xs.map Sgn.d)), (.fn f caps)] [.any, .any] (.int .i64 (ixF p xs)) := by
 refine Sp_intro (lend := true) Tryz.func263 rfl rfl rfl (fun _ => rfl) (fun c hc hX => ?_)
 refine T_seq (T_region hc (Ch.s (.d (.int .i64 0)) pa (Ch.nil (T_seq (T_seq (T_region hc (Ch.s (.d (.slice false 2 (xs.map Sgn.d))) pm ?_)))))))
 refine Ch.s (.d (.int .i64 ((xs.length : Nat) : Int))) (.pure (.len _ _ 154 rfl Tryz.underlying32 (.sh _ _) (by simp))) (Ch.s (.d (.int .i64 0)) pm (Ch.nil (T_block ?_)))
 refine T_loop (ι := Nat) (fun k => { n := 19, sl := [(0, (.d (.slice false 2 (xs.map Sgn.d)))), (1, (.d (.fn f caps))), (7, (.d (.int .i64 ((xs.length : Nat) : Int)))), (8, (.d (.int .i64 ((k : Nat) : Int))))], hp := [], pin := [] }) (fun k => k ≤ xs.length ∧ ∀ j, j < k → p (xs.getD j default) = false) (fun k => xs.length - k) ⟨0, ⟨by omega, fun j hj => by omega⟩, (Wk.of rfl rfl (ai rfl (ai rfl (ai rfl (ai (vI (by first | rfl | omega | (simp; done) | (simp; omega))) trivial)))) trivial)⟩ (fun k hp0 => ?_)
 refine T_seq (T_region hc (Ch.s (.d (.bool (decide (((k : Nat) : Int) < ((xs.length : Nat) : Int))))) (.pure (.int _ _ _ _ _ rfl rfl rfl rfl)) (Ch.nil (T_seq ?_))))
 refine T_cond (b := (decide (((k : Nat) : Int) < ((xs.length : Nat) : Int)))) rfl (fun h1 => ?_) (fun h1 => ?_)
 ·
  replace h1 := of_decide_eq_true h1
  refine T_skip (T_seq (T_block (T_seq (T_region hc (Ch.s (.d (.int .i64 ((k : Nat) : Int))) pm (Ch.s (.d (.int .i64 ((k : Nat) : Int))) pa (Ch.nil ?_)))))))
  refine T_seq (T_region hc (Ch.s (.d (.fn f caps)) pm (Ch.s (.d (.slice false 2 (xs.map Sgn.d))) pm (Ch.s (.d (.int .i64 ((k : Nat) : Int))) pm (Ch.s (.d (.ref (.agg [(.str ((xs.getD k default).name)), (.int .i64 ((xs.getD k default).kind))]))) (.pure (.idx _ _ _ 154 (k) rfl Tryz.underlying32 sz154 rfl rfl rfl get_mapA)) (Ch.s (.d (.agg [(.str ((xs.getD k default).name)), (.int .i64 ((xs.getD k default).kind))])) (.pure (.loadRefA _ _ rfl ag154 sz154 rfl)) ?_))))))
  refine Ch.step (v := (.d (.bool (p (xs.getD k default))))) rfl (.callS 16000 f _ #[.tmp 15] _ hf rfl (.inr ⟨caps, rfl, rfl⟩) (.cons (.d _) (exps_ds caps)) rfl (hp _ (getD_mem (by omega))) (.skip _ _ (back_anys caps)) rfl) rfl rfl ?_
  refine Ch.nil ?_
  refine T_cond (b := (p (xs.getD k default))) rfl (fun h2 => ?_) (fun h2 => ?_)
  ·
   refine T_seq (T_region hc (Ch.s (.d (.int .i64 ((k : Nat) : Int))) pm (Ch.s (.d (.int .i64 ((k : Nat) : Int))) pa (Ch.nil (T_ret ?_)))))
   exact endR [(.d (.int .i64 ((k : Nat) : Int)))] [] [] (.cons (.tmp 4 rfl) .nil) (.cons (.any _) (.cons (.any _) .nil)) (Exp.of (congrArg (D.int .i64) (by exact (ixF_some (d := default) (by omega) hp0.2 (by assumption)).symm)) (.d _)) rfl rfl
  ·
   refine T_skip (T_region hc (Ch.s (.d (.int .i64 (((k : Nat) : Int) + 1))) (.pure (.int _ _ _ _ _ rfl rfl rfl intV_addA)) (Ch.s (.d (.int .i64 (((k : Nat) : Int) + 1))) pm (Ch.nil ?_))))
   exact nx (k + 1) ⟨by omega, upto_succ hp0.2 (by assumption)⟩ (Wk.of rfl rfl (ai rfl (ai rfl (ai rfl (ai (vI (by first | rfl | omega | (simp; done) | (simp; omega))) trivial)))) trivial)
 ·
  replace h1 := of_decide_eq_false h1
  refine T_exit (T_seq (T_region hc (Ch.s (.d (.int .i64 (-1))) pa (Ch.nil (T_ret ?_)))))
  exact endR [(.d (.int .i64 (-1)))] [] [] (.cons (.tmp 4 rfl) .nil) (.cons (.any _) (.cons (.any _) .nil)) (Exp.of (congrArg (D.int .i64) (by exact (ixF_none (d := default) (fun j hj => hp0.2 j (by omega))).symm)) (.d _)) rfl rfl

theorem sp_ContainsFunc_sgn (xs : List Sgn) (f : FuncId) (caps : List D) (p : Sgn → Bool) (hf : Enters Tryz.prog f) (hp : ∀ x ∈ xs, Sp Tryz.prog f (Sgn.d x :: caps) (.any :: anys caps) (.bool (p x))) (hn : xs.length ≤ 1048576) : Sp Tryz.prog 235 [(.slice false 2 (xs.map Sgn.d)), (.fn f caps)] [.any, .any] (.bool (xs.any p)) := by
 refine Sp_intro (lend := true) Tryz.func235 rfl rfl rfl (fun _ => rfl) (fun c hc hX => ?_)
 refine T_seq (T_region hc (Ch.s (.d (.bool false)) pa (Ch.nil (T_seq (T_region hc (Ch.s (.d (.slice false 2 (xs.map Sgn.d))) pm (Ch.s (.d (.fn f caps)) pm ?_)))))))
 refine Ch.s (.d (.int .i64 (ixF p xs))) (.call 7000 263 _ _ _ en263 rfl (.inl rfl) (.cons (.d _) (.cons (.d _) .nil)) rfl rfl (sp_IndexFunc_sgn xs f caps p hf hp (by first | omega | assumption | (exact hx _ (getD_mem (by omega))) | (exact hx _ (by assumption)) | (exact Nat.le_trans (hx _ (by assumption)) (by omega)) | (simp only [List.length_append, List.length_take, List.length_drop, List.length_cons, List.length_nil]; omega) | (simp_all; done))) (.skip _ _ (.skip _ _ .nil)) rfl) (Ch.s (.d (.bool (decide (0 ≤ (ixF p xs))))) (.pure (.int _ _ _ _ _ rfl rfl rfl rfl)) (Ch.s (.d (.bool (decide (0 ≤ (ixF p xs))))) pa (Ch.nil (T_ret ?_))))
 exact endR [(.d (.bool (decide (0 ≤ (ixF p xs)))))] [] [] (.cons (.tmp 4 rfl) .nil) (.cons (.any _) (.cons (.any _) .nil)) (Exp.of (congrArg D.bool (by exact ixF_nonneg p xs)) (.d _)) rfl rfl

theorem sp_IndexFunc_arc (xs : List Arc) (f : FuncId) (caps : List D) (p : Arc → Bool) (hf : Enters Tryz.prog f) (hp : ∀ x ∈ xs, Sp Tryz.prog f (Arc.d x :: caps) (.any :: anys caps) (.bool (p x))) (hn : xs.length ≤ 1048576) : Sp Tryz.prog 251 [(.slice false 4 (xs.map Arc.d)), (.fn f caps)] [.any, .any] (.int .i64 (ixF p xs)) := by
 refine Sp_intro (lend := true) Tryz.func251 rfl rfl rfl (fun _ => rfl) (fun c hc hX => ?_)
 refine T_seq (T_region hc (Ch.s (.d (.int .i64 0)) pa (Ch.nil (T_seq (T_seq (T_region hc (Ch.s (.d (.slice false 4 (xs.map Arc.d))) pm ?_)))))))
 refine Ch.s (.d (.int .i64 ((xs.length : Nat) : Int))) (.pure (.len _ _ 125 rfl Tryz.underlying33 (.sh _ _) (by simp))) (Ch.s (.d (.int .i64 0)) pm (Ch.nil (T_block ?_)))
 refine T_loop (ι := Nat) (fun k => { n := 19, sl := [(0, (.d (.slice false 4 (xs.map Arc.d)))), (1, (.d (.fn f caps))), (7, (.d (.int .i64 ((xs.length : Nat) : Int)))), (8, (.d (.int .i64 ((k : Nat) : Int))))], hp := [], pin := [] }) (fun k => k ≤ xs.length ∧ ∀ j, j < k → p (xs.getD j default) = false) (fun k => xs.length - k) ⟨0, ⟨by omega, fun j hj => by omega⟩, (Wk.of rfl rfl (ai rfl (ai rfl (ai rfl (ai (vI (by first | rfl | omega | (simp; done) | (simp; omega))) trivial)))) trivial)⟩ (fun k hp0 => ?_)
 refine T_seq (T_region hc (Ch.s (.d (.bool (decide (((k : Nat) : Int) < ((xs.length : Nat) : Int))))) (.pure (.int _ _ _ _ _ rfl rfl rfl rfl)) (Ch.nil (T_seq ?_))))
 refine T_cond (b := (decide (((k : Nat) : Int) < ((xs.length : Nat) : Int)))) rfl (fun h1 => ?_) (fun h1 => ?_)
 ·
  replace h1 := of_decide_eq_true h1
  refine T_skip (T_seq (T_block (T_seq (T_region hc (Ch.s (.d (.int .i64 ((k : Nat) : Int))) pm (Ch.s (.d (.int .i64 ((k : Nat) : Int))) pa (Ch.nil ?_)))))))
  refine T_seq (T_region hc (Ch.s (.d (.fn f caps)) pm (Ch.s (.d (.slice false 4 (xs.map Arc.d))) pm (Ch.s (.d (.int .i64 ((k : Nat) : Int))) pm (Ch.s (.d (.ref (.agg [(.int .i64 ((xs.getD k default).src)), (.int .i64 ((xs.getD k default).sig)), (.bool ((xs.getD k default).up)), (.int .i64 ((xs.getD k default).dst))]))) (.pure (.idx _ _ _ 125 (k) rfl Tryz.underlying33 sz125 rfl rfl rfl get_mapA)) (Ch.s (.d (.agg [(.int .i64 ((xs.getD k default).src)), (.int .i64 ((xs.getD k default).sig)), (.bool ((xs.getD k default).up)), (.int .i64 ((xs.getD k default).dst))])) (.pure (.loadRefA _ _ rfl ag125 sz125 rfl)) ?_))))))
  refine Ch.step (v := (.d (.bool (p (xs.getD k default))))) rfl (.callS 16000 f _ #[.tmp 15] _ hf rfl (.inr ⟨caps, rfl, rfl⟩) (.cons (.d _) (exps_ds caps)) rfl (hp _ (getD_mem (by omega))) (.skip _ _ (back_anys caps)) rfl) rfl rfl ?_
  refine Ch.nil ?_
  refine T_cond (b := (p (xs.getD k default))) rfl (fun h2 => ?_) (fun h2 => ?_)
  ·
   refine T_seq (T_region hc (Ch.s (.d (.int .i64 ((k : Nat) : Int))) pm (Ch.s (.d (.int .i64 ((k : Nat) : Int))) pa (Ch.nil (T_ret ?_)))))
   exact endR [(.d (.int .i64 ((k : Nat) : Int)))] [] [] (.cons (.tmp 4 rfl) .nil) (.cons (.any _) (.cons (.any _) .nil)) (Exp.of (congrArg (D.int .i64) (by exact (ixF_some (d := default) (by omega) hp0.2 (by assumption)).symm)) (.d _)) rfl rfl
  ·
   refine T_skip (T_region hc (Ch.s (.d (.int .i64 (((k : Nat) : Int) + 1))) (.pure (.int _ _ _ _ _ rfl rfl rfl intV_addA)) (Ch.s (.d (.int .i64 (((k : Nat) : Int) + 1))) pm (Ch.nil ?_))))
   exact nx (k + 1) ⟨by omega, upto_succ hp0.2 (by assumption)⟩ (Wk.of rfl rfl (ai rfl (ai rfl (ai rfl (ai (vI (by first | rfl | omega | (simp; done) | (simp; omega))) trivial)))) trivial)
 ·
  replace h1 := of_decide_eq_false h1
  refine T_exit (T_seq (T_region hc (Ch.s (.d (.int .i64 (-1))) pa (Ch.nil (T_ret ?_)))))
  exact endR [(.d (.int .i64 (-1)))] [] [] (.cons (.tmp 4 rfl) .nil) (.cons (.any _) (.cons (.any _) .nil)) (Exp.of (congrArg (D.int .i64) (by exact (ixF_none (d := default) (fun j hj => hp0.2 j (by omega))).symm)) (.d _)) rfl rfl

theorem sp_ContainsFunc_arc (xs : List Arc) (f : FuncId) (caps : List D) (p : Arc → Bool) (hf : Enters Tryz.prog f) (hp : ∀ x ∈ xs, Sp Tryz.prog f (Arc.d x :: caps) (.any :: anys caps) (.bool (p x))) (hn : xs.length ≤ 1048576) : Sp Tryz.prog 207 [(.slice false 4 (xs.map Arc.d)), (.fn f caps)] [.any, .any] (.bool (xs.any p)) := by
 refine Sp_intro (lend := true) Tryz.func207 rfl rfl rfl (fun _ => rfl) (fun c hc hX => ?_)
 refine T_seq (T_region hc (Ch.s (.d (.bool false)) pa (Ch.nil (T_seq (T_region hc (Ch.s (.d (.slice false 4 (xs.map Arc.d))) pm (Ch.s (.d (.fn f caps)) pm ?_)))))))
 refine Ch.s (.d (.int .i64 (ixF p xs))) (.call 7000 251 _ _ _ en251 rfl (.inl rfl) (.cons (.d _) (.cons (.d _) .nil)) rfl rfl (sp_IndexFunc_arc xs f caps p hf hp (by first | omega | assumption | (exact hx _ (getD_mem (by omega))) | (exact hx _ (by assumption)) | (exact Nat.le_trans (hx _ (by assumption)) (by omega)) | (simp only [List.length_append, List.length_take, List.length_drop, List.length_cons, List.length_nil]; omega) | (simp_all; done))) (.skip _ _ (.skip _ _ .nil)) rfl) (Ch.s (.d (.bool (decide (0 ≤ (ixF p xs))))) (.pure (.int _ _ _ _ _ rfl rfl rfl rfl)) (Ch.s (.d (.bool (decide (0 ≤ (ixF p xs))))) pa (Ch.nil (T_ret ?_))))
 exact endR [(.d (.bool (decide (0 ≤ (ixF p xs)))))] [] [] (.cons (.tmp 4 rfl) .nil) (.cons (.any _) (.cons (.any _) .nil)) (Exp.of (congrArg D.bool (by exact ixF_nonneg p xs)) (.d _)) rfl rfl

theorem sp_impl_areSignals_1 (y x : Sgn) : Sp Tryz.prog 236 [(.agg [(.str y.name), (.int .i64 y.kind)]), (.ref (.agg [(.str x.name), (.int .i64 x.kind)]))] [.any, .any] (.bool (decide (y.name = x.name))) := by
 refine Sp_intro (lend := true) Tryz.func236 rfl rfl rfl (fun _ => rfl) (fun c hc hX => ?_)
 refine T_seq (T_region hc (Ch.s (.ptr 2000 0) (.box 2000 _ _ rfl (.aggD _)) (Ch.s (.d (.bool false)) pa (Ch.nil (T_seq (T_region hc (Ch.s (.ptr 2000 0) (.pure (.fldPtr _ _ _ rfl fld154_0 rfl)) ?_)))))))
 refine Ch.s (.d (.str y.name)) (.pure (.loadPtr1 _ _ rfl ag9 rfl rfl rfl)) (Ch.s (.d (.ref (.str x.name))) (.pure (.fldRef _ _ _ rfl fld154_0 rfl rfl rfl)) (Ch.s (.d (.str x.name)) (.pure (.loadRef1 _ _ rfl ag9 rfl rfl)) (Ch.s (.d (.bool (decide (y.name = x.name)))) (.pure (.str _ _ _ _ _ rfl rfl rfl rfl)) (Ch.s (.d (.bool (decide (y.name = x.name)))) pa (Ch.nil (T_ret ?_))))))
 exact endR [(.d (.bool (decide (y.name = x.name))))] [] [] (.cons (.tmp 3 rfl) .nil) (.cons (.any _) (.cons (.any _) .nil)) (.d _) rfl rfl

theorem sp_impl_areSignals (xs : List Sgn) (hb : bulkF Sgn.bulk xs ≤ 1048576) : Sp Tryz.prog 186 [(.slice false 2 (xs.map Sgn.d))] [.any] (.bool (sigsB xs)) := by
 refine Sp_intro (lend := true) Tryz.func186 rfl rfl rfl (fun _ => rfl) (fun c hc hX => ?_)
 have hn := bulkF_len hb
 refine T_seq (T_region hc (Ch.s (.d (.bool false)) pa (Ch.nil (T_seq (T_seq (T_region hc (Ch.s (.d (.slice false 2 (xs.map Sgn.d))) pm ?_)))))))
 refine Ch.s (.d (.int .i64 ((xs.length : Nat) : Int))) (.pure (.len _ _ 154 rfl Tryz.underlying32 (.sh _ _) (by simp))) (Ch.s (.d (.int .i64 0)) pm (Ch.nil (T_block ?_)))
 refine T_loop (ι := Nat) (fun k => { n := 33, sl := [(0, (.d (.slice false 2 (xs.map Sgn.d)))), (5, (.d (.slice false 2 (xs.map Sgn.d)))), (6, (.d (.int .i64 ((xs.length : Nat) : Int)))), (7, (.d (.int .i64 ((k : Nat) : Int))))], hp := [], pin := [] }) (fun k => k ≤ xs.length ∧ ∀ j, j < k → sigOk xs j = true) (fun k => xs.length - k) ⟨0, ⟨by omega, fun j hj => by omega⟩, (Wk.of rfl rfl (ai rfl (ai rfl (ai rfl (ai (vI (by first | rfl | omega | (simp; done) | (simp; omega))) trivial)))) trivial)⟩ (fun k hp0 => ?_)
 refine T_seq (T_region hc (Ch.s (.d (.bool (decide (((k : Nat) : Int) < ((xs.length : Nat) : Int))))) (.pure (.int _ _ _ _ _ rfl rfl rfl rfl)) (Ch.nil (T_seq ?_))))
 refine T_cond (b := (decide (((k : Nat) : Int) < ((xs.length : Nat) : Int)))) rfl (fun h1 => ?_) (fun h1 => ?_)
 ·
  replace h1 := of_decide_eq_true h1
  try have hk : (xs.getD k default).name.length ≤ 1048576 := bulkF_mem hb _ (getD_mem (l := xs) (j := k) (d := default) (by omega))
  refine T_skip (T_seq (T_block (T_seq (T_region hc (Ch.s (.d (.int .i64 ((k : Nat) : Int))) pm (Ch.s (.d (.ref (.agg [(.str ((xs.getD k default).name)), (.int .i64 ((xs.getD k default).kind))]))) (.pure (.idx _ _ _ 154 (k) rfl Tryz.underlying32 sz154 rfl rfl rfl get_mapA)) (Ch.s (.d (.agg [(.str ((xs.getD k default).name)), (.int .i64 ((xs.getD k default).kind))])) (.pure (.loadRefA _ _ rfl ag154 sz154 rfl)) ?_)))))))
  refine Ch.s (.ptr 4000 0) (.alloc 4000 _ rfl zer154) (Ch.s (.d (.int .i64 ((k : Nat) : Int))) pa (Ch.s .junk (.storePtr _ _ _ rfl rfl rfl (.aggD _) sz154 (Nat.le_of_ble_eq_true rfl)) (Ch.nil (T_seq (T_region hc (Ch.s (.ptr 4000 0) (.pure (.fldPtr _ _ _ rfl fld154_0 rfl)) (Ch.s (.d (.str ((xs.getD k default).name))) (.pure (.loadPtr1 _ _ rfl ag9 rfl rfl rfl)) ?_)))))))
  refine Ch.s (.d (.bool (nameB ((xs.getD k default).name)))) (.call 14000 234 _ _ _ en234 rfl (.inl rfl) (.cons (.d _) .nil) rfl rfl (sp_impl_isName ((xs.getD k default).name) (by first | omega | assumption | (exact hx _ (getD_mem (by omega))) | (exact hx _ (by assumption)) | (exact Nat.le_trans (hx _ (by assumption)) (by omega)) | (simp only [List.length_append, List.length_take, List.length_drop, List.length_cons, List.length_nil]; omega) | (simp_all; done))) (.skip _ _ .nil) rfl) (Ch.s (.d (.bool (!(nameB ((xs.getD k default).name))))) (.pure (.not _ _ rfl rfl)) (Ch.s (.d (.bool (!(nameB ((xs.getD k default).name))))) pm ?_))
  cases h2 : (nameB ((xs.getD k default).name)) with
  | true =>
   refine Ch.s (.ptr 4000 1) (.pure (.fldPtr _ _ _ rfl fld154_1 rfl)) (Ch.s (.d (.int .i64 ((xs.getD k default).kind))) (.pure (.loadPtr1 _ _ rfl ag3 rfl rfl rfl)) (Ch.s (.d (.bool (withinB ((xs.getD k default).kind) 1 3))) (.call 19000 91 _ _ _ en91 rfl (.inl rfl) (.cons (.d _) (.cons (.d _) (.cons (.d _) .nil))) rfl rfl (sp_impl_within ((xs.getD k default).kind) 1 3) (.skip _ _ (.skip _ _ (.skip _ _ .nil))) rfl) (Ch.s (.d (.bool (!(withinB ((xs.getD k default).kind) 1 3)))) (.pure (.not _ _ rfl rfl)) (Ch.s (.d (.bool (!(withinB ((xs.getD k default).kind) 1 3)))) (.pure (.pickF _ _ _ rfl rfl rfl)) (Ch.s (.d (.bool (!(withinB ((xs.getD k default).kind) 1 3)))) pm ?_)))))
   cases h3 : (withinB ((xs.getD k default).kind) 1 3) with
   | true =>
    refine Ch.s (.d (.slice false 2 (xs.map Sgn.d))) pm (Ch.s (.d (.int .i64 ((k : Nat) : Int))) pm (Ch.s (.d (.slice false 2 ((xs.take k).map Sgn.d))) (.pure (.sliceSh _ _ _ _ 154 (0) (k) rfl Tryz.underlying32 sz154 rfl (bndN rfl) (bndS rfl rfl) (by simp <;> omega) (by simp <;> omega) (by first | (simp [List.map_take, List.map_drop]; done) | (rw [List.take_length, List.map_drop]; done)))) (Ch.s (.fn 236 [(.ptr 4000 0)]) (.pure (.func _ _ rfl rfl)) (Ch.s (.d (.bool ((xs.take k).any (fun y => decide (y.name = (xs.getD k default).name))))) (.call 27000 235 _ _ _ en235 rfl (.inl rfl) (.cons (.d _) (.cons (.lend (.fn (.cons (.ptr rfl (.agg (.cons (.d _) (.cons (.d _) .nil)) rfl)) .nil))) .nil)) rfl rfl (sp_ContainsFunc_sgn (xs.take k) 236 [(.ref (.agg [(.str ((xs.getD k default).name)), (.int .i64 ((xs.getD k default).kind))]))] (fun y => decide (y.name = (xs.getD k default).name)) en236 (fun y _ => sp_impl_areSignals_1 y (xs.getD k default)) (by first | omega | assumption | (exact hx _ (getD_mem (by omega))) | (exact hx _ (by assumption)) | (exact Nat.le_trans (hx _ (by assumption)) (by omega)) | (simp only [List.length_append, List.length_take, List.length_drop, List.length_cons, List.length_nil]; omega) | (simp_all; done))) (.skip _ _ (.skip _ _ .nil)) rfl) (Ch.s (.d (.bool ((xs.take k).any (fun y => decide (y.name = (xs.getD k default).name))))) (.pure (.pickF _ _ _ rfl rfl rfl)) (Ch.nil ?_))))))
    refine T_cond (b := ((xs.take k).any (fun y => decide (y.name = (xs.getD k default).name)))) rfl (fun h4 => ?_) (fun h4 => ?_)
    ·
     refine T_seq (T_region hc (Ch.s (.d (.bool false)) pa (Ch.nil (T_ret ?_))))
     exact endR [(.d (.bool false))] [] [] (.cons (.tmp 2 rfl) .nil) (.cons (.any _) .nil) (Exp.of (congrArg D.bool (by first | (rw [sigsB, allB_no k (by omega) (by first | (simp_all [sigOk]; done) | (simp_all [sigOk]; omega))] <;> rfl) | (rw [sigsB, allB_of (fun j hj => hp0.2 j (by omega)), Bool.true_and]; done))) (.d _)) rfl rfl
    ·
     refine T_skip (T_region hc (Ch.s (.d (.int .i64 (((k : Nat) : Int) + 1))) (.pure (.int _ _ _ _ _ rfl rfl rfl intV_addA)) (Ch.s (.d (.int .i64 (((k : Nat) : Int) + 1))) pm (Ch.nil ?_))))
     exact nx (k + 1) ⟨by omega, upto_succ hp0.2 (by first | (rw [sigOk, h2, h3, any_take (by omega) (by omega) hp1.2]; rfl) | (simp_all [sigOk]; done) | (simp_all [sigOk]; omega))⟩ (Wk.of rfl rfl (ai rfl (ai rfl (ai rfl (ai (vI (by first | rfl | omega | (simp; done) | (simp; omega))) trivial)))) trivial)
   | false =>
    refine Ch.skip rfl rfl (Ch.skip rfl rfl (Ch.skip rfl rfl (Ch.skip rfl rfl (Ch.skip rfl rfl (Ch.s (.d (.bool true)) (.pure (.pickT _ _ _ rfl rfl rfl)) (Ch.nil ?_))))))
    refine T_cond (b := true) rfl (fun _ => ?_) (fun h => nomatch h)
    refine T_seq (T_region hc (Ch.s (.d (.bool false)) pa (Ch.nil (T_ret ?_))))
    exact endR [(.d (.bool false))] [] [] (.cons (.tmp 2 rfl) .nil) (.cons (.any _) .nil) (Exp.of (congrArg D.bool (by first | (rw [sigsB, allB_no k (by omega) (by first | (simp_all [sigOk]; done) | (simp_all [sigOk]; omega))] <;> rfl) | (rw [sigsB, allB_of (fun j hj => hp0.2 j (by omega)), Bool.true_and]; done))) (.d _)) rfl rfl
  | false =>
   refine Ch.skip rfl rfl (Ch.skip rfl rfl (Ch.skip rfl rfl (Ch.skip rfl rfl (Ch.s (.d (.bool true)) (.pure (.pickT _ _ _ rfl rfl rfl)) (Ch.s (.d (.bool true)) pm (Ch.skip rfl rfl (Ch.skip rfl rfl ?_)))))))
   refine Ch.skip rfl rfl (Ch.skip rfl rfl (Ch.skip rfl rfl (Ch.s (.d (.bool true)) (.pure (.pickT _ _ _ rfl rfl rfl)) (Ch.nil ?_))))
   refine T_cond (b := true) rfl (fun _ => ?_) (fun h => nomatch h)
   refine T_seq (T_region hc (Ch.s (.d (.bool false)) pa (Ch.nil (T_ret ?_))))
   exact endR [(.d (.bool false))] [] [] (.cons (.tmp 2 rfl) .nil) (.cons (.any _) .nil) (Exp.of (congrArg D.bool (by first | (rw [sigsB, allB_no k (by omega) (by first | (simp_all [sigOk]; done) | (simp_all [sigOk]; omega))] <;> rfl) | (rw [sigsB, allB_of (fun j hj => hp0.2 j (by omega)), Bool.true_and]; done))) (.d _)) rfl rfl
 ·
  replace h1 := of_decide_eq_false h1
  try have hk : (xs.getD k default).name.length ≤ 1048576 := bulkF_mem hb _ (getD_mem (l := xs) (j := k) (d := default) (by omega))
  refine T_exit (T_seq (T_region hc (Ch.s (.d (.slice false 2 (xs.map Sgn.d))) pm (Ch.s (.d (.int .i64 ((xs.length : Nat) : Int))) (.pure (.len _ _ 154 rfl Tryz.underlying32 (.sh _ _) (by simp))) (Ch.s (.d (.bool (withinB ((xs.length : Nat) : Int) 1 8))) (.call 32000 91 _ _ _ en91 rfl (.inl rfl) (.cons (.d _) (.cons (.d _) (.cons (.d _) .nil))) rfl rfl (sp_impl_within ((xs.length : Nat) : Int) 1 8) (.skip _ _ (.skip _ _ (.skip _ _ .nil))) rfl) (Ch.s (.d (.bool (withinB ((xs.length : Nat) : Int) 1 8))) pa (Ch.nil ?_)))))))
  refine T_ret ?_
  exact endR [(.d (.bool (withinB ((xs.length : Nat) : Int) 1 8)))] [] [] (.cons (.tmp 2 rfl) .nil) (.cons (.any _) .nil) (Exp.of (congrArg D.bool (by first | (rw [sigsB, allB_no k (by omega) (by first | (simp_all [sigOk]; done) | (simp_all [sigOk]; omega))] <;> rfl) | (rw [sigsB, allB_of (fun j hj => hp0.2 j (by omega)), Bool.true_and]; done))) (.d _)) rfl rfl

theorem any_take {xs : List Sgn} {k m : Nat} (hk : k ≤ xs.length) (hm : (xs.take k).length ≤ m) (h : ∀ j, j < m → decide (((xs.take k).getD j default).name = (xs.getD k default).name) = false) : ((xs.take k).any fun y => decide (y.name = (xs.getD k default).name)) = false :=
 (any_no default fun j hj => h j (by omega)).symm

theorem sp_spec_l2Signals (xs : List Sgn) (hb : bulkF Sgn.bulk xs ≤ 1048576) : Sp Tryz.prog 162 [(.slice false 2 (xs.map Sgn.d))] [.any] (.bool (sigsB xs)) := by
 refine Sp_intro (lend := true) Tryz.func162 rfl rfl rfl (fun _ => rfl) (fun c hc hX => ?_)
 have hn := bulkF_len hb
 refine T_seq (T_region hc (Ch.s (.d (.bool false)) pa (Ch.nil (T_seq (T_seq (T_region hc (Ch.s (.d (.slice false 2 (xs.map Sgn.d))) pm ?_)))))))
 refine Ch.s (.d (.int .i64 ((xs.length : Nat) : Int))) (.pure (.len _ _ 154 rfl Tryz.underlying32 (.sh _ _) (by simp))) (Ch.s (.d (.int .i64 0)) pm (Ch.nil (T_block ?_)))
 refine T_loop (ι := Nat) (fun k => { n := 42, sl := [(0, (.d (.slice false 2 (xs.map Sgn.d)))), (7, (.d (.slice false 2 (xs.map Sgn.d)))), (8, (.d (.int .i64 ((xs.length : Nat) : Int)))), (9, (.d (.int .i64 ((k : Nat) : Int))))], hp := [], pin := [] }) (fun k => k ≤ xs.length ∧ ∀ j, j < k → sigOk xs j = true) (fun k => xs.length - k) ⟨0, ⟨by omega, fun j hj => by omega⟩, (Wk.of rfl rfl (ai rfl (ai rfl (ai rfl (ai (vI (by first | rfl | omega | (simp; done) | (simp; omega))) trivial)))) trivial)⟩ (fun k hp0 => ?_)
 refine T_seq (T_region hc (Ch.s (.d (.bool (decide (((k : Nat) : Int) < ((xs.length : Nat) : Int))))) (.pure (.int _ _ _ _ _ rfl rfl rfl rfl)) (Ch.nil (T_seq ?_))))
 refine T_cond (b := (decide (((k : Nat) : Int) < ((xs.length : Nat) : Int)))) rfl (fun h1 => ?_) (fun h1 => ?_)
 ·
  replace h1 := of_decide_eq_true h1
  try have hk : (xs.getD k default).name.length ≤ 1048576 := bulkF_mem hb _ (getD_mem (l := xs) (j := k) (d := default) (by omega))
  refine T_skip (T_seq (T_block (T_seq (T_region hc (Ch.s (.d (.int .i64 ((k : Nat) : Int))) pm (Ch.s (.d (.ref (.agg [(.str ((xs.getD k default).name)), (.int .i64 ((xs.getD k default).kind))]))) (.pure (.idx _ _ _ 154 (k) rfl Tryz.underlying32 sz154 rfl rfl rfl get_mapA)) (Ch.s (.d (.agg [(.str ((xs.getD k default).name)), (.int .i64 ((xs.getD k default).kind))])) (.pure (.loadRefA _ _ rfl ag154 sz154 rfl)) ?_)))))))
  refine Ch.s (.ptr 4000 0) (.alloc 4000 _ rfl zer154) (Ch.s (.d (.int .i64 ((k : Nat) : Int))) pa (Ch.s .junk (.storePtr _ _ _ rfl rfl rfl (.aggD _) sz154 (Nat.le_of_ble_eq_true rfl)) (Ch.nil (T_seq (T_seq (T_region hc (Ch.s (.ptr 4000 0) (.pure (.fldPtr _ _ _ rfl fld154_0 rfl)) ?_)))))))
  refine Ch.s (.d (.str ((xs.getD k default).name))) (.pure (.loadPtr1 _ _ rfl ag9 rfl rfl rfl)) (Ch.s (.d (.bool (nameB ((xs.getD k default).name)))) (.call 16000 218 _ _ _ en218 rfl (.inl rfl) (.cons (.d _) .nil) rfl rfl (sp_spec_l2Name ((xs.getD k default).name) (by first | omega | assumption | (exact hx _ (getD_mem (by omega))) | (exact hx _ (by assumption)) | (exact Nat.le_trans (hx _ (by assumption)) (by omega)) | (simp only [List.length_append, List.length_take, List.length_drop, List.length_cons, List.length_nil]; omega) | (simp_all; done))) (.skip _ _ .nil) rfl) (Ch.s (.d (.bool (!(nameB ((xs.getD k default).name))))) (.pure (.not _ _ rfl rfl)) (Ch.s (.d (.bool (!(nameB ((xs.getD k default).name))))) pm ?_)))
  cases h2 : (nameB ((xs.getD k default).name)) with
  | true =>
   refine Ch.s (.ptr 4000 1) (.pure (.fldPtr _ _ _ rfl fld154_1 rfl)) (Ch.s (.d (.int .i64 ((xs.getD k default).kind))) (.pure (.loadPtr1 _ _ rfl ag3 rfl rfl rfl)) (Ch.s (.d (.bool (withinB ((xs.getD k default).kind) 1 3))) (.call 21000 89 _ _ _ en89 rfl (.inl rfl) (.cons (.d _) (.cons (.d _) (.cons (.d _) .nil))) rfl rfl (sp_spec_l1In ((xs.getD k default).kind) 1 3) (.skip _ _ (.skip _ _ (.skip _ _ .nil))) rfl) (Ch.s (.d (.bool (!(withinB ((xs.getD k default).kind) 1 3)))) (.pure (.not _ _ rfl rfl)) (Ch.s (.d (.bool (!(withinB ((xs.getD k default).kind) 1 3)))) (.pure (.pickF _ _ _ rfl rfl rfl)) (Ch.nil ?_)))))
   refine T_cond (b := (!(withinB ((xs.getD k default).kind) 1 3))) rfl (fun h3 => ?_) (fun h3 => ?_)
   ·
    replace h3 := nott h3
    refine T_seq (T_region hc (Ch.s (.d (.bool false)) pa (Ch.nil (T_ret ?_))))
    exact endR [(.d (.bool false))] [] [] (.cons (.tmp 2 rfl) .nil) (.cons (.any _) .nil) (Exp.of (congrArg D.bool (by first | (rw [sigsB, allB_no k (by omega) (by first | (rw [sigOk, h2, h3, ← hy]; done) | (rw [sigOk, h2, h3, ← hy]; rfl) | (simp_all [sigOk]; done) | (simp_all [sigOk]; omega))] <;> rfl) | (rw [sigsB, allB_of (fun j hj => hp0.2 j (by omega)), Bool.true_and]; done))) (.d _)) rfl rfl
   ·
    replace h3 := notf h3
    refine T_skip (T_seq (T_region hc (Ch.s (.d (.slice false 2 (xs.map Sgn.d))) pm (Ch.s (.d (.int .i64 ((k : Nat) : Int))) pm (Ch.s (.d (.slice false 2 ((xs.take k).map Sgn.d))) (.pure (.sliceSh _ _ _ _ 154 (0) (k) rfl Tryz.underlying32 sz154 rfl (bndN rfl) (bndS rfl rfl) (by simp <;> omega) (by simp <;> omega) (by first | (simp [List.map_take, List.map_drop]; done) | (rw [List.take_length, List.map_drop]; done)))) (Ch.s (.d (.int .i64 (((xs.take k).length : Nat) : Int))) (.pure (.len _ _ 154 rfl Tryz.underlying32 (.sh _ _) (by simp))) (Ch.s (.d (.int .i64 0)) pm ?_)))))))
    refine Ch.nil (T_block ?_)
    refine T_loop (ι := Nat) (fun m => { n := 42, sl := [(0, (.d (.slice false 2 (xs.map Sgn.d)))), (4, (.ptr 4000 0)), (7, (.d (.slice false 2 (xs.map Sgn.d)))), (8, (.d (.int .i64 ((xs.length : Nat) : Int)))), (9, (.d (.int .i64 ((k : Nat) : Int)))), (26, (.d (.slice false 2 ((xs.take k).map Sgn.d)))), (27, (.d (.int .i64 (((xs.take k).length : Nat) : Int)))), (28, (.d (.int .i64 ((m : Nat) : Int))))], hp := [(4000, (some (.box [(.d (.str ((xs.getD k default).name))), (.d (.int .i64 ((xs.getD k default).kind)))])))], pin := [] }) (fun m => m ≤ (xs.take k).length ∧ ∀ j, j < m → decide (((xs.take k).getD j default).name = (xs.getD k default).name) = false) (fun m => (xs.take k).length - m) ⟨0, ⟨by omega, fun j hj => by omega⟩, (Wk.of rfl rfl (ai rfl (ai rfl (ai rfl (ai rfl (ai rfl (ai rfl (ai rfl (ai (vI (by first | rfl | omega | (simp; done) | (simp; omega))) trivial)))))))) (ai rfl trivial))⟩ (fun m hp1 => ?_)
    have hlt : (xs.take k).length = k := by simp; omega
    refine T_seq (T_region hc (Ch.s (.d (.bool (decide (((m : Nat) : Int) < (((xs.take k).length : Nat) : Int))))) (.pure (.int _ _ _ _ _ rfl rfl rfl rfl)) (Ch.nil (T_seq ?_))))
    refine T_cond (b := (decide (((m : Nat) : Int) < (((xs.take k).length : Nat) : Int)))) rfl (fun h4 => ?_) (fun h4 => ?_)
    ·
     replace h4 := of_decide_eq_true h4
     refine T_skip (T_seq (T_block (T_seq (T_region hc (Ch.s (.d (.ref (.agg [(.str (((xs.take k).getD m default).name)), (.int .i64 (((xs.take k).getD m default).kind))]))) (.pure (.idx _ _ _ 154 (m) rfl Tryz.underlying32 sz154 rfl rfl rfl get_mapA)) (Ch.s (.d (.agg [(.str (((xs.take k).getD m default).name)), (.int .i64 (((xs.take k).getD m default).kind))])) (.pure (.loadRefA _ _ rfl ag154 sz154 rfl)) (Ch.s (.ptr 6000 0) (.alloc 6000 _ rfl zer154) ?_)))))))
     refine Ch.s .junk (.storePtr _ _ _ rfl rfl rfl (.aggD _) sz154 (Nat.le_of_ble_eq_true rfl)) (Ch.nil (T_seq (T_region hc (Ch.s (.ptr 4000 0) (.pure (.fldPtr _ _ _ rfl fld154_0 rfl)) (Ch.s (.d (.str ((xs.getD k default).name))) (.pure (.loadPtr1 _ _ rfl ag9 rfl rfl rfl)) (Ch.s (.ptr 6000 0) (.pure (.fldPtr _ _ _ rfl fld154_0 rfl)) (Ch.s (.d (.str (((xs.take k).getD m default).name))) (.pure (.loadPtr1 _ _ rfl ag9 rfl rfl rfl)) ?_)))))))
     refine Ch.s (.d (.bool (decide (((xs.getD k default).name) = (((xs.take k).getD m default).name))))) (.pure (.str _ _ _ _ _ rfl rfl rfl rfl)) (Ch.nil ?_)
     refine T_cond (b := (decide (((xs.getD k default).name) = (((xs.take k).getD m default).name)))) rfl (fun h5 => ?_) (fun h5 => ?_)
     ·
      replace h5 := of_decide_eq_true h5
      try have hy := any_yes (p := fun y : Sgn => decide (y.name = (xs.getD k default).name)) (l := xs.take k) default m (by omega) (decide_eq_true h5.symm)
      refine T_seq (T_region hc (Ch.s (.d (.bool false)) pa (Ch.nil (T_ret ?_))))
      exact endR [(.d (.bool false))] [] [] (.cons (.tmp 2 rfl) .nil) (.cons (.any _) .nil) (Exp.of (congrArg D.bool (by first | (rw [sigsB, allB_no k (by omega) (by first | (rw [sigOk, h2, h3, ← hy]; done) | (rw [sigOk, h2, h3, ← hy]; rfl) | (simp_all [sigOk]; done) | (simp_all [sigOk]; omega))] <;> rfl) | (rw [sigsB, allB_of (fun j hj => hp0.2 j (by omega)), Bool.true_and]; done))) (.d _)) rfl rfl
     ·
      replace h5 := of_decide_eq_false h5
      try have hy := any_yes (p := fun y : Sgn => decide (y.name = (xs.getD k default).name)) (l := xs.take k) default m (by omega) (decide_eq_true h5.symm)
      refine T_skip (T_region hc (Ch.s (.d (.int .i64 (((m : Nat) : Int) + 1))) (.pure (.int _ _ _ _ _ rfl rfl rfl intV_addA)) (Ch.s (.d (.int .i64 (((m : Nat) : Int) + 1))) pm (Ch.nil ?_))))
      exact nx (m + 1) ⟨by omega, upto_succ hp1.2 (by first | (simp_all; done) | (exact decide_eq_false (fun e => (by assumption : ¬ _) e.symm)))⟩ (Wk.of rfl rfl (ai rfl (ai rfl (ai rfl (ai rfl (ai rfl (ai rfl (ai rfl (ai (vI (by first | rfl | omega | (simp; done) | (simp; omega))) trivial)))))))) (ai rfl trivial))
    ·
     replace h4 := of_decide_eq_false h4
     refine T_exit (T_region hc (Ch.s (.d (.int .i64 (((k : Nat) : Int) + 1))) (.pure (.int _ _ _ _ _ rfl rfl rfl intV_addA)) (Ch.s (.d (.int .i64 (((k : Nat) : Int) + 1))) pm (Ch.nil ?_))))
     exact nx (k + 1) ⟨by omega, upto_succ hp0.2 (by first | (rw [sigOk, h2, h3, any_take (by omega) (by omega) hp1.2]; rfl) | (simp_all [sigOk]; done) | (simp_all [sigOk]; omega))⟩ (Wk.of rfl rfl (ai rfl (ai rfl (ai rfl (ai (vI (by first | rfl | omega | (simp; done) | (simp; omega))) trivial)))) trivial)
  | false =>
   refine Ch.skip rfl rfl (Ch.skip rfl rfl (Ch.skip rfl rfl (Ch.skip rfl rfl (Ch.s (.d (.bool true)) (.pure (.pickT _ _ _ rfl rfl rfl)) (Ch.nil ?_)))))
   refine T_cond (b := true) rfl (fun _ => ?_) (fun h => nomatch h)
   refine T_seq (T_region hc (Ch.s (.d (.bool false)) pa (Ch.nil (T_ret ?_))))
   exact endR [(.d (.bool false))] [] [] (.cons (.tmp 2 rfl) .nil) (.cons (.any _) .nil) (Exp.of (congrArg D.bool (by first | (rw [sigsB, allB_no k (by omega) (by first | (rw [sigOk, h2, h3, ← hy]; done) | (rw [sigOk, h2, h3, ← hy]; rfl) | (simp_all [sigOk]; done) | (simp_all [sigOk]; omega))] <;> rfl) | (rw [sigsB, allB_of (fun j hj => hp0.2 j (by omega)), Bool.true_and]; done))) (.d _)) rfl rfl
 ·
  replace h1 := of_decide_eq_false h1
  try have hk : (xs.getD k default).name.length ≤ 1048576 := bulkF_mem hb _ (getD_mem (l := xs) (j := k) (d := default) (by omega))
  refine T_exit (T_seq (T_region hc (Ch.s (.d (.slice false 2 (xs.map Sgn.d))) pm (Ch.s (.d (.int .i64 ((xs.length : Nat) : Int))) (.pure (.len _ _ 154 rfl Tryz.underlying32 (.sh _ _) (by simp))) (Ch.s (.d (.bool (withinB ((xs.length : Nat) : Int) 1 8))) (.call 41000 89 _ _ _ en89 rfl (.inl rfl) (.cons (.d _) (.cons (.d _) (.cons (.d _) .nil))) rfl rfl (sp_spec_l1In ((xs.length : Nat) : Int) 1 8) (.skip _ _ (.skip _ _ (.skip _ _ .nil))) rfl) (Ch.s (.d (.bool (withinB ((xs.length : Nat) : Int) 1 8))) pa (Ch.nil ?_)))))))
  refine T_ret ?_
  exact endR [(.d (.bool (withinB ((xs.length : Nat) : Int) 1 8)))] [] [] (.cons (.tmp 2 rfl) .nil) (.cons (.any _) .nil) (Exp.of (congrArg D.bool (by first | (rw [sigsB, allB_no k (by omega) (by first | (rw [sigOk, h2, h3, ← hy]; done) | (rw [sigOk, h2, h3, ← hy]; rfl) | (simp_all [sigOk]; done) | (simp_all [sigOk]; omega))] <;> rfl) | (rw [sigsB, allB_of (fun j hj => hp0.2 j (by omega)), Bool.true_and]; done))) (.d _)) rfl rfl

theorem sty55 : SlotTy Tryz.prog 55 3 1 8 := slotTy_mk (by kernel_rfl)

def outP (sg : List Sgn) (j : Nat) : Bool := !decide ((sg.getD j default).kind = 1)

def outK (sg : List Sgn) (k : Nat) : List Int := selTo k (outP sg) fun j => (j : Int)

def outsL (sg : List Sgn) : List Int := outK sg sg.length

theorem outK_le (sg : List Sgn) (k : Nat) : (outK sg k).length ≤ k := selTo_le _ _ _

theorem sp_impl_outputs (x : Sgr) (hb : x.bulk ≤ 1048576) : Sp Tryz.prog 173 [(.agg [(.slice false 2 (x.sigs.map Sgn.d)), (.slice false 1 (x.codes.map D.str)), (.slice false 4 (x.arcs.map Arc.d))])] [.any] (.slice true 1 ((outsL x.sigs).map (fun n : Int => D.int .i64 n))) := by
 refine Sp_intro (lend := true) Tryz.func173 rfl rfl rfl (fun _ => rfl) (fun c hc hX => ?_)
 obtain ⟨hp0, hp1, hp2⟩ := Sgr.parts hb
 have hn0 := bulkF_len hp0
 have hn1 := bulk_len hp1
 have hx1 := bulk_mem hp1
 have hn2 := bulkF_len hp2
 refine T_seq (T_region hc (Ch.s (.ptr 1000 0) (.box 1000 _ _ rfl (.aggD _)) (Ch.s (.c (.slice none 0 0)) pa (Ch.nil (T_seq (T_region hc (Ch.s (.row 6000) (.slice 6000 _ 3 _ rfl sty55 (xs := []) rfl rfl .nil rfl rfl (by decide)) ?_)))))))
 refine Ch.s (.row 6000) pa (Ch.nil (T_seq (T_seq (T_region hc (Ch.s (.ptr 1000 0) (.pure (.fldPtr _ _ _ rfl fld35_0 rfl)) (Ch.s (.d (.slice false 2 (x.sigs.map Sgn.d))) (.pure (.loadPtr1 _ _ rfl ag32 rfl rfl rfl)) (Ch.s (.d (.int .i64 ((x.sigs.length : Nat) : Int))) (.pure (.len _ _ 154 rfl Tryz.underlying32 (.sh _ _) (by simp))) ?_)))))))
 refine Ch.s (.d (.int .i64 0)) pm (Ch.nil (T_block ?_))
 refine T_loop (ι := Nat) (fun k => { n := 24, sl := [(3, (.row 3)), (8, (.d (.slice false 2 (x.sigs.map Sgn.d)))), (9, (.d (.int .i64 ((x.sigs.length : Nat) : Int)))), (10, (.d (.int .i64 ((k : Nat) : Int))))], hp := [(3, (some (.row 1 ((outK x.sigs k).map (fun n : Int => D.int .i64 n)))))], pin := [] }) (fun k => k ≤ x.sigs.length) (fun k => x.sigs.length - k) ⟨0, (by omega), (Wk.ren [(3, 6000)] rfl rfl rfl rfl (ai rfl (ai rfl (ai rfl (ai (vI (by first | rfl | omega | (simp; done) | (simp; omega))) trivial)))) (ai (oR (by first | rfl | (exact push rfl (selTo_yes (by simp_all [outP]))) | (exact congrArg (List.map _) (selTo_no (by simp_all [outP]))))) trivial))⟩ (fun k hp0 => ?_)
 have hq := outK_le x.sigs k
 refine T_seq (T_region hc (Ch.s (.d (.bool (decide (((k : Nat) : Int) < ((x.sigs.length : Nat) : Int))))) (.pure (.int _ _ _ _ _ rfl rfl rfl rfl)) (Ch.nil (T_seq ?_))))
 refine T_cond (b := (decide (((k : Nat) : Int) < ((x.sigs.length : Nat) : Int)))) rfl (fun h1 => ?_) (fun h1 => ?_)
 ·
  replace h1 := of_decide_eq_true h1
  refine T_skip (T_seq (T_block (T_seq (T_region hc (Ch.s (.d (.int .i64 ((k : Nat) : Int))) pm (Ch.s (.d (.ref (.agg [(.str ((x.sigs.getD k default).name)), (.int .i64 ((x.sigs.getD k default).kind))]))) (.pure (.idx _ _ _ 154 (k) rfl Tryz.underlying32 sz154 rfl rfl rfl get_mapA)) (Ch.s (.d (.agg [(.str ((x.sigs.getD k default).name)), (.int .i64 ((x.sigs.getD k default).kind))])) (.pure (.loadRefA _ _ rfl ag154 sz154 rfl)) ?_)))))))
  refine Ch.s (.ptr 5000 0) (.alloc 5000 _ rfl zer154) (Ch.s (.d (.int .i64 ((k : Nat) : Int))) pa (Ch.s .junk (.storePtr _ _ _ rfl rfl rfl (.aggD _) sz154 (Nat.le_of_ble_eq_true rfl)) (Ch.nil (T_seq (T_region hc (Ch.s (.ptr 5000 1) (.pure (.fldPtr _ _ _ rfl fld154_1 rfl)) (Ch.s (.d (.int .i64 ((x.sigs.getD k default).kind))) (.pure (.loadPtr1 _ _ rfl ag3 rfl rfl rfl)) ?_)))))))
  refine Ch.s (.d (.bool (!(decide (((x.sigs.getD k default).kind) = 1))))) (.pure (.int _ _ _ _ _ rfl rfl rfl rfl)) (Ch.nil ?_)
  refine T_cond (b := (!(decide (((x.sigs.getD k default).kind) = 1)))) rfl (fun h2 => ?_) (fun h2 => ?_)
  ·
   replace h2 := nott h2
   replace h2 := of_decide_eq_false h2
   refine T_region hc (Ch.s (.row 3) pm (Ch.s (.d (.int .i64 ((k : Nat) : Int))) pm (Ch.s (.row 20000) (.slice 20000 _ 3 _ rfl sty55 (xs := [.tmp 19]) rfl rfl (.cons (.d _) .nil) rfl rfl (by decide)) ?_)))
   refine Ch.step (v := (.row 21000)) rfl (.append 21000 _ _ _ 3 rfl sty55 (by decide) (.rowK rfl) (.inr ⟨_, rfl, rfl⟩) (.row rfl rfl) rfl (by first | omega | (simp only [List.length_append, List.length_map, List.length_cons, List.length_nil]; omega) | (simp; omega) | (simp; done))) rfl rfl ?_
   refine Ch.s (.row 21000) pa (Ch.nil (T_region hc (Ch.s (.d (.int .i64 (((k : Nat) : Int) + 1))) (.pure (.int _ _ _ _ _ rfl rfl rfl intV_addA)) (Ch.s (.d (.int .i64 (((k : Nat) : Int) + 1))) pm (Ch.nil ?_)))))
   exact nx (k + 1) (by omega) (Wk.ren [(3, 21000)] rfl rfl rfl rfl (ai rfl (ai rfl (ai rfl (ai (vI (by first | rfl | omega | (simp; done) | (simp; omega))) trivial)))) (ai (oR (by first | rfl | (exact push rfl (selTo_yes (by simp_all [outP]))) | (exact congrArg (List.map _) (selTo_no (by simp_all [outP]))))) trivial))
  ·
   replace h2 := notf h2
   replace h2 := of_decide_eq_true h2
   refine T_skip (T_region hc (Ch.s (.d (.int .i64 (((k : Nat) : Int) + 1))) (.pure (.int _ _ _ _ _ rfl rfl rfl intV_addA)) (Ch.s (.d (.int .i64 (((k : Nat) : Int) + 1))) pm (Ch.nil ?_))))
   exact nx (k + 1) (by omega) (Wk.of rfl rfl (ai rfl (ai rfl (ai rfl (ai (vI (by first | rfl | omega | (simp; done) | (simp; omega))) trivial)))) (ai (oR (by first | rfl | (exact push rfl (selTo_yes (by simp_all [outP]))) | (exact congrArg (List.map _) (selTo_no (by simp_all [outP]))))) trivial))
 ·
  replace h1 := of_decide_eq_false h1
  refine T_exit (T_seq (T_region hc (Ch.s (.row 3) pm (Ch.s (.row 3) pa (Ch.nil (T_ret ?_))))))
  exact endR [(.row 3)] [] [3] (.cons (.tmp 2 rfl) .nil) (.cons (.any _) .nil) (Exp.of (congrArg (D.slice true 1) (by rw [outsL, show x.sigs.length = k by omega])) (.row rfl)) rfl rfl

theorem en180 : Enters Tryz.prog 180 := ⟨_, Tryz.func180, by kernel_rfl, rfl⟩

theorem en177 : Enters Tryz.prog 177 := ⟨_, Tryz.func177, by kernel_rfl, rfl⟩

theorem join_two (a b : List UInt8) (r : List (List UInt8)) (sep : List UInt8) : Lib.join (a :: b :: r) sep = a ++ sep ++ Lib.join (b :: r) sep := by
 unfold Lib.join; simp [List.intercalate, List.intersperse]

theorem join_one (a sep : List UInt8) : Lib.join [a] sep = a := by unfold Lib.join; simp [List.intercalate, List.intersperse]

theorem join_snoc (w sep : List UInt8) : ∀ {xs : List (List UInt8)}, xs ≠ [] → Lib.join (xs ++ [w]) sep = Lib.join xs sep ++ sep ++ w
 | [], h => absurd rfl h
 | [a], _ => by rw [List.singleton_append, join_two, join_one, join_one]
 | a :: b :: r, _ => by
  have ih := join_snoc w sep (xs := b :: r) (by simp)
  rw [List.cons_append] at ih
  rw [List.cons_append, List.cons_append, join_two, ih, join_two]
  simp only [List.append_assoc]

theorem join_le {B : Nat} (sep : List UInt8) : ∀ {xs : List (List UInt8)}, (∀ x ∈ xs, x.length ≤ B) → (Lib.join xs sep).length ≤ xs.length * (B + sep.length)
 | [], _ => by unfold Lib.join; simp [List.intercalate, List.intersperse]
 | [a], h => by
  rw [join_one]; have := h a (by simp); rw [List.length_singleton]; omega
 | a :: b :: r, h => by
  have ih := join_le sep (xs := b :: r) (fun x hx => h x (List.mem_cons_of_mem _ hx))
  have ha := h a (by simp)
  rw [join_two, List.length_append, List.length_append]
  show _ ≤ ((b :: r).length + 1) * (B + sep.length)
  rw [Nat.succ_mul]
  omega

theorem join_ne (sep : List UInt8) : ∀ {xs : List (List UInt8)}, xs ≠ [] → (∀ x ∈ xs, x ≠ []) → Lib.join xs sep ≠ []
 | [], h, _ => absurd rfl h
 | [a], _, h => by rw [join_one]; exact h a (by simp)
 | a :: b :: r, _, h => by
  rw [join_two]
  intro e
  have := h a (by simp)
  simp at e
  exact this e.1

def wordOf (sg : List Sgn) (c : List UInt8) (j : Nat) : List UInt8 := if c.getD j 0 = 48 then (sg.getD j default).name ++ [39] else (sg.getD j default).name

def wordsTo (sg : List Sgn) (c : List UInt8) (k : Nat) : List (List UInt8) := selTo k (isLit c) (wordOf sg c)

def prodTo (sg : List Sgn) (c : List UInt8) (k : Nat) : List UInt8 := Lib.join (wordsTo sg c k) [32]

def prodT (sg : List Sgn) (c : List UInt8) : List UInt8 := if prodTo sg c sg.length = [] then [49] else prodTo sg c sg.length

def covTo (sg : List Sgn) (l : List (List UInt8)) (k : Nat) : List UInt8 := Lib.join ((l.take k).map (prodT sg)) [32, 43, 32]

def covT (sg : List Sgn) (l : List (List UInt8)) : List UInt8 := if covTo sg l l.length = [] then [48] else covTo sg l l.length

def sgOk (sg : List Sgn) : Prop := sg.length ≤ 8 ∧ ∀ y ∈ sg, 1 ≤ y.name.length ∧ y.name.length ≤ 6

def cubOk (sg : List Sgn) (c : List UInt8) : Prop := c.length = sg.length ∧ ∀ j, j < c.length → c.getD j 0 = 48 ∨ c.getD j 0 = 49 ∨ c.getD j 0 = 45

def covGd (sg : List Sgn) (l : List (List UInt8)) : Prop := l.length ≤ 60 ∧ ∀ c ∈ l, cubOk sg c

theorem sgOk_of {sg : List Sgn} (h : sigsB sg = true) : sgOk sg := by
 unfold sigsB at h
 simp only [Bool.and_eq_true, allB_true] at h
 have hw := h.2
 unfold withinB at hw
 simp only [Bool.and_eq_true, decide_eq_true_iff] at hw
 refine ⟨by omega, fun y hy => ?_⟩
 obtain ⟨j, hj, rfl⟩ := List.mem_iff_getElem.1 hy
 have h1 := h.1 j hj
 have hg : sg.getD j default = sg[j] := by simp [hj]
 unfold sigOk at h1
 rw [hg] at h1
 simp only [Bool.and_eq_true] at h1
 have h2 := h1.1
 unfold nameB at h2
 simp only [Bool.and_eq_true] at h2
 have h3 := h2.2
 unfold withinB at h3
 simp only [Bool.and_eq_true, decide_eq_true_iff] at h3
 omega

theorem covGd_of {sg : List Sgn} {l : List (List UInt8)} (h : goodB (sg.length : Int) l = true) : covGd sg l := by
  unfold goodB at h
  simp only [Bool.and_eq_true, decide_eq_true_iff] at h
  refine ⟨by omega, fun c hc => ?_⟩
  obtain ⟨j, hj, rfl⟩ := List.mem_iff_getElem.1 hc
  have h1 := allB_true.1 h.1 j hj
  have hg : l.getD j default = l[j] := by simp [hj]
  rw [hg] at h1
  unfold okCube cubeB at h1
  simp only [Bool.and_eq_true, decide_eq_true_iff] at h1
  refine ⟨by omega, fun q hq => ?_⟩
  have h2 := h1.1
  have h3 := allB_true.1 h2.1 q hq
  simp only [cubeCh, Bool.or_eq_true, beq_iff_eq] at h3
  rcases h3 with (h4 | h4) | h4
  · exact .inl h4
  · exact .inr (.inl h4)
  · exact .inr (.inr h4)

theorem word_len {sg : List Sgn} {c : List UInt8} {j : Nat} (hs : sgOk sg) (hj : j < sg.length) : 1 ≤ (wordOf sg c j).length ∧ (wordOf sg c j).length ≤ 7 := by
  have := hs.2 _ (getD_mem (l := sg) (j := j) (d := default) hj)
  unfold wordOf
  split
  · rw [List.length_append, List.length_singleton]; omega
  · omega

theorem words_mem {sg : List Sgn} {c : List UInt8} {k : Nat} {w : List UInt8} (hk : k ≤ sg.length) (h : w ∈ wordsTo sg c k) : ∃ j, j < sg.length ∧ w = wordOf sg c j := by
 unfold wordsTo selTo at h
 obtain ⟨j, hj, rfl⟩ := List.mem_map.1 h
 have := List.mem_range.1 (List.mem_filter.1 hj).1
 exact ⟨j, by omega, rfl⟩

theorem words_ne {sg : List Sgn} {c : List UInt8} {k : Nat} (hs : sgOk sg) (hk : k ≤ sg.length) : ∀ w ∈ wordsTo sg c k, w ≠ [] := by
 intro w hw e
 obtain ⟨j, hj, rfl⟩ := words_mem hk hw
 have := (word_len (c := c) hs hj).1
 rw [e] at this; simp at this

theorem prodTo_le {sg : List Sgn} (c : List UInt8) {k : Nat} (hs : sgOk sg) (hk : k ≤ sg.length) : (prodTo sg c k).length ≤ 64 := by
 have h1 := join_le (B := 7) [32] (xs := wordsTo sg c k) (fun w hw => by
  obtain ⟨j, hj, rfl⟩ := words_mem hk hw
  exact (word_len hs hj).2)
 have h2 : (wordsTo sg c k).length ≤ k := selTo_le _ _ _
 have h3 := hs.1
 rw [List.length_singleton] at h1
 unfold prodTo; omega

theorem prodTo_nil {sg : List Sgn} {c : List UInt8} {k : Nat} (hs : sgOk sg) (hk : k ≤ sg.length) : prodTo sg c k = [] ↔ wordsTo sg c k = [] := by
  constructor
  · intro h
    apply Classical.byContradiction
    intro hn
    exact join_ne [32] hn (words_ne hs hk) h
  · intro h; unfold prodTo; rw [h]; rfl

theorem prodTo_no {sg : List Sgn} {c : List UInt8} {k : Nat} (h : isLit c k = false) : prodTo sg c (k + 1) = prodTo sg c k := by
 unfold prodTo wordsTo; rw [← selTo_no h]

theorem prodTo_first {sg : List Sgn} {c : List UInt8} {k : Nat} (hs : sgOk sg) (hk : k ≤ sg.length) (h : isLit c k = true) (e : prodTo sg c k = []) : prodTo sg c (k + 1) = prodTo sg c k ++ wordOf sg c k := by
 rw [e, List.nil_append]
 have := (prodTo_nil hs hk).1 e
 unfold prodTo wordsTo at *
 rw [← selTo_yes h, this, List.nil_append, join_one]

theorem prodTo_more {sg : List Sgn} {c : List UInt8} {k : Nat} (hs : sgOk sg) (hk : k ≤ sg.length) (h : isLit c k = true) (e : ¬ prodTo sg c k = []) : prodTo sg c (k + 1) = prodTo sg c k ++ [32] ++ wordOf sg c k := by
 have hne : wordsTo sg c k ≠ [] := fun h2 => e ((prodTo_nil hs hk).2 h2)
 unfold prodTo wordsTo at *
 rw [← selTo_yes h, join_snoc _ _ hne]

theorem wordOf_zero {sg : List Sgn} {c : List UInt8} {k : Nat} (h : c.getD k 0 = 48) : wordOf sg c k = (sg.getD k default).name ++ [39] := if_pos h

theorem wordOf_one {sg : List Sgn} {c : List UInt8} {k : Nat} (h : ¬ c.getD k 0 = 48) : wordOf sg c k = (sg.getD k default).name := if_neg h

theorem prodT_le {sg : List Sgn} (c : List UInt8) (hs : sgOk sg) : (prodT sg c).length ≤ 64 := by
  have := prodTo_le c hs (Nat.le_refl _)
  unfold prodT; split
  · decide
  · exact this

theorem prodT_ne (sg : List Sgn) (c : List UInt8) : prodT sg c ≠ [] := by
  unfold prodT; split
  · simp
  · assumption

theorem covTo_le {sg : List Sgn} {l : List (List UInt8)} (k : Nat) (hs : sgOk sg) (hl : covGd sg l) : (covTo sg l k).length ≤ 4020 := by
 have h1 := join_le (B := 64) [32, 43, 32] (xs := (l.take k).map (prodT sg)) (fun w hw => by
  obtain ⟨c, _, rfl⟩ := List.mem_map.1 hw
  exact prodT_le c hs)
 have h2 := hl.1
 have h3 : (l.take k).length ≤ l.length := by rw [List.length_take]; omega
 rw [List.length_map, show ([32, 43, 32] : List UInt8).length = 3 from rfl] at h1
 unfold covTo; omega

theorem take_ne {l : List (List UInt8)} {k : Nat} (h : k < l.length) (h0 : 0 < k) : (l.take k) ≠ [] := by
 intro e
 have := congrArg List.length e
 rw [List.length_take, List.length_nil] at this
 omega

theorem covTo_more {sg : List Sgn} {l : List (List UInt8)} {k : Nat} (hk : k < l.length) (h : 0 < k) : covTo sg l (k + 1) = covTo sg l k ++ [32, 43, 32] ++ prodT sg (l.getD k default) := by
 have hne := take_ne hk h
 have hg : l.getD k default = l[k] := by simp [hk]
 unfold covTo
 rw [List.take_succ_eq_append_getElem hk, List.map_append, hg]
 exact join_snoc _ _ (by simpa using hne)

theorem covTo_first {sg : List Sgn} {l : List (List UInt8)} {k : Nat} (hk : k < l.length) (h : ¬ 0 < k) : covTo sg l (k + 1) = covTo sg l k ++ prodT sg (l.getD k default) := by
 obtain rfl : k = 0 := by omega
 have hg : l.getD 0 default = l[0] := by simp [hk]
 unfold covTo
 rw [List.take_succ_eq_append_getElem hk, hg]
 simp [Lib.join, List.intercalate, List.intersperse]

theorem covTo_nil {sg : List Sgn} {l : List (List UInt8)} : covTo sg l l.length = [] ↔ l.length = 0 := by
  constructor
  · intro h
    apply Classical.byContradiction
    intro hn
    have : l ≠ [] := fun e => hn (by rw [e]; rfl)
    refine join_ne [32, 43, 32] (xs := (l.take l.length).map (prodT sg)) (by rw [List.take_length]; simpa using this) (fun w hw => ?_) h
    obtain ⟨c, _, rfl⟩ := List.mem_map.1 hw
    exact prodT_ne sg c
  · intro h
    have : l = [] := List.eq_nil_of_length_eq_zero h
    subst this; rfl

theorem covT_le {sg : List Sgn} {l : List (List UInt8)} (hs : sgOk sg) (hl : covGd sg l) : (covT sg l).length ≤ 4020 := by
  have := covTo_le l.length hs hl
  unfold covT; split
  · simp
  · exact this

theorem sp_impl_cubeText (sg : List Sgn) (u : List UInt8) (hs : sgOk sg) (hu : cubOk sg u) : Sp Tryz.prog 180 [(.slice false 2 (sg.map Sgn.d)), (.str u)] [.any, .any] (.str (prodT sg u)) := by
 refine Sp_intro (lend := true) Tryz.func180 rfl rfl rfl (fun _ => rfl) (fun c hc hX => ?_)
 have hs8 := hs.1; have hcl := hu.1
 refine T_seq (T_region hc (Ch.s (.d (.str [])) pa (Ch.nil (T_seq (T_region hc (Ch.s (.row 8000) (.slice 8000 _ 9 _ rfl sty23 (xs := []) rfl rfl .nil rfl rfl (by decide)) (Ch.s (.row 8000) pa ?_)))))))
 refine Ch.nil (T_seq (T_seq (T_region hc (Ch.s (.d (.slice false 2 (sg.map Sgn.d))) pm (Ch.s (.d (.int .i64 ((sg.length : Nat) : Int))) (.pure (.len _ _ 154 rfl Tryz.underlying32 (.sh _ _) (by simp))) (Ch.s (.d (.int .i64 0)) pm (Ch.nil ?_)))))))
 refine T_block ?_
 refine T_loop (ι := Nat) (fun k => { n := 40, sl := [(1, (.d (.str u))), (5, (.row 5)), (9, (.d (.slice false 2 (sg.map Sgn.d)))), (10, (.d (.int .i64 ((sg.length : Nat) : Int)))), (11, (.d (.int .i64 ((k : Nat) : Int))))], hp := [(5, (some (.row 1 ((wordsTo sg u k).map D.str))))], pin := [] }) (fun k => k ≤ sg.length) (fun k => sg.length - k) ⟨0, (by omega), (Wk.ren [(5, 8000)] rfl rfl rfl rfl (ai rfl (ai rfl (ai rfl (ai rfl (ai (vI (by first | rfl | omega | (simp; done) | (simp; omega))) trivial))))) (ai (oR (by first | rfl | (exact push rfl (by rw [← wordOf_one (c := u) (by simp_all)]; exact selTo_yes (by simp_all [isLit]))) | (exact push rfl (by rw [← wordOf_zero (c := u) (by simp_all)]; exact selTo_yes (by simp_all [isLit]))) | (exact congrArg (List.map _) (selTo_no (by simp_all [isLit]))))) trivial))⟩ (fun k hp0 => ?_)
 have hq : (wordsTo sg u k).length ≤ k := selTo_le _ _ _; have hpl := prodTo_le u hs hp0; have hpn := prodTo_nil (c := u) hs hp0
 refine T_seq (T_region hc (Ch.s (.d (.bool (decide (((k : Nat) : Int) < ((sg.length : Nat) : Int))))) (.pure (.int _ _ _ _ _ rfl rfl rfl rfl)) (Ch.nil (T_seq ?_))))
 refine T_cond (b := (decide (((k : Nat) : Int) < ((sg.length : Nat) : Int)))) rfl (fun h1 => ?_) (fun h1 => ?_)
 ·
  replace h1 := of_decide_eq_true h1
  try have hnk := hs.2 _ (getD_mem (l := sg) (j := k) (d := default) (by omega))
  try have hck := hu.2 k (by omega)
  try have hkk : k = sg.length := by omega
  try unfold prodTo at hpl
  refine T_skip (T_seq (T_block (T_seq (T_region hc (Ch.s (.d (.int .i64 ((k : Nat) : Int))) pm (Ch.s (.d (.ref (.agg [(.str ((sg.getD k default).name)), (.int .i64 ((sg.getD k default).kind))]))) (.pure (.idx _ _ _ 154 (k) rfl Tryz.underlying32 sz154 rfl rfl rfl get_mapA)) (Ch.s (.d (.agg [(.str ((sg.getD k default).name)), (.int .i64 ((sg.getD k default).kind))])) (.pure (.loadRefA _ _ rfl ag154 sz154 rfl)) ?_)))))))
  refine Ch.s (.ptr 7000 0) (.alloc 7000 _ rfl zer154) (Ch.s (.d (.int .i64 ((k : Nat) : Int))) pa (Ch.s .junk (.storePtr _ _ _ rfl rfl rfl (.aggD _) sz154 (Nat.le_of_ble_eq_true rfl)) (Ch.nil (T_seq (T_region hc (Ch.s (.d (.str u)) pm (Ch.s (.d (.int .i64 ((k : Nat) : Int))) pm ?_)))))))
  refine Ch.s (.d (.int .u8 ((u.getD k 0).toNat : Int))) (.pure (.idxStr _ _ _ (k) rfl Tryz.underlying9 rfl rfl rfl get_strA)) (Ch.nil (T_block (T_seq (T_region hc (Ch.s (.d (.bool (decide (((u.getD k 0) : UInt8) = 49)))) (.pure (.int _ _ _ _ _ rfl rfl rfl (u8_eql ((u.getD k 0) : UInt8) 49 rfl rfl))) (Ch.s (.d (.bool (decide (((u.getD k 0) : UInt8) = 49)))) pa (Ch.nil ?_)))))))
  refine T_cond (b := (decide (((u.getD k 0) : UInt8) = 49))) rfl (fun h2 => ?_) (fun h2 => ?_)
  ·
   replace h2 := of_decide_eq_true h2
   refine T_region hc (Ch.s (.row 5) pm (Ch.s (.ptr 7000 0) (.pure (.fldPtr _ _ _ rfl fld154_0 rfl)) (Ch.s (.d (.str ((sg.getD k default).name))) (.pure (.loadPtr1 _ _ rfl ag9 rfl rfl rfl)) (Ch.s (.row 24000) (.slice 24000 _ 9 _ rfl sty23 (xs := [.tmp 23]) rfl rfl (.cons (.d _) .nil) rfl rfl (by decide)) ?_))))
   refine Ch.step (v := (.row 25000)) rfl (.append 25000 _ _ _ 9 rfl sty23 (by decide) (.rowK rfl) (.inr ⟨_, rfl, rfl⟩) (.row rfl rfl) rfl (by first | omega | (simp only [List.length_append, List.length_map, List.length_cons, List.length_nil]; omega) | (simp; omega) | (simp; done))) rfl rfl ?_
   refine Ch.s (.row 25000) pa (Ch.nil (T_region hc (Ch.s (.d (.int .i64 (((k : Nat) : Int) + 1))) (.pure (.int _ _ _ _ _ rfl rfl rfl intV_addA)) (Ch.s (.d (.int .i64 (((k : Nat) : Int) + 1))) pm (Ch.nil ?_)))))
   exact nx (k + 1) (by omega) (Wk.ren [(5, 25000)] rfl rfl rfl rfl (ai rfl (ai rfl (ai rfl (ai rfl (ai (vI (by first | rfl | omega | (simp; done) | (simp; omega))) trivial))))) (ai (oR (by first | rfl | (exact push rfl (by rw [← wordOf_one (c := u) (by simp_all)]; exact selTo_yes (by simp_all [isLit]))) | (exact push rfl (by rw [← wordOf_zero (c := u) (by simp_all)]; exact selTo_yes (by simp_all [isLit]))) | (exact congrArg (List.map _) (selTo_no (by simp_all [isLit]))))) trivial))
  ·
   replace h2 := of_decide_eq_false h2
   refine T_seq (T_region hc (Ch.s (.d (.bool (decide (((u.getD k 0) : UInt8) = 48)))) (.pure (.int _ _ _ _ _ rfl rfl rfl (u8_eql ((u.getD k 0) : UInt8) 48 rfl rfl))) (Ch.s (.d (.bool (decide (((u.getD k 0) : UInt8) = 48)))) pa (Ch.nil ?_))))
   refine T_cond (b := (decide (((u.getD k 0) : UInt8) = 48))) rfl (fun h3 => ?_) (fun h3 => ?_)
   ·
    replace h3 := of_decide_eq_true h3
    refine T_region hc (Ch.s (.row 5) pm (Ch.s (.ptr 7000 0) (.pure (.fldPtr _ _ _ rfl fld154_0 rfl)) (Ch.s (.d (.str ((sg.getD k default).name))) (.pure (.loadPtr1 _ _ rfl ag9 rfl rfl rfl)) (Ch.s (.d (.str (((sg.getD k default).name) ++ [39]))) (.pure (.str _ _ _ _ _ rfl rfl rfl (strV_add (by first | omega | (simp only [List.length_map, List.length_append, List.length_take, List.length_drop, List.length_cons, List.length_nil]; omega) | (simp; omega) | (simp; done))))) (Ch.s (.row 32000) (.slice 32000 _ 9 _ rfl sty23 (xs := [.tmp 31]) rfl rfl (.cons (.d _) .nil) rfl rfl (by decide)) ?_)))))
    refine Ch.step (v := (.row 33000)) rfl (.append 33000 _ _ _ 9 rfl sty23 (by decide) (.rowK rfl) (.inr ⟨_, rfl, rfl⟩) (.row rfl rfl) rfl (by first | omega | (simp only [List.length_append, List.length_map, List.length_cons, List.length_nil]; omega) | (simp; omega) | (simp; done))) rfl rfl ?_
    refine Ch.s (.row 33000) pa (Ch.nil (T_region hc (Ch.s (.d (.int .i64 (((k : Nat) : Int) + 1))) (.pure (.int _ _ _ _ _ rfl rfl rfl intV_addA)) (Ch.s (.d (.int .i64 (((k : Nat) : Int) + 1))) pm (Ch.nil ?_)))))
    exact nx (k + 1) (by omega) (Wk.ren [(5, 33000)] rfl rfl rfl rfl (ai rfl (ai rfl (ai rfl (ai rfl (ai (vI (by first | rfl | omega | (simp; done) | (simp; omega))) trivial))))) (ai (oR (by first | rfl | (exact push rfl (by rw [← wordOf_one (c := u) (by simp_all)]; exact selTo_yes (by simp_all [isLit]))) | (exact push rfl (by rw [← wordOf_zero (c := u) (by simp_all)]; exact selTo_yes (by simp_all [isLit]))) | (exact congrArg (List.map _) (selTo_no (by simp_all [isLit]))))) trivial))
   ·
    replace h3 := of_decide_eq_false h3
    refine T_skip (T_region hc (Ch.s (.d (.int .i64 (((k : Nat) : Int) + 1))) (.pure (.int _ _ _ _ _ rfl rfl rfl intV_addA)) (Ch.s (.d (.int .i64 (((k : Nat) : Int) + 1))) pm (Ch.nil ?_))))
    exact nx (k + 1) (by omega) (Wk.of rfl rfl (ai rfl (ai rfl (ai rfl (ai rfl (ai (vI (by first | rfl | omega | (simp; done) | (simp; omega))) trivial))))) (ai (oR (by first | rfl | (exact push rfl (by rw [← wordOf_one (c := u) (by simp_all)]; exact selTo_yes (by simp_all [isLit]))) | (exact push rfl (by rw [← wordOf_zero (c := u) (by simp_all)]; exact selTo_yes (by simp_all [isLit]))) | (exact congrArg (List.map _) (selTo_no (by simp_all [isLit]))))) trivial))
 ·
  replace h1 := of_decide_eq_false h1
  try have hnk := hs.2 _ (getD_mem (l := sg) (j := k) (d := default) (by omega))
  try have hck := hu.2 k (by omega)
  try have hkk : k = sg.length := by omega
  try unfold prodTo at hpl
  refine T_exit (T_seq (T_seq (T_region hc (Ch.s (.row 5) pm (Ch.s (.d (.int .i64 (((wordsTo sg u k).length : Nat) : Int))) (.pure (.len _ _ 9 rfl Tryz.underlying23 (.row rfl) (by simp))) (Ch.s (.d (.bool (decide ((((wordsTo sg u k).length : Nat) : Int) = 0)))) (.pure (.int _ _ _ _ _ rfl rfl rfl rfl)) (Ch.nil ?_)))))))
  refine T_cond (b := (decide ((((wordsTo sg u k).length : Nat) : Int) = 0))) rfl (fun h4 => ?_) (fun h4 => ?_)
  ·
   replace h4 := of_decide_eq_true h4
   refine T_seq (T_region hc (Ch.s (.d (.str [49])) pa (Ch.nil (T_ret ?_))))
   exact endR [(.d (.str [49]))] [] [] (.cons (.tmp 4 rfl) .nil) (.cons (.any _) (.cons (.any _) .nil)) (Exp.of (congrArg D.str (by first | (rw [prodT, ← hkk, if_pos (hpn.2 (List.eq_nil_of_length_eq_zero (by omega)))]; done) | (rw [prodT, ← hkk, if_neg (fun e => by have := hpn.1 e; simp_all)]; rfl))) (.d _)) rfl rfl
  ·
   replace h4 := of_decide_eq_false h4
   refine T_skip (T_seq (T_region hc (Ch.s (.row 5) pm (Ch.s (.d (.str (Lib.join (wordsTo sg u k) ([32])))) (.call 39000 181 _ _ _ en181 rfl (.inl rfl) (.cons (.lend (.row rfl (frozs_map (fun _ => rfl) _))) (.cons (.d _) .nil)) rfl rfl (sp_Join (wordsTo sg u k) ([32]) (by first | omega | assumption | (exact hx _ (getD_mem (by omega))) | (exact hx _ (by assumption)) | (exact Nat.le_trans (hx _ (by assumption)) (by omega)) | (simp only [List.length_append, List.length_take, List.length_drop, List.length_cons, List.length_nil]; omega) | (simp_all; done)) (by first | omega | assumption | (exact hx _ (getD_mem (by omega))) | (exact hx _ (by assumption)) | (exact Nat.le_trans (hx _ (by assumption)) (by omega)) | (simp only [List.length_append, List.length_take, List.length_drop, List.length_cons, List.length_nil]; omega) | (simp_all; done))) (.skip _ _ (.skip _ _ .nil)) rfl) (Ch.s (.d (.str (Lib.join (wordsTo sg u k) ([32])))) pa (Ch.nil (T_ret ?_)))))))
   exact endR [(.d (.str (Lib.join (wordsTo sg u k) ([32]))))] [] [] (.cons (.tmp 4 rfl) .nil) (.cons (.any _) (.cons (.any _) .nil)) (Exp.of (congrArg D.str (by first | (rw [prodT, ← hkk, if_pos (hpn.2 (List.eq_nil_of_length_eq_zero (by omega)))]; done) | (rw [prodT, ← hkk, if_neg (fun e => by have := hpn.1 e; simp_all)]; rfl))) (.d _)) rfl rfl

end Go.AM
