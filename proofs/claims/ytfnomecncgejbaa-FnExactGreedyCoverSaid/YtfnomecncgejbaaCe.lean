/-
  Contracts: LiteralCount.
-/
import Derived.Test.YtfnomecncgejbaaCd
namespace Go.AM
open Go.Proofs
set_option linter.unusedVariables false
set_option linter.unusedSimpArgs false



def isLit (u : List UInt8) (j : Nat) : Bool := u.getD j 0 != 45
def litOf (u : List UInt8) : Nat := cntB u.length (isLit u)
def litTo (xs : List (List UInt8)) (k : Nat) : Nat := sumN k fun j => litOf (xs.getD j default)
def lits (xs : List (List UInt8)) : Nat := litTo xs xs.length
theorem litOf_le (u : List UInt8) : litOf u ≤ u.length := cntB_le _ _
theorem litTo_le (xs : List (List UInt8)) : ∀ k, k ≤ xs.length → litTo xs k ≤ sumTo xs k
  | 0, _ => by simp [litTo]
  | k + 1, h => by
    have h1 := litTo_le xs k (by omega)
    have h2 := litOf_le (xs.getD k default)
    rw [sumTo_succ (by omega)]
    unfold litTo at h1 ⊢
    rw [sumN_succ]; omega
theorem litTo_succ (xs : List (List UInt8)) (k : Nat) : litTo xs (k + 1) = litTo xs k + litOf (xs.getD k default) := sumN_succ _ _
def lcB (xs : List (List UInt8)) : Bool := allOf xs (okCube ((xs.getD 0 default).length : Int)) && decide ((xs.length : Int) ≤ 60)
def lcN (xs : List (List UInt8)) : Int := if lcB xs then (lits xs : Int) else 0
theorem lcB_nil {xs : List (List UInt8)} (h : (xs.length : Int) = 0) : lcB xs = true ∧ lcN xs = 0 := by
  have e : xs = [] := List.eq_nil_of_length_eq_zero (by omega)
  subst e; exact ⟨rfl, rfl⟩
theorem lcB_good {xs : List (List UInt8)} (h : ¬ (xs.length : Int) = 0) : goodB ((xs.getD 0 default).length : Int) xs = lcB xs := by
  unfold goodB lcB
  cases ha : allOf xs (okCube ((xs.getD 0 default).length : Int)) with
  | false => rfl
  | true =>
    have h0 := allB_true.1 ha 0 (by omega)
    have hw : withinB ((xs.getD 0 default).length : Int) 1 8 = true := by
      unfold okCube cubeB at h0
      simp only [Bool.and_eq_true] at h0
      exact h0.1.2
    rw [hw]; rfl

theorem sp_spec_l14Literals (xs : List (List UInt8)) (hb : bulkS xs ≤ 1048576) : Sp Try.prog 105 [(.slice false 1 (xs.map D.str))] [.any] (.int .i64 ((lits xs : Nat) : Int)) := by
  refine Sp_intro (lend := true) Try.func105 rfl rfl rfl (fun _ => rfl) (fun c hc hX => ?_)
  have hb2 : (xs.map List.length).sum ≤ 1048576 := by (unfold bulkS at hb; omega)
  have hb3 := bulk_len hb
  refine T_seq ?_
  refine T_region hc ?_
  refine Ch.step (v := (.d (.int .i64 0))) rfl (.pure (.assign _ rfl rfl)) rfl rfl ?_
  refine Ch.nil ?_
  refine T_seq ?_
  refine T_region hc ?_
  refine Ch.step (v := (.d (.int .i64 0))) rfl (.pure (.assign _ rfl rfl)) rfl rfl ?_
  refine Ch.nil ?_
  refine T_seq ?_
  refine T_seq ?_
  refine T_region hc ?_
  refine Ch.step (v := (.d (.slice false 1 (xs.map D.str)))) rfl (.pure (.move _ rfl rfl)) rfl rfl ?_
  refine Ch.step (v := (.d (.int .i64 ((xs.length : Nat) : Int)))) rfl (.pure (.len _ _ 9 rfl Try.underlying22 (.sh _ _) (by simp))) rfl rfl ?_
  refine Ch.step (v := (.d (.int .i64 0))) rfl (.pure (.move _ rfl rfl)) rfl rfl ?_
  refine Ch.nil ?_
  refine T_block ?_
  refine T_loop (ι := Nat) (fun k => { n := 27, sl := [(3, (.d (.int .i64 ((litTo xs k : Nat) : Int)))), (7, (.d (.slice false 1 (xs.map D.str)))), (8, (.d (.int .i64 ((xs.length : Nat) : Int)))), (9, (.d (.int .i64 ((k : Nat) : Int))))], hp := [], pin := [] }) (fun k => k ≤ xs.length) (fun k => xs.length - k) ⟨0, (by omega), (Wk.of rfl rfl (And.intro (vI (by first | rfl | (rw [litTo_succ, litOf, show (xs.getD k default).length = m by omega]; done))) (And.intro rfl (And.intro rfl (And.intro (vI (by first | rfl | omega | (simp; done) | (simp; omega))) trivial)))) trivial)⟩ (fun k hp0 => ?_)
  have hs1 := sumTo_le xs k; have hs2 := litTo_le xs k hp0
  refine T_seq ?_
  refine T_region hc ?_
  refine Ch.step (v := (.d (.bool (decide (((k : Nat) : Int) < ((xs.length : Nat) : Int)))))) rfl (.pure (.int _ _ _ _ _ rfl rfl rfl rfl)) rfl rfl ?_
  refine Ch.nil ?_
  refine T_seq ?_
  refine T_cond (b := (decide (((k : Nat) : Int) < ((xs.length : Nat) : Int)))) rfl (fun h1 => ?_) (fun h1 => ?_)
  · replace h1 := of_decide_eq_true h1
    refine T_skip ?_
    refine T_seq ?_
    refine T_block ?_
    refine T_seq ?_
    refine T_region hc ?_
    refine Ch.step (v := (.d (.ref (.str (xs.getD k default))))) rfl (.pure (.idx _ _ _ 9 (k) rfl Try.underlying22 sz9 rfl rfl rfl (get_map _ (by first | omega | (simp only [List.length_map, List.length_append, List.length_take, List.length_drop, List.length_cons, List.length_nil]; omega) | (simp; omega) | (simp; done))))) rfl rfl ?_
    refine Ch.step (v := (.d (.str (xs.getD k default)))) rfl (.pure (.loadRef1 _ _ rfl ag9 rfl rfl)) rfl rfl ?_
    refine Ch.step (v := (.d (.str (xs.getD k default)))) rfl (.pure (.assign _ rfl rfl)) rfl rfl ?_
    refine Ch.nil ?_
    refine T_seq ?_
    refine T_region hc ?_
    refine Ch.step (v := (.d (.int .i64 0))) rfl (.pure (.assign _ rfl rfl)) rfl rfl ?_
    refine Ch.nil ?_
    refine T_block ?_
    refine T_loop (ι := Nat) (fun m => { n := 27, sl := [(3, (.d (.int .i64 ((litTo xs k + cntB m (isLit (xs.getD k default)) : Nat) : Int)))), (5, (.d (.str (xs.getD k default)))), (6, (.d (.int .i64 ((m : Nat) : Int)))), (7, (.d (.slice false 1 (xs.map D.str)))), (8, (.d (.int .i64 ((xs.length : Nat) : Int)))), (9, (.d (.int .i64 ((k : Nat) : Int))))], hp := [], pin := [] }) (fun m => m ≤ (xs.getD k default).length) (fun m => (xs.getD k default).length - m) ⟨0, (by omega), (Wk.of rfl rfl (And.intro (vI (by first | rfl | omega | (rw [cntB_yes (by simp_all [isLit])]; omega) | (rw [cntB_no (by simp_all [isLit])]; done))) (And.intro rfl (And.intro (vI (by first | rfl | omega | (simp; done) | (simp; omega))) (And.intro rfl (And.intro rfl (And.intro rfl trivial)))))) trivial)⟩ (fun m hp1 => ?_)
    have hs3 := cntB_le m (isLit (xs.getD k default)); have hs4 := bulk_mem hb _ (getD_mem (l := xs) (j := k) (d := default) (by omega))
    refine T_seq ?_
    refine T_seq ?_
    refine T_region hc ?_
    refine Ch.step (v := (.d (.int .i64 ((m : Nat) : Int)))) rfl (.pure (.move _ rfl rfl)) rfl rfl ?_
    refine Ch.step (v := (.d (.str (xs.getD k default)))) rfl (.pure (.move _ rfl rfl)) rfl rfl ?_
    refine Ch.step (v := (.d (.int .i64 (((xs.getD k default).length : Nat) : Int)))) rfl (.pure (.lenStr _ _ rfl Try.underlying9 rfl)) rfl rfl ?_
    refine Ch.step (v := (.d (.bool (decide (((m : Nat) : Int) < (((xs.getD k default).length : Nat) : Int)))))) rfl (.pure (.int _ _ _ _ _ rfl rfl rfl rfl)) rfl rfl ?_
    refine Ch.nil ?_
    refine T_cond (b := (decide (((m : Nat) : Int) < (((xs.getD k default).length : Nat) : Int)))) rfl (fun h2 => ?_) (fun h2 => ?_)
    · replace h2 := of_decide_eq_true h2
      refine T_skip ?_
      refine T_seq ?_
      refine T_block ?_
      refine T_seq ?_
      refine T_region hc ?_
      refine Ch.step (v := (.d (.str (xs.getD k default)))) rfl (.pure (.move _ rfl rfl)) rfl rfl ?_
      refine Ch.step (v := (.d (.int .i64 ((m : Nat) : Int)))) rfl (.pure (.move _ rfl rfl)) rfl rfl ?_
      refine Ch.step (v := (.d (.int .u8 (((xs.getD k default).getD m 0).toNat : Int)))) rfl (.pure (.idxStr _ _ _ (m) rfl Try.underlying9 rfl rfl rfl (get_str (by first | omega | (simp only [List.length_map, List.length_append, List.length_take, List.length_drop, List.length_cons, List.length_nil]; omega) | (simp; omega) | (simp; done))))) rfl rfl ?_
      refine Ch.step (v := (.d (.bool (!(decide ((((xs.getD k default).getD m 0) : UInt8) = 45)))))) rfl (.pure (.int _ _ _ _ _ rfl rfl rfl (u8_neq (((xs.getD k default).getD m 0) : UInt8) 45 rfl rfl))) rfl rfl ?_
      refine Ch.nil ?_
      refine T_cond (b := (!(decide ((((xs.getD k default).getD m 0) : UInt8) = 45)))) rfl (fun h3 => ?_) (fun h3 => ?_)
      · replace h3 := nott h3
        replace h3 := of_decide_eq_false h3
        refine T_region hc ?_
        refine Ch.step (v := (.d (.int .i64 ((litTo xs k + cntB m (isLit (xs.getD k default)) : Nat) : Int)))) rfl (.pure (.move _ rfl rfl)) rfl rfl ?_
        refine Ch.step (v := (.d (.int .i64 (((litTo xs k + cntB m (isLit (xs.getD k default)) : Nat) : Int) + 1)))) rfl (.pure (.int _ _ _ _ _ rfl rfl rfl (intV_add (by first | omega | (simp only [List.length_map, List.length_append, List.length_take, List.length_drop, List.length_cons, List.length_nil]; omega) | (simp; omega) | (simp; done)) (by first | omega | (simp only [List.length_map, List.length_append, List.length_take, List.length_drop, List.length_cons, List.length_nil]; omega) | (simp; omega) | (simp; done))))) rfl rfl ?_
        refine Ch.step (v := (.d (.int .i64 (((litTo xs k + cntB m (isLit (xs.getD k default)) : Nat) : Int) + 1)))) rfl (.pure (.assign _ rfl rfl)) rfl rfl ?_
        refine Ch.nil ?_
        refine T_region hc ?_
        refine Ch.step (v := (.d (.int .i64 ((m : Nat) : Int)))) rfl (.pure (.move _ rfl rfl)) rfl rfl ?_
        refine Ch.step (v := (.d (.int .i64 (((m : Nat) : Int) + 1)))) rfl (.pure (.int _ _ _ _ _ rfl rfl rfl (intV_add (by first | omega | (simp only [List.length_map, List.length_append, List.length_take, List.length_drop, List.length_cons, List.length_nil]; omega) | (simp; omega) | (simp; done)) (by first | omega | (simp only [List.length_map, List.length_append, List.length_take, List.length_drop, List.length_cons, List.length_nil]; omega) | (simp; omega) | (simp; done))))) rfl rfl ?_
        refine Ch.step (v := (.d (.int .i64 (((m : Nat) : Int) + 1)))) rfl (.pure (.assign _ rfl rfl)) rfl rfl ?_
        refine Ch.nil ?_
        refine Exists.intro (m + 1) (And.intro (by omega) (And.intro (by first | omega | (dsimp only; omega)) (Wk.of rfl rfl (And.intro (vI (by first | rfl | omega | (rw [cntB_yes (by simp_all [isLit])]; omega) | (rw [cntB_no (by simp_all [isLit])]; done))) (And.intro rfl (And.intro (vI (by first | rfl | omega | (simp; done) | (simp; omega))) (And.intro rfl (And.intro rfl (And.intro rfl trivial)))))) trivial)))
      · replace h3 := notf h3
        replace h3 := of_decide_eq_true h3
        refine T_skip ?_
        refine T_region hc ?_
        refine Ch.step (v := (.d (.int .i64 ((m : Nat) : Int)))) rfl (.pure (.move _ rfl rfl)) rfl rfl ?_
        refine Ch.step (v := (.d (.int .i64 (((m : Nat) : Int) + 1)))) rfl (.pure (.int _ _ _ _ _ rfl rfl rfl (intV_add (by first | omega | (simp only [List.length_map, List.length_append, List.length_take, List.length_drop, List.length_cons, List.length_nil]; omega) | (simp; omega) | (simp; done)) (by first | omega | (simp only [List.length_map, List.length_append, List.length_take, List.length_drop, List.length_cons, List.length_nil]; omega) | (simp; omega) | (simp; done))))) rfl rfl ?_
        refine Ch.step (v := (.d (.int .i64 (((m : Nat) : Int) + 1)))) rfl (.pure (.assign _ rfl rfl)) rfl rfl ?_
        refine Ch.nil ?_
        refine Exists.intro (m + 1) (And.intro (by omega) (And.intro (by first | omega | (dsimp only; omega)) (Wk.of rfl rfl (And.intro (vI (by first | rfl | omega | (rw [cntB_yes (by simp_all [isLit])]; omega) | (rw [cntB_no (by simp_all [isLit])]; done))) (And.intro rfl (And.intro (vI (by first | rfl | omega | (simp; done) | (simp; omega))) (And.intro rfl (And.intro rfl (And.intro rfl trivial)))))) trivial)))
    · replace h2 := of_decide_eq_false h2
      refine T_exit ?_
      refine T_region hc ?_
      refine Ch.step (v := (.d (.int .i64 (((k : Nat) : Int) + 1)))) rfl (.pure (.int _ _ _ _ _ rfl rfl rfl (intV_add (by first | omega | (simp only [List.length_map, List.length_append, List.length_take, List.length_drop, List.length_cons, List.length_nil]; omega) | (simp; omega) | (simp; done)) (by first | omega | (simp only [List.length_map, List.length_append, List.length_take, List.length_drop, List.length_cons, List.length_nil]; omega) | (simp; omega) | (simp; done))))) rfl rfl ?_
      refine Ch.step (v := (.d (.int .i64 (((k : Nat) : Int) + 1)))) rfl (.pure (.move _ rfl rfl)) rfl rfl ?_
      refine Ch.nil ?_
      refine Exists.intro (k + 1) (And.intro (by omega) (And.intro (by first | omega | (dsimp only; omega)) (Wk.of rfl rfl (And.intro (vI (by first | rfl | (rw [litTo_succ, litOf, show (xs.getD k default).length = m by omega]; done))) (And.intro rfl (And.intro rfl (And.intro (vI (by first | rfl | omega | (simp; done) | (simp; omega))) trivial)))) trivial)))
  · replace h1 := of_decide_eq_false h1
    refine T_exit ?_
    refine T_seq ?_
    refine T_region hc ?_
    refine Ch.step (v := (.d (.int .i64 ((litTo xs k : Nat) : Int)))) rfl (.pure (.move _ rfl rfl)) rfl rfl ?_
    refine Ch.step (v := (.d (.int .i64 ((litTo xs k : Nat) : Int)))) rfl (.pure (.assign _ rfl rfl)) rfl rfl ?_
    refine Ch.nil ?_
    refine T_ret ?_
    refine And.intro (.inr rfl) ?_
    exact Exists.intro [(.d (.int .i64 ((litTo xs k : Nat) : Int)))] (Exists.intro [] (Exists.intro [] (And.intro (.cons (.tmp 2 rfl) .nil) (And.intro (.cons (.any _) .nil) (And.intro (Exp.of (congrArg (D.int .i64) (by rw [lits, show xs.length = k by omega])) (.d _)) (And.intro rfl rfl))))))

theorem sp_impl_literals (xs : List (List UInt8)) (hb : bulkS xs ≤ 1048576) : Sp Try.prog 106 [(.slice false 1 (xs.map D.str))] [.any] (.int .i64 ((lits xs : Nat) : Int)) := by
  refine Sp_intro (lend := true) Try.func106 rfl rfl rfl (fun _ => rfl) (fun c hc hX => ?_)
  have hb2 : (xs.map List.length).sum ≤ 1048576 := by (unfold bulkS at hb; omega)
  have hb3 := bulk_len hb
  refine T_seq ?_
  refine T_region hc ?_
  refine Ch.step (v := (.d (.int .i64 0))) rfl (.pure (.assign _ rfl rfl)) rfl rfl ?_
  refine Ch.nil ?_
  refine T_seq ?_
  refine T_region hc ?_
  refine Ch.step (v := (.d (.int .i64 0))) rfl (.pure (.assign _ rfl rfl)) rfl rfl ?_
  refine Ch.nil ?_
  refine T_seq ?_
  refine T_seq ?_
  refine T_region hc ?_
  refine Ch.step (v := (.d (.slice false 1 (xs.map D.str)))) rfl (.pure (.move _ rfl rfl)) rfl rfl ?_
  refine Ch.step (v := (.d (.int .i64 ((xs.length : Nat) : Int)))) rfl (.pure (.len _ _ 9 rfl Try.underlying22 (.sh _ _) (by simp))) rfl rfl ?_
  refine Ch.step (v := (.d (.int .i64 0))) rfl (.pure (.move _ rfl rfl)) rfl rfl ?_
  refine Ch.nil ?_
  refine T_block ?_
  refine T_loop (ι := Nat) (fun k => { n := 27, sl := [(3, (.d (.int .i64 ((litTo xs k : Nat) : Int)))), (7, (.d (.slice false 1 (xs.map D.str)))), (8, (.d (.int .i64 ((xs.length : Nat) : Int)))), (9, (.d (.int .i64 ((k : Nat) : Int))))], hp := [], pin := [] }) (fun k => k ≤ xs.length) (fun k => xs.length - k) ⟨0, (by omega), (Wk.of rfl rfl (And.intro (vI (by first | rfl | (rw [litTo_succ, litOf, show (xs.getD k default).length = m by omega]; done))) (And.intro rfl (And.intro rfl (And.intro (vI (by first | rfl | omega | (simp; done) | (simp; omega))) trivial)))) trivial)⟩ (fun k hp0 => ?_)
  have hs1 := sumTo_le xs k; have hs2 := litTo_le xs k hp0
  refine T_seq ?_
  refine T_region hc ?_
  refine Ch.step (v := (.d (.bool (decide (((k : Nat) : Int) < ((xs.length : Nat) : Int)))))) rfl (.pure (.int _ _ _ _ _ rfl rfl rfl rfl)) rfl rfl ?_
  refine Ch.nil ?_
  refine T_seq ?_
  refine T_cond (b := (decide (((k : Nat) : Int) < ((xs.length : Nat) : Int)))) rfl (fun h1 => ?_) (fun h1 => ?_)
  · replace h1 := of_decide_eq_true h1
    refine T_skip ?_
    refine T_seq ?_
    refine T_block ?_
    refine T_seq ?_
    refine T_region hc ?_
    refine Ch.step (v := (.d (.ref (.str (xs.getD k default))))) rfl (.pure (.idx _ _ _ 9 (k) rfl Try.underlying22 sz9 rfl rfl rfl (get_map _ (by first | omega | (simp only [List.length_map, List.length_append, List.length_take, List.length_drop, List.length_cons, List.length_nil]; omega) | (simp; omega) | (simp; done))))) rfl rfl ?_
    refine Ch.step (v := (.d (.str (xs.getD k default)))) rfl (.pure (.loadRef1 _ _ rfl ag9 rfl rfl)) rfl rfl ?_
    refine Ch.step (v := (.d (.str (xs.getD k default)))) rfl (.pure (.assign _ rfl rfl)) rfl rfl ?_
    refine Ch.nil ?_
    refine T_seq ?_
    refine T_region hc ?_
    refine Ch.step (v := (.d (.str (xs.getD k default)))) rfl (.pure (.move _ rfl rfl)) rfl rfl ?_
    refine Ch.step (v := (.d (.int .i64 (((xs.getD k default).length : Nat) : Int)))) rfl (.pure (.lenStr _ _ rfl Try.underlying9 rfl)) rfl rfl ?_
    refine Ch.step (v := (.d (.int .i64 0))) rfl (.pure (.move _ rfl rfl)) rfl rfl ?_
    refine Ch.nil ?_
    refine T_block ?_
    refine T_loop (ι := Nat) (fun m => { n := 27, sl := [(3, (.d (.int .i64 ((litTo xs k + cntB m (isLit (xs.getD k default)) : Nat) : Int)))), (5, (.d (.str (xs.getD k default)))), (7, (.d (.slice false 1 (xs.map D.str)))), (8, (.d (.int .i64 ((xs.length : Nat) : Int)))), (9, (.d (.int .i64 ((k : Nat) : Int)))), (14, (.d (.int .i64 (((xs.getD k default).length : Nat) : Int)))), (15, (.d (.int .i64 ((m : Nat) : Int))))], hp := [], pin := [] }) (fun m => m ≤ (xs.getD k default).length) (fun m => (xs.getD k default).length - m) ⟨0, (by omega), (Wk.of rfl rfl (And.intro (vI (by first | rfl | omega | (rw [cntB_yes (by simp_all [isLit])]; omega) | (rw [cntB_no (by simp_all [isLit])]; done))) (And.intro rfl (And.intro rfl (And.intro rfl (And.intro rfl (And.intro rfl (And.intro (vI (by first | rfl | omega | (simp; done) | (simp; omega))) trivial))))))) trivial)⟩ (fun m hp1 => ?_)
    have hs3 := cntB_le m (isLit (xs.getD k default)); have hs4 := bulk_mem hb _ (getD_mem (l := xs) (j := k) (d := default) (by omega))
    refine T_seq ?_
    refine T_region hc ?_
    refine Ch.step (v := (.d (.bool (decide (((m : Nat) : Int) < (((xs.getD k default).length : Nat) : Int)))))) rfl (.pure (.int _ _ _ _ _ rfl rfl rfl rfl)) rfl rfl ?_
    refine Ch.nil ?_
    refine T_seq ?_
    refine T_cond (b := (decide (((m : Nat) : Int) < (((xs.getD k default).length : Nat) : Int)))) rfl (fun h2 => ?_) (fun h2 => ?_)
    · replace h2 := of_decide_eq_true h2
      refine T_skip ?_
      refine T_seq ?_
      refine T_block ?_
      refine T_seq ?_
      refine T_region hc ?_
      refine Ch.step (v := (.d (.int .i64 ((m : Nat) : Int)))) rfl (.pure (.move _ rfl rfl)) rfl rfl ?_
      refine Ch.step (v := (.d (.int .i64 ((m : Nat) : Int)))) rfl (.pure (.assign _ rfl rfl)) rfl rfl ?_
      refine Ch.nil ?_
      refine T_seq ?_
      refine T_region hc ?_
      refine Ch.step (v := (.d (.str (xs.getD k default)))) rfl (.pure (.move _ rfl rfl)) rfl rfl ?_
      refine Ch.step (v := (.d (.int .i64 ((m : Nat) : Int)))) rfl (.pure (.move _ rfl rfl)) rfl rfl ?_
      refine Ch.step (v := (.d (.int .u8 (((xs.getD k default).getD m 0).toNat : Int)))) rfl (.pure (.idxStr _ _ _ (m) rfl Try.underlying9 rfl rfl rfl (get_str (by first | omega | (simp only [List.length_map, List.length_append, List.length_take, List.length_drop, List.length_cons, List.length_nil]; omega) | (simp; omega) | (simp; done))))) rfl rfl ?_
      refine Ch.step (v := (.d (.bool (!(decide ((((xs.getD k default).getD m 0) : UInt8) = 45)))))) rfl (.pure (.int _ _ _ _ _ rfl rfl rfl (u8_neq (((xs.getD k default).getD m 0) : UInt8) 45 rfl rfl))) rfl rfl ?_
      refine Ch.nil ?_
      refine T_cond (b := (!(decide ((((xs.getD k default).getD m 0) : UInt8) = 45)))) rfl (fun h3 => ?_) (fun h3 => ?_)
      · replace h3 := nott h3
        replace h3 := of_decide_eq_false h3
        refine T_region hc ?_
        refine Ch.step (v := (.d (.int .i64 ((litTo xs k + cntB m (isLit (xs.getD k default)) : Nat) : Int)))) rfl (.pure (.move _ rfl rfl)) rfl rfl ?_
        refine Ch.step (v := (.d (.int .i64 (((litTo xs k + cntB m (isLit (xs.getD k default)) : Nat) : Int) + 1)))) rfl (.pure (.int _ _ _ _ _ rfl rfl rfl (intV_add (by first | omega | (simp only [List.length_map, List.length_append, List.length_take, List.length_drop, List.length_cons, List.length_nil]; omega) | (simp; omega) | (simp; done)) (by first | omega | (simp only [List.length_map, List.length_append, List.length_take, List.length_drop, List.length_cons, List.length_nil]; omega) | (simp; omega) | (simp; done))))) rfl rfl ?_
        refine Ch.step (v := (.d (.int .i64 (((litTo xs k + cntB m (isLit (xs.getD k default)) : Nat) : Int) + 1)))) rfl (.pure (.assign _ rfl rfl)) rfl rfl ?_
        refine Ch.nil ?_
        refine T_region hc ?_
        refine Ch.step (v := (.d (.int .i64 (((m : Nat) : Int) + 1)))) rfl (.pure (.int _ _ _ _ _ rfl rfl rfl (intV_add (by first | omega | (simp only [List.length_map, List.length_append, List.length_take, List.length_drop, List.length_cons, List.length_nil]; omega) | (simp; omega) | (simp; done)) (by first | omega | (simp only [List.length_map, List.length_append, List.length_take, List.length_drop, List.length_cons, List.length_nil]; omega) | (simp; omega) | (simp; done))))) rfl rfl ?_
        refine Ch.step (v := (.d (.int .i64 (((m : Nat) : Int) + 1)))) rfl (.pure (.move _ rfl rfl)) rfl rfl ?_
        refine Ch.nil ?_
        refine Exists.intro (m + 1) (And.intro (by omega) (And.intro (by first | omega | (dsimp only; omega)) (Wk.of rfl rfl (And.intro (vI (by first | rfl | omega | (rw [cntB_yes (by simp_all [isLit])]; omega) | (rw [cntB_no (by simp_all [isLit])]; done))) (And.intro rfl (And.intro rfl (And.intro rfl (And.intro rfl (And.intro rfl (And.intro (vI (by first | rfl | omega | (simp; done) | (simp; omega))) trivial))))))) trivial)))
      · replace h3 := notf h3
        replace h3 := of_decide_eq_true h3
        refine T_skip ?_
        refine T_region hc ?_
        refine Ch.step (v := (.d (.int .i64 (((m : Nat) : Int) + 1)))) rfl (.pure (.int _ _ _ _ _ rfl rfl rfl (intV_add (by first | omega | (simp only [List.length_map, List.length_append, List.length_take, List.length_drop, List.length_cons, List.length_nil]; omega) | (simp; omega) | (simp; done)) (by first | omega | (simp only [List.length_map, List.length_append, List.length_take, List.length_drop, List.length_cons, List.length_nil]; omega) | (simp; omega) | (simp; done))))) rfl rfl ?_
        refine Ch.step (v := (.d (.int .i64 (((m : Nat) : Int) + 1)))) rfl (.pure (.move _ rfl rfl)) rfl rfl ?_
        refine Ch.nil ?_
        refine Exists.intro (m + 1) (And.intro (by omega) (And.intro (by first | omega | (dsimp only; omega)) (Wk.of rfl rfl (And.intro (vI (by first | rfl | omega | (rw [cntB_yes (by simp_all [isLit])]; omega) | (rw [cntB_no (by simp_all [isLit])]; done))) (And.intro rfl (And.intro rfl (And.intro rfl (And.intro rfl (And.intro rfl (And.intro (vI (by first | rfl | omega | (simp; done) | (simp; omega))) trivial))))))) trivial)))
    · replace h2 := of_decide_eq_false h2
      refine T_exit ?_
      refine T_region hc ?_
      refine Ch.step (v := (.d (.int .i64 (((k : Nat) : Int) + 1)))) rfl (.pure (.int _ _ _ _ _ rfl rfl rfl (intV_add (by first | omega | (simp only [List.length_map, List.length_append, List.length_take, List.length_drop, List.length_cons, List.length_nil]; omega) | (simp; omega) | (simp; done)) (by first | omega | (simp only [List.length_map, List.length_append, List.length_take, List.length_drop, List.length_cons, List.length_nil]; omega) | (simp; omega) | (simp; done))))) rfl rfl ?_
      refine Ch.step (v := (.d (.int .i64 (((k : Nat) : Int) + 1)))) rfl (.pure (.move _ rfl rfl)) rfl rfl ?_
      refine Ch.nil ?_
      refine Exists.intro (k + 1) (And.intro (by omega) (And.intro (by first | omega | (dsimp only; omega)) (Wk.of rfl rfl (And.intro (vI (by first | rfl | (rw [litTo_succ, litOf, show (xs.getD k default).length = m by omega]; done))) (And.intro rfl (And.intro rfl (And.intro (vI (by first | rfl | omega | (simp; done) | (simp; omega))) trivial)))) trivial)))
  · replace h1 := of_decide_eq_false h1
    refine T_exit ?_
    refine T_seq ?_
    refine T_region hc ?_
    refine Ch.step (v := (.d (.int .i64 ((litTo xs k : Nat) : Int)))) rfl (.pure (.move _ rfl rfl)) rfl rfl ?_
    refine Ch.step (v := (.d (.int .i64 ((litTo xs k : Nat) : Int)))) rfl (.pure (.assign _ rfl rfl)) rfl rfl ?_
    refine Ch.nil ?_
    refine T_ret ?_
    refine And.intro (.inr rfl) ?_
    exact Exists.intro [(.d (.int .i64 ((litTo xs k : Nat) : Int)))] (Exists.intro [] (Exists.intro [] (And.intro (.cons (.tmp 2 rfl) .nil) (And.intro (.cons (.any _) .nil) (And.intro (Exp.of (congrArg (D.int .i64) (by rw [lits, show xs.length = k by omega])) (.d _)) (And.intro rfl rfl))))))







end Go.AM
