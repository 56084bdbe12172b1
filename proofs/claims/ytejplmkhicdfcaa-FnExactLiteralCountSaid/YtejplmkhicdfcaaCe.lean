/-
  Contracts: LiteralCount.
-/
import Derived.Test.YtejplmkhicdfcaaCd
namespace Go.AM
open Go.Proofs
set_option linter.unusedVariables false
set_option linter.unusedSimpArgs false

theorem en68 : Enters Try.prog 68 := ⟨_, Try.func68, by kernel_rfl, rfl⟩
theorem en69 : Enters Try.prog 69 := ⟨_, Try.func69, by kernel_rfl, rfl⟩
theorem en31 : Enters Try.prog 31 := ⟨_, Try.func31, by kernel_rfl, rfl⟩
theorem en32 : Enters Try.prog 32 := ⟨_, Try.func32, by kernel_rfl, rfl⟩

def isLit (u : List UInt8) (j : Nat) : Bool := u.getD j 0 != 45
def litOf (u : List UInt8) : Nat := cntB u.length (isLit u)
def litTo (xs : List (List UInt8)) (k : Nat) : Nat := sumN k fun j => litOf (xs.getD j default)
def lits (xs : List (List UInt8)) : Nat := litTo xs xs.length
theorem litOf_le (u : List UInt8) : litOf u ≤ u.length := cntB_le _ _
theorem litTo_le (xs : List (List UInt8)) : ∀ k, k ≤ xs.length → litTo xs k ≤ sumTo xs k
  | 0, _ => by simp [litTo]
  | k + 1, h => by
    have h1 := litTo_le xs k (by omega)
    have h2 := litOf_le (xs.getD k default)
    rw [sumTo_succ (by omega)]
    unfold litTo at h1 ⊢
    rw [sumN_succ]; omega
theorem litTo_succ (xs : List (List UInt8)) (k : Nat) : litTo xs (k + 1) = litTo xs k + litOf (xs.getD k default) := sumN_succ _ _
def lcB (xs : List (List UInt8)) : Bool := allOf xs (okCube ((xs.getD 0 default).length : Int)) && decide ((xs.length : Int) ≤ 60)
def lcN (xs : List (List UInt8)) : Int := if lcB xs then (lits xs : Int) else 0
theorem lcB_nil {xs : List (List UInt8)} (h : (xs.length : Int) = 0) : lcB xs = true ∧ lcN xs = 0 := by
  have e : xs = [] := List.eq_nil_of_length_eq_zero (by omega)
  subst e; exact ⟨rfl, rfl⟩
theorem lcB_good {xs : List (List UInt8)} (h : ¬ (xs.length : Int) = 0) : goodB ((xs.getD 0 default).length : Int) xs = lcB xs := by
  unfold goodB lcB
  cases ha : allOf xs (okCube ((xs.getD 0 default).length : Int)) with
  | false => rfl
  | true =>
    have h0 := allB_true.1 ha 0 (by omega)
    have hw : withinB ((xs.getD 0 default).length : Int) 1 8 = true := by
      unfold okCube cubeB at h0
      simp only [Bool.and_eq_true] at h0
      exact h0.1.2
    rw [hw]; rfl

theorem sp_spec_l14Literals (xs : List (List UInt8)) (hb : bulkS xs ≤ 1048576) : Sp Try.prog 68 [(.slice false 1 (xs.map D.str))] [.any] (.int .i64 ((lits xs : Nat) : Int)) := by
  refine Sp_intro (lend := true) Try.func68 rfl rfl rfl (fun _ => rfl) (fun c hc hX => ?_)
  have hb2 : (xs.map List.length).sum ≤ 1048576 := by (unfold bulkS at hb; omega)
  have hb3 := bulk_len hb
  refine T_seq ?_
  refine T_region hc ?_
  refine Ch.step (v := (.d (.int .i64 0))) rfl (.pure (.assign _ rfl rfl)) rfl rfl ?_
  refine Ch.nil ?_
  refine T_seq ?_
  refine T_region hc ?_
  refine Ch.step (v := (.d (.int .i64 0))) rfl (.pure (.assign _ rfl rfl)) rfl rfl ?_
  refine Ch.nil ?_
  refine T_seq ?_
  refine T_seq ?_
  refine T_region hc ?_
  refine Ch.step (v := (.d (.slice false 1 (xs.map D.str)))) rfl (.pure (.move _ rfl rfl)) rfl rfl ?_
  refine Ch.step (v := (.d (.int .i64 ((xs.length : Nat) : Int)))) rfl (.pure (.len _ _ 9 rfl Try.underlying27 (.sh _ _) (by simp))) rfl rfl ?_
  refine Ch.step (v := (.d (.int .i64 0))) rfl (.pure (.move _ rfl rfl)) rfl rfl ?_
  refine Ch.nil ?_
  refine T_block ?_
  refine T_loop (ι := Nat) (fun k => { n := 27, sl := [(3, (.d (.int .i64 ((litTo xs k : Nat) : Int)))), (7, (.d (.slice false 1 (xs.map D.str)))), (8, (.d (.int .i64 ((xs.length : Nat) : Int)))), (9, (.d (.int .i64 ((k : Nat) : Int))))], hp := [], pin := [] }) (fun k => k ≤ xs.length) (fun k => xs.length - k) ⟨0, (by omega), (Wk.of rfl rfl (And.intro (vI (by first | rfl | (rw [litTo_succ, litOf, show (xs.getD k default).length = m by omega]; done))) (And.intro rfl (And.intro rfl (And.intro (vI (by first | rfl | omega | (simp; done) | (simp; omega))) trivial)))) trivial)⟩ (fun k hp0 => ?_)
  have hs1 := sumTo_le xs k; have hs2 := litTo_le xs k hp0
  refine T_seq ?_
  refine T_region hc ?_
  refine Ch.step (v := (.d (.bool (decide (((k : Nat) : Int) < ((xs.length : Nat) : Int)))))) rfl (.pure (.int _ _ _ _ _ rfl rfl rfl rfl)) rfl rfl ?_
  refine Ch.nil ?_
  refine T_seq ?_
  refine T_cond (b := (decide (((k : Nat) : Int) < ((xs.length : Nat) : Int)))) rfl (fun h1 => ?_) (fun h1 => ?_)
  · replace h1 := of_decide_eq_true h1
    refine T_skip ?_
    refine T_seq ?_
    refine T_block ?_
    refine T_seq ?_
    refine T_region hc ?_
    refine Ch.step (v := (.d (.ref (.str (xs.getD k default))))) rfl (.pure (.idx _ _ _ 9 (k) rfl Try.underlying27 sz9 rfl rfl rfl (get_map _ (by first | omega | (simp; omega) | (simp; done))))) rfl rfl ?_
    refine Ch.step (v := (.d (.str (xs.getD k default)))) rfl (.pure (.loadRef1 _ _ rfl ag9 rfl rfl)) rfl rfl ?_
    refine Ch.step (v := (.d (.str (xs.getD k default)))) rfl (.pure (.assign _ rfl rfl)) rfl rfl ?_
    refine Ch.nil ?_
    refine T_seq ?_
    refine T_region hc ?_
    refine Ch.step (v := (.d (.int .i64 0))) rfl (.pure (.assign _ rfl rfl)) rfl rfl ?_
    refine Ch.nil ?_
    refine T_block ?_
    refine T_loop (ι := Nat) (fun m => { n := 27, sl := [(3, (.d (.int .i64 ((litTo xs k + cntB m (isLit (xs.getD k default)) : Nat) : Int)))), (5, (.d (.str (xs.getD k default)))), (6, (.d (.int .i64 ((m : Nat) : Int)))), (7, (.d (.slice false 1 (xs.map D.str)))), (8, (.d (.int .i64 ((xs.length : Nat) : Int)))), (9, (.d (.int .i64 ((k : Nat) : Int))))], hp := [], pin := [] }) (fun m => m ≤ (xs.getD k default).length) (fun m => (xs.getD k default).length - m) ⟨0, (by omega), (Wk.of rfl rfl (And.intro (vI (by first | rfl | omega | (rw [cntB_yes (by simp_all [isLit])]; omega) | (rw [cntB_no (by simp_all [isLit])]; done))) (And.intro rfl (And.intro (vI (by first | rfl | omega | (simp; done) | (simp; omega))) (And.intro rfl (And.intro rfl (And.intro rfl trivial)))))) trivial)⟩ (fun m hp1 => ?_)
    have hs3 := cntB_le m (isLit (xs.getD k default)); have hs4 := bulk_mem hb _ (getD_mem (l := xs) (j := k) (d := default) (by omega))
    refine T_seq ?_
    refine T_seq ?_
    refine T_region hc ?_
    refine Ch.step (v := (.d (.int .i64 ((m : Nat) : Int)))) rfl (.pure (.move _ rfl rfl)) rfl rfl ?_
    refine Ch.step (v := (.d (.str (xs.getD k default)))) rfl (.pure (.move _ rfl rfl)) rfl rfl ?_
    refine Ch.step (v := (.d (.int .i64 (((xs.getD k default).length : Nat) : Int)))) rfl (.pure (.lenStr _ _ rfl Try.underlying9 rfl)) rfl rfl ?_
    refine Ch.step (v := (.d (.bool (decide (((m : Nat) : Int) < (((xs.getD k default).length : Nat) : Int)))))) rfl (.pure (.int _ _ _ _ _ rfl rfl rfl rfl)) rfl rfl ?_
    refine Ch.nil ?_
    refine T_cond (b := (decide (((m : Nat) : Int) < (((xs.getD k default).length : Nat) : Int)))) rfl (fun h2 => ?_) (fun h2 => ?_)
    · replace h2 := of_decide_eq_true h2
      refine T_skip ?_
      refine T_seq ?_
      refine T_block ?_
      refine T_seq ?_
      refine T_region hc ?_
      refine Ch.step (v := (.d (.str (xs.getD k default)))) rfl (.pure (.move _ rfl rfl)) rfl rfl ?_
      refine Ch.step (v := (.d (.int .i64 ((m : Nat) : Int)))) rfl (.pure (.move _ rfl rfl)) rfl rfl ?_
      refine Ch.step (v := (.d (.int .u8 (((xs.getD k default).getD m 0).toNat : Int)))) rfl (.pure (.idxStr _ _ _ (m) rfl Try.underlying9 rfl rfl rfl (get_str (by first | omega | (simp; omega) | (simp; done))))) rfl rfl ?_
      refine Ch.step (v := (.d (.bool (!(decide ((((xs.getD k default).getD m 0) : UInt8) = 45)))))) rfl (.pure (.int _ _ _ _ _ rfl rfl rfl (u8_neq (((xs.getD k default).getD m 0) : UInt8) 45 rfl rfl))) rfl rfl ?_
      refine Ch.nil ?_
      refine T_cond (b := (!(decide ((((xs.getD k default).getD m 0) : UInt8) = 45)))) rfl (fun h3 => ?_) (fun h3 => ?_)
      · replace h3 := nott h3
        replace h3 := of_decide_eq_false h3
        refine T_region hc ?_
        refine Ch.step (v := (.d (.int .i64 ((litTo xs k + cntB m (isLit (xs.getD k default)) : Nat) : Int)))) rfl (.pure (.move _ rfl rfl)) rfl rfl ?_
        refine Ch.step (v := (.d (.int .i64 (((litTo xs k + cntB m (isLit (xs.getD k default)) : Nat) : Int) + 1)))) rfl (.pure (.int _ _ _ _ _ rfl rfl rfl (intV_add (by first | omega | (simp; omega) | (simp; done)) (by first | omega | (simp; omega) | (simp; done))))) rfl rfl ?_
        refine Ch.step (v := (.d (.int .i64 (((litTo xs k + cntB m (isLit (xs.getD k default)) : Nat) : Int) + 1)))) rfl (.pure (.assign _ rfl rfl)) rfl rfl ?_
        refine Ch.nil ?_
        refine T_region hc ?_
        refine Ch.step (v := (.d (.int .i64 ((m : Nat) : Int)))) rfl (.pure (.move _ rfl rfl)) rfl rfl ?_
        refine Ch.step (v := (.d (.int .i64 (((m : Nat) : Int) + 1)))) rfl (.pure (.int _ _ _ _ _ rfl rfl rfl (intV_add (by first | omega | (simp; omega) | (simp; done)) (by first | omega | (simp; omega) | (simp; done))))) rfl rfl ?_
        refine Ch.step (v := (.d (.int .i64 (((m : Nat) : Int) + 1)))) rfl (.pure (.assign _ rfl rfl)) rfl rfl ?_
        refine Ch.nil ?_
        refine Exists.intro (m + 1) (And.intro (by omega) (And.intro (by first | omega | (dsimp only; omega)) (Wk.of rfl rfl (And.intro (vI (by first | rfl | omega | (rw [cntB_yes (by simp_all [isLit])]; omega) | (rw [cntB_no (by simp_all [isLit])]; done))) (And.intro rfl (And.intro (vI (by first | rfl | omega | (simp; done) | (simp; omega))) (And.intro rfl (And.intro rfl (And.intro rfl trivial)))))) trivial)))
      · replace h3 := notf h3
        replace h3 := of_decide_eq_true h3
        refine T_skip ?_
        refine T_region hc ?_
        refine Ch.step (v := (.d (.int .i64 ((m : Nat) : Int)))) rfl (.pure (.move _ rfl rfl)) rfl rfl ?_
        refine Ch.step (v := (.d (.int .i64 (((m : Nat) : Int) + 1)))) rfl (.pure (.int _ _ _ _ _ rfl rfl rfl (intV_add (by first | omega | (simp; omega) | (simp; done)) (by first | omega | (simp; omega) | (simp; done))))) rfl rfl ?_
        refine Ch.step (v := (.d (.int .i64 (((m : Nat) : Int) + 1)))) rfl (.pure (.assign _ rfl rfl)) rfl rfl ?_
        refine Ch.nil ?_
        refine Exists.intro (m + 1) (And.intro (by omega) (And.intro (by first | omega | (dsimp only; omega)) (Wk.of rfl rfl (And.intro (vI (by first | rfl | omega | (rw [cntB_yes (by simp_all [isLit])]; omega) | (rw [cntB_no (by simp_all [isLit])]; done))) (And.intro rfl (And.intro (vI (by first | rfl | omega | (simp; done) | (simp; omega))) (And.intro rfl (And.intro rfl (And.intro rfl trivial)))))) trivial)))
    · replace h2 := of_decide_eq_false h2
      refine T_exit ?_
      refine T_region hc ?_
      refine Ch.step (v := (.d (.int .i64 (((k : Nat) : Int) + 1)))) rfl (.pure (.int _ _ _ _ _ rfl rfl rfl (intV_add (by first | omega | (simp; omega) | (simp; done)) (by first | omega | (simp; omega) | (simp; done))))) rfl rfl ?_
      refine Ch.step (v := (.d (.int .i64 (((k : Nat) : Int) + 1)))) rfl (.pure (.move _ rfl rfl)) rfl rfl ?_
      refine Ch.nil ?_
      refine Exists.intro (k + 1) (And.intro (by omega) (And.intro (by first | omega | (dsimp only; omega)) (Wk.of rfl rfl (And.intro (vI (by first | rfl | (rw [litTo_succ, litOf, show (xs.getD k default).length = m by omega]; done))) (And.intro rfl (And.intro rfl (And.intro (vI (by first | rfl | omega | (simp; done) | (simp; omega))) trivial)))) trivial)))
  · replace h1 := of_decide_eq_false h1
    refine T_exit ?_
    refine T_seq ?_
    refine T_region hc ?_
    refine Ch.step (v := (.d (.int .i64 ((litTo xs k : Nat) : Int)))) rfl (.pure (.move _ rfl rfl)) rfl rfl ?_
    refine Ch.step (v := (.d (.int .i64 ((litTo xs k : Nat) : Int)))) rfl (.pure (.assign _ rfl rfl)) rfl rfl ?_
    refine Ch.nil ?_
    refine T_ret ?_
    refine And.intro (.inr rfl) ?_
    exact Exists.intro [(.d (.int .i64 ((litTo xs k : Nat) : Int)))] (Exists.intro [] (Exists.intro [] (And.intro (.cons (.tmp 2 rfl) .nil) (And.intro (.cons (.any _) .nil) (And.intro (Exp.of (congrArg (D.int .i64) (by rw [lits, show xs.length = k by omega])) (.d _)) (And.intro rfl rfl))))))

theorem sp_impl_literals (xs : List (List UInt8)) (hb : bulkS xs ≤ 1048576) : Sp Try.prog 69 [(.slice false 1 (xs.map D.str))] [.any] (.int .i64 ((lits xs : Nat) : Int)) := by
  refine Sp_intro (lend := true) Try.func69 rfl rfl rfl (fun _ => rfl) (fun c hc hX => ?_)
  have hb2 : (xs.map List.length).sum ≤ 1048576 := by (unfold bulkS at hb; omega)
  have hb3 := bulk_len hb
  refine T_seq ?_
  refine T_region hc ?_
  refine Ch.step (v := (.d (.int .i64 0))) rfl (.pure (.assign _ rfl rfl)) rfl rfl ?_
  refine Ch.nil ?_
  refine T_seq ?_
  refine T_region hc ?_
  refine Ch.step (v := (.d (.int .i64 0))) rfl (.pure (.assign _ rfl rfl)) rfl rfl ?_
  refine Ch.nil ?_
  refine T_seq ?_
  refine T_seq ?_
  refine T_region hc ?_
  refine Ch.step (v := (.d (.slice false 1 (xs.map D.str)))) rfl (.pure (.move _ rfl rfl)) rfl rfl ?_
  refine Ch.step (v := (.d (.int .i64 ((xs.length : Nat) : Int)))) rfl (.pure (.len _ _ 9 rfl Try.underlying27 (.sh _ _) (by simp))) rfl rfl ?_
  refine Ch.step (v := (.d (.int .i64 0))) rfl (.pure (.move _ rfl rfl)) rfl rfl ?_
  refine Ch.nil ?_
  refine T_block ?_
  refine T_loop (ι := Nat) (fun k => { n := 27, sl := [(3, (.d (.int .i64 ((litTo xs k : Nat) : Int)))), (7, (.d (.slice false 1 (xs.map D.str)))), (8, (.d (.int .i64 ((xs.length : Nat) : Int)))), (9, (.d (.int .i64 ((k : Nat) : Int))))], hp := [], pin := [] }) (fun k => k ≤ xs.length) (fun k => xs.length - k) ⟨0, (by omega), (Wk.of rfl rfl (And.intro (vI (by first | rfl | (rw [litTo_succ, litOf, show (xs.getD k default).length = m by omega]; done))) (And.intro rfl (And.intro rfl (And.intro (vI (by first | rfl | omega | (simp; done) | (simp; omega))) trivial)))) trivial)⟩ (fun k hp0 => ?_)
  have hs1 := sumTo_le xs k; have hs2 := litTo_le xs k hp0
  refine T_seq ?_
  refine T_region hc ?_
  refine Ch.step (v := (.d (.bool (decide (((k : Nat) : Int) < ((xs.length : Nat) : Int)))))) rfl (.pure (.int _ _ _ _ _ rfl rfl rfl rfl)) rfl rfl ?_
  refine Ch.nil ?_
  refine T_seq ?_
  refine T_cond (b := (decide (((k : Nat) : Int) < ((xs.length : Nat) : Int)))) rfl (fun h1 => ?_) (fun h1 => ?_)
  · replace h1 := of_decide_eq_true h1
    refine T_skip ?_
    refine T_seq ?_
    refine T_block ?_
    refine T_seq ?_
    refine T_region hc ?_
    refine Ch.step (v := (.d (.ref (.str (xs.getD k default))))) rfl (.pure (.idx _ _ _ 9 (k) rfl Try.underlying27 sz9 rfl rfl rfl (get_map _ (by first | omega | (simp; omega) | (simp; done))))) rfl rfl ?_
    refine Ch.step (v := (.d (.str (xs.getD k default)))) rfl (.pure (.loadRef1 _ _ rfl ag9 rfl rfl)) rfl rfl ?_
    refine Ch.step (v := (.d (.str (xs.getD k default)))) rfl (.pure (.assign _ rfl rfl)) rfl rfl ?_
    refine Ch.nil ?_
    refine T_seq ?_
    refine T_region hc ?_
    refine Ch.step (v := (.d (.str (xs.getD k default)))) rfl (.pure (.move _ rfl rfl)) rfl rfl ?_
    refine Ch.step (v := (.d (.int .i64 (((xs.getD k default).length : Nat) : Int)))) rfl (.pure (.lenStr _ _ rfl Try.underlying9 rfl)) rfl rfl ?_
    refine Ch.step (v := (.d (.int .i64 0))) rfl (.pure (.move _ rfl rfl)) rfl rfl ?_
    refine Ch.nil ?_
    refine T_block ?_
    refine T_loop (ι := Nat) (fun m => { n := 27, sl := [(3, (.d (.int .i64 ((litTo xs k + cntB m (isLit (xs.getD k default)) : Nat) : Int)))), (5, (.d (.str (xs.getD k default)))), (7, (.d (.slice false 1 (xs.map D.str)))), (8, (.d (.int .i64 ((xs.length : Nat) : Int)))), (9, (.d (.int .i64 ((k : Nat) : Int)))), (14, (.d (.int .i64 (((xs.getD k default).length : Nat) : Int)))), (15, (.d (.int .i64 ((m : Nat) : Int))))], hp := [], pin := [] }) (fun m => m ≤ (xs.getD k default).length) (fun m => (xs.getD k default).length - m) ⟨0, (by omega), (Wk.of rfl rfl (And.intro (vI (by first | rfl | omega | (rw [cntB_yes (by simp_all [isLit])]; omega) | (rw [cntB_no (by simp_all [isLit])]; done))) (And.intro rfl (And.intro rfl (And.intro rfl (And.intro rfl (And.intro rfl (And.intro (vI (by first | rfl | omega | (simp; done) | (simp; omega))) trivial))))))) trivial)⟩ (fun m hp1 => ?_)
    have hs3 := cntB_le m (isLit (xs.getD k default)); have hs4 := bulk_mem hb _ (getD_mem (l := xs) (j := k) (d := default) (by omega))
    refine T_seq ?_
    refine T_region hc ?_
    refine Ch.step (v := (.d (.bool (decide (((m : Nat) : Int) < (((xs.getD k default).length : Nat) : Int)))))) rfl (.pure (.int _ _ _ _ _ rfl rfl rfl rfl)) rfl rfl ?_
    refine Ch.nil ?_
    refine T_seq ?_
    refine T_cond (b := (decide (((m : Nat) : Int) < (((xs.getD k default).length : Nat) : Int)))) rfl (fun h2 => ?_) (fun h2 => ?_)
    · replace h2 := of_decide_eq_true h2
      refine T_skip ?_
      refine T_seq ?_
      refine T_block ?_
      refine T_seq ?_
      refine T_region hc ?_
      refine Ch.step (v := (.d (.int .i64 ((m : Nat) : Int)))) rfl (.pure (.move _ rfl rfl)) rfl rfl ?_
      refine Ch.step (v := (.d (.int .i64 ((m : Nat) : Int)))) rfl (.pure (.assign _ rfl rfl)) rfl rfl ?_
      refine Ch.nil ?_
      refine T_seq ?_
      refine T_region hc ?_
      refine Ch.step (v := (.d (.str (xs.getD k default)))) rfl (.pure (.move _ rfl rfl)) rfl rfl ?_
      refine Ch.step (v := (.d (.int .i64 ((m : Nat) : Int)))) rfl (.pure (.move _ rfl rfl)) rfl rfl ?_
      refine Ch.step (v := (.d (.int .u8 (((xs.getD k default).getD m 0).toNat : Int)))) rfl (.pure (.idxStr _ _ _ (m) rfl Try.underlying9 rfl rfl rfl (get_str (by first | omega | (simp; omega) | (simp; done))))) rfl rfl ?_
      refine Ch.step (v := (.d (.bool (!(decide ((((xs.getD k default).getD m 0) : UInt8) = 45)))))) rfl (.pure (.int _ _ _ _ _ rfl rfl rfl (u8_neq (((xs.getD k default).getD m 0) : UInt8) 45 rfl rfl))) rfl rfl ?_
      refine Ch.nil ?_
      refine T_cond (b := (!(decide ((((xs.getD k default).getD m 0) : UInt8) = 45)))) rfl (fun h3 => ?_) (fun h3 => ?_)
      · replace h3 := nott h3
        replace h3 := of_decide_eq_false h3
        refine T_region hc ?_
        refine Ch.step (v := (.d (.int .i64 ((litTo xs k + cntB m (isLit (xs.getD k default)) : Nat) : Int)))) rfl (.pure (.move _ rfl rfl)) rfl rfl ?_
        refine Ch.step (v := (.d (.int .i64 (((litTo xs k + cntB m (isLit (xs.getD k default)) : Nat) : Int) + 1)))) rfl (.pure (.int _ _ _ _ _ rfl rfl rfl (intV_add (by first | omega | (simp; omega) | (simp; done)) (by first | omega | (simp; omega) | (simp; done))))) rfl rfl ?_
        refine Ch.step (v := (.d (.int .i64 (((litTo xs k + cntB m (isLit (xs.getD k default)) : Nat) : Int) + 1)))) rfl (.pure (.assign _ rfl rfl)) rfl rfl ?_
        refine Ch.nil ?_
        refine T_region hc ?_
        refine Ch.step (v := (.d (.int .i64 (((m : Nat) : Int) + 1)))) rfl (.pure (.int _ _ _ _ _ rfl rfl rfl (intV_add (by first | omega | (simp; omega) | (simp; done)) (by first | omega | (simp; omega) | (simp; done))))) rfl rfl ?_
        refine Ch.step (v := (.d (.int .i64 (((m : Nat) : Int) + 1)))) rfl (.pure (.move _ rfl rfl)) rfl rfl ?_
        refine Ch.nil ?_
        refine Exists.intro (m + 1) (And.intro (by omega) (And.intro (by first | omega | (dsimp only; omega)) (Wk.of rfl rfl (And.intro (vI (by first | rfl | omega | (rw [cntB_yes (by simp_all [isLit])]; omega) | (rw [cntB_no (by simp_all [isLit])]; done))) (And.intro rfl (And.intro rfl (And.intro rfl (And.intro rfl (And.intro rfl (And.intro (vI (by first | rfl | omega | (simp; done) | (simp; omega))) trivial))))))) trivial)))
      · replace h3 := notf h3
        replace h3 := of_decide_eq_true h3
        refine T_skip ?_
        refine T_region hc ?_
        refine Ch.step (v := (.d (.int .i64 (((m : Nat) : Int) + 1)))) rfl (.pure (.int _ _ _ _ _ rfl rfl rfl (intV_add (by first | omega | (simp; omega) | (simp; done)) (by first | omega | (simp; omega) | (simp; done))))) rfl rfl ?_
        refine Ch.step (v := (.d (.int .i64 (((m : Nat) : Int) + 1)))) rfl (.pure (.move _ rfl rfl)) rfl rfl ?_
        refine Ch.nil ?_
        refine Exists.intro (m + 1) (And.intro (by omega) (And.intro (by first | omega | (dsimp only; omega)) (Wk.of rfl rfl (And.intro (vI (by first | rfl | omega | (rw [cntB_yes (by simp_all [isLit])]; omega) | (rw [cntB_no (by simp_all [isLit])]; done))) (And.intro rfl (And.intro rfl (And.intro rfl (And.intro rfl (And.intro rfl (And.intro (vI (by first | rfl | omega | (simp; done) | (simp; omega))) trivial))))))) trivial)))
    · replace h2 := of_decide_eq_false h2
      refine T_exit ?_
      refine T_region hc ?_
      refine Ch.step (v := (.d (.int .i64 (((k : Nat) : Int) + 1)))) rfl (.pure (.int _ _ _ _ _ rfl rfl rfl (intV_add (by first | omega | (simp; omega) | (simp; done)) (by first | omega | (simp; omega) | (simp; done))))) rfl rfl ?_
      refine Ch.step (v := (.d (.int .i64 (((k : Nat) : Int) + 1)))) rfl (.pure (.move _ rfl rfl)) rfl rfl ?_
      refine Ch.nil ?_
      refine Exists.intro (k + 1) (And.intro (by omega) (And.intro (by first | omega | (dsimp only; omega)) (Wk.of rfl rfl (And.intro (vI (by first | rfl | (rw [litTo_succ, litOf, show (xs.getD k default).length = m by omega]; done))) (And.intro rfl (And.intro rfl (And.intro (vI (by first | rfl | omega | (simp; done) | (simp; omega))) trivial)))) trivial)))
  · replace h1 := of_decide_eq_false h1
    refine T_exit ?_
    refine T_seq ?_
    refine T_region hc ?_
    refine Ch.step (v := (.d (.int .i64 ((litTo xs k : Nat) : Int)))) rfl (.pure (.move _ rfl rfl)) rfl rfl ?_
    refine Ch.step (v := (.d (.int .i64 ((litTo xs k : Nat) : Int)))) rfl (.pure (.assign _ rfl rfl)) rfl rfl ?_
    refine Ch.nil ?_
    refine T_ret ?_
    refine And.intro (.inr rfl) ?_
    exact Exists.intro [(.d (.int .i64 ((litTo xs k : Nat) : Int)))] (Exists.intro [] (Exists.intro [] (And.intro (.cons (.tmp 2 rfl) .nil) (And.intro (.cons (.any _) .nil) (And.intro (Exp.of (congrArg (D.int .i64) (by rw [lits, show xs.length = k by omega])) (.d _)) (And.intro rfl rfl))))))

theorem sp_spec_LiteralCount (xs : List (List UInt8)) (hb : bulkS xs ≤ 1048576) : Sp Try.prog 31 [(.slice false 1 (xs.map D.str))] [.any] (.tup [(.int .i64 (lcN xs)), (.bool (lcB xs))]) := by
  refine Sp_intro (lend := true) Try.func31 rfl rfl rfl (fun _ => rfl) (fun c hc hX => ?_)
  have hn := bulk_len hb
  have hx := bulk_mem hb
  refine T_seq ?_
  refine T_region hc ?_
  refine Ch.step (v := (.d (.int .i64 0))) rfl (.pure (.assign _ rfl rfl)) rfl rfl ?_
  refine Ch.step (v := (.d (.bool false))) rfl (.pure (.assign _ rfl rfl)) rfl rfl ?_
  refine Ch.nil ?_
  refine T_seq ?_
  refine T_seq ?_
  refine T_region hc ?_
  refine Ch.step (v := (.d (.slice false 1 (xs.map D.str)))) rfl (.pure (.move _ rfl rfl)) rfl rfl ?_
  refine Ch.step (v := (.d (.int .i64 ((xs.length : Nat) : Int)))) rfl (.pure (.len _ _ 9 rfl Try.underlying27 (.sh _ _) (by simp))) rfl rfl ?_
  refine Ch.step (v := (.d (.int .i64 0))) rfl (.pure (.move _ rfl rfl)) rfl rfl ?_
  refine Ch.nil ?_
  refine T_block ?_
  refine T_loop (ι := Nat) (fun k => { n := 30, sl := [(0, (.d (.slice false 1 (xs.map D.str)))), (6, (.d (.slice false 1 (xs.map D.str)))), (7, (.d (.int .i64 ((xs.length : Nat) : Int)))), (8, (.d (.int .i64 ((k : Nat) : Int))))], hp := [], pin := [] }) (fun k => k ≤ xs.length ∧ ∀ j, j < k → okCube ((xs.getD 0 default).length : Int) (xs.getD j default) = true) (fun k => xs.length - k) ⟨0, ⟨by omega, fun j hj => by omega⟩, (Wk.of rfl rfl (And.intro rfl (And.intro rfl (And.intro rfl (And.intro (vI (by first | rfl | omega | (simp; done) | (simp; omega))) trivial)))) trivial)⟩ (fun k hp0 => ?_)
  refine T_seq ?_
  refine T_region hc ?_
  refine Ch.step (v := (.d (.bool (decide (((k : Nat) : Int) < ((xs.length : Nat) : Int)))))) rfl (.pure (.int _ _ _ _ _ rfl rfl rfl rfl)) rfl rfl ?_
  refine Ch.nil ?_
  refine T_seq ?_
  refine T_cond (b := (decide (((k : Nat) : Int) < ((xs.length : Nat) : Int)))) rfl (fun h1 => ?_) (fun h1 => ?_)
  · replace h1 := of_decide_eq_true h1
    refine T_skip ?_
    refine T_seq ?_
    refine T_block ?_
    refine T_seq ?_
    refine T_region hc ?_
    refine Ch.step (v := (.d (.ref (.str (xs.getD k default))))) rfl (.pure (.idx _ _ _ 9 (k) rfl Try.underlying27 sz9 rfl rfl rfl (get_map _ (by first | omega | (simp; omega) | (simp; done))))) rfl rfl ?_
    refine Ch.step (v := (.d (.str (xs.getD k default)))) rfl (.pure (.loadRef1 _ _ rfl ag9 rfl rfl)) rfl rfl ?_
    refine Ch.step (v := (.d (.str (xs.getD k default)))) rfl (.pure (.assign _ rfl rfl)) rfl rfl ?_
    refine Ch.nil ?_
    refine T_seq ?_
    refine T_region hc ?_
    refine Ch.step (v := (.d (.str (xs.getD k default)))) rfl (.pure (.move _ rfl rfl)) rfl rfl ?_
    refine Ch.step (v := (.d (.bool (cubeB (xs.getD k default))))) rfl (.call 13000 67 _ _ _ en67 rfl (.inl rfl) (.cons (.d _) .nil) rfl rfl (sp_spec_l13Cube (xs.getD k default) (by first | omega | assumption | (exact hx _ (getD_mem (by omega))) | (exact hx _ (by assumption)) | (simp_all; done))) (.skip _ _ .nil) rfl) rfl rfl ?_
    refine Ch.step (v := (.d (.bool (!(cubeB (xs.getD k default)))))) rfl (.pure (.not _ _ rfl rfl)) rfl rfl ?_
    refine Ch.step (v := (.d (.bool (!(cubeB (xs.getD k default)))))) rfl (.pure (.move _ rfl rfl)) rfl rfl ?_
    cases h2 : (cubeB (xs.getD k default)) with
    | true =>
      refine Ch.step (v := (.d (.str (xs.getD k default)))) rfl (.pure (.move _ rfl rfl)) rfl rfl ?_
      refine Ch.step (v := (.d (.int .i64 (((xs.getD k default).length : Nat) : Int)))) rfl (.pure (.lenStr _ _ rfl Try.underlying9 rfl)) rfl rfl ?_
      refine Ch.step (v := (.d (.slice false 1 (xs.map D.str)))) rfl (.pure (.move _ rfl rfl)) rfl rfl ?_
      refine Ch.step (v := (.d (.ref (.str (xs.getD 0 default))))) rfl (.pure (.idx _ _ _ 9 (0) rfl Try.underlying27 sz9 rfl rfl rfl (get_map _ (by first | omega | (simp; omega) | (simp; done))))) rfl rfl ?_
      refine Ch.step (v := (.d (.str (xs.getD 0 default)))) rfl (.pure (.loadRef1 _ _ rfl ag9 rfl rfl)) rfl rfl ?_
      refine Ch.step (v := (.d (.int .i64 (((xs.getD 0 default).length : Nat) : Int)))) rfl (.pure (.lenStr _ _ rfl Try.underlying9 rfl)) rfl rfl ?_
      refine Ch.step (v := (.d (.bool (!(decide ((((xs.getD k default).length : Nat) : Int) = (((xs.getD 0 default).length : Nat) : Int))))))) rfl (.pure (.int _ _ _ _ _ rfl rfl rfl rfl)) rfl rfl ?_
      refine Ch.step (v := (.d (.bool (!(decide ((((xs.getD k default).length : Nat) : Int) = (((xs.getD 0 default).length : Nat) : Int))))))) rfl (.pure (.pickF _ _ _ rfl rfl rfl)) rfl rfl ?_
      refine Ch.nil ?_
      refine T_cond (b := (!(decide ((((xs.getD k default).length : Nat) : Int) = (((xs.getD 0 default).length : Nat) : Int))))) rfl (fun h3 => ?_) (fun h3 => ?_)
      · replace h3 := nott h3
        replace h3 := of_decide_eq_false h3
        refine T_seq ?_
        refine T_region hc ?_
        refine Ch.step (v := (.d (.int .i64 0))) rfl (.pure (.assign _ rfl rfl)) rfl rfl ?_
        refine Ch.step (v := (.d (.bool false))) rfl (.pure (.assign _ rfl rfl)) rfl rfl ?_
        refine Ch.nil ?_
        refine T_ret ?_
        refine And.intro (.inr rfl) ?_
        exact Exists.intro [(.d (.int .i64 0)), (.d (.bool false))] (Exists.intro [] (Exists.intro [] (And.intro (.cons (.tmp 2 rfl) (.cons (.tmp 3 rfl) .nil)) (And.intro (.cons (.any _) .nil) (And.intro (.tup (.cons (Exp.of (congrArg (D.int .i64) (by first | (rw [lcN, lcB, allOf, allB_no k (by omega) (by simp_all [okCube])]; rfl) | (rw [lcB, allOf, allB_no k (by omega) (by simp_all [okCube])]; rfl) | (rw [lcN, lcB, allOf, allB_of (fun j hj => hp0.2 j (by omega))]; first | (simp_all; done) | (simp_all; omega)) | (rw [lcB, allOf, allB_of (fun j hj => hp0.2 j (by omega))]; first | (simp_all; done) | (simp_all; omega)))) (.d _)) (.cons (Exp.of (congrArg D.bool (by first | (rw [lcN, lcB, allOf, allB_no k (by omega) (by simp_all [okCube])]; rfl) | (rw [lcB, allOf, allB_no k (by omega) (by simp_all [okCube])]; rfl) | (rw [lcN, lcB, allOf, allB_of (fun j hj => hp0.2 j (by omega))]; first | (simp_all; done) | (simp_all; omega)) | (rw [lcB, allOf, allB_of (fun j hj => hp0.2 j (by omega))]; first | (simp_all; done) | (simp_all; omega)))) (.d _)) .nil))) (And.intro rfl rfl))))))
      · replace h3 := notf h3
        replace h3 := of_decide_eq_true h3
        refine T_skip ?_
        refine T_region hc ?_
        refine Ch.step (v := (.d (.int .i64 (((k : Nat) : Int) + 1)))) rfl (.pure (.int _ _ _ _ _ rfl rfl rfl (intV_add (by first | omega | (simp; omega) | (simp; done)) (by first | omega | (simp; omega) | (simp; done))))) rfl rfl ?_
        refine Ch.step (v := (.d (.int .i64 (((k : Nat) : Int) + 1)))) rfl (.pure (.move _ rfl rfl)) rfl rfl ?_
        refine Ch.nil ?_
        refine Exists.intro (k + 1) (And.intro ⟨by omega, upto_succ hp0.2 (by simp_all [okCube])⟩ (And.intro (by first | omega | (dsimp only; omega)) (Wk.of rfl rfl (And.intro rfl (And.intro rfl (And.intro rfl (And.intro (vI (by first | rfl | omega | (simp; done) | (simp; omega))) trivial)))) trivial)))
    | false =>
      refine Ch.skip rfl rfl ?_
      refine Ch.skip rfl rfl ?_
      refine Ch.skip rfl rfl ?_
      refine Ch.skip rfl rfl ?_
      refine Ch.skip rfl rfl ?_
      refine Ch.skip rfl rfl ?_
      refine Ch.skip rfl rfl ?_
      refine Ch.step (v := (.d (.bool true))) rfl (.pure (.pickT _ _ _ rfl rfl rfl)) rfl rfl ?_
      refine Ch.nil ?_
      refine T_cond (b := true) rfl (fun _ => ?_) (fun h => nomatch h)
      refine T_seq ?_
      refine T_region hc ?_
      refine Ch.step (v := (.d (.int .i64 0))) rfl (.pure (.assign _ rfl rfl)) rfl rfl ?_
      refine Ch.step (v := (.d (.bool false))) rfl (.pure (.assign _ rfl rfl)) rfl rfl ?_
      refine Ch.nil ?_
      refine T_ret ?_
      refine And.intro (.inr rfl) ?_
      exact Exists.intro [(.d (.int .i64 0)), (.d (.bool false))] (Exists.intro [] (Exists.intro [] (And.intro (.cons (.tmp 2 rfl) (.cons (.tmp 3 rfl) .nil)) (And.intro (.cons (.any _) .nil) (And.intro (.tup (.cons (Exp.of (congrArg (D.int .i64) (by first | (rw [lcN, lcB, allOf, allB_no k (by omega) (by simp_all [okCube])]; rfl) | (rw [lcB, allOf, allB_no k (by omega) (by simp_all [okCube])]; rfl) | (rw [lcN, lcB, allOf, allB_of (fun j hj => hp0.2 j (by omega))]; first | (simp_all; done) | (simp_all; omega)) | (rw [lcB, allOf, allB_of (fun j hj => hp0.2 j (by omega))]; first | (simp_all; done) | (simp_all; omega)))) (.d _)) (.cons (Exp.of (congrArg D.bool (by first | (rw [lcN, lcB, allOf, allB_no k (by omega) (by simp_all [okCube])]; rfl) | (rw [lcB, allOf, allB_no k (by omega) (by simp_all [okCube])]; rfl) | (rw [lcN, lcB, allOf, allB_of (fun j hj => hp0.2 j (by omega))]; first | (simp_all; done) | (simp_all; omega)) | (rw [lcB, allOf, allB_of (fun j hj => hp0.2 j (by omega))]; first | (simp_all; done) | (simp_all; omega)))) (.d _)) .nil))) (And.intro rfl rfl))))))
  · replace h1 := of_decide_eq_false h1
    refine T_exit ?_
    refine T_seq ?_
    refine T_seq ?_
    refine T_region hc ?_
    refine Ch.step (v := (.d (.slice false 1 (xs.map D.str)))) rfl (.pure (.move _ rfl rfl)) rfl rfl ?_
    refine Ch.step (v := (.d (.int .i64 ((xs.length : Nat) : Int)))) rfl (.pure (.len _ _ 9 rfl Try.underlying27 (.sh _ _) (by simp))) rfl rfl ?_
    refine Ch.step (v := (.d (.bool (decide (60 < ((xs.length : Nat) : Int)))))) rfl (.pure (.int _ _ _ _ _ rfl rfl rfl rfl)) rfl rfl ?_
    refine Ch.nil ?_
    refine T_cond (b := (decide (60 < ((xs.length : Nat) : Int)))) rfl (fun h4 => ?_) (fun h4 => ?_)
    · replace h4 := of_decide_eq_true h4
      refine T_seq ?_
      refine T_region hc ?_
      refine Ch.step (v := (.d (.int .i64 0))) rfl (.pure (.assign _ rfl rfl)) rfl rfl ?_
      refine Ch.step (v := (.d (.bool false))) rfl (.pure (.assign _ rfl rfl)) rfl rfl ?_
      refine Ch.nil ?_
      refine T_ret ?_
      refine And.intro (.inr rfl) ?_
      exact Exists.intro [(.d (.int .i64 0)), (.d (.bool false))] (Exists.intro [] (Exists.intro [] (And.intro (.cons (.tmp 2 rfl) (.cons (.tmp 3 rfl) .nil)) (And.intro (.cons (.any _) .nil) (And.intro (.tup (.cons (Exp.of (congrArg (D.int .i64) (by first | (rw [lcN, lcB, allOf, allB_no k (by omega) (by simp_all [okCube])]; rfl) | (rw [lcB, allOf, allB_no k (by omega) (by simp_all [okCube])]; rfl) | (rw [lcN, lcB, allOf, allB_of (fun j hj => hp0.2 j (by omega))]; first | (simp_all; done) | (simp_all; omega)) | (rw [lcB, allOf, allB_of (fun j hj => hp0.2 j (by omega))]; first | (simp_all; done) | (simp_all; omega)))) (.d _)) (.cons (Exp.of (congrArg D.bool (by first | (rw [lcN, lcB, allOf, allB_no k (by omega) (by simp_all [okCube])]; rfl) | (rw [lcB, allOf, allB_no k (by omega) (by simp_all [okCube])]; rfl) | (rw [lcN, lcB, allOf, allB_of (fun j hj => hp0.2 j (by omega))]; first | (simp_all; done) | (simp_all; omega)) | (rw [lcB, allOf, allB_of (fun j hj => hp0.2 j (by omega))]; first | (simp_all; done) | (simp_all; omega)))) (.d _)) .nil))) (And.intro rfl rfl))))))
    · replace h4 := of_decide_eq_false h4
      refine T_skip ?_
      refine T_seq ?_
      refine T_region hc ?_
      refine Ch.step (v := (.d (.slice false 1 (xs.map D.str)))) rfl (.pure (.move _ rfl rfl)) rfl rfl ?_
      refine Ch.step (v := (.d (.int .i64 ((lits xs : Nat) : Int)))) rfl (.call 29000 68 _ _ _ en68 rfl (.inl rfl) (.cons (.d _) .nil) rfl rfl (sp_spec_l14Literals xs (by first | omega | assumption | (exact hx _ (getD_mem (by omega))) | (exact hx _ (by assumption)) | (simp_all; done))) (.skip _ _ .nil) rfl) rfl rfl ?_
      refine Ch.step (v := (.d (.int .i64 ((lits xs : Nat) : Int)))) rfl (.pure (.assign _ rfl rfl)) rfl rfl ?_
      refine Ch.step (v := (.d (.bool true))) rfl (.pure (.assign _ rfl rfl)) rfl rfl ?_
      refine Ch.nil ?_
      refine T_ret ?_
      refine And.intro (.inr rfl) ?_
      exact Exists.intro [(.d (.int .i64 ((lits xs : Nat) : Int))), (.d (.bool true))] (Exists.intro [] (Exists.intro [] (And.intro (.cons (.tmp 2 rfl) (.cons (.tmp 3 rfl) .nil)) (And.intro (.cons (.any _) .nil) (And.intro (.tup (.cons (Exp.of (congrArg (D.int .i64) (by first | (rw [lcN, lcB, allOf, allB_no k (by omega) (by simp_all [okCube])]; rfl) | (rw [lcB, allOf, allB_no k (by omega) (by simp_all [okCube])]; rfl) | (rw [lcN, lcB, allOf, allB_of (fun j hj => hp0.2 j (by omega))]; first | (simp_all; done) | (simp_all; omega)) | (rw [lcB, allOf, allB_of (fun j hj => hp0.2 j (by omega))]; first | (simp_all; done) | (simp_all; omega)))) (.d _)) (.cons (Exp.of (congrArg D.bool (by first | (rw [lcN, lcB, allOf, allB_no k (by omega) (by simp_all [okCube])]; rfl) | (rw [lcB, allOf, allB_no k (by omega) (by simp_all [okCube])]; rfl) | (rw [lcN, lcB, allOf, allB_of (fun j hj => hp0.2 j (by omega))]; first | (simp_all; done) | (simp_all; omega)) | (rw [lcB, allOf, allB_of (fun j hj => hp0.2 j (by omega))]; first | (simp_all; done) | (simp_all; omega)))) (.d _)) .nil))) (And.intro rfl rfl))))))

theorem sp_impl_LiteralCount (xs : List (List UInt8)) (hb : bulkS xs ≤ 1048576) : Sp Try.prog 32 [(.slice false 1 (xs.map D.str))] [.any] (.tup [(.int .i64 (lcN xs)), (.bool (lcB xs))]) := by
  refine Sp_intro (lend := true) Try.func32 rfl rfl rfl (fun _ => rfl) (fun c hc hX => ?_)
  have hn := bulk_len hb
  have hx := bulk_mem hb
  refine T_seq ?_
  refine T_region hc ?_
  refine Ch.step (v := (.d (.int .i64 0))) rfl (.pure (.assign _ rfl rfl)) rfl rfl ?_
  refine Ch.step (v := (.d (.bool false))) rfl (.pure (.assign _ rfl rfl)) rfl rfl ?_
  refine Ch.nil ?_
  refine T_seq ?_
  refine T_seq ?_
  refine T_region hc ?_
  refine Ch.step (v := (.d (.slice false 1 (xs.map D.str)))) rfl (.pure (.move _ rfl rfl)) rfl rfl ?_
  refine Ch.step (v := (.d (.int .i64 ((xs.length : Nat) : Int)))) rfl (.pure (.len _ _ 9 rfl Try.underlying27 (.sh _ _) (by simp))) rfl rfl ?_
  refine Ch.step (v := (.d (.bool (decide (((xs.length : Nat) : Int) = 0))))) rfl (.pure (.int _ _ _ _ _ rfl rfl rfl rfl)) rfl rfl ?_
  refine Ch.nil ?_
  refine T_cond (b := (decide (((xs.length : Nat) : Int) = 0))) rfl (fun h1 => ?_) (fun h1 => ?_)
  · replace h1 := of_decide_eq_true h1
    try have hg := lcB_good h1
    try have hg := lcB_nil h1
    refine T_seq ?_
    refine T_region hc ?_
    refine Ch.step (v := (.d (.int .i64 0))) rfl (.pure (.assign _ rfl rfl)) rfl rfl ?_
    refine Ch.step (v := (.d (.bool true))) rfl (.pure (.assign _ rfl rfl)) rfl rfl ?_
    refine Ch.nil ?_
    refine T_ret ?_
    refine And.intro (.inr rfl) ?_
    exact Exists.intro [(.d (.int .i64 0)), (.d (.bool true))] (Exists.intro [] (Exists.intro [] (And.intro (.cons (.tmp 2 rfl) (.cons (.tmp 3 rfl) .nil)) (And.intro (.cons (.any _) .nil) (And.intro (.tup (.cons (Exp.of (congrArg (D.int .i64) (by first | rfl | exact hg.1.symm | exact hg.2.symm | (rw [lcN, ← hg]; simp_all; done) | (rw [← hg]; simp_all; done))) (.d _)) (.cons (Exp.of (congrArg D.bool (by first | rfl | exact hg.1.symm | exact hg.2.symm | (rw [lcN, ← hg]; simp_all; done) | (rw [← hg]; simp_all; done))) (.d _)) .nil))) (And.intro rfl rfl))))))
  · replace h1 := of_decide_eq_false h1
    try have hg := lcB_good h1
    try have hg := lcB_nil h1
    refine T_skip ?_
    refine T_seq ?_
    refine T_seq ?_
    refine T_region hc ?_
    refine Ch.step (v := (.d (.slice false 1 (xs.map D.str)))) rfl (.pure (.move _ rfl rfl)) rfl rfl ?_
    refine Ch.step (v := (.d (.ref (.str (xs.getD 0 default))))) rfl (.pure (.idx _ _ _ 9 (0) rfl Try.underlying27 sz9 rfl rfl rfl (get_map _ (by first | omega | (simp; omega) | (simp; done))))) rfl rfl ?_
    refine Ch.step (v := (.d (.str (xs.getD 0 default)))) rfl (.pure (.loadRef1 _ _ rfl ag9 rfl rfl)) rfl rfl ?_
    refine Ch.step (v := (.d (.int .i64 (((xs.getD 0 default).length : Nat) : Int)))) rfl (.pure (.lenStr _ _ rfl Try.underlying9 rfl)) rfl rfl ?_
    refine Ch.step (v := (.d (.slice false 1 (xs.map D.str)))) rfl (.pure (.move _ rfl rfl)) rfl rfl ?_
    refine Ch.step (v := (.d (.bool (goodB (((xs.getD 0 default).length : Nat) : Int) xs)))) rfl (.call 12000 24 _ _ _ en24 rfl (.inl rfl) (.cons (.d _) (.cons (.d _) .nil)) rfl rfl (sp_impl_IsValidCover (((xs.getD 0 default).length : Nat) : Int) xs (by first | omega | assumption | (exact hx _ (getD_mem (by omega))) | (exact hx _ (by assumption)) | (simp_all; done)) (by first | omega | assumption | (exact hx _ (getD_mem (by omega))) | (exact hx _ (by assumption)) | (simp_all; done))) (.skip _ _ (.skip _ _ .nil)) rfl) rfl rfl ?_
    refine Ch.step (v := (.d (.bool (!(goodB (((xs.getD 0 default).length : Nat) : Int) xs))))) rfl (.pure (.not _ _ rfl rfl)) rfl rfl ?_
    refine Ch.nil ?_
    refine T_cond (b := (!(goodB (((xs.getD 0 default).length : Nat) : Int) xs))) rfl (fun h2 => ?_) (fun h2 => ?_)
    · replace h2 := nott h2
      refine T_seq ?_
      refine T_region hc ?_
      refine Ch.step (v := (.d (.int .i64 0))) rfl (.pure (.assign _ rfl rfl)) rfl rfl ?_
      refine Ch.step (v := (.d (.bool false))) rfl (.pure (.assign _ rfl rfl)) rfl rfl ?_
      refine Ch.nil ?_
      refine T_ret ?_
      refine And.intro (.inr rfl) ?_
      exact Exists.intro [(.d (.int .i64 0)), (.d (.bool false))] (Exists.intro [] (Exists.intro [] (And.intro (.cons (.tmp 2 rfl) (.cons (.tmp 3 rfl) .nil)) (And.intro (.cons (.any _) .nil) (And.intro (.tup (.cons (Exp.of (congrArg (D.int .i64) (by first | rfl | exact hg.1.symm | exact hg.2.symm | (rw [lcN, ← hg]; simp_all; done) | (rw [← hg]; simp_all; done))) (.d _)) (.cons (Exp.of (congrArg D.bool (by first | rfl | exact hg.1.symm | exact hg.2.symm | (rw [lcN, ← hg]; simp_all; done) | (rw [← hg]; simp_all; done))) (.d _)) .nil))) (And.intro rfl rfl))))))
    · replace h2 := notf h2
      refine T_skip ?_
      refine T_seq ?_
      refine T_region hc ?_
      refine Ch.step (v := (.d (.slice false 1 (xs.map D.str)))) rfl (.pure (.move _ rfl rfl)) rfl rfl ?_
      refine Ch.step (v := (.d (.int .i64 ((lits xs : Nat) : Int)))) rfl (.call 15000 69 _ _ _ en69 rfl (.inl rfl) (.cons (.d _) .nil) rfl rfl (sp_impl_literals xs (by first | omega | assumption | (exact hx _ (getD_mem (by omega))) | (exact hx _ (by assumption)) | (simp_all; done))) (.skip _ _ .nil) rfl) rfl rfl ?_
      refine Ch.step (v := (.d (.int .i64 ((lits xs : Nat) : Int)))) rfl (.pure (.assign _ rfl rfl)) rfl rfl ?_
      refine Ch.step (v := (.d (.bool true))) rfl (.pure (.assign _ rfl rfl)) rfl rfl ?_
      refine Ch.nil ?_
      refine T_ret ?_
      refine And.intro (.inr rfl) ?_
      exact Exists.intro [(.d (.int .i64 ((lits xs : Nat) : Int))), (.d (.bool true))] (Exists.intro [] (Exists.intro [] (And.intro (.cons (.tmp 2 rfl) (.cons (.tmp 3 rfl) .nil)) (And.intro (.cons (.any _) .nil) (And.intro (.tup (.cons (Exp.of (congrArg (D.int .i64) (by first | rfl | exact hg.1.symm | exact hg.2.symm | (rw [lcN, ← hg]; simp_all; done) | (rw [← hg]; simp_all; done))) (.d _)) (.cons (Exp.of (congrArg D.bool (by first | rfl | exact hg.1.symm | exact hg.2.symm | (rw [lcN, ← hg]; simp_all; done) | (rw [← hg]; simp_all; done))) (.d _)) .nil))) (And.intro rfl rfl))))))

theorem sp_laws_FnExactLiteralCount (xs : List (List UInt8)) (hn : xs.length ≤ 9223372036854775807) (hx : ∀ x ∈ xs, x.length ≤ 9223372036854775807) : Sp Try.prog 7 [(.slice false 1 (xs.map D.str))] [.any] (.bool true) := by
  refine Sp_intro (lend := true) Try.func7 rfl rfl rfl (fun _ => rfl) (fun c hc hX => ?_)
  refine T_seq ?_
  refine T_region hc ?_
  refine Ch.step (v := (.d (.bool false))) rfl (.pure (.assign _ rfl rfl)) rfl rfl ?_
  refine Ch.nil ?_
  refine T_seq ?_
  refine T_region hc ?_
  refine Ch.step (v := (.d (.int .i64 1048576))) rfl (.pure (.assign _ rfl rfl)) rfl rfl ?_
  refine Ch.nil ?_
  refine T_seq ?_
  refine T_region hc ?_
  refine Ch.step (v := (.d (.slice false 1 (xs.map D.str)))) rfl (.pure (.move _ rfl rfl)) rfl rfl ?_
  refine Ch.step (v := (.d (.int .i64 1048576))) rfl (.pure (.move _ rfl rfl)) rfl rfl ?_
  refine Ch.step (v := (.d (.int .i64 (szS xs 1048576)))) rfl (.call 11000 21 _ _ _ en21 rfl (.inl rfl) (.cons (.d _) (.cons (.d _) .nil)) rfl rfl (sp_laws_szStringS xs 1048576 (by first | omega | assumption | (exact hx _ (getD_mem (by omega))) | (exact hx _ (by assumption)) | (simp_all; done)) (by first | omega | assumption | (exact hx _ (getD_mem (by omega))) | (exact hx _ (by assumption)) | (simp_all; done)) (by first | omega | assumption | (exact hx _ (getD_mem (by omega))) | (exact hx _ (by assumption)) | (simp_all; done)) (by first | omega | assumption | (exact hx _ (getD_mem (by omega))) | (exact hx _ (by assumption)) | (simp_all; done))) (.skip _ _ (.skip _ _ .nil)) rfl) rfl rfl ?_
  refine Ch.step (v := (.d (.int .i64 (szS xs 1048576)))) rfl (.pure (.assign _ rfl rfl)) rfl rfl ?_
  refine Ch.nil ?_
  refine T_seq ?_
  refine T_seq ?_
  refine T_region hc ?_
  refine Ch.step (v := (.d (.int .i64 (szS xs 1048576)))) rfl (.pure (.move _ rfl rfl)) rfl rfl ?_
  refine Ch.step (v := (.d (.bool (decide ((szS xs 1048576) < 0))))) rfl (.pure (.int _ _ _ _ _ rfl rfl rfl rfl)) rfl rfl ?_
  refine Ch.nil ?_
  refine T_cond (b := (decide ((szS xs 1048576) < 0))) rfl (fun h1 => ?_) (fun h1 => ?_)
  · replace h1 := of_decide_eq_true h1
    try have hb := szS_ok h1
    try have hbn : bulkS xs ≤ 1048576 := by omega
    try replace hn := bulk_len hbn
    try replace hx := bulk_mem hbn
    refine T_seq ?_
    refine T_region hc ?_
    refine Ch.step (v := (.d (.bool true))) rfl (.pure (.assign _ rfl rfl)) rfl rfl ?_
    refine Ch.nil ?_
    refine T_ret ?_
    refine And.intro (.inr rfl) ?_
    exact Exists.intro [(.d (.bool true))] (Exists.intro [] (Exists.intro [] (And.intro (.cons (.tmp 2 rfl) .nil) (And.intro (.cons (.any _) .nil) (And.intro (.d _) (And.intro rfl rfl))))))
  · replace h1 := of_decide_eq_false h1
    try have hb := szS_ok h1
    try have hbn : bulkS xs ≤ 1048576 := by omega
    try replace hn := bulk_len hbn
    try replace hx := bulk_mem hbn
    refine T_skip ?_
    refine T_seq ?_
    refine T_region hc ?_
    refine Ch.step (v := (.d (.slice false 1 (xs.map D.str)))) rfl (.pure (.move _ rfl rfl)) rfl rfl ?_
    refine Ch.step (v := (.row 16000)) rfl (.call 16000 23 _ _ _ en23 rfl (.inl rfl) (.cons (.d _) .nil) rfl (sol (solid_row (fun _ => rfl) _) rfl) (sp_laws_toStringS xs (by first | omega | assumption | (exact hx _ (getD_mem (by omega))) | (exact hx _ (by assumption)) | (simp_all; done))) (.skip _ _ .nil) rfl) rfl rfl ?_
    refine Ch.step (v := (.tup [(.d (.int .i64 (lcN xs))), (.d (.bool (lcB xs)))])) rfl (.call 17000 31 _ _ _ en31 rfl (.inl rfl) (.cons (.lend (.row rfl (frozs_map (fun _ => rfl) _))) .nil) rfl rfl (sp_spec_LiteralCount xs (by first | omega | assumption | (exact hx _ (getD_mem (by omega))) | (exact hx _ (by assumption)) | (simp_all; done))) (.skip _ _ .nil) rfl) rfl rfl ?_
    refine Ch.step (v := (.tup [(.d (.int .i64 (lcN xs))), (.d (.bool (lcB xs)))])) rfl (.pure (.move _ rfl rfl)) rfl rfl ?_
    refine Ch.step (v := (.d (.int .i64 (lcN xs)))) rfl (.pure (.extract _ rfl rfl rfl)) rfl rfl ?_
    refine Ch.step (v := (.d (.bool (lcB xs)))) rfl (.pure (.extract _ rfl rfl rfl)) rfl rfl ?_
    refine Ch.step (v := (.d (.int .i64 (lcN xs)))) rfl (.pure (.assign _ rfl rfl)) rfl rfl ?_
    refine Ch.step (v := (.d (.bool (lcB xs)))) rfl (.pure (.assign _ rfl rfl)) rfl rfl ?_
    refine Ch.nil ?_
    refine T_seq ?_
    refine T_region hc ?_
    refine Ch.step (v := (.d (.slice false 1 (xs.map D.str)))) rfl (.pure (.move _ rfl rfl)) rfl rfl ?_
    refine Ch.step (v := (.row 21000)) rfl (.call 21000 23 _ _ _ en23 rfl (.inl rfl) (.cons (.d _) .nil) rfl (sol (solid_row (fun _ => rfl) _) rfl) (sp_laws_toStringS xs (by first | omega | assumption | (exact hx _ (getD_mem (by omega))) | (exact hx _ (by assumption)) | (simp_all; done))) (.skip _ _ .nil) rfl) rfl rfl ?_
    refine Ch.step (v := (.row 21000)) rfl (.pure (.assign _ rfl rfl)) rfl rfl ?_
    refine Ch.nil ?_
    refine T_seq ?_
    refine T_region hc ?_
    refine Ch.step (v := (.row 21000)) rfl (.pure (.move _ rfl rfl)) rfl rfl ?_
    refine Ch.step (v := (.tup [(.d (.int .i64 (lcN xs))), (.d (.bool (lcB xs)))])) rfl (.call 24000 32 _ _ _ en32 rfl (.inl rfl) (.cons (.lend (.row rfl (frozs_map (fun _ => rfl) _))) .nil) rfl rfl (sp_impl_LiteralCount xs (by first | omega | assumption | (exact hx _ (getD_mem (by omega))) | (exact hx _ (by assumption)) | (simp_all; done))) (.skip _ _ .nil) rfl) rfl rfl ?_
    refine Ch.step (v := (.tup [(.d (.int .i64 (lcN xs))), (.d (.bool (lcB xs)))])) rfl (.pure (.move _ rfl rfl)) rfl rfl ?_
    refine Ch.step (v := (.d (.int .i64 (lcN xs)))) rfl (.pure (.extract _ rfl rfl rfl)) rfl rfl ?_
    refine Ch.step (v := (.d (.bool (lcB xs)))) rfl (.pure (.extract _ rfl rfl rfl)) rfl rfl ?_
    refine Ch.step (v := (.d (.int .i64 (lcN xs)))) rfl (.pure (.assign _ rfl rfl)) rfl rfl ?_
    refine Ch.step (v := (.d (.bool (lcB xs)))) rfl (.pure (.assign _ rfl rfl)) rfl rfl ?_
    refine Ch.nil ?_
    refine T_seq ?_
    refine T_seq ?_
    refine T_region hc ?_
    refine Ch.step (v := (.d (.int .i64 (lcN xs)))) rfl (.pure (.move _ rfl rfl)) rfl rfl ?_
    refine Ch.step (v := (.d (.int .i64 (lcN xs)))) rfl (.pure (.move _ rfl rfl)) rfl rfl ?_
    refine Ch.step (v := (.d (.bool (!(decide ((lcN xs) = (lcN xs))))))) rfl (.pure (.int _ _ _ _ _ rfl rfl rfl rfl)) rfl rfl ?_
    refine Ch.step (v := (.d (.bool (!(decide ((lcN xs) = (lcN xs))))))) rfl (.pure (.move _ rfl rfl)) rfl rfl ?_
    cases h2 : (decide ((lcN xs) = (lcN xs))) with
    | true =>
      replace h2 := of_decide_eq_true h2
      refine Ch.step (v := (.d (.bool (lcB xs)))) rfl (.pure (.move _ rfl rfl)) rfl rfl ?_
      refine Ch.step (v := (.d (.bool (lcB xs)))) rfl (.pure (.move _ rfl rfl)) rfl rfl ?_
      refine Ch.step (v := (.d (.bool (!(decide ((lcB xs) = (lcB xs))))))) rfl (.pure (.neB _ _ _ _ rfl Try.underlying4 rfl rfl)) rfl rfl ?_
      refine Ch.step (v := (.d (.bool (!(decide ((lcB xs) = (lcB xs))))))) rfl (.pure (.pickF _ _ _ rfl rfl rfl)) rfl rfl ?_
      refine Ch.nil ?_
      refine T_cond (b := (!(decide ((lcB xs) = (lcB xs))))) rfl (fun h3 => ?_) (fun h3 => ?_)
      · replace h3 := nott h3
        replace h3 := of_decide_eq_false h3
        refine T_seq ?_
        refine T_region hc ?_
        refine Ch.step (v := (.d (.bool false))) rfl (.pure (.assign _ rfl rfl)) rfl rfl ?_
        refine Ch.nil ?_
        refine T_ret ?_
        refine And.intro (.inr rfl) ?_
        exact Exists.intro [(.d (.bool false))] (Exists.intro [] (Exists.intro [] (And.intro (.cons (.tmp 2 rfl) .nil) (And.intro (.cons (.any _) .nil) (And.intro (Exp.of (congrArg D.bool (by first | rfl | (simp_all; done))) (.d _)) (And.intro rfl rfl))))))
      · replace h3 := notf h3
        replace h3 := of_decide_eq_true h3
        refine T_skip ?_
        refine T_seq ?_
        refine T_seq ?_
        refine T_region hc ?_
        refine Ch.step (v := (.row 21000)) rfl (.pure (.move _ rfl rfl)) rfl rfl ?_
        refine Ch.step (v := (.d (.slice false 1 (xs.map D.str)))) rfl (.pure (.move _ rfl rfl)) rfl rfl ?_
        refine Ch.step (v := (.row 37000)) rfl (.call 37000 23 _ _ _ en23 rfl (.inl rfl) (.cons (.d _) .nil) rfl (sol (solid_row (fun _ => rfl) _) rfl) (sp_laws_toStringS xs (by first | omega | assumption | (exact hx _ (getD_mem (by omega))) | (exact hx _ (by assumption)) | (simp_all; done))) (.skip _ _ .nil) rfl) rfl rfl ?_
        refine Ch.step (v := (.d (.bool (decide (xs = xs))))) rfl (.call 38000 25 _ _ _ en25 rfl (.inl rfl) (.cons (.lend (.row rfl (frozs_map (fun _ => rfl) _))) (.cons (.lend (.row rfl (frozs_map (fun _ => rfl) _))) .nil)) rfl rfl (sp_laws_eqStringS xs xs (by first | omega | assumption | (exact hx _ (getD_mem (by omega))) | (exact hx _ (by assumption)) | (simp_all; done))) (.skip _ _ (.skip _ _ .nil)) rfl) rfl rfl ?_
        refine Ch.step (v := (.d (.bool (!(decide (xs = xs)))))) rfl (.pure (.not _ _ rfl rfl)) rfl rfl ?_
        refine Ch.nil ?_
        refine T_cond (b := (!(decide (xs = xs)))) rfl (fun h4 => ?_) (fun h4 => ?_)
        · replace h4 := nott h4
          replace h4 := of_decide_eq_false h4
          refine T_seq ?_
          refine T_region hc ?_
          refine Ch.step (v := (.d (.bool false))) rfl (.pure (.assign _ rfl rfl)) rfl rfl ?_
          refine Ch.nil ?_
          refine T_ret ?_
          refine And.intro (.inr rfl) ?_
          exact Exists.intro [(.d (.bool false))] (Exists.intro [] (Exists.intro [] (And.intro (.cons (.tmp 2 rfl) .nil) (And.intro (.cons (.any _) .nil) (And.intro (Exp.of (congrArg D.bool (by first | rfl | (simp_all; done))) (.d _)) (And.intro rfl rfl))))))
        · replace h4 := notf h4
          replace h4 := of_decide_eq_true h4
          refine T_skip ?_
          refine T_seq ?_
          refine T_region hc ?_
          refine Ch.step (v := (.d (.bool true))) rfl (.pure (.assign _ rfl rfl)) rfl rfl ?_
          refine Ch.nil ?_
          refine T_ret ?_
          refine And.intro (.inr rfl) ?_
          exact Exists.intro [(.d (.bool true))] (Exists.intro [] (Exists.intro [] (And.intro (.cons (.tmp 2 rfl) .nil) (And.intro (.cons (.any _) .nil) (And.intro (.d _) (And.intro rfl rfl))))))
    | false =>
      replace h2 := of_decide_eq_false h2
      refine Ch.skip rfl rfl ?_
      refine Ch.skip rfl rfl ?_
      refine Ch.skip rfl rfl ?_
      refine Ch.step (v := (.d (.bool true))) rfl (.pure (.pickT _ _ _ rfl rfl rfl)) rfl rfl ?_
      refine Ch.nil ?_
      refine T_cond (b := true) rfl (fun _ => ?_) (fun h => nomatch h)
      refine T_seq ?_
      refine T_region hc ?_
      refine Ch.step (v := (.d (.bool false))) rfl (.pure (.assign _ rfl rfl)) rfl rfl ?_
      refine Ch.nil ?_
      refine T_ret ?_
      refine And.intro (.inr rfl) ?_
      exact Exists.intro [(.d (.bool false))] (Exists.intro [] (Exists.intro [] (And.intro (.cons (.tmp 2 rfl) .nil) (And.intro (.cons (.any _) .nil) (And.intro (Exp.of (congrArg D.bool (by first | rfl | (simp_all; done))) (.d _)) (And.intro rfl rfl))))))

end Go.AM
