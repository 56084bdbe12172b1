/-
  Contracts: Supercube.
-/
import Derived.Test.YtejplmkhicdfcaaCg
namespace Go.AM
open Go.Proofs
set_option linter.unusedVariables false
set_option linter.unusedSimpArgs false

theorem sz5 : SizeIs Try.prog 5 1 := by unfold SizeIs; kernel_rfl
theorem ag5 : AggIs Try.prog 5 false := by unfold AggIs; kernel_rfl
theorem en83 : Enters Try.prog 83 := ⟨_, Try.func83, by kernel_rfl, rfl⟩
theorem en84 : Enters Try.prog 84 := ⟨_, Try.func84, by kernel_rfl, rfl⟩
theorem en85 : Enters Try.prog 85 := ⟨_, Try.func85, by kernel_rfl, rfl⟩
theorem en50 : Enters Try.prog 50 := ⟨_, Try.func50, by kernel_rfl, rfl⟩
theorem en51 : Enters Try.prog 51 := ⟨_, Try.func51, by kernel_rfl, rfl⟩

def agreeAt (xs : List (List UInt8)) (i j : Nat) : Bool := (xs.getD j default).getD i 0 == (xs.getD 0 default).getD i 0
def supAt (xs : List (List UInt8)) (k i : Nat) : UInt8 := if allB k (agreeAt xs i) then (xs.getD 0 default).getD i 0 else 45
def supS (xs : List (List UInt8)) (m : Nat) : List UInt8 := tab m fun i => supAt xs xs.length i
theorem allB_succ (k : Nat) (p : Nat → Bool) : allB (k + 1) p = (allB k p && p k) := by simp [allB, List.range_succ]
theorem supAt_zero (xs : List (List UInt8)) (i : Nat) : supAt xs 0 i = (xs.getD 0 default).getD i 0 := rfl
theorem supAt_same {xs : List (List UInt8)} {k i : Nat} (h : supAt xs k i = (xs.getD k default).getD i 0) : supAt xs (k + 1) i = supAt xs k i := by
  unfold supAt at *
  rw [allB_succ]
  cases hk : allB k (agreeAt xs i) with
  | true =>
    rw [hk] at h
    have : agreeAt xs i k = true := by unfold agreeAt; rw [← h]; simp
    rw [this]; rfl
  | false => rfl
theorem supAt_diff {xs : List (List UInt8)} {k i : Nat} (h : ¬ supAt xs k i = (xs.getD k default).getD i 0) : supAt xs (k + 1) i = 45 := by
  unfold supAt at *
  rw [allB_succ]
  cases hk : allB k (agreeAt xs i) with
  | true =>
    rw [hk] at h
    have : agreeAt xs i k = false := by unfold agreeAt; simp only [beq_eq_false_iff_ne]; exact fun e => h e.symm
    rw [this]; rfl
  | false => rfl
def supMid (xs : List (List UInt8)) (k m : Nat) : List UInt8 := tab (xs.getD 0 default).length fun i => supAt xs (if i < m then k + 1 else k) i
theorem supMid_length (xs : List (List UInt8)) (k m : Nat) : (supMid xs k m).length = (xs.getD 0 default).length := by simp [supMid]
theorem supMid_get {xs : List (List UInt8)} {k m : Nat} (h : m < (xs.getD 0 default).length) : (supMid xs k m).getD m default = supAt xs k m := by
  rw [supMid, tab_getD _ _ _ _ h, if_neg (by omega)]
theorem supMid_step {xs : List (List UInt8)} {k m : Nat} (h : supAt xs k m = (xs.getD k default).getD m 0) : supMid xs k m = supMid xs k (m + 1) := by
  unfold supMid
  apply tab_congr
  intro j _
  by_cases e : j = m
  · subst e; rw [if_neg (by omega), if_pos (by omega), supAt_same h]
  · by_cases e2 : j < m
    · rw [if_pos e2, if_pos (by omega)]
    · rw [if_neg e2, if_neg (by omega)]
theorem supMid_set {xs : List (List UInt8)} {k m : Nat} (hm : m < (xs.getD 0 default).length) (h : ¬ supAt xs k m = (xs.getD k default).getD m 0) : (supMid xs k m).set m 45 = supMid xs k (m + 1) := by
  apply List.ext_getElem
  · simp [supMid]
  · intro j h1 h2
    simp [supMid] at h2
    rw [List.getElem_set]
    split
    · rename_i e; subst e
      have : (supMid xs k (m + 1))[m] = supAt xs (k + 1) m := by simp [supMid, tab]
      rw [this, supAt_diff h]
    · rename_i e
      by_cases e2 : j < m
      · simp [supMid, tab, e2, show j < m + 1 by omega]
      · simp [supMid, tab, e2, show ¬ j < m + 1 by omega]
theorem supMid_first (xs : List (List UInt8)) : supMid xs 0 0 = xs.getD 0 default := by
  rw [supMid, tab_eq 0 rfl]; intro j _; rw [if_neg (by omega), supAt_zero]
theorem supMid_next {xs : List (List UInt8)} {k m : Nat} (h : (xs.getD 0 default).length ≤ m) : supMid xs k m = supMid xs (k + 1) 0 := by
  unfold supMid
  apply tab_congr
  intro j hj
  rw [if_pos (by omega), if_neg (by omega)]
theorem supS_length (xs : List (List UInt8)) (k : Nat) : (supS xs k).length = k := by simp [supS]
theorem supMid_last (xs : List (List UInt8)) : supMid xs xs.length 0 = supS xs (xs.getD 0 default).length := by
  unfold supMid supS
  apply tab_congr
  intro j _
  rw [if_neg (by omega)]

theorem sp_spec_l13Of (xs : List (List UInt8)) (hn : xs.length ≤ 1048576) (h0 : 0 < xs.length) (hx : ∀ x ∈ xs, x.length = (xs.getD 0 default).length) (hz : (xs.getD 0 default).length ≤ 1048576) : Sp Try.prog 83 [(.slice false 1 (xs.map D.str))] [.any] (.str (supS xs (xs.getD 0 default).length)) := by
  refine Sp_intro (lend := true) Try.func83 rfl rfl rfl (fun _ => rfl) (fun c hc hX => ?_)
  refine T_seq ?_
  refine T_region hc ?_
  refine Ch.step (v := (.d (.str []))) rfl (.pure (.assign _ rfl rfl)) rfl rfl ?_
  refine Ch.nil ?_
  refine T_seq ?_
  refine T_region hc ?_
  refine Ch.step (v := (.d (.str []))) rfl (.pure (.assign _ rfl rfl)) rfl rfl ?_
  refine Ch.nil ?_
  refine T_seq ?_
  refine T_seq ?_
  refine T_region hc ?_
  refine Ch.step (v := (.d (.int .i64 0))) rfl (.pure (.assign _ rfl rfl)) rfl rfl ?_
  refine Ch.nil ?_
  refine T_block ?_
  refine T_loop (ι := Nat) (fun k => { n := 41, sl := [(0, (.d (.slice false 1 (xs.map D.str)))), (3, (.d (.str (supS xs k)))), (4, (.d (.int .i64 ((k : Nat) : Int))))], hp := [], pin := [] }) (fun k => k ≤ (xs.getD 0 default).length) (fun k => (xs.getD 0 default).length - k) ⟨0, (by omega), (Wk.of rfl rfl (And.intro rfl (And.intro (vS (by first | rfl | (rw [supS, supS, tab_succ]; congr 2; rw [show xs.length = m by omega]; done))) (And.intro (vI (by first | rfl | omega | (simp; done) | (simp; omega))) trivial))) trivial)⟩ (fun k hp0 => ?_)
  have hq := supS_length xs k
  refine T_seq ?_
  refine T_seq ?_
  refine T_region hc ?_
  refine Ch.step (v := (.d (.int .i64 ((k : Nat) : Int)))) rfl (.pure (.move _ rfl rfl)) rfl rfl ?_
  refine Ch.step (v := (.d (.slice false 1 (xs.map D.str)))) rfl (.pure (.move _ rfl rfl)) rfl rfl ?_
  refine Ch.step (v := (.d (.ref (.str (xs.getD 0 default))))) rfl (.pure (.idx _ _ _ 9 (0) rfl Try.underlying27 sz9 rfl rfl rfl (get_map _ (by first | omega | (simp only [List.length_map, List.length_append, List.length_take, List.length_drop, List.length_cons, List.length_nil]; omega) | (simp; omega) | (simp; done))))) rfl rfl ?_
  refine Ch.step (v := (.d (.str (xs.getD 0 default)))) rfl (.pure (.loadRef1 _ _ rfl ag9 rfl rfl)) rfl rfl ?_
  refine Ch.step (v := (.d (.int .i64 (((xs.getD 0 default).length : Nat) : Int)))) rfl (.pure (.lenStr _ _ rfl Try.underlying9 rfl)) rfl rfl ?_
  refine Ch.step (v := (.d (.bool (decide (((k : Nat) : Int) < (((xs.getD 0 default).length : Nat) : Int)))))) rfl (.pure (.int _ _ _ _ _ rfl rfl rfl rfl)) rfl rfl ?_
  refine Ch.nil ?_
  refine T_cond (b := (decide (((k : Nat) : Int) < (((xs.getD 0 default).length : Nat) : Int)))) rfl (fun h1 => ?_) (fun h1 => ?_)
  · replace h1 := of_decide_eq_true h1
    refine T_skip ?_
    refine T_seq ?_
    refine T_block ?_
    refine T_seq ?_
    refine T_region hc ?_
    refine Ch.step (v := (.d (.slice false 1 (xs.map D.str)))) rfl (.pure (.move _ rfl rfl)) rfl rfl ?_
    refine Ch.step (v := (.d (.ref (.str (xs.getD 0 default))))) rfl (.pure (.idx _ _ _ 9 (0) rfl Try.underlying27 sz9 rfl rfl rfl (get_map _ (by first | omega | (simp only [List.length_map, List.length_append, List.length_take, List.length_drop, List.length_cons, List.length_nil]; omega) | (simp; omega) | (simp; done))))) rfl rfl ?_
    refine Ch.step (v := (.d (.str (xs.getD 0 default)))) rfl (.pure (.loadRef1 _ _ rfl ag9 rfl rfl)) rfl rfl ?_
    refine Ch.step (v := (.d (.int .i64 ((k : Nat) : Int)))) rfl (.pure (.move _ rfl rfl)) rfl rfl ?_
    refine Ch.step (v := (.d (.int .i64 ((k : Nat) : Int)))) rfl (.pure (.move _ rfl rfl)) rfl rfl ?_
    refine Ch.step (v := (.d (.int .i64 (((k : Nat) : Int) + 1)))) rfl (.pure (.int _ _ _ _ _ rfl rfl rfl (intV_add (by first | omega | (simp only [List.length_map, List.length_append, List.length_take, List.length_drop, List.length_cons, List.length_nil]; omega) | (simp; omega) | (simp; done)) (by first | omega | (simp only [List.length_map, List.length_append, List.length_take, List.length_drop, List.length_cons, List.length_nil]; omega) | (simp; omega) | (simp; done))))) rfl rfl ?_
    refine Ch.step (v := (.d (.str [(xs.getD 0 default).getD k 0]))) rfl (.pure (.sliceStr _ _ _ _ (k) ((k + 1)) rfl Try.underlying9 rfl (bndS rfl rfl) (bndS rfl (by omega)) (by first | omega | (simp only [List.length_map, List.length_append, List.length_take, List.length_drop, List.length_cons, List.length_nil]; omega) | (simp; omega) | (simp; done)) (by first | omega | (simp only [List.length_map, List.length_append, List.length_take, List.length_drop, List.length_cons, List.length_nil]; omega) | (simp; omega) | (simp; done)) (slice_one (by first | omega | (simp only [List.length_map, List.length_append, List.length_take, List.length_drop, List.length_cons, List.length_nil]; omega) | (simp; omega) | (simp; done))))) rfl rfl ?_
    refine Ch.step (v := (.d (.str [(xs.getD 0 default).getD k 0]))) rfl (.pure (.assign _ rfl rfl)) rfl rfl ?_
    refine Ch.nil ?_
    refine T_seq ?_
    refine T_seq ?_
    refine T_region hc ?_
    refine Ch.step (v := (.d (.slice false 1 (xs.map D.str)))) rfl (.pure (.move _ rfl rfl)) rfl rfl ?_
    refine Ch.step (v := (.d (.int .i64 ((xs.length : Nat) : Int)))) rfl (.pure (.len _ _ 9 rfl Try.underlying27 (.sh _ _) (by simp))) rfl rfl ?_
    refine Ch.step (v := (.d (.int .i64 0))) rfl (.pure (.move _ rfl rfl)) rfl rfl ?_
    refine Ch.nil ?_
    refine T_block ?_
    refine T_loop (ι := Nat) (fun m => { n := 41, sl := [(0, (.d (.slice false 1 (xs.map D.str)))), (3, (.d (.str (supS xs k)))), (4, (.d (.int .i64 ((k : Nat) : Int)))), (5, (.d (.str ([supAt xs m k])))), (23, (.d (.slice false 1 (xs.map D.str)))), (24, (.d (.int .i64 ((xs.length : Nat) : Int)))), (25, (.d (.int .i64 ((m : Nat) : Int))))], hp := [], pin := [] }) (fun m => m ≤ xs.length) (fun m => xs.length - m) ⟨0, (by omega), (Wk.of rfl rfl (And.intro rfl (And.intro rfl (And.intro rfl (And.intro (vS (by first | rfl | (rw [supAt_same (by simp_all)]; done) | (rw [supAt_diff (by intro e; apply h3; rw [e])]; done))) (And.intro rfl (And.intro rfl (And.intro (vI (by first | rfl | omega | (simp; done) | (simp; omega))) trivial))))))) trivial)⟩ (fun m hp1 => ?_)
    refine T_seq ?_
    refine T_region hc ?_
    refine Ch.step (v := (.d (.bool (decide (((m : Nat) : Int) < ((xs.length : Nat) : Int)))))) rfl (.pure (.int _ _ _ _ _ rfl rfl rfl rfl)) rfl rfl ?_
    refine Ch.nil ?_
    refine T_seq ?_
    refine T_cond (b := (decide (((m : Nat) : Int) < ((xs.length : Nat) : Int)))) rfl (fun h2 => ?_) (fun h2 => ?_)
    · replace h2 := of_decide_eq_true h2
      try have hk := hx _ (getD_mem (l := xs) (j := m) (d := default) (by omega))
      refine T_skip ?_
      refine T_seq ?_
      refine T_block ?_
      refine T_seq ?_
      refine T_region hc ?_
      refine Ch.step (v := (.d (.ref (.str (xs.getD m default))))) rfl (.pure (.idx _ _ _ 9 (m) rfl Try.underlying27 sz9 rfl rfl rfl (get_map _ (by first | omega | (simp only [List.length_map, List.length_append, List.length_take, List.length_drop, List.length_cons, List.length_nil]; omega) | (simp; omega) | (simp; done))))) rfl rfl ?_
      refine Ch.step (v := (.d (.str (xs.getD m default)))) rfl (.pure (.loadRef1 _ _ rfl ag9 rfl rfl)) rfl rfl ?_
      refine Ch.step (v := (.d (.str (xs.getD m default)))) rfl (.pure (.assign _ rfl rfl)) rfl rfl ?_
      refine Ch.nil ?_
      refine T_seq ?_
      refine T_region hc ?_
      refine Ch.step (v := (.d (.str (xs.getD m default)))) rfl (.pure (.move _ rfl rfl)) rfl rfl ?_
      refine Ch.step (v := (.d (.int .i64 ((k : Nat) : Int)))) rfl (.pure (.move _ rfl rfl)) rfl rfl ?_
      refine Ch.step (v := (.d (.int .i64 ((k : Nat) : Int)))) rfl (.pure (.move _ rfl rfl)) rfl rfl ?_
      refine Ch.step (v := (.d (.int .i64 (((k : Nat) : Int) + 1)))) rfl (.pure (.int _ _ _ _ _ rfl rfl rfl (intV_add (by first | omega | (simp only [List.length_map, List.length_append, List.length_take, List.length_drop, List.length_cons, List.length_nil]; omega) | (simp; omega) | (simp; done)) (by first | omega | (simp only [List.length_map, List.length_append, List.length_take, List.length_drop, List.length_cons, List.length_nil]; omega) | (simp; omega) | (simp; done))))) rfl rfl ?_
      refine Ch.step (v := (.d (.str [(xs.getD m default).getD k 0]))) rfl (.pure (.sliceStr _ _ _ _ (k) ((k + 1)) rfl Try.underlying9 rfl (bndS rfl rfl) (bndS rfl (by omega)) (by first | omega | (simp only [List.length_map, List.length_append, List.length_take, List.length_drop, List.length_cons, List.length_nil]; omega) | (simp; omega) | (simp; done)) (by first | omega | (simp only [List.length_map, List.length_append, List.length_take, List.length_drop, List.length_cons, List.length_nil]; omega) | (simp; omega) | (simp; done)) (slice_one (by first | omega | (simp only [List.length_map, List.length_append, List.length_take, List.length_drop, List.length_cons, List.length_nil]; omega) | (simp; omega) | (simp; done))))) rfl rfl ?_
      refine Ch.step (v := (.d (.str ([supAt xs m k])))) rfl (.pure (.move _ rfl rfl)) rfl rfl ?_
      refine Ch.step (v := (.d (.bool (!(decide ([(xs.getD m default).getD k 0] = ([supAt xs m k]))))))) rfl (.pure (.str _ _ _ _ _ rfl rfl rfl rfl)) rfl rfl ?_
      refine Ch.nil ?_
      refine T_cond (b := (!(decide ([(xs.getD m default).getD k 0] = ([supAt xs m k]))))) rfl (fun h3 => ?_) (fun h3 => ?_)
      · replace h3 := nott h3
        replace h3 := of_decide_eq_false h3
        refine T_region hc ?_
        refine Ch.step (v := (.d (.str [45]))) rfl (.pure (.assign _ rfl rfl)) rfl rfl ?_
        refine Ch.nil ?_
        refine T_region hc ?_
        refine Ch.step (v := (.d (.int .i64 (((m : Nat) : Int) + 1)))) rfl (.pure (.int _ _ _ _ _ rfl rfl rfl (intV_add (by first | omega | (simp only [List.length_map, List.length_append, List.length_take, List.length_drop, List.length_cons, List.length_nil]; omega) | (simp; omega) | (simp; done)) (by first | omega | (simp only [List.length_map, List.length_append, List.length_take, List.length_drop, List.length_cons, List.length_nil]; omega) | (simp; omega) | (simp; done))))) rfl rfl ?_
        refine Ch.step (v := (.d (.int .i64 (((m : Nat) : Int) + 1)))) rfl (.pure (.move _ rfl rfl)) rfl rfl ?_
        refine Ch.nil ?_
        refine Exists.intro (m + 1) (And.intro (by omega) (And.intro (by first | omega | (dsimp only; omega)) (Wk.of rfl rfl (And.intro rfl (And.intro rfl (And.intro rfl (And.intro (vS (by first | rfl | (rw [supAt_same (by simp_all)]; done) | (rw [supAt_diff (by intro e; apply h3; rw [e])]; done))) (And.intro rfl (And.intro rfl (And.intro (vI (by first | rfl | omega | (simp; done) | (simp; omega))) trivial))))))) trivial)))
      · replace h3 := notf h3
        replace h3 := of_decide_eq_true h3
        refine T_skip ?_
        refine T_region hc ?_
        refine Ch.step (v := (.d (.int .i64 (((m : Nat) : Int) + 1)))) rfl (.pure (.int _ _ _ _ _ rfl rfl rfl (intV_add (by first | omega | (simp only [List.length_map, List.length_append, List.length_take, List.length_drop, List.length_cons, List.length_nil]; omega) | (simp; omega) | (simp; done)) (by first | omega | (simp only [List.length_map, List.length_append, List.length_take, List.length_drop, List.length_cons, List.length_nil]; omega) | (simp; omega) | (simp; done))))) rfl rfl ?_
        refine Ch.step (v := (.d (.int .i64 (((m : Nat) : Int) + 1)))) rfl (.pure (.move _ rfl rfl)) rfl rfl ?_
        refine Ch.nil ?_
        refine Exists.intro (m + 1) (And.intro (by omega) (And.intro (by first | omega | (dsimp only; omega)) (Wk.of rfl rfl (And.intro rfl (And.intro rfl (And.intro rfl (And.intro (vS (by first | rfl | (rw [supAt_same (by simp_all)]; done) | (rw [supAt_diff (by intro e; apply h3; rw [e])]; done))) (And.intro rfl (And.intro rfl (And.intro (vI (by first | rfl | omega | (simp; done) | (simp; omega))) trivial))))))) trivial)))
    · replace h2 := of_decide_eq_false h2
      try have hk := hx _ (getD_mem (l := xs) (j := m) (d := default) (by omega))
      refine T_exit ?_
      refine T_region hc ?_
      refine Ch.step (v := (.d (.str (supS xs k)))) rfl (.pure (.move _ rfl rfl)) rfl rfl ?_
      refine Ch.step (v := (.d (.str ([supAt xs m k])))) rfl (.pure (.move _ rfl rfl)) rfl rfl ?_
      refine Ch.step (v := (.d (.str ((supS xs k) ++ ([supAt xs m k]))))) rfl (.pure (.str _ _ _ _ _ rfl rfl rfl (strV_add (by first | omega | (simp only [List.length_map, List.length_append, List.length_take, List.length_drop, List.length_cons, List.length_nil]; omega) | (simp; omega) | (simp; done))))) rfl rfl ?_
      refine Ch.step (v := (.d (.str ((supS xs k) ++ ([supAt xs m k]))))) rfl (.pure (.assign _ rfl rfl)) rfl rfl ?_
      refine Ch.nil ?_
      refine T_region hc ?_
      refine Ch.step (v := (.d (.int .i64 ((k : Nat) : Int)))) rfl (.pure (.move _ rfl rfl)) rfl rfl ?_
      refine Ch.step (v := (.d (.int .i64 (((k : Nat) : Int) + 1)))) rfl (.pure (.int _ _ _ _ _ rfl rfl rfl (intV_add (by first | omega | (simp only [List.length_map, List.length_append, List.length_take, List.length_drop, List.length_cons, List.length_nil]; omega) | (simp; omega) | (simp; done)) (by first | omega | (simp only [List.length_map, List.length_append, List.length_take, List.length_drop, List.length_cons, List.length_nil]; omega) | (simp; omega) | (simp; done))))) rfl rfl ?_
      refine Ch.step (v := (.d (.int .i64 (((k : Nat) : Int) + 1)))) rfl (.pure (.assign _ rfl rfl)) rfl rfl ?_
      refine Ch.nil ?_
      refine Exists.intro (k + 1) (And.intro (by omega) (And.intro (by first | omega | (dsimp only; omega)) (Wk.of rfl rfl (And.intro rfl (And.intro (vS (by first | rfl | (rw [supS, supS, tab_succ]; congr 2; rw [show xs.length = m by omega]; done))) (And.intro (vI (by first | rfl | omega | (simp; done) | (simp; omega))) trivial))) trivial)))
  · replace h1 := of_decide_eq_false h1
    refine T_exit ?_
    refine T_seq ?_
    refine T_region hc ?_
    refine Ch.step (v := (.d (.str (supS xs k)))) rfl (.pure (.move _ rfl rfl)) rfl rfl ?_
    refine Ch.step (v := (.d (.str (supS xs k)))) rfl (.pure (.assign _ rfl rfl)) rfl rfl ?_
    refine Ch.nil ?_
    refine T_ret ?_
    refine And.intro (.inr rfl) ?_
    exact Exists.intro [(.d (.str (supS xs k)))] (Exists.intro [] (Exists.intro [] (And.intro (.cons (.tmp 2 rfl) .nil) (And.intro (.cons (.any _) .nil) (And.intro (Exp.of (congrArg D.str (by rw [show (xs.getD 0 default).length = k by omega])) (.d _)) (And.intro rfl rfl))))))

theorem sp_impl_supercube (xs : List (List UInt8)) (hn : xs.length ≤ 1048576) (h0 : 0 < xs.length) (hx : ∀ x ∈ xs, x.length = (xs.getD 0 default).length) (hz : (xs.getD 0 default).length ≤ 1048576) : Sp Try.prog 85 [(.slice false 1 (xs.map D.str))] [.any] (.str (supS xs (xs.getD 0 default).length)) := by
  refine Sp_intro (lend := true) Try.func85 rfl rfl rfl (fun _ => rfl) (fun c hc hX => ?_)
  refine T_seq ?_
  refine T_region hc ?_
  refine Ch.step (v := (.d (.str []))) rfl (.pure (.assign _ rfl rfl)) rfl rfl ?_
  refine Ch.nil ?_
  refine T_seq ?_
  refine T_region hc ?_
  refine Ch.step (v := (.d (.slice false 1 (xs.map D.str)))) rfl (.pure (.move _ rfl rfl)) rfl rfl ?_
  refine Ch.step (v := (.d (.ref (.str (xs.getD 0 default))))) rfl (.pure (.idx _ _ _ 9 (0) rfl Try.underlying27 sz9 rfl rfl rfl (get_map _ (by first | omega | (simp only [List.length_map, List.length_append, List.length_take, List.length_drop, List.length_cons, List.length_nil]; omega) | (simp; omega) | (simp; done))))) rfl rfl ?_
  refine Ch.step (v := (.d (.str (xs.getD 0 default)))) rfl (.pure (.loadRef1 _ _ rfl ag9 rfl rfl)) rfl rfl ?_
  refine Ch.step (v := (.row 10000)) rfl (.bytes 10000 _ _ _ _ rfl Try.underlying9 Try.underlying70 Try.underlying5 rfl) rfl rfl ?_
  refine Ch.step (v := (.row 10000)) rfl (.pure (.assign _ rfl rfl)) rfl rfl ?_
  refine Ch.nil ?_
  refine T_seq ?_
  refine T_seq ?_
  refine T_region hc ?_
  refine Ch.step (v := (.d (.slice false 1 (xs.map D.str)))) rfl (.pure (.move _ rfl rfl)) rfl rfl ?_
  refine Ch.step (v := (.d (.int .i64 ((xs.length : Nat) : Int)))) rfl (.pure (.len _ _ 9 rfl Try.underlying27 (.sh _ _) (by simp))) rfl rfl ?_
  refine Ch.step (v := (.d (.int .i64 0))) rfl (.pure (.move _ rfl rfl)) rfl rfl ?_
  refine Ch.nil ?_
  refine T_block ?_
  refine T_loop (ι := Nat) (fun k => { n := 37, sl := [(3, (.row 3)), (11, (.d (.slice false 1 (xs.map D.str)))), (12, (.d (.int .i64 ((xs.length : Nat) : Int)))), (13, (.d (.int .i64 ((k : Nat) : Int))))], hp := [(3, (some (.row 1 ((supMid xs k 0).map byteD))))], pin := [] }) (fun k => k ≤ xs.length) (fun k => xs.length - k) ⟨0, (by omega), (Wk.ren [(3, 10000)] rfl rfl rfl rfl (And.intro rfl (And.intro rfl (And.intro rfl (And.intro (vI (by first | rfl | omega | (simp; done) | (simp; omega))) trivial)))) (And.intro (oR (by first | (rw [supMid_first]; done) | (rw [supMid_next (by omega)]; done))) trivial))⟩ (fun k hp0 => ?_)
  have hq0 := supMid_length xs k 0
  refine T_seq ?_
  refine T_region hc ?_
  refine Ch.step (v := (.d (.bool (decide (((k : Nat) : Int) < ((xs.length : Nat) : Int)))))) rfl (.pure (.int _ _ _ _ _ rfl rfl rfl rfl)) rfl rfl ?_
  refine Ch.nil ?_
  refine T_seq ?_
  refine T_cond (b := (decide (((k : Nat) : Int) < ((xs.length : Nat) : Int)))) rfl (fun h1 => ?_) (fun h1 => ?_)
  · replace h1 := of_decide_eq_true h1
    refine T_skip ?_
    refine T_seq ?_
    refine T_block ?_
    refine T_seq ?_
    refine T_region hc ?_
    refine Ch.step (v := (.d (.ref (.str (xs.getD k default))))) rfl (.pure (.idx _ _ _ 9 (k) rfl Try.underlying27 sz9 rfl rfl rfl (get_map _ (by first | omega | (simp only [List.length_map, List.length_append, List.length_take, List.length_drop, List.length_cons, List.length_nil]; omega) | (simp; omega) | (simp; done))))) rfl rfl ?_
    refine Ch.step (v := (.d (.str (xs.getD k default)))) rfl (.pure (.loadRef1 _ _ rfl ag9 rfl rfl)) rfl rfl ?_
    refine Ch.step (v := (.d (.str (xs.getD k default)))) rfl (.pure (.assign _ rfl rfl)) rfl rfl ?_
    refine Ch.nil ?_
    refine T_seq ?_
    refine T_region hc ?_
    refine Ch.step (v := (.row 3)) rfl (.pure (.move _ rfl rfl)) rfl rfl ?_
    refine Ch.step (v := (.d (.int .i64 (((supMid xs k 0).length : Nat) : Int)))) rfl (.pure (.len _ _ 5 rfl Try.underlying70 (.row rfl) (by simp))) rfl rfl ?_
    refine Ch.step (v := (.d (.int .i64 0))) rfl (.pure (.move _ rfl rfl)) rfl rfl ?_
    refine Ch.nil ?_
    refine T_block ?_
    refine T_loop (ι := Nat) (fun m => { n := 37, sl := [(3, (.row 3)), (5, (.d (.str (xs.getD k default)))), (11, (.d (.slice false 1 (xs.map D.str)))), (12, (.d (.int .i64 ((xs.length : Nat) : Int)))), (13, (.d (.int .i64 ((k : Nat) : Int)))), (18, (.d (.int .i64 (((supMid xs k 0).length : Nat) : Int)))), (19, (.d (.int .i64 ((m : Nat) : Int))))], hp := [(3, (some (.row 1 ((supMid xs k m).map byteD))))], pin := [] }) (fun m => m ≤ (xs.getD 0 default).length) (fun m => (xs.getD 0 default).length - m) ⟨0, (by omega), (Wk.of rfl rfl (And.intro rfl (And.intro rfl (And.intro rfl (And.intro rfl (And.intro rfl (And.intro rfl (And.intro (vI (by first | rfl | omega | (simp; done) | (simp; omega))) trivial))))))) (And.intro rfl trivial))⟩ (fun m hp1 => ?_)
    have hq := supMid_length xs k m
    refine T_seq ?_
    refine T_region hc ?_
    refine Ch.step (v := (.d (.bool (decide (((m : Nat) : Int) < (((supMid xs k 0).length : Nat) : Int)))))) rfl (.pure (.int _ _ _ _ _ rfl rfl rfl rfl)) rfl rfl ?_
    refine Ch.nil ?_
    refine T_seq ?_
    refine T_cond (b := (decide (((m : Nat) : Int) < (((supMid xs k 0).length : Nat) : Int)))) rfl (fun h2 => ?_) (fun h2 => ?_)
    · replace h2 := of_decide_eq_true h2
      try have hk := hx _ (getD_mem (l := xs) (j := k) (d := default) (by omega))
      refine T_skip ?_
      refine T_seq ?_
      refine T_block ?_
      refine T_seq ?_
      refine T_region hc ?_
      refine Ch.step (v := (.d (.int .i64 ((m : Nat) : Int)))) rfl (.pure (.move _ rfl rfl)) rfl rfl ?_
      refine Ch.step (v := (.d (.int .i64 ((m : Nat) : Int)))) rfl (.pure (.assign _ rfl rfl)) rfl rfl ?_
      refine Ch.nil ?_
      refine T_seq ?_
      refine T_regionD hc (by kernel_rfl) ?_
      refine ChD.step (v := (.row 3)) [] rfl (.pure (.move _ rfl rfl)) rfl rfl ?_
      refine ChD.step (v := (.d (.int .i64 ((m : Nat) : Int)))) [] rfl (.pure (.move _ rfl rfl)) rfl rfl ?_
      refine ChD.step (v := (.el 3 1 m 0)) [3] rfl (.pure (.idxRow _ _ _ 5 (m) rfl Try.underlying70 sz5 rfl rfl rfl rfl (by first | omega | (simp; omega)))) rfl rfl ?_
      refine ChD.step (v := (.d (.int .u8 (((supMid xs k m).getD m default).toNat : Int)))) [3] rfl (.pure (.loadEl1 _ _ rfl ag5 rfl rfl (get_map _ (by first | omega | (simp only [List.length_map, List.length_append, List.length_take, List.length_drop, List.length_cons, List.length_nil]; omega) | (simp; omega) | (simp; done))) rfl rfl rfl)) rfl rfl ?_
      refine ChD.step (v := (.d (.str (xs.getD k default)))) [] rfl (.pure (.move _ rfl rfl)) rfl rfl ?_
      refine ChD.step (v := (.d (.int .i64 ((m : Nat) : Int)))) [] rfl (.pure (.move _ rfl rfl)) rfl rfl ?_
      refine ChD.step (v := (.d (.int .u8 (((xs.getD k default).getD m 0).toNat : Int)))) [] rfl (.pure (.idxStr _ _ _ (m) rfl Try.underlying9 rfl rfl rfl (get_str (by first | omega | (simp only [List.length_map, List.length_append, List.length_take, List.length_drop, List.length_cons, List.length_nil]; omega) | (simp; omega) | (simp; done))))) rfl rfl ?_
      refine ChD.step (v := (.d (.bool (!(decide ((((supMid xs k m).getD m default) : UInt8) = ((xs.getD k default).getD m 0))))))) [] rfl (.pure (.int _ _ _ _ _ rfl rfl rfl (u8_neq (((supMid xs k m).getD m default) : UInt8) ((xs.getD k default).getD m 0) rfl rfl))) rfl rfl ?_
      refine ChD.nil (And.intro ?_ (by kernel_rfl))
      refine T_cond (b := (!(decide ((((supMid xs k m).getD m default) : UInt8) = ((xs.getD k default).getD m 0))))) rfl (fun h3 => ?_) (fun h3 => ?_)
      · replace h3 := nott h3
        replace h3 := of_decide_eq_false h3
        rw [supMid_get (by omega)] at h3
        refine T_region hc ?_
        refine Ch.step (v := (.row 3)) rfl (.pure (.move _ rfl rfl)) rfl rfl ?_
        refine Ch.step (v := (.d (.int .i64 ((m : Nat) : Int)))) rfl (.pure (.move _ rfl rfl)) rfl rfl ?_
        refine Ch.step (v := (.el 3 1 m 0)) rfl (.pure (.idxRow _ _ _ 5 (m) rfl Try.underlying70 sz5 rfl rfl rfl rfl (by first | omega | (simp; omega)))) rfl rfl ?_
        refine Ch.step (v := .junk) rfl (.storeEl (y' := (.int .u8 45)) _ _ _ rfl rfl rfl (.d _) rfl sz5 rfl (get_map _ (by first | omega | (simp only [List.length_map, List.length_append, List.length_take, List.length_drop, List.length_cons, List.length_nil]; omega) | (simp; omega) | (simp; done))) rfl rfl) rfl rfl ?_
        refine Ch.nil ?_
        refine T_region hc ?_
        refine Ch.step (v := (.d (.int .i64 (((m : Nat) : Int) + 1)))) rfl (.pure (.int _ _ _ _ _ rfl rfl rfl (intV_add (by first | omega | (simp only [List.length_map, List.length_append, List.length_take, List.length_drop, List.length_cons, List.length_nil]; omega) | (simp; omega) | (simp; done)) (by first | omega | (simp only [List.length_map, List.length_append, List.length_take, List.length_drop, List.length_cons, List.length_nil]; omega) | (simp; omega) | (simp; done))))) rfl rfl ?_
        refine Ch.step (v := (.d (.int .i64 (((m : Nat) : Int) + 1)))) rfl (.pure (.move _ rfl rfl)) rfl rfl ?_
        refine Ch.nil ?_
        refine Exists.intro (m + 1) (And.intro (by omega) (And.intro (by first | omega | (dsimp only; omega)) (Wk.of rfl rfl (And.intro rfl (And.intro rfl (And.intro rfl (And.intro rfl (And.intro rfl (And.intro rfl (And.intro (vI (by first | rfl | omega | (simp; done) | (simp; omega))) trivial))))))) (And.intro (oR (by first | rfl | (rw [← supMid_set (by omega) (by simp_all), List.map_set]; rfl) | (rw [supMid_step (by simp_all)]; done))) trivial))))
      · replace h3 := notf h3
        replace h3 := of_decide_eq_true h3
        rw [supMid_get (by omega)] at h3
        refine T_skip ?_
        refine T_region hc ?_
        refine Ch.step (v := (.d (.int .i64 (((m : Nat) : Int) + 1)))) rfl (.pure (.int _ _ _ _ _ rfl rfl rfl (intV_add (by first | omega | (simp only [List.length_map, List.length_append, List.length_take, List.length_drop, List.length_cons, List.length_nil]; omega) | (simp; omega) | (simp; done)) (by first | omega | (simp only [List.length_map, List.length_append, List.length_take, List.length_drop, List.length_cons, List.length_nil]; omega) | (simp; omega) | (simp; done))))) rfl rfl ?_
        refine Ch.step (v := (.d (.int .i64 (((m : Nat) : Int) + 1)))) rfl (.pure (.move _ rfl rfl)) rfl rfl ?_
        refine Ch.nil ?_
        refine Exists.intro (m + 1) (And.intro (by omega) (And.intro (by first | omega | (dsimp only; omega)) (Wk.of rfl rfl (And.intro rfl (And.intro rfl (And.intro rfl (And.intro rfl (And.intro rfl (And.intro rfl (And.intro (vI (by first | rfl | omega | (simp; done) | (simp; omega))) trivial))))))) (And.intro (oR (by first | rfl | (rw [← supMid_set (by omega) (by simp_all), List.map_set]; rfl) | (rw [supMid_step (by simp_all)]; done))) trivial))))
    · replace h2 := of_decide_eq_false h2
      try have hk := hx _ (getD_mem (l := xs) (j := k) (d := default) (by omega))
      refine T_exit ?_
      refine T_region hc ?_
      refine Ch.step (v := (.d (.int .i64 (((k : Nat) : Int) + 1)))) rfl (.pure (.int _ _ _ _ _ rfl rfl rfl (intV_add (by first | omega | (simp only [List.length_map, List.length_append, List.length_take, List.length_drop, List.length_cons, List.length_nil]; omega) | (simp; omega) | (simp; done)) (by first | omega | (simp only [List.length_map, List.length_append, List.length_take, List.length_drop, List.length_cons, List.length_nil]; omega) | (simp; omega) | (simp; done))))) rfl rfl ?_
      refine Ch.step (v := (.d (.int .i64 (((k : Nat) : Int) + 1)))) rfl (.pure (.move _ rfl rfl)) rfl rfl ?_
      refine Ch.nil ?_
      refine Exists.intro (k + 1) (And.intro (by omega) (And.intro (by first | omega | (dsimp only; omega)) (Wk.of rfl rfl (And.intro rfl (And.intro rfl (And.intro rfl (And.intro (vI (by first | rfl | omega | (simp; done) | (simp; omega))) trivial)))) (And.intro (oR (by first | (rw [supMid_first]; done) | (rw [supMid_next (by omega)]; done))) trivial))))
  · replace h1 := of_decide_eq_false h1
    refine T_exit ?_
    refine T_seq ?_
    refine T_region hc ?_
    refine Ch.step (v := (.row 3)) rfl (.pure (.move _ rfl rfl)) rfl rfl ?_
    refine Ch.step (v := (.d (.str (supMid xs k 0)))) rfl (.string (l := supMid xs k 0) _ _ _ _ rfl Try.underlying70 Try.underlying5 Try.underlying9 (.row rfl (noUs_map (fun _ => rfl) _))) rfl rfl ?_
    refine Ch.step (v := (.d (.str (supMid xs k 0)))) rfl (.pure (.assign _ rfl rfl)) rfl rfl ?_
    refine Ch.nil ?_
    refine T_ret ?_
    refine And.intro (.inr rfl) ?_
    exact Exists.intro [(.d (.str (supMid xs k 0)))] (Exists.intro [] (Exists.intro [] (And.intro (.cons (.tmp 2 rfl) .nil) (And.intro (.cons (.any _) .nil) (And.intro (Exp.of (congrArg D.str (by rw [← supMid_last, show xs.length = k by omega])) (.d _)) (And.intro rfl rfl))))))

def len0 (xs : List (List UInt8)) : Int := ((xs.getD 0 default).length : Int)
def supOk (xs : List (List UInt8)) : Bool := withinB xs.length 1 300 && (withinB (len0 xs) 1 8 && allOf xs (fun u => codeN u (len0 xs)))
def supR (xs : List (List UInt8)) : List UInt8 := if supOk xs then supS xs (xs.getD 0 default).length else []
theorem supOk_len {xs : List (List UInt8)} (h : allOf xs (fun u => codeN u (len0 xs)) = true) : ∀ x ∈ xs, x.length = (xs.getD 0 default).length := by
  intro x hx
  obtain ⟨j, hj, rfl⟩ := List.mem_iff_getElem.1 hx
  have h1 := allB_true.1 h j hj
  have e : xs.getD j default = xs[j] := by simp [hj]
  rw [e] at h1
  unfold codeN len0 at h1
  simp only [Bool.and_eq_true, decide_eq_true_iff] at h1
  omega
theorem sup_impl (xs : List (List UInt8)) : supOk xs = (withinB xs.length 1 300 && !(xs.any fun u => !isCodeB u (len0 xs))) := by
  unfold supOk
  rw [any_not, Bool.not_not]
  cases hw : withinB xs.length 1 300 with
  | false => rfl
  | true =>
    have h0 : 0 < xs.length := by simp [withinB] at hw; omega
    cases hv : withinB (len0 xs) 1 8 with
    | true =>
      have : (fun u => isCodeB u (len0 xs)) = fun u => codeN u (len0 xs) := by funext u; rw [code_eq, hv, Bool.and_true]
      rw [this]; rfl
    | false =>
      have : allOf xs (fun u => isCodeB u (len0 xs)) = false := allB_no 0 h0 (by show isCodeB _ _ = false; rw [code_eq, hv, Bool.and_false])
      rw [this]; rfl
theorem within_pos {n : Nat} (h : withinB n 1 300 = true) : 0 < n := by simp [withinB] at h; omega

theorem sp_spec_Supercube (xs : List (List UInt8)) (hn : xs.length ≤ 1048576) (hx : ∀ x ∈ xs, x.length ≤ 1048576) : Sp Try.prog 50 [(.slice false 1 (xs.map D.str))] [.any] (.tup [(.str (supR xs)), (.bool (supOk xs))]) := by
  refine Sp_intro (lend := true) Try.func50 rfl rfl rfl (fun _ => rfl) (fun c hc hX => ?_)
  refine T_seq ?_
  refine T_region hc ?_
  refine Ch.step (v := (.d (.str []))) rfl (.pure (.assign _ rfl rfl)) rfl rfl ?_
  refine Ch.step (v := (.d (.bool false))) rfl (.pure (.assign _ rfl rfl)) rfl rfl ?_
  refine Ch.nil ?_
  refine T_seq ?_
  refine T_seq ?_
  refine T_region hc ?_
  refine Ch.step (v := (.d (.slice false 1 (xs.map D.str)))) rfl (.pure (.move _ rfl rfl)) rfl rfl ?_
  refine Ch.step (v := (.d (.int .i64 ((xs.length : Nat) : Int)))) rfl (.pure (.len _ _ 9 rfl Try.underlying27 (.sh _ _) (by simp))) rfl rfl ?_
  refine Ch.step (v := (.d (.bool (withinB ((xs.length : Nat) : Int) 1 300)))) rfl (.call 8000 70 _ _ _ en70 rfl (.inl rfl) (.cons (.d _) (.cons (.d _) (.cons (.d _) .nil))) rfl rfl (sp_spec_l1In ((xs.length : Nat) : Int) 1 300) (.skip _ _ (.skip _ _ (.skip _ _ .nil))) rfl) rfl rfl ?_
  refine Ch.step (v := (.d (.bool (!(withinB ((xs.length : Nat) : Int) 1 300))))) rfl (.pure (.not _ _ rfl rfl)) rfl rfl ?_
  refine Ch.step (v := (.d (.bool (!(withinB ((xs.length : Nat) : Int) 1 300))))) rfl (.pure (.move _ rfl rfl)) rfl rfl ?_
  cases h1 : (withinB ((xs.length : Nat) : Int) 1 300) with
  | true =>
    try have h0 := within_pos h1
    try have hz := hx _ (getD_mem (l := xs) (j := 0) (d := default) h0)
    refine Ch.step (v := (.d (.slice false 1 (xs.map D.str)))) rfl (.pure (.move _ rfl rfl)) rfl rfl ?_
    refine Ch.step (v := (.d (.ref (.str (xs.getD 0 default))))) rfl (.pure (.idx _ _ _ 9 (0) rfl Try.underlying27 sz9 rfl rfl rfl (get_map _ (by first | omega | (simp only [List.length_map, List.length_append, List.length_take, List.length_drop, List.length_cons, List.length_nil]; omega) | (simp; omega) | (simp; done))))) rfl rfl ?_
    refine Ch.step (v := (.d (.str (xs.getD 0 default)))) rfl (.pure (.loadRef1 _ _ rfl ag9 rfl rfl)) rfl rfl ?_
    refine Ch.step (v := (.d (.int .i64 (((xs.getD 0 default).length : Nat) : Int)))) rfl (.pure (.lenStr _ _ rfl Try.underlying9 rfl)) rfl rfl ?_
    refine Ch.step (v := (.d (.bool (withinB (((xs.getD 0 default).length : Nat) : Int) 1 8)))) rfl (.call 15000 70 _ _ _ en70 rfl (.inl rfl) (.cons (.d _) (.cons (.d _) (.cons (.d _) .nil))) rfl rfl (sp_spec_l1In (((xs.getD 0 default).length : Nat) : Int) 1 8) (.skip _ _ (.skip _ _ (.skip _ _ .nil))) rfl) rfl rfl ?_
    refine Ch.step (v := (.d (.bool (!(withinB (((xs.getD 0 default).length : Nat) : Int) 1 8))))) rfl (.pure (.not _ _ rfl rfl)) rfl rfl ?_
    refine Ch.step (v := (.d (.bool (!(withinB (((xs.getD 0 default).length : Nat) : Int) 1 8))))) rfl (.pure (.pickF _ _ _ rfl rfl rfl)) rfl rfl ?_
    refine Ch.nil ?_
    refine T_cond (b := (!(withinB (((xs.getD 0 default).length : Nat) : Int) 1 8))) rfl (fun h2 => ?_) (fun h2 => ?_)
    · replace h2 := nott h2
      refine T_seq ?_
      refine T_region hc ?_
      refine Ch.step (v := (.d (.str []))) rfl (.pure (.assign _ rfl rfl)) rfl rfl ?_
      refine Ch.step (v := (.d (.bool false))) rfl (.pure (.assign _ rfl rfl)) rfl rfl ?_
      refine Ch.nil ?_
      refine T_ret ?_
      refine And.intro (.inr rfl) ?_
      exact Exists.intro [(.d (.str [])), (.d (.bool false))] (Exists.intro [] (Exists.intro [] (And.intro (.cons (.tmp 2 rfl) (.cons (.tmp 3 rfl) .nil)) (And.intro (.cons (.any _) .nil) (And.intro (.tup (.cons (Exp.of (congrArg D.str (by first | (rw [supR, supOk, h1]; rfl) | (rw [supR, supOk, h1, show withinB (len0 xs) 1 8 = false from h2]; rfl) | (rw [supR, supOk, h1, show withinB (len0 xs) 1 8 = true from h2, show allOf xs (fun u => codeN u (len0 xs)) = false from allB_no k (by omega) h4]; rfl) | (rw [supR, supOk, h1, show withinB (len0 xs) 1 8 = true from h2, hall]; rfl) | (rw [supOk, h1]; rfl) | (rw [supOk, h1, show withinB (len0 xs) 1 8 = false from h2]; rfl) | (rw [supOk, h1, show withinB (len0 xs) 1 8 = true from h2, show allOf xs (fun u => codeN u (len0 xs)) = false from allB_no k (by omega) h4]; rfl) | (rw [supOk, h1, show withinB (len0 xs) 1 8 = true from h2, hall]; rfl))) (.d _)) (.cons (Exp.of (congrArg D.bool (by first | (rw [supR, supOk, h1]; rfl) | (rw [supR, supOk, h1, show withinB (len0 xs) 1 8 = false from h2]; rfl) | (rw [supR, supOk, h1, show withinB (len0 xs) 1 8 = true from h2, show allOf xs (fun u => codeN u (len0 xs)) = false from allB_no k (by omega) h4]; rfl) | (rw [supR, supOk, h1, show withinB (len0 xs) 1 8 = true from h2, hall]; rfl) | (rw [supOk, h1]; rfl) | (rw [supOk, h1, show withinB (len0 xs) 1 8 = false from h2]; rfl) | (rw [supOk, h1, show withinB (len0 xs) 1 8 = true from h2, show allOf xs (fun u => codeN u (len0 xs)) = false from allB_no k (by omega) h4]; rfl) | (rw [supOk, h1, show withinB (len0 xs) 1 8 = true from h2, hall]; rfl))) (.d _)) .nil))) (And.intro rfl rfl))))))
    · replace h2 := notf h2
      refine T_skip ?_
      refine T_seq ?_
      refine T_seq ?_
      refine T_region hc ?_
      refine Ch.step (v := (.d (.slice false 1 (xs.map D.str)))) rfl (.pure (.move _ rfl rfl)) rfl rfl ?_
      refine Ch.step (v := (.d (.int .i64 ((xs.length : Nat) : Int)))) rfl (.pure (.len _ _ 9 rfl Try.underlying27 (.sh _ _) (by simp))) rfl rfl ?_
      refine Ch.step (v := (.d (.int .i64 0))) rfl (.pure (.move _ rfl rfl)) rfl rfl ?_
      refine Ch.nil ?_
      refine T_block ?_
      refine T_loop (ι := Nat) (fun k => { n := 34, sl := [(0, (.d (.slice false 1 (xs.map D.str)))), (18, (.d (.slice false 1 (xs.map D.str)))), (19, (.d (.int .i64 ((xs.length : Nat) : Int)))), (20, (.d (.int .i64 ((k : Nat) : Int))))], hp := [], pin := [] }) (fun k => k ≤ xs.length ∧ ∀ j, j < k → codeN (xs.getD j default) (len0 xs) = true) (fun k => xs.length - k) ⟨0, ⟨by omega, fun j hj => by omega⟩, (Wk.of rfl rfl (And.intro rfl (And.intro rfl (And.intro rfl (And.intro (vI (by first | rfl | omega | (simp; done) | (simp; omega))) trivial)))) trivial)⟩ (fun k hp0 => ?_)
      refine T_seq ?_
      refine T_region hc ?_
      refine Ch.step (v := (.d (.bool (decide (((k : Nat) : Int) < ((xs.length : Nat) : Int)))))) rfl (.pure (.int _ _ _ _ _ rfl rfl rfl rfl)) rfl rfl ?_
      refine Ch.nil ?_
      refine T_seq ?_
      refine T_cond (b := (decide (((k : Nat) : Int) < ((xs.length : Nat) : Int)))) rfl (fun h3 => ?_) (fun h3 => ?_)
      · replace h3 := of_decide_eq_true h3
        try have hall : allOf xs (fun u => codeN u (len0 xs)) = true := allB_of (fun j hj => hp0.2 j (by omega))
        try have hsl := supOk_len hall
        refine T_skip ?_
        refine T_seq ?_
        refine T_block ?_
        refine T_seq ?_
        refine T_region hc ?_
        refine Ch.step (v := (.d (.ref (.str (xs.getD k default))))) rfl (.pure (.idx _ _ _ 9 (k) rfl Try.underlying27 sz9 rfl rfl rfl (get_map _ (by first | omega | (simp only [List.length_map, List.length_append, List.length_take, List.length_drop, List.length_cons, List.length_nil]; omega) | (simp; omega) | (simp; done))))) rfl rfl ?_
        refine Ch.step (v := (.d (.str (xs.getD k default)))) rfl (.pure (.loadRef1 _ _ rfl ag9 rfl rfl)) rfl rfl ?_
        refine Ch.step (v := (.d (.str (xs.getD k default)))) rfl (.pure (.assign _ rfl rfl)) rfl rfl ?_
        refine Ch.nil ?_
        refine T_seq ?_
        refine T_region hc ?_
        refine Ch.step (v := (.d (.str (xs.getD k default)))) rfl (.pure (.move _ rfl rfl)) rfl rfl ?_
        refine Ch.step (v := (.d (.slice false 1 (xs.map D.str)))) rfl (.pure (.move _ rfl rfl)) rfl rfl ?_
        refine Ch.step (v := (.d (.ref (.str (xs.getD 0 default))))) rfl (.pure (.idx _ _ _ 9 (0) rfl Try.underlying27 sz9 rfl rfl rfl (get_map _ (by first | omega | (simp only [List.length_map, List.length_append, List.length_take, List.length_drop, List.length_cons, List.length_nil]; omega) | (simp; omega) | (simp; done))))) rfl rfl ?_
        refine Ch.step (v := (.d (.str (xs.getD 0 default)))) rfl (.pure (.loadRef1 _ _ rfl ag9 rfl rfl)) rfl rfl ?_
        refine Ch.step (v := (.d (.int .i64 (((xs.getD 0 default).length : Nat) : Int)))) rfl (.pure (.lenStr _ _ rfl Try.underlying9 rfl)) rfl rfl ?_
        refine Ch.step (v := (.d (.bool (codeN (xs.getD k default) (((xs.getD 0 default).length : Nat) : Int))))) rfl (.call 29000 76 _ _ _ en76 rfl (.inl rfl) (.cons (.d _) (.cons (.d _) .nil)) rfl rfl (sp_spec_l5Code (xs.getD k default) (((xs.getD 0 default).length : Nat) : Int) (by first | omega | assumption | (exact hx _ (getD_mem (by omega))) | (exact hx _ (by assumption)) | (exact Nat.le_trans (hx _ (by assumption)) (by omega)) | (simp_all; done))) (.skip _ _ (.skip _ _ .nil)) rfl) rfl rfl ?_
        refine Ch.step (v := (.d (.bool (!(codeN (xs.getD k default) (((xs.getD 0 default).length : Nat) : Int)))))) rfl (.pure (.not _ _ rfl rfl)) rfl rfl ?_
        refine Ch.nil ?_
        refine T_cond (b := (!(codeN (xs.getD k default) (((xs.getD 0 default).length : Nat) : Int)))) rfl (fun h4 => ?_) (fun h4 => ?_)
        · replace h4 := nott h4
          refine T_seq ?_
          refine T_region hc ?_
          refine Ch.step (v := (.d (.str []))) rfl (.pure (.assign _ rfl rfl)) rfl rfl ?_
          refine Ch.step (v := (.d (.bool false))) rfl (.pure (.assign _ rfl rfl)) rfl rfl ?_
          refine Ch.nil ?_
          refine T_ret ?_
          refine And.intro (.inr rfl) ?_
          exact Exists.intro [(.d (.str [])), (.d (.bool false))] (Exists.intro [] (Exists.intro [] (And.intro (.cons (.tmp 2 rfl) (.cons (.tmp 3 rfl) .nil)) (And.intro (.cons (.any _) .nil) (And.intro (.tup (.cons (Exp.of (congrArg D.str (by first | (rw [supR, supOk, h1]; rfl) | (rw [supR, supOk, h1, show withinB (len0 xs) 1 8 = false from h2]; rfl) | (rw [supR, supOk, h1, show withinB (len0 xs) 1 8 = true from h2, show allOf xs (fun u => codeN u (len0 xs)) = false from allB_no k (by omega) h4]; rfl) | (rw [supR, supOk, h1, show withinB (len0 xs) 1 8 = true from h2, hall]; rfl) | (rw [supOk, h1]; rfl) | (rw [supOk, h1, show withinB (len0 xs) 1 8 = false from h2]; rfl) | (rw [supOk, h1, show withinB (len0 xs) 1 8 = true from h2, show allOf xs (fun u => codeN u (len0 xs)) = false from allB_no k (by omega) h4]; rfl) | (rw [supOk, h1, show withinB (len0 xs) 1 8 = true from h2, hall]; rfl))) (.d _)) (.cons (Exp.of (congrArg D.bool (by first | (rw [supR, supOk, h1]; rfl) | (rw [supR, supOk, h1, show withinB (len0 xs) 1 8 = false from h2]; rfl) | (rw [supR, supOk, h1, show withinB (len0 xs) 1 8 = true from h2, show allOf xs (fun u => codeN u (len0 xs)) = false from allB_no k (by omega) h4]; rfl) | (rw [supR, supOk, h1, show withinB (len0 xs) 1 8 = true from h2, hall]; rfl) | (rw [supOk, h1]; rfl) | (rw [supOk, h1, show withinB (len0 xs) 1 8 = false from h2]; rfl) | (rw [supOk, h1, show withinB (len0 xs) 1 8 = true from h2, show allOf xs (fun u => codeN u (len0 xs)) = false from allB_no k (by omega) h4]; rfl) | (rw [supOk, h1, show withinB (len0 xs) 1 8 = true from h2, hall]; rfl))) (.d _)) .nil))) (And.intro rfl rfl))))))
        · replace h4 := notf h4
          refine T_skip ?_
          refine T_region hc ?_
          refine Ch.step (v := (.d (.int .i64 (((k : Nat) : Int) + 1)))) rfl (.pure (.int _ _ _ _ _ rfl rfl rfl (intV_add (by first | omega | (simp only [List.length_map, List.length_append, List.length_take, List.length_drop, List.length_cons, List.length_nil]; omega) | (simp; omega) | (simp; done)) (by first | omega | (simp only [List.length_map, List.length_append, List.length_take, List.length_drop, List.length_cons, List.length_nil]; omega) | (simp; omega) | (simp; done))))) rfl rfl ?_
          refine Ch.step (v := (.d (.int .i64 (((k : Nat) : Int) + 1)))) rfl (.pure (.move _ rfl rfl)) rfl rfl ?_
          refine Ch.nil ?_
          refine Exists.intro (k + 1) (And.intro ⟨by omega, upto_succ hp0.2 (by unfold len0; assumption)⟩ (And.intro (by first | omega | (dsimp only; omega)) (Wk.of rfl rfl (And.intro rfl (And.intro rfl (And.intro rfl (And.intro (vI (by first | rfl | omega | (simp; done) | (simp; omega))) trivial)))) trivial)))
      · replace h3 := of_decide_eq_false h3
        try have hall : allOf xs (fun u => codeN u (len0 xs)) = true := allB_of (fun j hj => hp0.2 j (by omega))
        try have hsl := supOk_len hall
        refine T_exit ?_
        refine T_seq ?_
        refine T_region hc ?_
        refine Ch.step (v := (.d (.slice false 1 (xs.map D.str)))) rfl (.pure (.move _ rfl rfl)) rfl rfl ?_
        refine Ch.step (v := (.d (.str (supS xs (xs.getD 0 default).length)))) rfl (.call 33000 83 _ _ _ en83 rfl (.inl rfl) (.cons (.d _) .nil) rfl rfl (sp_spec_l13Of xs (by first | omega | assumption | (exact hx _ (getD_mem (by omega))) | (exact hx _ (by assumption)) | (exact Nat.le_trans (hx _ (by assumption)) (by omega)) | (simp_all; done)) (by first | omega | assumption | (exact hx _ (getD_mem (by omega))) | (exact hx _ (by assumption)) | (exact Nat.le_trans (hx _ (by assumption)) (by omega)) | (simp_all; done)) (by first | omega | assumption | (exact hx _ (getD_mem (by omega))) | (exact hx _ (by assumption)) | (exact Nat.le_trans (hx _ (by assumption)) (by omega)) | (simp_all; done)) (by first | omega | assumption | (exact hx _ (getD_mem (by omega))) | (exact hx _ (by assumption)) | (exact Nat.le_trans (hx _ (by assumption)) (by omega)) | (simp_all; done))) (.skip _ _ .nil) rfl) rfl rfl ?_
        refine Ch.step (v := (.d (.str (supS xs (xs.getD 0 default).length)))) rfl (.pure (.assign _ rfl rfl)) rfl rfl ?_
        refine Ch.step (v := (.d (.bool true))) rfl (.pure (.assign _ rfl rfl)) rfl rfl ?_
        refine Ch.nil ?_
        refine T_ret ?_
        refine And.intro (.inr rfl) ?_
        exact Exists.intro [(.d (.str (supS xs (xs.getD 0 default).length))), (.d (.bool true))] (Exists.intro [] (Exists.intro [] (And.intro (.cons (.tmp 2 rfl) (.cons (.tmp 3 rfl) .nil)) (And.intro (.cons (.any _) .nil) (And.intro (.tup (.cons (Exp.of (congrArg D.str (by first | (rw [supR, supOk, h1]; rfl) | (rw [supR, supOk, h1, show withinB (len0 xs) 1 8 = false from h2]; rfl) | (rw [supR, supOk, h1, show withinB (len0 xs) 1 8 = true from h2, show allOf xs (fun u => codeN u (len0 xs)) = false from allB_no k (by omega) h4]; rfl) | (rw [supR, supOk, h1, show withinB (len0 xs) 1 8 = true from h2, hall]; rfl) | (rw [supOk, h1]; rfl) | (rw [supOk, h1, show withinB (len0 xs) 1 8 = false from h2]; rfl) | (rw [supOk, h1, show withinB (len0 xs) 1 8 = true from h2, show allOf xs (fun u => codeN u (len0 xs)) = false from allB_no k (by omega) h4]; rfl) | (rw [supOk, h1, show withinB (len0 xs) 1 8 = true from h2, hall]; rfl))) (.d _)) (.cons (Exp.of (congrArg D.bool (by first | (rw [supR, supOk, h1]; rfl) | (rw [supR, supOk, h1, show withinB (len0 xs) 1 8 = false from h2]; rfl) | (rw [supR, supOk, h1, show withinB (len0 xs) 1 8 = true from h2, show allOf xs (fun u => codeN u (len0 xs)) = false from allB_no k (by omega) h4]; rfl) | (rw [supR, supOk, h1, show withinB (len0 xs) 1 8 = true from h2, hall]; rfl) | (rw [supOk, h1]; rfl) | (rw [supOk, h1, show withinB (len0 xs) 1 8 = false from h2]; rfl) | (rw [supOk, h1, show withinB (len0 xs) 1 8 = true from h2, show allOf xs (fun u => codeN u (len0 xs)) = false from allB_no k (by omega) h4]; rfl) | (rw [supOk, h1, show withinB (len0 xs) 1 8 = true from h2, hall]; rfl))) (.d _)) .nil))) (And.intro rfl rfl))))))
  | false =>
    try have h0 := within_pos h1
    try have hz := hx _ (getD_mem (l := xs) (j := 0) (d := default) h0)
    refine Ch.skip rfl rfl ?_
    refine Ch.skip rfl rfl ?_
    refine Ch.skip rfl rfl ?_
    refine Ch.skip rfl rfl ?_
    refine Ch.skip rfl rfl ?_
    refine Ch.skip rfl rfl ?_
    refine Ch.step (v := (.d (.bool true))) rfl (.pure (.pickT _ _ _ rfl rfl rfl)) rfl rfl ?_
    refine Ch.nil ?_
    refine T_cond (b := true) rfl (fun _ => ?_) (fun h => nomatch h)
    refine T_seq ?_
    refine T_region hc ?_
    refine Ch.step (v := (.d (.str []))) rfl (.pure (.assign _ rfl rfl)) rfl rfl ?_
    refine Ch.step (v := (.d (.bool false))) rfl (.pure (.assign _ rfl rfl)) rfl rfl ?_
    refine Ch.nil ?_
    refine T_ret ?_
    refine And.intro (.inr rfl) ?_
    exact Exists.intro [(.d (.str [])), (.d (.bool false))] (Exists.intro [] (Exists.intro [] (And.intro (.cons (.tmp 2 rfl) (.cons (.tmp 3 rfl) .nil)) (And.intro (.cons (.any _) .nil) (And.intro (.tup (.cons (Exp.of (congrArg D.str (by first | (rw [supR, supOk, h1]; rfl) | (rw [supR, supOk, h1, show withinB (len0 xs) 1 8 = false from h2]; rfl) | (rw [supR, supOk, h1, show withinB (len0 xs) 1 8 = true from h2, show allOf xs (fun u => codeN u (len0 xs)) = false from allB_no k (by omega) h4]; rfl) | (rw [supR, supOk, h1, show withinB (len0 xs) 1 8 = true from h2, hall]; rfl) | (rw [supOk, h1]; rfl) | (rw [supOk, h1, show withinB (len0 xs) 1 8 = false from h2]; rfl) | (rw [supOk, h1, show withinB (len0 xs) 1 8 = true from h2, show allOf xs (fun u => codeN u (len0 xs)) = false from allB_no k (by omega) h4]; rfl) | (rw [supOk, h1, show withinB (len0 xs) 1 8 = true from h2, hall]; rfl))) (.d _)) (.cons (Exp.of (congrArg D.bool (by first | (rw [supR, supOk, h1]; rfl) | (rw [supR, supOk, h1, show withinB (len0 xs) 1 8 = false from h2]; rfl) | (rw [supR, supOk, h1, show withinB (len0 xs) 1 8 = true from h2, show allOf xs (fun u => codeN u (len0 xs)) = false from allB_no k (by omega) h4]; rfl) | (rw [supR, supOk, h1, show withinB (len0 xs) 1 8 = true from h2, hall]; rfl) | (rw [supOk, h1]; rfl) | (rw [supOk, h1, show withinB (len0 xs) 1 8 = false from h2]; rfl) | (rw [supOk, h1, show withinB (len0 xs) 1 8 = true from h2, show allOf xs (fun u => codeN u (len0 xs)) = false from allB_no k (by omega) h4]; rfl) | (rw [supOk, h1, show withinB (len0 xs) 1 8 = true from h2, hall]; rfl))) (.d _)) .nil))) (And.intro rfl rfl))))))

theorem sp_impl_Supercube_1 (u : List UInt8) (xs : List (List UInt8)) (h0 : 0 < xs.length) (hs : u.length ≤ 1048576) : Sp Try.prog 84 [(.str u), (.ref (.slice false 1 (xs.map D.str)))] [.any, .any] (.bool (!isCodeB u (len0 xs))) := by
  refine Sp_intro (lend := true) Try.func84 rfl rfl rfl (fun _ => rfl) (fun c hc hX => ?_)
  refine T_seq ?_
  refine T_region hc ?_
  refine Ch.step (v := (.d (.bool false))) rfl (.pure (.assign _ rfl rfl)) rfl rfl ?_
  refine Ch.nil ?_
  refine T_seq ?_
  refine T_region hc ?_
  refine Ch.step (v := (.d (.str u))) rfl (.pure (.move _ rfl rfl)) rfl rfl ?_
  refine Ch.step (v := (.d (.slice false 1 (xs.map D.str)))) rfl (.pure (.loadRef1 _ _ rfl ag27 rfl rfl)) rfl rfl ?_
  refine Ch.step (v := (.d (.ref (.str (xs.getD 0 default))))) rfl (.pure (.idx _ _ _ 9 (0) rfl Try.underlying27 sz9 rfl rfl rfl (get_map _ (by first | omega | (simp only [List.length_map, List.length_append, List.length_take, List.length_drop, List.length_cons, List.length_nil]; omega) | (simp; omega) | (simp; done))))) rfl rfl ?_
  refine Ch.step (v := (.d (.str (xs.getD 0 default)))) rfl (.pure (.loadRef1 _ _ rfl ag9 rfl rfl)) rfl rfl ?_
  refine Ch.step (v := (.d (.int .i64 (((xs.getD 0 default).length : Nat) : Int)))) rfl (.pure (.lenStr _ _ rfl Try.underlying9 rfl)) rfl rfl ?_
  refine Ch.step (v := (.d (.bool (isCodeB u (((xs.getD 0 default).length : Nat) : Int))))) rfl (.call 9000 78 _ _ _ en78 rfl (.inl rfl) (.cons (.d _) (.cons (.d _) .nil)) rfl rfl (sp_impl_isCode u (((xs.getD 0 default).length : Nat) : Int) (by first | omega | assumption | (exact hx _ (getD_mem (by omega))) | (exact hx _ (by assumption)) | (exact Nat.le_trans (hx _ (by assumption)) (by omega)) | (simp_all; done))) (.skip _ _ (.skip _ _ .nil)) rfl) rfl rfl ?_
  refine Ch.step (v := (.d (.bool (!(isCodeB u (((xs.getD 0 default).length : Nat) : Int)))))) rfl (.pure (.not _ _ rfl rfl)) rfl rfl ?_
  refine Ch.step (v := (.d (.bool (!(isCodeB u (((xs.getD 0 default).length : Nat) : Int)))))) rfl (.pure (.assign _ rfl rfl)) rfl rfl ?_
  refine Ch.nil ?_
  refine T_ret ?_
  refine And.intro (.inr rfl) ?_
  exact Exists.intro [(.d (.bool (!(isCodeB u (((xs.getD 0 default).length : Nat) : Int)))))] (Exists.intro [] (Exists.intro [] (And.intro (.cons (.tmp 3 rfl) .nil) (And.intro (.cons (.any _) (.cons (.any _) .nil)) (And.intro (Exp.of (congrArg D.bool (by rfl)) (.d _)) (And.intro rfl rfl))))))

theorem sp_impl_Supercube (xs : List (List UInt8)) (hn : xs.length ≤ 1048576) (hx : ∀ x ∈ xs, x.length ≤ 1048576) : Sp Try.prog 51 [(.slice false 1 (xs.map D.str))] [.any] (.tup [(.str (supR xs)), (.bool (supOk xs))]) := by
  refine Sp_intro (lend := true) Try.func51 rfl rfl rfl (fun _ => rfl) (fun c hc hX => ?_)
  refine T_seq ?_
  refine T_region hc ?_
  refine Ch.step (v := (.ptr 1000 0)) rfl (.box 1000 _ _ rfl (.one _ rfl)) rfl rfl ?_
  refine Ch.step (v := (.d (.str []))) rfl (.pure (.assign _ rfl rfl)) rfl rfl ?_
  refine Ch.step (v := (.d (.bool false))) rfl (.pure (.assign _ rfl rfl)) rfl rfl ?_
  refine Ch.nil ?_
  refine T_seq ?_
  refine T_seq ?_
  refine T_region hc ?_
  refine Ch.step (v := (.d (.slice false 1 (xs.map D.str)))) rfl (.pure (.loadPtr1 _ _ rfl ag27 rfl rfl rfl)) rfl rfl ?_
  refine Ch.step (v := (.d (.int .i64 ((xs.length : Nat) : Int)))) rfl (.pure (.len _ _ 9 rfl Try.underlying27 (.sh _ _) (by simp))) rfl rfl ?_
  refine Ch.step (v := (.d (.bool (withinB ((xs.length : Nat) : Int) 1 300)))) rfl (.call 6000 62 _ _ _ en62 rfl (.inl rfl) (.cons (.d _) (.cons (.d _) (.cons (.d _) .nil))) rfl rfl (sp_impl_within ((xs.length : Nat) : Int) 1 300) (.skip _ _ (.skip _ _ (.skip _ _ .nil))) rfl) rfl rfl ?_
  refine Ch.step (v := (.d (.bool (!(withinB ((xs.length : Nat) : Int) 1 300))))) rfl (.pure (.not _ _ rfl rfl)) rfl rfl ?_
  refine Ch.step (v := (.d (.bool (!(withinB ((xs.length : Nat) : Int) 1 300))))) rfl (.pure (.move _ rfl rfl)) rfl rfl ?_
  cases h1 : (withinB ((xs.length : Nat) : Int) 1 300) with
  | true =>
    try have h0 := within_pos h1
    try have hz := hx _ (getD_mem (l := xs) (j := 0) (d := default) h0)
    refine Ch.step (v := (.d (.slice false 1 (xs.map D.str)))) rfl (.pure (.loadPtr1 _ _ rfl ag27 rfl rfl rfl)) rfl rfl ?_
    refine Ch.step (v := (.fn 84 [(.ptr 1000 0)])) rfl (.pure (.func _ _ rfl rfl)) rfl rfl ?_
    refine Ch.step (v := (.d (.bool (xs.any (fun u => !isCodeB u (len0 xs)))))) rfl (.call 11000 63 _ _ _ en63 rfl (.inl rfl) (.cons (.d _) (.cons (.lend (.fn (.cons (.ptr rfl (.one (.d _) rfl)) .nil))) .nil)) rfl rfl (sp_ContainsFunc_str xs 84 [(.ref (.slice false 1 (xs.map D.str)))] (fun u => !isCodeB u (len0 xs)) en84 (fun u hu => sp_impl_Supercube_1 u xs (by first | omega | assumption | (exact hx _ (getD_mem (by omega))) | (exact hx _ (by assumption)) | (exact Nat.le_trans (hx _ (by assumption)) (by omega)) | (simp_all; done)) (hx u hu)) (by first | omega | assumption | (exact hx _ (getD_mem (by omega))) | (exact hx _ (by assumption)) | (exact Nat.le_trans (hx _ (by assumption)) (by omega)) | (simp_all; done))) (.skip _ _ (.skip _ _ .nil)) rfl) rfl rfl ?_
    refine Ch.step (v := (.d (.bool (xs.any (fun u => !isCodeB u (len0 xs)))))) rfl (.pure (.pickF _ _ _ rfl rfl rfl)) rfl rfl ?_
    refine Ch.nil ?_
    refine T_cond (b := (xs.any (fun u => !isCodeB u (len0 xs)))) rfl (fun h2 => ?_) (fun h2 => ?_)
    · try have hok : supOk xs = true := by (rw [sup_impl, h1, h2]; rfl)
      try have hal : allOf xs (fun u => codeN u (len0 xs)) = true := by (have hok2 := hok; unfold supOk at hok2; simp only [Bool.and_eq_true] at hok2; exact hok2.2.2)
      try have hsl := supOk_len hal
      refine T_seq ?_
      refine T_region hc ?_
      refine Ch.step (v := (.d (.str []))) rfl (.pure (.assign _ rfl rfl)) rfl rfl ?_
      refine Ch.step (v := (.d (.bool false))) rfl (.pure (.assign _ rfl rfl)) rfl rfl ?_
      refine Ch.nil ?_
      refine T_ret ?_
      refine And.intro (.inr rfl) ?_
      exact Exists.intro [(.d (.str [])), (.d (.bool false))] (Exists.intro [] (Exists.intro [] (And.intro (.cons (.tmp 2 rfl) (.cons (.tmp 3 rfl) .nil)) (And.intro (.cons (.any _) .nil) (And.intro (.tup (.cons (Exp.of (congrArg D.str (by first | (rw [supR, sup_impl, h1]; rfl) | (rw [supR, sup_impl, h1, h2]; rfl) | (rw [supR, sup_impl, h1, show (xs.any fun u => !isCodeB u (len0 xs)) = false from h2]; rfl) | (rw [sup_impl, h1]; rfl) | (rw [sup_impl, h1, h2]; rfl) | (rw [sup_impl, h1, show (xs.any fun u => !isCodeB u (len0 xs)) = false from h2]; rfl))) (.d _)) (.cons (Exp.of (congrArg D.bool (by first | (rw [supR, sup_impl, h1]; rfl) | (rw [supR, sup_impl, h1, h2]; rfl) | (rw [supR, sup_impl, h1, show (xs.any fun u => !isCodeB u (len0 xs)) = false from h2]; rfl) | (rw [sup_impl, h1]; rfl) | (rw [sup_impl, h1, h2]; rfl) | (rw [sup_impl, h1, show (xs.any fun u => !isCodeB u (len0 xs)) = false from h2]; rfl))) (.d _)) .nil))) (And.intro rfl rfl))))))
    · try have hok : supOk xs = true := by (rw [sup_impl, h1, h2]; rfl)
      try have hal : allOf xs (fun u => codeN u (len0 xs)) = true := by (have hok2 := hok; unfold supOk at hok2; simp only [Bool.and_eq_true] at hok2; exact hok2.2.2)
      try have hsl := supOk_len hal
      refine T_skip ?_
      refine T_seq ?_
      refine T_region hc ?_
      refine Ch.step (v := (.d (.slice false 1 (xs.map D.str)))) rfl (.pure (.loadPtr1 _ _ rfl ag27 rfl rfl rfl)) rfl rfl ?_
      refine Ch.step (v := (.d (.str (supS xs (xs.getD 0 default).length)))) rfl (.call 14000 85 _ _ _ en85 rfl (.inl rfl) (.cons (.d _) .nil) rfl rfl (sp_impl_supercube xs (by first | omega | assumption | (exact hx _ (getD_mem (by omega))) | (exact hx _ (by assumption)) | (exact Nat.le_trans (hx _ (by assumption)) (by omega)) | (simp_all; done)) (by first | omega | assumption | (exact hx _ (getD_mem (by omega))) | (exact hx _ (by assumption)) | (exact Nat.le_trans (hx _ (by assumption)) (by omega)) | (simp_all; done)) (by first | omega | assumption | (exact hx _ (getD_mem (by omega))) | (exact hx _ (by assumption)) | (exact Nat.le_trans (hx _ (by assumption)) (by omega)) | (simp_all; done)) (by first | omega | assumption | (exact hx _ (getD_mem (by omega))) | (exact hx _ (by assumption)) | (exact Nat.le_trans (hx _ (by assumption)) (by omega)) | (simp_all; done))) (.skip _ _ .nil) rfl) rfl rfl ?_
      refine Ch.step (v := (.d (.str (supS xs (xs.getD 0 default).length)))) rfl (.pure (.assign _ rfl rfl)) rfl rfl ?_
      refine Ch.step (v := (.d (.bool true))) rfl (.pure (.assign _ rfl rfl)) rfl rfl ?_
      refine Ch.nil ?_
      refine T_ret ?_
      refine And.intro (.inr rfl) ?_
      exact Exists.intro [(.d (.str (supS xs (xs.getD 0 default).length))), (.d (.bool true))] (Exists.intro [] (Exists.intro [] (And.intro (.cons (.tmp 2 rfl) (.cons (.tmp 3 rfl) .nil)) (And.intro (.cons (.any _) .nil) (And.intro (.tup (.cons (Exp.of (congrArg D.str (by first | (rw [supR, sup_impl, h1]; rfl) | (rw [supR, sup_impl, h1, h2]; rfl) | (rw [supR, sup_impl, h1, show (xs.any fun u => !isCodeB u (len0 xs)) = false from h2]; rfl) | (rw [sup_impl, h1]; rfl) | (rw [sup_impl, h1, h2]; rfl) | (rw [sup_impl, h1, show (xs.any fun u => !isCodeB u (len0 xs)) = false from h2]; rfl))) (.d _)) (.cons (Exp.of (congrArg D.bool (by first | (rw [supR, sup_impl, h1]; rfl) | (rw [supR, sup_impl, h1, h2]; rfl) | (rw [supR, sup_impl, h1, show (xs.any fun u => !isCodeB u (len0 xs)) = false from h2]; rfl) | (rw [sup_impl, h1]; rfl) | (rw [sup_impl, h1, h2]; rfl) | (rw [sup_impl, h1, show (xs.any fun u => !isCodeB u (len0 xs)) = false from h2]; rfl))) (.d _)) .nil))) (And.intro rfl rfl))))))
  | false =>
    try have h0 := within_pos h1
    try have hz := hx _ (getD_mem (l := xs) (j := 0) (d := default) h0)
    refine Ch.skip rfl rfl ?_
    refine Ch.skip rfl rfl ?_
    refine Ch.skip rfl rfl ?_
    refine Ch.step (v := (.d (.bool true))) rfl (.pure (.pickT _ _ _ rfl rfl rfl)) rfl rfl ?_
    refine Ch.nil ?_
    refine T_cond (b := true) rfl (fun _ => ?_) (fun h => nomatch h)
    refine T_seq ?_
    refine T_region hc ?_
    refine Ch.step (v := (.d (.str []))) rfl (.pure (.assign _ rfl rfl)) rfl rfl ?_
    refine Ch.step (v := (.d (.bool false))) rfl (.pure (.assign _ rfl rfl)) rfl rfl ?_
    refine Ch.nil ?_
    refine T_ret ?_
    refine And.intro (.inr rfl) ?_
    exact Exists.intro [(.d (.str [])), (.d (.bool false))] (Exists.intro [] (Exists.intro [] (And.intro (.cons (.tmp 2 rfl) (.cons (.tmp 3 rfl) .nil)) (And.intro (.cons (.any _) .nil) (And.intro (.tup (.cons (Exp.of (congrArg D.str (by first | (rw [supR, sup_impl, h1]; rfl) | (rw [supR, sup_impl, h1, h2]; rfl) | (rw [supR, sup_impl, h1, show (xs.any fun u => !isCodeB u (len0 xs)) = false from h2]; rfl) | (rw [sup_impl, h1]; rfl) | (rw [sup_impl, h1, h2]; rfl) | (rw [sup_impl, h1, show (xs.any fun u => !isCodeB u (len0 xs)) = false from h2]; rfl))) (.d _)) (.cons (Exp.of (congrArg D.bool (by first | (rw [supR, sup_impl, h1]; rfl) | (rw [supR, sup_impl, h1, h2]; rfl) | (rw [supR, sup_impl, h1, show (xs.any fun u => !isCodeB u (len0 xs)) = false from h2]; rfl) | (rw [sup_impl, h1]; rfl) | (rw [sup_impl, h1, h2]; rfl) | (rw [sup_impl, h1, show (xs.any fun u => !isCodeB u (len0 xs)) = false from h2]; rfl))) (.d _)) .nil))) (And.intro rfl rfl))))))

theorem sp_laws_FnExactSupercube (xs : List (List UInt8)) (hn : xs.length ≤ 9223372036854775807) (hx : ∀ x ∈ xs, x.length ≤ 9223372036854775807) : Sp Try.prog 14 [(.slice false 1 (xs.map D.str))] [.any] (.bool true) := by
  refine Sp_intro (lend := true) Try.func14 rfl rfl rfl (fun _ => rfl) (fun c hc hX => ?_)
  refine T_seq ?_
  refine T_region hc ?_
  refine Ch.step (v := (.d (.bool false))) rfl (.pure (.assign _ rfl rfl)) rfl rfl ?_
  refine Ch.nil ?_
  refine T_seq ?_
  refine T_region hc ?_
  refine Ch.step (v := (.d (.int .i64 1048576))) rfl (.pure (.assign _ rfl rfl)) rfl rfl ?_
  refine Ch.nil ?_
  refine T_seq ?_
  refine T_region hc ?_
  refine Ch.step (v := (.d (.slice false 1 (xs.map D.str)))) rfl (.pure (.move _ rfl rfl)) rfl rfl ?_
  refine Ch.step (v := (.d (.int .i64 1048576))) rfl (.pure (.move _ rfl rfl)) rfl rfl ?_
  refine Ch.step (v := (.d (.int .i64 (szS xs 1048576)))) rfl (.call 11000 21 _ _ _ en21 rfl (.inl rfl) (.cons (.d _) (.cons (.d _) .nil)) rfl rfl (sp_laws_szStringS xs 1048576 (by first | omega | assumption | (exact hx _ (getD_mem (by omega))) | (exact hx _ (by assumption)) | (exact Nat.le_trans (hx _ (by assumption)) (by omega)) | (simp_all; done)) (by first | omega | assumption | (exact hx _ (getD_mem (by omega))) | (exact hx _ (by assumption)) | (exact Nat.le_trans (hx _ (by assumption)) (by omega)) | (simp_all; done)) (by first | omega | assumption | (exact hx _ (getD_mem (by omega))) | (exact hx _ (by assumption)) | (exact Nat.le_trans (hx _ (by assumption)) (by omega)) | (simp_all; done)) (by first | omega | assumption | (exact hx _ (getD_mem (by omega))) | (exact hx _ (by assumption)) | (exact Nat.le_trans (hx _ (by assumption)) (by omega)) | (simp_all; done))) (.skip _ _ (.skip _ _ .nil)) rfl) rfl rfl ?_
  refine Ch.step (v := (.d (.int .i64 (szS xs 1048576)))) rfl (.pure (.assign _ rfl rfl)) rfl rfl ?_
  refine Ch.nil ?_
  refine T_seq ?_
  refine T_seq ?_
  refine T_region hc ?_
  refine Ch.step (v := (.d (.int .i64 (szS xs 1048576)))) rfl (.pure (.move _ rfl rfl)) rfl rfl ?_
  refine Ch.step (v := (.d (.bool (decide ((szS xs 1048576) < 0))))) rfl (.pure (.int _ _ _ _ _ rfl rfl rfl rfl)) rfl rfl ?_
  refine Ch.nil ?_
  refine T_cond (b := (decide ((szS xs 1048576) < 0))) rfl (fun h1 => ?_) (fun h1 => ?_)
  · replace h1 := of_decide_eq_true h1
    try have hb := szS_ok h1
    try have hbn : bulkS xs ≤ 1048576 := by omega
    try replace hn := bulk_len hbn
    try replace hx := bulk_mem hbn
    refine T_seq ?_
    refine T_region hc ?_
    refine Ch.step (v := (.d (.bool true))) rfl (.pure (.assign _ rfl rfl)) rfl rfl ?_
    refine Ch.nil ?_
    refine T_ret ?_
    refine And.intro (.inr rfl) ?_
    exact Exists.intro [(.d (.bool true))] (Exists.intro [] (Exists.intro [] (And.intro (.cons (.tmp 2 rfl) .nil) (And.intro (.cons (.any _) .nil) (And.intro (.d _) (And.intro rfl rfl))))))
  · replace h1 := of_decide_eq_false h1
    try have hb := szS_ok h1
    try have hbn : bulkS xs ≤ 1048576 := by omega
    try replace hn := bulk_len hbn
    try replace hx := bulk_mem hbn
    refine T_skip ?_
    refine T_seq ?_
    refine T_region hc ?_
    refine Ch.step (v := (.d (.slice false 1 (xs.map D.str)))) rfl (.pure (.move _ rfl rfl)) rfl rfl ?_
    refine Ch.step (v := (.row 16000)) rfl (.call 16000 23 _ _ _ en23 rfl (.inl rfl) (.cons (.d _) .nil) rfl (sol (solid_row (fun _ => rfl) _) rfl) (sp_laws_toStringS xs (by first | omega | assumption | (exact hx _ (getD_mem (by omega))) | (exact hx _ (by assumption)) | (exact Nat.le_trans (hx _ (by assumption)) (by omega)) | (simp_all; done))) (.skip _ _ .nil) rfl) rfl rfl ?_
    refine Ch.step (v := (.tup [(.d (.str (supR xs))), (.d (.bool (supOk xs)))])) rfl (.call 17000 50 _ _ _ en50 rfl (.inl rfl) (.cons (.lend (.row rfl (frozs_map (fun _ => rfl) _))) .nil) rfl rfl (sp_spec_Supercube xs (by first | omega | assumption | (exact hx _ (getD_mem (by omega))) | (exact hx _ (by assumption)) | (exact Nat.le_trans (hx _ (by assumption)) (by omega)) | (simp_all; done)) (by first | omega | assumption | (exact hx _ (getD_mem (by omega))) | (exact hx _ (by assumption)) | (exact Nat.le_trans (hx _ (by assumption)) (by omega)) | (simp_all; done))) (.skip _ _ .nil) rfl) rfl rfl ?_
    refine Ch.step (v := (.tup [(.d (.str (supR xs))), (.d (.bool (supOk xs)))])) rfl (.pure (.move _ rfl rfl)) rfl rfl ?_
    refine Ch.step (v := (.d (.str (supR xs)))) rfl (.pure (.extract _ rfl rfl rfl)) rfl rfl ?_
    refine Ch.step (v := (.d (.bool (supOk xs)))) rfl (.pure (.extract _ rfl rfl rfl)) rfl rfl ?_
    refine Ch.step (v := (.d (.str (supR xs)))) rfl (.pure (.assign _ rfl rfl)) rfl rfl ?_
    refine Ch.step (v := (.d (.bool (supOk xs)))) rfl (.pure (.assign _ rfl rfl)) rfl rfl ?_
    refine Ch.nil ?_
    refine T_seq ?_
    refine T_region hc ?_
    refine Ch.step (v := (.d (.slice false 1 (xs.map D.str)))) rfl (.pure (.move _ rfl rfl)) rfl rfl ?_
    refine Ch.step (v := (.row 21000)) rfl (.call 21000 23 _ _ _ en23 rfl (.inl rfl) (.cons (.d _) .nil) rfl (sol (solid_row (fun _ => rfl) _) rfl) (sp_laws_toStringS xs (by first | omega | assumption | (exact hx _ (getD_mem (by omega))) | (exact hx _ (by assumption)) | (exact Nat.le_trans (hx _ (by assumption)) (by omega)) | (simp_all; done))) (.skip _ _ .nil) rfl) rfl rfl ?_
    refine Ch.step (v := (.row 21000)) rfl (.pure (.assign _ rfl rfl)) rfl rfl ?_
    refine Ch.nil ?_
    refine T_seq ?_
    refine T_region hc ?_
    refine Ch.step (v := (.row 21000)) rfl (.pure (.move _ rfl rfl)) rfl rfl ?_
    refine Ch.step (v := (.tup [(.d (.str (supR xs))), (.d (.bool (supOk xs)))])) rfl (.call 24000 51 _ _ _ en51 rfl (.inl rfl) (.cons (.lend (.row rfl (frozs_map (fun _ => rfl) _))) .nil) rfl rfl (sp_impl_Supercube xs (by first | omega | assumption | (exact hx _ (getD_mem (by omega))) | (exact hx _ (by assumption)) | (exact Nat.le_trans (hx _ (by assumption)) (by omega)) | (simp_all; done)) (by first | omega | assumption | (exact hx _ (getD_mem (by omega))) | (exact hx _ (by assumption)) | (exact Nat.le_trans (hx _ (by assumption)) (by omega)) | (simp_all; done))) (.skip _ _ .nil) rfl) rfl rfl ?_
    refine Ch.step (v := (.tup [(.d (.str (supR xs))), (.d (.bool (supOk xs)))])) rfl (.pure (.move _ rfl rfl)) rfl rfl ?_
    refine Ch.step (v := (.d (.str (supR xs)))) rfl (.pure (.extract _ rfl rfl rfl)) rfl rfl ?_
    refine Ch.step (v := (.d (.bool (supOk xs)))) rfl (.pure (.extract _ rfl rfl rfl)) rfl rfl ?_
    refine Ch.step (v := (.d (.str (supR xs)))) rfl (.pure (.assign _ rfl rfl)) rfl rfl ?_
    refine Ch.step (v := (.d (.bool (supOk xs)))) rfl (.pure (.assign _ rfl rfl)) rfl rfl ?_
    refine Ch.nil ?_
    refine T_seq ?_
    refine T_seq ?_
    refine T_region hc ?_
    refine Ch.step (v := (.d (.str (supR xs)))) rfl (.pure (.move _ rfl rfl)) rfl rfl ?_
    refine Ch.step (v := (.d (.str (supR xs)))) rfl (.pure (.move _ rfl rfl)) rfl rfl ?_
    refine Ch.step (v := (.d (.bool (!(decide ((supR xs) = (supR xs))))))) rfl (.pure (.str _ _ _ _ _ rfl rfl rfl rfl)) rfl rfl ?_
    refine Ch.step (v := (.d (.bool (!(decide ((supR xs) = (supR xs))))))) rfl (.pure (.move _ rfl rfl)) rfl rfl ?_
    cases h2 : (decide ((supR xs) = (supR xs))) with
    | true =>
      replace h2 := of_decide_eq_true h2
      refine Ch.step (v := (.d (.bool (supOk xs)))) rfl (.pure (.move _ rfl rfl)) rfl rfl ?_
      refine Ch.step (v := (.d (.bool (supOk xs)))) rfl (.pure (.move _ rfl rfl)) rfl rfl ?_
      refine Ch.step (v := (.d (.bool (!(decide ((supOk xs) = (supOk xs))))))) rfl (.pure (.neB _ _ _ _ rfl Try.underlying4 rfl rfl)) rfl rfl ?_
      refine Ch.step (v := (.d (.bool (!(decide ((supOk xs) = (supOk xs))))))) rfl (.pure (.pickF _ _ _ rfl rfl rfl)) rfl rfl ?_
      refine Ch.nil ?_
      refine T_cond (b := (!(decide ((supOk xs) = (supOk xs))))) rfl (fun h3 => ?_) (fun h3 => ?_)
      · replace h3 := nott h3
        replace h3 := of_decide_eq_false h3
        refine T_seq ?_
        refine T_region hc ?_
        refine Ch.step (v := (.d (.bool false))) rfl (.pure (.assign _ rfl rfl)) rfl rfl ?_
        refine Ch.nil ?_
        refine T_ret ?_
        refine And.intro (.inr rfl) ?_
        exact Exists.intro [(.d (.bool false))] (Exists.intro [] (Exists.intro [] (And.intro (.cons (.tmp 2 rfl) .nil) (And.intro (.cons (.any _) .nil) (And.intro (Exp.of (congrArg D.bool (by first | rfl | (simp_all; done))) (.d _)) (And.intro rfl rfl))))))
      · replace h3 := notf h3
        replace h3 := of_decide_eq_true h3
        refine T_skip ?_
        refine T_seq ?_
        refine T_seq ?_
        refine T_region hc ?_
        refine Ch.step (v := (.row 21000)) rfl (.pure (.move _ rfl rfl)) rfl rfl ?_
        refine Ch.step (v := (.d (.slice false 1 (xs.map D.str)))) rfl (.pure (.move _ rfl rfl)) rfl rfl ?_
        refine Ch.step (v := (.row 37000)) rfl (.call 37000 23 _ _ _ en23 rfl (.inl rfl) (.cons (.d _) .nil) rfl (sol (solid_row (fun _ => rfl) _) rfl) (sp_laws_toStringS xs (by first | omega | assumption | (exact hx _ (getD_mem (by omega))) | (exact hx _ (by assumption)) | (exact Nat.le_trans (hx _ (by assumption)) (by omega)) | (simp_all; done))) (.skip _ _ .nil) rfl) rfl rfl ?_
        refine Ch.step (v := (.d (.bool (decide (xs = xs))))) rfl (.call 38000 25 _ _ _ en25 rfl (.inl rfl) (.cons (.lend (.row rfl (frozs_map (fun _ => rfl) _))) (.cons (.lend (.row rfl (frozs_map (fun _ => rfl) _))) .nil)) rfl rfl (sp_laws_eqStringS xs xs (by first | omega | assumption | (exact hx _ (getD_mem (by omega))) | (exact hx _ (by assumption)) | (exact Nat.le_trans (hx _ (by assumption)) (by omega)) | (simp_all; done))) (.skip _ _ (.skip _ _ .nil)) rfl) rfl rfl ?_
        refine Ch.step (v := (.d (.bool (!(decide (xs = xs)))))) rfl (.pure (.not _ _ rfl rfl)) rfl rfl ?_
        refine Ch.nil ?_
        refine T_cond (b := (!(decide (xs = xs)))) rfl (fun h4 => ?_) (fun h4 => ?_)
        · replace h4 := nott h4
          replace h4 := of_decide_eq_false h4
          refine T_seq ?_
          refine T_region hc ?_
          refine Ch.step (v := (.d (.bool false))) rfl (.pure (.assign _ rfl rfl)) rfl rfl ?_
          refine Ch.nil ?_
          refine T_ret ?_
          refine And.intro (.inr rfl) ?_
          exact Exists.intro [(.d (.bool false))] (Exists.intro [] (Exists.intro [] (And.intro (.cons (.tmp 2 rfl) .nil) (And.intro (.cons (.any _) .nil) (And.intro (Exp.of (congrArg D.bool (by first | rfl | (simp_all; done))) (.d _)) (And.intro rfl rfl))))))
        · replace h4 := notf h4
          replace h4 := of_decide_eq_true h4
          refine T_skip ?_
          refine T_seq ?_
          refine T_region hc ?_
          refine Ch.step (v := (.d (.bool true))) rfl (.pure (.assign _ rfl rfl)) rfl rfl ?_
          refine Ch.nil ?_
          refine T_ret ?_
          refine And.intro (.inr rfl) ?_
          exact Exists.intro [(.d (.bool true))] (Exists.intro [] (Exists.intro [] (And.intro (.cons (.tmp 2 rfl) .nil) (And.intro (.cons (.any _) .nil) (And.intro (.d _) (And.intro rfl rfl))))))
    | false =>
      replace h2 := of_decide_eq_false h2
      refine Ch.skip rfl rfl ?_
      refine Ch.skip rfl rfl ?_
      refine Ch.skip rfl rfl ?_
      refine Ch.step (v := (.d (.bool true))) rfl (.pure (.pickT _ _ _ rfl rfl rfl)) rfl rfl ?_
      refine Ch.nil ?_
      refine T_cond (b := true) rfl (fun _ => ?_) (fun h => nomatch h)
      refine T_seq ?_
      refine T_region hc ?_
      refine Ch.step (v := (.d (.bool false))) rfl (.pure (.assign _ rfl rfl)) rfl rfl ?_
      refine Ch.nil ?_
      refine T_ret ?_
      refine And.intro (.inr rfl) ?_
      exact Exists.intro [(.d (.bool false))] (Exists.intro [] (Exists.intro [] (And.intro (.cons (.tmp 2 rfl) .nil) (And.intro (.cons (.any _) .nil) (And.intro (Exp.of (congrArg D.bool (by first | rfl | (simp_all; done))) (.d _)) (And.intro rfl rfl))))))

end Go.AM
