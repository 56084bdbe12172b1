/-
  Contracts: cubes; primes.
-/
import Derived.Test.YtfnomecncgejbaaCp
import Derived.Test.YtfnomecncgejbaaCj
import Derived.Test.YtfnomecncgejbaaCe
namespace Go.AM
open Go.Proofs
set_option linter.unusedVariables false
set_option linter.unusedSimpArgs false

theorem en170 : Enters Try.prog 170 := ⟨_, Try.func170, by kernel_rfl, rfl⟩
theorem en169 : Enters Try.prog 169 := ⟨_, Try.func169, by kernel_rfl, rfl⟩
theorem en147 : Enters Try.prog 147 := ⟨_, Try.func147, by kernel_rfl, rfl⟩
theorem en151 : Enters Try.prog 151 := ⟨_, Try.func151, by kernel_rfl, rfl⟩
theorem en146 : Enters Try.prog 146 := ⟨_, Try.func146, by kernel_rfl, rfl⟩
theorem en148 : Enters Try.prog 148 := ⟨_, Try.func148, by kernel_rfl, rfl⟩
theorem en152 : Enters Try.prog 152 := ⟨_, Try.func152, by kernel_rfl, rfl⟩
theorem en149 : Enters Try.prog 149 := ⟨_, Try.func149, by kernel_rfl, rfl⟩
theorem en150 : Enters Try.prog 150 := ⟨_, Try.func150, by kernel_rfl, rfl⟩
theorem en103 : Enters Try.prog 103 := ⟨_, Try.func103, by kernel_rfl, rfl⟩
theorem en104 : Enters Try.prog 104 := ⟨_, Try.func104, by kernel_rfl, rfl⟩
theorem en47 : Enters Try.prog 47 := ⟨_, Try.func47, by kernel_rfl, rfl⟩
theorem en48 : Enters Try.prog 48 := ⟨_, Try.func48, by kernel_rfl, rfl⟩

def ftake {τ : Type} (p : τ → Bool) (xs : List τ) (k : Nat) : List τ := (xs.take k).filter p
theorem ftake_yes {τ : Type} [Inhabited τ] {p : τ → Bool} {xs : List τ} {k : Nat} (hk : k < xs.length) (h : p (xs.getD k default) = true) : ftake p xs k ++ [xs.getD k default] = ftake p xs (k + 1) := by
  have hg : xs.getD k default = xs[k] := by simp [hk]
  rw [hg] at h ⊢
  rw [ftake, ftake, List.take_succ_eq_append_getElem hk, List.filter_append]; simp [h]
theorem ftake_no {τ : Type} [Inhabited τ] {p : τ → Bool} {xs : List τ} {k : Nat} (hk : k < xs.length) (h : p (xs.getD k default) = false) : ftake p xs k = ftake p xs (k + 1) := by
  have hg : xs.getD k default = xs[k] := by simp [hk]
  rw [hg] at h
  rw [ftake, ftake, List.take_succ_eq_append_getElem hk, List.filter_append]; simp [h]
theorem ftake_all {τ : Type} {p : τ → Bool} {xs : List τ} {k : Nat} (h : xs.length ≤ k) : ftake p xs k = xs.filter p := by rw [ftake, List.take_of_length_le h]
theorem ftake_le {τ : Type} (p : τ → Bool) (xs : List τ) (k : Nat) : (ftake p xs k).length ≤ k := by
  have h1 := List.length_filter_le p (xs.take k)
  rw [List.length_take] at h1
  unfold ftake; omega
def three (u : List UInt8) : List (List UInt8) := [u ++ [45], u ++ [48], u ++ [49]]
def cubes : Nat → List (List UInt8)
  | 0 => [[]]
  | n + 1 => (cubes n).flatMap three
def cubesMid (k m : Nat) : List (List UInt8) := ((cubes k).take m).flatMap three
theorem cubesMid_all {k m : Nat} (h : (cubes k).length ≤ m) : cubesMid k m = cubes (k + 1) := by rw [cubesMid, List.take_of_length_le h]; rfl
theorem cubesMid_succ {k m : Nat} (h : m < (cubes k).length) : cubesMid k m ++ [(cubes k).getD m default ++ [45], (cubes k).getD m default ++ [48], (cubes k).getD m default ++ [49]] = cubesMid k (m + 1) := by
  rw [cubesMid, cubesMid, List.take_succ_eq_append_getElem h, List.flatMap_append]; simp [three, h]
theorem three_length : ∀ l : List (List UInt8), (l.flatMap three).length = 3 * l.length
  | [] => rfl
  | u :: l => by rw [List.flatMap_cons, List.length_append, three_length l]; simp [three]; omega
theorem cubes_length : ∀ n, (cubes n).length = 3 ^ n
  | 0 => rfl
  | n + 1 => by rw [cubes, three_length, cubes_length n]; omega
theorem cubesMid_length (k m : Nat) (h : m ≤ (cubes k).length) : (cubesMid k m).length = 3 * m := by rw [cubesMid, three_length, List.length_take, Nat.min_eq_left h]
theorem cubes_mem : ∀ n, ∀ u ∈ cubes n, u.length = n
  | 0, u, h => by simp [cubes] at h; simp [h]
  | n + 1, u, h => by
    rw [cubes, List.mem_flatMap] at h
    obtain ⟨v, hv, hu⟩ := h
    have := cubes_mem n v hv
    simp [three] at hu
    rcases hu with rfl | rfl | rfl <;> simp [this]

theorem sp_impl_allCubes (n : Int) (h0 : 0 ≤ n) (hn : n ≤ 8) : Sp Try.prog 149 [(.int .i64 n)] [.any] (.slice true 1 ((cubes n.toNat).map D.str)) := by
  refine Sp_intro (lend := true) Try.func149 rfl rfl rfl (fun _ => rfl) (fun c hc hX => ?_)
  refine T_seq ?_
  refine T_region hc ?_
  refine Ch.step (v := (.c (.slice none 0 0))) rfl (.pure (.assign _ rfl rfl)) rfl rfl ?_
  refine Ch.nil ?_
  refine T_seq ?_
  refine T_region hc ?_
  refine Ch.step (v := (.row 7000)) rfl (.slice 7000 _ 9 _ rfl sty22 (xs := [.const (.string { data := #[] })]) rfl rfl (.cons (.d _) .nil) rfl rfl (by decide)) rfl rfl ?_
  refine Ch.step (v := (.row 7000)) rfl (.pure (.assign _ rfl rfl)) rfl rfl ?_
  refine Ch.nil ?_
  refine T_seq ?_
  refine T_seq ?_
  refine T_region hc ?_
  refine Ch.step (v := (.d (.int .i64 n))) rfl (.pure (.move _ rfl rfl)) rfl rfl ?_
  refine Ch.step (v := (.d (.int .i64 0))) rfl (.pure (.move _ rfl rfl)) rfl rfl ?_
  refine Ch.nil ?_
  refine T_block ?_
  refine T_loop (ι := Nat) (fun k => { n := 31, sl := [(3, (.row 3)), (8, (.d (.int .i64 n))), (9, (.d (.int .i64 ((k : Nat) : Int))))], hp := [(3, (some (.row 1 ((cubes k).map D.str))))], pin := [] }) (fun k => (k : Int) ≤ n) (fun k => n.toNat - k) ⟨0, (by omega), (Wk.ren [(3, 7000)] rfl rfl rfl rfl (And.intro rfl (And.intro rfl (And.intro (vI (by first | rfl | omega | (simp; done) | (simp; omega))) trivial))) (And.intro (oR (by first | rfl | (rw [cubesMid_all (by omega)]; done))) trivial))⟩ (fun k hp0 => ?_)
  have hl := cubes_length k; have hp3 : 3 ^ k ≤ 3 ^ 8 := Nat.pow_le_pow_right (by omega) (by omega)
  refine T_seq ?_
  refine T_region hc ?_
  refine Ch.step (v := (.d (.bool (decide (((k : Nat) : Int) < n))))) rfl (.pure (.int _ _ _ _ _ rfl rfl rfl rfl)) rfl rfl ?_
  refine Ch.nil ?_
  refine T_seq ?_
  refine T_cond (b := (decide (((k : Nat) : Int) < n))) rfl (fun h1 => ?_) (fun h1 => ?_)
  · replace h1 := of_decide_eq_true h1
    refine T_skip ?_
    refine T_seq ?_
    refine T_block ?_
    refine T_seq ?_
    refine T_region hc ?_
    refine Ch.step (v := (.row 11000)) rfl (.slice 11000 _ 9 _ rfl sty22 (xs := []) rfl rfl .nil rfl rfl (by decide)) rfl rfl ?_
    refine Ch.step (v := (.row 11000)) rfl (.pure (.assign _ rfl rfl)) rfl rfl ?_
    refine Ch.nil ?_
    refine T_seq ?_
    refine T_seq ?_
    refine T_region hc ?_
    refine Ch.step (v := (.row 3)) rfl (.pure (.move _ rfl rfl)) rfl rfl ?_
    refine Ch.step (v := (.d (.int .i64 (((cubes k).length : Nat) : Int)))) rfl (.pure (.len _ _ 9 rfl Try.underlying22 (.row rfl) (by simp))) rfl rfl ?_
    refine Ch.step (v := (.d (.int .i64 0))) rfl (.pure (.move _ rfl rfl)) rfl rfl ?_
    refine Ch.nil ?_
    refine T_block ?_
    refine T_loop (ι := Nat) (fun m => { n := 31, sl := [(4, (.row 4)), (8, (.d (.int .i64 n))), (9, (.d (.int .i64 ((k : Nat) : Int)))), (12, (.row 3)), (13, (.d (.int .i64 (((cubes k).length : Nat) : Int)))), (14, (.d (.int .i64 ((m : Nat) : Int))))], hp := [(3, (some (.row 1 ((cubes k).map D.str)))), (4, (some (.row 1 ((cubesMid k m).map D.str))))], pin := [] }) (fun m => m ≤ (cubes k).length) (fun m => (cubes k).length - m) ⟨0, (by omega), (Wk.ren [(4, 11000)] rfl rfl rfl rfl (And.intro rfl (And.intro rfl (And.intro rfl (And.intro rfl (And.intro rfl (And.intro (vI (by first | rfl | omega | (simp; done) | (simp; omega))) trivial)))))) (And.intro rfl (And.intro (oR (by first | rfl | (rw [← cubesMid_succ (by omega), List.map_append]; rfl))) trivial)))⟩ (fun m hp1 => ?_)
    have hm := cubesMid_length k m hp1
    refine T_seq ?_
    refine T_region hc ?_
    refine Ch.step (v := (.d (.bool (decide (((m : Nat) : Int) < (((cubes k).length : Nat) : Int)))))) rfl (.pure (.int _ _ _ _ _ rfl rfl rfl rfl)) rfl rfl ?_
    refine Ch.nil ?_
    refine T_seq ?_
    refine T_cond (b := (decide (((m : Nat) : Int) < (((cubes k).length : Nat) : Int)))) rfl (fun h2 => ?_) (fun h2 => ?_)
    · replace h2 := of_decide_eq_true h2
      try have hk := cubes_mem k _ (getD_mem (l := cubes k) (j := m) (d := default) (by omega))
      refine T_skip ?_
      refine T_seq ?_
      refine T_block ?_
      refine T_seq ?_
      refine T_region hc ?_
      refine Ch.step (v := (.el 3 1 m 0)) rfl (.pure (.idxRow _ _ _ 9 (m) rfl Try.underlying22 sz9 rfl rfl rfl rfl (by first | omega | (simp; omega)))) rfl rfl ?_
      refine Ch.step (v := (.d (.str ((cubes k).getD m default)))) rfl (.pure (.loadEl1 _ _ rfl ag9 rfl rfl (get_map _ (by first | omega | (simp only [List.length_map, List.length_append, List.length_take, List.length_drop, List.length_cons, List.length_nil]; omega) | (simp; omega) | (simp; done))) rfl rfl rfl)) rfl rfl ?_
      refine Ch.step (v := (.d (.str ((cubes k).getD m default)))) rfl (.pure (.assign _ rfl rfl)) rfl rfl ?_
      refine Ch.nil ?_
      refine T_region hc ?_
      refine Ch.step (v := (.row 4)) rfl (.pure (.move _ rfl rfl)) rfl rfl ?_
      refine Ch.step (v := (.d (.str ((cubes k).getD m default)))) rfl (.pure (.move _ rfl rfl)) rfl rfl ?_
      refine Ch.step (v := (.d (.str (((cubes k).getD m default) ++ [45])))) rfl (.pure (.str _ _ _ _ _ rfl rfl rfl (strV_add (by first | omega | (simp only [List.length_map, List.length_append, List.length_take, List.length_drop, List.length_cons, List.length_nil]; omega) | (simp; omega) | (simp; done))))) rfl rfl ?_
      refine Ch.step (v := (.d (.str ((cubes k).getD m default)))) rfl (.pure (.move _ rfl rfl)) rfl rfl ?_
      refine Ch.step (v := (.d (.str (((cubes k).getD m default) ++ [48])))) rfl (.pure (.str _ _ _ _ _ rfl rfl rfl (strV_add (by first | omega | (simp only [List.length_map, List.length_append, List.length_take, List.length_drop, List.length_cons, List.length_nil]; omega) | (simp; omega) | (simp; done))))) rfl rfl ?_
      refine Ch.step (v := (.d (.str ((cubes k).getD m default)))) rfl (.pure (.move _ rfl rfl)) rfl rfl ?_
      refine Ch.step (v := (.d (.str (((cubes k).getD m default) ++ [49])))) rfl (.pure (.str _ _ _ _ _ rfl rfl rfl (strV_add (by first | omega | (simp only [List.length_map, List.length_append, List.length_take, List.length_drop, List.length_cons, List.length_nil]; omega) | (simp; omega) | (simp; done))))) rfl rfl ?_
      refine Ch.step (v := (.row 25000)) rfl (.slice 25000 _ 9 _ rfl sty22 (xs := [.tmp 20, .tmp 22, .tmp 24]) rfl rfl (.cons (.d _) (.cons (.d _) (.cons (.d _) .nil))) rfl rfl (by decide)) rfl rfl ?_
      refine Ch.step (v := (.row 26000)) rfl (.append 26000 _ _ _ 9 rfl sty22 (by decide) (.rowK rfl) (.inr ⟨_, rfl, rfl⟩) (.row rfl rfl) rfl (by first | omega | (simp; omega) | (simp; done))) rfl rfl ?_
      refine Ch.step (v := (.row 26000)) rfl (.pure (.assign _ rfl rfl)) rfl rfl ?_
      refine Ch.nil ?_
      refine T_region hc ?_
      refine Ch.step (v := (.d (.int .i64 (((m : Nat) : Int) + 1)))) rfl (.pure (.int _ _ _ _ _ rfl rfl rfl (intV_add (by first | omega | (simp only [List.length_map, List.length_append, List.length_take, List.length_drop, List.length_cons, List.length_nil]; omega) | (simp; omega) | (simp; done)) (by first | omega | (simp only [List.length_map, List.length_append, List.length_take, List.length_drop, List.length_cons, List.length_nil]; omega) | (simp; omega) | (simp; done))))) rfl rfl ?_
      refine Ch.step (v := (.d (.int .i64 (((m : Nat) : Int) + 1)))) rfl (.pure (.move _ rfl rfl)) rfl rfl ?_
      refine Ch.nil ?_
      refine Exists.intro (m + 1) (And.intro (by omega) (And.intro (by first | omega | (dsimp only; omega)) (Wk.ren [(4, 26000)] rfl rfl rfl rfl (And.intro rfl (And.intro rfl (And.intro rfl (And.intro rfl (And.intro rfl (And.intro (vI (by first | rfl | omega | (simp; done) | (simp; omega))) trivial)))))) (And.intro rfl (And.intro (oR (by first | rfl | (rw [← cubesMid_succ (by omega), List.map_append]; rfl))) trivial)))))
    · replace h2 := of_decide_eq_false h2
      try have hk := cubes_mem k _ (getD_mem (l := cubes k) (j := m) (d := default) (by omega))
      refine T_exit ?_
      refine T_region hc ?_
      refine Ch.step (v := (.row 4)) rfl (.pure (.move _ rfl rfl)) rfl rfl ?_
      refine Ch.step (v := (.row 4)) rfl (.pure (.assign _ rfl rfl)) rfl rfl ?_
      refine Ch.nil ?_
      refine T_region hc ?_
      refine Ch.step (v := (.d (.int .i64 (((k : Nat) : Int) + 1)))) rfl (.pure (.int _ _ _ _ _ rfl rfl rfl (intV_add (by first | omega | (simp only [List.length_map, List.length_append, List.length_take, List.length_drop, List.length_cons, List.length_nil]; omega) | (simp; omega) | (simp; done)) (by first | omega | (simp only [List.length_map, List.length_append, List.length_take, List.length_drop, List.length_cons, List.length_nil]; omega) | (simp; omega) | (simp; done))))) rfl rfl ?_
      refine Ch.step (v := (.d (.int .i64 (((k : Nat) : Int) + 1)))) rfl (.pure (.move _ rfl rfl)) rfl rfl ?_
      refine Ch.nil ?_
      refine Exists.intro (k + 1) (And.intro (by omega) (And.intro (by first | omega | (dsimp only; omega)) (Wk.ren [(3, 4)] rfl rfl rfl rfl (And.intro rfl (And.intro rfl (And.intro (vI (by first | rfl | omega | (simp; done) | (simp; omega))) trivial))) (And.intro (oR (by first | rfl | (rw [cubesMid_all (by omega)]; done))) trivial))))
  · replace h1 := of_decide_eq_false h1
    refine T_exit ?_
    refine T_seq ?_
    refine T_region hc ?_
    refine Ch.step (v := (.row 3)) rfl (.pure (.move _ rfl rfl)) rfl rfl ?_
    refine Ch.step (v := (.row 3)) rfl (.pure (.assign _ rfl rfl)) rfl rfl ?_
    refine Ch.nil ?_
    refine T_ret ?_
    refine And.intro (.inr rfl) ?_
    exact Exists.intro [(.row 3)] (Exists.intro [] (Exists.intro [3] (And.intro (.cons (.tmp 2 rfl) .nil) (And.intro (.cons (.any _) .nil) (And.intro (Exp.of (congrArg (D.slice true 1) (by rw [show n.toNat = k by omega])) (.row rfl)) (And.intro rfl rfl))))))

theorem sp_spec_l14Cubes (n : Int) (h0 : 0 ≤ n) (hn : n ≤ 8) : Sp Try.prog 146 [(.int .i64 n)] [.any] (.slice true 1 ((cubes n.toNat).map D.str)) := by
  refine Sp_intro (lend := true) Try.func146 rfl rfl rfl (fun _ => rfl) (fun c hc hX => ?_)
  refine T_seq ?_
  refine T_region hc ?_
  refine Ch.step (v := (.c (.slice none 0 0))) rfl (.pure (.assign _ rfl rfl)) rfl rfl ?_
  refine Ch.nil ?_
  refine T_seq ?_
  refine T_region hc ?_
  refine Ch.step (v := (.row 7000)) rfl (.slice 7000 _ 9 _ rfl sty22 (xs := [.const (.string { data := #[] })]) rfl rfl (.cons (.d _) .nil) rfl rfl (by decide)) rfl rfl ?_
  refine Ch.step (v := (.row 7000)) rfl (.pure (.assign _ rfl rfl)) rfl rfl ?_
  refine Ch.nil ?_
  refine T_seq ?_
  refine T_block ?_
  refine T_loop (ι := Nat) (fun k => { n := 30, sl := [(0, (.d (.int .i64 (n - k)))), (3, (.row 3))], hp := [(3, (some (.row 1 ((cubes k).map D.str))))], pin := [] }) (fun k => (k : Int) ≤ n) (fun k => n.toNat - k) ⟨0, (by omega), (Wk.ren [(3, 7000)] rfl rfl rfl rfl (And.intro (vI (by omega)) (And.intro rfl trivial)) (And.intro (oR (by first | rfl | (rw [cubesMid_all (by omega)]; done))) trivial))⟩ (fun k hp0 => ?_)
  have hl := cubes_length k; have hp3 : 3 ^ k ≤ 3 ^ 8 := Nat.pow_le_pow_right (by omega) (by omega)
  refine T_seq ?_
  refine T_seq ?_
  refine T_region hc ?_
  refine Ch.step (v := (.d (.int .i64 (n - k)))) rfl (.pure (.move _ rfl rfl)) rfl rfl ?_
  refine Ch.step (v := (.d (.bool (decide (0 < (n - k)))))) rfl (.pure (.int _ _ _ _ _ rfl rfl rfl rfl)) rfl rfl ?_
  refine Ch.nil ?_
  refine T_cond (b := (decide (0 < (n - k)))) rfl (fun h1 => ?_) (fun h1 => ?_)
  · replace h1 := of_decide_eq_true h1
    refine T_skip ?_
    refine T_seq ?_
    refine T_block ?_
    refine T_seq ?_
    refine T_region hc ?_
    refine Ch.step (v := (.c (.slice none 0 0))) rfl (.pure (.assign _ rfl rfl)) rfl rfl ?_
    refine Ch.nil ?_
    refine T_seq ?_
    refine T_seq ?_
    refine T_region hc ?_
    refine Ch.step (v := (.row 3)) rfl (.pure (.move _ rfl rfl)) rfl rfl ?_
    refine Ch.step (v := (.d (.int .i64 (((cubes k).length : Nat) : Int)))) rfl (.pure (.len _ _ 9 rfl Try.underlying22 (.row rfl) (by simp))) rfl rfl ?_
    refine Ch.step (v := (.d (.int .i64 0))) rfl (.pure (.move _ rfl rfl)) rfl rfl ?_
    refine Ch.nil ?_
    refine T_block ?_
    refine T_loop (ι := Nat) (fun m => { n := 30, sl := [(0, (.d (.int .i64 (n - k)))), (4, (.row 4)), (12, (.row 3)), (13, (.d (.int .i64 (((cubes k).length : Nat) : Int)))), (14, (.d (.int .i64 ((m : Nat) : Int))))], hp := [(3, (some (.row 1 ((cubes k).map D.str)))), (4, (some (.row 1 ((cubesMid k m).map D.str))))], pin := [] }) (fun m => m ≤ (cubes k).length) (fun m => (cubes k).length - m) ⟨0, (by omega), (Wk.trans (Wk.nilrow 4 900004 1 rfl rfl rfl) (Wk.ren [(4, 900004)] rfl rfl rfl rfl (And.intro rfl (And.intro rfl (And.intro rfl (And.intro rfl (And.intro (vI (by first | rfl | omega | (simp; done) | (simp; omega))) trivial))))) (And.intro rfl (And.intro (oR (by first | rfl | (rw [← cubesMid_succ (by omega), List.map_append]; rfl))) trivial))))⟩ (fun m hp1 => ?_)
    have hm := cubesMid_length k m hp1
    refine T_seq ?_
    refine T_region hc ?_
    refine Ch.step (v := (.d (.bool (decide (((m : Nat) : Int) < (((cubes k).length : Nat) : Int)))))) rfl (.pure (.int _ _ _ _ _ rfl rfl rfl rfl)) rfl rfl ?_
    refine Ch.nil ?_
    refine T_seq ?_
    refine T_cond (b := (decide (((m : Nat) : Int) < (((cubes k).length : Nat) : Int)))) rfl (fun h2 => ?_) (fun h2 => ?_)
    · replace h2 := of_decide_eq_true h2
      try have hk := cubes_mem k _ (getD_mem (l := cubes k) (j := m) (d := default) (by omega))
      refine T_skip ?_
      refine T_seq ?_
      refine T_block ?_
      refine T_seq ?_
      refine T_region hc ?_
      refine Ch.step (v := (.el 3 1 m 0)) rfl (.pure (.idxRow _ _ _ 9 (m) rfl Try.underlying22 sz9 rfl rfl rfl rfl (by first | omega | (simp; omega)))) rfl rfl ?_
      refine Ch.step (v := (.d (.str ((cubes k).getD m default)))) rfl (.pure (.loadEl1 _ _ rfl ag9 rfl rfl (get_map _ (by first | omega | (simp only [List.length_map, List.length_append, List.length_take, List.length_drop, List.length_cons, List.length_nil]; omega) | (simp; omega) | (simp; done))) rfl rfl rfl)) rfl rfl ?_
      refine Ch.step (v := (.d (.str ((cubes k).getD m default)))) rfl (.pure (.assign _ rfl rfl)) rfl rfl ?_
      refine Ch.nil ?_
      refine T_region hc ?_
      refine Ch.step (v := (.row 4)) rfl (.pure (.move _ rfl rfl)) rfl rfl ?_
      refine Ch.step (v := (.d (.str ((cubes k).getD m default)))) rfl (.pure (.move _ rfl rfl)) rfl rfl ?_
      refine Ch.step (v := (.d (.str (((cubes k).getD m default) ++ [45])))) rfl (.pure (.str _ _ _ _ _ rfl rfl rfl (strV_add (by first | omega | (simp only [List.length_map, List.length_append, List.length_take, List.length_drop, List.length_cons, List.length_nil]; omega) | (simp; omega) | (simp; done))))) rfl rfl ?_
      refine Ch.step (v := (.d (.str ((cubes k).getD m default)))) rfl (.pure (.move _ rfl rfl)) rfl rfl ?_
      refine Ch.step (v := (.d (.str (((cubes k).getD m default) ++ [48])))) rfl (.pure (.str _ _ _ _ _ rfl rfl rfl (strV_add (by first | omega | (simp only [List.length_map, List.length_append, List.length_take, List.length_drop, List.length_cons, List.length_nil]; omega) | (simp; omega) | (simp; done))))) rfl rfl ?_
      refine Ch.step (v := (.d (.str ((cubes k).getD m default)))) rfl (.pure (.move _ rfl rfl)) rfl rfl ?_
      refine Ch.step (v := (.d (.str (((cubes k).getD m default) ++ [49])))) rfl (.pure (.str _ _ _ _ _ rfl rfl rfl (strV_add (by first | omega | (simp only [List.length_map, List.length_append, List.length_take, List.length_drop, List.length_cons, List.length_nil]; omega) | (simp; omega) | (simp; done))))) rfl rfl ?_
      refine Ch.step (v := (.row 25000)) rfl (.slice 25000 _ 9 _ rfl sty22 (xs := [.tmp 20, .tmp 22, .tmp 24]) rfl rfl (.cons (.d _) (.cons (.d _) (.cons (.d _) .nil))) rfl rfl (by decide)) rfl rfl ?_
      refine Ch.step (v := (.row 26000)) rfl (.append 26000 _ _ _ 9 rfl sty22 (by decide) (.rowK rfl) (.inr ⟨_, rfl, rfl⟩) (.row rfl rfl) rfl (by first | omega | (simp; omega) | (simp; done))) rfl rfl ?_
      refine Ch.step (v := (.row 26000)) rfl (.pure (.assign _ rfl rfl)) rfl rfl ?_
      refine Ch.nil ?_
      refine T_region hc ?_
      refine Ch.step (v := (.d (.int .i64 (((m : Nat) : Int) + 1)))) rfl (.pure (.int _ _ _ _ _ rfl rfl rfl (intV_add (by first | omega | (simp only [List.length_map, List.length_append, List.length_take, List.length_drop, List.length_cons, List.length_nil]; omega) | (simp; omega) | (simp; done)) (by first | omega | (simp only [List.length_map, List.length_append, List.length_take, List.length_drop, List.length_cons, List.length_nil]; omega) | (simp; omega) | (simp; done))))) rfl rfl ?_
      refine Ch.step (v := (.d (.int .i64 (((m : Nat) : Int) + 1)))) rfl (.pure (.move _ rfl rfl)) rfl rfl ?_
      refine Ch.nil ?_
      refine Exists.intro (m + 1) (And.intro (by omega) (And.intro (by first | omega | (dsimp only; omega)) (Wk.ren [(4, 26000)] rfl rfl rfl rfl (And.intro rfl (And.intro rfl (And.intro rfl (And.intro rfl (And.intro (vI (by first | rfl | omega | (simp; done) | (simp; omega))) trivial))))) (And.intro rfl (And.intro (oR (by first | rfl | (rw [← cubesMid_succ (by omega), List.map_append]; rfl))) trivial)))))
    · replace h2 := of_decide_eq_false h2
      try have hk := cubes_mem k _ (getD_mem (l := cubes k) (j := m) (d := default) (by omega))
      refine T_exit ?_
      refine T_region hc ?_
      refine Ch.step (v := (.row 4)) rfl (.pure (.move _ rfl rfl)) rfl rfl ?_
      refine Ch.step (v := (.row 4)) rfl (.pure (.assign _ rfl rfl)) rfl rfl ?_
      refine Ch.nil ?_
      refine T_region hc ?_
      refine Ch.step (v := (.d (.int .i64 (n - k)))) rfl (.pure (.move _ rfl rfl)) rfl rfl ?_
      refine Ch.step (v := (.d (.int .i64 ((n - k) - 1)))) rfl (.pure (.int _ _ _ _ _ rfl rfl rfl (intV_sub (by first | omega | (simp only [List.length_map, List.length_append, List.length_take, List.length_drop, List.length_cons, List.length_nil]; omega) | (simp; omega) | (simp; done)) (by first | omega | (simp only [List.length_map, List.length_append, List.length_take, List.length_drop, List.length_cons, List.length_nil]; omega) | (simp; omega) | (simp; done))))) rfl rfl ?_
      refine Ch.step (v := (.d (.int .i64 ((n - k) - 1)))) rfl (.pure (.assign _ rfl rfl)) rfl rfl ?_
      refine Ch.nil ?_
      refine Exists.intro (k + 1) (And.intro (by omega) (And.intro (by first | omega | (dsimp only; omega)) (Wk.ren [(3, 4)] rfl rfl rfl rfl (And.intro (vI (by omega)) (And.intro rfl trivial)) (And.intro (oR (by first | rfl | (rw [cubesMid_all (by omega)]; done))) trivial))))
  · replace h1 := of_decide_eq_false h1
    refine T_exit ?_
    refine T_seq ?_
    refine T_region hc ?_
    refine Ch.step (v := (.row 3)) rfl (.pure (.move _ rfl rfl)) rfl rfl ?_
    refine Ch.step (v := (.row 3)) rfl (.pure (.assign _ rfl rfl)) rfl rfl ?_
    refine Ch.nil ?_
    refine T_ret ?_
    refine And.intro (.inr rfl) ?_
    exact Exists.intro [(.row 3)] (Exists.intro [] (Exists.intro [3] (And.intro (.cons (.tmp 2 rfl) .nil) (And.intro (.cons (.any _) .nil) (And.intro (Exp.of (congrArg (D.slice true 1) (by rw [show n.toNat = k by omega])) (.row rfl)) (And.intro rfl rfl))))))

def anyB (a : List UInt8) (us : List (List UInt8)) : Bool := us.any fun u => hasB a u
def dashAt (a : List UInt8) (j : Nat) : List UInt8 := a.take j ++ [45] ++ a.drop (j + 1)
theorem dashAt_length {a : List UInt8} {j : Nat} (h : j < a.length) : (dashAt a j).length = a.length := by simp [dashAt]; omega
def primeB (a : List UInt8) (off : List (List UInt8)) : Bool := allB a.length fun j => !(isLit a j && !anyB (dashAt a j) off)
def primP (on off : List (List UInt8)) (a : List UInt8) : Bool := anyB a on && (!anyB a off && primeB a off)
def primL (n : Nat) (on off : List (List UInt8)) : List (List UInt8) := (cubes n).filter (primP on off)

theorem sp_spec_l14Any (a : List UInt8) (us : List (List UInt8)) (hn : us.length ≤ 1048576) (ha : a.length ≤ 1048576) (hx : ∀ u ∈ us, a.length ≤ u.length) : Sp Try.prog 147 [(.str a), (.slice false 1 (us.map D.str))] [.any, .any] (.bool (anyB a us)) := by
  refine Sp_intro (lend := true) Try.func147 rfl rfl rfl (fun _ => rfl) (fun c hc hX => ?_)
  refine T_seq ?_
  refine T_region hc ?_
  refine Ch.step (v := (.d (.bool false))) rfl (.pure (.assign _ rfl rfl)) rfl rfl ?_
  refine Ch.nil ?_
  refine T_seq ?_
  refine T_seq ?_
  refine T_region hc ?_
  refine Ch.step (v := (.d (.slice false 1 (us.map D.str)))) rfl (.pure (.move _ rfl rfl)) rfl rfl ?_
  refine Ch.step (v := (.d (.int .i64 ((us.length : Nat) : Int)))) rfl (.pure (.len _ _ 9 rfl Try.underlying22 (.sh _ _) (by simp))) rfl rfl ?_
  refine Ch.step (v := (.d (.int .i64 0))) rfl (.pure (.move _ rfl rfl)) rfl rfl ?_
  refine Ch.nil ?_
  refine T_block ?_
  refine T_loop (ι := Nat) (fun k => { n := 17, sl := [(0, (.d (.str a))), (7, (.d (.slice false 1 (us.map D.str)))), (8, (.d (.int .i64 ((us.length : Nat) : Int)))), (9, (.d (.int .i64 ((k : Nat) : Int))))], hp := [], pin := [] }) (fun k => k ≤ us.length ∧ ∀ j, j < k → hasB a (us.getD j default) = false) (fun k => us.length - k) ⟨0, ⟨by omega, fun j hj => by omega⟩, (Wk.of rfl rfl (And.intro rfl (And.intro rfl (And.intro rfl (And.intro (vI (by first | rfl | omega | (simp; done) | (simp; omega))) trivial)))) trivial)⟩ (fun k hp0 => ?_)
  refine T_seq ?_
  refine T_region hc ?_
  refine Ch.step (v := (.d (.bool (decide (((k : Nat) : Int) < ((us.length : Nat) : Int)))))) rfl (.pure (.int _ _ _ _ _ rfl rfl rfl rfl)) rfl rfl ?_
  refine Ch.nil ?_
  refine T_seq ?_
  refine T_cond (b := (decide (((k : Nat) : Int) < ((us.length : Nat) : Int)))) rfl (fun h1 => ?_) (fun h1 => ?_)
  · replace h1 := of_decide_eq_true h1
    try have hk := hx _ (getD_mem (l := us) (j := k) (d := default) (by omega))
    refine T_skip ?_
    refine T_seq ?_
    refine T_block ?_
    refine T_seq ?_
    refine T_region hc ?_
    refine Ch.step (v := (.d (.ref (.str (us.getD k default))))) rfl (.pure (.idx _ _ _ 9 (k) rfl Try.underlying22 sz9 rfl rfl rfl (get_map _ (by first | omega | (simp only [List.length_map, List.length_append, List.length_take, List.length_drop, List.length_cons, List.length_nil]; omega) | (simp; omega) | (simp; done))))) rfl rfl ?_
    refine Ch.step (v := (.d (.str (us.getD k default)))) rfl (.pure (.loadRef1 _ _ rfl ag9 rfl rfl)) rfl rfl ?_
    refine Ch.step (v := (.d (.str (us.getD k default)))) rfl (.pure (.assign _ rfl rfl)) rfl rfl ?_
    refine Ch.nil ?_
    refine T_seq ?_
    refine T_region hc ?_
    refine Ch.step (v := (.d (.str a))) rfl (.pure (.move _ rfl rfl)) rfl rfl ?_
    refine Ch.step (v := (.d (.str (us.getD k default)))) rfl (.pure (.move _ rfl rfl)) rfl rfl ?_
    refine Ch.step (v := (.d (.bool (hasB a (us.getD k default))))) rfl (.call 15000 158 _ _ _ en158 rfl (.inl rfl) (.cons (.d _) (.cons (.d _) .nil)) rfl rfl (sp_spec_l13Has a (us.getD k default) (by first | omega | assumption | (exact hx _ (getD_mem (by omega))) | (exact hx _ (by assumption)) | (exact Nat.le_trans (hx _ (by assumption)) (by omega)) | (simp only [List.length_append, List.length_take, List.length_drop, List.length_cons, List.length_nil]; omega) | (simp_all; done)) (by first | omega | assumption | (exact hx _ (getD_mem (by omega))) | (exact hx _ (by assumption)) | (exact Nat.le_trans (hx _ (by assumption)) (by omega)) | (simp only [List.length_append, List.length_take, List.length_drop, List.length_cons, List.length_nil]; omega) | (simp_all; done))) (.skip _ _ (.skip _ _ .nil)) rfl) rfl rfl ?_
    refine Ch.nil ?_
    refine T_cond (b := (hasB a (us.getD k default))) rfl (fun h2 => ?_) (fun h2 => ?_)
    · refine T_seq ?_
      refine T_region hc ?_
      refine Ch.step (v := (.d (.bool true))) rfl (.pure (.assign _ rfl rfl)) rfl rfl ?_
      refine Ch.nil ?_
      refine T_ret ?_
      refine And.intro (.inr rfl) ?_
      exact Exists.intro [(.d (.bool true))] (Exists.intro [] (Exists.intro [] (And.intro (.cons (.tmp 4 rfl) .nil) (And.intro (.cons (.any _) (.cons (.any _) .nil)) (And.intro (Exp.of (congrArg D.bool (by exact any_yes default k (by omega) (by assumption))) (.d _)) (And.intro rfl rfl))))))
    · refine T_skip ?_
      refine T_region hc ?_
      refine Ch.step (v := (.d (.int .i64 (((k : Nat) : Int) + 1)))) rfl (.pure (.int _ _ _ _ _ rfl rfl rfl (intV_add (by first | omega | (simp only [List.length_map, List.length_append, List.length_take, List.length_drop, List.length_cons, List.length_nil]; omega) | (simp; omega) | (simp; done)) (by first | omega | (simp only [List.length_map, List.length_append, List.length_take, List.length_drop, List.length_cons, List.length_nil]; omega) | (simp; omega) | (simp; done))))) rfl rfl ?_
      refine Ch.step (v := (.d (.int .i64 (((k : Nat) : Int) + 1)))) rfl (.pure (.move _ rfl rfl)) rfl rfl ?_
      refine Ch.nil ?_
      refine Exists.intro (k + 1) (And.intro ⟨by omega, upto_succ hp0.2 (by assumption)⟩ (And.intro (by first | omega | (dsimp only; omega)) (Wk.of rfl rfl (And.intro rfl (And.intro rfl (And.intro rfl (And.intro (vI (by first | rfl | omega | (simp; done) | (simp; omega))) trivial)))) trivial)))
  · replace h1 := of_decide_eq_false h1
    try have hk := hx _ (getD_mem (l := us) (j := k) (d := default) (by omega))
    refine T_exit ?_
    refine T_seq ?_
    refine T_region hc ?_
    refine Ch.step (v := (.d (.bool false))) rfl (.pure (.assign _ rfl rfl)) rfl rfl ?_
    refine Ch.nil ?_
    refine T_ret ?_
    refine And.intro (.inr rfl) ?_
    exact Exists.intro [(.d (.bool false))] (Exists.intro [] (Exists.intro [] (And.intro (.cons (.tmp 4 rfl) .nil) (And.intro (.cons (.any _) (.cons (.any _) .nil)) (And.intro (Exp.of (congrArg D.bool (by exact any_no default (fun j hj => hp0.2 j (by omega)))) (.d _)) (And.intro rfl rfl))))))

theorem sp_impl_avoids_1 (u a : List UInt8) (ha : a.length ≤ 1048576) (hl : a.length ≤ u.length) : Sp Try.prog 170 [(.str u), (.ref (.str a))] [.any, .any] (.bool (hasB a u)) := by
  refine Sp_intro (lend := true) Try.func170 rfl rfl rfl (fun _ => rfl) (fun c hc hX => ?_)
  refine T_seq ?_
  refine T_region hc ?_
  refine Ch.step (v := (.d (.bool false))) rfl (.pure (.assign _ rfl rfl)) rfl rfl ?_
  refine Ch.nil ?_
  refine T_seq ?_
  refine T_region hc ?_
  refine Ch.step (v := (.d (.str a))) rfl (.pure (.loadRef1 _ _ rfl ag9 rfl rfl)) rfl rfl ?_
  refine Ch.step (v := (.d (.str u))) rfl (.pure (.move _ rfl rfl)) rfl rfl ?_
  refine Ch.step (v := (.d (.bool (hasB a u)))) rfl (.call 6000 116 _ _ _ en116 rfl (.inl rfl) (.cons (.d _) (.cons (.d _) .nil)) rfl rfl (sp_impl_contains a u (by first | omega | assumption | (exact hx _ (getD_mem (by omega))) | (exact hx _ (by assumption)) | (exact Nat.le_trans (hx _ (by assumption)) (by omega)) | (simp only [List.length_append, List.length_take, List.length_drop, List.length_cons, List.length_nil]; omega) | (simp_all; done)) (by first | omega | assumption | (exact hx _ (getD_mem (by omega))) | (exact hx _ (by assumption)) | (exact Nat.le_trans (hx _ (by assumption)) (by omega)) | (simp only [List.length_append, List.length_take, List.length_drop, List.length_cons, List.length_nil]; omega) | (simp_all; done))) (.skip _ _ (.skip _ _ .nil)) rfl) rfl rfl ?_
  refine Ch.step (v := (.d (.bool (hasB a u)))) rfl (.pure (.assign _ rfl rfl)) rfl rfl ?_
  refine Ch.nil ?_
  refine T_ret ?_
  refine And.intro (.inr rfl) ?_
  exact Exists.intro [(.d (.bool (hasB a u)))] (Exists.intro [] (Exists.intro [] (And.intro (.cons (.tmp 3 rfl) .nil) (And.intro (.cons (.any _) (.cons (.any _) .nil)) (And.intro (.d _) (And.intro rfl rfl))))))

theorem sp_impl_avoids (a : List UInt8) (us : List (List UInt8)) (hn : us.length ≤ 1048576) (ha : a.length ≤ 1048576) (hx : ∀ u ∈ us, a.length ≤ u.length) : Sp Try.prog 151 [(.str a), (.slice false 1 (us.map D.str))] [.any, .any] (.bool (!anyB a us)) := by
  refine Sp_intro (lend := true) Try.func151 rfl rfl rfl (fun _ => rfl) (fun c hc hX => ?_)
  refine T_seq ?_
  refine T_region hc ?_
  refine Ch.step (v := (.ptr 2000 0)) rfl (.box 2000 _ _ rfl (.one _ rfl)) rfl rfl ?_
  refine Ch.step (v := (.d (.bool false))) rfl (.pure (.assign _ rfl rfl)) rfl rfl ?_
  refine Ch.nil ?_
  refine T_seq ?_
  refine T_region hc ?_
  refine Ch.step (v := (.d (.slice false 1 (us.map D.str)))) rfl (.pure (.move _ rfl rfl)) rfl rfl ?_
  refine Ch.step (v := (.fn 170 [(.ptr 2000 0)])) rfl (.pure (.func _ _ rfl rfl)) rfl rfl ?_
  refine Ch.step (v := (.d (.bool (us.any (fun u => hasB a u))))) rfl (.call 7000 71 _ _ _ en71 rfl (.inl rfl) (.cons (.d _) (.cons (.lend (.fn (.cons (.ptr rfl (.one (.d _) rfl)) .nil))) .nil)) rfl rfl (sp_ContainsFunc_str us 170 [(.ref (.str a))] (fun u => hasB a u) en170 (fun u hu => sp_impl_avoids_1 u a (by first | omega | assumption | (exact hx _ (getD_mem (by omega))) | (exact hx _ (by assumption)) | (exact Nat.le_trans (hx _ (by assumption)) (by omega)) | (simp only [List.length_append, List.length_take, List.length_drop, List.length_cons, List.length_nil]; omega) | (simp_all; done)) (hx u hu)) (by first | omega | assumption | (exact hx _ (getD_mem (by omega))) | (exact hx _ (by assumption)) | (exact Nat.le_trans (hx _ (by assumption)) (by omega)) | (simp only [List.length_append, List.length_take, List.length_drop, List.length_cons, List.length_nil]; omega) | (simp_all; done))) (.skip _ _ (.skip _ _ .nil)) rfl) rfl rfl ?_
  refine Ch.step (v := (.d (.bool (!(us.any (fun u => hasB a u)))))) rfl (.pure (.not _ _ rfl rfl)) rfl rfl ?_
  refine Ch.step (v := (.d (.bool (!(us.any (fun u => hasB a u)))))) rfl (.pure (.assign _ rfl rfl)) rfl rfl ?_
  refine Ch.nil ?_
  refine T_ret ?_
  refine And.intro (.inr rfl) ?_
  exact Exists.intro [(.d (.bool (!(us.any (fun u => hasB a u)))))] (Exists.intro [] (Exists.intro [] (And.intro (.cons (.tmp 4 rfl) .nil) (And.intro (.cons (.any _) (.cons (.any _) .nil)) (And.intro (Exp.of (congrArg D.bool (by rfl)) (.d _)) (And.intro rfl rfl))))))

theorem sp_spec_l14Prime (a : List UInt8) (off : List (List UInt8)) (hn : off.length ≤ 1048576) (ha : a.length ≤ 1048576) (hx : ∀ u ∈ off, a.length ≤ u.length) : Sp Try.prog 148 [(.str a), (.slice false 1 (off.map D.str))] [.any, .any] (.bool (primeB a off)) := by
  refine Sp_intro (lend := true) Try.func148 rfl rfl rfl (fun _ => rfl) (fun c hc hX => ?_)
  refine T_seq ?_
  refine T_region hc ?_
  refine Ch.step (v := (.d (.bool false))) rfl (.pure (.assign _ rfl rfl)) rfl rfl ?_
  refine Ch.nil ?_
  refine T_seq ?_
  refine T_seq ?_
  refine T_region hc ?_
  refine Ch.step (v := (.d (.int .i64 0))) rfl (.pure (.assign _ rfl rfl)) rfl rfl ?_
  refine Ch.nil ?_
  refine T_block ?_
  refine T_loop (ι := Nat) (fun k => { n := 24, sl := [(0, (.d (.str a))), (1, (.d (.slice false 1 (off.map D.str)))), (5, (.d (.int .i64 ((k : Nat) : Int))))], hp := [], pin := [] }) (fun k => k ≤ a.length ∧ ∀ j, j < k → (!(isLit a j && !anyB (dashAt a j) off)) = true) (fun k => a.length - k) ⟨0, ⟨by omega, fun j hj => by omega⟩, (Wk.of rfl rfl (And.intro rfl (And.intro rfl (And.intro (vI (by first | rfl | omega | (simp; done) | (simp; omega))) trivial))) trivial)⟩ (fun k hp0 => ?_)
  refine T_seq ?_
  refine T_seq ?_
  refine T_region hc ?_
  refine Ch.step (v := (.d (.int .i64 ((k : Nat) : Int)))) rfl (.pure (.move _ rfl rfl)) rfl rfl ?_
  refine Ch.step (v := (.d (.str a))) rfl (.pure (.move _ rfl rfl)) rfl rfl ?_
  refine Ch.step (v := (.d (.int .i64 ((a.length : Nat) : Int)))) rfl (.pure (.lenStr _ _ rfl Try.underlying9 rfl)) rfl rfl ?_
  refine Ch.step (v := (.d (.bool (decide (((k : Nat) : Int) < ((a.length : Nat) : Int)))))) rfl (.pure (.int _ _ _ _ _ rfl rfl rfl rfl)) rfl rfl ?_
  refine Ch.nil ?_
  refine T_cond (b := (decide (((k : Nat) : Int) < ((a.length : Nat) : Int)))) rfl (fun h1 => ?_) (fun h1 => ?_)
  · replace h1 := of_decide_eq_true h1
    try have hdl := dashAt_length (a := a) (j := k) (by omega)
    try have hdx : ∀ u ∈ off, (dashAt a k).length ≤ u.length := fun u hu => by (rw [hdl]; exact hx u hu)
    try have hds : (a.take k ++ [45] ++ a.drop (k + 1)).length ≤ 1048576 := by (rw [show (a.take k ++ [45] ++ a.drop (k + 1)).length = a.length from hdl]; exact ha)
    refine T_skip ?_
    refine T_seq ?_
    refine T_block ?_
    refine T_seq ?_
    refine T_region hc ?_
    refine Ch.step (v := (.d (.str a))) rfl (.pure (.move _ rfl rfl)) rfl rfl ?_
    refine Ch.step (v := (.d (.int .i64 ((k : Nat) : Int)))) rfl (.pure (.move _ rfl rfl)) rfl rfl ?_
    refine Ch.step (v := (.d (.int .u8 ((a.getD k 0).toNat : Int)))) rfl (.pure (.idxStr _ _ _ (k) rfl Try.underlying9 rfl rfl rfl (get_str (by first | omega | (simp only [List.length_map, List.length_append, List.length_take, List.length_drop, List.length_cons, List.length_nil]; omega) | (simp; omega) | (simp; done))))) rfl rfl ?_
    refine Ch.step (v := (.d (.bool (!(decide (((a.getD k 0) : UInt8) = 45)))))) rfl (.pure (.int _ _ _ _ _ rfl rfl rfl (u8_neq ((a.getD k 0) : UInt8) 45 rfl rfl))) rfl rfl ?_
    refine Ch.step (v := (.d (.bool (!(decide (((a.getD k 0) : UInt8) = 45)))))) rfl (.pure (.move _ rfl rfl)) rfl rfl ?_
    cases h2 : (decide (((a.getD k 0) : UInt8) = 45)) with
    | true =>
      replace h2 := of_decide_eq_true h2
      refine Ch.skip rfl rfl ?_
      refine Ch.skip rfl rfl ?_
      refine Ch.skip rfl rfl ?_
      refine Ch.skip rfl rfl ?_
      refine Ch.skip rfl rfl ?_
      refine Ch.skip rfl rfl ?_
      refine Ch.step (v := (.d (.bool false))) rfl (.pure (.pickF _ _ _ rfl rfl rfl)) rfl rfl ?_
      refine Ch.nil ?_
      refine T_cond (b := false) rfl (fun h => nomatch h) (fun _ => ?_)
      refine T_skip ?_
      refine T_region hc ?_
      refine Ch.step (v := (.d (.int .i64 ((k : Nat) : Int)))) rfl (.pure (.move _ rfl rfl)) rfl rfl ?_
      refine Ch.step (v := (.d (.int .i64 (((k : Nat) : Int) + 1)))) rfl (.pure (.int _ _ _ _ _ rfl rfl rfl (intV_add (by first | omega | (simp only [List.length_map, List.length_append, List.length_take, List.length_drop, List.length_cons, List.length_nil]; omega) | (simp; omega) | (simp; done)) (by first | omega | (simp only [List.length_map, List.length_append, List.length_take, List.length_drop, List.length_cons, List.length_nil]; omega) | (simp; omega) | (simp; done))))) rfl rfl ?_
      refine Ch.step (v := (.d (.int .i64 (((k : Nat) : Int) + 1)))) rfl (.pure (.assign _ rfl rfl)) rfl rfl ?_
      refine Ch.nil ?_
      refine Exists.intro (k + 1) (And.intro ⟨by omega, upto_succ hp0.2 (by simp_all [isLit, dashAt])⟩ (And.intro (by first | omega | (dsimp only; omega)) (Wk.of rfl rfl (And.intro rfl (And.intro rfl (And.intro (vI (by first | rfl | omega | (simp; done) | (simp; omega))) trivial))) trivial)))
    | false =>
      replace h2 := of_decide_eq_false h2
      refine Ch.step (v := (.d (.str a))) rfl (.pure (.move _ rfl rfl)) rfl rfl ?_
      refine Ch.step (v := (.d (.int .i64 ((k : Nat) : Int)))) rfl (.pure (.move _ rfl rfl)) rfl rfl ?_
      refine Ch.step (v := (.d (.str (dashAt a k)))) rfl (.call 19000 169 _ _ _ en169 rfl (.inl rfl) (.cons (.d _) (.cons (.d _) (.cons (.d _) .nil))) rfl rfl (sp_spec_l5Set a ((k : Nat) : Int) ([45]) (by first | omega | assumption | (exact hx _ (getD_mem (by omega))) | (exact hx _ (by assumption)) | (exact Nat.le_trans (hx _ (by assumption)) (by omega)) | (simp only [List.length_append, List.length_take, List.length_drop, List.length_cons, List.length_nil]; omega) | (simp_all; done)) (by first | omega | (simp; done) | assumption) (by first | omega | assumption | (exact hx _ (getD_mem (by omega))) | (exact hx _ (by assumption)) | (exact Nat.le_trans (hx _ (by assumption)) (by omega)) | (simp only [List.length_append, List.length_take, List.length_drop, List.length_cons, List.length_nil]; omega) | (simp_all; done)) (by first | omega | assumption | (exact hx _ (getD_mem (by omega))) | (exact hx _ (by assumption)) | (exact Nat.le_trans (hx _ (by assumption)) (by omega)) | (simp only [List.length_append, List.length_take, List.length_drop, List.length_cons, List.length_nil]; omega) | (simp_all; done))) (.skip _ _ (.skip _ _ (.skip _ _ .nil))) rfl) rfl rfl ?_
      refine Ch.step (v := (.d (.slice false 1 (off.map D.str)))) rfl (.pure (.move _ rfl rfl)) rfl rfl ?_
      refine Ch.step (v := (.d (.bool (anyB (dashAt a k) off)))) rfl (.call 21000 147 _ _ _ en147 rfl (.inl rfl) (.cons (.d _) (.cons (.d _) .nil)) rfl rfl (sp_spec_l14Any (dashAt a k) off (by first | omega | assumption | (exact hx _ (getD_mem (by omega))) | (exact hx _ (by assumption)) | (exact Nat.le_trans (hx _ (by assumption)) (by omega)) | (simp only [List.length_append, List.length_take, List.length_drop, List.length_cons, List.length_nil]; omega) | (simp_all; done)) (by first | omega | assumption | (exact hx _ (getD_mem (by omega))) | (exact hx _ (by assumption)) | (exact Nat.le_trans (hx _ (by assumption)) (by omega)) | (simp only [List.length_append, List.length_take, List.length_drop, List.length_cons, List.length_nil]; omega) | (simp_all; done)) (by first | omega | assumption | (exact hx _ (getD_mem (by omega))) | (exact hx _ (by assumption)) | (exact Nat.le_trans (hx _ (by assumption)) (by omega)) | (simp only [List.length_append, List.length_take, List.length_drop, List.length_cons, List.length_nil]; omega) | (simp_all; done))) (.skip _ _ (.skip _ _ .nil)) rfl) rfl rfl ?_
      refine Ch.step (v := (.d (.bool (!(anyB (dashAt a k) off))))) rfl (.pure (.not _ _ rfl rfl)) rfl rfl ?_
      refine Ch.step (v := (.d (.bool (!(anyB (dashAt a k) off))))) rfl (.pure (.pickT _ _ _ rfl rfl rfl)) rfl rfl ?_
      refine Ch.nil ?_
      refine T_cond (b := (!(anyB (dashAt a k) off))) rfl (fun h3 => ?_) (fun h3 => ?_)
      · replace h3 := nott h3
        refine T_seq ?_
        refine T_region hc ?_
        refine Ch.step (v := (.d (.bool false))) rfl (.pure (.assign _ rfl rfl)) rfl rfl ?_
        refine Ch.nil ?_
        refine T_ret ?_
        refine And.intro (.inr rfl) ?_
        exact Exists.intro [(.d (.bool false))] (Exists.intro [] (Exists.intro [] (And.intro (.cons (.tmp 4 rfl) .nil) (And.intro (.cons (.any _) (.cons (.any _) .nil)) (And.intro (Exp.of (congrArg D.bool (by first | (rw [primeB, allB_no k (by omega) (by simp_all [isLit, dashAt])]; done) | (rw [primeB, allB_of (fun j hj => hp0.2 j (by omega))]; done))) (.d _)) (And.intro rfl rfl))))))
      · replace h3 := notf h3
        refine T_skip ?_
        refine T_region hc ?_
        refine Ch.step (v := (.d (.int .i64 ((k : Nat) : Int)))) rfl (.pure (.move _ rfl rfl)) rfl rfl ?_
        refine Ch.step (v := (.d (.int .i64 (((k : Nat) : Int) + 1)))) rfl (.pure (.int _ _ _ _ _ rfl rfl rfl (intV_add (by first | omega | (simp only [List.length_map, List.length_append, List.length_take, List.length_drop, List.length_cons, List.length_nil]; omega) | (simp; omega) | (simp; done)) (by first | omega | (simp only [List.length_map, List.length_append, List.length_take, List.length_drop, List.length_cons, List.length_nil]; omega) | (simp; omega) | (simp; done))))) rfl rfl ?_
        refine Ch.step (v := (.d (.int .i64 (((k : Nat) : Int) + 1)))) rfl (.pure (.assign _ rfl rfl)) rfl rfl ?_
        refine Ch.nil ?_
        refine Exists.intro (k + 1) (And.intro ⟨by omega, upto_succ hp0.2 (by simp_all [isLit, dashAt])⟩ (And.intro (by first | omega | (dsimp only; omega)) (Wk.of rfl rfl (And.intro rfl (And.intro rfl (And.intro (vI (by first | rfl | omega | (simp; done) | (simp; omega))) trivial))) trivial)))
  · replace h1 := of_decide_eq_false h1
    try have hdl := dashAt_length (a := a) (j := k) (by omega)
    try have hdx : ∀ u ∈ off, (dashAt a k).length ≤ u.length := fun u hu => by (rw [hdl]; exact hx u hu)
    try have hds : (a.take k ++ [45] ++ a.drop (k + 1)).length ≤ 1048576 := by (rw [show (a.take k ++ [45] ++ a.drop (k + 1)).length = a.length from hdl]; exact ha)
    refine T_exit ?_
    refine T_seq ?_
    refine T_region hc ?_
    refine Ch.step (v := (.d (.bool true))) rfl (.pure (.assign _ rfl rfl)) rfl rfl ?_
    refine Ch.nil ?_
    refine T_ret ?_
    refine And.intro (.inr rfl) ?_
    exact Exists.intro [(.d (.bool true))] (Exists.intro [] (Exists.intro [] (And.intro (.cons (.tmp 4 rfl) .nil) (And.intro (.cons (.any _) (.cons (.any _) .nil)) (And.intro (Exp.of (congrArg D.bool (by first | (rw [primeB, allB_no k (by omega) (by simp_all [isLit, dashAt])]; done) | (rw [primeB, allB_of (fun j hj => hp0.2 j (by omega))]; done))) (.d _)) (And.intro rfl rfl))))))

theorem sp_impl_isPrime (a : List UInt8) (off : List (List UInt8)) (hn : off.length ≤ 1048576) (ha : a.length ≤ 1048576) (hx : ∀ u ∈ off, a.length ≤ u.length) : Sp Try.prog 152 [(.str a), (.slice false 1 (off.map D.str))] [.any, .any] (.bool (primeB a off)) := by
  refine Sp_intro (lend := true) Try.func152 rfl rfl rfl (fun _ => rfl) (fun c hc hX => ?_)
  refine T_seq ?_
  refine T_region hc ?_
  refine Ch.step (v := (.d (.bool false))) rfl (.pure (.assign _ rfl rfl)) rfl rfl ?_
  refine Ch.nil ?_
  refine T_seq ?_
  refine T_seq ?_
  refine T_region hc ?_
  refine Ch.step (v := (.d (.str a))) rfl (.pure (.move _ rfl rfl)) rfl rfl ?_
  refine Ch.step (v := (.d (.int .i64 ((a.length : Nat) : Int)))) rfl (.pure (.lenStr _ _ rfl Try.underlying9 rfl)) rfl rfl ?_
  refine Ch.step (v := (.d (.int .i64 0))) rfl (.pure (.move _ rfl rfl)) rfl rfl ?_
  refine Ch.nil ?_
  refine T_block ?_
  refine T_loop (ι := Nat) (fun k => { n := 29, sl := [(0, (.d (.str a))), (1, (.d (.slice false 1 (off.map D.str)))), (7, (.d (.int .i64 ((a.length : Nat) : Int)))), (8, (.d (.int .i64 ((k : Nat) : Int))))], hp := [], pin := [] }) (fun k => k ≤ a.length ∧ ∀ j, j < k → (!(isLit a j && !anyB (dashAt a j) off)) = true) (fun k => a.length - k) ⟨0, ⟨by omega, fun j hj => by omega⟩, (Wk.of rfl rfl (And.intro rfl (And.intro rfl (And.intro rfl (And.intro (vI (by first | rfl | omega | (simp; done) | (simp; omega))) trivial)))) trivial)⟩ (fun k hp0 => ?_)
  refine T_seq ?_
  refine T_region hc ?_
  refine Ch.step (v := (.d (.bool (decide (((k : Nat) : Int) < ((a.length : Nat) : Int)))))) rfl (.pure (.int _ _ _ _ _ rfl rfl rfl rfl)) rfl rfl ?_
  refine Ch.nil ?_
  refine T_seq ?_
  refine T_cond (b := (decide (((k : Nat) : Int) < ((a.length : Nat) : Int)))) rfl (fun h1 => ?_) (fun h1 => ?_)
  · replace h1 := of_decide_eq_true h1
    try have hdl := dashAt_length (a := a) (j := k) (by omega)
    try have hdx : ∀ u ∈ off, (dashAt a k).length ≤ u.length := fun u hu => by (rw [hdl]; exact hx u hu)
    try have hds : (a.take k ++ [45] ++ a.drop (k + 1)).length ≤ 1048576 := by (rw [show (a.take k ++ [45] ++ a.drop (k + 1)).length = a.length from hdl]; exact ha)
    refine T_skip ?_
    refine T_seq ?_
    refine T_block ?_
    refine T_seq ?_
    refine T_region hc ?_
    refine Ch.step (v := (.d (.int .i64 ((k : Nat) : Int)))) rfl (.pure (.move _ rfl rfl)) rfl rfl ?_
    refine Ch.step (v := (.d (.int .i64 ((k : Nat) : Int)))) rfl (.pure (.assign _ rfl rfl)) rfl rfl ?_
    refine Ch.nil ?_
    refine T_seq ?_
    refine T_regionD hc (by kernel_rfl) ?_
    refine ChD.step (v := (.d (.str a))) [] rfl (.pure (.move _ rfl rfl)) rfl rfl ?_
    refine ChD.step (v := (.d (.int .i64 ((k : Nat) : Int)))) [] rfl (.pure (.move _ rfl rfl)) rfl rfl ?_
    refine ChD.step (v := (.d (.int .u8 ((a.getD k 0).toNat : Int)))) [] rfl (.pure (.idxStr _ _ _ (k) rfl Try.underlying9 rfl rfl rfl (get_str (by first | omega | (simp only [List.length_map, List.length_append, List.length_take, List.length_drop, List.length_cons, List.length_nil]; omega) | (simp; omega) | (simp; done))))) rfl rfl ?_
    refine ChD.step (v := (.d (.bool (!(decide (((a.getD k 0) : UInt8) = 45)))))) [] rfl (.pure (.int _ _ _ _ _ rfl rfl rfl (u8_neq ((a.getD k 0) : UInt8) 45 rfl rfl))) rfl rfl ?_
    refine ChD.step (v := (.d (.bool (!(decide (((a.getD k 0) : UInt8) = 45)))))) [] rfl (.pure (.move _ rfl rfl)) rfl rfl ?_
    cases h2 : (decide (((a.getD k 0) : UInt8) = 45)) with
    | true =>
      replace h2 := of_decide_eq_true h2
      refine ChD.skip rfl rfl ?_
      refine ChD.skip rfl rfl ?_
      refine ChD.skip rfl rfl ?_
      refine ChD.skip rfl rfl ?_
      refine ChD.skip rfl rfl ?_
      refine ChD.skip rfl rfl ?_
      refine ChD.skip rfl rfl ?_
      refine ChD.skip rfl rfl ?_
      refine ChD.skip rfl rfl ?_
      refine ChD.skip rfl rfl ?_
      refine ChD.skip rfl rfl ?_
      refine ChD.step (v := (.d (.bool false))) [] rfl (.pure (.pickF _ _ _ rfl rfl rfl)) rfl rfl ?_
      refine ChD.nil (And.intro ?_ (by kernel_rfl))
      refine T_cond (b := false) rfl (fun h => nomatch h) (fun _ => ?_)
      refine T_skip ?_
      refine T_region hc ?_
      refine Ch.step (v := (.d (.int .i64 (((k : Nat) : Int) + 1)))) rfl (.pure (.int _ _ _ _ _ rfl rfl rfl (intV_add (by first | omega | (simp only [List.length_map, List.length_append, List.length_take, List.length_drop, List.length_cons, List.length_nil]; omega) | (simp; omega) | (simp; done)) (by first | omega | (simp only [List.length_map, List.length_append, List.length_take, List.length_drop, List.length_cons, List.length_nil]; omega) | (simp; omega) | (simp; done))))) rfl rfl ?_
      refine Ch.step (v := (.d (.int .i64 (((k : Nat) : Int) + 1)))) rfl (.pure (.move _ rfl rfl)) rfl rfl ?_
      refine Ch.nil ?_
      refine Exists.intro (k + 1) (And.intro ⟨by omega, upto_succ hp0.2 (by simp_all [isLit, dashAt])⟩ (And.intro (by first | omega | (dsimp only; omega)) (Wk.of rfl rfl (And.intro rfl (And.intro rfl (And.intro rfl (And.intro (vI (by first | rfl | omega | (simp; done) | (simp; omega))) trivial)))) trivial)))
    | false =>
      replace h2 := of_decide_eq_false h2
      refine ChD.step (v := (.d (.str a))) [] rfl (.pure (.move _ rfl rfl)) rfl rfl ?_
      refine ChD.step (v := (.d (.int .i64 ((k : Nat) : Int)))) [] rfl (.pure (.move _ rfl rfl)) rfl rfl ?_
      refine ChD.step (v := (.d (.str (a.take k)))) [] rfl (.pure (.sliceStr _ _ _ _ (0) (k) rfl Try.underlying9 rfl (bndN rfl) (bndS rfl rfl) (by first | omega | (simp only [List.length_map, List.length_append, List.length_take, List.length_drop, List.length_cons, List.length_nil]; omega) | (simp; omega) | (simp; done)) (by first | omega | (simp only [List.length_map, List.length_append, List.length_take, List.length_drop, List.length_cons, List.length_nil]; omega) | (simp; omega) | (simp; done)) (by simp))) rfl rfl ?_
      refine ChD.step (v := (.d (.str ((a.take k) ++ [45])))) [] rfl (.pure (.str _ _ _ _ _ rfl rfl rfl (strV_add (by first | omega | (simp only [List.length_map, List.length_append, List.length_take, List.length_drop, List.length_cons, List.length_nil]; omega) | (simp; omega) | (simp; done))))) rfl rfl ?_
      refine ChD.step (v := (.d (.str a))) [] rfl (.pure (.move _ rfl rfl)) rfl rfl ?_
      refine ChD.step (v := (.d (.int .i64 ((k : Nat) : Int)))) [] rfl (.pure (.move _ rfl rfl)) rfl rfl ?_
      refine ChD.step (v := (.d (.int .i64 (((k : Nat) : Int) + 1)))) [] rfl (.pure (.int _ _ _ _ _ rfl rfl rfl (intV_add (by first | omega | (simp only [List.length_map, List.length_append, List.length_take, List.length_drop, List.length_cons, List.length_nil]; omega) | (simp; omega) | (simp; done)) (by first | omega | (simp only [List.length_map, List.length_append, List.length_take, List.length_drop, List.length_cons, List.length_nil]; omega) | (simp; omega) | (simp; done))))) rfl rfl ?_
      refine ChD.step (v := (.d (.str (a.drop (k + 1))))) [] rfl (.pure (.sliceStr _ _ _ _ ((k + 1)) (a.length) rfl Try.underlying9 rfl (bndS rfl (by omega)) (bndN rfl) (by first | omega | (simp only [List.length_map, List.length_append, List.length_take, List.length_drop, List.length_cons, List.length_nil]; omega) | (simp; omega) | (simp; done)) (by first | omega | (simp only [List.length_map, List.length_append, List.length_take, List.length_drop, List.length_cons, List.length_nil]; omega) | (simp; omega) | (simp; done)) (by simp))) rfl rfl ?_
      refine ChD.step (v := (.d (.str (((a.take k) ++ [45]) ++ (a.drop (k + 1)))))) [] rfl (.pure (.str _ _ _ _ _ rfl rfl rfl (strV_add (by first | omega | (simp only [List.length_map, List.length_append, List.length_take, List.length_drop, List.length_cons, List.length_nil]; omega) | (simp; omega) | (simp; done))))) rfl rfl ?_
      refine ChD.step (v := (.d (.slice false 1 (off.map D.str)))) [] rfl (.pure (.move _ rfl rfl)) rfl rfl ?_
      refine ChD.step (v := (.d (.bool (!anyB (((a.take k) ++ [45]) ++ (a.drop (k + 1))) off)))) [] rfl (.call 26000 151 _ _ _ en151 rfl (.inl rfl) (.cons (.d _) (.cons (.d _) .nil)) rfl rfl (sp_impl_avoids (((a.take k) ++ [45]) ++ (a.drop (k + 1))) off (by first | omega | assumption | (exact hx _ (getD_mem (by omega))) | (exact hx _ (by assumption)) | (exact Nat.le_trans (hx _ (by assumption)) (by omega)) | (simp only [List.length_append, List.length_take, List.length_drop, List.length_cons, List.length_nil]; omega) | (simp_all; done)) (by first | omega | assumption | (exact hx _ (getD_mem (by omega))) | (exact hx _ (by assumption)) | (exact Nat.le_trans (hx _ (by assumption)) (by omega)) | (simp only [List.length_append, List.length_take, List.length_drop, List.length_cons, List.length_nil]; omega) | (simp_all; done)) (by first | omega | assumption | (exact hx _ (getD_mem (by omega))) | (exact hx _ (by assumption)) | (exact Nat.le_trans (hx _ (by assumption)) (by omega)) | (simp only [List.length_append, List.length_take, List.length_drop, List.length_cons, List.length_nil]; omega) | (simp_all; done))) (.skip _ _ (.skip _ _ .nil)) rfl) rfl rfl ?_
      refine ChD.step (v := (.d (.bool (!anyB (((a.take k) ++ [45]) ++ (a.drop (k + 1))) off)))) [] rfl (.pure (.pickT _ _ _ rfl rfl rfl)) rfl rfl ?_
      refine ChD.nil (And.intro ?_ (by kernel_rfl))
      refine T_cond (b := (!anyB (((a.take k) ++ [45]) ++ (a.drop (k + 1))) off)) rfl (fun h3 => ?_) (fun h3 => ?_)
      · refine T_seq ?_
        refine T_region hc ?_
        refine Ch.step (v := (.d (.bool false))) rfl (.pure (.assign _ rfl rfl)) rfl rfl ?_
        refine Ch.nil ?_
        refine T_ret ?_
        refine And.intro (.inr rfl) ?_
        exact Exists.intro [(.d (.bool false))] (Exists.intro [] (Exists.intro [] (And.intro (.cons (.tmp 4 rfl) .nil) (And.intro (.cons (.any _) (.cons (.any _) .nil)) (And.intro (Exp.of (congrArg D.bool (by first | (rw [primeB, allB_no k (by omega) (by simp_all [isLit, dashAt])]; done) | (rw [primeB, allB_of (fun j hj => hp0.2 j (by omega))]; done))) (.d _)) (And.intro rfl rfl))))))
      · refine T_skip ?_
        refine T_region hc ?_
        refine Ch.step (v := (.d (.int .i64 (((k : Nat) : Int) + 1)))) rfl (.pure (.int _ _ _ _ _ rfl rfl rfl (intV_add (by first | omega | (simp only [List.length_map, List.length_append, List.length_take, List.length_drop, List.length_cons, List.length_nil]; omega) | (simp; omega) | (simp; done)) (by first | omega | (simp only [List.length_map, List.length_append, List.length_take, List.length_drop, List.length_cons, List.length_nil]; omega) | (simp; omega) | (simp; done))))) rfl rfl ?_
        refine Ch.step (v := (.d (.int .i64 (((k : Nat) : Int) + 1)))) rfl (.pure (.move _ rfl rfl)) rfl rfl ?_
        refine Ch.nil ?_
        refine Exists.intro (k + 1) (And.intro ⟨by omega, upto_succ hp0.2 (by simp_all [isLit, dashAt])⟩ (And.intro (by first | omega | (dsimp only; omega)) (Wk.of rfl rfl (And.intro rfl (And.intro rfl (And.intro rfl (And.intro (vI (by first | rfl | omega | (simp; done) | (simp; omega))) trivial)))) trivial)))
  · replace h1 := of_decide_eq_false h1
    try have hdl := dashAt_length (a := a) (j := k) (by omega)
    try have hdx : ∀ u ∈ off, (dashAt a k).length ≤ u.length := fun u hu => by (rw [hdl]; exact hx u hu)
    try have hds : (a.take k ++ [45] ++ a.drop (k + 1)).length ≤ 1048576 := by (rw [show (a.take k ++ [45] ++ a.drop (k + 1)).length = a.length from hdl]; exact ha)
    refine T_exit ?_
    refine T_seq ?_
    refine T_region hc ?_
    refine Ch.step (v := (.d (.bool true))) rfl (.pure (.assign _ rfl rfl)) rfl rfl ?_
    refine Ch.nil ?_
    refine T_ret ?_
    refine And.intro (.inr rfl) ?_
    exact Exists.intro [(.d (.bool true))] (Exists.intro [] (Exists.intro [] (And.intro (.cons (.tmp 4 rfl) .nil) (And.intro (.cons (.any _) (.cons (.any _) .nil)) (And.intro (Exp.of (congrArg D.bool (by first | (rw [primeB, allB_no k (by omega) (by simp_all [isLit, dashAt])]; done) | (rw [primeB, allB_of (fun j hj => hp0.2 j (by omega))]; done))) (.d _)) (And.intro rfl rfl))))))

theorem sp_spec_l14Primes (n : Int) (on off : List (List UInt8)) (h0 : 0 ≤ n) (h8 : n ≤ 8) (hn1 : on.length ≤ 1048576) (hn2 : off.length ≤ 1048576) (ho1 : ∀ u ∈ on, (u.length : Int) = n) (ho2 : ∀ u ∈ off, (u.length : Int) = n) : Sp Try.prog 103 [(.int .i64 n), (.slice false 1 (on.map D.str)), (.slice false 1 (off.map D.str))] [.any, .any, .any] (.slice true 1 ((primL n.toNat on off).map D.str)) := by
  refine Sp_intro (lend := true) Try.func103 rfl rfl rfl (fun _ => rfl) (fun c hc hX => ?_)
  have hcl := cubes_length n.toNat; have hp3 : 3 ^ n.toNat ≤ 3 ^ 8 := Nat.pow_le_pow_right (by omega) (by omega)
  refine T_seq ?_
  refine T_region hc ?_
  refine Ch.step (v := (.c (.slice none 0 0))) rfl (.pure (.assign _ rfl rfl)) rfl rfl ?_
  refine Ch.nil ?_
  refine T_seq ?_
  refine T_region hc ?_
  refine Ch.step (v := (.c (.slice none 0 0))) rfl (.pure (.assign _ rfl rfl)) rfl rfl ?_
  refine Ch.nil ?_
  refine T_seq ?_
  refine T_seq ?_
  refine T_region hc ?_
  refine Ch.step (v := (.d (.int .i64 n))) rfl (.pure (.move _ rfl rfl)) rfl rfl ?_
  refine Ch.step (v := (.row 11000)) rfl (.call 11000 146 _ _ _ en146 rfl (.inl rfl) (.cons (.d _) .nil) rfl (sol (solid_row (fun _ => rfl) _) rfl) (sp_spec_l14Cubes n (by first | omega | assumption | (exact hx _ (getD_mem (by omega))) | (exact hx _ (by assumption)) | (exact Nat.le_trans (hx _ (by assumption)) (by omega)) | (simp only [List.length_append, List.length_take, List.length_drop, List.length_cons, List.length_nil]; omega) | (simp_all; done)) (by first | omega | assumption | (exact hx _ (getD_mem (by omega))) | (exact hx _ (by assumption)) | (exact Nat.le_trans (hx _ (by assumption)) (by omega)) | (simp only [List.length_append, List.length_take, List.length_drop, List.length_cons, List.length_nil]; omega) | (simp_all; done))) (.skip _ _ .nil) rfl) rfl rfl ?_
  refine Ch.step (v := (.d (.int .i64 (((cubes n.toNat).length : Nat) : Int)))) rfl (.pure (.len _ _ 9 rfl Try.underlying22 (.row rfl) (by simp))) rfl rfl ?_
  refine Ch.step (v := (.d (.int .i64 0))) rfl (.pure (.move _ rfl rfl)) rfl rfl ?_
  refine Ch.nil ?_
  refine T_block ?_
  refine T_loop (ι := Nat) (fun k => { n := 37, sl := [(1, (.d (.slice false 1 (on.map D.str)))), (2, (.d (.slice false 1 (off.map D.str)))), (7, (.row 7)), (11, (.row 11000)), (12, (.d (.int .i64 (((cubes n.toNat).length : Nat) : Int)))), (13, (.d (.int .i64 ((k : Nat) : Int))))], hp := [(7, (some (.row 1 ((ftake (primP on off) (cubes n.toNat) k).map D.str)))), (11000, (some (.row 1 ((cubes n.toNat).map D.str))))], pin := [] }) (fun k => k ≤ (cubes n.toNat).length) (fun k => (cubes n.toNat).length - k) ⟨0, (by omega), (Wk.trans (Wk.nilrow 7 900007 1 rfl rfl rfl) (Wk.ren [(7, 900007)] rfl rfl rfl rfl (And.intro rfl (And.intro rfl (And.intro rfl (And.intro rfl (And.intro rfl (And.intro (vI (by first | rfl | omega | (simp; done) | (simp; omega))) trivial)))))) (And.intro (oR (by first | rfl | (exact push rfl (ftake_yes (by omega) (by rw [primP]; simp_all))) | (exact congrArg (List.map D.str) (ftake_no (by omega) (by rw [primP]; simp_all))))) (And.intro rfl trivial))))⟩ (fun k hp0 => ?_)
  have hq := ftake_le (primP on off) (cubes n.toNat) k
  refine T_seq ?_
  refine T_region hc ?_
  refine Ch.step (v := (.d (.bool (decide (((k : Nat) : Int) < (((cubes n.toNat).length : Nat) : Int)))))) rfl (.pure (.int _ _ _ _ _ rfl rfl rfl rfl)) rfl rfl ?_
  refine Ch.nil ?_
  refine T_seq ?_
  refine T_cond (b := (decide (((k : Nat) : Int) < (((cubes n.toNat).length : Nat) : Int)))) rfl (fun h1 => ?_) (fun h1 => ?_)
  · replace h1 := of_decide_eq_true h1
    try have hk := cubes_mem n.toNat _ (getD_mem (l := (cubes n.toNat)) (j := k) (d := default) (by omega))
    try have hk1 : ∀ u ∈ on, ((cubes n.toNat).getD k default).length ≤ u.length := fun u hu => by (have := ho1 u hu; omega)
    try have hk2 : ∀ u ∈ off, ((cubes n.toNat).getD k default).length ≤ u.length := fun u hu => by (have := ho2 u hu; omega)
    refine T_skip ?_
    refine T_seq ?_
    refine T_block ?_
    refine T_seq ?_
    refine T_region hc ?_
    refine Ch.step (v := (.el 11000 1 k 0)) rfl (.pure (.idxRow _ _ _ 9 (k) rfl Try.underlying22 sz9 rfl rfl rfl rfl (by first | omega | (simp; omega)))) rfl rfl ?_
    refine Ch.step (v := (.d (.str ((cubes n.toNat).getD k default)))) rfl (.pure (.loadEl1 _ _ rfl ag9 rfl rfl (get_map _ (by first | omega | (simp only [List.length_map, List.length_append, List.length_take, List.length_drop, List.length_cons, List.length_nil]; omega) | (simp; omega) | (simp; done))) rfl rfl rfl)) rfl rfl ?_
    refine Ch.step (v := (.d (.str ((cubes n.toNat).getD k default)))) rfl (.pure (.assign _ rfl rfl)) rfl rfl ?_
    refine Ch.nil ?_
    refine T_seq ?_
    refine T_region hc ?_
    refine Ch.step (v := (.d (.str ((cubes n.toNat).getD k default)))) rfl (.pure (.move _ rfl rfl)) rfl rfl ?_
    refine Ch.step (v := (.d (.slice false 1 (on.map D.str)))) rfl (.pure (.move _ rfl rfl)) rfl rfl ?_
    refine Ch.step (v := (.d (.bool (anyB ((cubes n.toNat).getD k default) on)))) rfl (.call 19000 147 _ _ _ en147 rfl (.inl rfl) (.cons (.d _) (.cons (.d _) .nil)) rfl rfl (sp_spec_l14Any ((cubes n.toNat).getD k default) on (by first | omega | assumption | (exact hx _ (getD_mem (by omega))) | (exact hx _ (by assumption)) | (exact Nat.le_trans (hx _ (by assumption)) (by omega)) | (simp only [List.length_append, List.length_take, List.length_drop, List.length_cons, List.length_nil]; omega) | (simp_all; done)) (by first | omega | assumption | (exact hx _ (getD_mem (by omega))) | (exact hx _ (by assumption)) | (exact Nat.le_trans (hx _ (by assumption)) (by omega)) | (simp only [List.length_append, List.length_take, List.length_drop, List.length_cons, List.length_nil]; omega) | (simp_all; done)) (by first | omega | assumption | (exact hx _ (getD_mem (by omega))) | (exact hx _ (by assumption)) | (exact Nat.le_trans (hx _ (by assumption)) (by omega)) | (simp only [List.length_append, List.length_take, List.length_drop, List.length_cons, List.length_nil]; omega) | (simp_all; done))) (.skip _ _ (.skip _ _ .nil)) rfl) rfl rfl ?_
    refine Ch.step (v := (.d (.bool (anyB ((cubes n.toNat).getD k default) on)))) rfl (.pure (.move _ rfl rfl)) rfl rfl ?_
    cases h2 : (anyB ((cubes n.toNat).getD k default) on) with
    | true =>
      refine Ch.step (v := (.d (.str ((cubes n.toNat).getD k default)))) rfl (.pure (.move _ rfl rfl)) rfl rfl ?_
      refine Ch.step (v := (.d (.slice false 1 (off.map D.str)))) rfl (.pure (.move _ rfl rfl)) rfl rfl ?_
      refine Ch.step (v := (.d (.bool (anyB ((cubes n.toNat).getD k default) off)))) rfl (.call 23000 147 _ _ _ en147 rfl (.inl rfl) (.cons (.d _) (.cons (.d _) .nil)) rfl rfl (sp_spec_l14Any ((cubes n.toNat).getD k default) off (by first | omega | assumption | (exact hx _ (getD_mem (by omega))) | (exact hx _ (by assumption)) | (exact Nat.le_trans (hx _ (by assumption)) (by omega)) | (simp only [List.length_append, List.length_take, List.length_drop, List.length_cons, List.length_nil]; omega) | (simp_all; done)) (by first | omega | assumption | (exact hx _ (getD_mem (by omega))) | (exact hx _ (by assumption)) | (exact Nat.le_trans (hx _ (by assumption)) (by omega)) | (simp only [List.length_append, List.length_take, List.length_drop, List.length_cons, List.length_nil]; omega) | (simp_all; done)) (by first | omega | assumption | (exact hx _ (getD_mem (by omega))) | (exact hx _ (by assumption)) | (exact Nat.le_trans (hx _ (by assumption)) (by omega)) | (simp only [List.length_append, List.length_take, List.length_drop, List.length_cons, List.length_nil]; omega) | (simp_all; done))) (.skip _ _ (.skip _ _ .nil)) rfl) rfl rfl ?_
      refine Ch.step (v := (.d (.bool (!(anyB ((cubes n.toNat).getD k default) off))))) rfl (.pure (.not _ _ rfl rfl)) rfl rfl ?_
      refine Ch.step (v := (.d (.bool (!(anyB ((cubes n.toNat).getD k default) off))))) rfl (.pure (.pickT _ _ _ rfl rfl rfl)) rfl rfl ?_
      refine Ch.step (v := (.d (.bool (!(anyB ((cubes n.toNat).getD k default) off))))) rfl (.pure (.move _ rfl rfl)) rfl rfl ?_
      cases h3 : (anyB ((cubes n.toNat).getD k default) off) with
      | true =>
        refine Ch.skip rfl rfl ?_
        refine Ch.skip rfl rfl ?_
        refine Ch.skip rfl rfl ?_
        refine Ch.step (v := (.d (.bool false))) rfl (.pure (.pickF _ _ _ rfl rfl rfl)) rfl rfl ?_
        refine Ch.nil ?_
        refine T_cond (b := false) rfl (fun h => nomatch h) (fun _ => ?_)
        refine T_skip ?_
        refine T_region hc ?_
        refine Ch.step (v := (.d (.int .i64 (((k : Nat) : Int) + 1)))) rfl (.pure (.int _ _ _ _ _ rfl rfl rfl (intV_add (by first | omega | (simp only [List.length_map, List.length_append, List.length_take, List.length_drop, List.length_cons, List.length_nil]; omega) | (simp; omega) | (simp; done)) (by first | omega | (simp only [List.length_map, List.length_append, List.length_take, List.length_drop, List.length_cons, List.length_nil]; omega) | (simp; omega) | (simp; done))))) rfl rfl ?_
        refine Ch.step (v := (.d (.int .i64 (((k : Nat) : Int) + 1)))) rfl (.pure (.move _ rfl rfl)) rfl rfl ?_
        refine Ch.nil ?_
        refine Exists.intro (k + 1) (And.intro (by omega) (And.intro (by first | omega | (dsimp only; omega)) (Wk.of rfl rfl (And.intro rfl (And.intro rfl (And.intro rfl (And.intro rfl (And.intro rfl (And.intro (vI (by first | rfl | omega | (simp; done) | (simp; omega))) trivial)))))) (And.intro (oR (by first | rfl | (exact push rfl (ftake_yes (by omega) (by rw [primP]; simp_all))) | (exact congrArg (List.map D.str) (ftake_no (by omega) (by rw [primP]; simp_all))))) (And.intro rfl trivial)))))
      | false =>
        refine Ch.step (v := (.d (.str ((cubes n.toNat).getD k default)))) rfl (.pure (.move _ rfl rfl)) rfl rfl ?_
        refine Ch.step (v := (.d (.slice false 1 (off.map D.str)))) rfl (.pure (.move _ rfl rfl)) rfl rfl ?_
        refine Ch.step (v := (.d (.bool (primeB ((cubes n.toNat).getD k default) off)))) rfl (.call 29000 148 _ _ _ en148 rfl (.inl rfl) (.cons (.d _) (.cons (.d _) .nil)) rfl rfl (sp_spec_l14Prime ((cubes n.toNat).getD k default) off (by first | omega | assumption | (exact hx _ (getD_mem (by omega))) | (exact hx _ (by assumption)) | (exact Nat.le_trans (hx _ (by assumption)) (by omega)) | (simp only [List.length_append, List.length_take, List.length_drop, List.length_cons, List.length_nil]; omega) | (simp_all; done)) (by first | omega | assumption | (exact hx _ (getD_mem (by omega))) | (exact hx _ (by assumption)) | (exact Nat.le_trans (hx _ (by assumption)) (by omega)) | (simp only [List.length_append, List.length_take, List.length_drop, List.length_cons, List.length_nil]; omega) | (simp_all; done)) (by first | omega | assumption | (exact hx _ (getD_mem (by omega))) | (exact hx _ (by assumption)) | (exact Nat.le_trans (hx _ (by assumption)) (by omega)) | (simp only [List.length_append, List.length_take, List.length_drop, List.length_cons, List.length_nil]; omega) | (simp_all; done))) (.skip _ _ (.skip _ _ .nil)) rfl) rfl rfl ?_
        refine Ch.step (v := (.d (.bool (primeB ((cubes n.toNat).getD k default) off)))) rfl (.pure (.pickT _ _ _ rfl rfl rfl)) rfl rfl ?_
        refine Ch.nil ?_
        refine T_cond (b := (primeB ((cubes n.toNat).getD k default) off)) rfl (fun h4 => ?_) (fun h4 => ?_)
        · refine T_region hc ?_
          refine Ch.step (v := (.row 7)) rfl (.pure (.move _ rfl rfl)) rfl rfl ?_
          refine Ch.step (v := (.d (.str ((cubes n.toNat).getD k default)))) rfl (.pure (.move _ rfl rfl)) rfl rfl ?_
          refine Ch.step (v := (.row 33000)) rfl (.slice 33000 _ 9 _ rfl sty22 (xs := [.tmp 32]) rfl rfl (.cons (.d _) .nil) rfl rfl (by decide)) rfl rfl ?_
          refine Ch.step (v := (.row 34000)) rfl (.append 34000 _ _ _ 9 rfl sty22 (by decide) (.rowK rfl) (.inr ⟨_, rfl, rfl⟩) (.row rfl rfl) rfl (by first | omega | (simp; omega) | (simp; done))) rfl rfl ?_
          refine Ch.step (v := (.row 34000)) rfl (.pure (.assign _ rfl rfl)) rfl rfl ?_
          refine Ch.nil ?_
          refine T_region hc ?_
          refine Ch.step (v := (.d (.int .i64 (((k : Nat) : Int) + 1)))) rfl (.pure (.int _ _ _ _ _ rfl rfl rfl (intV_add (by first | omega | (simp only [List.length_map, List.length_append, List.length_take, List.length_drop, List.length_cons, List.length_nil]; omega) | (simp; omega) | (simp; done)) (by first | omega | (simp only [List.length_map, List.length_append, List.length_take, List.length_drop, List.length_cons, List.length_nil]; omega) | (simp; omega) | (simp; done))))) rfl rfl ?_
          refine Ch.step (v := (.d (.int .i64 (((k : Nat) : Int) + 1)))) rfl (.pure (.move _ rfl rfl)) rfl rfl ?_
          refine Ch.nil ?_
          refine Exists.intro (k + 1) (And.intro (by omega) (And.intro (by first | omega | (dsimp only; omega)) (Wk.ren [(7, 34000)] rfl rfl rfl rfl (And.intro rfl (And.intro rfl (And.intro rfl (And.intro rfl (And.intro rfl (And.intro (vI (by first | rfl | omega | (simp; done) | (simp; omega))) trivial)))))) (And.intro (oR (by first | rfl | (exact push rfl (ftake_yes (by omega) (by rw [primP]; simp_all))) | (exact congrArg (List.map D.str) (ftake_no (by omega) (by rw [primP]; simp_all))))) (And.intro rfl trivial)))))
        · refine T_skip ?_
          refine T_region hc ?_
          refine Ch.step (v := (.d (.int .i64 (((k : Nat) : Int) + 1)))) rfl (.pure (.int _ _ _ _ _ rfl rfl rfl (intV_add (by first | omega | (simp only [List.length_map, List.length_append, List.length_take, List.length_drop, List.length_cons, List.length_nil]; omega) | (simp; omega) | (simp; done)) (by first | omega | (simp only [List.length_map, List.length_append, List.length_take, List.length_drop, List.length_cons, List.length_nil]; omega) | (simp; omega) | (simp; done))))) rfl rfl ?_
          refine Ch.step (v := (.d (.int .i64 (((k : Nat) : Int) + 1)))) rfl (.pure (.move _ rfl rfl)) rfl rfl ?_
          refine Ch.nil ?_
          refine Exists.intro (k + 1) (And.intro (by omega) (And.intro (by first | omega | (dsimp only; omega)) (Wk.of rfl rfl (And.intro rfl (And.intro rfl (And.intro rfl (And.intro rfl (And.intro rfl (And.intro (vI (by first | rfl | omega | (simp; done) | (simp; omega))) trivial)))))) (And.intro (oR (by first | rfl | (exact push rfl (ftake_yes (by omega) (by rw [primP]; simp_all))) | (exact congrArg (List.map D.str) (ftake_no (by omega) (by rw [primP]; simp_all))))) (And.intro rfl trivial)))))
    | false =>
      refine Ch.skip rfl rfl ?_
      refine Ch.skip rfl rfl ?_
      refine Ch.skip rfl rfl ?_
      refine Ch.skip rfl rfl ?_
      refine Ch.step (v := (.d (.bool false))) rfl (.pure (.pickF _ _ _ rfl rfl rfl)) rfl rfl ?_
      refine Ch.step (v := (.d (.bool false))) rfl (.pure (.move _ rfl rfl)) rfl rfl ?_
      refine Ch.skip rfl rfl ?_
      refine Ch.skip rfl rfl ?_
      refine Ch.skip rfl rfl ?_
      refine Ch.step (v := (.d (.bool false))) rfl (.pure (.pickF _ _ _ rfl rfl rfl)) rfl rfl ?_
      refine Ch.nil ?_
      refine T_cond (b := false) rfl (fun h => nomatch h) (fun _ => ?_)
      refine T_skip ?_
      refine T_region hc ?_
      refine Ch.step (v := (.d (.int .i64 (((k : Nat) : Int) + 1)))) rfl (.pure (.int _ _ _ _ _ rfl rfl rfl (intV_add (by first | omega | (simp only [List.length_map, List.length_append, List.length_take, List.length_drop, List.length_cons, List.length_nil]; omega) | (simp; omega) | (simp; done)) (by first | omega | (simp only [List.length_map, List.length_append, List.length_take, List.length_drop, List.length_cons, List.length_nil]; omega) | (simp; omega) | (simp; done))))) rfl rfl ?_
      refine Ch.step (v := (.d (.int .i64 (((k : Nat) : Int) + 1)))) rfl (.pure (.move _ rfl rfl)) rfl rfl ?_
      refine Ch.nil ?_
      refine Exists.intro (k + 1) (And.intro (by omega) (And.intro (by first | omega | (dsimp only; omega)) (Wk.of rfl rfl (And.intro rfl (And.intro rfl (And.intro rfl (And.intro rfl (And.intro rfl (And.intro (vI (by first | rfl | omega | (simp; done) | (simp; omega))) trivial)))))) (And.intro (oR (by first | rfl | (exact push rfl (ftake_yes (by omega) (by rw [primP]; simp_all))) | (exact congrArg (List.map D.str) (ftake_no (by omega) (by rw [primP]; simp_all))))) (And.intro rfl trivial)))))
  · replace h1 := of_decide_eq_false h1
    try have hk := cubes_mem n.toNat _ (getD_mem (l := (cubes n.toNat)) (j := k) (d := default) (by omega))
    try have hk1 : ∀ u ∈ on, ((cubes n.toNat).getD k default).length ≤ u.length := fun u hu => by (have := ho1 u hu; omega)
    try have hk2 : ∀ u ∈ off, ((cubes n.toNat).getD k default).length ≤ u.length := fun u hu => by (have := ho2 u hu; omega)
    refine T_exit ?_
    refine T_seq ?_
    refine T_region hc ?_
    refine Ch.step (v := (.row 7)) rfl (.pure (.move _ rfl rfl)) rfl rfl ?_
    refine Ch.step (v := (.row 7)) rfl (.pure (.assign _ rfl rfl)) rfl rfl ?_
    refine Ch.nil ?_
    refine T_ret ?_
    refine And.intro (.inr rfl) ?_
    exact Exists.intro [(.row 7)] (Exists.intro [] (Exists.intro [7] (And.intro (.cons (.tmp 6 rfl) .nil) (And.intro (.cons (.any _) (.cons (.any _) (.cons (.any _) .nil))) (And.intro (Exp.of (congrArg (D.slice true 1) (by rw [ftake_all (by omega)]; rfl)) (.row rfl)) (And.intro rfl rfl))))))

theorem sp_impl_primes_1 (a : List UInt8) (on off : List (List UInt8)) (hn1 : on.length ≤ 1048576) (hn2 : off.length ≤ 1048576) (ha : a.length ≤ 1048576) (hk1 : ∀ u ∈ on, a.length ≤ u.length) (hk2 : ∀ u ∈ off, a.length ≤ u.length) : Sp Try.prog 150 [(.str a), (.ref (.slice false 1 (on.map D.str))), (.ref (.slice false 1 (off.map D.str)))] [.any, .any, .any] (.bool (!primP on off a)) := by
  refine Sp_intro (lend := true) Try.func150 rfl rfl rfl (fun _ => rfl) (fun c hc hX => ?_)
  refine T_seq ?_
  refine T_region hc ?_
  refine Ch.step (v := (.d (.bool false))) rfl (.pure (.assign _ rfl rfl)) rfl rfl ?_
  refine Ch.nil ?_
  refine T_seq ?_
  refine T_region hc ?_
  refine Ch.step (v := (.d (.str a))) rfl (.pure (.move _ rfl rfl)) rfl rfl ?_
  refine Ch.step (v := (.d (.slice false 1 (on.map D.str)))) rfl (.pure (.loadRef1 _ _ rfl ag22 rfl rfl)) rfl rfl ?_
  refine Ch.step (v := (.d (.bool (!anyB a on)))) rfl (.call 7000 151 _ _ _ en151 rfl (.inl rfl) (.cons (.d _) (.cons (.d _) .nil)) rfl rfl (sp_impl_avoids a on (by first | omega | assumption | (exact hx _ (getD_mem (by omega))) | (exact hx _ (by assumption)) | (exact Nat.le_trans (hx _ (by assumption)) (by omega)) | (simp only [List.length_append, List.length_take, List.length_drop, List.length_cons, List.length_nil]; omega) | (simp_all; done)) (by first | omega | assumption | (exact hx _ (getD_mem (by omega))) | (exact hx _ (by assumption)) | (exact Nat.le_trans (hx _ (by assumption)) (by omega)) | (simp only [List.length_append, List.length_take, List.length_drop, List.length_cons, List.length_nil]; omega) | (simp_all; done)) (by first | omega | assumption | (exact hx _ (getD_mem (by omega))) | (exact hx _ (by assumption)) | (exact Nat.le_trans (hx _ (by assumption)) (by omega)) | (simp only [List.length_append, List.length_take, List.length_drop, List.length_cons, List.length_nil]; omega) | (simp_all; done))) (.skip _ _ (.skip _ _ .nil)) rfl) rfl rfl ?_
  refine Ch.step (v := (.d (.bool (!anyB a on)))) rfl (.pure (.move _ rfl rfl)) rfl rfl ?_
  cases h1 : (!anyB a on) with
  | true =>
    refine Ch.skip rfl rfl ?_
    refine Ch.skip rfl rfl ?_
    refine Ch.skip rfl rfl ?_
    refine Ch.skip rfl rfl ?_
    refine Ch.step (v := (.d (.bool true))) rfl (.pure (.pickT _ _ _ rfl rfl rfl)) rfl rfl ?_
    refine Ch.step (v := (.d (.bool true))) rfl (.pure (.move _ rfl rfl)) rfl rfl ?_
    refine Ch.skip rfl rfl ?_
    refine Ch.skip rfl rfl ?_
    refine Ch.skip rfl rfl ?_
    refine Ch.skip rfl rfl ?_
    refine Ch.step (v := (.d (.bool true))) rfl (.pure (.pickT _ _ _ rfl rfl rfl)) rfl rfl ?_
    refine Ch.step (v := (.d (.bool true))) rfl (.pure (.assign _ rfl rfl)) rfl rfl ?_
    refine Ch.nil ?_
    refine T_ret ?_
    refine And.intro (.inr rfl) ?_
    exact Exists.intro [(.d (.bool true))] (Exists.intro [] (Exists.intro [] (And.intro (.cons (.tmp 4 rfl) .nil) (And.intro (.cons (.any _) (.cons (.any _) (.cons (.any _) .nil))) (And.intro (Exp.of (congrArg D.bool (by first | (rw [primP]; simp_all; done) | (unfold primP; simp_all; done))) (.d _)) (And.intro rfl rfl))))))
  | false =>
    refine Ch.step (v := (.d (.str a))) rfl (.pure (.move _ rfl rfl)) rfl rfl ?_
    refine Ch.step (v := (.d (.slice false 1 (off.map D.str)))) rfl (.pure (.loadRef1 _ _ rfl ag22 rfl rfl)) rfl rfl ?_
    refine Ch.step (v := (.d (.bool (!anyB a off)))) rfl (.call 11000 151 _ _ _ en151 rfl (.inl rfl) (.cons (.d _) (.cons (.d _) .nil)) rfl rfl (sp_impl_avoids a off (by first | omega | assumption | (exact hx _ (getD_mem (by omega))) | (exact hx _ (by assumption)) | (exact Nat.le_trans (hx _ (by assumption)) (by omega)) | (simp only [List.length_append, List.length_take, List.length_drop, List.length_cons, List.length_nil]; omega) | (simp_all; done)) (by first | omega | assumption | (exact hx _ (getD_mem (by omega))) | (exact hx _ (by assumption)) | (exact Nat.le_trans (hx _ (by assumption)) (by omega)) | (simp only [List.length_append, List.length_take, List.length_drop, List.length_cons, List.length_nil]; omega) | (simp_all; done)) (by first | omega | assumption | (exact hx _ (getD_mem (by omega))) | (exact hx _ (by assumption)) | (exact Nat.le_trans (hx _ (by assumption)) (by omega)) | (simp only [List.length_append, List.length_take, List.length_drop, List.length_cons, List.length_nil]; omega) | (simp_all; done))) (.skip _ _ (.skip _ _ .nil)) rfl) rfl rfl ?_
    refine Ch.step (v := (.d (.bool (!(!anyB a off))))) rfl (.pure (.not _ _ rfl rfl)) rfl rfl ?_
    refine Ch.step (v := (.d (.bool (!(!anyB a off))))) rfl (.pure (.pickF _ _ _ rfl rfl rfl)) rfl rfl ?_
    refine Ch.step (v := (.d (.bool (!(!anyB a off))))) rfl (.pure (.move _ rfl rfl)) rfl rfl ?_
    cases h2 : (!anyB a off) with
    | true =>
      refine Ch.step (v := (.d (.str a))) rfl (.pure (.move _ rfl rfl)) rfl rfl ?_
      refine Ch.step (v := (.d (.slice false 1 (off.map D.str)))) rfl (.pure (.loadRef1 _ _ rfl ag22 rfl rfl)) rfl rfl ?_
      refine Ch.step (v := (.d (.bool (primeB a off)))) rfl (.call 17000 152 _ _ _ en152 rfl (.inl rfl) (.cons (.d _) (.cons (.d _) .nil)) rfl rfl (sp_impl_isPrime a off (by first | omega | assumption | (exact hx _ (getD_mem (by omega))) | (exact hx _ (by assumption)) | (exact Nat.le_trans (hx _ (by assumption)) (by omega)) | (simp only [List.length_append, List.length_take, List.length_drop, List.length_cons, List.length_nil]; omega) | (simp_all; done)) (by first | omega | assumption | (exact hx _ (getD_mem (by omega))) | (exact hx _ (by assumption)) | (exact Nat.le_trans (hx _ (by assumption)) (by omega)) | (simp only [List.length_append, List.length_take, List.length_drop, List.length_cons, List.length_nil]; omega) | (simp_all; done)) (by first | omega | assumption | (exact hx _ (getD_mem (by omega))) | (exact hx _ (by assumption)) | (exact Nat.le_trans (hx _ (by assumption)) (by omega)) | (simp only [List.length_append, List.length_take, List.length_drop, List.length_cons, List.length_nil]; omega) | (simp_all; done))) (.skip _ _ (.skip _ _ .nil)) rfl) rfl rfl ?_
      refine Ch.step (v := (.d (.bool (!(primeB a off))))) rfl (.pure (.not _ _ rfl rfl)) rfl rfl ?_
      refine Ch.step (v := (.d (.bool (!(primeB a off))))) rfl (.pure (.pickF _ _ _ rfl rfl rfl)) rfl rfl ?_
      refine Ch.step (v := (.d (.bool (!(primeB a off))))) rfl (.pure (.assign _ rfl rfl)) rfl rfl ?_
      refine Ch.nil ?_
      refine T_ret ?_
      refine And.intro (.inr rfl) ?_
      exact Exists.intro [(.d (.bool (!(primeB a off))))] (Exists.intro [] (Exists.intro [] (And.intro (.cons (.tmp 4 rfl) .nil) (And.intro (.cons (.any _) (.cons (.any _) (.cons (.any _) .nil))) (And.intro (Exp.of (congrArg D.bool (by first | (rw [primP]; simp_all; done) | (unfold primP; simp_all; done))) (.d _)) (And.intro rfl rfl))))))
    | false =>
      refine Ch.skip rfl rfl ?_
      refine Ch.skip rfl rfl ?_
      refine Ch.skip rfl rfl ?_
      refine Ch.skip rfl rfl ?_
      refine Ch.step (v := (.d (.bool true))) rfl (.pure (.pickT _ _ _ rfl rfl rfl)) rfl rfl ?_
      refine Ch.step (v := (.d (.bool true))) rfl (.pure (.assign _ rfl rfl)) rfl rfl ?_
      refine Ch.nil ?_
      refine T_ret ?_
      refine And.intro (.inr rfl) ?_
      exact Exists.intro [(.d (.bool true))] (Exists.intro [] (Exists.intro [] (And.intro (.cons (.tmp 4 rfl) .nil) (And.intro (.cons (.any _) (.cons (.any _) (.cons (.any _) .nil))) (And.intro (Exp.of (congrArg D.bool (by first | (rw [primP]; simp_all; done) | (unfold primP; simp_all; done))) (.d _)) (And.intro rfl rfl))))))

theorem primL_del (n : Nat) (on off : List (List UInt8)) : (cubes n).filter (fun u => !(fun u => !primP on off u) u) = primL n on off := by
  unfold primL; congr 1; funext u; simp
theorem primL_le (n : Nat) (on off : List (List UInt8)) : (primL n on off).length ≤ 3 ^ n := by
  rw [← cubes_length n]; exact List.length_filter_le _ _
theorem primL_mem {n : Nat} {on off : List (List UInt8)} : ∀ u ∈ primL n on off, u.length = n := fun u hu => cubes_mem n u (List.mem_filter.1 hu).1
def primOk (n : Int) (on off : List (List UInt8)) : Bool := onoffB n on off && decide (((primL n.toNat on off).length : Int) ≤ 60)
def primR (n : Int) (on off : List (List UInt8)) : List (List UInt8) := if primOk n on off then primL n.toNat on off else []
theorem primR_le (n : Int) (on off : List (List UInt8)) : (primR n on off).length ≤ 60 := by
  unfold primR; split
  · rename_i h
    unfold primOk at h
    simp only [Bool.and_eq_true, decide_eq_true_iff] at h
    omega
  · simp

theorem sp_impl_primes (n : Int) (on off : List (List UInt8)) (h0 : 0 ≤ n) (h8 : n ≤ 8) (hn1 : on.length ≤ 1048576) (hn2 : off.length ≤ 1048576) (ho1 : ∀ u ∈ on, (u.length : Int) = n) (ho2 : ∀ u ∈ off, (u.length : Int) = n) : Sp Try.prog 104 [(.int .i64 n), (.slice false 1 (on.map D.str)), (.slice false 1 (off.map D.str))] [.any, .any, .any] (.tup [(.slice true 1 ((primL n.toNat on off).map D.str)), (.bool (decide ((((primL n.toNat on off).length : Nat) : Int) ≤ 60)))]) := by
  refine Sp_intro (lend := true) Try.func104 rfl rfl rfl (fun _ => rfl) (fun c hc hX => ?_)
  have hcl := cubes_length n.toNat; have hp3 : 3 ^ n.toNat ≤ 3 ^ 8 := Nat.pow_le_pow_right (by omega) (by omega)
  refine T_seq ?_
  refine T_region hc ?_
  refine Ch.step (v := (.ptr 4000 0)) rfl (.box 4000 _ _ rfl (.one _ rfl)) rfl rfl ?_
  refine Ch.step (v := (.ptr 5000 0)) rfl (.box 5000 _ _ rfl (.one _ rfl)) rfl rfl ?_
  refine Ch.step (v := (.c (.slice none 0 0))) rfl (.pure (.assign _ rfl rfl)) rfl rfl ?_
  refine Ch.step (v := (.d (.bool false))) rfl (.pure (.assign _ rfl rfl)) rfl rfl ?_
  refine Ch.nil ?_
  refine T_seq ?_
  refine T_region hc ?_
  refine Ch.step (v := (.d (.int .i64 n))) rfl (.pure (.move _ rfl rfl)) rfl rfl ?_
  refine Ch.step (v := (.row 10000)) rfl (.call 10000 149 _ _ _ en149 rfl (.inl rfl) (.cons (.d _) .nil) rfl (sol (solid_row (fun _ => rfl) _) rfl) (sp_impl_allCubes n (by first | omega | assumption | (exact hx _ (getD_mem (by omega))) | (exact hx _ (by assumption)) | (exact Nat.le_trans (hx _ (by assumption)) (by omega)) | (simp only [List.length_append, List.length_take, List.length_drop, List.length_cons, List.length_nil]; omega) | (simp_all; done)) (by first | omega | assumption | (exact hx _ (getD_mem (by omega))) | (exact hx _ (by assumption)) | (exact Nat.le_trans (hx _ (by assumption)) (by omega)) | (simp only [List.length_append, List.length_take, List.length_drop, List.length_cons, List.length_nil]; omega) | (simp_all; done))) (.skip _ _ .nil) rfl) rfl rfl ?_
  refine Ch.step (v := (.fn 150 [(.ptr 4000 0), (.ptr 5000 0)])) rfl (.pure (.func _ _ rfl rfl)) rfl rfl ?_
  refine Ch.step (v := (.row 12000)) rfl (.call 12000 114 _ _ _ en114 rfl (.inl rfl) (.cons (.row rfl) (.cons (.lend (.fn (.cons (.ptr rfl (.one (.d _) rfl)) (.cons (.ptr rfl (.one (.d _) rfl)) .nil)))) .nil)) rfl (sol (solid_row (fun _ => rfl) _) rfl) (sp_DeleteFunc_str (cubes n.toNat) 150 [(.ref (.slice false 1 (on.map D.str))), (.ref (.slice false 1 (off.map D.str)))] (fun u => !primP on off u) en150 (fun u hu => sp_impl_primes_1 u on off hn1 hn2 (by have h6 := cubes_mem _ u hu; omega) (fun v hv => by (have h6 := cubes_mem _ u hu; have h7 := ho1 v hv; omega)) (fun v hv => by (have h6 := cubes_mem _ u hu; have h7 := ho2 v hv; omega))) (by first | omega | assumption | (exact hx _ (getD_mem (by omega))) | (exact hx _ (by assumption)) | (exact Nat.le_trans (hx _ (by assumption)) (by omega)) | (simp only [List.length_append, List.length_take, List.length_drop, List.length_cons, List.length_nil]; omega) | (simp_all; done))) (.skip _ _ (.skip _ _ .nil)) rfl) rfl rfl ?_
  refine Ch.step (v := (.row 12000)) rfl (.pure (.assign _ rfl rfl)) rfl rfl ?_
  refine Ch.nil ?_
  refine T_seq ?_
  refine T_region hc ?_
  refine Ch.step (v := (.row 12000)) rfl (.pure (.move _ rfl rfl)) rfl rfl ?_
  refine Ch.step (v := (.row 12000)) rfl (.pure (.move _ rfl rfl)) rfl rfl ?_
  refine Ch.step (v := (.d (.int .i64 ((((cubes n.toNat).filter (fun u => !(fun u => !primP on off u) u)).length : Nat) : Int)))) rfl (.pure (.len _ _ 9 rfl Try.underlying22 (.row rfl) (by simp))) rfl rfl ?_
  refine Ch.step (v := (.d (.bool (decide (((((cubes n.toNat).filter (fun u => !(fun u => !primP on off u) u)).length : Nat) : Int) ≤ 60))))) rfl (.pure (.int _ _ _ _ _ rfl rfl rfl rfl)) rfl rfl ?_
  refine Ch.step (v := (.row 12000)) rfl (.pure (.assign _ rfl rfl)) rfl rfl ?_
  refine Ch.step (v := (.d (.bool (decide (((((cubes n.toNat).filter (fun u => !(fun u => !primP on off u) u)).length : Nat) : Int) ≤ 60))))) rfl (.pure (.assign _ rfl rfl)) rfl rfl ?_
  refine Ch.nil ?_
  refine T_ret ?_
  refine And.intro (.inr rfl) ?_
  exact Exists.intro [(.row 12000), (.d (.bool (decide (((((cubes n.toNat).filter (fun u => !(fun u => !primP on off u) u)).length : Nat) : Int) ≤ 60))))] (Exists.intro [] (Exists.intro [12000] (And.intro (.cons (.tmp 6 rfl) (.cons (.tmp 7 rfl) .nil)) (And.intro (.cons (.any _) (.cons (.any _) (.cons (.any _) .nil))) (And.intro (.tup (.cons (Exp.of (congrArg (D.slice true 1) (by first | rfl | (rw [primL_del]; done))) (.row rfl)) (.cons (Exp.of (congrArg D.bool (by first | rfl | (rw [primL_del]; done))) (.d _)) .nil))) (And.intro rfl rfl))))))

theorem sp_spec_Primes (n : Int) (on off : List (List UInt8)) (hn1 : on.length ≤ 1048576) (hx1 : ∀ x ∈ on, x.length ≤ 1048576) (hn2 : off.length ≤ 1048576) (hx2 : ∀ x ∈ off, x.length ≤ 1048576) : Sp Try.prog 47 [(.int .i64 n), (.slice false 1 (on.map D.str)), (.slice false 1 (off.map D.str))] [.any, .any, .any] (.tup [(.slice true 1 ((primR n on off).map D.str)), (.bool (primOk n on off))]) := by
  refine Sp_intro (lend := true) Try.func47 rfl rfl rfl (fun _ => rfl) (fun c hc hX => ?_)
  refine T_seq ?_
  refine T_region hc ?_
  refine Ch.step (v := (.c (.slice none 0 0))) rfl (.pure (.assign _ rfl rfl)) rfl rfl ?_
  refine Ch.step (v := (.d (.bool false))) rfl (.pure (.assign _ rfl rfl)) rfl rfl ?_
  refine Ch.nil ?_
  refine T_seq ?_
  refine T_seq ?_
  refine T_region hc ?_
  refine Ch.step (v := (.d (.int .i64 n))) rfl (.pure (.move _ rfl rfl)) rfl rfl ?_
  refine Ch.step (v := (.d (.slice false 1 (on.map D.str)))) rfl (.pure (.move _ rfl rfl)) rfl rfl ?_
  refine Ch.step (v := (.d (.slice false 1 (off.map D.str)))) rfl (.pure (.move _ rfl rfl)) rfl rfl ?_
  refine Ch.step (v := (.d (.bool (onoffB n on off)))) rfl (.call 12000 67 _ _ _ en67 rfl (.inl rfl) (.cons (.d _) (.cons (.d _) (.cons (.d _) .nil))) rfl rfl (sp_spec_l14Sets n on off (by first | omega | assumption | (exact hx _ (getD_mem (by omega))) | (exact hx _ (by assumption)) | (exact Nat.le_trans (hx _ (by assumption)) (by omega)) | (simp only [List.length_append, List.length_take, List.length_drop, List.length_cons, List.length_nil]; omega) | (simp_all; done)) (by first | omega | assumption | (exact hx _ (getD_mem (by omega))) | (exact hx _ (by assumption)) | (exact Nat.le_trans (hx _ (by assumption)) (by omega)) | (simp only [List.length_append, List.length_take, List.length_drop, List.length_cons, List.length_nil]; omega) | (simp_all; done)) (by first | omega | assumption | (exact hx _ (getD_mem (by omega))) | (exact hx _ (by assumption)) | (exact Nat.le_trans (hx _ (by assumption)) (by omega)) | (simp only [List.length_append, List.length_take, List.length_drop, List.length_cons, List.length_nil]; omega) | (simp_all; done)) (by first | omega | assumption | (exact hx _ (getD_mem (by omega))) | (exact hx _ (by assumption)) | (exact Nat.le_trans (hx _ (by assumption)) (by omega)) | (simp only [List.length_append, List.length_take, List.length_drop, List.length_cons, List.length_nil]; omega) | (simp_all; done))) (.skip _ _ (.skip _ _ (.skip _ _ .nil))) rfl) rfl rfl ?_
  refine Ch.step (v := (.d (.bool (!(onoffB n on off))))) rfl (.pure (.not _ _ rfl rfl)) rfl rfl ?_
  refine Ch.nil ?_
  refine T_cond (b := (!(onoffB n on off))) rfl (fun h1 => ?_) (fun h1 => ?_)
  · replace h1 := nott h1
    try have hop := onoff_parts h1
    try have h0 : 0 ≤ n := by (have := hop.1; omega)
    try have h8 := hop.1.2
    try have ho1 := hop.2.2.2.1
    try have ho2 := hop.2.2.2.2
    try have hpl := primL_le n.toNat on off
    try have hp3 : 3 ^ n.toNat ≤ 3 ^ 8 := Nat.pow_le_pow_right (by omega) (by omega)
    refine T_seq ?_
    refine T_region hc ?_
    refine Ch.step (v := (.c (.slice none 0 0))) rfl (.pure (.assign _ rfl rfl)) rfl rfl ?_
    refine Ch.step (v := (.d (.bool false))) rfl (.pure (.assign _ rfl rfl)) rfl rfl ?_
    refine Ch.nil ?_
    refine T_ret ?_
    refine And.intro (.inr rfl) ?_
    exact Exists.intro [(.c (.slice none 0 0)), (.d (.bool false))] (Exists.intro [] (Exists.intro [] (And.intro (.cons (.tmp 6 rfl) (.cons (.tmp 7 rfl) .nil)) (And.intro (.cons (.any _) (.cons (.any _) (.cons (.any _) .nil))) (And.intro (.tup (.cons (Exp.of (congrArg (D.slice true 1) (by first | (rw [primR, primOk, h1]; rfl) | (rw [primR, primOk, h1, decide_eq_true h2]; rfl) | (rw [primR, primOk, h1, decide_eq_false h2]; rfl) | (rw [primR, primOk, h1, decide_eq_true (show (((primL n.toNat on off).length : Nat) : Int) ≤ 60 by omega)]; rfl) | (rw [primR, primOk, h1, decide_eq_false (show ¬ (((primL n.toNat on off).length : Nat) : Int) ≤ 60 by omega)]; rfl) | (rw [primOk, h1]; rfl) | (rw [primOk, h1, decide_eq_true h2]; rfl) | (rw [primOk, h1, decide_eq_false h2]; rfl) | (rw [primOk, h1, decide_eq_true (show (((primL n.toNat on off).length : Nat) : Int) ≤ 60 by omega)]; rfl) | (rw [primOk, h1, decide_eq_false (show ¬ (((primL n.toNat on off).length : Nat) : Int) ≤ 60 by omega)]; rfl))) (.nil true 1)) (.cons (Exp.of (congrArg D.bool (by first | (rw [primR, primOk, h1]; rfl) | (rw [primR, primOk, h1, decide_eq_true h2]; rfl) | (rw [primR, primOk, h1, decide_eq_false h2]; rfl) | (rw [primR, primOk, h1, decide_eq_true (show (((primL n.toNat on off).length : Nat) : Int) ≤ 60 by omega)]; rfl) | (rw [primR, primOk, h1, decide_eq_false (show ¬ (((primL n.toNat on off).length : Nat) : Int) ≤ 60 by omega)]; rfl) | (rw [primOk, h1]; rfl) | (rw [primOk, h1, decide_eq_true h2]; rfl) | (rw [primOk, h1, decide_eq_false h2]; rfl) | (rw [primOk, h1, decide_eq_true (show (((primL n.toNat on off).length : Nat) : Int) ≤ 60 by omega)]; rfl) | (rw [primOk, h1, decide_eq_false (show ¬ (((primL n.toNat on off).length : Nat) : Int) ≤ 60 by omega)]; rfl))) (.d _)) .nil))) (And.intro rfl rfl))))))
  · replace h1 := notf h1
    try have hop := onoff_parts h1
    try have h0 : 0 ≤ n := by (have := hop.1; omega)
    try have h8 := hop.1.2
    try have ho1 := hop.2.2.2.1
    try have ho2 := hop.2.2.2.2
    try have hpl := primL_le n.toNat on off
    try have hp3 : 3 ^ n.toNat ≤ 3 ^ 8 := Nat.pow_le_pow_right (by omega) (by omega)
    refine T_skip ?_
    refine T_seq ?_
    refine T_region hc ?_
    refine Ch.step (v := (.d (.int .i64 n))) rfl (.pure (.move _ rfl rfl)) rfl rfl ?_
    refine Ch.step (v := (.d (.slice false 1 (on.map D.str)))) rfl (.pure (.move _ rfl rfl)) rfl rfl ?_
    refine Ch.step (v := (.d (.slice false 1 (off.map D.str)))) rfl (.pure (.move _ rfl rfl)) rfl rfl ?_
    refine Ch.step (v := (.row 17000)) rfl (.call 17000 103 _ _ _ en103 rfl (.inl rfl) (.cons (.d _) (.cons (.d _) (.cons (.d _) .nil))) rfl (sol (solid_row (fun _ => rfl) _) rfl) (sp_spec_l14Primes n on off (by first | omega | assumption | (exact hx _ (getD_mem (by omega))) | (exact hx _ (by assumption)) | (exact Nat.le_trans (hx _ (by assumption)) (by omega)) | (simp only [List.length_append, List.length_take, List.length_drop, List.length_cons, List.length_nil]; omega) | (simp_all; done)) (by first | omega | assumption | (exact hx _ (getD_mem (by omega))) | (exact hx _ (by assumption)) | (exact Nat.le_trans (hx _ (by assumption)) (by omega)) | (simp only [List.length_append, List.length_take, List.length_drop, List.length_cons, List.length_nil]; omega) | (simp_all; done)) (by first | omega | assumption | (exact hx _ (getD_mem (by omega))) | (exact hx _ (by assumption)) | (exact Nat.le_trans (hx _ (by assumption)) (by omega)) | (simp only [List.length_append, List.length_take, List.length_drop, List.length_cons, List.length_nil]; omega) | (simp_all; done)) (by first | omega | assumption | (exact hx _ (getD_mem (by omega))) | (exact hx _ (by assumption)) | (exact Nat.le_trans (hx _ (by assumption)) (by omega)) | (simp only [List.length_append, List.length_take, List.length_drop, List.length_cons, List.length_nil]; omega) | (simp_all; done)) (by first | omega | assumption | (exact hx _ (getD_mem (by omega))) | (exact hx _ (by assumption)) | (exact Nat.le_trans (hx _ (by assumption)) (by omega)) | (simp only [List.length_append, List.length_take, List.length_drop, List.length_cons, List.length_nil]; omega) | (simp_all; done)) (by first | omega | assumption | (exact hx _ (getD_mem (by omega))) | (exact hx _ (by assumption)) | (exact Nat.le_trans (hx _ (by assumption)) (by omega)) | (simp only [List.length_append, List.length_take, List.length_drop, List.length_cons, List.length_nil]; omega) | (simp_all; done))) (.skip _ _ (.skip _ _ (.skip _ _ .nil))) rfl) rfl rfl ?_
    refine Ch.step (v := (.row 17000)) rfl (.pure (.assign _ rfl rfl)) rfl rfl ?_
    refine Ch.nil ?_
    refine T_seq ?_
    refine T_seq ?_
    refine T_region hc ?_
    refine Ch.step (v := (.row 17000)) rfl (.pure (.move _ rfl rfl)) rfl rfl ?_
    refine Ch.step (v := (.d (.int .i64 (((primL n.toNat on off).length : Nat) : Int)))) rfl (.pure (.len _ _ 9 rfl Try.underlying22 (.row rfl) (by simp))) rfl rfl ?_
    refine Ch.step (v := (.d (.bool (decide (60 < (((primL n.toNat on off).length : Nat) : Int)))))) rfl (.pure (.int _ _ _ _ _ rfl rfl rfl rfl)) rfl rfl ?_
    refine Ch.nil ?_
    refine T_cond (b := (decide (60 < (((primL n.toNat on off).length : Nat) : Int)))) rfl (fun h2 => ?_) (fun h2 => ?_)
    · replace h2 := of_decide_eq_true h2
      refine T_seq ?_
      refine T_region hc ?_
      refine Ch.step (v := (.c (.slice none 0 0))) rfl (.pure (.assign _ rfl rfl)) rfl rfl ?_
      refine Ch.step (v := (.d (.bool false))) rfl (.pure (.assign _ rfl rfl)) rfl rfl ?_
      refine Ch.nil ?_
      refine T_ret ?_
      refine And.intro (.inr rfl) ?_
      exact Exists.intro [(.c (.slice none 0 0)), (.d (.bool false))] (Exists.intro [] (Exists.intro [] (And.intro (.cons (.tmp 6 rfl) (.cons (.tmp 7 rfl) .nil)) (And.intro (.cons (.any _) (.cons (.any _) (.cons (.any _) .nil))) (And.intro (.tup (.cons (Exp.of (congrArg (D.slice true 1) (by first | (rw [primR, primOk, h1]; rfl) | (rw [primR, primOk, h1, decide_eq_true h2]; rfl) | (rw [primR, primOk, h1, decide_eq_false h2]; rfl) | (rw [primR, primOk, h1, decide_eq_true (show (((primL n.toNat on off).length : Nat) : Int) ≤ 60 by omega)]; rfl) | (rw [primR, primOk, h1, decide_eq_false (show ¬ (((primL n.toNat on off).length : Nat) : Int) ≤ 60 by omega)]; rfl) | (rw [primOk, h1]; rfl) | (rw [primOk, h1, decide_eq_true h2]; rfl) | (rw [primOk, h1, decide_eq_false h2]; rfl) | (rw [primOk, h1, decide_eq_true (show (((primL n.toNat on off).length : Nat) : Int) ≤ 60 by omega)]; rfl) | (rw [primOk, h1, decide_eq_false (show ¬ (((primL n.toNat on off).length : Nat) : Int) ≤ 60 by omega)]; rfl))) (.nil true 1)) (.cons (Exp.of (congrArg D.bool (by first | (rw [primR, primOk, h1]; rfl) | (rw [primR, primOk, h1, decide_eq_true h2]; rfl) | (rw [primR, primOk, h1, decide_eq_false h2]; rfl) | (rw [primR, primOk, h1, decide_eq_true (show (((primL n.toNat on off).length : Nat) : Int) ≤ 60 by omega)]; rfl) | (rw [primR, primOk, h1, decide_eq_false (show ¬ (((primL n.toNat on off).length : Nat) : Int) ≤ 60 by omega)]; rfl) | (rw [primOk, h1]; rfl) | (rw [primOk, h1, decide_eq_true h2]; rfl) | (rw [primOk, h1, decide_eq_false h2]; rfl) | (rw [primOk, h1, decide_eq_true (show (((primL n.toNat on off).length : Nat) : Int) ≤ 60 by omega)]; rfl) | (rw [primOk, h1, decide_eq_false (show ¬ (((primL n.toNat on off).length : Nat) : Int) ≤ 60 by omega)]; rfl))) (.d _)) .nil))) (And.intro rfl rfl))))))
    · replace h2 := of_decide_eq_false h2
      refine T_skip ?_
      refine T_seq ?_
      refine T_region hc ?_
      refine Ch.step (v := (.row 17000)) rfl (.pure (.move _ rfl rfl)) rfl rfl ?_
      refine Ch.step (v := (.row 17000)) rfl (.pure (.assign _ rfl rfl)) rfl rfl ?_
      refine Ch.step (v := (.d (.bool true))) rfl (.pure (.assign _ rfl rfl)) rfl rfl ?_
      refine Ch.nil ?_
      refine T_ret ?_
      refine And.intro (.inr rfl) ?_
      exact Exists.intro [(.row 17000), (.d (.bool true))] (Exists.intro [] (Exists.intro [17000] (And.intro (.cons (.tmp 6 rfl) (.cons (.tmp 7 rfl) .nil)) (And.intro (.cons (.any _) (.cons (.any _) (.cons (.any _) .nil))) (And.intro (.tup (.cons (Exp.of (congrArg (D.slice true 1) (by first | (rw [primR, primOk, h1]; rfl) | (rw [primR, primOk, h1, decide_eq_true h2]; rfl) | (rw [primR, primOk, h1, decide_eq_false h2]; rfl) | (rw [primR, primOk, h1, decide_eq_true (show (((primL n.toNat on off).length : Nat) : Int) ≤ 60 by omega)]; rfl) | (rw [primR, primOk, h1, decide_eq_false (show ¬ (((primL n.toNat on off).length : Nat) : Int) ≤ 60 by omega)]; rfl) | (rw [primOk, h1]; rfl) | (rw [primOk, h1, decide_eq_true h2]; rfl) | (rw [primOk, h1, decide_eq_false h2]; rfl) | (rw [primOk, h1, decide_eq_true (show (((primL n.toNat on off).length : Nat) : Int) ≤ 60 by omega)]; rfl) | (rw [primOk, h1, decide_eq_false (show ¬ (((primL n.toNat on off).length : Nat) : Int) ≤ 60 by omega)]; rfl))) (.row rfl)) (.cons (Exp.of (congrArg D.bool (by first | (rw [primR, primOk, h1]; rfl) | (rw [primR, primOk, h1, decide_eq_true h2]; rfl) | (rw [primR, primOk, h1, decide_eq_false h2]; rfl) | (rw [primR, primOk, h1, decide_eq_true (show (((primL n.toNat on off).length : Nat) : Int) ≤ 60 by omega)]; rfl) | (rw [primR, primOk, h1, decide_eq_false (show ¬ (((primL n.toNat on off).length : Nat) : Int) ≤ 60 by omega)]; rfl) | (rw [primOk, h1]; rfl) | (rw [primOk, h1, decide_eq_true h2]; rfl) | (rw [primOk, h1, decide_eq_false h2]; rfl) | (rw [primOk, h1, decide_eq_true (show (((primL n.toNat on off).length : Nat) : Int) ≤ 60 by omega)]; rfl) | (rw [primOk, h1, decide_eq_false (show ¬ (((primL n.toNat on off).length : Nat) : Int) ≤ 60 by omega)]; rfl))) (.d _)) .nil))) (And.intro rfl rfl))))))

theorem sp_impl_Primes (n : Int) (on off : List (List UInt8)) (hn1 : on.length ≤ 1048576) (hx1 : ∀ x ∈ on, x.length ≤ 1048576) (hn2 : off.length ≤ 1048576) (hx2 : ∀ x ∈ off, x.length ≤ 1048576) : Sp Try.prog 48 [(.int .i64 n), (.slice false 1 (on.map D.str)), (.slice false 1 (off.map D.str))] [.any, .any, .any] (.tup [(.slice true 1 ((primR n on off).map D.str)), (.bool (primOk n on off))]) := by
  refine Sp_intro (lend := true) Try.func48 rfl rfl rfl (fun _ => rfl) (fun c hc hX => ?_)
  refine T_seq ?_
  refine T_region hc ?_
  refine Ch.step (v := (.c (.slice none 0 0))) rfl (.pure (.assign _ rfl rfl)) rfl rfl ?_
  refine Ch.step (v := (.d (.bool false))) rfl (.pure (.assign _ rfl rfl)) rfl rfl ?_
  refine Ch.nil ?_
  refine T_seq ?_
  refine T_seq ?_
  refine T_region hc ?_
  refine Ch.step (v := (.d (.int .i64 n))) rfl (.pure (.move _ rfl rfl)) rfl rfl ?_
  refine Ch.step (v := (.d (.slice false 1 (on.map D.str)))) rfl (.pure (.move _ rfl rfl)) rfl rfl ?_
  refine Ch.step (v := (.d (.slice false 1 (off.map D.str)))) rfl (.pure (.move _ rfl rfl)) rfl rfl ?_
  refine Ch.step (v := (.d (.bool (onoffB n on off)))) rfl (.call 13000 69 _ _ _ en69 rfl (.inl rfl) (.cons (.d _) (.cons (.d _) (.cons (.d _) .nil))) rfl rfl (sp_impl_IsValidOnOff n on off (by first | omega | assumption | (exact hx _ (getD_mem (by omega))) | (exact hx _ (by assumption)) | (exact Nat.le_trans (hx _ (by assumption)) (by omega)) | (simp only [List.length_append, List.length_take, List.length_drop, List.length_cons, List.length_nil]; omega) | (simp_all; done)) (by first | omega | assumption | (exact hx _ (getD_mem (by omega))) | (exact hx _ (by assumption)) | (exact Nat.le_trans (hx _ (by assumption)) (by omega)) | (simp only [List.length_append, List.length_take, List.length_drop, List.length_cons, List.length_nil]; omega) | (simp_all; done)) (by first | omega | assumption | (exact hx _ (getD_mem (by omega))) | (exact hx _ (by assumption)) | (exact Nat.le_trans (hx _ (by assumption)) (by omega)) | (simp only [List.length_append, List.length_take, List.length_drop, List.length_cons, List.length_nil]; omega) | (simp_all; done)) (by first | omega | assumption | (exact hx _ (getD_mem (by omega))) | (exact hx _ (by assumption)) | (exact Nat.le_trans (hx _ (by assumption)) (by omega)) | (simp only [List.length_append, List.length_take, List.length_drop, List.length_cons, List.length_nil]; omega) | (simp_all; done))) (.skip _ _ (.skip _ _ (.skip _ _ .nil))) rfl) rfl rfl ?_
  refine Ch.step (v := (.d (.bool (!(onoffB n on off))))) rfl (.pure (.not _ _ rfl rfl)) rfl rfl ?_
  refine Ch.nil ?_
  refine T_cond (b := (!(onoffB n on off))) rfl (fun h1 => ?_) (fun h1 => ?_)
  · replace h1 := nott h1
    try have hop := onoff_parts h1
    try have h0 : 0 ≤ n := by (have := hop.1; omega)
    try have h8 := hop.1.2
    try have ho1 := hop.2.2.2.1
    try have ho2 := hop.2.2.2.2
    try have hpl := primL_le n.toNat on off
    try have hp3 : 3 ^ n.toNat ≤ 3 ^ 8 := Nat.pow_le_pow_right (by omega) (by omega)
    refine T_seq ?_
    refine T_region hc ?_
    refine Ch.step (v := (.c (.slice none 0 0))) rfl (.pure (.assign _ rfl rfl)) rfl rfl ?_
    refine Ch.step (v := (.d (.bool false))) rfl (.pure (.assign _ rfl rfl)) rfl rfl ?_
    refine Ch.nil ?_
    refine T_ret ?_
    refine And.intro (.inr rfl) ?_
    exact Exists.intro [(.c (.slice none 0 0)), (.d (.bool false))] (Exists.intro [] (Exists.intro [] (And.intro (.cons (.tmp 6 rfl) (.cons (.tmp 7 rfl) .nil)) (And.intro (.cons (.any _) (.cons (.any _) (.cons (.any _) .nil))) (And.intro (.tup (.cons (Exp.of (congrArg (D.slice true 1) (by first | (rw [primR, primOk, h1]; rfl) | (rw [primR, primOk, h1, decide_eq_true h2]; rfl) | (rw [primR, primOk, h1, decide_eq_false h2]; rfl) | (rw [primR, primOk, h1, decide_eq_true (show (((primL n.toNat on off).length : Nat) : Int) ≤ 60 by omega)]; rfl) | (rw [primR, primOk, h1, decide_eq_false (show ¬ (((primL n.toNat on off).length : Nat) : Int) ≤ 60 by omega)]; rfl) | (rw [primOk, h1]; rfl) | (rw [primOk, h1, decide_eq_true h2]; rfl) | (rw [primOk, h1, decide_eq_false h2]; rfl) | (rw [primOk, h1, decide_eq_true (show (((primL n.toNat on off).length : Nat) : Int) ≤ 60 by omega)]; rfl) | (rw [primOk, h1, decide_eq_false (show ¬ (((primL n.toNat on off).length : Nat) : Int) ≤ 60 by omega)]; rfl))) (.nil true 1)) (.cons (Exp.of (congrArg D.bool (by first | (rw [primR, primOk, h1]; rfl) | (rw [primR, primOk, h1, decide_eq_true h2]; rfl) | (rw [primR, primOk, h1, decide_eq_false h2]; rfl) | (rw [primR, primOk, h1, decide_eq_true (show (((primL n.toNat on off).length : Nat) : Int) ≤ 60 by omega)]; rfl) | (rw [primR, primOk, h1, decide_eq_false (show ¬ (((primL n.toNat on off).length : Nat) : Int) ≤ 60 by omega)]; rfl) | (rw [primOk, h1]; rfl) | (rw [primOk, h1, decide_eq_true h2]; rfl) | (rw [primOk, h1, decide_eq_false h2]; rfl) | (rw [primOk, h1, decide_eq_true (show (((primL n.toNat on off).length : Nat) : Int) ≤ 60 by omega)]; rfl) | (rw [primOk, h1, decide_eq_false (show ¬ (((primL n.toNat on off).length : Nat) : Int) ≤ 60 by omega)]; rfl))) (.d _)) .nil))) (And.intro rfl rfl))))))
  · replace h1 := notf h1
    try have hop := onoff_parts h1
    try have h0 : 0 ≤ n := by (have := hop.1; omega)
    try have h8 := hop.1.2
    try have ho1 := hop.2.2.2.1
    try have ho2 := hop.2.2.2.2
    try have hpl := primL_le n.toNat on off
    try have hp3 : 3 ^ n.toNat ≤ 3 ^ 8 := Nat.pow_le_pow_right (by omega) (by omega)
    refine T_skip ?_
    refine T_seq ?_
    refine T_region hc ?_
    refine Ch.step (v := (.d (.int .i64 n))) rfl (.pure (.move _ rfl rfl)) rfl rfl ?_
    refine Ch.step (v := (.d (.slice false 1 (on.map D.str)))) rfl (.pure (.move _ rfl rfl)) rfl rfl ?_
    refine Ch.step (v := (.d (.slice false 1 (off.map D.str)))) rfl (.pure (.move _ rfl rfl)) rfl rfl ?_
    refine Ch.step (v := (.tup [(.row 19000), (.d (.bool (decide ((((primL n.toNat on off).length : Nat) : Int) ≤ 60))))])) rfl (.call 19000 104 _ _ _ en104 rfl (.inl rfl) (.cons (.d _) (.cons (.d _) (.cons (.d _) .nil))) rfl (sol (by rw [D.solid]; exact solids_c (solid_row (fun _ => rfl) _) rfl) rfl) (sp_impl_primes n on off (by first | omega | assumption | (exact hx _ (getD_mem (by omega))) | (exact hx _ (by assumption)) | (exact Nat.le_trans (hx _ (by assumption)) (by omega)) | (simp only [List.length_append, List.length_take, List.length_drop, List.length_cons, List.length_nil]; omega) | (simp_all; done)) (by first | omega | assumption | (exact hx _ (getD_mem (by omega))) | (exact hx _ (by assumption)) | (exact Nat.le_trans (hx _ (by assumption)) (by omega)) | (simp only [List.length_append, List.length_take, List.length_drop, List.length_cons, List.length_nil]; omega) | (simp_all; done)) (by first | omega | assumption | (exact hx _ (getD_mem (by omega))) | (exact hx _ (by assumption)) | (exact Nat.le_trans (hx _ (by assumption)) (by omega)) | (simp only [List.length_append, List.length_take, List.length_drop, List.length_cons, List.length_nil]; omega) | (simp_all; done)) (by first | omega | assumption | (exact hx _ (getD_mem (by omega))) | (exact hx _ (by assumption)) | (exact Nat.le_trans (hx _ (by assumption)) (by omega)) | (simp only [List.length_append, List.length_take, List.length_drop, List.length_cons, List.length_nil]; omega) | (simp_all; done)) (by first | omega | assumption | (exact hx _ (getD_mem (by omega))) | (exact hx _ (by assumption)) | (exact Nat.le_trans (hx _ (by assumption)) (by omega)) | (simp only [List.length_append, List.length_take, List.length_drop, List.length_cons, List.length_nil]; omega) | (simp_all; done)) (by first | omega | assumption | (exact hx _ (getD_mem (by omega))) | (exact hx _ (by assumption)) | (exact Nat.le_trans (hx _ (by assumption)) (by omega)) | (simp only [List.length_append, List.length_take, List.length_drop, List.length_cons, List.length_nil]; omega) | (simp_all; done))) (.skip _ _ (.skip _ _ (.skip _ _ .nil))) rfl) rfl rfl ?_
    refine Ch.step (v := (.tup [(.row 19000), (.d (.bool (decide ((((primL n.toNat on off).length : Nat) : Int) ≤ 60))))])) rfl (.pure (.move _ rfl rfl)) rfl rfl ?_
    refine Ch.step (v := (.row 19000)) rfl (.pure (.extract _ rfl rfl rfl)) rfl rfl ?_
    refine Ch.step (v := (.d (.bool (decide ((((primL n.toNat on off).length : Nat) : Int) ≤ 60))))) rfl (.pure (.extract _ rfl rfl rfl)) rfl rfl ?_
    refine Ch.step (v := (.row 19000)) rfl (.pure (.assign _ rfl rfl)) rfl rfl ?_
    refine Ch.step (v := (.d (.bool (decide ((((primL n.toNat on off).length : Nat) : Int) ≤ 60))))) rfl (.pure (.assign _ rfl rfl)) rfl rfl ?_
    refine Ch.nil ?_
    refine T_seq ?_
    refine T_seq ?_
    refine T_region hc ?_
    refine Ch.step (v := (.d (.bool (decide ((((primL n.toNat on off).length : Nat) : Int) ≤ 60))))) rfl (.pure (.move _ rfl rfl)) rfl rfl ?_
    refine Ch.step (v := (.d (.bool (!(decide ((((primL n.toNat on off).length : Nat) : Int) ≤ 60)))))) rfl (.pure (.not _ _ rfl rfl)) rfl rfl ?_
    refine Ch.nil ?_
    refine T_cond (b := (!(decide ((((primL n.toNat on off).length : Nat) : Int) ≤ 60)))) rfl (fun h2 => ?_) (fun h2 => ?_)
    · replace h2 := nott h2
      replace h2 := of_decide_eq_false h2
      refine T_seq ?_
      refine T_region hc ?_
      refine Ch.step (v := (.c (.slice none 0 0))) rfl (.pure (.assign _ rfl rfl)) rfl rfl ?_
      refine Ch.step (v := (.d (.bool false))) rfl (.pure (.assign _ rfl rfl)) rfl rfl ?_
      refine Ch.nil ?_
      refine T_ret ?_
      refine And.intro (.inr rfl) ?_
      exact Exists.intro [(.c (.slice none 0 0)), (.d (.bool false))] (Exists.intro [] (Exists.intro [] (And.intro (.cons (.tmp 6 rfl) (.cons (.tmp 7 rfl) .nil)) (And.intro (.cons (.any _) (.cons (.any _) (.cons (.any _) .nil))) (And.intro (.tup (.cons (Exp.of (congrArg (D.slice true 1) (by first | (rw [primR, primOk, h1]; rfl) | (rw [primR, primOk, h1, decide_eq_true h2]; rfl) | (rw [primR, primOk, h1, decide_eq_false h2]; rfl) | (rw [primR, primOk, h1, decide_eq_true (show (((primL n.toNat on off).length : Nat) : Int) ≤ 60 by omega)]; rfl) | (rw [primR, primOk, h1, decide_eq_false (show ¬ (((primL n.toNat on off).length : Nat) : Int) ≤ 60 by omega)]; rfl) | (rw [primOk, h1]; rfl) | (rw [primOk, h1, decide_eq_true h2]; rfl) | (rw [primOk, h1, decide_eq_false h2]; rfl) | (rw [primOk, h1, decide_eq_true (show (((primL n.toNat on off).length : Nat) : Int) ≤ 60 by omega)]; rfl) | (rw [primOk, h1, decide_eq_false (show ¬ (((primL n.toNat on off).length : Nat) : Int) ≤ 60 by omega)]; rfl))) (.nil true 1)) (.cons (Exp.of (congrArg D.bool (by first | (rw [primR, primOk, h1]; rfl) | (rw [primR, primOk, h1, decide_eq_true h2]; rfl) | (rw [primR, primOk, h1, decide_eq_false h2]; rfl) | (rw [primR, primOk, h1, decide_eq_true (show (((primL n.toNat on off).length : Nat) : Int) ≤ 60 by omega)]; rfl) | (rw [primR, primOk, h1, decide_eq_false (show ¬ (((primL n.toNat on off).length : Nat) : Int) ≤ 60 by omega)]; rfl) | (rw [primOk, h1]; rfl) | (rw [primOk, h1, decide_eq_true h2]; rfl) | (rw [primOk, h1, decide_eq_false h2]; rfl) | (rw [primOk, h1, decide_eq_true (show (((primL n.toNat on off).length : Nat) : Int) ≤ 60 by omega)]; rfl) | (rw [primOk, h1, decide_eq_false (show ¬ (((primL n.toNat on off).length : Nat) : Int) ≤ 60 by omega)]; rfl))) (.d _)) .nil))) (And.intro rfl rfl))))))
    · replace h2 := notf h2
      replace h2 := of_decide_eq_true h2
      refine T_skip ?_
      refine T_seq ?_
      refine T_region hc ?_
      refine Ch.step (v := (.row 19000)) rfl (.pure (.move _ rfl rfl)) rfl rfl ?_
      refine Ch.step (v := (.row 19000)) rfl (.pure (.assign _ rfl rfl)) rfl rfl ?_
      refine Ch.step (v := (.d (.bool true))) rfl (.pure (.assign _ rfl rfl)) rfl rfl ?_
      refine Ch.nil ?_
      refine T_ret ?_
      refine And.intro (.inr rfl) ?_
      exact Exists.intro [(.row 19000), (.d (.bool true))] (Exists.intro [] (Exists.intro [19000] (And.intro (.cons (.tmp 6 rfl) (.cons (.tmp 7 rfl) .nil)) (And.intro (.cons (.any _) (.cons (.any _) (.cons (.any _) .nil))) (And.intro (.tup (.cons (Exp.of (congrArg (D.slice true 1) (by first | (rw [primR, primOk, h1]; rfl) | (rw [primR, primOk, h1, decide_eq_true h2]; rfl) | (rw [primR, primOk, h1, decide_eq_false h2]; rfl) | (rw [primR, primOk, h1, decide_eq_true (show (((primL n.toNat on off).length : Nat) : Int) ≤ 60 by omega)]; rfl) | (rw [primR, primOk, h1, decide_eq_false (show ¬ (((primL n.toNat on off).length : Nat) : Int) ≤ 60 by omega)]; rfl) | (rw [primOk, h1]; rfl) | (rw [primOk, h1, decide_eq_true h2]; rfl) | (rw [primOk, h1, decide_eq_false h2]; rfl) | (rw [primOk, h1, decide_eq_true (show (((primL n.toNat on off).length : Nat) : Int) ≤ 60 by omega)]; rfl) | (rw [primOk, h1, decide_eq_false (show ¬ (((primL n.toNat on off).length : Nat) : Int) ≤ 60 by omega)]; rfl))) (.row rfl)) (.cons (Exp.of (congrArg D.bool (by first | (rw [primR, primOk, h1]; rfl) | (rw [primR, primOk, h1, decide_eq_true h2]; rfl) | (rw [primR, primOk, h1, decide_eq_false h2]; rfl) | (rw [primR, primOk, h1, decide_eq_true (show (((primL n.toNat on off).length : Nat) : Int) ≤ 60 by omega)]; rfl) | (rw [primR, primOk, h1, decide_eq_false (show ¬ (((primL n.toNat on off).length : Nat) : Int) ≤ 60 by omega)]; rfl) | (rw [primOk, h1]; rfl) | (rw [primOk, h1, decide_eq_true h2]; rfl) | (rw [primOk, h1, decide_eq_false h2]; rfl) | (rw [primOk, h1, decide_eq_true (show (((primL n.toNat on off).length : Nat) : Int) ≤ 60 by omega)]; rfl) | (rw [primOk, h1, decide_eq_false (show ¬ (((primL n.toNat on off).length : Nat) : Int) ≤ 60 by omega)]; rfl))) (.d _)) .nil))) (And.intro rfl rfl))))))

theorem sp_laws_FnExactPrimes (n : Int) (on off : List (List UInt8)) (hn1 : on.length ≤ 9223372036854775807) (hx1 : ∀ x ∈ on, x.length ≤ 9223372036854775807) (hn2 : off.length ≤ 9223372036854775807) (hx2 : ∀ x ∈ off, x.length ≤ 9223372036854775807) : Sp Try.prog 11 [(.int .i64 n), (.slice false 1 (on.map D.str)), (.slice false 1 (off.map D.str))] [.any, .any, .any] (.bool true) := by
  refine Sp_intro (lend := true) Try.func11 rfl rfl rfl (fun _ => rfl) (fun c hc hX => ?_)
  refine T_seq ?_
  refine T_region hc ?_
  refine Ch.step (v := (.d (.bool false))) rfl (.pure (.assign _ rfl rfl)) rfl rfl ?_
  refine Ch.nil ?_
  refine T_seq ?_
  refine T_region hc ?_
  refine Ch.step (v := (.d (.int .i64 1048576))) rfl (.pure (.assign _ rfl rfl)) rfl rfl ?_
  refine Ch.nil ?_
  refine T_seq ?_
  refine T_region hc ?_
  refine Ch.step (v := (.d (.slice false 1 (on.map D.str)))) rfl (.pure (.move _ rfl rfl)) rfl rfl ?_
  refine Ch.step (v := (.d (.int .i64 1048576))) rfl (.pure (.move _ rfl rfl)) rfl rfl ?_
  refine Ch.step (v := (.d (.int .i64 (szS on 1048576)))) rfl (.call 21000 17 _ _ _ en17 rfl (.inl rfl) (.cons (.d _) (.cons (.d _) .nil)) rfl rfl (sp_laws_szStringS on 1048576 (by first | omega | assumption | (exact hx _ (getD_mem (by omega))) | (exact hx _ (by assumption)) | (exact Nat.le_trans (hx _ (by assumption)) (by omega)) | (simp only [List.length_append, List.length_take, List.length_drop, List.length_cons, List.length_nil]; omega) | (simp_all; done)) (by first | omega | assumption | (exact hx _ (getD_mem (by omega))) | (exact hx _ (by assumption)) | (exact Nat.le_trans (hx _ (by assumption)) (by omega)) | (simp only [List.length_append, List.length_take, List.length_drop, List.length_cons, List.length_nil]; omega) | (simp_all; done)) (by first | omega | assumption | (exact hx _ (getD_mem (by omega))) | (exact hx _ (by assumption)) | (exact Nat.le_trans (hx _ (by assumption)) (by omega)) | (simp only [List.length_append, List.length_take, List.length_drop, List.length_cons, List.length_nil]; omega) | (simp_all; done)) (by first | omega | assumption | (exact hx _ (getD_mem (by omega))) | (exact hx _ (by assumption)) | (exact Nat.le_trans (hx _ (by assumption)) (by omega)) | (simp only [List.length_append, List.length_take, List.length_drop, List.length_cons, List.length_nil]; omega) | (simp_all; done))) (.skip _ _ (.skip _ _ .nil)) rfl) rfl rfl ?_
  refine Ch.step (v := (.d (.int .i64 (szS on 1048576)))) rfl (.pure (.assign _ rfl rfl)) rfl rfl ?_
  refine Ch.nil ?_
  refine T_seq ?_
  refine T_seq ?_
  refine T_region hc ?_
  refine Ch.step (v := (.d (.int .i64 (szS on 1048576)))) rfl (.pure (.move _ rfl rfl)) rfl rfl ?_
  refine Ch.step (v := (.d (.bool (decide ((szS on 1048576) < 0))))) rfl (.pure (.int _ _ _ _ _ rfl rfl rfl rfl)) rfl rfl ?_
  refine Ch.nil ?_
  refine T_cond (b := (decide ((szS on 1048576) < 0))) rfl (fun h1 => ?_) (fun h1 => ?_)
  · replace h1 := of_decide_eq_true h1
    try have hb1 := szS_ok (xs := on) h1
    try have hc1 : bulkS on ≤ 1048576 := by omega
    try replace hn1 := bulk_len hc1
    try replace hx1 := bulk_mem hc1
    try have hz1 := szS_val hb1
    try have hz1a : 0 ≤ szS on _ := Int.not_lt.1 h1
    try have hz1b : szS on _ ≤ 1048576 := by (rw [hz1]; omega)
    refine T_seq ?_
    refine T_region hc ?_
    refine Ch.step (v := (.d (.bool true))) rfl (.pure (.assign _ rfl rfl)) rfl rfl ?_
    refine Ch.nil ?_
    refine T_ret ?_
    refine And.intro (.inr rfl) ?_
    exact Exists.intro [(.d (.bool true))] (Exists.intro [] (Exists.intro [] (And.intro (.cons (.tmp 6 rfl) .nil) (And.intro (.cons (.any _) (.cons (.any _) (.cons (.any _) .nil))) (And.intro (.d _) (And.intro rfl rfl))))))
  · replace h1 := of_decide_eq_false h1
    try have hb1 := szS_ok (xs := on) h1
    try have hc1 : bulkS on ≤ 1048576 := by omega
    try replace hn1 := bulk_len hc1
    try replace hx1 := bulk_mem hc1
    try have hz1 := szS_val hb1
    try have hz1a : 0 ≤ szS on _ := Int.not_lt.1 h1
    try have hz1b : szS on _ ≤ 1048576 := by (rw [hz1]; omega)
    refine T_skip ?_
    refine T_seq ?_
    refine T_region hc ?_
    refine Ch.step (v := (.d (.slice false 1 (off.map D.str)))) rfl (.pure (.move _ rfl rfl)) rfl rfl ?_
    refine Ch.step (v := (.d (.int .i64 (szS on 1048576)))) rfl (.pure (.move _ rfl rfl)) rfl rfl ?_
    refine Ch.step (v := (.d (.int .i64 (szS off (szS on 1048576))))) rfl (.call 26000 17 _ _ _ en17 rfl (.inl rfl) (.cons (.d _) (.cons (.d _) .nil)) rfl rfl (sp_laws_szStringS off (szS on 1048576) (by first | omega | assumption | (exact hx _ (getD_mem (by omega))) | (exact hx _ (by assumption)) | (exact Nat.le_trans (hx _ (by assumption)) (by omega)) | (simp only [List.length_append, List.length_take, List.length_drop, List.length_cons, List.length_nil]; omega) | (simp_all; done)) (by first | omega | assumption | (exact hx _ (getD_mem (by omega))) | (exact hx _ (by assumption)) | (exact Nat.le_trans (hx _ (by assumption)) (by omega)) | (simp only [List.length_append, List.length_take, List.length_drop, List.length_cons, List.length_nil]; omega) | (simp_all; done)) (by first | omega | assumption | (exact hx _ (getD_mem (by omega))) | (exact hx _ (by assumption)) | (exact Nat.le_trans (hx _ (by assumption)) (by omega)) | (simp only [List.length_append, List.length_take, List.length_drop, List.length_cons, List.length_nil]; omega) | (simp_all; done)) (by first | omega | assumption | (exact hx _ (getD_mem (by omega))) | (exact hx _ (by assumption)) | (exact Nat.le_trans (hx _ (by assumption)) (by omega)) | (simp only [List.length_append, List.length_take, List.length_drop, List.length_cons, List.length_nil]; omega) | (simp_all; done))) (.skip _ _ (.skip _ _ .nil)) rfl) rfl rfl ?_
    refine Ch.step (v := (.d (.int .i64 (szS off (szS on 1048576))))) rfl (.pure (.assign _ rfl rfl)) rfl rfl ?_
    refine Ch.nil ?_
    refine T_seq ?_
    refine T_seq ?_
    refine T_region hc ?_
    refine Ch.step (v := (.d (.int .i64 (szS off (szS on 1048576))))) rfl (.pure (.move _ rfl rfl)) rfl rfl ?_
    refine Ch.step (v := (.d (.bool (decide ((szS off (szS on 1048576)) < 0))))) rfl (.pure (.int _ _ _ _ _ rfl rfl rfl rfl)) rfl rfl ?_
    refine Ch.nil ?_
    refine T_cond (b := (decide ((szS off (szS on 1048576)) < 0))) rfl (fun h2 => ?_) (fun h2 => ?_)
    · replace h2 := of_decide_eq_true h2
      try have hb2 := szS_ok (xs := off) h2
      try have hc2 : bulkS off ≤ 1048576 := by omega
      try replace hn2 := bulk_len hc2
      try replace hx2 := bulk_mem hc2
      try have hz2 := szS_val hb2
      try have hz2a : 0 ≤ szS off _ := Int.not_lt.1 h2
      try have hz2b : szS off _ ≤ 1048576 := by (rw [hz2]; omega)
      try have hcl : (primR n on off).length ≤ 1048576 := Nat.le_trans (primR_le n on off) (by decide)
      try have hhm := held_marks 1 (primR n on off).length
      refine T_seq ?_
      refine T_region hc ?_
      refine Ch.step (v := (.d (.bool true))) rfl (.pure (.assign _ rfl rfl)) rfl rfl ?_
      refine Ch.nil ?_
      refine T_ret ?_
      refine And.intro (.inr rfl) ?_
      exact Exists.intro [(.d (.bool true))] (Exists.intro [] (Exists.intro [] (And.intro (.cons (.tmp 6 rfl) .nil) (And.intro (.cons (.any _) (.cons (.any _) (.cons (.any _) .nil))) (And.intro (.d _) (And.intro rfl rfl))))))
    · replace h2 := of_decide_eq_false h2
      try have hb2 := szS_ok (xs := off) h2
      try have hc2 : bulkS off ≤ 1048576 := by omega
      try replace hn2 := bulk_len hc2
      try replace hx2 := bulk_mem hc2
      try have hz2 := szS_val hb2
      try have hz2a : 0 ≤ szS off _ := Int.not_lt.1 h2
      try have hz2b : szS off _ ≤ 1048576 := by (rw [hz2]; omega)
      try have hcl : (primR n on off).length ≤ 1048576 := Nat.le_trans (primR_le n on off) (by decide)
      try have hhm := held_marks 1 (primR n on off).length
      refine T_skip ?_
      refine T_seq ?_
      refine T_region hc ?_
      refine Ch.step (v := (.d (.int .i64 n))) rfl (.pure (.move _ rfl rfl)) rfl rfl ?_
      refine Ch.step (v := (.d (.slice false 1 (on.map D.str)))) rfl (.pure (.move _ rfl rfl)) rfl rfl ?_
      refine Ch.step (v := (.row 32000)) rfl (.call 32000 19 _ _ _ en19 rfl (.inl rfl) (.cons (.d _) .nil) rfl (sol (solid_row (fun _ => rfl) _) rfl) (sp_laws_toStringS on (by first | omega | assumption | (exact hx _ (getD_mem (by omega))) | (exact hx _ (by assumption)) | (exact Nat.le_trans (hx _ (by assumption)) (by omega)) | (simp only [List.length_append, List.length_take, List.length_drop, List.length_cons, List.length_nil]; omega) | (simp_all; done))) (.skip _ _ .nil) rfl) rfl rfl ?_
      refine Ch.step (v := (.d (.slice false 1 (off.map D.str)))) rfl (.pure (.move _ rfl rfl)) rfl rfl ?_
      refine Ch.step (v := (.row 34000)) rfl (.call 34000 19 _ _ _ en19 rfl (.inl rfl) (.cons (.d _) .nil) rfl (sol (solid_row (fun _ => rfl) _) rfl) (sp_laws_toStringS off (by first | omega | assumption | (exact hx _ (getD_mem (by omega))) | (exact hx _ (by assumption)) | (exact Nat.le_trans (hx _ (by assumption)) (by omega)) | (simp only [List.length_append, List.length_take, List.length_drop, List.length_cons, List.length_nil]; omega) | (simp_all; done))) (.skip _ _ .nil) rfl) rfl rfl ?_
      refine Ch.step (v := (.tup [(.row 35000), (.d (.bool (primOk n on off)))])) rfl (.call 35000 47 _ _ _ en47 rfl (.inl rfl) (.cons (.d _) (.cons (.lend (.row rfl (frozs_map (fun _ => rfl) _))) (.cons (.lend (.row rfl (frozs_map (fun _ => rfl) _))) .nil))) rfl (sol (by rw [D.solid]; exact solids_c (solid_row (fun _ => rfl) _) rfl) rfl) (sp_spec_Primes n on off (by first | omega | assumption | (exact hx _ (getD_mem (by omega))) | (exact hx _ (by assumption)) | (exact Nat.le_trans (hx _ (by assumption)) (by omega)) | (simp only [List.length_append, List.length_take, List.length_drop, List.length_cons, List.length_nil]; omega) | (simp_all; done)) (by first | omega | assumption | (exact hx _ (getD_mem (by omega))) | (exact hx _ (by assumption)) | (exact Nat.le_trans (hx _ (by assumption)) (by omega)) | (simp only [List.length_append, List.length_take, List.length_drop, List.length_cons, List.length_nil]; omega) | (simp_all; done)) (by first | omega | assumption | (exact hx _ (getD_mem (by omega))) | (exact hx _ (by assumption)) | (exact Nat.le_trans (hx _ (by assumption)) (by omega)) | (simp only [List.length_append, List.length_take, List.length_drop, List.length_cons, List.length_nil]; omega) | (simp_all; done)) (by first | omega | assumption | (exact hx _ (getD_mem (by omega))) | (exact hx _ (by assumption)) | (exact Nat.le_trans (hx _ (by assumption)) (by omega)) | (simp only [List.length_append, List.length_take, List.length_drop, List.length_cons, List.length_nil]; omega) | (simp_all; done))) (.skip _ _ (.skip _ _ (.skip _ _ .nil))) rfl) rfl rfl ?_
      refine Ch.step (v := (.tup [(.row 35000), (.d (.bool (primOk n on off)))])) rfl (.pure (.move _ rfl rfl)) rfl rfl ?_
      refine Ch.step (v := (.row 35000)) rfl (.pure (.extract _ rfl rfl rfl)) rfl rfl ?_
      refine Ch.step (v := (.d (.bool (primOk n on off)))) rfl (.pure (.extract _ rfl rfl rfl)) rfl rfl ?_
      refine Ch.step (v := (.row 35000)) rfl (.pure (.assign _ rfl rfl)) rfl rfl ?_
      refine Ch.step (v := (.d (.bool (primOk n on off)))) rfl (.pure (.assign _ rfl rfl)) rfl rfl ?_
      refine Ch.nil ?_
      refine T_seq ?_
      refine T_region hc ?_
      refine Ch.step (v := (.d (.slice false 1 (on.map D.str)))) rfl (.pure (.move _ rfl rfl)) rfl rfl ?_
      refine Ch.step (v := (.row 39000)) rfl (.call 39000 19 _ _ _ en19 rfl (.inl rfl) (.cons (.d _) .nil) rfl (sol (solid_row (fun _ => rfl) _) rfl) (sp_laws_toStringS on (by first | omega | assumption | (exact hx _ (getD_mem (by omega))) | (exact hx _ (by assumption)) | (exact Nat.le_trans (hx _ (by assumption)) (by omega)) | (simp only [List.length_append, List.length_take, List.length_drop, List.length_cons, List.length_nil]; omega) | (simp_all; done))) (.skip _ _ .nil) rfl) rfl rfl ?_
      refine Ch.step (v := (.row 39000)) rfl (.pure (.assign _ rfl rfl)) rfl rfl ?_
      refine Ch.nil ?_
      refine T_seq ?_
      refine T_region hc ?_
      refine Ch.step (v := (.d (.slice false 1 (off.map D.str)))) rfl (.pure (.move _ rfl rfl)) rfl rfl ?_
      refine Ch.step (v := (.row 41000)) rfl (.call 41000 19 _ _ _ en19 rfl (.inl rfl) (.cons (.d _) .nil) rfl (sol (solid_row (fun _ => rfl) _) rfl) (sp_laws_toStringS off (by first | omega | assumption | (exact hx _ (getD_mem (by omega))) | (exact hx _ (by assumption)) | (exact Nat.le_trans (hx _ (by assumption)) (by omega)) | (simp only [List.length_append, List.length_take, List.length_drop, List.length_cons, List.length_nil]; omega) | (simp_all; done))) (.skip _ _ .nil) rfl) rfl rfl ?_
      refine Ch.step (v := (.row 41000)) rfl (.pure (.assign _ rfl rfl)) rfl rfl ?_
      refine Ch.nil ?_
      refine T_seq ?_
      refine T_region hc ?_
      refine Ch.step (v := (.d (.int .i64 n))) rfl (.pure (.move _ rfl rfl)) rfl rfl ?_
      refine Ch.step (v := (.row 39000)) rfl (.pure (.move _ rfl rfl)) rfl rfl ?_
      refine Ch.step (v := (.row 41000)) rfl (.pure (.move _ rfl rfl)) rfl rfl ?_
      refine Ch.step (v := (.tup [(.row 46000), (.d (.bool (primOk n on off)))])) rfl (.call 46000 48 _ _ _ en48 rfl (.inl rfl) (.cons (.d _) (.cons (.lend (.row rfl (frozs_map (fun _ => rfl) _))) (.cons (.lend (.row rfl (frozs_map (fun _ => rfl) _))) .nil))) rfl (sol (by rw [D.solid]; exact solids_c (solid_row (fun _ => rfl) _) rfl) rfl) (sp_impl_Primes n on off (by first | omega | assumption | (exact hx _ (getD_mem (by omega))) | (exact hx _ (by assumption)) | (exact Nat.le_trans (hx _ (by assumption)) (by omega)) | (simp only [List.length_append, List.length_take, List.length_drop, List.length_cons, List.length_nil]; omega) | (simp_all; done)) (by first | omega | assumption | (exact hx _ (getD_mem (by omega))) | (exact hx _ (by assumption)) | (exact Nat.le_trans (hx _ (by assumption)) (by omega)) | (simp only [List.length_append, List.length_take, List.length_drop, List.length_cons, List.length_nil]; omega) | (simp_all; done)) (by first | omega | assumption | (exact hx _ (getD_mem (by omega))) | (exact hx _ (by assumption)) | (exact Nat.le_trans (hx _ (by assumption)) (by omega)) | (simp only [List.length_append, List.length_take, List.length_drop, List.length_cons, List.length_nil]; omega) | (simp_all; done)) (by first | omega | assumption | (exact hx _ (getD_mem (by omega))) | (exact hx _ (by assumption)) | (exact Nat.le_trans (hx _ (by assumption)) (by omega)) | (simp only [List.length_append, List.length_take, List.length_drop, List.length_cons, List.length_nil]; omega) | (simp_all; done))) (.skip _ _ (.skip _ _ (.skip _ _ .nil))) rfl) rfl rfl ?_
      refine Ch.step (v := (.tup [(.row 46000), (.d (.bool (primOk n on off)))])) rfl (.pure (.move _ rfl rfl)) rfl rfl ?_
      refine Ch.step (v := (.row 46000)) rfl (.pure (.extract _ rfl rfl rfl)) rfl rfl ?_
      refine Ch.step (v := (.d (.bool (primOk n on off)))) rfl (.pure (.extract _ rfl rfl rfl)) rfl rfl ?_
      refine Ch.step (v := (.row 46000)) rfl (.pure (.assign _ rfl rfl)) rfl rfl ?_
      refine Ch.step (v := (.d (.bool (primOk n on off)))) rfl (.pure (.assign _ rfl rfl)) rfl rfl ?_
      refine Ch.nil ?_
      refine T_seq ?_
      refine T_seq ?_
      refine T_region hc ?_
      refine Ch.step (v := (.row 46000)) rfl (.pure (.move _ rfl rfl)) rfl rfl ?_
      refine Ch.step (v := (.row 35000)) rfl (.pure (.move _ rfl rfl)) rfl rfl ?_
      refine Ch.step (v := (.d (.bool (decide ((primR n on off) = (primR n on off)))))) rfl (.call 51000 21 _ _ _ en21 rfl (.inl rfl) (.cons (.lend (.row rfl (frozs_map (fun _ => rfl) _))) (.cons (.lend (.row rfl (frozs_map (fun _ => rfl) _))) .nil)) rfl rfl (sp_laws_eqStringS (primR n on off) (primR n on off) (by first | omega | assumption | (exact hx _ (getD_mem (by omega))) | (exact hx _ (by assumption)) | (exact Nat.le_trans (hx _ (by assumption)) (by omega)) | (simp only [List.length_append, List.length_take, List.length_drop, List.length_cons, List.length_nil]; omega) | (simp_all; done))) (.skip _ _ (.skip _ _ .nil)) rfl) rfl rfl ?_
      refine Ch.step (v := (.d (.bool (!(decide ((primR n on off) = (primR n on off))))))) rfl (.pure (.not _ _ rfl rfl)) rfl rfl ?_
      refine Ch.step (v := (.d (.bool (!(decide ((primR n on off) = (primR n on off))))))) rfl (.pure (.move _ rfl rfl)) rfl rfl ?_
      cases h3 : (decide ((primR n on off) = (primR n on off))) with
      | true =>
        replace h3 := of_decide_eq_true h3
        refine Ch.step (v := (.d (.bool (primOk n on off)))) rfl (.pure (.move _ rfl rfl)) rfl rfl ?_
        refine Ch.step (v := (.d (.bool (primOk n on off)))) rfl (.pure (.move _ rfl rfl)) rfl rfl ?_
        refine Ch.step (v := (.d (.bool (!(decide ((primOk n on off) = (primOk n on off))))))) rfl (.pure (.neB _ _ _ _ rfl Try.underlying4 rfl rfl)) rfl rfl ?_
        refine Ch.step (v := (.d (.bool (!(decide ((primOk n on off) = (primOk n on off))))))) rfl (.pure (.pickF _ _ _ rfl rfl rfl)) rfl rfl ?_
        refine Ch.nil ?_
        refine T_cond (b := (!(decide ((primOk n on off) = (primOk n on off))))) rfl (fun h4 => ?_) (fun h4 => ?_)
        · replace h4 := nott h4
          replace h4 := of_decide_eq_false h4
          refine T_seq ?_
          refine T_region hc ?_
          refine Ch.step (v := (.d (.bool false))) rfl (.pure (.assign _ rfl rfl)) rfl rfl ?_
          refine Ch.nil ?_
          refine T_ret ?_
          refine And.intro (.inr rfl) ?_
          exact Exists.intro [(.d (.bool false))] (Exists.intro [] (Exists.intro [] (And.intro (.cons (.tmp 6 rfl) .nil) (And.intro (.cons (.any _) (.cons (.any _) (.cons (.any _) .nil))) (And.intro (Exp.of (congrArg D.bool (by first | rfl | (simp_all; done) | (exfalso; omega) | (exfalso; simp_all; omega))) (.d _)) (And.intro rfl rfl))))))
        · replace h4 := notf h4
          replace h4 := of_decide_eq_true h4
          refine T_skip ?_
          refine T_seq ?_
          refine T_seq ?_
          refine T_region hc ?_
          refine Ch.step (v := (.row 39000)) rfl (.pure (.move _ rfl rfl)) rfl rfl ?_
          refine Ch.step (v := (.d (.slice false 1 (on.map D.str)))) rfl (.pure (.move _ rfl rfl)) rfl rfl ?_
          refine Ch.step (v := (.row 60000)) rfl (.call 60000 19 _ _ _ en19 rfl (.inl rfl) (.cons (.d _) .nil) rfl (sol (solid_row (fun _ => rfl) _) rfl) (sp_laws_toStringS on (by first | omega | assumption | (exact hx _ (getD_mem (by omega))) | (exact hx _ (by assumption)) | (exact Nat.le_trans (hx _ (by assumption)) (by omega)) | (simp only [List.length_append, List.length_take, List.length_drop, List.length_cons, List.length_nil]; omega) | (simp_all; done))) (.skip _ _ .nil) rfl) rfl rfl ?_
          refine Ch.step (v := (.d (.bool (decide (on = on))))) rfl (.call 61000 21 _ _ _ en21 rfl (.inl rfl) (.cons (.lend (.row rfl (frozs_map (fun _ => rfl) _))) (.cons (.lend (.row rfl (frozs_map (fun _ => rfl) _))) .nil)) rfl rfl (sp_laws_eqStringS on on (by first | omega | assumption | (exact hx _ (getD_mem (by omega))) | (exact hx _ (by assumption)) | (exact Nat.le_trans (hx _ (by assumption)) (by omega)) | (simp only [List.length_append, List.length_take, List.length_drop, List.length_cons, List.length_nil]; omega) | (simp_all; done))) (.skip _ _ (.skip _ _ .nil)) rfl) rfl rfl ?_
          refine Ch.step (v := (.d (.bool (!(decide (on = on)))))) rfl (.pure (.not _ _ rfl rfl)) rfl rfl ?_
          refine Ch.nil ?_
          refine T_cond (b := (!(decide (on = on)))) rfl (fun h5 => ?_) (fun h5 => ?_)
          · replace h5 := nott h5
            replace h5 := of_decide_eq_false h5
            refine T_seq ?_
            refine T_region hc ?_
            refine Ch.step (v := (.d (.bool false))) rfl (.pure (.assign _ rfl rfl)) rfl rfl ?_
            refine Ch.nil ?_
            refine T_ret ?_
            refine And.intro (.inr rfl) ?_
            exact Exists.intro [(.d (.bool false))] (Exists.intro [] (Exists.intro [] (And.intro (.cons (.tmp 6 rfl) .nil) (And.intro (.cons (.any _) (.cons (.any _) (.cons (.any _) .nil))) (And.intro (Exp.of (congrArg D.bool (by first | rfl | (simp_all; done) | (exfalso; omega) | (exfalso; simp_all; omega))) (.d _)) (And.intro rfl rfl))))))
          · replace h5 := notf h5
            replace h5 := of_decide_eq_true h5
            refine T_skip ?_
            refine T_seq ?_
            refine T_seq ?_
            refine T_region hc ?_
            refine Ch.step (v := (.row 41000)) rfl (.pure (.move _ rfl rfl)) rfl rfl ?_
            refine Ch.step (v := (.d (.slice false 1 (off.map D.str)))) rfl (.pure (.move _ rfl rfl)) rfl rfl ?_
            refine Ch.step (v := (.row 65000)) rfl (.call 65000 19 _ _ _ en19 rfl (.inl rfl) (.cons (.d _) .nil) rfl (sol (solid_row (fun _ => rfl) _) rfl) (sp_laws_toStringS off (by first | omega | assumption | (exact hx _ (getD_mem (by omega))) | (exact hx _ (by assumption)) | (exact Nat.le_trans (hx _ (by assumption)) (by omega)) | (simp only [List.length_append, List.length_take, List.length_drop, List.length_cons, List.length_nil]; omega) | (simp_all; done))) (.skip _ _ .nil) rfl) rfl rfl ?_
            refine Ch.step (v := (.d (.bool (decide (off = off))))) rfl (.call 66000 21 _ _ _ en21 rfl (.inl rfl) (.cons (.lend (.row rfl (frozs_map (fun _ => rfl) _))) (.cons (.lend (.row rfl (frozs_map (fun _ => rfl) _))) .nil)) rfl rfl (sp_laws_eqStringS off off (by first | omega | assumption | (exact hx _ (getD_mem (by omega))) | (exact hx _ (by assumption)) | (exact Nat.le_trans (hx _ (by assumption)) (by omega)) | (simp only [List.length_append, List.length_take, List.length_drop, List.length_cons, List.length_nil]; omega) | (simp_all; done))) (.skip _ _ (.skip _ _ .nil)) rfl) rfl rfl ?_
            refine Ch.step (v := (.d (.bool (!(decide (off = off)))))) rfl (.pure (.not _ _ rfl rfl)) rfl rfl ?_
            refine Ch.nil ?_
            refine T_cond (b := (!(decide (off = off)))) rfl (fun h6 => ?_) (fun h6 => ?_)
            · replace h6 := nott h6
              replace h6 := of_decide_eq_false h6
              refine T_seq ?_
              refine T_region hc ?_
              refine Ch.step (v := (.d (.bool false))) rfl (.pure (.assign _ rfl rfl)) rfl rfl ?_
              refine Ch.nil ?_
              refine T_ret ?_
              refine And.intro (.inr rfl) ?_
              exact Exists.intro [(.d (.bool false))] (Exists.intro [] (Exists.intro [] (And.intro (.cons (.tmp 6 rfl) .nil) (And.intro (.cons (.any _) (.cons (.any _) (.cons (.any _) .nil))) (And.intro (Exp.of (congrArg D.bool (by first | rfl | (simp_all; done) | (exfalso; omega) | (exfalso; simp_all; omega))) (.d _)) (And.intro rfl rfl))))))
            · replace h6 := notf h6
              replace h6 := of_decide_eq_true h6
              refine T_skip ?_
              refine T_seq ?_
              refine T_region hc ?_
              refine Ch.step (v := (.d (.int .i64 1))) rfl (.pure (.assign _ rfl rfl)) rfl rfl ?_
              refine Ch.nil ?_
              refine T_seq ?_
              refine T_region hc ?_
              refine Ch.step (v := (.row 39000)) rfl (.pure (.move _ rfl rfl)) rfl rfl ?_
              refine Ch.step (v := (.d (.int .i64 1))) rfl (.pure (.move _ rfl rfl)) rfl rfl ?_
              refine Ch.step (v := (.d (.int .i64 ((1 + on.length : Nat) : Int)))) rfl (.call 70000 26 _ _ _ en26 rfl (.inl rfl) (.cons (.row rfl) (.cons (.d _) .nil)) rfl (sol rfl (solids_c (solid_row (fun _ => rfl) _) rfl)) (sp_laws_markStringS on 1 (by first | omega | assumption | (exact hx _ (getD_mem (by omega))) | (exact hx _ (by assumption)) | (exact Nat.le_trans (hx _ (by assumption)) (by omega)) | (simp only [List.length_append, List.length_take, List.length_drop, List.length_cons, List.length_nil]; omega) | (simp_all; done)) (by first | omega | assumption | (exact hx _ (getD_mem (by omega))) | (exact hx _ (by assumption)) | (exact Nat.le_trans (hx _ (by assumption)) (by omega)) | (simp only [List.length_append, List.length_take, List.length_drop, List.length_cons, List.length_nil]; omega) | (simp_all; done))) (.row _ _ _ (.skip _ _ .nil)) rfl) rfl rfl ?_
              refine Ch.step (v := (.d (.int .i64 ((1 + on.length : Nat) : Int)))) rfl (.pure (.assign _ rfl rfl)) rfl rfl ?_
              refine Ch.nil ?_
              refine T_seq ?_
              refine T_region hc ?_
              refine Ch.step (v := (.row 41000)) rfl (.pure (.move _ rfl rfl)) rfl rfl ?_
              refine Ch.step (v := (.d (.int .i64 ((1 + on.length : Nat) : Int)))) rfl (.pure (.move _ rfl rfl)) rfl rfl ?_
              refine Ch.step (v := (.d (.int .i64 (((1 + on.length) + off.length : Nat) : Int)))) rfl (.call 73000 26 _ _ _ en26 rfl (.inl rfl) (.cons (.row rfl) (.cons (.d _) .nil)) rfl (sol rfl (solids_c (solid_row (fun _ => rfl) _) rfl)) (sp_laws_markStringS off (1 + on.length) (by first | omega | assumption | (exact hx _ (getD_mem (by omega))) | (exact hx _ (by assumption)) | (exact Nat.le_trans (hx _ (by assumption)) (by omega)) | (simp only [List.length_append, List.length_take, List.length_drop, List.length_cons, List.length_nil]; omega) | (simp_all; done)) (by first | omega | assumption | (exact hx _ (getD_mem (by omega))) | (exact hx _ (by assumption)) | (exact Nat.le_trans (hx _ (by assumption)) (by omega)) | (simp only [List.length_append, List.length_take, List.length_drop, List.length_cons, List.length_nil]; omega) | (simp_all; done))) (.row _ _ _ (.skip _ _ .nil)) rfl) rfl rfl ?_
              refine Ch.step (v := (.d (.int .i64 (((1 + on.length) + off.length : Nat) : Int)))) rfl (.pure (.assign _ rfl rfl)) rfl rfl ?_
              refine Ch.nil ?_
              refine T_seq ?_
              refine T_seq ?_
              refine T_region hc ?_
              refine Ch.step (v := (.d (.int .i64 (((1 + on.length) + off.length : Nat) : Int)))) rfl (.pure (.move _ rfl rfl)) rfl rfl ?_
              refine Ch.step (v := (.d (.bool (decide ((((1 + on.length) + off.length : Nat) : Int) < 0))))) rfl (.pure (.int _ _ _ _ _ rfl rfl rfl rfl)) rfl rfl ?_
              refine Ch.step (v := (.d (.bool (decide ((((1 + on.length) + off.length : Nat) : Int) < 0))))) rfl (.pure (.move _ rfl rfl)) rfl rfl ?_
              cases h7 : (decide ((((1 + on.length) + off.length : Nat) : Int) < 0)) with
              | true =>
                replace h7 := of_decide_eq_true h7
                refine Ch.skip rfl rfl ?_
                refine Ch.skip rfl rfl ?_
                refine Ch.skip rfl rfl ?_
                refine Ch.skip rfl rfl ?_
                refine Ch.step (v := (.d (.bool true))) rfl (.pure (.pickT _ _ _ rfl rfl rfl)) rfl rfl ?_
                refine Ch.step (v := (.d (.bool true))) rfl (.pure (.move _ rfl rfl)) rfl rfl ?_
                refine Ch.skip rfl rfl ?_
                refine Ch.skip rfl rfl ?_
                refine Ch.skip rfl rfl ?_
                refine Ch.step (v := (.d (.bool true))) rfl (.pure (.pickT _ _ _ rfl rfl rfl)) rfl rfl ?_
                refine Ch.nil ?_
                refine T_cond (b := true) rfl (fun _ => ?_) (fun h => nomatch h)
                refine T_seq ?_
                refine T_region hc ?_
                refine Ch.step (v := (.d (.bool false))) rfl (.pure (.assign _ rfl rfl)) rfl rfl ?_
                refine Ch.nil ?_
                refine T_ret ?_
                refine And.intro (.inr rfl) ?_
                exact Exists.intro [(.d (.bool false))] (Exists.intro [] (Exists.intro [] (And.intro (.cons (.tmp 6 rfl) .nil) (And.intro (.cons (.any _) (.cons (.any _) (.cons (.any _) .nil))) (And.intro (Exp.of (congrArg D.bool (by first | rfl | (simp_all; done) | (exfalso; omega) | (exfalso; simp_all; omega))) (.d _)) (And.intro rfl rfl))))))
              | false =>
                replace h7 := of_decide_eq_false h7
                refine Ch.step (v := (.row 46000)) rfl (.pure (.move _ rfl rfl)) rfl rfl ?_
                refine Ch.step (v := (.row 35000)) rfl (.pure (.move _ rfl rfl)) rfl rfl ?_
                refine Ch.step (v := (.d (.bool (decide ((primR n on off) = (primR n on off)))))) rfl (.call 79000 21 _ _ _ en21 rfl (.inl rfl) (.cons (.lend (.row rfl (frozs_map (fun _ => rfl) _))) (.cons (.lend (.row rfl (frozs_map (fun _ => rfl) _))) .nil)) rfl rfl (sp_laws_eqStringS (primR n on off) (primR n on off) (by first | omega | assumption | (exact hx _ (getD_mem (by omega))) | (exact hx _ (by assumption)) | (exact Nat.le_trans (hx _ (by assumption)) (by omega)) | (simp only [List.length_append, List.length_take, List.length_drop, List.length_cons, List.length_nil]; omega) | (simp_all; done))) (.skip _ _ (.skip _ _ .nil)) rfl) rfl rfl ?_
                refine Ch.step (v := (.d (.bool (!(decide ((primR n on off) = (primR n on off))))))) rfl (.pure (.not _ _ rfl rfl)) rfl rfl ?_
                refine Ch.step (v := (.d (.bool (!(decide ((primR n on off) = (primR n on off))))))) rfl (.pure (.pickF _ _ _ rfl rfl rfl)) rfl rfl ?_
                refine Ch.step (v := (.d (.bool (!(decide ((primR n on off) = (primR n on off))))))) rfl (.pure (.move _ rfl rfl)) rfl rfl ?_
                cases h8 : (decide ((primR n on off) = (primR n on off))) with
                | true =>
                  replace h8 := of_decide_eq_true h8
                  refine Ch.step (v := (.d (.bool (primOk n on off)))) rfl (.pure (.move _ rfl rfl)) rfl rfl ?_
                  refine Ch.step (v := (.d (.bool (primOk n on off)))) rfl (.pure (.move _ rfl rfl)) rfl rfl ?_
                  refine Ch.step (v := (.d (.bool (!(decide ((primOk n on off) = (primOk n on off))))))) rfl (.pure (.neB _ _ _ _ rfl Try.underlying4 rfl rfl)) rfl rfl ?_
                  refine Ch.step (v := (.d (.bool (!(decide ((primOk n on off) = (primOk n on off))))))) rfl (.pure (.pickF _ _ _ rfl rfl rfl)) rfl rfl ?_
                  refine Ch.nil ?_
                  refine T_cond (b := (!(decide ((primOk n on off) = (primOk n on off))))) rfl (fun h9 => ?_) (fun h9 => ?_)
                  · replace h9 := nott h9
                    replace h9 := of_decide_eq_false h9
                    refine T_seq ?_
                    refine T_region hc ?_
                    refine Ch.step (v := (.d (.bool false))) rfl (.pure (.assign _ rfl rfl)) rfl rfl ?_
                    refine Ch.nil ?_
                    refine T_ret ?_
                    refine And.intro (.inr rfl) ?_
                    exact Exists.intro [(.d (.bool false))] (Exists.intro [] (Exists.intro [] (And.intro (.cons (.tmp 6 rfl) .nil) (And.intro (.cons (.any _) (.cons (.any _) (.cons (.any _) .nil))) (And.intro (Exp.of (congrArg D.bool (by first | rfl | (simp_all; done) | (exfalso; omega) | (exfalso; simp_all; omega))) (.d _)) (And.intro rfl rfl))))))
                  · replace h9 := notf h9
                    replace h9 := of_decide_eq_true h9
                    refine T_skip ?_
                    refine T_seq ?_
                    refine T_region hc ?_
                    refine Ch.step (v := (.d (.int .i64 1))) rfl (.pure (.assign _ rfl rfl)) rfl rfl ?_
                    refine Ch.nil ?_
                    refine T_seq ?_
                    refine T_region hc ?_
                    refine Ch.step (v := (.row 46000)) rfl (.pure (.move _ rfl rfl)) rfl rfl ?_
                    refine Ch.step (v := (.d (.int .i64 1))) rfl (.pure (.move _ rfl rfl)) rfl rfl ?_
                    refine Ch.step (v := (.d (.int .i64 ((1 + (primR n on off).length : Nat) : Int)))) rfl (.call 89000 26 _ _ _ en26 rfl (.inl rfl) (.cons (.row rfl) (.cons (.d _) .nil)) rfl (sol rfl (solids_c (solid_row (fun _ => rfl) _) rfl)) (sp_laws_markStringS (primR n on off) 1 (by first | omega | assumption | (exact hx _ (getD_mem (by omega))) | (exact hx _ (by assumption)) | (exact Nat.le_trans (hx _ (by assumption)) (by omega)) | (simp only [List.length_append, List.length_take, List.length_drop, List.length_cons, List.length_nil]; omega) | (simp_all; done)) (by first | omega | assumption | (exact hx _ (getD_mem (by omega))) | (exact hx _ (by assumption)) | (exact Nat.le_trans (hx _ (by assumption)) (by omega)) | (simp only [List.length_append, List.length_take, List.length_drop, List.length_cons, List.length_nil]; omega) | (simp_all; done))) (.row _ _ _ (.skip _ _ .nil)) rfl) rfl rfl ?_
                    refine Ch.step (v := (.d (.int .i64 ((1 + (primR n on off).length : Nat) : Int)))) rfl (.pure (.assign _ rfl rfl)) rfl rfl ?_
                    refine Ch.nil ?_
                    refine T_seq ?_
                    refine T_region hc ?_
                    refine Ch.step (v := (.d (.int .i64 1))) rfl (.pure (.assign _ rfl rfl)) rfl rfl ?_
                    refine Ch.nil ?_
                    refine T_seq ?_
                    refine T_region hc ?_
                    refine Ch.step (v := (.row 46000)) rfl (.pure (.move _ rfl rfl)) rfl rfl ?_
                    refine Ch.step (v := (.d (.int .i64 1))) rfl (.pure (.move _ rfl rfl)) rfl rfl ?_
                    refine Ch.step (v := (.d (.int .i64 (heldR (marks 1 (primR n on off).length) 1)))) rfl (.call 92000 27 _ _ _ en27 rfl (.inl rfl) (.cons (.lend (.row rfl (frozs_map (fun _ => rfl) _))) (.cons (.d _) .nil)) rfl rfl (sp_laws_heldStringS (marks 1 (primR n on off).length) 1 (by first | omega | assumption | (exact hx _ (getD_mem (by omega))) | (exact hx _ (by assumption)) | (exact Nat.le_trans (hx _ (by assumption)) (by omega)) | (simp only [List.length_append, List.length_take, List.length_drop, List.length_cons, List.length_nil]; omega) | (simp_all; done)) (by first | omega | assumption | (exact hx _ (getD_mem (by omega))) | (exact hx _ (by assumption)) | (exact Nat.le_trans (hx _ (by assumption)) (by omega)) | (simp only [List.length_append, List.length_take, List.length_drop, List.length_cons, List.length_nil]; omega) | (simp_all; done))) (.skip _ _ (.skip _ _ .nil)) rfl) rfl rfl ?_
                    refine Ch.step (v := (.d (.int .i64 (heldR (marks 1 (primR n on off).length) 1)))) rfl (.pure (.assign _ rfl rfl)) rfl rfl ?_
                    refine Ch.nil ?_
                    refine T_seq ?_
                    refine T_seq ?_
                    refine T_region hc ?_
                    refine Ch.step (v := (.d (.int .i64 (heldR (marks 1 (primR n on off).length) 1)))) rfl (.pure (.move _ rfl rfl)) rfl rfl ?_
                    refine Ch.step (v := (.d (.bool (decide ((heldR (marks 1 (primR n on off).length) 1) < 0))))) rfl (.pure (.int _ _ _ _ _ rfl rfl rfl rfl)) rfl rfl ?_
                    refine Ch.nil ?_
                    refine T_cond (b := (decide ((heldR (marks 1 (primR n on off).length) 1) < 0))) rfl (fun h10 => ?_) (fun h10 => ?_)
                    · replace h10 := of_decide_eq_true h10
                      refine T_seq ?_
                      refine T_region hc ?_
                      refine Ch.step (v := (.d (.bool false))) rfl (.pure (.assign _ rfl rfl)) rfl rfl ?_
                      refine Ch.nil ?_
                      refine T_ret ?_
                      refine And.intro (.inr rfl) ?_
                      exact Exists.intro [(.d (.bool false))] (Exists.intro [] (Exists.intro [] (And.intro (.cons (.tmp 6 rfl) .nil) (And.intro (.cons (.any _) (.cons (.any _) (.cons (.any _) .nil))) (And.intro (Exp.of (congrArg D.bool (by first | rfl | (simp_all; done) | (exfalso; omega) | (exfalso; simp_all; omega))) (.d _)) (And.intro rfl rfl))))))
                    · replace h10 := of_decide_eq_false h10
                      refine T_skip ?_
                      refine T_seq ?_
                      refine T_seq ?_
                      refine T_region hc ?_
                      refine Ch.step (v := (.d (.int .i64 (heldR (marks 1 (primR n on off).length) 1)))) rfl (.pure (.move _ rfl rfl)) rfl rfl ?_
                      refine Ch.step (v := (.d (.int .i64 ((1 + (primR n on off).length : Nat) : Int)))) rfl (.pure (.move _ rfl rfl)) rfl rfl ?_
                      refine Ch.step (v := (.d (.bool (!(decide ((heldR (marks 1 (primR n on off).length) 1) = ((1 + (primR n on off).length : Nat) : Int))))))) rfl (.pure (.int _ _ _ _ _ rfl rfl rfl rfl)) rfl rfl ?_
                      refine Ch.nil ?_
                      refine T_cond (b := (!(decide ((heldR (marks 1 (primR n on off).length) 1) = ((1 + (primR n on off).length : Nat) : Int))))) rfl (fun h11 => ?_) (fun h11 => ?_)
                      · replace h11 := nott h11
                        replace h11 := of_decide_eq_false h11
                        refine T_seq ?_
                        refine T_region hc ?_
                        refine Ch.step (v := (.d (.bool false))) rfl (.pure (.assign _ rfl rfl)) rfl rfl ?_
                        refine Ch.nil ?_
                        refine T_ret ?_
                        refine And.intro (.inr rfl) ?_
                        exact Exists.intro [(.d (.bool false))] (Exists.intro [] (Exists.intro [] (And.intro (.cons (.tmp 6 rfl) .nil) (And.intro (.cons (.any _) (.cons (.any _) (.cons (.any _) .nil))) (And.intro (Exp.of (congrArg D.bool (by first | rfl | (simp_all; done) | (exfalso; omega) | (exfalso; simp_all; omega))) (.d _)) (And.intro rfl rfl))))))
                      · replace h11 := notf h11
                        replace h11 := of_decide_eq_true h11
                        refine T_skip ?_
                        refine T_seq ?_
                        refine T_region hc ?_
                        refine Ch.step (v := (.d (.int .i64 n))) rfl (.pure (.move _ rfl rfl)) rfl rfl ?_
                        refine Ch.step (v := (.d (.slice false 1 (on.map D.str)))) rfl (.pure (.move _ rfl rfl)) rfl rfl ?_
                        refine Ch.step (v := (.row 101000)) rfl (.call 101000 19 _ _ _ en19 rfl (.inl rfl) (.cons (.d _) .nil) rfl (sol (solid_row (fun _ => rfl) _) rfl) (sp_laws_toStringS on (by first | omega | assumption | (exact hx _ (getD_mem (by omega))) | (exact hx _ (by assumption)) | (exact Nat.le_trans (hx _ (by assumption)) (by omega)) | (simp only [List.length_append, List.length_take, List.length_drop, List.length_cons, List.length_nil]; omega) | (simp_all; done))) (.skip _ _ .nil) rfl) rfl rfl ?_
                        refine Ch.step (v := (.d (.slice false 1 (off.map D.str)))) rfl (.pure (.move _ rfl rfl)) rfl rfl ?_
                        refine Ch.step (v := (.row 103000)) rfl (.call 103000 19 _ _ _ en19 rfl (.inl rfl) (.cons (.d _) .nil) rfl (sol (solid_row (fun _ => rfl) _) rfl) (sp_laws_toStringS off (by first | omega | assumption | (exact hx _ (getD_mem (by omega))) | (exact hx _ (by assumption)) | (exact Nat.le_trans (hx _ (by assumption)) (by omega)) | (simp only [List.length_append, List.length_take, List.length_drop, List.length_cons, List.length_nil]; omega) | (simp_all; done))) (.skip _ _ .nil) rfl) rfl rfl ?_
                        refine Ch.step (v := (.tup [(.row 104000), (.d (.bool (primOk n on off)))])) rfl (.call 104000 48 _ _ _ en48 rfl (.inl rfl) (.cons (.d _) (.cons (.lend (.row rfl (frozs_map (fun _ => rfl) _))) (.cons (.lend (.row rfl (frozs_map (fun _ => rfl) _))) .nil))) rfl (sol (by rw [D.solid]; exact solids_c (solid_row (fun _ => rfl) _) rfl) rfl) (sp_impl_Primes n on off (by first | omega | assumption | (exact hx _ (getD_mem (by omega))) | (exact hx _ (by assumption)) | (exact Nat.le_trans (hx _ (by assumption)) (by omega)) | (simp only [List.length_append, List.length_take, List.length_drop, List.length_cons, List.length_nil]; omega) | (simp_all; done)) (by first | omega | assumption | (exact hx _ (getD_mem (by omega))) | (exact hx _ (by assumption)) | (exact Nat.le_trans (hx _ (by assumption)) (by omega)) | (simp only [List.length_append, List.length_take, List.length_drop, List.length_cons, List.length_nil]; omega) | (simp_all; done)) (by first | omega | assumption | (exact hx _ (getD_mem (by omega))) | (exact hx _ (by assumption)) | (exact Nat.le_trans (hx _ (by assumption)) (by omega)) | (simp only [List.length_append, List.length_take, List.length_drop, List.length_cons, List.length_nil]; omega) | (simp_all; done)) (by first | omega | assumption | (exact hx _ (getD_mem (by omega))) | (exact hx _ (by assumption)) | (exact Nat.le_trans (hx _ (by assumption)) (by omega)) | (simp only [List.length_append, List.length_take, List.length_drop, List.length_cons, List.length_nil]; omega) | (simp_all; done))) (.skip _ _ (.skip _ _ (.skip _ _ .nil))) rfl) rfl rfl ?_
                        refine Ch.step (v := (.tup [(.row 104000), (.d (.bool (primOk n on off)))])) rfl (.pure (.move _ rfl rfl)) rfl rfl ?_
                        refine Ch.step (v := (.row 104000)) rfl (.pure (.extract _ rfl rfl rfl)) rfl rfl ?_
                        refine Ch.step (v := (.d (.bool (primOk n on off)))) rfl (.pure (.extract _ rfl rfl rfl)) rfl rfl ?_
                        refine Ch.step (v := (.row 104000)) rfl (.pure (.assign _ rfl rfl)) rfl rfl ?_
                        refine Ch.step (v := (.d (.bool (primOk n on off)))) rfl (.pure (.assign _ rfl rfl)) rfl rfl ?_
                        refine Ch.nil ?_
                        refine T_seq ?_
                        refine T_seq ?_
                        refine T_region hc ?_
                        refine Ch.step (v := (.row 104000)) rfl (.pure (.move _ rfl rfl)) rfl rfl ?_
                        refine Ch.step (v := (.row 35000)) rfl (.pure (.move _ rfl rfl)) rfl rfl ?_
                        refine Ch.step (v := (.d (.bool (decide ((primR n on off) = (primR n on off)))))) rfl (.call 109000 21 _ _ _ en21 rfl (.inl rfl) (.cons (.lend (.row rfl (frozs_map (fun _ => rfl) _))) (.cons (.lend (.row rfl (frozs_map (fun _ => rfl) _))) .nil)) rfl rfl (sp_laws_eqStringS (primR n on off) (primR n on off) (by first | omega | assumption | (exact hx _ (getD_mem (by omega))) | (exact hx _ (by assumption)) | (exact Nat.le_trans (hx _ (by assumption)) (by omega)) | (simp only [List.length_append, List.length_take, List.length_drop, List.length_cons, List.length_nil]; omega) | (simp_all; done))) (.skip _ _ (.skip _ _ .nil)) rfl) rfl rfl ?_
                        refine Ch.step (v := (.d (.bool (!(decide ((primR n on off) = (primR n on off))))))) rfl (.pure (.not _ _ rfl rfl)) rfl rfl ?_
                        refine Ch.step (v := (.d (.bool (!(decide ((primR n on off) = (primR n on off))))))) rfl (.pure (.move _ rfl rfl)) rfl rfl ?_
                        cases h12 : (decide ((primR n on off) = (primR n on off))) with
                        | true =>
                          replace h12 := of_decide_eq_true h12
                          refine Ch.step (v := (.d (.bool (primOk n on off)))) rfl (.pure (.move _ rfl rfl)) rfl rfl ?_
                          refine Ch.step (v := (.d (.bool (primOk n on off)))) rfl (.pure (.move _ rfl rfl)) rfl rfl ?_
                          refine Ch.step (v := (.d (.bool (!(decide ((primOk n on off) = (primOk n on off))))))) rfl (.pure (.neB _ _ _ _ rfl Try.underlying4 rfl rfl)) rfl rfl ?_
                          refine Ch.step (v := (.d (.bool (!(decide ((primOk n on off) = (primOk n on off))))))) rfl (.pure (.pickF _ _ _ rfl rfl rfl)) rfl rfl ?_
                          refine Ch.nil ?_
                          refine T_cond (b := (!(decide ((primOk n on off) = (primOk n on off))))) rfl (fun h13 => ?_) (fun h13 => ?_)
                          · replace h13 := nott h13
                            replace h13 := of_decide_eq_false h13
                            refine T_seq ?_
                            refine T_region hc ?_
                            refine Ch.step (v := (.d (.bool false))) rfl (.pure (.assign _ rfl rfl)) rfl rfl ?_
                            refine Ch.nil ?_
                            refine T_ret ?_
                            refine And.intro (.inr rfl) ?_
                            exact Exists.intro [(.d (.bool false))] (Exists.intro [] (Exists.intro [] (And.intro (.cons (.tmp 6 rfl) .nil) (And.intro (.cons (.any _) (.cons (.any _) (.cons (.any _) .nil))) (And.intro (Exp.of (congrArg D.bool (by first | rfl | (simp_all; done) | (exfalso; omega) | (exfalso; simp_all; omega))) (.d _)) (And.intro rfl rfl))))))
                          · replace h13 := notf h13
                            replace h13 := of_decide_eq_true h13
                            refine T_skip ?_
                            refine T_seq ?_
                            refine T_region hc ?_
                            refine Ch.step (v := (.d (.int .i64 1))) rfl (.pure (.assign _ rfl rfl)) rfl rfl ?_
                            refine Ch.nil ?_
                            refine T_seq ?_
                            refine T_region hc ?_
                            refine Ch.step (v := (.row 46000)) rfl (.pure (.move _ rfl rfl)) rfl rfl ?_
                            refine Ch.step (v := (.d (.int .i64 1))) rfl (.pure (.move _ rfl rfl)) rfl rfl ?_
                            refine Ch.step (v := (.d (.int .i64 (heldR (marks 1 (primR n on off).length) 1)))) rfl (.call 118000 27 _ _ _ en27 rfl (.inl rfl) (.cons (.lend (.row rfl (frozs_map (fun _ => rfl) _))) (.cons (.d _) .nil)) rfl rfl (sp_laws_heldStringS (marks 1 (primR n on off).length) 1 (by first | omega | assumption | (exact hx _ (getD_mem (by omega))) | (exact hx _ (by assumption)) | (exact Nat.le_trans (hx _ (by assumption)) (by omega)) | (simp only [List.length_append, List.length_take, List.length_drop, List.length_cons, List.length_nil]; omega) | (simp_all; done)) (by first | omega | assumption | (exact hx _ (getD_mem (by omega))) | (exact hx _ (by assumption)) | (exact Nat.le_trans (hx _ (by assumption)) (by omega)) | (simp only [List.length_append, List.length_take, List.length_drop, List.length_cons, List.length_nil]; omega) | (simp_all; done))) (.skip _ _ (.skip _ _ .nil)) rfl) rfl rfl ?_
                            refine Ch.step (v := (.d (.int .i64 (heldR (marks 1 (primR n on off).length) 1)))) rfl (.pure (.assign _ rfl rfl)) rfl rfl ?_
                            refine Ch.nil ?_
                            refine T_seq ?_
                            refine T_seq ?_
                            refine T_region hc ?_
                            refine Ch.step (v := (.d (.int .i64 (heldR (marks 1 (primR n on off).length) 1)))) rfl (.pure (.move _ rfl rfl)) rfl rfl ?_
                            refine Ch.step (v := (.d (.bool (decide ((heldR (marks 1 (primR n on off).length) 1) < 0))))) rfl (.pure (.int _ _ _ _ _ rfl rfl rfl rfl)) rfl rfl ?_
                            refine Ch.nil ?_
                            refine T_cond (b := (decide ((heldR (marks 1 (primR n on off).length) 1) < 0))) rfl (fun h14 => ?_) (fun h14 => ?_)
                            · replace h14 := of_decide_eq_true h14
                              refine T_seq ?_
                              refine T_region hc ?_
                              refine Ch.step (v := (.d (.bool false))) rfl (.pure (.assign _ rfl rfl)) rfl rfl ?_
                              refine Ch.nil ?_
                              refine T_ret ?_
                              refine And.intro (.inr rfl) ?_
                              exact Exists.intro [(.d (.bool false))] (Exists.intro [] (Exists.intro [] (And.intro (.cons (.tmp 6 rfl) .nil) (And.intro (.cons (.any _) (.cons (.any _) (.cons (.any _) .nil))) (And.intro (Exp.of (congrArg D.bool (by first | rfl | (simp_all; done) | (exfalso; omega) | (exfalso; simp_all; omega))) (.d _)) (And.intro rfl rfl))))))
                            · replace h14 := of_decide_eq_false h14
                              refine T_skip ?_
                              refine T_seq ?_
                              refine T_seq ?_
                              refine T_region hc ?_
                              refine Ch.step (v := (.d (.int .i64 (heldR (marks 1 (primR n on off).length) 1)))) rfl (.pure (.move _ rfl rfl)) rfl rfl ?_
                              refine Ch.step (v := (.d (.int .i64 ((1 + (primR n on off).length : Nat) : Int)))) rfl (.pure (.move _ rfl rfl)) rfl rfl ?_
                              refine Ch.step (v := (.d (.bool (!(decide ((heldR (marks 1 (primR n on off).length) 1) = ((1 + (primR n on off).length : Nat) : Int))))))) rfl (.pure (.int _ _ _ _ _ rfl rfl rfl rfl)) rfl rfl ?_
                              refine Ch.nil ?_
                              refine T_cond (b := (!(decide ((heldR (marks 1 (primR n on off).length) 1) = ((1 + (primR n on off).length : Nat) : Int))))) rfl (fun h15 => ?_) (fun h15 => ?_)
                              · replace h15 := nott h15
                                replace h15 := of_decide_eq_false h15
                                refine T_seq ?_
                                refine T_region hc ?_
                                refine Ch.step (v := (.d (.bool false))) rfl (.pure (.assign _ rfl rfl)) rfl rfl ?_
                                refine Ch.nil ?_
                                refine T_ret ?_
                                refine And.intro (.inr rfl) ?_
                                exact Exists.intro [(.d (.bool false))] (Exists.intro [] (Exists.intro [] (And.intro (.cons (.tmp 6 rfl) .nil) (And.intro (.cons (.any _) (.cons (.any _) (.cons (.any _) .nil))) (And.intro (Exp.of (congrArg D.bool (by first | rfl | (simp_all; done) | (exfalso; omega) | (exfalso; simp_all; omega))) (.d _)) (And.intro rfl rfl))))))
                              · replace h15 := notf h15
                                replace h15 := of_decide_eq_true h15
                                refine T_skip ?_
                                refine T_seq ?_
                                refine T_region hc ?_
                                refine Ch.step (v := (.d (.bool true))) rfl (.pure (.assign _ rfl rfl)) rfl rfl ?_
                                refine Ch.nil ?_
                                refine T_ret ?_
                                refine And.intro (.inr rfl) ?_
                                exact Exists.intro [(.d (.bool true))] (Exists.intro [] (Exists.intro [] (And.intro (.cons (.tmp 6 rfl) .nil) (And.intro (.cons (.any _) (.cons (.any _) (.cons (.any _) .nil))) (And.intro (.d _) (And.intro rfl rfl))))))
                        | false =>
                          replace h12 := of_decide_eq_false h12
                          refine Ch.skip rfl rfl ?_
                          refine Ch.skip rfl rfl ?_
                          refine Ch.skip rfl rfl ?_
                          refine Ch.step (v := (.d (.bool true))) rfl (.pure (.pickT _ _ _ rfl rfl rfl)) rfl rfl ?_
                          refine Ch.nil ?_
                          refine T_cond (b := true) rfl (fun _ => ?_) (fun h => nomatch h)
                          refine T_seq ?_
                          refine T_region hc ?_
                          refine Ch.step (v := (.d (.bool false))) rfl (.pure (.assign _ rfl rfl)) rfl rfl ?_
                          refine Ch.nil ?_
                          refine T_ret ?_
                          refine And.intro (.inr rfl) ?_
                          exact Exists.intro [(.d (.bool false))] (Exists.intro [] (Exists.intro [] (And.intro (.cons (.tmp 6 rfl) .nil) (And.intro (.cons (.any _) (.cons (.any _) (.cons (.any _) .nil))) (And.intro (Exp.of (congrArg D.bool (by first | rfl | (simp_all; done) | (exfalso; omega) | (exfalso; simp_all; omega))) (.d _)) (And.intro rfl rfl))))))
                | false =>
                  replace h8 := of_decide_eq_false h8
                  refine Ch.skip rfl rfl ?_
                  refine Ch.skip rfl rfl ?_
                  refine Ch.skip rfl rfl ?_
                  refine Ch.step (v := (.d (.bool true))) rfl (.pure (.pickT _ _ _ rfl rfl rfl)) rfl rfl ?_
                  refine Ch.nil ?_
                  refine T_cond (b := true) rfl (fun _ => ?_) (fun h => nomatch h)
                  refine T_seq ?_
                  refine T_region hc ?_
                  refine Ch.step (v := (.d (.bool false))) rfl (.pure (.assign _ rfl rfl)) rfl rfl ?_
                  refine Ch.nil ?_
                  refine T_ret ?_
                  refine And.intro (.inr rfl) ?_
                  exact Exists.intro [(.d (.bool false))] (Exists.intro [] (Exists.intro [] (And.intro (.cons (.tmp 6 rfl) .nil) (And.intro (.cons (.any _) (.cons (.any _) (.cons (.any _) .nil))) (And.intro (Exp.of (congrArg D.bool (by first | rfl | (simp_all; done) | (exfalso; omega) | (exfalso; simp_all; omega))) (.d _)) (And.intro rfl rfl))))))
      | false =>
        replace h3 := of_decide_eq_false h3
        refine Ch.skip rfl rfl ?_
        refine Ch.skip rfl rfl ?_
        refine Ch.skip rfl rfl ?_
        refine Ch.step (v := (.d (.bool true))) rfl (.pure (.pickT _ _ _ rfl rfl rfl)) rfl rfl ?_
        refine Ch.nil ?_
        refine T_cond (b := true) rfl (fun _ => ?_) (fun h => nomatch h)
        refine T_seq ?_
        refine T_region hc ?_
        refine Ch.step (v := (.d (.bool false))) rfl (.pure (.assign _ rfl rfl)) rfl rfl ?_
        refine Ch.nil ?_
        refine T_ret ?_
        refine And.intro (.inr rfl) ?_
        exact Exists.intro [(.d (.bool false))] (Exists.intro [] (Exists.intro [] (And.intro (.cons (.tmp 6 rfl) .nil) (And.intro (.cons (.any _) (.cons (.any _) (.cons (.any _) .nil))) (And.intro (Exp.of (congrArg D.bool (by first | rfl | (simp_all; done) | (exfalso; omega) | (exfalso; simp_all; omega))) (.d _)) (And.intro rfl rfl))))))

end Go.AM
